/- The walk of isPossible, and of what (Bench).do makes of a Job that is possible. -/
import Derived.Test.YtfflbbgipbnckaaJob3
namespace Go.Proofs.Ytfflbbgipbnckaa
open Go.RowKit
set_option linter.unusedVariables false
set_option maxRecDepth 100000
theorem toJob_c (k a b : Int) (w : World) : Calls Try.prog 23 #[jobV k a b] w fun e w' => e = .returned (jobV k a b) ∧ Below w.heap.size w w' := by
  unfold jobV
  go_enter Try.func23, Try.ntmps23
  go_wp2
  exact bodyPost_ret (v := .agg #[.int .i64 k, .int .i64 a, .int .i64 b]) (by simp [results, Try.results23, go_sem]) rfl ⟨rfl, by (repeat (first | exact Below.refl _ _ | exact (Below.refl _ _).drew | assumption | exact below_one _ | refine Below.chain ?_ (by assumption) | refine Below.drew ?_ | refine Below.alc ?_ _ | refine below_drewN ?_ | (refine Below.setCell ?_ ?_ _) | exact Nat.le_refl _ | (simp; done) | (simp; omega)))⟩
/-- a bar of a cell -/
def barB (c v : Int) : Bool := c.toNat / 2 ^ v.toNat % 2 == 1
/-- what a Job asks of the cell's place and its own numbers, whatever the count -/
def makeK (b : List Int) (k : Int) (a : Nat) (v : Int) : Bool :=
  if k = 1 then digitB v else if k = 2 then (v == 0) else if k = 3 then (inB v 0 6 && !barB (bg b (6 + a)) v) else if k = 4 then (inB v 0 6 && !barB (bg b (12 + a)) v)
  else if k = 5 then ((v == 0) && !((bg b (6 + a) == 0) && (bg b (12 + a) == 0))) else if k = 6 ∨ k = 7 then ((a == 0) && (v == 0)) else false
def makeB (b : List Int) (k a v : Int) : Bool := inB a 0 5 && makeK b k a.toNat v
def possB (b : List Int) (k a v : Int) : Bool := !(bg b 18 == 1000) && makeB b k a v
/-- the Bench that a Job makes, but for the count -/
def madeB (b : List Int) (k : Int) (a : Nat) (v : Int) : List Int :=
  if k = 1 then b.set a (dg v) else if k = 2 then b.set a 0 else if k = 3 then (b.set (6 + a) (orC (bg b (6 + a)) (bitC v))).set (12 + a) (anC (bg b (12 + a)) (bitC v))
  else if k = 4 then (b.set (6 + a) (anC (bg b (6 + a)) (bitC v))).set (12 + a) (orC (bg b (12 + a)) (bitC v)) else if k = 5 then (b.set (6 + a) 0).set (12 + a) 0
  else if k = 6 then seenI true b 6 else if k = 7 then seenI false b 6 else b
def doB (b : List Int) (k a v : Int) : List Int := cntB (madeB b k a.toNat v)
theorem bar_i64 (d v : Nat) (hd : d < 128) : bits BinOp.and IntKind.i64 ((d : Int) / 2 ^ v) 1 = ((d / 2 ^ v % 2 : Nat) : Int) := by
  have h := Nat.div_le_self d (2 ^ v)
  have e : ((d : Int) / 2 ^ v) = ((d / 2 ^ v : Nat) : Int) := by simp
  rw [e, show (1 : Int) = ((1 : Nat) : Int) from rfl, i64_and_nat _ _ (by omega) (by omega), Nat.and_one_is_mod]
theorem bar_eq (d v : Nat) : ((d : Int) / 2 ^ v % 2 == 0) = (true && !barB (d : Int) (v : Int)) := by
  unfold barB
  have e : (d : Int) / 2 ^ v % 2 = ((d / 2 ^ v % 2 : Nat) : Int) := by simp
  rw [e, Int.toNat_natCast, Int.toNat_natCast]
  have : d / 2 ^ v % 2 = 0 ∨ d / 2 ^ v % 2 = 1 := by omega
  rcases this with h | h <;> rw [h] <;> rfl
theorem within_f {n lo hi : Int} (h : inB n lo hi = false) (w : World) : Calls Try.prog 76 #[.int .i64 n, .int .i64 lo, .int .i64 hi] w fun e w' => e = .returned (.bool false) ∧ w' = w := (within_c n lo hi w).mono fun e w1 hh => ⟨by rw [hh.1, h], hh.2.symm⟩
theorem within_t {n lo hi : Int} (h : inB n lo hi = true) (w : World) : Calls Try.prog 76 #[.int .i64 n, .int .i64 lo, .int .i64 hi] w fun e w' => e = .returned (.bool true) ∧ w' = w := (within_c n lo hi w).mono fun e w1 hh => ⟨by rw [hh.1, h], hh.2.symm⟩
set_option maxHeartbeats 1000000 in
theorem isPossible_c (b : List Int) (k a v : Int) (w : World) (hb : b.length = 19) (hg : goodB b = true) :
    Calls Try.prog 51 #[aggI b, jobV k a v] w fun e w' => e = .returned (.bool (possB b k a v)) ∧ Below w.heap.size w w' := by
  have r0 := World.rangeAt_alloc (range_new w (ints b) 41) (.cells #[.int .i64 k, .int .i64 a, .int .i64 v] 45)
  have g18 := cell18 r0 (j := 18) (by omega)
  have hb0 : Below w.heap.size w ((w.alloc (.cells (ints b).toArray 41)).alloc (.cells #[.int .i64 k, .int .i64 a, .int .i64 v] 45)) := by (repeat (first | exact Below.refl _ _ | exact (Below.refl _ _).drew | assumption | exact below_one _ | refine Below.chain ?_ (by assumption) | refine Below.drew ?_ | refine Below.alc ?_ _ | refine below_drewN ?_ | (refine Below.setCell ?_ ?_ _) | exact Nat.le_refl _ | (simp; done) | (simp; omega)))
  rcases h18 : (bg b 18 == 1000) with _ | _
  · rcases ha : inB a 0 5 with _ | _
    · have HF := Lib.hid (show possB b k a v = false by unfold possB makeB; rw [ha]; simp)
      have HA := Lib.hid ha; clear ha
      unfold aggI jobV
      go_enter Try.func51, Try.ntmps51
      go_wp2_with fail
      refine (within_c _ _ _ _).mono ?_
      rintro e w1 ⟨rfl, rfl⟩
      rw [HA.out]
      go_wp2
      go_ret
      exact ⟨by rw [HF.out]; rfl, hb0⟩
    · have h2 := inB_true ha
      obtain ⟨an, rfl⟩ := Int.eq_ofNat_of_zero_le h2.1
      have han : an < 6 := by omega
      have bd := goodB_at hg han
      unfold bF at bd
      simp only at bd
      obtain ⟨⟨d0, d1, d2, d3⟩, d4, d5⟩ := bd
      have HP : Hid (possB b k (an : Int) v = makeK b k an v) := by
        show _ = _
        unfold possB makeB; rw [h18, ha]; rfl
      have HA := Lib.hid ha; clear ha h2
      have n0 : (0 : Int) ≤ (an : Int) := by omega
      have n1 : (an : Int) < 6 := by omega
      have g6 := cell18 r0 (j := 6 + an) (by omega)
      have g12 := cell18 r0 (j := 12 + an) (by omega)
      unfold aggI jobV
      by_cases k1 : k = 1
      · subst k1
        have HF := Lib.hid (show possB b 1 (an : Int) v = digitB v by rw [HP.out]; rfl)
        clear HP g6 g12
        go_enter Try.func51, Try.ntmps51
        go_wp2_with fail
        refine (within_c _ _ _ _).mono ?_
        rintro e w1 ⟨rfl, rfl⟩
        rw [HA.out]
        go_wp2_with fail
        refine (isDigit_c _ _).mono ?_
        rintro e w1 ⟨rfl, rfl⟩
        go_wp2
        go_ret
        exact ⟨by rw [HF.out]; rfl, hb0⟩
      by_cases k2 : k = 2
      · subst k2
        have HF := Lib.hid (show possB b 2 (an : Int) v = (v == 0) by rw [HP.out]; rfl)
        clear HP g6 g12
        go_enter Try.func51, Try.ntmps51
        go_wp2_with fail
        refine (within_c _ _ _ _).mono ?_
        rintro e w1 ⟨rfl, rfl⟩
        rw [HA.out]
        go_wp2
        go_ret
        exact ⟨by rw [HF.out]; rfl, hb0⟩
      by_cases k3 : k = 3
      · subst k3
        have HF := Lib.hid (show possB b 3 (an : Int) v = (inB v 0 6 && !barB (bg b (6 + an)) v) by rw [HP.out]; rfl)
        clear HP
        rcases hv : inB v 0 6 with _ | _
        · have HF2 := Lib.hid (show possB b 3 (an : Int) v = false by rw [HF.out, hv]; rfl)
          have HV := Lib.hid hv; clear hv HF
          go_enter Try.func51, Try.ntmps51
          go_wp2_with fail
          refine (within_c _ _ _ _).mono ?_
          rintro e w1 ⟨rfl, rfl⟩
          rw [HA.out]
          go_wp2
          go_quiet ((go_at_call 76; exact Calls.quiet_of_same (within_f HV.out _)))
          go_wp2
          go_ret
          exact ⟨by rw [HF2.out]; rfl, below_drewN hb0⟩
        · have h2 := inB_true hv
          obtain ⟨vn, rfl⟩ := Int.eq_ofNat_of_zero_le h2.1
          generalize hD : bg b (6 + an) = D at *
          obtain ⟨dn, rfl⟩ := Int.eq_ofNat_of_zero_le (show 0 ≤ D by omega)
          have hbit := bar_i64 dn vn (by omega)
          have HV := Lib.hid hv; clear hv hD
          go_enter Try.func51, Try.ntmps51
          go_wp2_with fail
          refine (within_c _ _ _ _).mono ?_
          rintro e w1 ⟨rfl, rfl⟩
          rw [HA.out]
          go_wp2
          go_quiet ((go_at_call 76; exact Calls.quiet_of_same (within_t HV.out _)))
          go_wp2
          go_ret
          exact ⟨bool_ret (by rw [HF.out, HV.out]; exact bar_eq dn vn), below_drewN hb0⟩
      by_cases k4 : k = 4
      · subst k4
        have HF := Lib.hid (show possB b 4 (an : Int) v = (inB v 0 6 && !barB (bg b (12 + an)) v) by rw [HP.out]; rfl)
        clear HP
        rcases hv : inB v 0 6 with _ | _
        · have HF2 := Lib.hid (show possB b 4 (an : Int) v = false by rw [HF.out, hv]; rfl)
          have HV := Lib.hid hv; clear hv HF
          go_enter Try.func51, Try.ntmps51
          go_wp2_with fail
          refine (within_c _ _ _ _).mono ?_
          rintro e w1 ⟨rfl, rfl⟩
          rw [HA.out]
          go_wp2
          go_quiet ((go_at_call 76; exact Calls.quiet_of_same (within_f HV.out _)))
          go_wp2
          go_ret
          exact ⟨by rw [HF2.out]; rfl, below_drewN hb0⟩
        · have h2 := inB_true hv
          obtain ⟨vn, rfl⟩ := Int.eq_ofNat_of_zero_le h2.1
          generalize hD : bg b (12 + an) = D at *
          obtain ⟨dn, rfl⟩ := Int.eq_ofNat_of_zero_le (show 0 ≤ D by omega)
          have hbit := bar_i64 dn vn (by omega)
          have HV := Lib.hid hv; clear hv hD
          go_enter Try.func51, Try.ntmps51
          go_wp2_with fail
          refine (within_c _ _ _ _).mono ?_
          rintro e w1 ⟨rfl, rfl⟩
          rw [HA.out]
          go_wp2
          go_quiet ((go_at_call 76; exact Calls.quiet_of_same (within_t HV.out _)))
          go_wp2
          go_ret
          exact ⟨bool_ret (by rw [HF.out, HV.out]; exact bar_eq dn vn), below_drewN hb0⟩
      by_cases k5 : k = 5
      · subst k5
        have HF := Lib.hid (show possB b 5 (an : Int) v = ((v == 0) && !((bg b (6 + an) == 0) && (bg b (12 + an) == 0))) by rw [HP.out]; rfl)
        clear HP g6 g12
        rcases hv : (v == 0) with _ | _
        · have HF2 := Lib.hid (show possB b 5 (an : Int) v = false by rw [HF.out, hv]; rfl)
          clear HF
          go_enter Try.func51, Try.ntmps51
          go_wp2_with fail
          refine (within_c _ _ _ _).mono ?_
          rintro e w1 ⟨rfl, rfl⟩
          rw [HA.out]
          go_wp2
          go_ret
          exact ⟨by rw [HF2.out]; rfl, hb0⟩
        · obtain rfl : v = 0 := by simpa using hv
          go_enter Try.func51, Try.ntmps51
          go_wp2_with fail
          refine (within_c _ _ _ _).mono ?_
          rintro e w1 ⟨rfl, rfl⟩
          rw [HA.out]
          go_wp2_with (refine wpList_loadB rfl _ rfl _ rfl b r0 hb ?_)
          refine (bfault_c b an _ hb han).mono ?_
          rintro e w2 ⟨rfl, hb2⟩
          have hb3 := Below.chain hb0 hb2
          unfold bF
          go_wp2
          all_goals
            go_ret
            exact ⟨by rw [HF.out]; simp [*], hb3⟩
      by_cases k6 : k = 6
      · subst k6
        have HF := Lib.hid (show possB b 6 (an : Int) v = ((an == 0) && (v == 0)) by rw [HP.out]; rfl)
        clear HP g6 g12
        go_enter Try.func51, Try.ntmps51
        go_wp2_with fail
        refine (within_c _ _ _ _).mono ?_
        rintro e w1 ⟨rfl, rfl⟩
        rw [HA.out]
        go_wp2
        all_goals
          go_ret
          exact ⟨bool_ret (by rw [HF.out]; first | (simp [*]; done) | (have := ‹¬ _›; simp; omega)), by (repeat (first | exact Below.refl _ _ | exact (Below.refl _ _).drew | assumption | exact below_one _ | refine Below.chain ?_ (by assumption) | refine Below.drew ?_ | refine Below.alc ?_ _ | refine below_drewN ?_ | (refine Below.setCell ?_ ?_ _) | exact Nat.le_refl _ | (simp; done) | (simp; omega)))⟩
      by_cases k7 : k = 7
      · subst k7
        have HF := Lib.hid (show possB b 7 (an : Int) v = ((an == 0) && (v == 0)) by rw [HP.out]; rfl)
        clear HP g6 g12
        go_enter Try.func51, Try.ntmps51
        go_wp2_with fail
        refine (within_c _ _ _ _).mono ?_
        rintro e w1 ⟨rfl, rfl⟩
        rw [HA.out]
        go_wp2
        all_goals
          go_ret
          exact ⟨bool_ret (by rw [HF.out]; first | (simp [*]; done) | (have := ‹¬ _›; simp; omega)), by (repeat (first | exact Below.refl _ _ | exact (Below.refl _ _).drew | assumption | exact below_one _ | refine Below.chain ?_ (by assumption) | refine Below.drew ?_ | refine Below.alc ?_ _ | refine below_drewN ?_ | (refine Below.setCell ?_ ?_ _) | exact Nat.le_refl _ | (simp; done) | (simp; omega)))⟩
      have HF := Lib.hid (show possB b k (an : Int) v = false by rw [HP.out]; unfold makeK; simp [k1, k2, k3, k4, k5, k6, k7])
      clear HP g6 g12
      go_enter Try.func51, Try.ntmps51
      go_wp2_with fail
      refine (within_c _ _ _ _).mono ?_
      rintro e w1 ⟨rfl, rfl⟩
      rw [HA.out]
      go_wp2
      go_ret
      exact ⟨by rw [HF.out]; rfl, hb0⟩
  · have HF := Lib.hid (show possB b k a v = false by unfold possB; rw [h18]; rfl)
    unfold aggI jobV
    go_enter Try.func51, Try.ntmps51
    go_wp2
    go_ret
    exact ⟨by rw [HF.out]; rfl, hb0⟩
theorem do_c (b : List Int) (k a v : Int) (w : World) (hb : b.length = 19) (hg : goodB b = true) (hp : makeB b k a v = true) :
    Calls Try.prog 52 #[aggI b, jobV k a v] w fun e w' => e = .returned (aggI (doB b k a v)) ∧ Below w.heap.size w w' := by
  unfold makeB at hp
  simp only [Bool.and_eq_true] at hp
  have h2 := inB_true hp.1
  obtain ⟨an, rfl⟩ := Int.eq_ofNat_of_zero_le h2.1
  have han : an < 6 := by omega
  have hk := hp.2
  rw [Int.toNat_natCast] at hk
  unfold makeK at hk
  unfold doB madeB
  rw [Int.toNat_natCast]
  split at hk
  · subst_vars
    have h3 := digitB_true hk
    obtain ⟨vn, rfl⟩ := Int.eq_ofNat_of_zero_le h3.1
    exact do_k1 b an vn w hb hg han (by omega)
  split at hk
  · subst_vars
    obtain rfl : v = 0 := by simpa using hk
    exact do_k2 b an w hb hg han
  split at hk
  · subst_vars
    simp only [Bool.and_eq_true] at hk
    have h3 := inB_true hk.1
    obtain ⟨vn, rfl⟩ := Int.eq_ofNat_of_zero_le h3.1
    exact do_k3 b an vn w hb hg han (by omega)
  split at hk
  · subst_vars
    simp only [Bool.and_eq_true] at hk
    have h3 := inB_true hk.1
    obtain ⟨vn, rfl⟩ := Int.eq_ofNat_of_zero_le h3.1
    exact do_k4 b an vn w hb hg han (by omega)
  split at hk
  · subst_vars
    simp only [Bool.and_eq_true] at hk
    obtain rfl : v = 0 := by simpa using hk.1
    exact do_k5 b an w hb hg han
  split at hk
  · rename_i h67
    simp only [Bool.and_eq_true] at hk
    obtain rfl : v = 0 := by simpa using hk.2
    obtain rfl : an = 0 := by simpa using hk.1
    rcases h67 with rfl | rfl
    · exact do_k6 b w hb hg
    · exact do_k7 b w hb hg
  · cases hk
end Go.Proofs.Ytfflbbgipbnckaa
