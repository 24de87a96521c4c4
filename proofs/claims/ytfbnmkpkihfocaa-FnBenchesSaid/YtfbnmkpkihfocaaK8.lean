/- Texts of this claim, gathered: Job4, Job5. -/
import Derived.Test.YtfbnmkpkihfocaaK7
namespace Go.Proofs.Ytfbnmkpkihfocaa
open Go.RowKit
set_option linter.unusedVariables false
set_option maxRecDepth 100000
/-- a bar of a cell -/
def barB (c v : Int) : Bool := c.toNat / 2 ^ v.toNat % 2 == 1
/-- what a Job asks of the cell's place and its own numbers, whatever the count -/
def makeK (b : List Int) (k : Int) (a : Nat) (v : Int) : Bool :=
  if k = 1 then digitB v else if k = 2 then (v == 0) else if k = 3 then (inB v 0 6 && !barB (bg b (6 + a)) v) else if k = 4 then (inB v 0 6 && !barB (bg b (12 + a)) v)
  else if k = 5 then ((v == 0) && !((bg b (6 + a) == 0) && (bg b (12 + a) == 0))) else if k = 6 ∨ k = 7 then ((a == 0) && (v == 0)) else false
def makeB (b : List Int) (k a v : Int) : Bool := inB a 0 5 && makeK b k a.toNat v
def possB (b : List Int) (k a v : Int) : Bool := !(bg b 18 == 1000) && makeB b k a v
/-- the Bench that a Job makes, but for the count -/
def madeB (b : List Int) (k : Int) (a : Nat) (v : Int) : List Int :=
  if k = 1 then b.set a (dg v) else if k = 2 then b.set a 0 else if k = 3 then (b.set (6 + a) (orC (bg b (6 + a)) (bitC v))).set (12 + a) (anC (bg b (12 + a)) (bitC v))
  else if k = 4 then (b.set (6 + a) (anC (bg b (6 + a)) (bitC v))).set (12 + a) (orC (bg b (12 + a)) (bitC v)) else if k = 5 then (b.set (6 + a) 0).set (12 + a) 0
  else if k = 6 then seenI true b 6 else if k = 7 then seenI false b 6 else b
def doB (b : List Int) (k a v : Int) : List Int := cntB (madeB b k a.toNat v)
theorem bar_i64 (d v : Nat) (hd : d < 128) : bits BinOp.and IntKind.i64 ((d : Int) / 2 ^ v) 1 = ((d / 2 ^ v % 2 : Nat) : Int) := by
  have h := Nat.div_le_self d (2 ^ v)
  have e : ((d : Int) / 2 ^ v) = ((d / 2 ^ v : Nat) : Int) := by simp
  rw [e, show (1 : Int) = ((1 : Nat) : Int) from rfl, i64_and_nat _ _ (by omega) (by omega), Nat.and_one_is_mod]
theorem bar_eq (d v : Nat) : ((d : Int) / 2 ^ v % 2 == 0) = (true && !barB (d : Int) (v : Int)) := by
  unfold barB
  have e : (d : Int) / 2 ^ v % 2 = ((d / 2 ^ v % 2 : Nat) : Int) := by simp
  rw [e, Int.toNat_natCast, Int.toNat_natCast]
  have : d / 2 ^ v % 2 = 0 ∨ d / 2 ^ v % 2 = 1 := by omega
  rcases this with h | h <;> rw [h] <;> rfl
theorem within_f {n lo hi : Int} (h : inB n lo hi = false) (w : World) : Calls Try.prog 63 #[.int .i64 n, .int .i64 lo, .int .i64 hi] w fun e w' => e = .returned (.bool false) ∧ w' = w := (within_c n lo hi w).mono fun e w1 hh => ⟨by rw [hh.1, h], hh.2.symm⟩
theorem within_t {n lo hi : Int} (h : inB n lo hi = true) (w : World) : Calls Try.prog 63 #[.int .i64 n, .int .i64 lo, .int .i64 hi] w fun e w' => e = .returned (.bool true) ∧ w' = w := (within_c n lo hi w).mono fun e w1 hh => ⟨by rw [hh.1, h], hh.2.symm⟩
set_option maxHeartbeats 1000000 in
theorem isPossible_c (b : List Int) (k a v : Int) (w : World) (hb : b.length = 19) (hg : goodB b = true) :
    Calls Try.prog 76 #[aggI b, jobV k a v] w fun e w' => e = .returned (.bool (possB b k a v)) ∧ Below w.heap.size w w' := by
  have r0 := World.rangeAt_alloc (range_new w (ints b) 50) (.cells #[.int .i64 k, .int .i64 a, .int .i64 v] 54)
  have g18 := cell18 r0 (j := 18) (by omega)
  have hb0 : Below w.heap.size w ((w.alloc (.cells (ints b).toArray 50)).alloc (.cells #[.int .i64 k, .int .i64 a, .int .i64 v] 54)) := by (repeat (first | exact Below.refl _ _ | exact (Below.refl _ _).drew | assumption | exact below_one _ | refine Below.chain ?_ (by assumption) | refine Below.drew ?_ | refine Below.alc ?_ _ | refine below_drewN ?_ | (refine Below.setCell ?_ ?_ _) | exact Nat.le_refl _ | (simp; done) | (simp; omega)))
  rcases h18 : (bg b 18 == 1000) with _ | _
  · rcases ha : inB a 0 5 with _ | _
    · have HF := Lib.hid (show possB b k a v = false by unfold possB makeB; rw [ha]; simp)
      have HA := Lib.hid ha; clear ha
      unfold aggI jobV
      go_enter Try.func76, Try.ntmps76
      go_wp2_with fail
      refine (within_c _ _ _ _).mono ?_
      rintro e w1 ⟨rfl, rfl⟩
      rw [HA.out]
      go_wp2
      go_ret
      exact ⟨by rw [HF.out]; rfl, hb0⟩
    · have h2 := inB_true ha
      obtain ⟨an, rfl⟩ := Int.eq_ofNat_of_zero_le h2.1
      have han : an < 6 := by omega
      have bd := goodB_at hg han
      unfold bF at bd
      simp only at bd
      obtain ⟨⟨d0, d1, d2, d3⟩, d4, d5⟩ := bd
      have HP : Hid (possB b k (an : Int) v = makeK b k an v) := by
        show _ = _
        unfold possB makeB; rw [h18, ha]; rfl
      have HA := Lib.hid ha; clear ha h2
      have n0 : (0 : Int) ≤ (an : Int) := by omega
      have n1 : (an : Int) < 6 := by omega
      have g6 := cell18 r0 (j := 6 + an) (by omega)
      have g12 := cell18 r0 (j := 12 + an) (by omega)
      unfold aggI jobV
      by_cases k1 : k = 1
      · subst k1
        have HF := Lib.hid (show possB b 1 (an : Int) v = digitB v by rw [HP.out]; rfl)
        clear HP g6 g12
        go_enter Try.func76, Try.ntmps76
        go_wp2_with fail
        refine (within_c _ _ _ _).mono ?_
        rintro e w1 ⟨rfl, rfl⟩
        rw [HA.out]
        go_wp2_with fail
        refine (isDigit_c _ _).mono ?_
        rintro e w1 ⟨rfl, rfl⟩
        go_wp2
        go_ret
        exact ⟨by rw [HF.out]; rfl, hb0⟩
      by_cases k2 : k = 2
      · subst k2
        have HF := Lib.hid (show possB b 2 (an : Int) v = (v == 0) by rw [HP.out]; rfl)
        clear HP g6 g12
        go_enter Try.func76, Try.ntmps76
        go_wp2_with fail
        refine (within_c _ _ _ _).mono ?_
        rintro e w1 ⟨rfl, rfl⟩
        rw [HA.out]
        go_wp2
        go_ret
        exact ⟨by rw [HF.out]; rfl, hb0⟩
      by_cases k3 : k = 3
      · subst k3
        have HF := Lib.hid (show possB b 3 (an : Int) v = (inB v 0 6 && !barB (bg b (6 + an)) v) by rw [HP.out]; rfl)
        clear HP
        rcases hv : inB v 0 6 with _ | _
        · have HF2 := Lib.hid (show possB b 3 (an : Int) v = false by rw [HF.out, hv]; rfl)
          have HV := Lib.hid hv; clear hv HF
          go_enter Try.func76, Try.ntmps76
          go_wp2_with fail
          refine (within_c _ _ _ _).mono ?_
          rintro e w1 ⟨rfl, rfl⟩
          rw [HA.out]
          go_wp2
          go_quiet ((go_at_call 63; exact Calls.quiet_of_same (within_f HV.out _)))
          go_wp2
          go_ret
          exact ⟨by rw [HF2.out]; rfl, below_drewN hb0⟩
        · have h2 := inB_true hv
          obtain ⟨vn, rfl⟩ := Int.eq_ofNat_of_zero_le h2.1
          generalize hD : bg b (6 + an) = D at *
          obtain ⟨dn, rfl⟩ := Int.eq_ofNat_of_zero_le (show 0 ≤ D by omega)
          have hbit := bar_i64 dn vn (by omega)
          have HV := Lib.hid hv; clear hv hD
          go_enter Try.func76, Try.ntmps76
          go_wp2_with fail
          refine (within_c _ _ _ _).mono ?_
          rintro e w1 ⟨rfl, rfl⟩
          rw [HA.out]
          go_wp2
          go_quiet ((go_at_call 63; exact Calls.quiet_of_same (within_t HV.out _)))
          go_wp2
          go_ret
          exact ⟨bool_ret (by rw [HF.out, HV.out]; exact bar_eq dn vn), below_drewN hb0⟩
      by_cases k4 : k = 4
      · subst k4
        have HF := Lib.hid (show possB b 4 (an : Int) v = (inB v 0 6 && !barB (bg b (12 + an)) v) by rw [HP.out]; rfl)
        clear HP
        rcases hv : inB v 0 6 with _ | _
        · have HF2 := Lib.hid (show possB b 4 (an : Int) v = false by rw [HF.out, hv]; rfl)
          have HV := Lib.hid hv; clear hv HF
          go_enter Try.func76, Try.ntmps76
          go_wp2_with fail
          refine (within_c _ _ _ _).mono ?_
          rintro e w1 ⟨rfl, rfl⟩
          rw [HA.out]
          go_wp2
          go_quiet ((go_at_call 63; exact Calls.quiet_of_same (within_f HV.out _)))
          go_wp2
          go_ret
          exact ⟨by rw [HF2.out]; rfl, below_drewN hb0⟩
        · have h2 := inB_true hv
          obtain ⟨vn, rfl⟩ := Int.eq_ofNat_of_zero_le h2.1
          generalize hD : bg b (12 + an) = D at *
          obtain ⟨dn, rfl⟩ := Int.eq_ofNat_of_zero_le (show 0 ≤ D by omega)
          have hbit := bar_i64 dn vn (by omega)
          have HV := Lib.hid hv; clear hv hD
          go_enter Try.func76, Try.ntmps76
          go_wp2_with fail
          refine (within_c _ _ _ _).mono ?_
          rintro e w1 ⟨rfl, rfl⟩
          rw [HA.out]
          go_wp2
          go_quiet ((go_at_call 63; exact Calls.quiet_of_same (within_t HV.out _)))
          go_wp2
          go_ret
          exact ⟨bool_ret (by rw [HF.out, HV.out]; exact bar_eq dn vn), below_drewN hb0⟩
      by_cases k5 : k = 5
      · subst k5
        have HF := Lib.hid (show possB b 5 (an : Int) v = ((v == 0) && !((bg b (6 + an) == 0) && (bg b (12 + an) == 0))) by rw [HP.out]; rfl)
        clear HP g6 g12
        rcases hv : (v == 0) with _ | _
        · have HF2 := Lib.hid (show possB b 5 (an : Int) v = false by rw [HF.out, hv]; rfl)
          clear HF
          go_enter Try.func76, Try.ntmps76
          go_wp2_with fail
          refine (within_c _ _ _ _).mono ?_
          rintro e w1 ⟨rfl, rfl⟩
          rw [HA.out]
          go_wp2
          go_ret
          exact ⟨by rw [HF2.out]; rfl, hb0⟩
        · obtain rfl : v = 0 := by simpa using hv
          go_enter Try.func76, Try.ntmps76
          go_wp2_with fail
          refine (within_c _ _ _ _).mono ?_
          rintro e w1 ⟨rfl, rfl⟩
          rw [HA.out]
          go_wp2_with (refine wpList_loadB rfl _ rfl _ rfl b r0 hb ?_)
          refine (bfault_c b an _ hb han).mono ?_
          rintro e w2 ⟨rfl, hb2⟩
          have hb3 := Below.chain hb0 hb2
          unfold bF
          go_wp2
          all_goals
            go_ret
            exact ⟨by rw [HF.out]; simp [*], hb3⟩
      by_cases k6 : k = 6
      · subst k6
        have HF := Lib.hid (show possB b 6 (an : Int) v = ((an == 0) && (v == 0)) by rw [HP.out]; rfl)
        clear HP g6 g12
        go_enter Try.func76, Try.ntmps76
        go_wp2_with fail
        refine (within_c _ _ _ _).mono ?_
        rintro e w1 ⟨rfl, rfl⟩
        rw [HA.out]
        go_wp2
        all_goals
          go_ret
          exact ⟨bool_ret (by rw [HF.out]; first | (simp [*]; done) | (have := ‹¬ _›; simp; omega)), by (repeat (first | exact Below.refl _ _ | exact (Below.refl _ _).drew | assumption | exact below_one _ | refine Below.chain ?_ (by assumption) | refine Below.drew ?_ | refine Below.alc ?_ _ | refine below_drewN ?_ | (refine Below.setCell ?_ ?_ _) | exact Nat.le_refl _ | (simp; done) | (simp; omega)))⟩
      by_cases k7 : k = 7
      · subst k7
        have HF := Lib.hid (show possB b 7 (an : Int) v = ((an == 0) && (v == 0)) by rw [HP.out]; rfl)
        clear HP g6 g12
        go_enter Try.func76, Try.ntmps76
        go_wp2_with fail
        refine (within_c _ _ _ _).mono ?_
        rintro e w1 ⟨rfl, rfl⟩
        rw [HA.out]
        go_wp2
        all_goals
          go_ret
          exact ⟨bool_ret (by rw [HF.out]; first | (simp [*]; done) | (have := ‹¬ _›; simp; omega)), by (repeat (first | exact Below.refl _ _ | exact (Below.refl _ _).drew | assumption | exact below_one _ | refine Below.chain ?_ (by assumption) | refine Below.drew ?_ | refine Below.alc ?_ _ | refine below_drewN ?_ | (refine Below.setCell ?_ ?_ _) | exact Nat.le_refl _ | (simp; done) | (simp; omega)))⟩
      have HF := Lib.hid (show possB b k (an : Int) v = false by rw [HP.out]; unfold makeK; simp [k1, k2, k3, k4, k5, k6, k7])
      clear HP g6 g12
      go_enter Try.func76, Try.ntmps76
      go_wp2_with fail
      refine (within_c _ _ _ _).mono ?_
      rintro e w1 ⟨rfl, rfl⟩
      rw [HA.out]
      go_wp2
      go_ret
      exact ⟨by rw [HF.out]; rfl, hb0⟩
  · have HF := Lib.hid (show possB b k a v = false by unfold possB; rw [h18]; rfl)
    unfold aggI jobV
    go_enter Try.func76, Try.ntmps76
    go_wp2
    go_ret
    exact ⟨by rw [HF.out]; rfl, hb0⟩
theorem do_c (b : List Int) (k a v : Int) (w : World) (hb : b.length = 19) (hg : goodB b = true) (hp : makeB b k a v = true) :
    Calls Try.prog 77 #[aggI b, jobV k a v] w fun e w' => e = .returned (aggI (doB b k a v)) ∧ Below w.heap.size w w' := by
  unfold makeB at hp
  simp only [Bool.and_eq_true] at hp
  have h2 := inB_true hp.1
  obtain ⟨an, rfl⟩ := Int.eq_ofNat_of_zero_le h2.1
  have han : an < 6 := by omega
  have hk := hp.2
  rw [Int.toNat_natCast] at hk
  unfold makeK at hk
  unfold doB madeB
  rw [Int.toNat_natCast]
  split at hk
  · subst_vars
    have h3 := digitB_true hk
    obtain ⟨vn, rfl⟩ := Int.eq_ofNat_of_zero_le h3.1
    exact do_k1 b an vn w hb hg han (by omega)
  split at hk
  · subst_vars
    obtain rfl : v = 0 := by simpa using hk
    exact do_k2 b an w hb hg han
  split at hk
  · subst_vars
    simp only [Bool.and_eq_true] at hk
    have h3 := inB_true hk.1
    obtain ⟨vn, rfl⟩ := Int.eq_ofNat_of_zero_le h3.1
    exact do_k3 b an vn w hb hg han (by omega)
  split at hk
  · subst_vars
    simp only [Bool.and_eq_true] at hk
    have h3 := inB_true hk.1
    obtain ⟨vn, rfl⟩ := Int.eq_ofNat_of_zero_le h3.1
    exact do_k4 b an vn w hb hg han (by omega)
  split at hk
  · subst_vars
    simp only [Bool.and_eq_true] at hk
    obtain rfl : v = 0 := by simpa using hk.1
    exact do_k5 b an w hb hg han
  split at hk
  · rename_i h67
    simp only [Bool.and_eq_true] at hk
    obtain rfl : v = 0 := by simpa using hk.2
    obtain rfl : an = 0 := by simpa using hk.1
    rcases h67 with rfl | rfl
    · exact do_k6 b w hb hg
    · exact do_k7 b w hb hg
  · cases hk
end Go.Proofs.Ytfbnmkpkihfocaa
namespace Go.Proofs.Ytfbnmkpkihfocaa
open Go.RowKit
set_option linter.unusedVariables false
set_option maxRecDepth 100000
attribute [local go_sem ↓] Go.wp_at_zero Go.wp_at_succ
theorem anC_sub {x y : Int} (x0 : 0 ≤ x) (x1 : x ≤ 127) (y0 : 0 ≤ y) (y1 : y ≤ 127) : ∃ m : Int, 0 ≤ m ∧ m ≤ x ∧ bits .and .i64 x y = m ∧ anC x y = x - m := by
  obtain ⟨x, rfl⟩ := Int.eq_ofNat_of_zero_le x0
  obtain ⟨y, rfl⟩ := Int.eq_ofNat_of_zero_le y0
  have h2 : x &&& y ≤ x := Nat.and_le_left
  refine ⟨((x &&& y : Nat) : Int), by omega, by omega, i64_and_nat _ _ (by omega) (by omega), ?_⟩
  unfold anC
  rw [Int.toNat_natCast, Int.toNat_natCast, ← and_sub x y (by omega) (by omega)]; omega
theorem bar_and : ∀ d : Fin 128, ∀ v : Fin 7, ((d.1 &&& 2 ^ v.1 == 0) = !barB (d.1 : Int) (v.1 : Int)) := by decide +kernel
theorem bar_free {x : Int} {v : Nat} (x0 : 0 ≤ x) (x1 : x ≤ 127) (hv : v < 7) : ∃ m : Int, bits .and .i64 x (bitC (v : Int)) = m ∧ (m == 0) = !barB x (v : Int) := by
  obtain ⟨x, rfl⟩ := Int.eq_ofNat_of_zero_le x0
  have h := bar_and ⟨x, by omega⟩ ⟨v, hv⟩
  have hp : 2 ^ v ≤ 2 ^ 6 := Nat.pow_le_pow_right (by omega) (by omega)
  refine ⟨((x &&& 2 ^ v : Nat) : Int), ?_, ?_⟩
  · unfold bitC
    rw [Int.toNat_natCast]
    exact i64_and_nat _ _ (by omega) (by omega)
  · rw [← h, Bool.eq_iff_iff]; simp only [beq_iff_eq]; omega
def mkV (X : List Int) (ok : Bool) : Value := .tuple #[aggI X, .bool ok]
set_option maxHeartbeats 2000000 in
theorem fail_no3 (b : List Int) (an : Nat) (v : Int) (w : World) (hb : b.length = 19) (hg : goodB b = true) (ha : an < 6) (hv : inB v 0 6 = false) :
    Calls Try.prog 106 #[aggI b, jobV 3 (an : Int) v] w fun e w' => e = .returned (mkV b false) ∧ Below w.heap.size w w' := by
  have r0 := World.rangeAt_alloc (World.rangeAt_alloc (range_new w (ints b) 50) (.cells #[.int .i64 3, .int .i64 (an : Int), .int .i64 v] 54)) zB
  have t0 := World.there_alloc (World.there_alloc (there_new w (ints b).toArray 50 (n := 19) (by simp [hb])) (.cells #[.int .i64 3, .int .i64 (an : Int), .int .i64 v] 54)) zB
  have t1 := there_new ((w.alloc (.cells (ints b).toArray 50)).alloc (.cells #[.int .i64 3, .int .i64 (an : Int), .int .i64 v] 54)) _ 50 (n := 19) (show 19 ≤ (zBA : Array Value).size by decide)
  have q0 : (((w.alloc (.cells (ints b).toArray 50)).alloc (.cells #[.int .i64 3, .int .i64 (an : Int), .int .i64 v] 54)).alloc zB).cell? ⟨w.heap.size + 1, 0, none⟩ = some (.int .i64 3) := cell_later (below_one _) (by rw [World.cell?_alloc_at _ _ _ _ (by simp)]; rfl)
  have q1 : (((w.alloc (.cells (ints b).toArray 50)).alloc (.cells #[.int .i64 3, .int .i64 (an : Int), .int .i64 v] 54)).alloc zB).cell? ⟨w.heap.size + 1, 1, none⟩ = some (.int .i64 (an : Int)) := cell_later (below_one _) (by rw [World.cell?_alloc_at _ _ _ _ (by simp)]; rfl)
  have q2 : (((w.alloc (.cells (ints b).toArray 50)).alloc (.cells #[.int .i64 3, .int .i64 (an : Int), .int .i64 v] 54)).alloc zB).cell? ⟨w.heap.size + 1, 2, none⟩ = some (.int .i64 v) := cell_later (below_one _) (by rw [World.cell?_alloc_at _ _ _ _ (by simp)]; rfl)
  have hb0 : Below w.heap.size w (((w.alloc (.cells (ints b).toArray 50)).alloc (.cells #[.int .i64 3, .int .i64 (an : Int), .int .i64 v] 54)).alloc zB) := by (repeat (first | exact Below.refl _ _ | exact (Below.refl _ _).drew | assumption | exact below_one _ | refine Below.chain ?_ (by assumption) | refine Below.drew ?_ | refine Below.alc ?_ _ | refine below_drewN ?_ | (refine Below.setCell ?_ ?_ _) | exact Nat.le_refl _ | (simp; done) | (simp; omega)))
  simp only [World.size_alloc] at t1
  have n0 : (0 : Int) ≤ (an : Int) := by omega
  have n1 : (an : Int) < 6 := by omega
  have gc := inB_true (show inB (bg b 18) 0 1000 = true by unfold goodB at hg; simp only [Bool.and_eq_true] at hg; exact hg.2)
  have bd := goodB_at hg ha
  unfold bF at bd
  simp only at bd
  obtain ⟨⟨d0, d1, d2, d3⟩, d4, d5⟩ := bd
  have HV := Lib.hid hv; clear hv
  have K := World.rangeAt_setCells_same (((w.alloc (.cells (ints b).toArray 50)).alloc (.cells #[.int .i64 3, .int .i64 (an : Int), .int .i64 v] 54)).alloc (.cells zBA 50)) (w.heap.size + 1 + 1) 0 (ints b) (by simpa [hb] using t1)
  have K6 := below_cells (ints b) (((w.alloc (.cells (ints b).toArray 50)).alloc (.cells #[.int .i64 3, .int .i64 (an : Int), .int .i64 v] 54)).alloc (.cells zBA 50)) (w.heap.size + 1 + 1) 0 hb0 (by omega)
  have K5 := loadVarB K hb
  clear t0 K
  unfold mkV aggI jobV
  unfold zBA zB at *
  go_enter Try.func106, Try.ntmps106
  go_wp2_with fail
  refine (l1In_c _ _ _ _).mono ?_
  rintro e w1 ⟨rfl, rfl⟩
  rw [HV.out]
  generalize World.alloc _ _ = wb at *
  go_wp2_with (first | (refine wpList_loadB rfl _ rfl _ rfl _ r0 hb ?_) | (refine wpList_storeB rfl _ _ rfl _ _ rfl rfl t1 hb ?_))
  exact bodyPost_ret (v := mkV b false) (res_cell2 Try.results106 rfl K5) rfl ⟨rfl, K6⟩
set_option maxHeartbeats 2000000 in
theorem fail_yes3 (b : List Int) (an vn : Nat) (w : World) (hb : b.length = 19) (hg : goodB b = true) (ha : an < 6) (hv : vn < 7) :
    Calls Try.prog 106 #[aggI b, jobV 3 (an : Int) (vn : Int)] w fun e w' => e = .returned (mkV ((b.set (6 + an) (orC (bg b (6 + an)) (bitC (vn : Int)))).set (12 + an) (anC (bg b (12 + an)) (bitC (vn : Int)))) (!barB (bg b (6 + an)) (vn : Int))) ∧ Below w.heap.size w w' := by
  have r0 := World.rangeAt_alloc (World.rangeAt_alloc (range_new w (ints b) 50) (.cells #[.int .i64 3, .int .i64 (an : Int), .int .i64 (vn : Int)] 54)) zB
  have t0 := World.there_alloc (World.there_alloc (there_new w (ints b).toArray 50 (n := 19) (by simp [hb])) (.cells #[.int .i64 3, .int .i64 (an : Int), .int .i64 (vn : Int)] 54)) zB
  have t1 := there_new ((w.alloc (.cells (ints b).toArray 50)).alloc (.cells #[.int .i64 3, .int .i64 (an : Int), .int .i64 (vn : Int)] 54)) _ 50 (n := 19) (show 19 ≤ (zBA : Array Value).size by decide)
  have q0 : (((w.alloc (.cells (ints b).toArray 50)).alloc (.cells #[.int .i64 3, .int .i64 (an : Int), .int .i64 (vn : Int)] 54)).alloc zB).cell? ⟨w.heap.size + 1, 0, none⟩ = some (.int .i64 3) := cell_later (below_one _) (by rw [World.cell?_alloc_at _ _ _ _ (by simp)]; rfl)
  have q1 : (((w.alloc (.cells (ints b).toArray 50)).alloc (.cells #[.int .i64 3, .int .i64 (an : Int), .int .i64 (vn : Int)] 54)).alloc zB).cell? ⟨w.heap.size + 1, 1, none⟩ = some (.int .i64 (an : Int)) := cell_later (below_one _) (by rw [World.cell?_alloc_at _ _ _ _ (by simp)]; rfl)
  have q2 : (((w.alloc (.cells (ints b).toArray 50)).alloc (.cells #[.int .i64 3, .int .i64 (an : Int), .int .i64 (vn : Int)] 54)).alloc zB).cell? ⟨w.heap.size + 1, 2, none⟩ = some (.int .i64 (vn : Int)) := cell_later (below_one _) (by rw [World.cell?_alloc_at _ _ _ _ (by simp)]; rfl)
  have hb0 : Below w.heap.size w (((w.alloc (.cells (ints b).toArray 50)).alloc (.cells #[.int .i64 3, .int .i64 (an : Int), .int .i64 (vn : Int)] 54)).alloc zB) := by (repeat (first | exact Below.refl _ _ | exact (Below.refl _ _).drew | assumption | exact below_one _ | refine Below.chain ?_ (by assumption) | refine Below.drew ?_ | refine Below.alc ?_ _ | refine below_drewN ?_ | (refine Below.setCell ?_ ?_ _) | exact Nat.le_refl _ | (simp; done) | (simp; omega)))
  simp only [World.size_alloc] at t1
  have n0 : (0 : Int) ≤ (an : Int) := by omega
  have n1 : (an : Int) < 6 := by omega
  have gc := inB_true (show inB (bg b 18) 0 1000 = true by unfold goodB at hg; simp only [Bool.and_eq_true] at hg; exact hg.2)
  have bd := goodB_at hg ha
  unfold bF at bd
  simp only at bd
  obtain ⟨⟨d0, d1, d2, d3⟩, d4, d5⟩ := bd
  obtain ⟨v1, _, vw⟩ := bitC_f (n := vn) (by omega)
  have v2 := bitC_64 ⟨vn, hv⟩
  simp only at v2
  have HX := orC_i64 d0 d1 (show 0 ≤ bitC (vn : Int) by omega) (show bitC (vn : Int) ≤ 127 by omega)
  obtain ⟨M, M0, M1, HM, HN⟩ := anC_sub d2 d3 (show 0 ≤ bitC (vn : Int) by omega) (show bitC (vn : Int) ≤ 127 by omega)
  obtain ⟨N, HN1, HN2⟩ := bar_free d0 d1 hv
  have HV : Hid (inB (vn : Int) 0 6 = true) := inB_mk (by omega) (by omega)
  rw [HN, ← HN2]
  generalize orC (bg b (6 + an)) (bitC (vn : Int)) = X1 at *
  generalize bitC (vn : Int) = V at *
  have HE := Lib.hid (show ((b.set (6 + an) (X1)).set (12 + an) (bg b (12 + an) - M)) = ((b.set (6 + an) (X1)).set (12 + an) (bg b (12 + an) - M)) by rfl)
  rw [HE.out]
  clear HN HN2
  unfold mkV aggI jobV
  unfold zBA zB at *
  go_enter Try.func106, Try.ntmps106
  go_wp2_with fail
  refine (l1In_c _ _ _ _).mono ?_
  rintro e w1 ⟨rfl, rfl⟩
  rw [HV.out]
  generalize World.alloc _ _ = wb at *
  have g1 := cell18 r0 (j := 6 + an) (by omega)
  have g2 := cell18 r0 (j := 12 + an) (by omega)
  have f1 := there_froz t0 (j := 6 + an) (by omega)
  have f2 := there_froz t0 (j := 12 + an) (by omega)
  go_wp2
  go_region
  have r1 : wb.drew.rangeAt w.heap.size 0 (ints b) := r0
  have u0 : wb.drew.there w.heap.size 0 19 := t0
  have u1 : wb.drew.there (w.heap.size + 1 + 1) 0 19 := t1
  have hb1 : Below w.heap.size w wb.drew := hb0.drew
  clear r0 t0 t1 hb0
  have r0 := r1; have t0 := u0; have t1 := u1; have hb0 := hb1
  clear r1 u0 u1 hb1
  have g1 : wb.drew.cell? ⟨w.heap.size, 6 + an, none⟩ = _ := g1
  have g2 : wb.drew.cell? ⟨w.heap.size, 12 + an, none⟩ = _ := g2
  have f1 : wb.drew.frozen? ⟨w.heap.size, 6 + an, none⟩ = _ := f1
  have f2 : wb.drew.frozen? ⟨w.heap.size, 12 + an, none⟩ = _ := f2
  have q0 : wb.drew.cell? ⟨w.heap.size + 1, 0, none⟩ = _ := q0
  have q1 : wb.drew.cell? ⟨w.heap.size + 1, 1, none⟩ = _ := q1
  have q2 : wb.drew.cell? ⟨w.heap.size + 1, 2, none⟩ = _ := q2
  generalize wb.drew = wd at *
  have hl : ((b.set (6 + an) (X1)).set (12 + an) (bg b (12 + an) - M)).length = 19 := by simp [hb]
  have R1 := (range_set (range_set r0 (j := 6 + an) (X1) (by omega)) (j := 12 + an) (bg b (12 + an) - M) (by simp; omega))
  have T0 := (there_set (there_set t0 w.heap.size (6 + an) (.int .i64 (X1))) w.heap.size (12 + an) (.int .i64 (bg b (12 + an) - M)))
  have T1 := (there_set (there_set t1 w.heap.size (6 + an) (.int .i64 (X1))) w.heap.size (12 + an) (.int .i64 (bg b (12 + an) - M)))
  have B1 := (Below.setCell (Below.setCell hb0 (p := ⟨w.heap.size, 6 + an, none⟩) (Nat.le_refl _) (.int .i64 (X1))) (p := ⟨w.heap.size, 12 + an, none⟩) (Nat.le_refl _) (.int .i64 (bg b (12 + an) - M)))
  have K := World.rangeAt_setCells_same _ (w.heap.size + 1 + 1) 0 (ints ((b.set (6 + an) (X1)).set (12 + an) (bg b (12 + an) - M))) (by simpa [hb] using T1)
  have K6 := below_cells (ints ((b.set (6 + an) (X1)).set (12 + an) (bg b (12 + an) - M))) _ (w.heap.size + 1 + 1) 0 B1 (by omega)
  have K5 := loadVarB K hl
  clear r0 t0 t1 hb0 T0 B1 K
  generalize hbb : ((b.set (6 + an) (X1)).set (12 + an) (bg b (12 + an) - M)) = bb at *
  have HBB := Lib.hid hbb; clear hbb
  go_wp2_with (first | (refine wpList_loadB rfl _ rfl _ rfl _ R1 hl ?_) | (refine wpList_storeB rfl _ _ rfl _ _ rfl rfl T1 hl ?_))
  exact bodyPost_ret (v := mkV bb (N == 0)) (res_cell2 Try.results106 rfl K5) rfl ⟨by rw [← HBB.out]; rfl, K6⟩
set_option maxHeartbeats 2000000 in
theorem fail_no4 (b : List Int) (an : Nat) (v : Int) (w : World) (hb : b.length = 19) (hg : goodB b = true) (ha : an < 6) (hv : inB v 0 6 = false) :
    Calls Try.prog 106 #[aggI b, jobV 4 (an : Int) v] w fun e w' => e = .returned (mkV b false) ∧ Below w.heap.size w w' := by
  have r0 := World.rangeAt_alloc (World.rangeAt_alloc (range_new w (ints b) 50) (.cells #[.int .i64 4, .int .i64 (an : Int), .int .i64 v] 54)) zB
  have t0 := World.there_alloc (World.there_alloc (there_new w (ints b).toArray 50 (n := 19) (by simp [hb])) (.cells #[.int .i64 4, .int .i64 (an : Int), .int .i64 v] 54)) zB
  have t1 := there_new ((w.alloc (.cells (ints b).toArray 50)).alloc (.cells #[.int .i64 4, .int .i64 (an : Int), .int .i64 v] 54)) _ 50 (n := 19) (show 19 ≤ (zBA : Array Value).size by decide)
  have q0 : (((w.alloc (.cells (ints b).toArray 50)).alloc (.cells #[.int .i64 4, .int .i64 (an : Int), .int .i64 v] 54)).alloc zB).cell? ⟨w.heap.size + 1, 0, none⟩ = some (.int .i64 4) := cell_later (below_one _) (by rw [World.cell?_alloc_at _ _ _ _ (by simp)]; rfl)
  have q1 : (((w.alloc (.cells (ints b).toArray 50)).alloc (.cells #[.int .i64 4, .int .i64 (an : Int), .int .i64 v] 54)).alloc zB).cell? ⟨w.heap.size + 1, 1, none⟩ = some (.int .i64 (an : Int)) := cell_later (below_one _) (by rw [World.cell?_alloc_at _ _ _ _ (by simp)]; rfl)
  have q2 : (((w.alloc (.cells (ints b).toArray 50)).alloc (.cells #[.int .i64 4, .int .i64 (an : Int), .int .i64 v] 54)).alloc zB).cell? ⟨w.heap.size + 1, 2, none⟩ = some (.int .i64 v) := cell_later (below_one _) (by rw [World.cell?_alloc_at _ _ _ _ (by simp)]; rfl)
  have hb0 : Below w.heap.size w (((w.alloc (.cells (ints b).toArray 50)).alloc (.cells #[.int .i64 4, .int .i64 (an : Int), .int .i64 v] 54)).alloc zB) := by (repeat (first | exact Below.refl _ _ | exact (Below.refl _ _).drew | assumption | exact below_one _ | refine Below.chain ?_ (by assumption) | refine Below.drew ?_ | refine Below.alc ?_ _ | refine below_drewN ?_ | (refine Below.setCell ?_ ?_ _) | exact Nat.le_refl _ | (simp; done) | (simp; omega)))
  simp only [World.size_alloc] at t1
  have n0 : (0 : Int) ≤ (an : Int) := by omega
  have n1 : (an : Int) < 6 := by omega
  have gc := inB_true (show inB (bg b 18) 0 1000 = true by unfold goodB at hg; simp only [Bool.and_eq_true] at hg; exact hg.2)
  have bd := goodB_at hg ha
  unfold bF at bd
  simp only at bd
  obtain ⟨⟨d0, d1, d2, d3⟩, d4, d5⟩ := bd
  have HV := Lib.hid hv; clear hv
  have K := World.rangeAt_setCells_same (((w.alloc (.cells (ints b).toArray 50)).alloc (.cells #[.int .i64 4, .int .i64 (an : Int), .int .i64 v] 54)).alloc (.cells zBA 50)) (w.heap.size + 1 + 1) 0 (ints b) (by simpa [hb] using t1)
  have K6 := below_cells (ints b) (((w.alloc (.cells (ints b).toArray 50)).alloc (.cells #[.int .i64 4, .int .i64 (an : Int), .int .i64 v] 54)).alloc (.cells zBA 50)) (w.heap.size + 1 + 1) 0 hb0 (by omega)
  have K5 := loadVarB K hb
  clear t0 K
  unfold mkV aggI jobV
  unfold zBA zB at *
  go_enter Try.func106, Try.ntmps106
  go_wp2_with fail
  refine (l1In_c _ _ _ _).mono ?_
  rintro e w1 ⟨rfl, rfl⟩
  rw [HV.out]
  generalize World.alloc _ _ = wb at *
  go_wp2_with (first | (refine wpList_loadB rfl _ rfl _ rfl _ r0 hb ?_) | (refine wpList_storeB rfl _ _ rfl _ _ rfl rfl t1 hb ?_))
  exact bodyPost_ret (v := mkV b false) (res_cell2 Try.results106 rfl K5) rfl ⟨rfl, K6⟩
set_option maxHeartbeats 2000000 in
theorem fail_yes4 (b : List Int) (an vn : Nat) (w : World) (hb : b.length = 19) (hg : goodB b = true) (ha : an < 6) (hv : vn < 7) :
    Calls Try.prog 106 #[aggI b, jobV 4 (an : Int) (vn : Int)] w fun e w' => e = .returned (mkV ((b.set (6 + an) (anC (bg b (6 + an)) (bitC (vn : Int)))).set (12 + an) (orC (bg b (12 + an)) (bitC (vn : Int)))) (!barB (bg b (12 + an)) (vn : Int))) ∧ Below w.heap.size w w' := by
  have r0 := World.rangeAt_alloc (World.rangeAt_alloc (range_new w (ints b) 50) (.cells #[.int .i64 4, .int .i64 (an : Int), .int .i64 (vn : Int)] 54)) zB
  have t0 := World.there_alloc (World.there_alloc (there_new w (ints b).toArray 50 (n := 19) (by simp [hb])) (.cells #[.int .i64 4, .int .i64 (an : Int), .int .i64 (vn : Int)] 54)) zB
  have t1 := there_new ((w.alloc (.cells (ints b).toArray 50)).alloc (.cells #[.int .i64 4, .int .i64 (an : Int), .int .i64 (vn : Int)] 54)) _ 50 (n := 19) (show 19 ≤ (zBA : Array Value).size by decide)
  have q0 : (((w.alloc (.cells (ints b).toArray 50)).alloc (.cells #[.int .i64 4, .int .i64 (an : Int), .int .i64 (vn : Int)] 54)).alloc zB).cell? ⟨w.heap.size + 1, 0, none⟩ = some (.int .i64 4) := cell_later (below_one _) (by rw [World.cell?_alloc_at _ _ _ _ (by simp)]; rfl)
  have q1 : (((w.alloc (.cells (ints b).toArray 50)).alloc (.cells #[.int .i64 4, .int .i64 (an : Int), .int .i64 (vn : Int)] 54)).alloc zB).cell? ⟨w.heap.size + 1, 1, none⟩ = some (.int .i64 (an : Int)) := cell_later (below_one _) (by rw [World.cell?_alloc_at _ _ _ _ (by simp)]; rfl)
  have q2 : (((w.alloc (.cells (ints b).toArray 50)).alloc (.cells #[.int .i64 4, .int .i64 (an : Int), .int .i64 (vn : Int)] 54)).alloc zB).cell? ⟨w.heap.size + 1, 2, none⟩ = some (.int .i64 (vn : Int)) := cell_later (below_one _) (by rw [World.cell?_alloc_at _ _ _ _ (by simp)]; rfl)
  have hb0 : Below w.heap.size w (((w.alloc (.cells (ints b).toArray 50)).alloc (.cells #[.int .i64 4, .int .i64 (an : Int), .int .i64 (vn : Int)] 54)).alloc zB) := by (repeat (first | exact Below.refl _ _ | exact (Below.refl _ _).drew | assumption | exact below_one _ | refine Below.chain ?_ (by assumption) | refine Below.drew ?_ | refine Below.alc ?_ _ | refine below_drewN ?_ | (refine Below.setCell ?_ ?_ _) | exact Nat.le_refl _ | (simp; done) | (simp; omega)))
  simp only [World.size_alloc] at t1
  have n0 : (0 : Int) ≤ (an : Int) := by omega
  have n1 : (an : Int) < 6 := by omega
  have gc := inB_true (show inB (bg b 18) 0 1000 = true by unfold goodB at hg; simp only [Bool.and_eq_true] at hg; exact hg.2)
  have bd := goodB_at hg ha
  unfold bF at bd
  simp only at bd
  obtain ⟨⟨d0, d1, d2, d3⟩, d4, d5⟩ := bd
  obtain ⟨v1, _, vw⟩ := bitC_f (n := vn) (by omega)
  have v2 := bitC_64 ⟨vn, hv⟩
  simp only at v2
  have HX := orC_i64 d2 d3 (show 0 ≤ bitC (vn : Int) by omega) (show bitC (vn : Int) ≤ 127 by omega)
  obtain ⟨M, M0, M1, HM, HN⟩ := anC_sub d0 d1 (show 0 ≤ bitC (vn : Int) by omega) (show bitC (vn : Int) ≤ 127 by omega)
  obtain ⟨N, HN1, HN2⟩ := bar_free d2 d3 hv
  have HV : Hid (inB (vn : Int) 0 6 = true) := inB_mk (by omega) (by omega)
  rw [HN, ← HN2]
  generalize orC (bg b (12 + an)) (bitC (vn : Int)) = X1 at *
  generalize bitC (vn : Int) = V at *
  have HE := Lib.hid (show ((b.set (6 + an) (bg b (6 + an) - M)).set (12 + an) (X1)) = ((b.set (12 + an) (X1)).set (6 + an) (bg b (6 + an) - M)) by rw [List.set_comm _ _ (by omega)])
  rw [HE.out]
  clear HN HN2
  unfold mkV aggI jobV
  unfold zBA zB at *
  go_enter Try.func106, Try.ntmps106
  go_wp2_with fail
  refine (l1In_c _ _ _ _).mono ?_
  rintro e w1 ⟨rfl, rfl⟩
  rw [HV.out]
  generalize World.alloc _ _ = wb at *
  have g1 := cell18 r0 (j := 6 + an) (by omega)
  have g2 := cell18 r0 (j := 12 + an) (by omega)
  have f1 := there_froz t0 (j := 6 + an) (by omega)
  have f2 := there_froz t0 (j := 12 + an) (by omega)
  go_wp2
  go_region
  have r1 : wb.drew.rangeAt w.heap.size 0 (ints b) := r0
  have u0 : wb.drew.there w.heap.size 0 19 := t0
  have u1 : wb.drew.there (w.heap.size + 1 + 1) 0 19 := t1
  have hb1 : Below w.heap.size w wb.drew := hb0.drew
  clear r0 t0 t1 hb0
  have r0 := r1; have t0 := u0; have t1 := u1; have hb0 := hb1
  clear r1 u0 u1 hb1
  have g1 : wb.drew.cell? ⟨w.heap.size, 6 + an, none⟩ = _ := g1
  have g2 : wb.drew.cell? ⟨w.heap.size, 12 + an, none⟩ = _ := g2
  have f1 : wb.drew.frozen? ⟨w.heap.size, 6 + an, none⟩ = _ := f1
  have f2 : wb.drew.frozen? ⟨w.heap.size, 12 + an, none⟩ = _ := f2
  have q0 : wb.drew.cell? ⟨w.heap.size + 1, 0, none⟩ = _ := q0
  have q1 : wb.drew.cell? ⟨w.heap.size + 1, 1, none⟩ = _ := q1
  have q2 : wb.drew.cell? ⟨w.heap.size + 1, 2, none⟩ = _ := q2
  generalize wb.drew = wd at *
  have hl : ((b.set (12 + an) (X1)).set (6 + an) (bg b (6 + an) - M)).length = 19 := by simp [hb]
  have R1 := (range_set (range_set r0 (j := 12 + an) (X1) (by omega)) (j := 6 + an) (bg b (6 + an) - M) (by simp; omega))
  have T0 := (there_set (there_set t0 w.heap.size (12 + an) (.int .i64 (X1))) w.heap.size (6 + an) (.int .i64 (bg b (6 + an) - M)))
  have T1 := (there_set (there_set t1 w.heap.size (12 + an) (.int .i64 (X1))) w.heap.size (6 + an) (.int .i64 (bg b (6 + an) - M)))
  have B1 := (Below.setCell (Below.setCell hb0 (p := ⟨w.heap.size, 12 + an, none⟩) (Nat.le_refl _) (.int .i64 (X1))) (p := ⟨w.heap.size, 6 + an, none⟩) (Nat.le_refl _) (.int .i64 (bg b (6 + an) - M)))
  have K := World.rangeAt_setCells_same _ (w.heap.size + 1 + 1) 0 (ints ((b.set (12 + an) (X1)).set (6 + an) (bg b (6 + an) - M))) (by simpa [hb] using T1)
  have K6 := below_cells (ints ((b.set (12 + an) (X1)).set (6 + an) (bg b (6 + an) - M))) _ (w.heap.size + 1 + 1) 0 B1 (by omega)
  have K5 := loadVarB K hl
  clear r0 t0 t1 hb0 T0 B1 K
  generalize hbb : ((b.set (12 + an) (X1)).set (6 + an) (bg b (6 + an) - M)) = bb at *
  have HBB := Lib.hid hbb; clear hbb
  go_wp2_with (first | (refine wpList_loadB rfl _ rfl _ rfl _ R1 hl ?_) | (refine wpList_storeB rfl _ _ rfl _ _ rfl rfl T1 hl ?_))
  exact bodyPost_ret (v := mkV bb (N == 0)) (res_cell2 Try.results106 rfl K5) rfl ⟨by rw [← HBB.out]; rfl, K6⟩
end Go.Proofs.Ytfbnmkpkihfocaa
