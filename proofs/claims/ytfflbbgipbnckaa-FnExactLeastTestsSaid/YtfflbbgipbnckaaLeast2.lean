/- The walks of isLeast and IsLeastTest, both texts. -/
import Derived.Test.YtfflbbgipbnckaaLeast
namespace Go.Proofs.Ytfflbbgipbnckaa
open Go.RowKit
set_option linter.unusedVariables false
set_option maxRecDepth 100000
theorem Delete_c (v : Value) (xs : List Int) (i lo : Nat) (w : World) (ho : w.ownsRow lo 3 1 v xs.length (ints xs)) (hi : i < xs.length) (hn : xs.length ≤ 1000) :
    Calls Try.prog 60 #[v, .int .i64 (i : Int), .int .i64 ((i : Int) + 1)] w fun e w' => ∃ u, e = .returned u ∧ w'.ownsRow lo 3 1 u (xs.eraseIdx i).length (ints (xs.eraseIdx i)) ∧ w.grownBy w' v.ownBlock := by
  have hv : v ≠ .slice none 0 0 := by
    intro e
    obtain ⟨a, c, e2, _⟩ := (Sl.of_own ho).slice
    rw [e] at e2
    injection e2 with _ e3
    omega
  obtain ⟨g, cap, rfl, hlo, hlt, h1, h2, _, hH⟩ := Lib.holds_of_ownsRow ho hv
  unfold maxLen at h2
  have H := Try.slices_Delete_int g 0 cap i (i + 1) xs w hH h1 (by omega) (by omega) (by omega)
  rw [show ((i + 1 : Nat) : Int) = (i : Int) + 1 by omega] at H
  refine H.mono ?_
  rintro e w' ⟨rfl, q, rfl⟩
  have hl := erase_len hi
  have h3 := Lib.ownsRow_putRow (q := q) (k := (xs.eraseIdx i).length) (ys := xs.take i ++ xs.drop (i + 1) ++ List.replicate (i + 1 - i) 0) ho (by simp; omega) (by omega)
  have e3 : List.take (xs.eraseIdx i).length (xs.take i ++ xs.drop (i + 1) ++ List.replicate (i + 1 - i) (0 : Int)) = xs.eraseIdx i := by rw [← List.eraseIdx_eq_take_drop_succ, List.take_left]
  rw [e3] at h3
  have h4 := grownBy_sortedI (w := w) (g := g) (n := q) (os := #[]) (xs.take i ++ xs.drop (i + 1) ++ List.replicate (i + 1 - i) 0).toArray
  rw [Sort.grow_empty] at h4
  exact ⟨_, rfl, by rw [show xs.length - (i + 1 - i) = (xs.eraseIdx i).length by omega]; exact h3, h4⟩
set_option maxHeartbeats 2000000 in
theorem isLeast_c (v : Value) (xs : List Int) (w : World) (hv : Ints w v xs) (ht : testB xs = true) :
    Calls Try.prog 35 #[v] w fun e w' => e = .returned (.bool (leastL (setS xs))) ∧ Below w.heap.size w w' := by
  have hlen : xs.length ≤ 10 := by unfold testB at ht; simp only [Bool.and_eq_true, decide_eq_true_eq] at ht; exact ht.1
  have HS := Lib.hid (setOf_c v xs w hv (by omega))
  have hts := testB_set ht
  have hsl := setS_len xs
  clear hv ht
  generalize setS xs = l at *
  have hll : l.length ≤ 10 := by omega
  have HT := Lib.hid hts; clear hts hsl
  go_enter Try.func35, Try.ntmps35
  go_wp2_with fail
  refine HS.out.mono ?_
  rintro e w1 ⟨u, rfl, ho, hb1⟩
  have hIu := Ints.of_own ho
  obtain ⟨ua, uc, rfl, _, _, _⟩ := hIu.parts
  have HI := Lib.hid hIu
  clear ho hIu
  go_wp2
  go_loopw [9] (fun i wr => ∃ k : Nat, k ≤ l.length ∧ i = .int .i64 (k : Int) ∧ Hid (∀ j, j < k → fullB (l.eraseIdx j) = false) ∧ Below w1.heap.size w1 wr) (fun i _ => l.length - (intOf i).toNat)
  case atStart => exact ⟨0, by omega, rfl, fun j h => by omega, Below.refl _ _⟩
  case round =>
    obtain ⟨k, hk, rfl, hbef, hb⟩ := hrel
    by_cases hlt : k < l.length
    · have hd : decide ((k : Int) < (l.length : Int)) = true := by simp; omega
      have HC := Lib.hid (Clone_c _ l wr (HI.out.below hb) (by omega))
      have hte := Lib.hid (testB_erase HT.out k)
      go_wp2_with fail
      refine HC.out.mono ?_
      rintro e w2 ⟨u2, rfl, ho2, hb2⟩
      have HD := Lib.hid (Delete_c u2 l k wr.heap.size w2 ho2 hlt (by omega))
      have HO2 := Lib.hid ho2
      clear ho2
      go_wp2_with fail
      refine HD.out.mono ?_
      rintro e w3 ⟨u3, rfl, ho3, hg3⟩
      have hb3 : Below wr.heap.size wr w3 := hb2.grown hg3 hb2.size (fun q hq => (HO2.out.lt q hq).1)
      have hI3 := Lib.hid (Ints.of_own ho3)
      clear ho3 hg3 hb2
      go_wp2_with fail
      refine (isFull_c u3 (l.eraseIdx k) _ hI3.out hte.out).mono ?_
      rintro e w4 ⟨rfl, hb4⟩
      have hb5 := Below.chain hb (Below.chain hb3 hb4)
      clear hb hb3 hb4
      rcases hq : fullB (l.eraseIdx k) with _ | _
      · have HN : Hid (∀ j, j < k + 1 → fullB (l.eraseIdx j) = false) := fun j hj => by
          by_cases hj2 : j < k
          · exact hbef.out j hj2
          · obtain rfl : j = k := by omega
            exact hq
        clear hbef
        go_wp2
        go_roundw
        case rel => exact ⟨k + 1, by omega, by go_num, HN, hb5⟩
        case measure => simp [intOf]; omega
      · have HF := Lib.hid (leastL_bad hlt hq)
        have hb9 := Below.chain hb1 hb5
        clear hbef
        go_wp2
        go_ret
        exact ⟨by rw [HF.out]; rfl, hb9⟩
    · obtain rfl : k = l.length := by omega
      have HF := Lib.hid (leastL_ok hbef.out)
      have hI2 := Lib.hid (HI.out.below hb)
      go_wp2_with fail
      refine (isFull_c _ l _ hI2.out HT.out).mono ?_
      rintro e w2 ⟨rfl, hb2⟩
      have hb3 := Below.chain hb1 (Below.chain hb hb2)
      go_wp2
      go_ret
      exact ⟨by rw [HF.out]; rfl, hb3⟩
def ltV (xs : List Int) : Value := .tuple #[.bool (testB xs && leastL (setS xs)), .bool (testB xs)]
theorem IsLeastTest_c (v : Value) (xs : List Int) (w : World) (hv : Ints w v xs) :
    Calls Try.prog 10 #[v] w fun e w' => e = .returned (ltV xs) ∧ Below w.heap.size w w' := by
  rcases hq : testB xs with _ | _
  · have HF := Lib.hid (show ltV xs = .tuple #[.bool false, .bool false] by unfold ltV; rw [hq]; rfl)
    have HQ := Lib.hid hq; have HV := Lib.hid hv; clear hq hv
    go_enter Try.func10, Try.ntmps10
    go_wp2_with fail
    refine (isTest_c v xs _ HV.out).mono ?_
    rintro e w1 ⟨rfl, hb1⟩
    rw [HQ.out]
    go_wp2
    go_ret2
    exact ⟨by rw [HF.out]; rfl, hb1⟩
  · have HF := Lib.hid (show ltV xs = .tuple #[.bool (leastL (setS xs)), .bool true] by unfold ltV; rw [hq]; rfl)
    have HQ := Lib.hid hq; have HV := Lib.hid hv; clear hq hv
    go_enter Try.func10, Try.ntmps10
    go_wp2_with fail
    refine (isTest_c v xs _ HV.out).mono ?_
    rintro e w1 ⟨rfl, hb1⟩
    rw [HQ.out]
    have HL := Lib.hid (isLeast_c v xs w1 (HV.out.below hb1) HQ.out)
    go_wp2_with fail
    refine HL.out.mono ?_
    rintro e w2 ⟨rfl, hb2⟩
    have hb3 := Below.chain hb1 hb2
    go_wp2
    go_ret2
    exact ⟨by rw [HF.out]; rfl, hb3⟩
theorem sIsLeastTest_c (v : Value) (xs : List Int) (w : World) (hv : Ints w v xs) :
    Calls Try.prog 8 #[v] w fun e w' => e = .returned (ltV xs) ∧ Below w.heap.size w w' := by
  rcases hq : testB xs with _ | _
  · have HF := Lib.hid (show ltV xs = .tuple #[.bool false, .bool false] by unfold ltV; rw [hq]; rfl)
    have HQ := Lib.hid hq; have HV := Lib.hid hv; clear hq hv
    go_enter Try.func8, Try.ntmps8
    go_wp2_with fail
    refine (l7Test_c v xs _ HV.out).mono ?_
    rintro e w1 ⟨rfl, hb1⟩
    rw [HQ.out]
    go_wp2
    go_ret2
    exact ⟨by rw [HF.out]; rfl, hb1⟩
  · have HF := Lib.hid (show ltV xs = .tuple #[.bool (leastL (setS xs)), .bool true] by unfold ltV; rw [hq]; rfl)
    have hlen : xs.length ≤ 10 := by unfold testB at hq; simp only [Bool.and_eq_true, decide_eq_true_eq] at hq; exact hq.1
    have HT := Lib.hid (testB_set hq)
    have HQ := Lib.hid hq; have HV := Lib.hid hv; clear hq hv
    go_enter Try.func8, Try.ntmps8
    go_wp2_with fail
    refine (l7Test_c v xs _ HV.out).mono ?_
    rintro e w1 ⟨rfl, hb1⟩
    rw [HQ.out]
    have HS := Lib.hid (l7Set_c v xs w1 (HV.out.below hb1) (by omega))
    go_wp2_with fail
    refine HS.out.mono ?_
    rintro e w2 ⟨g, cap, rfl, ho2, hb2⟩
    have HL := Lib.hid (l7Least_c g cap w1.heap.size (setS xs) w2 ho2 HT.out)
    clear ho2
    go_wp2_with fail
    refine HL.out.mono ?_
    rintro e w3 ⟨rfl, hb3⟩
    have hb4 := Below.chain hb1 (Below.chain hb2 hb3)
    go_wp2
    go_ret2
    exact ⟨by rw [HF.out]; rfl, hb4⟩
end Go.Proofs.Ytfflbbgipbnckaa
