/- The walk of the law CountFullTests: for every int it returns true and turns nothing that was there. -/
import Derived.Test.YtahpknjligaliaaCft3
namespace Go.Proofs.Ytahpknjligaliaa
open Go.RowKit
set_option linter.unusedVariables false
set_option maxRecDepth 100000
def cfB (k : Int) (n : Nat) : Nat := ((List.range n).filter fun s => cfP k (digsL tenI s)).length
theorem cfB_succ (k : Int) (n : Nat) : cfB k (n + 1) = cfB k n + if cfP k (digsL tenI n) then 1 else 0 := by
  unfold cfB
  rw [List.range_succ, List.filter_append, List.length_append]
  cases h : cfP k (digsL tenI n) <;> simp [h]
theorem cfB_le (k : Int) (n : Nat) : cfB k n ≤ n := by unfold cfB; exact Nat.le_trans (List.length_filter_le _ _) (by simp)
theorem digs_test (s : Nat) : testB (digsL tenI s) = true := by
  unfold testB digsL pick
  rw [List.length_map, decide_eq_true (show (prtL tenI.length s tenI.length).length ≤ 10 from prtL_le 10 s 10), Bool.true_and, List.all_eq_true]
  intro y hy
  rw [List.mem_map] at hy
  obtain ⟨x, hx, rfl⟩ := hy
  obtain ⟨p, rfl, hp⟩ := prtL_mem hx
  have h : ∀ q : Fin 10, digitB (tenI.getD ((q.1 : Int)).toNat 0) = true := by decide
  exact h ⟨p, hp⟩
theorem sCountFullTests_c (k : Int) (w : World) : Calls Try.prog 45 #[.int .i64 k] w fun e w' => e = .returned (cfV k) ∧ Below w.heap.size w w' := by
  rcases hq : inB k 0 10 with _ | _
  · have HF := Lib.hid (show cfV k = .tuple #[.int .i64 0, .bool false] by simp [cfV, hq])
    have HQ := Lib.hid hq; clear hq
    go_enter Try.func45, Try.ntmps45
    go_wp2_with fail
    refine (l1In_c k 0 10 _).mono ?_
    rintro e w1 ⟨rfl, rfl⟩
    rw [HQ.out]
    go_wp2
    go_ret2
    exact ⟨by rw [HF.out]; rfl, by (repeat (first | exact Below.refl _ _ | exact (Below.refl _ _).drew | assumption | exact below_one _ | refine Below.chain ?_ (by assumption) | refine Below.drew ?_ | refine Below.alc ?_ _ | refine below_drewN ?_ | (refine Below.setCell ?_ ?_ _) | exact Nat.le_refl _ | (simp; done) | (simp; omega)))⟩
  · have HF := Lib.hid (show cfV k = .tuple #[.int .i64 (cfB k 1024 : Nat), .bool true] by simp [cfV, hq, cfA_bits, cfB])
    have HQ := Lib.hid hq; clear hq
    go_enter Try.func45, Try.ntmps45
    go_wp2_with fail
    refine (l1In_c k 0 10 _).mono ?_
    rintro e w1 ⟨rfl, rfl⟩
    rw [HQ.out]
    go_wp2
    go_loopw [4, 5] (fun m j wr => ∃ s : Nat, s ≤ 1024 ∧ j = .int .i64 (s : Int) ∧ m = .int .i64 (cfB k s : Nat) ∧ Below w.heap.size w wr) (fun _ j _ => 1025 - (intOf j).toNat)
    case atStart => exact ⟨0, by omega, rfl, rfl, by (repeat (first | exact Below.refl _ _ | exact (Below.refl _ _).drew | assumption | exact below_one _ | refine Below.chain ?_ (by assumption) | refine Below.drew ?_ | refine Below.alc ?_ _ | refine below_drewN ?_ | (refine Below.setCell ?_ ?_ _) | exact Nat.le_refl _ | (simp; done) | (simp; omega)))⟩
    case round =>
      obtain ⟨s, hs, rfl, rfl, hb⟩ := hrel
      by_cases hlt : s < 1024
      · have hd : decide ((s : Int) < 1024) = true := by simp; omega
        have hS := cfB_succ k s
        have hle := cfB_le k s
        have ht := digs_test s
        generalize cfB k s = c at *
        have HS := Lib.hid hS; clear hS
        go_wp2_with fail
        refine (l7Ten_c _).mono ?_
        rintro e w2 ⟨u, rfl, ho, hb2⟩
        go_wp2_with fail
        refine (l7Digits_c u tenI s _ (Ints.of_own ho) (by decide) hlt).mono ?_
        rintro e w3 ⟨u2, rfl, ho3, hb3⟩
        have hb4 := Below.chain hb (Below.chain hb2 hb3)
        have hI := Ints.of_own ho3
        generalize digsL tenI s = xs at *
        obtain ⟨a, c2, rfl, _, _, _⟩ := hI.parts
        clear ho ho3 hb hb2 hb3
        rcases h1 : ((xs.length : Int) == k) with _ | _
        · have h1d : decide ((xs.length : Int) = k) = false := by simpa using h1
          have HS2 := Lib.hid (show cfB k (s + 1) = c by rw [HS.out]; unfold cfP; rw [h1]; rfl)
          clear HS
          go_wp2
          go_roundw
          case rel => exact ⟨s + 1, by omega, by go_num, by rw [HS2.out], hb4⟩
          case measure => simp [intOf]; omega
        · have h1d : decide ((xs.length : Int) = k) = true := by simpa using h1
          go_wp2_with fail
          refine (l7Full_c _ xs _ hI ht).mono ?_
          rintro e w4 ⟨rfl, hb5⟩
          have hb6 := Below.chain hb4 hb5
          clear hb4 hb5 hI
          rcases h2 : fullB xs with _ | _
          · have HS2 := Lib.hid (show cfB k (s + 1) = c by rw [HS.out]; unfold cfP; rw [h1, h2]; rfl)
            clear HS
            go_wp2
            go_roundw
            case rel => exact ⟨s + 1, by omega, by go_num, by rw [HS2.out], hb6⟩
            case measure => simp [intOf]; omega
          · have HS2 := Lib.hid (show cfB k (s + 1) = c + 1 by rw [HS.out]; unfold cfP; rw [h1, h2]; rfl)
            clear HS
            go_wp2
            go_roundw
            case rel => exact ⟨s + 1, by omega, by go_num, by rw [HS2.out]; exact int_val (by omega), hb6⟩
            case measure => simp [intOf]; omega
      · obtain rfl : s = 1024 := by omega
        go_wp2
        go_ret2
        exact ⟨by rw [HF.out]; rfl, hb⟩
theorem FnExactCountFullTests_walk (k : Int) (w : World) : Calls Try.prog 9 #[.int .i64 k] w fun e w' => e = .returned (.bool true) ∧ Below w.heap.size w w' := by
  obtain ⟨X, B, HE⟩ : ∃ X B, cfV k = .tuple #[.int .i64 X, .bool B] := ⟨_, _, rfl⟩
  have H1 := fun w => sCountFullTests_c k w
  have H2 := fun w => CountFullTests_c k w
  rw [HE] at H1 H2
  have G1 := Lib.hid H1; have G2 := Lib.hid H2
  clear H1 H2 HE
  go_enter Try.func9, Try.ntmps9
  go_wp2_with fail
  refine (G1.out _).mono ?_
  rintro e w1 ⟨rfl, hb1⟩
  go_wp2_with fail
  refine (G2.out _).mono ?_
  rintro e w2 ⟨rfl, hb2⟩
  have hb3 := Below.chain hb1 hb2
  clear hb1 hb2
  go_wp2
  go_ret
  exact ⟨rfl, hb3⟩
end Go.Proofs.Ytahpknjligaliaa
