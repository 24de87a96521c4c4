/- The walk of the law CountNumbers: for every list of Faults and every slice of ints it returns true and turns nothing that was there. -/
import Derived.Test.YtahpknjligaliaaCount
import Derived.Test.YtahpknjligaliaaToFaults
import Derived.Test.YtahpknjligaliaaHelpFault
namespace Go.Proofs.Ytahpknjligaliaa
open Go.RowKit
set_option linter.unusedVariables false
set_option maxRecDepth 100000
theorem FnExactCountNumbers_walk (v0 : Value) (fs : List (Int × Int)) (v1 : Value) (r : List Int) (w : World) (h0 : Pairs w v0 fs) (h1 : Ints w v1 r) :
    Calls Try.prog 10 #[v0, v1] w fun e w' => e = .returned (.bool true) ∧ Below w.heap.size w w' := by
  obtain ⟨a0, c0, hv0, _, _, _⟩ := h0.parts
  obtain ⟨a1, c1, hv1, _, _, _⟩ := h1.parts
  subst hv0 hv1
  by_cases hl : 1048576 < r.length
  · go_enter Try.func10, Try.ntmps10
    go_wp2_with fail
    go_ret
    exact ⟨rfl, Below.refl _ _⟩
  · by_cases hf : 1048576 < fs.length
    · go_enter Try.func10, Try.ntmps10
      go_wp2_with fail
      refine (szFaultS_no _ fs 1048576 _ h0 (by omega) (by omega) (by omega)).mono ?_
      rintro e w1 ⟨rfl, rfl⟩
      go_wp2
      go_ret
      exact ⟨rfl, Below.refl _ _⟩
    · have hneg : ¬ (1048576 - (fs.length : Int)) < 0 := by omega
      go_enter Try.func10, Try.ntmps10
      go_wp2_with fail
      refine (szFaultS_yes _ fs 1048576 _ h0 (by omega) (by omega) (by omega)).mono ?_
      rintro e w1 ⟨rfl, rfl⟩
      go_wp2_with fail
      refine (toFaultS_c _ fs _ h0 (by omega)).mono ?_
      rintro e w2 ⟨u1, rfl, ho1, hb1⟩
      go_wp2_with fail
      refine (toIntS_c _ r _ (h1.below hb1) (by omega)).mono ?_
      rintro e w3 ⟨u2, rfl, ho2, hb2⟩
      have B2 := Below.chain hb1 hb2
      go_wp2_with fail
      refine (sCountNumbers_c _ _ fs r _ ((Pairs.of_own ho1).below hb2) (Ints.of_own ho2)).mono ?_
      rintro e w4 ⟨rfl, hb3⟩
      unfold cnV
      have B3 := Below.chain B2 hb3
      clear ho1 ho2
      go_wp2_with fail
      refine (toFaultS_c _ fs _ (h0.below B3) (by omega)).mono ?_
      rintro e w5 ⟨u3, rfl, ho3, hb4⟩
      have B4 := Below.chain B3 hb4
      go_wp2_with fail
      refine (toIntS_c _ r _ (h1.below B4) (by omega)).mono ?_
      rintro e w6 ⟨u4, rfl, ho4, hb5⟩
      have B5 := Below.chain B4 hb5
      go_wp2_with fail
      refine (CountNumbers_c _ _ fs r _ ((Pairs.of_own ho3).below hb5) (Ints.of_own ho4)).mono ?_
      rintro e w7 ⟨rfl, hb6⟩
      unfold cnV
      have B6 := Below.chain B5 hb6
      have p3 := ((Pairs.of_own ho3).below hb5).below hb6
      have p4 := (Ints.of_own ho4).below hb6
      clear ho3 ho4
      go_wp2_with fail
      refine (toFaultS_c _ fs _ (h0.below B6) (by omega)).mono ?_
      rintro e w8 ⟨u5, rfl, ho5, hb7⟩
      have B7 := Below.chain B6 hb7
      go_wp2_with fail
      refine (eqFaultS_c _ _ fs fs _ (p3.below hb7) (Pairs.of_own ho5)).mono ?_
      rintro e w9 ⟨rfl, hb8⟩
      have B8 := Below.chain B7 hb8
      go_wp2_with fail
      refine (toIntS_c _ r _ (h1.below B8) (by omega)).mono ?_
      rintro e w10 ⟨u6, rfl, ho6, hb9⟩
      have B9 := Below.chain B8 hb9
      go_wp2_with fail
      refine (eqIntS_c _ _ r r _ (((p4.below hb7).below hb8).below hb9) (Ints.of_own ho6)).mono ?_
      rintro e w11 ⟨rfl, hb10⟩
      go_wp2
      go_ret
      exact ⟨rfl, Below.chain B9 hb10⟩
end Go.Proofs.Ytahpknjligaliaa
