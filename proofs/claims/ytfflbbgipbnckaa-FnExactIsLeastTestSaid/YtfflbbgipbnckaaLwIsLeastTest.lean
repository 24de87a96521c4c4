/- The walk of the law IsLeastTest: for every slice of ints it returns true and turns nothing that was there. -/
import Derived.Test.YtfflbbgipbnckaaLeast2
namespace Go.Proofs.Ytfflbbgipbnckaa
open Go.RowKit
set_option linter.unusedVariables false
theorem FnExactIsLeastTest_walk (v : Value) (xs : List Int) (w : World) (hv : Ints w v xs) :
    Calls Try.prog 3 #[v] w fun e w' => e = .returned (.bool true) ∧ Below w.heap.size w w' := by
  obtain ⟨a, c, hvv, hc1, hc2, HC⟩ := hv.parts
  subst hvv
  by_cases hl : 1048576 < xs.length
  · go_enter Try.func3, Try.ntmps3
    go_wp2_with fail
    go_ret
    exact ⟨rfl, by (repeat (first | exact Below.refl _ _ | exact (Below.refl _ _).drew | assumption | exact below_one _ | refine Below.chain ?_ (by assumption) | refine Below.drew ?_ | refine Below.alc ?_ _ | refine below_drewN ?_ | (refine Below.setCell ?_ ?_ _) | exact Nat.le_refl _ | (simp; done) | (simp; omega)))⟩
  · go_enter Try.func3, Try.ntmps3
    go_wp2_with fail
    refine (toIntS_c _ xs _ (Ints.below hv (by (repeat (first | exact Below.refl _ _ | exact (Below.refl _ _).drew | assumption | exact below_one _ | refine Below.chain ?_ (by assumption) | refine Below.drew ?_ | refine Below.alc ?_ _ | refine below_drewN ?_ | (refine Below.setCell ?_ ?_ _) | exact Nat.le_refl _ | (simp; done) | (simp; omega))))) (by omega)).mono ?_
    rintro e w1 ⟨u1, rfl, ho1, hb1⟩
    go_wp2_with fail
    refine (sIsLeastTest_c _ xs _ (Ints.of_own ho1)).mono ?_
    rintro e w2 ⟨rfl, hb2⟩
    unfold ltV
    go_wp2_with fail
    refine (toIntS_c _ xs _ (Ints.below hv (by (repeat (first | exact Below.refl _ _ | exact (Below.refl _ _).drew | assumption | exact below_one _ | refine Below.chain ?_ (by assumption) | refine Below.drew ?_ | refine Below.alc ?_ _ | refine below_drewN ?_ | (refine Below.setCell ?_ ?_ _) | exact Nat.le_refl _ | (simp; done) | (simp; omega))))) (by omega)).mono ?_
    rintro e w3 ⟨u2, rfl, ho2, hb3⟩
    go_wp2_with fail
    refine (IsLeastTest_c _ xs _ (Ints.of_own ho2)).mono ?_
    rintro e w4 ⟨rfl, hb4⟩
    unfold ltV
    go_wp2_with fail
    refine (toIntS_c _ xs _ (Ints.below hv (by (repeat (first | exact Below.refl _ _ | exact (Below.refl _ _).drew | assumption | exact below_one _ | refine Below.chain ?_ (by assumption) | refine Below.drew ?_ | refine Below.alc ?_ _ | refine below_drewN ?_ | (refine Below.setCell ?_ ?_ _) | exact Nat.le_refl _ | (simp; done) | (simp; omega))))) (by omega)).mono ?_
    rintro e w5 ⟨u3, rfl, ho3, hb5⟩
    go_wp2_with fail
    refine (eqIntS_c _ _ xs xs _ (Ints.below (Ints.of_own ho2) (by (repeat (first | exact Below.refl _ _ | exact (Below.refl _ _).drew | assumption | exact below_one _ | refine Below.chain ?_ (by assumption) | refine Below.drew ?_ | refine Below.alc ?_ _ | refine below_drewN ?_ | (refine Below.setCell ?_ ?_ _) | exact Nat.le_refl _ | (simp; done) | (simp; omega))))) (Ints.of_own ho3)).mono ?_
    rintro e w6 ⟨rfl, hb6⟩
    go_wp2
    go_ret
    exact ⟨rfl, by (repeat (first | exact Below.refl _ _ | exact (Below.refl _ _).drew | assumption | exact below_one _ | refine Below.chain ?_ (by assumption) | refine Below.drew ?_ | refine Below.alc ?_ _ | refine below_drewN ?_ | (refine Below.setCell ?_ ?_ _) | exact Nat.le_refl _ | (simp; done) | (simp; omega)))⟩
end Go.Proofs.Ytfflbbgipbnckaa
