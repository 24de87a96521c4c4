/- The walk of the law FirstFinding: for every slice of ints and every State it returns true and turns nothing that was there. -/
import Derived.Test.YtahpknjligaliaaHelp
import Derived.Test.YtahpknjligaliaaState
namespace Go.Proofs.Ytahpknjligaliaa
open Go.RowKit
set_option linter.unusedVariables false
theorem FnExactFirstFinding_walk (v : Value) (xs : List Int) (bar kind : Int) (w : World) (hv : Ints w v xs) :
    Calls Try.prog 4 #[v, .agg #[.int .i64 bar, .int .i64 kind]] w fun e w' => e = .returned (.bool true) ∧ Below w.heap.size w w' := by
  obtain ⟨a, c, hvv, hc1, hc2, HC⟩ := hv.parts
  have hv0 : Ints (w.alloc (.cells #[.int .i64 bar, .int .i64 kind] 37)) v xs := hv.below (below_one _)
  by_cases hl : 1048576 < xs.length
  · subst hvv
    go_enter Try.func4, Try.ntmps4
    go_wp2_with fail
    go_ret
    exact ⟨rfl, by (repeat (first | exact Below.refl _ _ | exact (Below.refl _ _).drew | assumption | exact below_one _ | refine Below.chain ?_ (by assumption) | refine Below.drew ?_ | refine Below.alc ?_ _ | refine below_drewN ?_ | (refine Below.setCell ?_ ?_ _) | exact Nat.le_refl _ | (simp; done) | (simp; omega)))⟩
  · have g0 : (w.alloc (.cells #[.int .i64 bar, .int .i64 kind] 37)).cell? ⟨w.heap.size, 0, none⟩ = some (.int .i64 bar) := by rw [World.cell?_alloc_at _ _ _ _ rfl]; rfl
    have g1 : (w.alloc (.cells #[.int .i64 bar, .int .i64 kind] 37)).cell? ⟨w.heap.size, 1, none⟩ = some (.int .i64 kind) := by rw [World.cell?_alloc_at _ _ _ _ rfl]; rfl
    have hb0 := below_one (w := w) (.cells #[.int .i64 bar, .int .i64 kind] 37)
    subst hvv
    go_enter Try.func4, Try.ntmps4
    go_wp2_with fail
    go_region_held3 (fun w' => w'.cell? ⟨w.heap.size, 0, none⟩ = some (.int .i64 bar) ∧ w'.cell? ⟨w.heap.size, 1, none⟩ = some (.int .i64 kind))
      (first | go_keep | (go_split_ands; exact ⟨cell_later (by assumption) (by assumption), cell_later (by assumption) (by assumption)⟩))
      (first | (go_at_call 31; refine (toIntS_c _ xs _ (Ints.below hv (by (repeat (first | exact Below.refl _ _ | exact (Below.refl _ _).drew | assumption | exact below_one _ | refine Below.chain ?_ (by assumption) | refine Below.drew ?_ | refine Below.alc ?_ _ | refine below_drewN ?_ | (refine Below.setCell ?_ ?_ _) | exact Nat.le_refl _ | (simp; done) | (simp; omega))))) (by omega)).mono ?_; rintro e w' ⟨u1, rfl, ho1, hb1⟩) | (go_at_call 32; refine (toState_c bar kind _).mono ?_; rintro e w' ⟨rfl, hb2⟩) | (go_at_call 30; refine (sFirstFinding_c _ xs bar kind _ (Ints.below (Ints.of_own ho1) (by (repeat (first | exact Below.refl _ _ | exact (Below.refl _ _).drew | assumption | exact below_one _ | refine Below.chain ?_ (by assumption) | refine Below.drew ?_ | refine Below.alc ?_ _ | refine below_drewN ?_ | (refine Below.setCell ?_ ?_ _) | exact Nat.le_refl _ | (simp; done) | (simp; omega)))))).mono ?_; rintro e w' ⟨rfl, hb3⟩; unfold firstFindingV))
    go_split_ands
    go_wp2_with fail
    refine (toIntS_c _ xs _ (Ints.below hv (by (repeat (first | exact Below.refl _ _ | exact (Below.refl _ _).drew | assumption | exact below_one _ | refine Below.chain ?_ (by assumption) | refine Below.drew ?_ | refine Below.alc ?_ _ | refine below_drewN ?_ | (refine Below.setCell ?_ ?_ _) | exact Nat.le_refl _ | (simp; done) | (simp; omega))))) (by omega)).mono ?_
    rintro e w4 ⟨u2, rfl, ho2, hb4⟩
    have q0 := cell_later hb4 (by assumption : World.cell? _ ⟨w.heap.size, 0, none⟩ = some (.int .i64 bar))
    have q1 := cell_later hb4 (by assumption : World.cell? _ ⟨w.heap.size, 1, none⟩ = some (.int .i64 kind))
    go_wp2_with fail
    refine (toState_c bar kind _).mono ?_
    rintro e w5 ⟨rfl, hb5⟩
    go_wp2_with fail
    refine (FirstFinding_c _ xs bar kind _ (Ints.below (Ints.of_own ho2) (by (repeat (first | exact Below.refl _ _ | exact (Below.refl _ _).drew | assumption | exact below_one _ | refine Below.chain ?_ (by assumption) | refine Below.drew ?_ | refine Below.alc ?_ _ | refine below_drewN ?_ | (refine Below.setCell ?_ ?_ _) | exact Nat.le_refl _ | (simp; done) | (simp; omega)))))).mono ?_
    rintro e w6 ⟨rfl, hb6⟩
    unfold firstFindingV
    go_wp2_with fail
    refine (toIntS_c _ xs _ (Ints.below hv (by (repeat (first | exact Below.refl _ _ | exact (Below.refl _ _).drew | assumption | exact below_one _ | refine Below.chain ?_ (by assumption) | refine Below.drew ?_ | refine Below.alc ?_ _ | refine below_drewN ?_ | (refine Below.setCell ?_ ?_ _) | exact Nat.le_refl _ | (simp; done) | (simp; omega))))) (by omega)).mono ?_
    rintro e w7 ⟨u3, rfl, ho3, hb7⟩
    go_wp2_with fail
    refine (eqIntS_c _ _ xs xs _ (Ints.below (Ints.of_own ho2) (by (repeat (first | exact Below.refl _ _ | exact (Below.refl _ _).drew | assumption | exact below_one _ | refine Below.chain ?_ (by assumption) | refine Below.drew ?_ | refine Below.alc ?_ _ | refine below_drewN ?_ | (refine Below.setCell ?_ ?_ _) | exact Nat.le_refl _ | (simp; done) | (simp; omega))))) (Ints.of_own ho3)).mono ?_
    rintro e w8 ⟨rfl, hb8⟩
    go_wp2
    go_ret
    exact ⟨rfl, by (repeat (first | exact Below.refl _ _ | exact (Below.refl _ _).drew | assumption | exact below_one _ | refine Below.chain ?_ (by assumption) | refine Below.drew ?_ | refine Below.alc ?_ _ | refine below_drewN ?_ | (refine Below.setCell ?_ ?_ _) | exact Nat.le_refl _ | (simp; done) | (simp; omega)))⟩
end Go.Proofs.Ytahpknjligaliaa
