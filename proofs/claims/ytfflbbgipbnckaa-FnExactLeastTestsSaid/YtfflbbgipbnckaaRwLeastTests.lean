/- FnExactLeastTests: for every input the law returns true, and each argument reads behind the call as it read before. -/
import Derived.Test.YtfflbbgipbnckaaRows
import Derived.Test.YtfflbbgipbnckaaOpen
import Derived.Test.YtfflbbgipbnckaaLeads
import Derived.Test.YtfflbbgipbnckaaLwLeastTests
namespace Go.Proofs.Ytfflbbgipbnckaa.fnExactLeastTests
open Go.ChangeShapes Go.WideShapes Go.ChangeAt Go.RowKit
open Go.ChangeMaps (open_string shut_string)
set_option linter.unusedVariables false

set_option maxRecDepth 100000 in
theorem lifted (os : Os) (started : os.Started) (H : Type) (enc : TypeId × Value → H) :
    ReturnsInHanded {} Try.checked os 5 .any (Rows.fnExactLeastTestsSpec.pre6 enc Try.prog Try.f5 Rows.fnExactLeastTestsRow.domain false) (Rows.fnExactLeastTestsSpec.post enc Try.prog Try.f5 false true false false) := by
  refine returnsInHanded_of_change (C := Try.checked) own started (by kernel_rfl) Try.func5
    (ChangeSpec.witness6 (enc := enc) (C := Try.checked) false ⟨#[], #[], []⟩ 8 (by kernel_rfl) (by kernel_rfl) (by kernel_rfl) (by kernel_rfl)) ?_
  intro W base args ds gs before hval0 hW hcnd _
  have hval : ∀ (j : Nat) t v, Try.f5.params[j]? = some t → args[j]? = some v → Value.okWide Try.prog W .any base t v := hval0
  have hW' := hW
  obtain ⟨p, q, hA0, hV, rfl, hfz, hnd⟩ := hW
  have hA : DataW.TrodAll enc Try.prog W 0 (fun _ => true) true Try.f5.params.toList args.toList ds p := hA0
  rw [Try.params5] at hA hval
  obtain ⟨rfl, rfl, rfl⟩ := trodAll_none hA
  obtain ⟨rfl, rfl⟩ := trodVars_none hV
  clear hA0 hval0
  refine (FnExactLeastTests_walk W).mono fun e W' ⟨he, bel⟩ => ?_
  subst he
  exact ⟨_, rfl, _, _, _, [], _, [], hW', trodAll_mk1 (shut_bool Try.underlying4 _), trodAll_mk0, rfl, bel.frame _, fun h => by cases h⟩

set_option maxRecDepth 100000
theorem factIn : Try.prog.inPlace 5 = Rows.fnExactLeastTestsRow.inPlace := by rw [inPlaceT rowsAll]; kernel_rfl
theorem factUn : Try.prog.unfollowed 5 = true := by rw [unfollowedT rowsAll]; kernel_rfl
theorem factRec : Try.prog.recurses 5 = true := recursesT factUn
theorem factVars : Try.prog.varsNamed 5 = Rows.fnExactLeastTestsRow.named := by rw [varsT rowsAll]; kernel_rfl
theorem closed : joinedFacts Try.prog 5 Try.f5 Rows.fnExactLeastTestsSpec Rows.fnExactLeastTestsRow = true := by
  unfold joinedFacts
  rw [factIn, factUn, factRec, factVars, factMay, factLifts, factMake]
  simp only [Bool.and_eq_true]
  repeat' apply And.intro
  all_goals (first | exact True.intro | (as_aux_lemma => kernel_rfl))
theorem over : Rows.fnExactLeastTestsRow.holds Try.pinned (OpenSpec.ofChange Rows.fnExactLeastTestsSpec) :=
  OpenClaim.holds_of_wide 5 Try.f5 rfl rfl rfl rfl rfl rfl rfl ⟨rfl, rfl, rfl, rfl, rfl⟩ rfl rfl rfl rfl rfl (by kernel_rfl) Try.func5 closed
    (of_decide_eq_true (by kernel_rfl)) (by unfold Func.isWrapper; first | (rw [if_pos (by decide +kernel)]; kernel_rfl) | (rw [if_neg (by decide +kernel)]; exact ⟨rfl, rfl⟩))
    (fun os started H enc _ => lifted os started H enc)

/-- THE STATEMENT -/
theorem proved : Rows.FnExactLeastTestsSaid := over
#print axioms proved
end Go.Proofs.Ytfflbbgipbnckaa.fnExactLeastTests
