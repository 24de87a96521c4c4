/- FnExactExecuteCommand: for every input the law returns true, and each argument reads behind the call as it read before. -/
import Derived.Test.YtohgjfdbnkjefaaGreatDoorKx27
import Derived.Test.YtohgjfdbnkjefaaGreatDoorRows
import Derived.Test.YtohgjfdbnkjefaaGreatDoorLeads
import Derived.Test.YtohgjfdbnkjefaaGreatDoorCards
import Derived.Test.YtohgjfdbnkjefaaGreatDoorTie
namespace Go.Proofs.YtohgjfdbnkjefaaGreatDoor.fnExactExecuteCommand
open Go.ChangeShapes Go.WideShapes Go.ChangeAt Go.RowKit
open Go
open Go.ChangeMaps (open_string shut_string)
set_option linter.unusedVariables false

set_option maxRecDepth 100000 in
theorem lifted (os : Os) (started : os.Started) (H : Type) (enc : TypeId × Value → H) :
    ReturnsInHanded {} Tryz.checked os 5 .any (fun w args => (Rows.fnExactExecuteCommandSpec.pre enc Tryz.prog Tryz.f5 [] false w args ∧ laidMetH Tryz.prog laidL w) ∧ sizedMet enc Tryz.prog Tryz.f5 (OpenSpec.ofChange Rows.fnExactExecuteCommandSpec) false w args)
      (Rows.fnExactExecuteCommandSpec.post enc Tryz.prog Tryz.f5 false true false false) := by
  refine handed_both (C := Tryz.checked) (X := fun w _ => laidMetH Tryz.prog laidL w) (fun _ _ _ hh h => h.of_heap hh) own started (by kernel_rfl) Tryz.func5
    (ChangeSpec.witness_shaped (enc := enc) (C := Tryz.checked) (os := os) (X := fun w _ => laidMetH Tryz.prog laidL w) false (World.laidAll Tryz.prog os laidL) #[.agg #[.int .i64 0, .int .i64 0, .int .i64 0, .int .i64 0, .int .i64 0, .int .i64 0, .int .i64 0, .int .i64 0, .int .i64 0, .int .i64 0, .int .i64 0, .int .i64 0, .int .i64 0, .int .i64 0, .int .i64 0, .int .i64 0, .int .i64 0, .int .i64 0, .int .i64 0, .string ByteArray.empty, .string ByteArray.empty, .int .i64 0], .string ByteArray.empty] 8 (World.laidAll_os _ _ _) (start_shaped os) (by kernel_rfl) (by kernel_rfl) (by kernel_rfl) (start_met os _)) ?_
  intro W base args ds gs before hval0 hW hcnd hL hsh
  have htab := tabC_of hL hsh
  have hval : ∀ (j : Nat) t v, Tryz.f5.params[j]? = some t → args[j]? = some v → Value.okWide Tryz.prog W .any base t v := hval0
  have hW' := hW
  obtain ⟨p, q, hA0, hV, rfl, hfz, hnd⟩ := hW
  have hA : DataW.TrodAll enc Tryz.prog W 0 (fun _ => true) true Tryz.f5.params.toList args.toList ds p := hA0
  rw [Tryz.params5] at hA hval
  obtain ⟨v0, vs0, d0, ds0, p0, q0, hargs, rfl, rfl, h0, r0⟩ := trodAll_cons hA
  obtain ⟨v1, vs1, d1, ds1, p1, q1, rfl, rfl, rfl, h1, r1⟩ := trodAll_cons r0
  obtain ⟨rfl, rfl, rfl⟩ := trodAll_nil r1
  obtain rfl : args = #[v0, v1] := by cases args; simp_all
  obtain ⟨rfl, rfl⟩ := trodVars_none hV
  have k0 := h0
  have lt0 : ∀ x ∈ p0, x.block < W.heap.size := by obtain ⟨m, hm⟩ := k0; exact DataW.trod_lt m _ _ _ hm
  have k1 := h1
  have lt1 : ∀ x ∈ p1, x.block < W.heap.size := by obtain ⟨m, hm⟩ := k1; exact DataW.trod_lt m _ _ _ hm
  obtain ⟨x0a, x0b, x0c, x0d, rfl, hx00, hx0a, hx0b⟩ := open_Console (hval 0 59 v0 rfl rfl) h0
  obtain ⟨x1, rfl, _, _, hs1⟩ := open_string Tryz.underlying9 (hval 1 9 v1 rfl rfl) h1
  clear hA0 hval0
  refine (FnExactExecuteCommand_walk x0a x0b x0c x0d x1 W hx00 hx0a hx0b hs1 htab).mono fun e W' ⟨he, bel⟩ => ?_
  subst he
  exact ⟨_, rfl, _, _, _, [], _, [], hW', trodAll_mk1 (shut_bool Tryz.underlying4 _), (trodAll_cons_mk (Below.trod laidOut (by kernel_rfl) (of_decide_eq_true (by kernel_rfl)) k0 bel lt0) (trodAll_cons_mk (Below.trod laidOut (by kernel_rfl) (of_decide_eq_true (by kernel_rfl)) k1 bel lt1) trodAll_mk0)), rfl, bel.frame _, fun h => by cases h⟩

set_option maxRecDepth 100000
theorem factIn : Tryz.prog.inPlace 5 = Rows.fnExactExecuteCommandRow.inPlace := by rw [inPlaceT rowsAll]; kernel_rfl
theorem factUn : Tryz.prog.unfollowed 5 = true := by rw [unfollowedT rowsAll]; kernel_rfl
theorem factRec : Tryz.prog.recurses 5 = true := recursesT factUn
theorem factVars : Tryz.prog.varsNamed 5 = Rows.fnExactExecuteCommandRow.named := by rw [varsT rowsAll]; kernel_rfl
theorem closed : joinedFacts Tryz.prog 5 Tryz.f5 Rows.fnExactExecuteCommandSpec Rows.fnExactExecuteCommandRow = true := by
  unfold joinedFacts
  rw [factIn, factUn, factRec, factVars, factMay, factLifts, factMake]
  simp only [Bool.and_eq_true]
  repeat' apply And.intro
  all_goals (first | exact True.intro | (as_aux_lemma => kernel_rfl))
theorem over : Rows.fnExactExecuteCommandRow.holds Tryz.pinned (OpenSpec.ofChange Rows.fnExactExecuteCommandSpec) :=
  OpenClaim.holds_of_wide 5 Tryz.f5 rfl rfl rfl rfl rfl rfl rfl ⟨rfl, rfl, rfl, rfl, rfl⟩ rfl rfl rfl rfl rfl (by kernel_rfl) Tryz.func5 closed
    (of_decide_eq_true (by kernel_rfl)) (by unfold Func.isWrapper; first | (rw [if_pos (by decide +kernel)]; kernel_rfl) | (rw [if_neg (by decide +kernel)]; exact ⟨rfl, rfl⟩))
    (fun os started H enc _ => lifted os started H enc)

theorem plainP : ∀ (j : Nat) (t : TypeId), Tryz.f5.params[j]? = some t → Tryz.prog.wantsStandIn t = false := fun j t ht => by
  rw [Tryz.params5] at ht
  have hm : t ∈ [59, 9] := by simpa using Array.mem_of_getElem? ht
  have hall : ([59, 9].all fun u => !Tryz.prog.wantsStandIn u) = true := by kernel_rfl
  simpa using List.all_eq_true.1 hall t hm
/-- THE STATEMENT -/
theorem proved : Rows.FnExactExecuteCommandCardSaid :=
  Claim7.holds_tied_plain_at .later [] [.data, .data, .data, .data, .sentinel, .sentinel, .pinned] true (true, "a5750bb201f8f386bff954613d962992e677d70f51ab5833c27754d492bd0fb5") true
    over (fun _ h => by cases h) (by as_aux_lemma => kernel_rfl) (fun _ h => by cases h) fnExactExecuteCommand_row_tie rfl ⟨rfl, rfl⟩ (by as_aux_lemma => kernel_rfl) rfl
    (fun f fn hf hfn => by
      obtain rfl : f = 5 := Option.some.inj ((show Tryz.prog.funcNamed "loop.example/g01265/laws.FnExactExecuteCommand" = some 5 by as_aux_lemma => kernel_rfl).symm.trans hf) |>.symm
      obtain rfl : fn = Tryz.f5 := (Option.some.inj (Tryz.func5.symm.trans hfn)).symm
      exact ⟨by as_aux_lemma => kernel_rfl, plainP⟩)
    (by as_aux_lemma => kernel_rfl)
#print axioms proved
end Go.Proofs.YtohgjfdbnkjefaaGreatDoor.fnExactExecuteCommand
