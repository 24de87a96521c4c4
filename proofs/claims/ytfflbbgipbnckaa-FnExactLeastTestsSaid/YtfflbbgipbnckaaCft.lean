/- How many sets are full: the walk of CountFullTests. -/
import Derived.Test.YtfflbbgipbnckaaSubs
import Derived.Test.YtfflbbgipbnckaaStates2
import Derived.Test.YtfflbbgipbnckaaBox
import Derived.Test.YtfflbbgipbnckaaFrac
import Derived.Test.YtfflbbgipbnckaaFaults
namespace Go.Proofs.Ytfflbbgipbnckaa
open Go.RowKit
set_option linter.unusedVariables false
set_option maxRecDepth 100000
def cfP (k : Int) (xs : List Int) : Bool := ((xs.length : Int) == k) && fullB xs
def cfN (k : Int) (done : List (List Int)) : Nat := (done.filter (cfP k)).length
theorem cfN_snoc (k : Int) (done : List (List Int)) (part : List Int) : cfN k (done ++ [part]) = cfN k done + if cfP k part then 1 else 0 := by
  unfold cfN; rw [List.filter_append, List.length_append]
  cases h : cfP k part <;> simp [h]
structure CfI (kb m : Nat) (k : Int) (done : List (List Int)) (w : World) : Prop where
  ck : w.cell? ⟨kb, 0, none⟩ = some (.int .i64 k)
  cm : w.cell? ⟨m, 0, none⟩ = some (.int .i64 (IntKind.i64.wrap (cfN k done : Nat)))
  fm : w.frozen? ⟨m, 0, none⟩ = false
  ne : kb ≠ m
theorem wrap_succ (n : Nat) : IntKind.i64.wrap (IntKind.i64.wrap (n : Int) + 1) = IntKind.i64.wrap ((n + 1 : Nat) : Int) := by
  simp only [IntKind.wrap, IntKind.bits, IntKind.signed]; simp; omega
/-- how many parts of a set that are full have so many digits: by the bits of a number, or by leaving the last one open -/
def cfA (k : Int) : Nat := cfN k (subsL tenI)
def cfV (k : Int) : Value := .tuple #[.int .i64 (if inB k 0 10 then (cfA k : Int) else 0), .bool (inB k 0 10)]
theorem loopE_len : ∀ (l part : List Int), (loopE l part).length + 1 = 2 ^ l.length
  | [], _ => rfl
  | x :: t, part => by
    have h1 := loopE_len t (part ++ [x])
    have h2 := loopE_len t part
    simp only [loopE, List.length_append, List.length_cons, Nat.pow_succ] at h1 h2 ⊢
    omega
theorem cfA_le (k : Int) : cfA k ≤ 1024 := by
  unfold cfA cfN
  refine Nat.le_trans (List.length_filter_le _ _) ?_
  have := loopE_len tenI []
  unfold subsL
  simp only [List.length_cons]
  rw [this]; decide
def tenA : Array Value := #[.int .i64 0, .int .i64 1, .int .i64 2, .int .i64 3, .int .i64 4, .int .i64 5, .int .i64 6, .int .i64 7, .int .i64 8, .int .i64 9]
theorem tenA_eq : tenA.toList = ints tenI := rfl
theorem allDigits_c (w : World) : Calls Try.prog 45 #[] w fun e w' => ∃ u, e = .returned u ∧ w'.ownsRow w.heap.size 3 1 u 10 (ints tenI) ∧ Below w.heap.size w w' := by
  have ho := World.ownsRow_lit (e := 3) (size := 1) (base := w.heap.size) w tenA 10 (Nat.le_refl _) (by decide) rfl
  rw [tenA_eq] at ho
  unfold tenA at ho
  go_enter Try.func45, Try.ntmps45
  go_wp2
  go_ret
  exact ⟨_, rfl, ho, below_one _⟩
theorem l7Ten_c (w : World) : Calls Try.prog 44 #[] w fun e w' => ∃ u, e = .returned u ∧ w'.ownsRow w.heap.size 3 1 u 10 (ints tenI) ∧ Below w.heap.size w w' := by
  have ho := World.ownsRow_lit (e := 3) (size := 1) (base := w.heap.size) w tenA 10 (Nat.le_refl _) (by decide) rfl
  rw [tenA_eq] at ho
  unfold tenA at ho
  go_enter Try.func44, Try.ntmps44
  go_wp2
  go_ret
  exact ⟨_, rfl, ho, below_one _⟩
end Go.Proofs.Ytfflbbgipbnckaa
