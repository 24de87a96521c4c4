/- Walks of the laws' copies and comparisons of a Bench. -/
import Derived.Test.YtlipkplomndjcaaBench
namespace Go.Proofs.Ytlipkplomndjcaa
open Go.RowKit
set_option linter.unusedVariables false
set_option maxRecDepth 100000
theorem len6 {b : List Int} (h : b.length = 6) : ∃ x0 x1 x2 x3 x4 x5, b = [x0, x1, x2, x3, x4, x5] := by
  match b, h with
  | [x0, x1, x2, x3, x4, x5], _ => exact ⟨x0, x1, x2, x3, x4, x5, rfl⟩
/-- six of the ints -/
def pt (b : List Int) (o : Nat) : List Int := (b.drop o).take 6
theorem part6 {w : World} {g : Nat} {b : List Int} (h : w.rangeAt g 0 (ints b)) (o : Nat) : w.rangeAt g o (ints (pt b o)) := by
  have := range_sub h o 6
  rw [Nat.zero_add] at this
  simpa [ints, pt, List.map_take, List.map_drop] using this
theorem part6_len {b : List Int} (h : b.length = 19) {o : Nat} (ho : o ≤ 12) : (pt b o).length = 6 := by simp [pt, h]; omega
theorem cell18 {w : World} {g : Nat} {b : List Int} (h : w.rangeAt g 0 (ints b)) {j : Nat} (hj : j < b.length) : w.cell? ⟨g, j, none⟩ = some (.int .i64 (bg b j)) := by
  have := h j (.int .i64 (bg b j)) (by have := ints_get hj; simpa using this)
  rwa [Nat.zero_add] at this
theorem pt_join {b : List Int} (h : b.length = 19) : ints b = ((ints (pt b 0) ++ ints (pt b 6)) ++ ints (pt b 12)) ++ [.int .i64 (bg b 18)] := by
  have : b = ((pt b 0 ++ pt b 6) ++ pt b 12) ++ [bg b 18] := by
    match b, h with
    | [_, _, _, _, _, _, _, _, _, _, _, _, _, _, _, _, _, _, _], _ => rfl
  conv => lhs; rw [this]
  simp [ints]
/-- a new Bench -/
def zB : Obj := .cells #[.int .i64 0, .int .i64 0, .int .i64 0, .int .i64 0, .int .i64 0, .int .i64 0, .int .i64 0, .int .i64 0, .int .i64 0, .int .i64 0, .int .i64 0, .int .i64 0, .int .i64 0, .int .i64 0, .int .i64 0, .int .i64 0, .int .i64 0, .int .i64 0, .int .i64 0] 67
end Go.Proofs.Ytlipkplomndjcaa
