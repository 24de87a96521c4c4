/- Walks of ShownRow, both texts. -/
import Derived.Test.YtfflbbgipbnckaaDoorRowsOf
import Derived.Test.YtfflbbgipbnckaaDoorHelp
import Derived.Test.YtfflbbgipbnckaaDoorToFaults
import Derived.Deep.AppendLies
namespace Go.Proofs.YtfflbbgipbnckaaDoor
open Go.RowKit
set_option linter.unusedVariables false
set_option maxRecDepth 100000
def shownTo (fs : List (Int × Int)) (r : List Int) (k : Nat) : List Int := ((fs.zip r).take k).map fun p => shC p.1.1 p.1.2 p.2
theorem shownTo_le (fs : List (Int × Int)) (r : List Int) (k : Nat) : (shownTo fs r k).length ≤ k := by simp [shownTo, List.length_take]; omega
theorem shownTo_succ {fs : List (Int × Int)} {r : List Int} {k : Nat} {f : Int × Int} {c : Int} (hf : fs[k]? = some f) (hc : r[k]? = some c) : shownTo fs r (k + 1) = shownTo fs r k ++ [shC f.1 f.2 c] := by
  have h : (fs.zip r)[k]? = some (f, c) := by rw [List.getElem?_zip_eq_some]; exact ⟨hf, hc⟩
  unfold shownTo
  rw [take_snoc h]; simp
def srL (fs : List (Int × Int)) (r : List Int) : List Int := if areB fs r then shownTo fs r r.length else []
theorem srL_le (fs : List (Int × Int)) (r : List Int) : (srL fs r).length ≤ 6 := by
  unfold srL; split
  · rename_i h; exact Nat.le_trans (shownTo_le _ _ _) (rowB_le (areB_row h))
  · simp
/-- the post of a text that returns a slice of ints of the call's own and a bool -/
def IntsPost (w : World) (L : List Int) (b : Bool) (e : Ending) (w' : World) : Prop :=
  ∃ u, e = .returned (.tuple #[u, .bool b]) ∧ w'.ownsRow w.heap.size 3 1 u L.length (L.map (Value.int .i64)) ∧ Below w.heap.size w w'
theorem IntsPost.mk' {w w' : World} {L L' : List Int} {b b' : Bool} {u : Value} (hL : L = L') (hbb : b = b') (ho : w'.ownsRow w.heap.size 3 1 u L'.length (L'.map (Value.int .i64))) (hb : Below w.heap.size w w') : IntsPost w L b (.returned (.tuple #[u, .bool b'])) w' := by
  subst hL hbb; exact ⟨u, rfl, ho, hb⟩
end Go.Proofs.YtfflbbgipbnckaaDoor
