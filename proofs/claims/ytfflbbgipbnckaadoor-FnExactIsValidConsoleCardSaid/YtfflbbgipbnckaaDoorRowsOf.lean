/- Walks of the functions that tell whether a list is a row, and whether there is a Fault for each of its cells. -/
import Derived.Test.YtfflbbgipbnckaaDoorAllFault
namespace Go.Proofs.YtfflbbgipbnckaaDoor
open Go.RowKit
set_option linter.unusedVariables false
def rowB (xs : List Int) : Bool := decide (xs.length ≤ 6) && xs.all cellB
theorem rowB_le {xs : List Int} (h : rowB xs = true) : xs.length ≤ 6 := by simp [rowB] at h; exact h.1
theorem rowB_cell {xs : List Int} (h : rowB xs = true) {k : Nat} {x : Int} (hx : xs[k]? = some x) : 0 ≤ x ∧ x ≤ 127 := by
  simp only [rowB, Bool.and_eq_true, List.all_eq_true] at h
  exact cellB_true (h.2 x (List.mem_of_getElem? hx))
def fB (f : Int × Int) : Bool := faultB f.1 f.2
def areB (fs : List (Int × Int)) (r : List Int) : Bool := rowB r && (decide (fs.length = r.length) && fs.all fB)
theorem areB_fault {fs : List (Int × Int)} {r : List Int} (h : areB fs r = true) {k : Nat} {f : Int × Int} (hf : fs[k]? = some f) : 0 ≤ f.1 ∧ f.1 ≤ 127 ∧ 0 ≤ f.2 ∧ f.2 ≤ 127 := by
  simp only [areB, Bool.and_eq_true, List.all_eq_true] at h
  have := faultB_true (h.2.2 f (List.mem_of_getElem? hf))
  exact ⟨this.1, this.2.1, this.2.2.1, this.2.2.2.1⟩
theorem areB_row {fs : List (Int × Int)} {r : List Int} (h : areB fs r = true) : rowB r = true := by
  simp only [areB, Bool.and_eq_true] at h; exact h.1
theorem areB_len {fs : List (Int × Int)} {r : List Int} (h : areB fs r = true) : fs.length = r.length := by
  simp only [areB, Bool.and_eq_true, decide_eq_true_eq] at h; exact h.2.1
theorem IsRow_c (v : Value) (xs : List Int) (w : World) (hv : Ints w v xs) : Calls Tryd.prog 71 #[v] w fun e w' => e = .returned (.bool (rowB xs)) ∧ Below w.heap.size w w' := by
  obtain ⟨a, c, hvv, hc1, hc2, HC⟩ := hv.parts
  by_cases h : xs.length ≤ 6
  · subst hvv
    go_enter Tryd.func71, Tryd.ntmps71
    go_wp2_with (go_at_call 84; refine (areAllInt_c _ xs 85 cellB _ hv (fun _ _ => by kernel_rfl) (fun x w' => IsCell_c x w')).mono ?_; rintro e w' ⟨rfl, hb⟩)
    go_ret
    exact ⟨bool_ret (by simp [rowB, h]), by assumption⟩
  · subst hvv
    go_enter Tryd.func71, Tryd.ntmps71
    go_wp2_with fail
    go_ret
    exact ⟨bool_ret (by simp [rowB]; omega), Below.refl _ _⟩
end Go.Proofs.YtfflbbgipbnckaaDoor
