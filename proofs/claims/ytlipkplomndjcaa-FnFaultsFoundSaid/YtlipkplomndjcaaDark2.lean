/- Walk of the checker's sums over the sets of dark bars. -/
import Derived.Test.YtlipkplomndjcaaDark
namespace Go.Proofs.Ytlipkplomndjcaa
open Go.RowKit
set_option linter.unusedVariables false
set_option maxRecDepth 100000
theorem OwnSS.parts {w : World} {lo : Nat} {u : Value} {xss : List (List Int)} (h : OwnSS w lo u xss) : ∃ a c, u = .slice a xss.length c ∧ xss.length ≤ 9223372036854775807 ∧
    Hid (∀ k xs, xss[k]? = some xs → ∃ b off a' c', a = some ⟨b, off, none⟩ ∧ w.cell? ⟨b, off + k, none⟩ = some (.slice a' xs.length c') ∧ xs.length ≤ 9223372036854775807 ∧ Ints w (.slice a' xs.length c') xs) := by
  obtain ⟨vs, ho, hi⟩ := h
  have hle := (Sl.of_own ho).le
  obtain ⟨a, c, rfl, h1, h2, h3, h4⟩ := Sl.of_own ho
  refine ⟨a, c, rfl, hle, fun k xs hk => ?_⟩
  have hlt : k < xss.length := (List.getElem?_eq_some_iff.1 hk).1
  obtain ⟨b, off, rfl, hc⟩ := h4 (by omega)
  have hv : vs[k]? = some vs[k] := List.getElem?_eq_getElem (by rw [hi.1]; exact hlt)
  have hown := hi.2.1 k _ _ hv hk
  have hI : Ints w vs[k] xs := Ints.of_own hown
  obtain ⟨a', c', e, _⟩ := hI.parts
  refine ⟨b, off, a', c', rfl, by rw [hc k (by omega), hv, e], ?_, by rw [← e]; exact hI⟩
  exact hI.le
def dkH (kind : Int) (xs : List Int) : Bool := kind == 1 || (kind == 2 && xs.length == 1)
def dkI (kind : Int) (xss : List (List Int)) (i : Nat) : Nat := ((xss.take i).filter (dkH kind)).length
theorem dkI_succ {kind : Int} {xss : List (List Int)} {i : Nat} {xs : List Int} (h : xss[i]? = some xs) : dkI kind xss (i + 1) = dkI kind xss i + if dkH kind xs then 1 else 0 := by
  unfold dkI
  rw [take_snoc h, List.filter_append, List.length_append]
  cases hq : dkH kind xs <;> simp [hq]
theorem dkI_le (kind : Int) (xss : List (List Int)) (i : Nat) : dkI kind xss i ≤ xss.length :=
  Nat.le_trans (List.length_filter_le _ _) (List.length_take_le' _ _)
def dkG (kind : Int) (d : Nat) : Nat := dkI kind (grpL d 0) (grpL d 0).length + if kind == 3 && (grpL d 0).length == 10 then 1 else 0
theorem dkG_le {kind : Int} (hk : kind = 1 ∨ kind = 2 ∨ kind = 3) (d : Nat) : dkG kind d ≤ 10 := by
  have h1 := dkI_le kind (grpL d 0) (grpL d 0).length
  have h2 : (grpL d 0).length ≤ 10 := grpTo_le _ _ _
  unfold dkG
  rcases hk with rfl | rfl | rfl
  · simp; omega
  · simp; omega
  · have : dkI 3 (grpL d 0) (grpL d 0).length = 0 := by unfold dkI; simp [dkH]
    rw [this]; split <;> omega
end Go.Proofs.Ytlipkplomndjcaa
