/- Places of a byte in a text, plainly: the first, the last; a text without its newline. -/
import Derived.Test.YtlipkplomndjcaaDoorLogP
import Derived.Lib.LastIndexLaws
import Derived.Lib.Strings
import Derived.Lib.Bytealg
namespace Go.Proofs.YtlipkplomndjcaaDoor
set_option linter.unusedVariables false
theorem indexByte_hit {a b : Bs} {c : UInt8} (h : c ∉ a) : Lib.indexByte (a ++ c :: b) c = a.length := by
  induction a with
  | nil => simp [Lib.indexByte]
  | cons x t ih =>
    simp only [List.mem_cons, not_or] at h
    have hx : (x == c) = false := by simp; exact fun e => h.1 e.symm
    simp only [List.cons_append, Lib.indexByte, hx, ih h.2]
    have : ((t.length : Int) == -1) = false := by simp
    simp [this]
theorem indexByte_miss {s : Bs} {c : UInt8} (h : c ∉ s) : Lib.indexByte s c = -1 := by
  induction s with
  | nil => rfl
  | cons x t ih =>
    simp only [List.mem_cons, not_or] at h
    have hx : (x == c) = false := by simp; exact fun e => h.1 e.symm
    simp [Lib.indexByte, hx, ih h.2]
/-- a byte stands in a text, first behind bytes that are others; or it stands nowhere -/
theorem first_at (s : Bs) (c : UInt8) : (∃ a b, s = a ++ c :: b ∧ c ∉ a) ∨ c ∉ s := by
  induction s with
  | nil => right; simp
  | cons x t ih =>
    by_cases hx : x = c
    · subst hx; exact .inl ⟨[], t, rfl, by simp⟩
    · rcases ih with ⟨a, b, rfl, h⟩ | h
      · exact .inl ⟨x :: a, b, rfl, by simp; exact ⟨fun e => hx e.symm, h⟩⟩
      · right; simp; exact ⟨fun e => hx e.symm, h⟩
theorem occ_one (s : Bs) (c : UInt8) (i : Nat) : Lib.occAt s [c] i = true ↔ s[i]? = some c := by
  unfold Lib.occAt
  rw [← List.head?_drop]
  cases s.drop i with
  | nil => simp
  | cons x t => simp [List.isPrefixOf]; exact eq_comm
theorem lastIdx_any (s : Bs) (c : UInt8) : Lib.lastIndex s [c] = -1 ∨ ∃ i : Nat, i < s.length ∧ Lib.lastIndex s [c] = i := by
  unfold Lib.lastIndex
  split
  · rename_i h
    simp at h
    rcases Lib.lastOcc_spec s [c] (s.length - [c].length + 1) with h1 | ⟨i, h1, h2, _⟩
    · exact .inl h1.1
    · exact .inr ⟨i, by simp at h1; omega, h2⟩
  · exact .inl rfl
theorem lastIdx_hit {a b : Bs} {c : UInt8} (h : c ∉ b) : Lib.lastIndex (a ++ c :: b) [c] = a.length := by
  unfold Lib.lastIndex
  rw [if_pos (by simp; omega)]
  have hat : (a ++ c :: b)[a.length]? = some c := by simp
  rcases Lib.lastOcc_spec (a ++ c :: b) [c] ((a ++ c :: b).length - [c].length + 1) with ⟨_, h1⟩ | ⟨i, h1, h2, h3, h4⟩
  · have := h1 a.length (by simp; omega)
    rw [(occ_one _ _ _).2 hat] at this; cases this
  · rw [h2]
    rw [occ_one] at h3
    have hi : i = a.length := by
      rcases Nat.lt_trichotomy i a.length with hlt | he | hgt
      · have := h4 a.length hlt (by simp; omega)
        rw [(occ_one _ _ _).2 hat] at this; cases this
      · exact he
      · exfalso
        obtain ⟨j, rfl⟩ : ∃ j, i = a.length + 1 + j := ⟨i - (a.length + 1), by omega⟩
        rw [List.getElem?_append_right (by omega), show a.length + 1 + j - a.length = j + 1 by omega, List.getElem?_cons_succ] at h3
        exact h (List.mem_of_getElem? h3)
    rw [hi]
theorem trim_hit (a : Bs) : Lib.trimSuffix (a ++ [10]) [10] = a := by
  unfold Lib.trimSuffix Lib.hasSuffix
  rw [if_pos (by rw [List.isSuffixOf_iff_suffix]; exact List.suffix_append _ _)]
  simp
theorem trim_len (s p : Bs) : (Lib.trimSuffix s p).length ≤ s.length := by
  unfold Lib.trimSuffix; split
  · simp
  · exact Nat.le_refl _
theorem suffix_iff (s : Bs) : Lib.hasSuffix s [10] = true ↔ ∃ t, s = t ++ [10] := by
  unfold Lib.hasSuffix
  rw [List.isSuffixOf_iff_suffix]
  exact ⟨fun ⟨t, h⟩ => ⟨t, h.symm⟩, fun ⟨t, h⟩ => ⟨t, h.symm⟩⟩
/-- the last sign '#' of a sealed text -/
theorem seal_last (u : Bs) : Lib.lastIndex (sealS u) [35] = u.length := by
  unfold sealS
  exact lastIdx_hit (not_mem_of_digit (itoa_digit (ckS_bd _).1) (by decide))
theorem itoa_no32 {k : Nat} : (32 : UInt8) ∉ Lib.itoa (k : Int) := not_mem_of_digit (itoa_digit (by omega)) (by decide)
/-- the first line of bytes: as far as the first newline, it included; or all of them -/
def First (l r : Bs) : Prop := (∃ p, l = p ++ [10] ∧ (10 : UInt8) ∉ p) ∨ ((10 : UInt8) ∉ l ∧ r = [])
theorem First.begins {l r : Bs} {k : Nat} {e : Bs × Bs} (h : First l r) (hb : Begins k (l ++ r) e) : l = lnS k e := by
  obtain ⟨ok, x, hx⟩ := hb
  rcases h with ⟨p, rfl, hp⟩ | ⟨hl, rfl⟩
  · unfold lnS at hx ⊢
    rw [List.append_assoc, List.append_assoc] at hx
    rw [(part_inj hp (sealS_no10 ok) hx).1]
  · rw [List.append_nil] at hx
    exact absurd (by rw [hx]; unfold lnS; simp) hl
end Go.Proofs.YtlipkplomndjcaaDoor
