/- Plain: behind a Job that can be made a valid Bench has valid cells and Faults. -/
import Derived.Test.YtfflbbgipbnckaaJob4
namespace Go.Proofs.Ytfflbbgipbnckaa
open Go.RowKit
set_option linter.unusedVariables false
set_option maxRecDepth 100000
theorem bg_set_same {b : List Int} {i : Nat} (x : Int) (h : i < b.length) : bg (b.set i x) i = x := by
  unfold bg; simp [List.getD_eq_getElem?_getD, List.getElem?_set_self h]
theorem bg_set_ne (b : List Int) {i j : Nat} (x : Int) (h : i ≠ j) : bg (b.set i x) j = bg b j := by
  unfold bg; rw [List.getD_eq_getElem?_getD, List.getD_eq_getElem?_getD, List.getElem?_set_ne h]
theorem faultB_mk {d l : Int} (d0 : 0 ≤ d) (d1 : d ≤ 127) (l0 : 0 ≤ l) (l1 : l ≤ 127) (h : andC d l = 0) : faultB d l = true := by
  unfold faultB cellB; rw [inB_mk d0 d1, inB_mk l0 l1, h]; rfl
theorem cellB_mk {d : Int} (d0 : 0 ≤ d) (d1 : d ≤ 127) : cellB d = true := inB_mk d0 d1
theorem mv_and_all : ∀ t : Bool, ∀ x y : Fin 128, x.1 &&& y.1 = 0 → (mvC t (x.1 : Int)).toNat &&& (mvC t (y.1 : Int)).toNat = 0 := by decide +kernel
theorem mv_fault (t : Bool) {d l : Int} (h : faultB d l = true) : faultB (mvC t d) (mvC t l) = true := by
  obtain ⟨d0, d1, l0, l1, h4⟩ := faultB_true h
  have b1 := mvC_bd t d0 d1
  have b2 := mvC_bd t l0 l1
  obtain ⟨d, rfl⟩ := Int.eq_ofNat_of_zero_le d0
  obtain ⟨l, rfl⟩ := Int.eq_ofNat_of_zero_le l0
  refine faultB_mk b1.1 b1.2 b2.1 b2.2 ?_
  have h5 : d &&& l = 0 := by unfold andC at h4; simpa using h4
  have := mv_and_all t ⟨d, by omega⟩ ⟨l, by omega⟩ h5
  unfold andC
  rw [this]; rfl
theorem bit_not : ∀ v : Fin 7, 2 ^ v.1 &&& (127 - 2 ^ v.1) = 0 ∧ 2 ^ v.1 < 128 := by decide +kernel
theorem or_fault {d l : Int} {v : Nat} (hv : v < 7) (h : faultB d l = true) : faultB (orC d (bitC (v : Int))) (anC l (bitC (v : Int))) = true ∧ faultB (anC d (bitC (v : Int))) (orC l (bitC (v : Int))) = true := by
  obtain ⟨d0, d1, l0, l1, h4⟩ := faultB_true h
  obtain ⟨d, rfl⟩ := Int.eq_ofNat_of_zero_le d0
  obtain ⟨l, rfl⟩ := Int.eq_ofNat_of_zero_le l0
  have h5 : d &&& l = 0 := by unfold andC at h4; simpa using h4
  obtain ⟨hb, hb2⟩ := bit_not ⟨v, hv⟩
  simp only at hb hb2
  unfold orC anC bitC
  simp only [Int.toNat_natCast]
  generalize hB : 2 ^ v = B at *
  generalize hM : 127 - B = M at *
  have o1 : d ||| B < 2 ^ 7 := Nat.or_lt_two_pow (by omega) (by omega)
  have o2 : l ||| B < 2 ^ 7 := Nat.or_lt_two_pow (by omega) (by omega)
  have a1 : d &&& M < 2 ^ 7 := Nat.and_lt_two_pow _ (by omega)
  have a2 : l &&& M < 2 ^ 7 := Nat.and_lt_two_pow _ (by omega)
  have e1 : (d ||| B) &&& (l &&& M) = 0 := by
    rw [Nat.and_or_distrib_right, ← Nat.and_assoc, h5, Nat.zero_and, Nat.zero_or, Nat.and_comm l M, ← Nat.and_assoc, hb, Nat.zero_and]
  have e2 : (d &&& M) &&& (l ||| B) = 0 := by
    rw [Nat.and_or_distrib_left, Nat.and_assoc, Nat.and_comm M l, ← Nat.and_assoc, h5, Nat.zero_and, Nat.zero_or, Nat.and_assoc, Nat.and_comm M B, hb, Nat.and_zero]
  constructor
  · exact faultB_mk (by omega) (by omega) (by omega) (by omega) (by unfold andC; simp only [Int.toNat_natCast]; rw [e1]; rfl)
  · exact faultB_mk (by omega) (by omega) (by omega) (by omega) (by unfold andC; simp only [Int.toNat_natCast]; rw [e2]; rfl)
theorem goodAt_true {b : List Int} {j : Nat} (h : goodAt b j = true) : (0 ≤ bg b j ∧ bg b j ≤ 127) ∧ faultB (bg b (6 + j)) (bg b (12 + j)) = true := by
  unfold goodAt fB at h
  simp only [Bool.and_eq_true] at h
  exact ⟨cellB_true h.1, h.2⟩
theorem goodAt_mk {b : List Int} {j : Nat} (h1 : 0 ≤ bg b j) (h2 : bg b j ≤ 127) (h3 : faultB (bg b (6 + j)) (bg b (12 + j)) = true) : goodAt b j = true := by
  unfold goodAt fB
  rw [cellB_mk h1 h2]
  exact h3
theorem goodB_all {b : List Int} : goodB b = true ↔ (∀ j, j < 6 → goodAt b j = true) ∧ inB (bg b 18) 0 1000 = true := by
  unfold goodB goodTo
  simp only [Bool.and_eq_true, List.all_eq_true, List.mem_range]
theorem seenI_x (t : Bool) (x0 x1 x2 x3 x4 x5 x6 x7 x8 x9 x10 x11 x12 x13 x14 x15 x16 x17 x18 : Int) :
    seenI t [x0, x1, x2, x3, x4, x5, x6, x7, x8, x9, x10, x11, x12, x13, x14, x15, x16, x17, x18] 6 = [mvC t x5, mvC t x4, mvC t x3, mvC t x2, mvC t x1, mvC t x0, mvC t x11, mvC t x10, mvC t x9, mvC t x8, mvC t x7, mvC t x6, mvC t x17, mvC t x16, mvC t x15, mvC t x14, mvC t x13, mvC t x12, x18] := by kernel_rfl
theorem seen_good (t : Bool) {b : List Int} (hb : b.length = 19) (h : ∀ j, j < 6 → goodAt b j = true) : ∀ j, j < 6 → goodAt (seenI t b 6) j = true := by
  match b, hb with
  | [x0, x1, x2, x3, x4, x5, x6, x7, x8, x9, x10, x11, x12, x13, x14, x15, x16, x17, x18], _ =>
    rw [seenI_x]
    intro j hj
    have hh := goodAt_true (h (5 - j) (by omega))
    have hj6 : j = 0 ∨ j = 1 ∨ j = 2 ∨ j = 3 ∨ j = 4 ∨ j = 5 := by omega
    rcases hj6 with rfl | rfl | rfl | rfl | rfl | rfl <;> exact goodAt_mk (mvC_bd t hh.1.1 hh.1.2).1 (mvC_bd t hh.1.1 hh.1.2).2 (mv_fault t hh.2)
theorem made_len {b : List Int} (hb : b.length = 19) (k : Int) (a : Nat) (v : Int) : (madeB b k a v).length = 19 := by
  unfold madeB
  repeat (split; · (first | (simp [hb]; done) | (rw [seenI_len, hb])))
  exact hb
theorem made_18 {b : List Int} (hb : b.length = 19) (k : Int) {a : Nat} (v : Int) (ha : a < 6) : bg (madeB b k a v) 18 = bg b 18 := by
  unfold madeB
  split; · exact bg_set_ne _ _ (by omega)
  split; · exact bg_set_ne _ _ (by omega)
  split; · rw [bg_set_ne _ _ (by omega), bg_set_ne _ _ (by omega)]
  split; · rw [bg_set_ne _ _ (by omega), bg_set_ne _ _ (by omega)]
  split; · rw [bg_set_ne _ _ (by omega), bg_set_ne _ _ (by omega)]
  split; · exact seenI_18 _ _ 6 (by omega)
  split; · exact seenI_18 _ _ 6 (by omega)
  rfl
theorem two_good {b : List Int} {a : Nat} {x y : Int} (hb : b.length = 19) (ha : a < 6) (h : ∀ j, j < 6 → goodAt b j = true) (hf : faultB x y = true) : ∀ j, j < 6 → goodAt ((b.set (6 + a) x).set (12 + a) y) j = true := by
  intro j hj
  have hh := goodAt_true (h j hj)
  have e0 : bg ((b.set (6 + a) x).set (12 + a) y) j = bg b j := by rw [bg_set_ne _ _ (by omega), bg_set_ne _ _ (by omega)]
  refine goodAt_mk (by rw [e0]; exact hh.1.1) (by rw [e0]; exact hh.1.2) ?_
  by_cases hja : j = a
  · subst hja
    rw [bg_set_same _ (by simp; omega), bg_set_ne _ _ (by omega), bg_set_same _ (by omega)]
    exact hf
  · rw [bg_set_ne _ _ (by omega), bg_set_ne _ _ (by omega), bg_set_ne _ _ (by omega), bg_set_ne _ _ (by omega)]
    exact hh.2
theorem one_good {b : List Int} {a : Nat} {x : Int} (hb : b.length = 19) (ha : a < 6) (h : ∀ j, j < 6 → goodAt b j = true) (x0 : 0 ≤ x) (x1 : x ≤ 127) : ∀ j, j < 6 → goodAt (b.set a x) j = true := by
  intro j hj
  have hh := goodAt_true (h j hj)
  have hf : faultB (bg (b.set a x) (6 + j)) (bg (b.set a x) (12 + j)) = true := by rw [bg_set_ne _ _ (by omega), bg_set_ne _ _ (by omega)]; exact hh.2
  by_cases hja : j = a
  · subst hja
    exact goodAt_mk (by rw [bg_set_same _ (by omega)]; exact x0) (by rw [bg_set_same _ (by omega)]; exact x1) hf
  · have e0 : bg (b.set a x) j = bg b j := bg_set_ne _ _ (by omega)
    exact goodAt_mk (by rw [e0]; exact hh.1.1) (by rw [e0]; exact hh.1.2) hf
theorem made_good {b : List Int} {k a v : Int} (hb : b.length = 19) (hg : goodB b = true) (hm : makeB b k a v = true) : a.toNat < 6 ∧ ∀ j, j < 6 → goodAt (madeB b k a.toNat v) j = true := by
  have h := (goodB_all.1 hg).1
  unfold makeB at hm
  simp only [Bool.and_eq_true] at hm
  have h2 := inB_true hm.1
  have ha : a.toNat < 6 := by omega
  refine ⟨ha, ?_⟩
  have hk := hm.2
  generalize a.toNat = n at *
  unfold makeK at hk
  unfold madeB
  by_cases k1 : k = 1
  · rw [if_pos k1] at hk ⊢
    exact one_good hb ha h (dg_bd v).1 (dg_bd v).2
  rw [if_neg k1] at hk ⊢
  by_cases k2 : k = 2
  · rw [if_pos k2]
    exact one_good hb ha h (by omega) (by omega)
  rw [if_neg k2] at hk ⊢
  by_cases k3 : k = 3
  · rw [if_pos k3] at hk ⊢
    simp only [Bool.and_eq_true] at hk
    have h3 := inB_true hk.1
    obtain ⟨vn, rfl⟩ := Int.eq_ofNat_of_zero_le h3.1
    exact two_good hb ha h (or_fault (by omega) (goodAt_true (h n ha)).2).1
  rw [if_neg k3] at hk ⊢
  by_cases k4 : k = 4
  · rw [if_pos k4] at hk ⊢
    simp only [Bool.and_eq_true] at hk
    have h3 := inB_true hk.1
    obtain ⟨vn, rfl⟩ := Int.eq_ofNat_of_zero_le h3.1
    exact two_good hb ha h (or_fault (by omega) (goodAt_true (h n ha)).2).2
  rw [if_neg k4] at hk ⊢
  by_cases k5 : k = 5
  · rw [if_pos k5]
    exact two_good hb ha h rfl
  rw [if_neg k5] at hk ⊢
  by_cases k6 : k = 6
  · rw [if_pos k6]
    exact seen_good true hb h
  rw [if_neg k6]
  by_cases k7 : k = 7
  · rw [if_pos k7]
    exact seen_good false hb h
  rw [if_neg k7]
  exact h
/-- whether the Bench behind a Job is valid hangs on its count alone -/
theorem cnt_good {b : List Int} {k a v : Int} (hb : b.length = 19) (hg : goodB b = true) (hm : makeB b k a v = true) : goodB (doB b k a v) = !(bg b 18 == 1000) ∧ (doB b k a v).length = 19 ∧ doB b k a v = (madeB b k a.toNat v).set 18 (bg b 18 + 1) := by
  obtain ⟨ha, h⟩ := made_good hb hg hm
  have hl := made_len hb k a.toNat v
  have h18 := made_18 hb k v ha
  have e : doB b k a v = (madeB b k a.toNat v).set 18 (bg b 18 + 1) := by unfold doB cntB; rw [h18]
  refine ⟨?_, by rw [e, List.length_set, hl], e⟩
  have hc := inB_true (goodB_all.1 hg).2
  have hall : ∀ j, j < 6 → goodAt (doB b k a v) j = true := by
    intro j hj
    have hh := goodAt_true (h j hj)
    rw [e]
    exact goodAt_mk (by rw [bg_set_ne _ _ (by omega)]; exact hh.1.1) (by rw [bg_set_ne _ _ (by omega)]; exact hh.1.2) (by rw [bg_set_ne _ _ (by omega), bg_set_ne _ _ (by omega)]; exact hh.2)
  have hcnt : bg (doB b k a v) 18 = bg b 18 + 1 := by rw [e, bg_set_same _ (by omega)]
  rw [Bool.eq_iff_iff, goodB_all, hcnt]
  constructor
  · intro hx
    have := inB_true hx.2
    simp; omega
  · intro hx
    simp at hx
    exact ⟨hall, inB_mk (by omega) (by omega)⟩
end Go.Proofs.Ytfflbbgipbnckaa
