/- Plain laws of the faults that are found: each shows the cells of its digits, they stand in order, and the first number shows the row. -/
import Derived.Test.YtlipkplomndjcaaFo2
import Derived.Test.YtlipkplomndjcaaFirst
namespace Go.Proofs.Ytlipkplomndjcaa
set_option linter.unusedVariables false
theorem fits_at {d l : Int} {ds cs : List Int} (h : fitsB d l ds cs = true) {k : Nat} {x c : Int} (hx : ds[k]? = some x) (hc : cs[k]? = some c) : shC d l (dg x) = c := by
  cases hq : (shC d l (dg x) == c)
  · rw [fitsB_false hx hc hq] at h; cases h
  · simpa using hq
theorem mem_rowF {q : Int × Int → Bool} {d n : Nat} {f : Int × Int} (h : f ∈ rowF q d n) : ∃ l : Nat, l < n ∧ f = ((d : Int), (l : Int)) ∧ freeB d l = true ∧ q f = true := by
  unfold rowF at h
  rw [List.mem_map] at h
  obtain ⟨l, hl, rfl⟩ := h
  rw [List.mem_filter, List.mem_range, Bool.and_eq_true] at hl
  exact ⟨l, hl.1, rfl, hl.2⟩
theorem mem_colF {q : Int × Int → Bool} {n : Nat} {f : Int × Int} (h : f ∈ colF q n) : ∃ d l : Nat, d < n ∧ l < 128 ∧ f = ((d : Int), (l : Int)) ∧ freeB d l = true ∧ q f = true := by
  unfold colF at h
  rw [List.mem_flatMap] at h
  obtain ⟨d, hd, hf⟩ := h
  obtain ⟨l, hl, e, h1, h2⟩ := mem_rowF hf
  exact ⟨d, l, List.mem_range.1 hd, hl, e, h1, h2⟩
theorem mem_allFq {q : Int × Int → Bool} {f : Int × Int} (h : f ∈ allF q) : faultB f.1 f.2 = true ∧ q f = true := by
  obtain ⟨d, l, hd, hl, rfl, h1, h2⟩ := mem_colF h
  refine ⟨?_, h2⟩
  have : (andC (d : Int) (l : Int) == 0) = true := by
    unfold andC; unfold freeB at h1
    simp at h1 ⊢; omega
  simp only [faultB, Bool.and_eq_true]
  exact ⟨inB_mk (by omega) (by omega), inB_mk (by omega) (by omega), this⟩
def befF (f g : Int × Int) : Prop := f.1 < g.1 ∨ f.1 = g.1 ∧ f.2 < g.2
theorem rowF_asc (q : Int × Int → Bool) (d n : Nat) : (rowF q d n).Pairwise befF := by
  unfold rowF
  rw [List.pairwise_map]
  refine List.Pairwise.filter _ ?_
  refine List.pairwise_lt_range.imp ?_
  intro a b h
  exact .inr ⟨rfl, by simp; omega⟩
theorem colF_asc (q : Int × Int → Bool) : ∀ n : Nat, (colF q n).Pairwise befF
  | 0 => by simp [colF]
  | n + 1 => by
    rw [colF_succ, List.pairwise_append]
    refine ⟨colF_asc q n, rowF_asc q n 128, fun a ha b hb => ?_⟩
    obtain ⟨d, l, hd, _, rfl, _⟩ := mem_colF ha
    obtain ⟨l', _, rfl, _⟩ := mem_rowF hb
    exact .inl (by simp; omega)
theorem foL_asc (ds cs : List Int) : (foL ds cs).Pairwise befF := by
  unfold foL; split
  · exact colF_asc _ _
  · exact List.Pairwise.nil
theorem pair_next {α : Type} {R : α → α → Prop} {l : List α} (h : l.Pairwise R) {k : Nat} {a b : α} (ha : l[k]? = some a) (hb : l[k + 1]? = some b) : R a b := by
  obtain ⟨h1, e1⟩ := List.getElem?_eq_some_iff.1 ha
  obtain ⟨h2, e2⟩ := List.getElem?_eq_some_iff.1 hb
  have := List.pairwise_iff_getElem.1 h k (k + 1) h1 h2 (by omega)
  rw [e1, e2] at this; exact this
theorem foL_mem {ds cs : List Int} {f : Int × Int} (h : f ∈ foL ds cs) : foOk ds cs = true ∧ faultB f.1 f.2 = true ∧ fitsB f.1 f.2 ds cs = true := by
  unfold foL at h
  split at h
  · rename_i hq
    obtain ⟨h1, h2⟩ := mem_allFq h
    exact ⟨hq, h1, h2⟩
  · simp at h
theorem foOk_at {ds cs : List Int} (h : foOk ds cs = true) {k : Nat} {x : Int} (hx : ds[k]? = some x) : digitB x = true := by
  simp only [foOk, Bool.and_eq_true, decide_eq_true_eq] at h
  exact List.all_eq_true.1 h.2.2.1 x (List.mem_of_getElem? hx)
theorem foOk_len {ds cs : List Int} (h : foOk ds cs = true) : cs.length = ds.length ∧ ds.length ≤ 10 := by
  simp only [foOk, Bool.and_eq_true, decide_eq_true_eq] at h
  have := inB_true h.1
  exact ⟨h.2.1, by omega⟩
theorem fnOk_eq (fs : List (Int × Int)) (r : List Int) : fnOk fs r = (cnOk fs r && decide (0 < cnN fs r)) := by
  unfold fnOk cnN
  cases h : cnOk fs r
  · rfl
  · simp
    by_cases h0 : prodTo fs r r.length = 0
    · simp [h0]
    · simp [h0]; omega
theorem digL_mem {d l c x : Int} (h : x ∈ digL d l c) : digitB x = true ∧ shC d l (dg x) = c := by
  unfold digL at h
  rw [List.mem_filter] at h
  exact ⟨(by have := h.1; revert this; exact (by decide : ∀ y ∈ tenI, digitB y = true) x), by simpa using h.2⟩
/-- the first number of a row that can stand for one: each of its digits shows the row's cell -/
theorem firstTo_at {fs : List (Int × Int)} {r : List Int} (h : fnOk fs r = true) {k : Nat} {f : Int × Int} {c : Int} (hf : fs[k]? = some f) (hc : r[k]? = some c) :
    (firstTo fs r r.length)[k]? = some (headDig f c) ∧ digitB (headDig f c) = true ∧ shC f.1 f.2 (dg (headDig f c)) = c := by
  have hk := (List.getElem?_eq_some_iff.1 hc).1
  have hn : nDig f c ≠ 0 := by
    intro h0
    have := prodTo_zero_of hf hc h0 hk
    simp [fnOk, this] at h
  have hm := digL_mem (List.mem_of_getElem? (head_at hn))
  refine ⟨?_, hm.1, hm.2⟩
  unfold firstTo
  have h2 : (fs.zip r)[k]? = some (f, c) := by rw [List.getElem?_zip_eq_some]; exact ⟨hf, hc⟩
  rw [List.getElem?_map, List.getElem?_take, if_pos hk, h2]; rfl
theorem firstTo_len {fs : List (Int × Int)} {r : List Int} (h : fs.length = r.length) : (firstTo fs r r.length).length = r.length := by
  unfold firstTo; rw [List.length_map, List.length_take, List.length_zip]; omega
/-- the cells of the first number, and that they show the row -/
theorem first_shows {fs : List (Int × Int)} {r : List Int} (h : fnOk fs r = true) :
    areB fs ((fnL fs r).map dg) = true ∧ srL fs ((fnL fs r).map dg) = r ∧ ∀ x ∈ fnL fs r, digitB x = true := by
  have hc : cnOk fs r = true := by simp only [fnOk, Bool.and_eq_true] at h; exact h.1
  have ha := cnOk_are hc
  have hl := areB_len ha
  have hL : fnL fs r = firstTo fs r r.length := by unfold fnL; rw [if_pos h]
  rw [hL]
  have hlen := firstTo_len hl
  have key : ∀ k, k < r.length → ∃ f c, fs[k]? = some f ∧ r[k]? = some c := fun k hk =>
    ⟨fs[k]'(by omega), r[k], List.getElem?_eq_getElem (by omega), List.getElem?_eq_getElem hk⟩
  have hdig : ∀ x ∈ firstTo fs r r.length, digitB x = true := by
    intro x hx
    obtain ⟨k, hk⟩ := List.mem_iff_getElem?.1 hx
    have hlt := (List.getElem?_eq_some_iff.1 hk).1
    obtain ⟨f, c, hf, hc⟩ := key k (by omega)
    obtain ⟨e1, e2, _⟩ := firstTo_at h hf hc
    rw [hk] at e1; cases e1; exact e2
  have hB : areB fs ((firstTo fs r r.length).map dg) = true := by
    unfold areB at ha ⊢
    simp only [Bool.and_eq_true, decide_eq_true_eq] at ha ⊢
    refine ⟨?_, by rw [List.length_map]; omega, ha.2.2⟩
    unfold rowB
    simp only [Bool.and_eq_true, decide_eq_true_eq, List.all_eq_true]
    refine ⟨?_, fun y hy => ?_⟩
    · have := rowB_le ha.1; rw [List.length_map]; omega
    · obtain ⟨x, _, rfl⟩ := List.mem_map.1 hy
      have := dg_bd x
      exact inB_mk this.1 this.2
  refine ⟨hB, ?_, hdig⟩
  unfold srL
  rw [if_pos hB]
  apply List.ext_getElem?
  intro k
  by_cases hk : k < r.length
  · obtain ⟨f, c, hf, hc⟩ := key k hk
    obtain ⟨e1, _, e3⟩ := firstTo_at h hf hc
    unfold shownTo
    have h2 : (fs.zip ((firstTo fs r r.length).map dg))[k]? = some (f, dg (headDig f c)) := by
      rw [List.getElem?_zip_eq_some]; exact ⟨hf, by rw [List.getElem?_map, e1]; rfl⟩
    rw [List.getElem?_map, List.getElem?_take, if_pos (by rw [List.length_map]; omega), h2, hc]
    simp [e3]
  · rw [List.getElem?_eq_none (by have := shownTo_le fs ((firstTo fs r r.length).map dg) ((firstTo fs r r.length).map dg).length; rw [List.length_map] at this ⊢; omega), List.getElem?_eq_none (by omega)]
end Go.Proofs.Ytlipkplomndjcaa
