/- Texts of this claim, gathered: First, Ff, Bench2, Bench3, Job1, Shows, Tdp, Csd. -/
import Derived.Test.YtbobiiodbbcodaaGreatDoorK7
import Derived.Lib.SliceRun
namespace Go.Proofs.YtbobiiodbbcodaaGreatDoor
open Go.RowKit
set_option linter.unusedVariables false
set_option maxRecDepth 100000
def headDig (f : Int × Int) (c : Int) : Int := (digL f.1 f.2 c).headD 0
def firstTo (fs : List (Int × Int)) (r : List Int) (k : Nat) : List Int := ((fs.zip r).take k).map fun p => headDig p.1 p.2
theorem firstTo_le (fs : List (Int × Int)) (r : List Int) (k : Nat) : (firstTo fs r k).length ≤ k := by simp [firstTo, List.length_take]; omega
theorem firstTo_succ {fs : List (Int × Int)} {r : List Int} {k : Nat} {f : Int × Int} {c : Int} (hf : fs[k]? = some f) (hc : r[k]? = some c) : firstTo fs r (k + 1) = firstTo fs r k ++ [headDig f c] := by
  have h : (fs.zip r)[k]? = some (f, c) := by rw [List.getElem?_zip_eq_some]; exact ⟨hf, hc⟩
  unfold firstTo
  rw [take_snoc h]; simp
theorem head_at {f : Int × Int} {c : Int} (h : nDig f c ≠ 0) : (digL f.1 f.2 c)[0]? = some (headDig f c) := by
  unfold nDig at h
  unfold headDig
  cases hd : digL f.1 f.2 c with
  | nil => rw [hd] at h; simp at h
  | cons a l => simp
theorem prodTo_zero_of {fs : List (Int × Int)} {r : List Int} {k n : Nat} {f : Int × Int} {c : Int} (hf : fs[k]? = some f) (hc : r[k]? = some c) (h0 : nDig f c = 0) (hn : k < n) : prodTo fs r n = 0 := by
  have h1 : prodTo fs r (k + 1) = 0 := by rw [prodTo_succ hf hc, h0, Nat.mul_zero]
  have : ∀ m, prodTo fs r (k + 1 + m) = 0 := by
    intro m
    induction m with
    | zero => exact h1
    | succ m ih =>
      cases h : (fs.zip r)[k + 1 + m]? with
      | none =>
        have e : prodTo fs r (k + 1 + (m + 1)) = prodTo fs r (k + 1 + m) := by
          unfold prodTo
          have hl := List.getElem?_eq_none_iff.1 h
          rw [List.take_of_length_le (by omega), List.take_of_length_le hl]
        rw [e]; exact ih
      | some p =>
        obtain ⟨f', c'⟩ := p
        rw [List.getElem?_zip_eq_some] at h
        rw [show k + 1 + (m + 1) = (k + 1 + m) + 1 by omega, prodTo_succ h.1 h.2, ih, Nat.zero_mul]
  have e := this (n - (k + 1))
  rw [show k + 1 + (n - (k + 1)) = n by omega] at e
  exact e
def fnOk (fs : List (Int × Int)) (r : List Int) : Bool := cnOk fs r && !decide (prodTo fs r r.length = 0)
def fnL (fs : List (Int × Int)) (r : List Int) : List Int := if fnOk fs r then firstTo fs r r.length else []
theorem fnOk_len {fs : List (Int × Int)} {r : List Int} (h : cnOk fs r = true) : r.length ≤ 6 := by
  simp only [cnOk, Bool.and_eq_true] at h; exact rowB_le (areB_row h.1)
theorem cnOk_are {fs : List (Int × Int)} {r : List Int} (h : cnOk fs r = true) : areB fs r = true := by
  simp only [cnOk, Bool.and_eq_true] at h; exact h.1
theorem fnL_le (fs : List (Int × Int)) (r : List Int) : (fnL fs r).length ≤ 6 := by
  unfold fnL; split
  · rename_i h; simp only [fnOk, Bool.and_eq_true] at h; exact Nat.le_trans (firstTo_le _ _ _) (fnOk_len h.1)
  · simp
end Go.Proofs.YtbobiiodbbcodaaGreatDoor
namespace Go.Proofs.YtbobiiodbbcodaaGreatDoor
set_option linter.unusedVariables false
theorem fits_at {d l : Int} {ds cs : List Int} (h : fitsB d l ds cs = true) {k : Nat} {x c : Int} (hx : ds[k]? = some x) (hc : cs[k]? = some c) : shC d l (dg x) = c := by
  cases hq : (shC d l (dg x) == c)
  · rw [fitsB_false hx hc hq] at h; cases h
  · simpa using hq
theorem mem_rowF {q : Int × Int → Bool} {d n : Nat} {f : Int × Int} (h : f ∈ rowF q d n) : ∃ l : Nat, l < n ∧ f = ((d : Int), (l : Int)) ∧ freeB d l = true ∧ q f = true := by
  unfold rowF at h
  rw [List.mem_map] at h
  obtain ⟨l, hl, rfl⟩ := h
  rw [List.mem_filter, List.mem_range, Bool.and_eq_true] at hl
  exact ⟨l, hl.1, rfl, hl.2⟩
theorem mem_colF {q : Int × Int → Bool} {n : Nat} {f : Int × Int} (h : f ∈ colF q n) : ∃ d l : Nat, d < n ∧ l < 128 ∧ f = ((d : Int), (l : Int)) ∧ freeB d l = true ∧ q f = true := by
  unfold colF at h
  rw [List.mem_flatMap] at h
  obtain ⟨d, hd, hf⟩ := h
  obtain ⟨l, hl, e, h1, h2⟩ := mem_rowF hf
  exact ⟨d, l, List.mem_range.1 hd, hl, e, h1, h2⟩
theorem mem_allFq {q : Int × Int → Bool} {f : Int × Int} (h : f ∈ allF q) : faultB f.1 f.2 = true ∧ q f = true := by
  obtain ⟨d, l, hd, hl, rfl, h1, h2⟩ := mem_colF h
  refine ⟨?_, h2⟩
  have : (andC (d : Int) (l : Int) == 0) = true := by
    unfold andC; unfold freeB at h1
    simp at h1 ⊢; omega
  simp only [faultB, Bool.and_eq_true]
  exact ⟨inB_mk (by omega) (by omega), inB_mk (by omega) (by omega), this⟩
def befF (f g : Int × Int) : Prop := f.1 < g.1 ∨ f.1 = g.1 ∧ f.2 < g.2
theorem rowF_asc (q : Int × Int → Bool) (d n : Nat) : (rowF q d n).Pairwise befF := by
  unfold rowF
  rw [List.pairwise_map]
  refine List.Pairwise.filter _ ?_
  refine List.pairwise_lt_range.imp ?_
  intro a b h
  exact .inr ⟨rfl, by simp; omega⟩
theorem colF_asc (q : Int × Int → Bool) : ∀ n : Nat, (colF q n).Pairwise befF
  | 0 => by simp [colF]
  | n + 1 => by
    rw [colF_succ, List.pairwise_append]
    refine ⟨colF_asc q n, rowF_asc q n 128, fun a ha b hb => ?_⟩
    obtain ⟨d, l, hd, _, rfl, _⟩ := mem_colF ha
    obtain ⟨l', _, rfl, _⟩ := mem_rowF hb
    exact .inl (by simp; omega)
theorem foL_asc (ds cs : List Int) : (foL ds cs).Pairwise befF := by
  unfold foL; split
  · exact colF_asc _ _
  · exact List.Pairwise.nil
theorem pair_next {α : Type} {R : α → α → Prop} {l : List α} (h : l.Pairwise R) {k : Nat} {a b : α} (ha : l[k]? = some a) (hb : l[k + 1]? = some b) : R a b := by
  obtain ⟨h1, e1⟩ := List.getElem?_eq_some_iff.1 ha
  obtain ⟨h2, e2⟩ := List.getElem?_eq_some_iff.1 hb
  have := List.pairwise_iff_getElem.1 h k (k + 1) h1 h2 (by omega)
  rw [e1, e2] at this; exact this
theorem foL_mem {ds cs : List Int} {f : Int × Int} (h : f ∈ foL ds cs) : foOk ds cs = true ∧ faultB f.1 f.2 = true ∧ fitsB f.1 f.2 ds cs = true := by
  unfold foL at h
  split at h
  · rename_i hq
    obtain ⟨h1, h2⟩ := mem_allFq h
    exact ⟨hq, h1, h2⟩
  · simp at h
theorem foOk_at {ds cs : List Int} (h : foOk ds cs = true) {k : Nat} {x : Int} (hx : ds[k]? = some x) : digitB x = true := by
  simp only [foOk, Bool.and_eq_true, decide_eq_true_eq] at h
  exact List.all_eq_true.1 h.2.2.1 x (List.mem_of_getElem? hx)
theorem foOk_len {ds cs : List Int} (h : foOk ds cs = true) : cs.length = ds.length ∧ ds.length ≤ 10 := by
  simp only [foOk, Bool.and_eq_true, decide_eq_true_eq] at h
  have := inB_true h.1
  exact ⟨h.2.1, by omega⟩
theorem fnOk_eq (fs : List (Int × Int)) (r : List Int) : fnOk fs r = (cnOk fs r && decide (0 < cnN fs r)) := by
  unfold fnOk cnN
  cases h : cnOk fs r
  · rfl
  · simp
    by_cases h0 : prodTo fs r r.length = 0
    · simp [h0]
    · simp [h0]; omega
theorem digL_mem {d l c x : Int} (h : x ∈ digL d l c) : digitB x = true ∧ shC d l (dg x) = c := by
  unfold digL at h
  rw [List.mem_filter] at h
  exact ⟨(by have := h.1; revert this; exact (by decide : ∀ y ∈ tenI, digitB y = true) x), by simpa using h.2⟩
/-- the first number of a row that can stand for one: each of its digits shows the row's cell -/
theorem firstTo_at {fs : List (Int × Int)} {r : List Int} (h : fnOk fs r = true) {k : Nat} {f : Int × Int} {c : Int} (hf : fs[k]? = some f) (hc : r[k]? = some c) :
    (firstTo fs r r.length)[k]? = some (headDig f c) ∧ digitB (headDig f c) = true ∧ shC f.1 f.2 (dg (headDig f c)) = c := by
  have hk := (List.getElem?_eq_some_iff.1 hc).1
  have hn : nDig f c ≠ 0 := by
    intro h0
    have := prodTo_zero_of hf hc h0 hk
    simp [fnOk, this] at h
  have hm := digL_mem (List.mem_of_getElem? (head_at hn))
  refine ⟨?_, hm.1, hm.2⟩
  unfold firstTo
  have h2 : (fs.zip r)[k]? = some (f, c) := by rw [List.getElem?_zip_eq_some]; exact ⟨hf, hc⟩
  rw [List.getElem?_map, List.getElem?_take, if_pos hk, h2]; rfl
theorem firstTo_len {fs : List (Int × Int)} {r : List Int} (h : fs.length = r.length) : (firstTo fs r r.length).length = r.length := by
  unfold firstTo; rw [List.length_map, List.length_take, List.length_zip]; omega
/-- the cells of the first number, and that they show the row -/
theorem first_shows {fs : List (Int × Int)} {r : List Int} (h : fnOk fs r = true) :
    areB fs ((fnL fs r).map dg) = true ∧ srL fs ((fnL fs r).map dg) = r ∧ ∀ x ∈ fnL fs r, digitB x = true := by
  have hc : cnOk fs r = true := by simp only [fnOk, Bool.and_eq_true] at h; exact h.1
  have ha := cnOk_are hc
  have hl := areB_len ha
  have hL : fnL fs r = firstTo fs r r.length := by unfold fnL; rw [if_pos h]
  rw [hL]
  have hlen := firstTo_len hl
  have key : ∀ k, k < r.length → ∃ f c, fs[k]? = some f ∧ r[k]? = some c := fun k hk =>
    ⟨fs[k]'(by omega), r[k], List.getElem?_eq_getElem (by omega), List.getElem?_eq_getElem hk⟩
  have hdig : ∀ x ∈ firstTo fs r r.length, digitB x = true := by
    intro x hx
    obtain ⟨k, hk⟩ := List.mem_iff_getElem?.1 hx
    have hlt := (List.getElem?_eq_some_iff.1 hk).1
    obtain ⟨f, c, hf, hc⟩ := key k (by omega)
    obtain ⟨e1, e2, _⟩ := firstTo_at h hf hc
    rw [hk] at e1; cases e1; exact e2
  have hB : areB fs ((firstTo fs r r.length).map dg) = true := by
    unfold areB at ha ⊢
    simp only [Bool.and_eq_true, decide_eq_true_eq] at ha ⊢
    refine ⟨?_, by rw [List.length_map]; omega, ha.2.2⟩
    unfold rowB
    simp only [Bool.and_eq_true, decide_eq_true_eq, List.all_eq_true]
    refine ⟨?_, fun y hy => ?_⟩
    · have := rowB_le ha.1; rw [List.length_map]; omega
    · obtain ⟨x, _, rfl⟩ := List.mem_map.1 hy
      have := dg_bd x
      exact inB_mk this.1 this.2
  refine ⟨hB, ?_, hdig⟩
  unfold srL
  rw [if_pos hB]
  apply List.ext_getElem?
  intro k
  by_cases hk : k < r.length
  · obtain ⟨f, c, hf, hc⟩ := key k hk
    obtain ⟨e1, _, e3⟩ := firstTo_at h hf hc
    unfold shownTo
    have h2 : (fs.zip ((firstTo fs r r.length).map dg))[k]? = some (f, dg (headDig f c)) := by
      rw [List.getElem?_zip_eq_some]; exact ⟨hf, by rw [List.getElem?_map, e1]; rfl⟩
    rw [List.getElem?_map, List.getElem?_take, if_pos (by rw [List.length_map]; omega), h2, hc]
    simp [e3]
  · rw [List.getElem?_eq_none (by have := shownTo_le fs ((firstTo fs r r.length).map dg) ((firstTo fs r r.length).map dg).length; rw [List.length_map] at this ⊢; omega), List.getElem?_eq_none (by omega)]
end Go.Proofs.YtbobiiodbbcodaaGreatDoor
namespace Go.Proofs.YtbobiiodbbcodaaGreatDoor
open Go.RowKit
set_option linter.unusedVariables false
set_option maxRecDepth 100000
theorem len6 {b : List Int} (h : b.length = 6) : ∃ x0 x1 x2 x3 x4 x5, b = [x0, x1, x2, x3, x4, x5] := by
  match b, h with
  | [x0, x1, x2, x3, x4, x5], _ => exact ⟨x0, x1, x2, x3, x4, x5, rfl⟩
/-- six of the ints -/
def pt (b : List Int) (o : Nat) : List Int := (b.drop o).take 6
theorem part6 {w : World} {g : Nat} {b : List Int} (h : w.rangeAt g 0 (ints b)) (o : Nat) : w.rangeAt g o (ints (pt b o)) := by
  have := range_sub h o 6
  rw [Nat.zero_add] at this
  simpa [ints, pt, List.map_take, List.map_drop] using this
theorem part6_len {b : List Int} (h : b.length = 19) {o : Nat} (ho : o ≤ 12) : (pt b o).length = 6 := by simp [pt, h]; omega
theorem cell18 {w : World} {g : Nat} {b : List Int} (h : w.rangeAt g 0 (ints b)) {j : Nat} (hj : j < b.length) : w.cell? ⟨g, j, none⟩ = some (.int .i64 (bg b j)) := by
  have := h j (.int .i64 (bg b j)) (by have := ints_get hj; simpa using this)
  rwa [Nat.zero_add] at this
theorem pt_join {b : List Int} (h : b.length = 19) : ints b = ((ints (pt b 0) ++ ints (pt b 6)) ++ ints (pt b 12)) ++ [.int .i64 (bg b 18)] := by
  have : b = ((pt b 0 ++ pt b 6) ++ pt b 12) ++ [bg b 18] := by
    match b, h with
    | [_, _, _, _, _, _, _, _, _, _, _, _, _, _, _, _, _, _, _], _ => rfl
  conv => lhs; rw [this]
  simp [ints]
end Go.Proofs.YtbobiiodbbcodaaGreatDoor
namespace Go.Proofs.YtbobiiodbbcodaaGreatDoor
open Go.RowKit
set_option linter.unusedVariables false
set_option maxRecDepth 100000
def shAt (b : List Int) (k : Nat) : Int := shC (bF b k).1 (bF b k).2 (bg b k)
def shTo (b : List Int) (n : Nat) : List Int := (List.range n).map (shAt b)
theorem shTo_succ (b : List Int) (n : Nat) : shTo b (n + 1) = shTo b n ++ [shAt b n] := by unfold shTo; rw [List.range_succ, List.map_append]; rfl
theorem shTo_len (b : List Int) (n : Nat) : (shTo b n).length = n := by simp [shTo]
theorem take_succ_bg {b : List Int} {n : Nat} (h : n < b.length) : b.take (n + 1) = b.take n ++ [bg b n] := by
  rw [take_snoc (List.getElem?_eq_getElem h)]; simp [bg, h]
theorem goodB_at {b : List Int} (h : goodB b = true) {k : Nat} (hk : k < 6) : (0 ≤ (bF b k).1 ∧ (bF b k).1 ≤ 127 ∧ 0 ≤ (bF b k).2 ∧ (bF b k).2 ≤ 127) ∧ 0 ≤ bg b k ∧ bg b k ≤ 127 := by
  unfold goodB goodTo at h
  simp only [Bool.and_eq_true, List.all_eq_true, List.mem_range] at h
  have := h.1 k hk
  unfold goodAt fB at this
  simp only [Bool.and_eq_true] at this
  have h1 := faultB_true this.2
  exact ⟨⟨h1.1, h1.2.1, h1.2.2.1, h1.2.2.2.1⟩, cellB_true this.1⟩
theorem bg_pt {b : List Int} (h : b.length = 19) {k : Nat} (hk : k < 6) : bg (pt b 0) k = bg b k := by
  unfold bg pt; simp [hk]
theorem ints_cells {w : World} {ad : Addr} {n c : Nat} {xs : List Int} (h : Ints w (.slice (some ad) n c) xs) : ∀ j u, (ints xs)[j]? = some u → w.cell? (ad.add j) = some u := by
  intro j u hu
  obtain ⟨a, c', e, _, _, HC⟩ := h.parts
  simp only [ints, List.getElem?_map, Option.map_eq_some_iff] at hu
  obtain ⟨x, hx, rfl⟩ := hu
  obtain ⟨b, off, e2, hc⟩ := HC.out j x hx
  injection e with e1 e3 e4
  rw [e2] at e1
  injection e1 with e5
  subst e5
  rw [Addr.add_lit]; exact hc
/-- the cells of a Bench, sent or shown -/
def rowOf (b : List Int) (s : Bool) (n : Nat) : List Int := if s then shTo b n else b.take n
theorem rowOf_len {b : List Int} (hb : b.length = 19) (s : Bool) {n : Nat} (h : n ≤ 6) : (rowOf b s n).length = n := by
  unfold rowOf; split
  · exact shTo_len _ _
  · rw [List.length_take]; omega
theorem rowOf_succ {b : List Int} (hb : b.length = 19) (s : Bool) {n : Nat} (h : n < 6) : rowOf b s (n + 1) = rowOf b s n ++ [if s then shAt b n else bg b n] := by
  unfold rowOf; split
  · exact shTo_succ _ _
  · exact take_succ_bg (by omega)
theorem range_grown {w w' : World} {g o : Nat} {cs : List Value} {r : Option Nat} (h : w.rangeAt g o cs) (hg : w.grownBy w' r) (hr : some g ≠ r) : w'.rangeAt g o cs := fun j v hv =>
  hg.cell (h j v hv) hr
/-- what SentRow and BenchRow return -/
def brL (b : List Int) (s : Bool) : List Int := if goodB b then rowOf b s 6 else []
theorem brL_le (b : List Int) (s : Bool) : (brL b s).length ≤ 6 := by
  unfold brL rowOf; split
  · split
    · rw [shTo_len]; omega
    · rw [List.length_take]; omega
  · simp
end Go.Proofs.YtbobiiodbbcodaaGreatDoor
namespace Go.Proofs.YtbobiiodbbcodaaGreatDoor
open Go.RowKit
set_option linter.unusedVariables false
set_option maxRecDepth 100000
/-- a cell whose bars stand elsewhere -/
def permC (p : List Nat) (c : Int) : Int := (((List.range 7).foldl (fun o k => o + c.toNat / 2 ^ (p.getD k 0) % 2 * 2 ^ k) 0 : Nat) : Int)
def mvC (t : Bool) (c : Int) : Int := permC (if t then [3, 4, 5, 0, 1, 2, 6] else [0, 5, 4, 3, 2, 1, 6]) c
theorem mvC_all : ∀ n : Fin 128, ∀ t : Bool, 0 ≤ mvC t (n.1 : Int) ∧ mvC t (n.1 : Int) ≤ 127 := by decide +kernel
theorem mvC_bd {c : Int} (t : Bool) (h0 : 0 ≤ c) (h1 : c ≤ 127) : 0 ≤ mvC t c ∧ mvC t c ≤ 127 := by
  obtain ⟨n, rfl⟩ := Int.eq_ofNat_of_zero_le h0
  exact mvC_all ⟨n, by omega⟩ t
theorem mvT_i : ∀ n : Nat, n < 128 → (bits BinOp.or IntKind.i64 (bits BinOp.or IntKind.i64 (bits BinOp.or IntKind.i64 (bits BinOp.or IntKind.i64 (bits BinOp.or IntKind.i64 (bits BinOp.or IntKind.i64 (bits BinOp.or IntKind.i64 0 (wrap64 (bits BinOp.and IntKind.i64 (n : Int) 1 * 8))) (wrap64 (bits BinOp.and IntKind.i64 ((n : Int) / 2) 1 * 16))) (wrap64 (bits BinOp.and IntKind.i64 ((n : Int) / 4) 1 * 32))) (wrap64 (bits BinOp.and IntKind.i64 ((n : Int) / 8) 1))) (wrap64 (bits BinOp.and IntKind.i64 ((n : Int) / 16) 1 * 2))) (wrap64 (bits BinOp.and IntKind.i64 ((n : Int) / 32) 1 * 4))) (wrap64 (bits BinOp.and IntKind.i64 ((n : Int) / 64) 1 * 64))) = mvC true (n : Int) := by decide +kernel
theorem mvM_i : ∀ n : Nat, n < 128 → (bits BinOp.or IntKind.i64 (bits BinOp.or IntKind.i64 (bits BinOp.or IntKind.i64 (bits BinOp.or IntKind.i64 (bits BinOp.or IntKind.i64 (bits BinOp.or IntKind.i64 (bits BinOp.or IntKind.i64 0 (wrap64 (bits BinOp.and IntKind.i64 (n : Int) 1))) (wrap64 (bits BinOp.and IntKind.i64 ((n : Int) / 2) 1 * 32))) (wrap64 (bits BinOp.and IntKind.i64 ((n : Int) / 4) 1 * 16))) (wrap64 (bits BinOp.and IntKind.i64 ((n : Int) / 8) 1 * 8))) (wrap64 (bits BinOp.and IntKind.i64 ((n : Int) / 16) 1 * 4))) (wrap64 (bits BinOp.and IntKind.i64 ((n : Int) / 32) 1 * 2))) (wrap64 (bits BinOp.and IntKind.i64 ((n : Int) / 64) 1 * 64))) = mvC false (n : Int) := by decide +kernel
theorem mvT_s : ∀ n : Nat, n < 128 → (bits BinOp.or IntKind.i64 (bits BinOp.or IntKind.i64 (bits BinOp.or IntKind.i64 (bits BinOp.or IntKind.i64 (bits BinOp.or IntKind.i64 (bits BinOp.or IntKind.i64 (bits BinOp.or IntKind.i64 0 (wrap64 (bits BinOp.and IntKind.i64 ((n : Int) / 8) 1))) (wrap64 (bits BinOp.and IntKind.i64 ((n : Int) / 16) 1 * 2))) (wrap64 (bits BinOp.and IntKind.i64 ((n : Int) / 32) 1 * 4))) (wrap64 (bits BinOp.and IntKind.i64 (n : Int) 1 * 8))) (wrap64 (bits BinOp.and IntKind.i64 ((n : Int) / 2) 1 * 16))) (wrap64 (bits BinOp.and IntKind.i64 ((n : Int) / 4) 1 * 32))) (wrap64 (bits BinOp.and IntKind.i64 ((n : Int) / 64) 1 * 64))) = mvC true (n : Int) := by decide +kernel
theorem mvM_s : ∀ n : Nat, n < 128 → (bits BinOp.or IntKind.i64 (bits BinOp.or IntKind.i64 (bits BinOp.or IntKind.i64 (bits BinOp.or IntKind.i64 (bits BinOp.or IntKind.i64 (bits BinOp.or IntKind.i64 (bits BinOp.or IntKind.i64 0 (wrap64 (bits BinOp.and IntKind.i64 (n : Int) 1))) (wrap64 (bits BinOp.and IntKind.i64 ((n : Int) / 32) 1 * 2))) (wrap64 (bits BinOp.and IntKind.i64 ((n : Int) / 16) 1 * 4))) (wrap64 (bits BinOp.and IntKind.i64 ((n : Int) / 8) 1 * 8))) (wrap64 (bits BinOp.and IntKind.i64 ((n : Int) / 4) 1 * 16))) (wrap64 (bits BinOp.and IntKind.i64 ((n : Int) / 2) 1 * 32))) (wrap64 (bits BinOp.and IntKind.i64 ((n : Int) / 64) 1 * 64))) = mvC false (n : Int) := by decide +kernel
end Go.Proofs.YtbobiiodbbcodaaGreatDoor
namespace Go.Proofs.YtbobiiodbbcodaaGreatDoor
open Go.RowKit
set_option linter.unusedVariables false
set_option linter.unusedSimpArgs false
set_option maxRecDepth 100000
def coV (d : Int) : Value := .tuple #[.int .i64 (if digitB d then dg d else 0), .bool (digitB d)]
def scOk (d l c : Int) : Bool := faultB d l && cellB c
def scV (d l c : Int) : Value := .tuple #[.int .i64 (if scOk d l c then shC d l c else 0), .bool (scOk d l c)]
def dsL (d l c : Int) : List Int := if scOk d l c then digL d l c else []
theorem dsL_le (d l c : Int) : (dsL d l c).length ≤ 10 := by
  unfold dsL; split
  · exact digL_le _ _ _
  · simp
def ciV (d l : Int) : Value := .tuple #[.int .i64 (if faultB d l then ((grpL d l).length : Int) else 0), .bool (faultB d l)]
def ihV (d l : Int) : Value := .tuple #[.bool (faultB d l && decide ((grpL d l).length = 10)), .bool (faultB d l)]
theorem CountImages_c (d l : Int) (w : World) : Calls Tryz.prog 27 #[.agg #[.int .i64 d, .int .i64 l]] w fun e w' => e = .returned (ciV d l) ∧ Below w.heap.size w w' := by
  rcases hq : faultB d l with _ | _
  · have HF := Lib.hid (show ciV d l = .tuple #[.int .i64 0, .bool false] by simp [ciV, hq])
    have HQ := Lib.hid hq; clear hq
    go_enter Tryz.func27, Tryz.ntmps27
    go_wp2_with fail
    refine (IsFault_c d l _).mono ?_
    rintro e w1 ⟨rfl, hb1⟩
    rw [HQ.out]
    have hb2 := Below.chain (below_one _) hb1
    clear hb1
    go_wp2
    go_ret2
    exact ⟨by rw [HF.out]; rfl, by (repeat (first | exact Below.refl _ _ | exact (Below.refl _ _).drew | assumption | exact below_one _ | refine Below.chain ?_ (by assumption) | refine Below.drew ?_ | refine Below.alc ?_ _ | refine below_drewN ?_ | (refine Below.setCell ?_ ?_ _) | exact Nat.le_refl _ | (simp; done) | (simp; omega)))⟩
  · have HF := Lib.hid (show ciV d l = .tuple #[.int .i64 (grpL d l).length, .bool true] by simp [ciV, hq])
    have bd := faultB_true hq
    have HQ := Lib.hid hq; clear hq
    go_enter Tryz.func27, Tryz.ntmps27
    go_wp2_with fail
    refine (IsFault_c d l _).mono ?_
    rintro e w1 ⟨rfl, hb1⟩
    rw [HQ.out]
    have q0 := (box_after hb1).1 0 _ rfl
    have q1 := (box_after hb1).1 1 _ rfl
    have hb2 := Below.chain (below_one _) hb1
    clear hb1
    go_wp2_with fail
    refine (groups_c d l _ bd.1 bd.2.1 bd.2.2.1 bd.2.2.2.1).mono ?_
    rintro e w3 ⟨u, rfl, ho, hb3⟩
    have hb4 := Below.chain hb2 hb3
    obtain ⟨vs, hov, hin⟩ := ho
    have hl := hin.1
    obtain ⟨a, c, rfl, hmx⟩ := (Sl.of_own hov).slice
    clear hin hov hb3
    go_wp2
    go_ret2
    exact ⟨by rw [HF.out]; rfl, by (repeat (first | exact Below.refl _ _ | exact (Below.refl _ _).drew | assumption | exact below_one _ | refine Below.chain ?_ (by assumption) | refine Below.drew ?_ | refine Below.alc ?_ _ | refine below_drewN ?_ | (refine Below.setCell ?_ ?_ _) | exact Nat.le_refl _ | (simp; done) | (simp; omega)))⟩
end Go.Proofs.YtbobiiodbbcodaaGreatDoor
namespace Go.Proofs.YtbobiiodbbcodaaGreatDoor
set_option linter.unusedVariables false
theorem sum_add {α : Type} (f g : α → Nat) : ∀ H : List α, (H.map fun h => f h + g h).sum = (H.map f).sum + (H.map g).sum
  | [] => rfl
  | a :: t => by simp [sum_add f g t]; omega
theorem sum_ind {α : Type} (p : α → Bool) : ∀ H : List α, (H.map fun h => if p h then 1 else 0).sum = (H.filter p).length
  | [] => rfl
  | a :: t => by cases hp : p a <;> simp [hp, sum_ind p t]; omega
theorem sum_swap {α β : Type} (p : α → β → Bool) (H : List α) : ∀ L : List β, (H.map fun h => (L.filter (p h)).length).sum = (L.map fun y => (H.filter fun h => p h y).length).sum
  | [] => by
    simp only [List.filter_nil, List.length_nil, List.map_nil, List.sum_nil]
    induction H with
    | nil => rfl
    | cons a t ih => simp [ih]
  | y :: L => by
    have e : ∀ h, ((y :: L).filter (p h)).length = (if p h y then 1 else 0) + (L.filter (p h)).length := by
      intro h; cases hp : p h y <;> simp [hp]; omega
    simp only [e]
    rw [sum_add, sum_ind (fun h => p h y), sum_swap p H L]; simp
theorem sum_one {α : Type} (f : α → Nat) : ∀ L : List α, (∀ y ∈ L, f y = 1) → (L.map f).sum = L.length
  | [], _ => rfl
  | a :: t, h => by simp [h a (by simp), sum_one f t (fun y hy => h y (by simp [hy]))]; omega
theorem filter_eq_one {l : List Int} (hn : l.Nodup) {x : Int} (hx : x ∈ l) : (l.filter fun h => h == x).length = 1 := by
  induction l with
  | nil => simp at hx
  | cons a t ih =>
    rw [List.nodup_cons] at hn
    by_cases ha : a = x
    · subst ha
      have : (t.filter fun h => h == a) = [] := by
        rw [List.filter_eq_nil_iff]; intro y hy e
        simp at e; subst e; exact hn.1 hy
      simp [this]
    · have hx2 : x ∈ t := by
        rcases List.mem_cons.1 hx with e | e
        · exact absurd e.symm ha
        · exact e
      have hax : (a == x) = false := by simpa using ha
      simp [hax, ih hn.2 hx2]
theorem mem_grpOf {d l x y : Int} : y ∈ grpOf d l x ↔ y ∈ tenI ∧ shC d l (dg y) = shC d l (dg x) := by
  unfold grpOf digL
  rw [List.mem_filter]; simp
theorem grpOf_same {d l x y : Int} (h : y ∈ grpOf d l x) : grpOf d l y = grpOf d l x := by
  have := (mem_grpOf.1 h).2
  unfold grpOf; rw [this]
theorem grpOf_self {d l x : Int} (h : x ∈ tenI) : x ∈ grpOf d l x := mem_grpOf.2 ⟨h, rfl⟩
theorem headD_mem {xs : List Int} {x : Int} (h : x ∈ xs) : xs.headD (-1) ∈ xs := by cases xs <;> simp_all
def headsL (d l : Int) : List Int := tenI.filter (isHead d l)
theorem grpL_heads (d l : Int) : grpL d l = (headsL d l).map (grpOf d l) := rfl
theorem ten_nodup : tenI.Nodup := by decide
theorem one_head (d l : Int) {y : Int} (hy : y ∈ tenI) : ((headsL d l).filter fun h => shC d l (dg y) == shC d l (dg h)).length = 1 := by
  have h0 := headD_mem (grpOf_self (d := d) (l := l) hy)
  have hg := grpOf_same h0
  have e : (headsL d l).filter (fun h => shC d l (dg y) == shC d l (dg h)) = (headsL d l).filter fun h => h == (grpOf d l y).headD (-1) := by
    apply List.filter_congr
    intro h hh
    unfold headsL at hh
    rw [List.mem_filter] at hh
    have hH : (grpOf d l h).headD (-1) = h := by simpa [isHead] using hh.2
    rw [Bool.eq_iff_iff, beq_iff_eq, beq_iff_eq]
    constructor
    · intro e
      have : grpOf d l h = grpOf d l y := by unfold grpOf; rw [e]
      rw [← this, hH]
    · intro e
      subst e
      exact (mem_grpOf.1 h0).2.symm
  rw [e]
  refine filter_eq_one (ten_nodup.filter _) ?_
  rw [List.mem_filter]
  refine ⟨(mem_grpOf.1 h0).1, ?_⟩
  unfold isHead
  rw [hg]; simp
theorem grp_sum (d l : Int) : ((grpL d l).map List.length).sum = 10 := by
  rw [grpL_heads, List.map_map]
  have e : (List.length ∘ grpOf d l) = fun h => (tenI.filter fun y => shC d l (dg y) == shC d l (dg h)).length := rfl
  rw [e, sum_swap (fun h y => shC d l (dg y) == shC d l (dg h))]
  exact sum_one _ tenI (fun y hy => one_head d l hy)
theorem mem_grpL {d l : Int} {g : List Int} (h : g ∈ grpL d l) : 1 ≤ g.length ∧ ∀ e ∈ g, grpOf d l e = g := by
  rw [grpL_heads, List.mem_map] at h
  obtain ⟨x, hx, rfl⟩ := h
  unfold headsL at hx
  rw [List.mem_filter] at hx
  refine ⟨List.length_pos_of_mem (grpOf_self hx.1), fun e he => grpOf_same he⟩
theorem part_sum (G : List (List Int)) (h : ∀ g ∈ G, 1 ≤ g.length) :
    ((G.filter fun xs => xs.length == 1).length + ((G.filter cfF).map List.length).sum = (G.map List.length).sum) ∧
    ((G.filter fun xs => xs.length == 1).length + (G.filter cfF).length = G.length) ∧ 2 * (G.filter cfF).length ≤ ((G.filter cfF).map List.length).sum := by
  induction G with
  | nil => simp
  | cons g t ih =>
    obtain ⟨i1, i2, i3⟩ := ih (fun x hx => h x (by simp [hx]))
    have hg := h g (by simp)
    cases hq : (g.length == 1)
    · have hc : cfF g = true := by simp [cfF, hq]
      have : g.length ≠ 1 := by simpa using hq
      simp only [List.filter_cons, hq, hc, if_true, List.map_cons, List.sum_cons, List.length_cons]
      simp only [Bool.false_eq_true, if_false]
      omega
    · have hc : cfF g = false := by simp [cfF, hq]
      have : g.length = 1 := by simpa using hq
      simp only [List.filter_cons, hq, hc, if_true, List.map_cons, List.sum_cons, List.length_cons]
      simp only [Bool.false_eq_true, if_false]
      omega
theorem told_parts {d l : Int} (hf : faultB d l = true) :
    (tdL d l).length + ((cfL d l).map List.length).sum = 10 ∧ (grpL d l).length = (tdL d l).length + (cfL d l).length ∧ (decide ((grpL d l).length = 10) = decide ((tdL d l).length = 10)) := by
  obtain ⟨h1, h2, h3⟩ := part_sum (grpL d l) (fun g hg => (mem_grpL hg).1)
  have ht : (tdL d l).length = ((grpL d l).filter fun xs => xs.length == 1).length := by
    unfold tdL toldTo; rw [if_pos hf, List.take_length, List.length_map]
  have hc : cfL d l = (grpL d l).filter cfF := by unfold cfL; rw [if_pos hf]
  have hs := grp_sum d l
  rw [ht, hc]
  refine ⟨by omega, by omega, ?_⟩
  rw [decide_eq_decide]; omega
theorem cfL_two {d l : Int} {g : List Int} (h : g ∈ cfL d l) : 2 ≤ g.length ∧ ∀ e ∈ g, decide (e ∈ tdL d l) = false := by
  unfold cfL at h
  split at h
  · rename_i hf
    rw [List.mem_filter] at h
    have hm := mem_grpL h.1
    have h1 : g.length ≠ 1 := by have := h.2; simp [cfF] at this; exact this
    refine ⟨by omega, fun e he => decide_eq_false ?_⟩
    intro ht
    unfold tdL toldTo at ht
    rw [if_pos hf, List.take_length, List.mem_map] at ht
    obtain ⟨g', hg', e'⟩ := ht
    rw [List.mem_filter] at hg'
    have hl1 : g'.length = 1 := by simpa using hg'.2
    have hmem : e ∈ g' := by
      cases g' with
      | nil => simp at hl1
      | cons a t => simp at e'; subst e'; simp
    have e1 := (mem_grpL hg'.1).2 e hmem
    have e2 := hm.2 e he
    rw [e1] at e2; subst e2; exact h1 hl1
  · simp at h
theorem ds_has {d l c : Int} (h : scOk d l c = true) {x : Int} (h0 : 0 ≤ x) (h1 : x ≤ 9) : decide (x ∈ dsL d l c) = (shC d l (dg x) == c) := by
  unfold dsL; rw [if_pos h]
  unfold digL
  rw [Bool.eq_iff_iff, decide_eq_true_eq, List.mem_filter]
  have hx : x ∈ tenI := by
    obtain ⟨k, rfl⟩ := Int.eq_ofNat_of_zero_le h0
    exact List.mem_of_getElem? (tenI_at (k := k) (by omega))
  simp [hx]
theorem cnt_pos : ∀ n : Fin 128, cnt (n.1 : Int) = 0 → n.1 = 0 := by decide +kernel
theorem cnt_ge : ∀ n : Fin 128, 0 ≤ cnt (n.1 : Int) := by decide +kernel
theorem harm_zero : harmB (0, 0) = true := by decide
theorem qH_zero {f : Int × Int} (h : f ∈ allF (qH 0)) : f = (0, 0) := by
  obtain ⟨d, l, rfl, hd, hl, _, hq⟩ := mem_allF h
  unfold qH at hq
  rw [Bool.and_eq_true, beq_iff_eq] at hq
  have a := cnt_ge ⟨d, hd⟩; have b := cnt_ge ⟨l, hl⟩
  simp only at a b hq
  have e1 := cnt_pos ⟨d, hd⟩ (by simp only; omega)
  have e2 := cnt_pos ⟨l, hl⟩ (by simp only; omega)
  simp only at e1 e2
  subst e1 e2; rfl
theorem ch_zero : chN 0 = 1 := by
  have h1 : ∀ f ∈ allF (qH 0), f = (0, 0) := fun f hf => qH_zero hf
  have h2 : (allF (qH 0)).Pairwise befF := colF_asc _ _
  have h3 : ((0 : Int), (0 : Int)) ∈ allF (qH 0) := by
    unfold allF colF
    rw [List.mem_flatMap]
    refine ⟨0, by simp, ?_⟩
    unfold rowF
    rw [List.mem_map]
    refine ⟨0, ?_, rfl⟩
    rw [List.mem_filter]
    refine ⟨by simp, ?_⟩
    have hz : harmB (((0 : Nat) : Int), ((0 : Nat) : Int)) = true := harm_zero
    unfold qH
    rw [hz]; decide
  have h4 : (allF (qH 0)).length = 1 := by
    generalize allF (qH 0) = L at *
    cases L with
    | nil => simp at h3
    | cons a t =>
      cases t with
      | nil => rfl
      | cons b t =>
        exfalso
        have ha := h1 a (by simp); have hb := h1 b (by simp)
        rw [List.pairwise_cons] at h2
        have := h2.1 b (by simp)
        subst ha hb
        unfold befF at this; simp at this
  unfold chN
  rw [show chOk 0 = true by decide, if_pos rfl, h4]; rfl
theorem ch_last (size : Int) : chOk size = true → 0 ≤ chN size := by
  intro h; unfold chN; rw [if_pos h]; omega
def sumTo (C : List (List Int)) (k : Nat) : Nat := ((C.take k).map List.length).sum
theorem sumTo_succ {C : List (List Int)} {k : Nat} {g : List Int} (h : C[k]? = some g) : sumTo C (k + 1) = sumTo C k + g.length := by
  unfold sumTo; rw [take_snoc h]; simp
theorem sumTo_le (C : List (List Int)) (k : Nat) : sumTo C k ≤ (C.map List.length).sum := by
  unfold sumTo
  have : C = C.take k ++ C.drop k := (List.take_append_drop k C).symm
  have e : (C.map List.length).sum = ((C.take k).map List.length).sum + ((C.drop k).map List.length).sum := by
    rw [← List.sum_append, ← List.map_append, List.take_append_drop]
  omega
theorem told_facts {d l : Int} (hf : faultB d l = true) :
    (tdL d l).length + sumTo (cfL d l) (cfL d l).length = 10 ∧ (if faultB d l = true then ((grpL d l).length : Int) else 0) = ((tdL d l).length : Int) + ((cfL d l).length : Int) ∧ (faultB d l && decide ((grpL d l).length = 10)) = decide ((tdL d l).length = 10) ∧ (cfL d l).length ≤ 10 := by
  obtain ⟨h1, h2, h3⟩ := told_parts hf
  have h4 : (grpL d l).length ≤ 10 := grpTo_le _ _ _
  refine ⟨by unfold sumTo; rw [List.take_length]; exact h1, by rw [if_pos hf]; omega, by rw [hf, h3]; rfl, by omega⟩
theorem ds_facts {d l c : Int} (h : scOk d l c = true) {x : Int} (h0 : 0 ≤ x) (h1 : x ≤ 9) :
    scV d l (dg x) = .tuple #[.int .i64 (shC d l (dg x)), .bool true] ∧ coV x = .tuple #[.int .i64 (dg x), .bool true] ∧ decide (x ∈ dsL d l c) = (shC d l (dg x) == c) := by
  have hf : faultB d l = true := by unfold scOk at h; rw [Bool.and_eq_true] at h; exact h.1
  have hd := dg_bd x
  refine ⟨?_, ?_, ds_has h h0 h1⟩
  · unfold scV scOk; rw [hf, show cellB (dg x) = true from inB_mk hd.1 hd.2]; rfl
  · unfold coV; rw [show digitB x = true from inB_mk h0 h1]; rfl
theorem ch_facts {size : Int} (h : chOk size = true) : 0 ≤ chN size ∧ (0 < size ∨ chN size = 1) := by
  refine ⟨ch_last size h, ?_⟩
  have := inB_true h
  by_cases h0 : 0 < size
  · exact .inl h0
  · right
    obtain rfl : size = 0 := by omega
    exact ch_zero
end Go.Proofs.YtbobiiodbbcodaaGreatDoor
namespace Go.Proofs.YtbobiiodbbcodaaGreatDoor
open Go.RowKit
set_option linter.unusedVariables false
set_option linter.unusedSimpArgs false
set_option maxRecDepth 100000
def sqTo (xss : List (List Int)) (k : Nat) : Nat := ((xss.take k).map fun g => g.length * g.length).sum
theorem sqTo_succ {xss : List (List Int)} {k : Nat} {g : List Int} (h : xss[k]? = some g) : sqTo xss (k + 1) = sqTo xss k + g.length * g.length := by
  unfold sqTo; rw [take_snoc h]; simp
theorem sq_le : ∀ xs : List (List Int), (xs.map fun g => g.length * g.length).sum ≤ (xs.map List.length).sum * (xs.map List.length).sum
  | [] => by simp
  | g :: t => by
    simp only [List.map_cons, List.sum_cons]
    have := sq_le t
    generalize (t.map List.length).sum = s at *
    generalize (t.map fun g => g.length * g.length).sum = q at *
    generalize g.length = n
    rw [Nat.add_mul, Nat.mul_add, Nat.mul_add]
    omega
theorem take_sum : ∀ (xs : List (List Int)) (k : Nat), ((xs.take k).map List.length).sum ≤ (xs.map List.length).sum
  | [], k => by simp
  | g :: t, 0 => by simp
  | g :: t, k + 1 => by
    simp only [List.take_succ_cons, List.map_cons, List.sum_cons]
    have := take_sum t k
    omega
theorem sqTo_le (d l : Int) (k : Nat) : sqTo (grpL d l) k ≤ 100 := by
  have h1 := sq_le ((grpL d l).take k)
  have h2 := take_sum (grpL d l) k
  rw [grp_sum] at h2
  have h3 := Nat.mul_le_mul h2 h2
  unfold sqTo
  omega
theorem grp_ten {d l : Int} {k : Nat} {g : List Int} (h : (grpL d l)[k]? = some g) : g.length ≤ 10 := by
  have h1 := sqTo_succ h
  have h2 := sqTo_le d l (k + 1)
  by_cases hg : g.length ≤ 10
  · exact hg
  · have := Nat.mul_le_mul (show 11 ≤ g.length by omega) (show 11 ≤ g.length by omega)
    omega
def csS (d l : Int) : Nat := sqTo (grpL d l) (grpL d l).length
def csV (d l : Int) : Value := .tuple #[if faultB d l then fracV (csS d l) 100 else .agg #[.int .i64 0, .int .i64 0], .bool (faultB d l)]
set_option maxHeartbeats 2000000 in
theorem ChanceSameDigit_c (d l : Int) (w : World) : Calls Tryz.prog 22 #[.agg #[.int .i64 d, .int .i64 l]] w fun e w' => e = .returned (csV d l) ∧ Below w.heap.size w w' := by
  have X0 := Lib.hid ((Bk.new w 30 #[.int .i64 d, .int .i64 l]).alloc (.cells #[.int .i64 0, .int .i64 0] 25))
  have b0 := Bk.new (w.alloc (.cells #[.int .i64 d, .int .i64 l] 30)) 25 #[.int .i64 0, .int .i64 0]
  rw [World.size_alloc] at b0
  have B0 := Lib.hid b0
  clear b0
  have HB0 : Hid (Below w.heap.size w ((w.alloc (.cells #[.int .i64 d, .int .i64 l] 30)).alloc (.cells #[.int .i64 0, .int .i64 0] 25))) := Below.alc (below_one _) _
  obtain ⟨q0, q1⟩ : ((w.alloc (.cells #[.int .i64 d, .int .i64 l] 30)).alloc (.cells #[.int .i64 0, .int .i64 0] 25)).cell? ⟨w.heap.size, 0, none⟩ = some (.int .i64 d) ∧ ((w.alloc (.cells #[.int .i64 d, .int .i64 l] 30)).alloc (.cells #[.int .i64 0, .int .i64 0] 25)).cell? ⟨w.heap.size, 1, none⟩ = some (.int .i64 l) := ⟨X0.out.cell 0, X0.out.cell 1⟩
  rcases hq : faultB d l with _ | _
  · have HF := Lib.hid (show csV d l = .tuple #[.agg #[.int .i64 0, .int .i64 0], .bool false] by simp [csV, hq])
    have HQ := Lib.hid hq; clear hq
    go_enter Tryz.func22, Tryz.ntmps22
    go_wp2_with fail
    refine (IsFault_c d l _).mono ?_
    rintro e w1 ⟨rfl, hb1⟩
    rw [HQ.out]
    have B1 := B0.out.below hb1
    have e0 : w1.cell? ⟨w.heap.size + 1, 0, none⟩ = some (.int .i64 0) := B1.cell 0
    have e1 : w1.cell? ⟨w.heap.size + 1, 1, none⟩ = some (.int .i64 0) := B1.cell 1
    have f0 := B1.frozen 0
    have f1 := B1.frozen 1
    have HB1 := Lib.hid (Below.chain HB0.out hb1)
    obtain ⟨u0, u1, hb7⟩ := two_set (.int .i64 0) (.int .i64 0) e0 e1 HB1.out (by omega)
    clear hb1 B1
    go_wp2
    clear e0 e1 f0 f1
    generalize (World.setCell (World.setCell _ _ _) _ _) = w3 at *
    refine bodyPost_ret (v := csV d l) (by rw [HF.out]; simp [results, Tryz.results22, go_sem, u0, u1]) rfl ⟨rfl, hb7⟩
  · have HF := Lib.hid (show csV d l = .tuple #[fracV (csS d l) 100, .bool true] by simp [csV, hq])
    have HQ := Lib.hid hq
    obtain ⟨d0, d1, l0, l1, _⟩ := faultB_true hq
    clear hq
    have HS : Hid (csS d l = sqTo (grpL d l) (grpL d l).length) := rfl
    have HSL := Lib.hid (fun k => sqTo_le d l k)
    have HGT := Lib.hid (fun k g (h : (grpL d l)[k]? = some g) => grp_ten h)
    have HGR := Lib.hid (fun w => groups_c d l w d0 d1 l0 l1)
    generalize csS d l = S at *
    generalize grpL d l = xss at *
    go_enter Tryz.func22, Tryz.ntmps22
    go_wp2_with fail
    refine (IsFault_c d l _).mono ?_
    rintro e w1 ⟨rfl, hb1⟩
    rw [HQ.out]
    have B1 := Lib.hid (B0.out.below hb1)
    have X1 := X0.out.below hb1
    obtain ⟨q2, q3⟩ : w1.cell? ⟨w.heap.size, 0, none⟩ = some (.int .i64 d) ∧ w1.cell? ⟨w.heap.size, 1, none⟩ = some (.int .i64 l) := ⟨X1.cell 0, X1.cell 1⟩
    have HB1 := Lib.hid (Below.chain HB0.out hb1)
    clear hb1 X1 q0 q1 B0 X0 HB0
    go_wp2_with fail
    refine (HGR.out _).mono ?_
    rintro e w2 ⟨u, rfl, ho, hb2⟩
    have B2 := Lib.hid (B1.out.below hb2)
    have HB2 := Lib.hid (Below.chain HB1.out hb2)
    obtain ⟨a, c, rfl, hxl, HC⟩ := ho.parts
    clear hb2 B1 HB1 q2 q3 ho HGR
    go_wp2
    go_loopw [4, 14] (fun s j wr => ∃ k : Nat, k ≤ xss.length ∧ j = .int .i64 (k : Int) ∧ s = .int .i64 ((sqTo xss k : Nat) : Int) ∧ Hid (Below w2.heap.size w2 wr)) (fun _ j _ => xss.length - (intOf j).toNat)
    case atStart => exact ⟨0, by omega, rfl, rfl, Below.refl _ _⟩
    case round =>
      obtain ⟨k, hk, rfl, rfl, HBr⟩ := hrel
      by_cases hlt : k < xss.length
      · have hdd : decide ((k : Int) < (xss.length : Int)) = true := by simp; omega
        obtain ⟨g, hg⟩ := elem_at hlt
        obtain ⟨b, off, a2, c2, rfl, f0, hgl, _⟩ := HC.out k g hg.out
        have g0 := cell_later HBr.out f0
        have hg10 := HGT.out k g hg.out
        have hs1 := HSL.out k
        have HX := Lib.hid (sqTo_succ hg.out)
        have hsq : g.length * g.length ≤ 100 := Nat.mul_le_mul hg10 hg10
        have hwm : IntKind.i64.wrap ((g.length : Int) * (g.length : Int)) = ((g.length * g.length : Nat) : Int) := by rw [← Int.natCast_mul, IntWalk.i64_in _ (by omega)]
        have hmm : (g.length : Int) * (g.length : Int) = ((g.length * g.length : Nat) : Int) := by rw [Int.natCast_mul]
        generalize hn : g.length * g.length = gg at *
        have HGG := Lib.hid hn
        clear f0 hn
        generalize sqTo xss k = s at *
        have hwa : IntKind.i64.wrap ((s : Int) + (gg : Int)) = (s : Int) + (gg : Int) := IntWalk.i64_in _ (by omega)
        go_wp2
        go_roundw
        case rel => exact ⟨k + 1, by omega, by go_num, by rw [HX.out]; first | rfl | simp, HBr⟩
        case measure => simp [intOf]; omega
      · obtain rfl : k = xss.length := by omega
        have hdd : decide ((xss.length : Int) < (xss.length : Int)) = false := by simp
        have hs1 := HSL.out xss.length
        rw [← HS.out] at *
        have HFR := Lib.hid (fraction_c S 100 (by omega) (by omega) (by omega) wr)
        go_wp2_with fail
        refine HFR.out.mono ?_
        rintro e w4 ⟨rfl, hb5⟩
        have BB2 := (B2.out.below HBr.out).below hb5
        have hb6 := Below.chain (Below.chain HB2.out HBr.out) hb5
        have e0 : w4.cell? ⟨w.heap.size + 1, 0, none⟩ = some (.int .i64 0) := BB2.cell 0
        have e1 : w4.cell? ⟨w.heap.size + 1, 1, none⟩ = some (.int .i64 0) := BB2.cell 1
        have f0 := BB2.frozen 0
        have f1 := BB2.frozen 1
        obtain ⟨u0, u1, hb7⟩ := two_set (.int .i64 (fracN S 100)) (.int .i64 (fracD S 100)) e0 e1 hb6 (by omega)
        clear BB2 hb6 hb5 HB2 HBr
        unfold fracV at HF ⊢
        go_wp2
        clear e0 e1 f0 f1
        generalize (World.setCell (World.setCell w4 _ _) _ _) = w3 at *
        refine bodyPost_ret (v := csV d l) (by rw [HF.out]; simp [results, Tryz.results22, go_sem, u0, u1]) rfl ⟨rfl, hb7⟩
set_option maxHeartbeats 2000000 in
theorem sChanceSameDigit_c (d l : Int) (w : World) : Calls Tryz.prog 23 #[.agg #[.int .i64 d, .int .i64 l]] w fun e w' => e = .returned (csV d l) ∧ Below w.heap.size w w' := by
  have X0 := Lib.hid ((Bk.new w 30 #[.int .i64 d, .int .i64 l]).alloc (.cells #[.int .i64 0, .int .i64 0] 25))
  have b0 := Bk.new (w.alloc (.cells #[.int .i64 d, .int .i64 l] 30)) 25 #[.int .i64 0, .int .i64 0]
  rw [World.size_alloc] at b0
  have B0 := Lib.hid b0
  clear b0
  have HB0 : Hid (Below w.heap.size w ((w.alloc (.cells #[.int .i64 d, .int .i64 l] 30)).alloc (.cells #[.int .i64 0, .int .i64 0] 25))) := Below.alc (below_one _) _
  obtain ⟨q0, q1⟩ : ((w.alloc (.cells #[.int .i64 d, .int .i64 l] 30)).alloc (.cells #[.int .i64 0, .int .i64 0] 25)).cell? ⟨w.heap.size, 0, none⟩ = some (.int .i64 d) ∧ ((w.alloc (.cells #[.int .i64 d, .int .i64 l] 30)).alloc (.cells #[.int .i64 0, .int .i64 0] 25)).cell? ⟨w.heap.size, 1, none⟩ = some (.int .i64 l) := ⟨X0.out.cell 0, X0.out.cell 1⟩
  rcases hq : faultB d l with _ | _
  · have HF := Lib.hid (show csV d l = .tuple #[.agg #[.int .i64 0, .int .i64 0], .bool false] by simp [csV, hq])
    have HQ := Lib.hid hq; clear hq
    go_enter Tryz.func23, Tryz.ntmps23
    go_wp2_with fail
    refine (l3Fault_c d l _).mono ?_
    rintro e w1 ⟨rfl, hb1⟩
    rw [HQ.out]
    have B1 := B0.out.below hb1
    have e0 : w1.cell? ⟨w.heap.size + 1, 0, none⟩ = some (.int .i64 0) := B1.cell 0
    have e1 : w1.cell? ⟨w.heap.size + 1, 1, none⟩ = some (.int .i64 0) := B1.cell 1
    have f0 := B1.frozen 0
    have f1 := B1.frozen 1
    have HB1 := Lib.hid (Below.chain HB0.out hb1)
    obtain ⟨u0, u1, hb7⟩ := two_set (.int .i64 0) (.int .i64 0) e0 e1 HB1.out (by omega)
    clear hb1 B1
    go_wp2
    clear e0 e1 f0 f1
    generalize (World.setCell (World.setCell _ _ _) _ _) = w3 at *
    refine bodyPost_ret (v := csV d l) (by rw [HF.out]; simp [results, Tryz.results23, go_sem, u0, u1]) rfl ⟨rfl, hb7⟩
  · have HF := Lib.hid (show csV d l = .tuple #[fracV (csS d l) 100, .bool true] by simp [csV, hq])
    have HQ := Lib.hid hq
    obtain ⟨d0, d1, l0, l1, _⟩ := faultB_true hq
    clear hq
    have HS : Hid (csS d l = sqTo (grpL d l) (grpL d l).length) := rfl
    have HSL := Lib.hid (fun k => sqTo_le d l k)
    have HGT := Lib.hid (fun k g (h : (grpL d l)[k]? = some g) => grp_ten h)
    have HGR := Lib.hid (fun w => l3Groups_c d l w d0 d1 l0 l1)
    generalize csS d l = S at *
    generalize grpL d l = xss at *
    go_enter Tryz.func23, Tryz.ntmps23
    go_wp2_with fail
    refine (l3Fault_c d l _).mono ?_
    rintro e w1 ⟨rfl, hb1⟩
    rw [HQ.out]
    have B1 := Lib.hid (B0.out.below hb1)
    have X1 := X0.out.below hb1
    obtain ⟨q2, q3⟩ : w1.cell? ⟨w.heap.size, 0, none⟩ = some (.int .i64 d) ∧ w1.cell? ⟨w.heap.size, 1, none⟩ = some (.int .i64 l) := ⟨X1.cell 0, X1.cell 1⟩
    have HB1 := Lib.hid (Below.chain HB0.out hb1)
    clear hb1 X1 q0 q1 B0 X0 HB0
    go_wp2_with fail
    refine (HGR.out _).mono ?_
    rintro e w2 ⟨u, rfl, ho, hb2⟩
    have B2 := Lib.hid (B1.out.below hb2)
    have HB2 := Lib.hid (Below.chain HB1.out hb2)
    obtain ⟨a, c, rfl, hxl, HC⟩ := ho.parts
    clear hb2 B1 HB1 q2 q3 ho HGR
    go_wp2
    go_loopw [4, 6] (fun s j wr => ∃ k : Nat, k ≤ xss.length ∧ j = .int .i64 (k : Int) ∧ s = .int .i64 ((sqTo xss k : Nat) : Int) ∧ Hid (Below w2.heap.size w2 wr)) (fun _ j _ => xss.length - (intOf j).toNat)
    case atStart => exact ⟨0, by omega, rfl, rfl, Below.refl _ _⟩
    case round =>
      obtain ⟨k, hk, rfl, rfl, HBr⟩ := hrel
      by_cases hlt : k < xss.length
      · have hdd : decide ((k : Int) < (xss.length : Int)) = true := by simp; omega
        obtain ⟨g, hg⟩ := elem_at hlt
        obtain ⟨b, off, a2, c2, rfl, f0, hgl, _⟩ := HC.out k g hg.out
        have g0 := cell_later HBr.out f0
        have hg10 := HGT.out k g hg.out
        have hs1 := HSL.out k
        have HX := Lib.hid (sqTo_succ hg.out)
        have hsq : g.length * g.length ≤ 100 := Nat.mul_le_mul hg10 hg10
        have hwm : IntKind.i64.wrap ((g.length : Int) * (g.length : Int)) = ((g.length * g.length : Nat) : Int) := by rw [← Int.natCast_mul, IntWalk.i64_in _ (by omega)]
        have hmm : (g.length : Int) * (g.length : Int) = ((g.length * g.length : Nat) : Int) := by rw [Int.natCast_mul]
        generalize hn : g.length * g.length = gg at *
        have HGG := Lib.hid hn
        clear f0 hn
        generalize sqTo xss k = s at *
        have hwa : IntKind.i64.wrap ((s : Int) + (gg : Int)) = (s : Int) + (gg : Int) := IntWalk.i64_in _ (by omega)
        have hrh : (wr.drew.cell? ⟨b, off + k, none⟩ = some (.slice a2 g.length c2) ∧ Below w2.heap.size w2 wr.drew) := ⟨g0, HBr.out.drew⟩
        go_wp2_with fail
        refine wp_region_noPanic ?_
        refine wp_region_held_drew (S := fun w' : World => w'.cell? ⟨b, off + k, none⟩ = some (.slice a2 g.length c2) ∧ Below w2.heap.size w2 w') (by kernel_rfl) hrh (fun hHeld => ?_)
        refine' wpAnyH_take (i := 0) (oi := _) (v := _) ?e_1 ?a_1 ?b_1 ?c_1 ?q_1 ?y_1 hHeld ?r_1
        case e_1 => (simp only [List.getElem?_toArray, List.getElem?_cons_zero, List.getElem?_cons_succ]; exact rfl)
        case a_1 => kernel_rfl
        case b_1 => kernel_rfl
        case c_1 => kernel_rfl
        case q_1 => exact fun _ _ _ h => h
        case y_1 => exact Or.inl ⟨by rfl, by (intro w hSw; (try dsimp only at hSw); go_simp; first | done | with_reducible rfl)⟩
        try simp only [Act.put, List.setIfInBounds_toArray, List.set_cons_zero, List.set_cons_succ]
        refine' wpAnyH_take (i := 1) (oi := _) (v := _) ?e_2 ?a_2 ?b_2 ?c_2 ?q_2 ?y_2 hHeld ?r_2
        case e_2 => (simp only [List.getElem?_toArray, List.getElem?_cons_zero, List.getElem?_cons_succ]; exact rfl)
        case a_2 => kernel_rfl
        case b_2 => kernel_rfl
        case c_2 => kernel_rfl
        case q_2 => exact fun _ _ _ h => h
        case y_2 => exact Or.inl ⟨by rfl, by (intro w hSw; (try dsimp only at hSw); go_simp; first | done | with_reducible rfl)⟩
        try simp only [Act.put, List.setIfInBounds_toArray, List.set_cons_zero, List.set_cons_succ]
        refine' wpAnyH_take (i := 2) (oi := _) (v := _) ?e_3 ?a_3 ?b_3 ?c_3 ?q_3 ?y_3 hHeld ?r_3
        case e_3 => (simp only [List.getElem?_toArray, List.getElem?_cons_zero, List.getElem?_cons_succ]; exact rfl)
        case a_3 => kernel_rfl
        case b_3 => kernel_rfl
        case c_3 => kernel_rfl
        case q_3 => exact fun _ _ _ h => h
        case y_3 => exact Or.inl ⟨by rfl, by (intro w hSw; (try dsimp only at hSw); go_simp; first | done | with_reducible rfl)⟩
        try simp only [Act.put, List.setIfInBounds_toArray, List.set_cons_zero, List.set_cons_succ]
        refine' wpAnyH_take (i := 3) (oi := _) (v := _) ?e_4 ?a_4 ?b_4 ?c_4 ?q_4 ?y_4 hHeld ?r_4
        case e_4 => (simp only [List.getElem?_toArray, List.getElem?_cons_zero, List.getElem?_cons_succ]; exact rfl)
        case a_4 => kernel_rfl
        case b_4 => kernel_rfl
        case c_4 => kernel_rfl
        case q_4 => exact fun _ _ _ h => h
        case y_4 => exact Or.inl ⟨by rfl, by (intro w hSw; (try dsimp only at hSw); go_simp; first | done | with_reducible rfl)⟩
        try simp only [Act.put, List.setIfInBounds_toArray, List.set_cons_zero, List.set_cons_succ]
        refine' wpAnyH_take (i := 4) (oi := _) (v := _) ?e_5 ?a_5 ?b_5 ?c_5 ?q_5 ?y_5 hHeld ?r_5
        case e_5 => (simp only [List.getElem?_toArray, List.getElem?_cons_zero, List.getElem?_cons_succ]; exact rfl)
        case a_5 => kernel_rfl
        case b_5 => kernel_rfl
        case c_5 => kernel_rfl
        case q_5 => exact fun _ _ _ h => h
        case y_5 => exact Or.inl ⟨by rfl, by (intro w hSw; (try dsimp only at hSw); go_simp; first | done | with_reducible rfl)⟩
        try simp only [Act.put, List.setIfInBounds_toArray, List.set_cons_zero, List.set_cons_succ]
        refine' wpAnyH_take (i := 5) (oi := _) (v := _) ?e_6 ?a_6 ?b_6 ?c_6 ?q_6 ?y_6 hHeld ?r_6
        case e_6 => (simp only [List.getElem?_toArray, List.getElem?_cons_zero, List.getElem?_cons_succ]; exact rfl)
        case a_6 => kernel_rfl
        case b_6 => kernel_rfl
        case c_6 => kernel_rfl
        case q_6 => exact fun _ _ _ h => h
        case y_6 => exact Or.inl ⟨by rfl, by (intro w hSw; (try dsimp only at hSw); go_simp; first | done | with_reducible rfl)⟩
        try simp only [Act.put, List.setIfInBounds_toArray, List.set_cons_zero, List.set_cons_succ]
        refine' wpAnyH_take (i := 6) (oi := _) (v := _) ?e_7 ?a_7 ?b_7 ?c_7 ?q_7 ?y_7 hHeld ?r_7
        case e_7 => (simp only [List.getElem?_toArray, List.getElem?_cons_zero, List.getElem?_cons_succ]; exact rfl)
        case a_7 => kernel_rfl
        case b_7 => kernel_rfl
        case c_7 => kernel_rfl
        case q_7 => exact fun _ _ _ h => h
        case y_7 => exact Or.inl ⟨by rfl, by (intro w hSw; (try dsimp only at hSw); go_simp; first | done | with_reducible rfl)⟩
        try simp only [Act.put, List.setIfInBounds_toArray, List.set_cons_zero, List.set_cons_succ]
        refine' wpAnyH_take (i := 7) (oi := _) (v := _) ?e_8 ?a_8 ?b_8 ?c_8 ?q_8 ?y_8 hHeld ?r_8
        case e_8 => (simp only [List.getElem?_toArray, List.getElem?_cons_zero, List.getElem?_cons_succ]; exact rfl)
        case a_8 => kernel_rfl
        case b_8 => kernel_rfl
        case c_8 => kernel_rfl
        case q_8 => exact fun _ _ _ h => h
        case y_8 => exact Or.inl ⟨by rfl, by (intro w hSw; (try dsimp only at hSw); go_simp; first | done | with_reducible rfl)⟩
        try simp only [Act.put, List.setIfInBounds_toArray, List.set_cons_zero, List.set_cons_succ]
        refine' wpAnyH_take (i := 8) (oi := _) (v := _) ?e_9 ?a_9 ?b_9 ?c_9 ?q_9 ?y_9 hHeld ?r_9
        case e_9 => (simp only [List.getElem?_toArray, List.getElem?_cons_zero, List.getElem?_cons_succ]; exact rfl)
        case a_9 => kernel_rfl
        case b_9 => kernel_rfl
        case c_9 => kernel_rfl
        case q_9 => exact fun _ _ _ h => h
        case y_9 => exact Or.inl ⟨by rfl, by (intro w hSw; (try dsimp only at hSw); go_simp; first | done | with_reducible rfl)⟩
        try simp only [Act.put, List.setIfInBounds_toArray, List.set_cons_zero, List.set_cons_succ]
        refine' wpAnyH_take (i := 9) (oi := _) (v := _) ?e_10 ?a_10 ?b_10 ?c_10 ?q_10 ?y_10 hHeld ?r_10
        case e_10 => (simp only [List.getElem?_toArray, List.getElem?_cons_zero, List.getElem?_cons_succ]; exact rfl)
        case a_10 => kernel_rfl
        case b_10 => kernel_rfl
        case c_10 => kernel_rfl
        case q_10 => exact fun _ _ _ h => h
        case y_10 => exact Or.inl ⟨by rfl, by (intro w hSw; (try dsimp only at hSw); go_simp; first | done | with_reducible rfl)⟩
        try simp only [Act.put, List.setIfInBounds_toArray, List.set_cons_zero, List.set_cons_succ]
        refine' wpAnyH_take (i := 10) (oi := _) (v := _) ?e_11 ?a_11 ?b_11 ?c_11 ?q_11 ?y_11 hHeld ?r_11
        case e_11 => (simp only [List.getElem?_toArray, List.getElem?_cons_zero, List.getElem?_cons_succ]; exact rfl)
        case a_11 => kernel_rfl
        case b_11 => kernel_rfl
        case c_11 => kernel_rfl
        case q_11 => exact fun _ _ _ h => h
        case y_11 => exact Or.inl ⟨by rfl, by (intro w hSw; (try dsimp only at hSw); go_simp; first | done | with_reducible rfl)⟩
        try simp only [Act.put, List.setIfInBounds_toArray, List.set_cons_zero, List.set_cons_succ]
        refine' wpAnyH_take (i := 11) (oi := _) (v := _) ?e_12 ?a_12 ?b_12 ?c_12 ?q_12 ?y_12 hHeld ?r_12
        case e_12 => (simp only [List.getElem?_toArray, List.getElem?_cons_zero, List.getElem?_cons_succ]; exact rfl)
        case a_12 => kernel_rfl
        case b_12 => kernel_rfl
        case c_12 => kernel_rfl
        case q_12 => exact fun _ _ _ h => h
        case y_12 => exact Or.inl ⟨by rfl, by (intro w hSw; (try dsimp only at hSw); go_simp; first | done | with_reducible rfl)⟩
        try simp only [Act.put, List.setIfInBounds_toArray, List.set_cons_zero, List.set_cons_succ]
        refine' wpAnyH_take (i := 12) (oi := _) (v := _) ?e_13 ?a_13 ?b_13 ?c_13 ?q_13 ?y_13 hHeld ?r_13
        case e_13 => (simp only [List.getElem?_toArray, List.getElem?_cons_zero, List.getElem?_cons_succ]; exact rfl)
        case a_13 => kernel_rfl
        case b_13 => kernel_rfl
        case c_13 => kernel_rfl
        case q_13 => exact fun _ _ _ h => h
        case y_13 => exact Or.inl ⟨by rfl, by (intro w hSw; (try dsimp only at hSw); go_simp; first | done | with_reducible rfl)⟩
        try simp only [Act.put, List.setIfInBounds_toArray, List.set_cons_zero, List.set_cons_succ]
        refine' wpAnyH_take (i := 13) (oi := _) (v := _) ?e_14 ?a_14 ?b_14 ?c_14 ?q_14 ?y_14 hHeld ?r_14
        case e_14 => (simp only [List.getElem?_toArray, List.getElem?_cons_zero, List.getElem?_cons_succ]; exact rfl)
        case a_14 => kernel_rfl
        case b_14 => kernel_rfl
        case c_14 => kernel_rfl
        case q_14 => exact fun _ _ _ h => h
        case y_14 => exact Or.inl ⟨by rfl, by (intro w hSw; (try dsimp only at hSw); go_simp; first | done | with_reducible rfl)⟩
        try simp only [Act.put, List.setIfInBounds_toArray, List.set_cons_zero, List.set_cons_succ]
        refine wpAnyH_done (by kernel_rfl) ?_ _
        refine NoPanic.normal ?_
        have HBd := Lib.hid hHeld.2
        clear hHeld hrh
        go_wp2
        go_roundw
        case rel => exact ⟨k + 1, by omega, by go_num, by rw [HX.out]; refine int_val ?_; rw [show IntKind.i64.wrap (gg : Int) = (gg : Int) from IntWalk.i64_in _ (by omega), hwa]; simp, HBd⟩
        case measure => simp [intOf]; omega
      · obtain rfl : k = xss.length := by omega
        have hdd : decide ((xss.length : Int) < (xss.length : Int)) = false := by simp
        have hs1 := HSL.out xss.length
        rw [← HS.out] at *
        have HFR := Lib.hid (l9Cut_c S 100 (by omega) (by omega) (by omega) wr)
        go_wp2_with fail
        refine HFR.out.mono ?_
        rintro e w4 ⟨rfl, hb5⟩
        have BB2 := (B2.out.below HBr.out).below hb5
        have hb6 := Below.chain (Below.chain HB2.out HBr.out) hb5
        have e0 : w4.cell? ⟨w.heap.size + 1, 0, none⟩ = some (.int .i64 0) := BB2.cell 0
        have e1 : w4.cell? ⟨w.heap.size + 1, 1, none⟩ = some (.int .i64 0) := BB2.cell 1
        have f0 := BB2.frozen 0
        have f1 := BB2.frozen 1
        obtain ⟨u0, u1, hb7⟩ := two_set (.int .i64 (fracN S 100)) (.int .i64 (fracD S 100)) e0 e1 hb6 (by omega)
        clear BB2 hb6 hb5 HB2 HBr
        unfold fracV at HF ⊢
        go_wp2
        clear e0 e1 f0 f1
        generalize (World.setCell (World.setCell w4 _ _) _ _) = w3 at *
        refine bodyPost_ret (v := csV d l) (by rw [HF.out]; simp [results, Tryz.results23, go_sem, u0, u1]) rfl ⟨rfl, hb7⟩
end Go.Proofs.YtbobiiodbbcodaaGreatDoor
