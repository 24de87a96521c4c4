/- Walks of the rows of a Bench: shown, sent. -/
import Derived.Test.YtfflbbgipbnckaaDoorBench2
import Derived.Test.YtfflbbgipbnckaaDoorShownRow
import Derived.Lib.SliceRun
namespace Go.Proofs.YtfflbbgipbnckaaDoor
open Go.RowKit
set_option linter.unusedVariables false
set_option maxRecDepth 100000
def shAt (b : List Int) (k : Nat) : Int := shC (bF b k).1 (bF b k).2 (bg b k)
def shTo (b : List Int) (n : Nat) : List Int := (List.range n).map (shAt b)
theorem shTo_succ (b : List Int) (n : Nat) : shTo b (n + 1) = shTo b n ++ [shAt b n] := by unfold shTo; rw [List.range_succ, List.map_append]; rfl
theorem shTo_len (b : List Int) (n : Nat) : (shTo b n).length = n := by simp [shTo]
theorem take_succ_bg {b : List Int} {n : Nat} (h : n < b.length) : b.take (n + 1) = b.take n ++ [bg b n] := by
  rw [take_snoc (List.getElem?_eq_getElem h)]; simp [bg, h]
theorem goodB_at {b : List Int} (h : goodB b = true) {k : Nat} (hk : k < 6) : (0 ≤ (bF b k).1 ∧ (bF b k).1 ≤ 127 ∧ 0 ≤ (bF b k).2 ∧ (bF b k).2 ≤ 127) ∧ 0 ≤ bg b k ∧ bg b k ≤ 127 := by
  unfold goodB goodTo at h
  simp only [Bool.and_eq_true, List.all_eq_true, List.mem_range] at h
  have := h.1 k hk
  unfold goodAt fB at this
  simp only [Bool.and_eq_true] at this
  have h1 := faultB_true this.2
  exact ⟨⟨h1.1, h1.2.1, h1.2.2.1, h1.2.2.2.1⟩, cellB_true this.1⟩
theorem index6_0 (x0 x1 x2 x3 x4 x5 : Int) (w : World) : (Instr.index 53 (.agg #[.int .i64 x0, .int .i64 x1, .int .i64 x2, .int .i64 x3, .int .i64 x4, .int .i64 x5]) (.int .i64 0)).run Tryd.prog w = .ok (.int .i64 x0) w := by kernel_rfl
theorem index6_1 (x0 x1 x2 x3 x4 x5 : Int) (w : World) : (Instr.index 53 (.agg #[.int .i64 x0, .int .i64 x1, .int .i64 x2, .int .i64 x3, .int .i64 x4, .int .i64 x5]) (.int .i64 1)).run Tryd.prog w = .ok (.int .i64 x1) w := by kernel_rfl
theorem index6_2 (x0 x1 x2 x3 x4 x5 : Int) (w : World) : (Instr.index 53 (.agg #[.int .i64 x0, .int .i64 x1, .int .i64 x2, .int .i64 x3, .int .i64 x4, .int .i64 x5]) (.int .i64 2)).run Tryd.prog w = .ok (.int .i64 x2) w := by kernel_rfl
theorem index6_3 (x0 x1 x2 x3 x4 x5 : Int) (w : World) : (Instr.index 53 (.agg #[.int .i64 x0, .int .i64 x1, .int .i64 x2, .int .i64 x3, .int .i64 x4, .int .i64 x5]) (.int .i64 3)).run Tryd.prog w = .ok (.int .i64 x3) w := by kernel_rfl
theorem index6_4 (x0 x1 x2 x3 x4 x5 : Int) (w : World) : (Instr.index 53 (.agg #[.int .i64 x0, .int .i64 x1, .int .i64 x2, .int .i64 x3, .int .i64 x4, .int .i64 x5]) (.int .i64 4)).run Tryd.prog w = .ok (.int .i64 x4) w := by kernel_rfl
theorem index6_5 (x0 x1 x2 x3 x4 x5 : Int) (w : World) : (Instr.index 53 (.agg #[.int .i64 x0, .int .i64 x1, .int .i64 x2, .int .i64 x3, .int .i64 x4, .int .i64 x5]) (.int .i64 5)).run Tryd.prog w = .ok (.int .i64 x5) w := by kernel_rfl
theorem index6 {b : List Int} (hb : b.length = 6) {k : Nat} (hk : k < 6) (w : World) : (Instr.index 53 (.agg (ints b).toArray) (.int .i64 (k : Int))).run Tryd.prog w = .ok (.int .i64 (bg b k)) w := by
  obtain ⟨x0, x1, x2, x3, x4, x5, rfl⟩ := len6 hb
  have h : k = 0 ∨ k = 1 ∨ k = 2 ∨ k = 3 ∨ k = 4 ∨ k = 5 := by omega
  rcases h with rfl | rfl | rfl | rfl | rfl | rfl
  · exact index6_0 x0 x1 x2 x3 x4 x5 w
  · exact index6_1 x0 x1 x2 x3 x4 x5 w
  · exact index6_2 x0 x1 x2 x3 x4 x5 w
  · exact index6_3 x0 x1 x2 x3 x4 x5 w
  · exact index6_4 x0 x1 x2 x3 x4 x5 w
  · exact index6_5 x0 x1 x2 x3 x4 x5 w
theorem bg_pt {b : List Int} (h : b.length = 19) {k : Nat} (hk : k < 6) : bg (pt b 0) k = bg b k := by
  unfold bg pt; simp [hk]
theorem ints_cells {w : World} {ad : Addr} {n c : Nat} {xs : List Int} (h : Ints w (.slice (some ad) n c) xs) : ∀ j u, (ints xs)[j]? = some u → w.cell? (ad.add j) = some u := by
  intro j u hu
  obtain ⟨a, c', e, _, _, HC⟩ := h.parts
  simp only [ints, List.getElem?_map, Option.map_eq_some_iff] at hu
  obtain ⟨x, hx, rfl⟩ := hu
  obtain ⟨b, off, e2, hc⟩ := HC.out j x hx
  injection e with e1 e3 e4
  rw [e2] at e1
  injection e1 with e5
  subst e5
  rw [Addr.add_lit]; exact hc
/-- the cells of a Bench, sent or shown -/
def rowOf (b : List Int) (s : Bool) (n : Nat) : List Int := if s then shTo b n else b.take n
theorem rowOf_len {b : List Int} (hb : b.length = 19) (s : Bool) {n : Nat} (h : n ≤ 6) : (rowOf b s n).length = n := by
  unfold rowOf; split
  · exact shTo_len _ _
  · rw [List.length_take]; omega
theorem rowOf_succ {b : List Int} (hb : b.length = 19) (s : Bool) {n : Nat} (h : n < 6) : rowOf b s (n + 1) = rowOf b s n ++ [if s then shAt b n else bg b n] := by
  unfold rowOf; split
  · exact shTo_succ _ _
  · exact take_succ_bg (by omega)
theorem range_grown {w w' : World} {g o : Nat} {cs : List Value} {r : Option Nat} (h : w.rangeAt g o cs) (hg : w.grownBy w' r) (hr : some g ≠ r) : w'.rangeAt g o cs := fun j v hv =>
  hg.cell (h j v hv) hr
/-- what SentRow and BenchRow return -/
def brL (b : List Int) (s : Bool) : List Int := if goodB b then rowOf b s 6 else []
theorem brL_le (b : List Int) (s : Bool) : (brL b s).length ≤ 6 := by
  unfold brL rowOf; split
  · split
    · rw [shTo_len]; omega
    · rw [List.length_take]; omega
  · simp
end Go.Proofs.YtfflbbgipbnckaaDoor
