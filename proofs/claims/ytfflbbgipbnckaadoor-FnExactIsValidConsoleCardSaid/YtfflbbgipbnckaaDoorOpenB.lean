/- How the laws' arguments are read: a Bench. -/
import Derived.Test.YtfflbbgipbnckaaDoorOpen
import Derived.Test.YtfflbbgipbnckaaDoorBench
namespace Go.Proofs.YtfflbbgipbnckaaDoor
open Go.ChangeShapes Go.WideShapes Go.ChangeAt Go.RowKit Go.Joins Go.Deep
set_option linter.unusedVariables false
set_option maxRecDepth 100000
theorem all_ints {cs : List Value} (h : ∀ i, i < cs.length → ∃ m, cs[i]? = some (.int .i64 m)) : ∃ xs, cs = ints xs ∧ xs.length = cs.length := by
  refine ⟨cs.map intOf, ?_, by simp⟩
  apply List.ext_getElem?
  intro i
  simp only [ints, List.getElem?_map, Option.map_map]
  by_cases hi : i < cs.length
  · obtain ⟨m, hm⟩ := h i hi
    rw [hm]; rfl
  · rw [List.getElem?_eq_none (by omega)]; rfl
section
variable {H : Type} {enc : TypeId × Value → H} {w : World} {base : Nat} {spare : Nat → Bool} {held : Bool}
theorem take_one {cs : List Value} {i : Nat} {v : Value} (h : (cs.drop i).take 1 = [v]) : cs[i]? = some v := by
  have : ((cs.drop i).take 1)[0]? = some v := by rw [h]; rfl
  rw [List.getElem?_take, if_pos (by omega), List.getElem?_drop] at this
  simpa using this
theorem open_arr {t e : TypeId} {n fuel : Nat} {cs : List Value} {x : DataW H × List MemPlace} (ht : Tryd.prog.underlying t = some (.array n e)) (he : Tryd.prog.underlying e = some (.int .i64)) (hce : Tryd.prog.cellsOf e = 1)
    (h : DataW.trod enc Tryd.prog w base spare held fuel t cs = some x) : ∀ i, i < n → ∃ m, cs[i]? = some (.int .i64 m) := by
  obtain ⟨xs, m, _, _, hl, hx, hf⟩ := DataW.trod_array ht h
  intro i hi
  have h1 := hf i hi
  rw [hce, Nat.mul_one, List.getElem?_eq_getElem (by omega)] at h1
  obtain ⟨k, hk, _, _⟩ := DataW.trod_int he h1
  exact ⟨k, take_one hk⟩
theorem sub_int {cs : List Value} {o n : Nat} (h : ∀ i, i < n → ∃ m, ((cs.drop o).take n)[i]? = some (.int .i64 m)) : ∀ i, o ≤ i → i < o + n → ∃ m, cs[i]? = some (.int .i64 m) := by
  intro i h1 h2
  obtain ⟨m, hm⟩ := h (i - o) (by omega)
  rw [List.getElem?_take, if_pos (by omega), List.getElem?_drop, show o + (i - o) = i by omega] at hm
  exact ⟨m, hm⟩
theorem bench_cells {t : TypeId} {f0 f1 f2 f3 : Field} {fuel : Nat} {cs : List Value} {x : DataW H × List MemPlace} (hs : Tryd.prog.underlying t = some (.struct #[f0, f1, f2, f3]))
    (t0 : f0.type = 53 ∧ f0.offset = 0) (t1 : f1.type = 53 ∧ f1.offset = 6) (t2 : f2.type = 53 ∧ f2.offset = 12) (t3 : f3.type = 3 ∧ f3.offset = 18) (hC : Tryd.prog.cellsOf t = 19)
    (h : DataW.trod enc Tryd.prog w base spare held fuel t cs = some x) : ∃ b, cs = ints b ∧ b.length = 19 := by
  obtain ⟨y0, y1, y2, y3, n, _, hl, h0, h1, h2, h3⟩ := trod_struct4 hs h
  have c6 : Tryd.prog.cellsOf 53 = 6 := by kernel_rfl
  have c1 : Tryd.prog.cellsOf 3 = 1 := by kernel_rfl
  rw [t0.1, t0.2, c6] at h0
  rw [t1.1, t1.2, c6] at h1
  rw [t2.1, t2.2, c6] at h2
  rw [t3.1, t3.2, c1] at h3
  have g0 := sub_int (open_arr Tryd.underlying53 Tryd.underlying3 c1 h0)
  have g1 := sub_int (open_arr Tryd.underlying53 Tryd.underlying3 c1 h1)
  have g2 := sub_int (open_arr Tryd.underlying53 Tryd.underlying3 c1 h2)
  obtain ⟨k, hk, _, _⟩ := DataW.trod_int Tryd.underlying3 h3
  have g3 := take_one hk
  rw [hC] at hl
  obtain ⟨b, hb1, hb2⟩ := all_ints (cs := cs) (fun i hi => by
    rcases Nat.lt_or_ge i 6 with h | h
    · exact g0 i (by omega) (by omega)
    rcases Nat.lt_or_ge i 12 with h | h
    · exact g1 i (by omega) (by omega)
    rcases Nat.lt_or_ge i 18 with h | h
    · exact g2 i (by omega) (by omega)
    · obtain rfl : i = 18 := by omega
      exact ⟨k, g3⟩)
  exact ⟨b, hb1, by omega⟩
theorem open_Bench {r : Reach} {b0 : Nat} {v : Value} {d : DataW H} {p : List MemPlace} (hv : Value.okWide Tryd.prog w r b0 55 v) (h : DataW.Trod enc Tryd.prog w base spare held 55 v d p) : ∃ b : List Int, v = aggI b ∧ b.length = 19 := by
  obtain ⟨cs, rfl, _⟩ := okWide_struct Tryd.underlying55 hv
  obtain ⟨fuel, hf⟩ := h
  obtain ⟨b, hb1, hb2⟩ := bench_cells Tryd.underlying55 ⟨rfl, rfl⟩ ⟨rfl, rfl⟩ ⟨rfl, rfl⟩ ⟨rfl, rfl⟩ (by kernel_rfl) hf
  refine ⟨b, ?_, hb2⟩
  have : cs.toList = ints b := hb1
  unfold aggI
  rw [← this]
end
end Go.Proofs.YtfflbbgipbnckaaDoor
