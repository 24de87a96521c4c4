/- How the laws' arguments are read: a Console. -/
import Derived.Test.YtfflbbgipbnckaaDoorOpenB
import Derived.Test.YtfflbbgipbnckaaDoorCons
namespace Go.Proofs.YtfflbbgipbnckaaDoor
open Go.ChangeShapes Go.WideShapes Go.ChangeAt Go.RowKit Go.Joins Go.Deep
set_option linter.unusedVariables false
set_option maxRecDepth 100000
section
variable {H : Type} {enc : TypeId × Value → H} {w : World} {base : Nat} {spare : Nat → Bool} {held : Bool}
theorem log_cells {t : TypeId} {f0 f1 f2 : Field} {fuel : Nat} {cs : List Value} {x : DataW H × List MemPlace} (hs : Tryd.prog.underlying t = some (.struct #[f0, f1, f2]))
    (t0 : f0.type = 9 ∧ f0.offset = 0) (t1 : f1.type = 9 ∧ f1.offset = 1) (t2 : f2.type = 3 ∧ f2.offset = 2) (hC : Tryd.prog.cellsOf t = 3)
    (h : DataW.trod enc Tryd.prog w base spare held fuel t cs = some x) : ∃ d p n, cs = lgC d p n ∧ d.size ≤ 9223372036854775807 ∧ p.size ≤ 9223372036854775807 := by
  obtain ⟨y0, y1, y2, n, _, hl, h0, h1, h2⟩ := trod_struct3 hs h
  have c9 : Tryd.prog.cellsOf 9 = 1 := by kernel_rfl
  have c1 : Tryd.prog.cellsOf 3 = 1 := by kernel_rfl
  rw [t0.1, t0.2, c9] at h0
  rw [t1.1, t1.2, c9] at h1
  rw [t2.1, t2.2, c1] at h2
  obtain ⟨a, ha, _, ha2⟩ := DataW.trod_string Tryd.underlying9 h0
  obtain ⟨b, hb, _, hb2⟩ := DataW.trod_string Tryd.underlying9 h1
  obtain ⟨k, hk, _, _⟩ := DataW.trod_int Tryd.underlying3 h2
  have g0 := take_one ha
  have g1 := take_one hb
  have g2 := take_one hk
  rw [hC] at hl
  unfold maxLen at ha2 hb2
  refine ⟨a, b, k, ?_, by omega, by omega⟩
  match cs, hl with
  | [x0, x1, x2], _ =>
    simp at g0 g1 g2
    rw [g0, g1, g2]; rfl
theorem open_Console {r : Reach} {b0 : Nat} {v : Value} {d : DataW H} {p : List MemPlace} (hv : Value.okWide Tryd.prog w r b0 57 v) (h : DataW.Trod enc Tryd.prog w base spare held 57 v d p) :
    ∃ (b : List Int) (d p : ByteArray) (n : Int), v = .agg (csC b d p n).toArray ∧ b.length = 19 ∧ d.size ≤ 9223372036854775807 ∧ p.size ≤ 9223372036854775807 := by
  obtain ⟨cs, rfl, _⟩ := okWide_struct Tryd.underlying57 hv
  obtain ⟨fuel, hf⟩ := h
  obtain ⟨y0, y1, n, _, hl, h0, h1⟩ := trod_struct2 Tryd.underlying57 hf
  have c0 : Tryd.prog.cellsOf 55 = 19 := by kernel_rfl
  have c1 : Tryd.prog.cellsOf 36 = 3 := by kernel_rfl
  have cC : Tryd.prog.cellsOf 57 = 22 := by kernel_rfl
  rw [cC] at hl
  have hl2 : cs.toList.length = 22 := by have h : cs.size = 22 := hl; simpa using h
  obtain ⟨b, hb1, hb2⟩ := bench_cells Tryd.underlying55 ⟨rfl, rfl⟩ ⟨rfl, rfl⟩ ⟨rfl, rfl⟩ ⟨rfl, rfl⟩ c0 h0
  obtain ⟨dd, pp, k, hl1, hd, hp⟩ := log_cells Tryd.underlying36 ⟨rfl, rfl⟩ ⟨rfl, rfl⟩ ⟨rfl, rfl⟩ c1 h1
  refine ⟨b, dd, pp, k, ?_, hb2, hd, hp⟩
  have e0 : (cs.toList.drop 0).take 19 = ints b := by rw [← hb1]; show _ = List.take (Tryd.prog.cellsOf 55) _; rw [c0]; rfl
  have e1 : (cs.toList.drop 19).take 3 = lgC dd pp k := by rw [← hl1]; show _ = List.take (Tryd.prog.cellsOf 36) _; rw [c1]; rfl
  have e2 : cs.toList = csC b dd pp k := by
    unfold csC
    rw [← e0, ← e1, List.drop_zero, List.take_of_length_le (l := cs.toList.drop 19) (by rw [List.length_drop]; omega), List.take_append_drop]
  rw [← e2]
end
end Go.Proofs.YtfflbbgipbnckaaDoor
