/- How the laws' arguments are read: Jobs, lists of Jobs. -/
import Derived.Test.YtfflbbgipbnckaaOpenB
import Derived.Test.YtfflbbgipbnckaaTrip
namespace Go.Proofs.Ytfflbbgipbnckaa
open Go.ChangeShapes Go.WideShapes Go.ChangeAt Go.RowKit Go.Joins Go.Deep
set_option linter.unusedVariables false
set_option maxRecDepth 100000
section
variable {H : Type} {enc : TypeId × Value → H} {w : World} {base : Nat} {spare : Nat → Bool} {held : Bool}
theorem open_Job {r : Reach} {b0 : Nat} {v : Value} {d : DataW H} {p : List MemPlace} (hv : Value.okWide Try.prog w r b0 40 v) (h : DataW.Trod enc Try.prog w base spare held 40 v d p) : ∃ j : Int × Int × Int, v = jobV j.1 j.2.1 j.2.2 := by
  obtain ⟨v0, v1, v2, y0, y1, y2, n, rfl, _, _, g0, g1, g2⟩ := open_agg3 Try.underlying40 (by kernel_rfl) (by kernel_rfl) hv h
  obtain ⟨a, ha, _, _⟩ := DataW.trod_int Try.underlying3 g0
  obtain ⟨b, hb, _, _⟩ := DataW.trod_int Try.underlying3 g1
  obtain ⟨c, hc, _, _⟩ := DataW.trod_int Try.underlying3 g2
  simp at ha hb hc
  exact ⟨(a, b, c), by rw [ha, hb, hc]; rfl⟩
/-- a slice of structs of three ints -/
theorem open_trips {r : Reach} {b0 : Nat} {t e : TypeId} {f0 f1 f2 : Field} {v : Value} {d : DataW H} {p : List MemPlace} (ht : Try.prog.underlying t = some (.slice e)) (hs : Try.prog.underlying e = some (.struct #[f0, f1, f2]))
    (hone : oneCellFields Try.prog #[f0, f1, f2] = true) (hC : Try.prog.cellsOf e = 3)
    (h0 : Try.prog.underlying f0.type = some (.int .i64)) (h1 : Try.prog.underlying f1.type = some (.int .i64)) (h2 : Try.prog.underlying f2.type = some (.int .i64))
    (hv : Value.okWide Try.prog w r b0 t v) (h : DataW.Trod enc Try.prog w base spare held t v d p) : ∃ ps, Trips w v ps := by
  obtain ⟨a0, len0, cap0, rfl⟩ := okWide_slice ht hv
  obtain ⟨fuel, hf⟩ := h
  rcases open_slice ht hf with ⟨hcs, _⟩ | ⟨x, len, cap, m, n, D, Pl, hcs, _, hl, hm, hmm, _, hi⟩
  · simp [Value.cells] at hcs
    obtain ⟨rfl, rfl, rfl⟩ := hcs
    exact ⟨[], Sl.nil_ w 3⟩
  · simp [Value.cells] at hcs
    obtain ⟨rfl, rfl, rfl⟩ := hcs
    have hml : len0 ≤ m := by rw [hmm]; split <;> omega
    have hel : ∀ k, k < len0 → ∃ q : Int × Int × Int, w.cell? (x.add (k * 3)) = some (.int .i64 q.1) ∧ w.cell? (x.add (k * 3 + 1)) = some (.int .i64 q.2.1) ∧ w.cell? (x.add (k * 3 + 2)) = some (.int .i64 q.2.2) := by
      intro k hk
      obtain ⟨cs', hc, ht'⟩ := hi k (by omega)
      rw [hC] at hc
      obtain ⟨ys, n', _, _, hlen, hyl, hfl⟩ := DataW.trod_struct hs ht'
      obtain ⟨_, hcl, hat⟩ := World.cells?_some hc
      obtain ⟨o0, k0⟩ := hone_of hone 0 f0 rfl
      obtain ⟨o1, k1⟩ := hone_of hone 1 f1 rfl
      obtain ⟨o2, k2⟩ := hone_of hone 2 f2 rfl
      have hcl2 : cs'.length = 3 := by simpa using hcl
      obtain ⟨u0, u1, u2, rfl⟩ : ∃ u0 u1 u2, cs' = [u0, u1, u2] := by
        match cs', hcl2 with
        | [u0, u1, u2], _ => exact ⟨u0, u1, u2, rfl⟩
      have e0 := hfl 0 f0 rfl
      have e1 := hfl 1 f1 rfl
      have e2 := hfl 2 f2 rfl
      rw [o0, k0] at e0
      rw [o1, k1] at e1
      rw [o2, k2] at e2
      have hy0 : ∃ y0, ys[0]? = some y0 := ⟨ys[0]'(by rw [hyl]; show 0 < 3; omega), List.getElem?_eq_getElem _⟩
      have hy1 : ∃ y1, ys[1]? = some y1 := ⟨ys[1]'(by rw [hyl]; show 1 < 3; omega), List.getElem?_eq_getElem _⟩
      have hy2 : ∃ y2, ys[2]? = some y2 := ⟨ys[2]'(by rw [hyl]; show 2 < 3; omega), List.getElem?_eq_getElem _⟩
      obtain ⟨y0, hy0⟩ := hy0
      obtain ⟨y1, hy1⟩ := hy1
      obtain ⟨y2, hy2⟩ := hy2
      rw [hy0] at e0
      rw [hy1] at e1
      rw [hy2] at e2
      obtain ⟨a, ha, _, _⟩ := DataW.trod_int h0 e0
      obtain ⟨b, hb, _, _⟩ := DataW.trod_int h1 e1
      obtain ⟨c, hc3, _, _⟩ := DataW.trod_int h2 e2
      simp at ha hb hc3
      refine ⟨(a, b, c), ?_, ?_, ?_⟩
      · have := hat (i := 0) (by omega)
        rw [Go.Deep.add_add] at this
        simpa [ha] using this
      · have := hat (i := 1) (by omega)
        rw [Go.Deep.add_add] at this
        simpa [hb] using this
      · have := hat (i := 2) (by omega)
        rw [Go.Deep.add_add] at this
        simpa [hc3] using this
    by_cases hz : len0 = 0
    · subst hz
      exact ⟨[], some x, cap0, rfl, by simp, hm, by simp [flat3], fun h => absurd h (by simp)⟩
    · obtain ⟨b, off, spot⟩ := x
      have hs0 : spot = none := by
        obtain ⟨q, hq, _⟩ := hel 0 (by omega)
        cases spot with
        | none => rfl
        | some s =>
          exfalso
          unfold Addr.add at hq; simp [World.cell?] at hq
          split at hq <;> simp_all
      subst hs0
      have hch : ∀ k : Fin len0, ∃ q : Int × Int × Int, w.cell? ⟨b, off + k.1 * 3, none⟩ = some (.int .i64 q.1) ∧ w.cell? ⟨b, off + (k.1 * 3 + 1), none⟩ = some (.int .i64 q.2.1) ∧ w.cell? ⟨b, off + (k.1 * 3 + 2), none⟩ = some (.int .i64 q.2.2) := by
        intro k
        obtain ⟨q, h1, h2, h3⟩ := hel k.1 k.2
        rw [Addr.add_lit] at h1 h2 h3
        exact ⟨q, h1, h2, h3⟩
      have hg : ∃ g : Fin len0 → Int × Int × Int, ∀ k, w.cell? ⟨b, off + k.1 * 3, none⟩ = some (.int .i64 (g k).1) ∧ w.cell? ⟨b, off + (k.1 * 3 + 1), none⟩ = some (.int .i64 (g k).2.1) ∧ w.cell? ⟨b, off + (k.1 * 3 + 2), none⟩ = some (.int .i64 (g k).2.2) :=
        ⟨fun k => Classical.choose (hch k), fun k => Classical.choose_spec (hch k)⟩
      obtain ⟨g, hg⟩ := hg
      refine ⟨List.ofFn g, some ⟨b, off, none⟩, cap0, by simp, by simpa using hl, hm, by rw [flat3_length], fun _ => ⟨b, off, rfl, fun j hj => ?_⟩⟩
      rw [List.length_ofFn] at hj
      have hk : j / 3 < len0 := by omega
      have hp : (List.ofFn g)[j / 3]? = some (g ⟨j / 3, hk⟩) := by simp [hk]
      have hfa := flat3_at hp
      have hgk := hg ⟨j / 3, hk⟩
      have hm3 : j % 3 = 0 ∨ j % 3 = 1 ∨ j % 3 = 2 := by omega
      rcases hm3 with hj2 | hj2 | hj2
      · have e : j = j / 3 * 3 := by omega
        rw [e, hfa.1]; exact hgk.1
      · have e : j = j / 3 * 3 + 1 := by omega
        rw [e, hfa.2.1]; exact hgk.2.1
      · have e : j = j / 3 * 3 + 2 := by omega
        rw [e, hfa.2.2]; exact hgk.2.2
theorem open_Jobs {r : Reach} {b0 : Nat} {v : Value} {d : DataW H} {p : List MemPlace} (hv : Value.okWide Try.prog w r b0 49 v) (h : DataW.Trod enc Try.prog w base spare held 49 v d p) : ∃ ps, Trips w v ps :=
  open_trips Try.underlying49 Try.underlying40 (by kernel_rfl) (by kernel_rfl) Try.underlying3 Try.underlying3 Try.underlying3 hv h
end
end Go.Proofs.Ytfflbbgipbnckaa
