/- How the arguments of the laws are read: slices of ints, structs of ints. -/
import Derived.Test.YtlipkplomndjcaaLib
import Derived.Test.YtlipkplomndjcaaProg
import Derived.ProofKit
import Derived.OpenShut
import Derived.ShutString
import Derived.ChangeOld
import Derived.Below
import Derived.Lib.SmallJoins
import Derived.Deep.Slices
import Derived.Deep.Fields
import Derived.ChangeSame
import Derived.Test.YtlipkplomndjcaaPairs
namespace Go.Proofs.Ytlipkplomndjcaa
open Go.ChangeShapes Go.WideShapes Go.ChangeAt Go.RowKit Go.Joins Go.Deep
set_option linter.unusedVariables false
set_option maxRecDepth 100000

theorem own : ownKnob Try.prog.godebug = none := by kernel_rfl
theorem laidOut : laidOutB Try.prog = true := by kernel_rfl

section
variable {H : Type} {enc : TypeId × Value → H} {w : World} {base : Nat} {spare : Nat → Bool} {held : Bool}
theorem open_Ints {r : Reach} {b0 : Nat} {v : Value} {d : DataW H} {p : List MemPlace} (hv : Value.okWide Try.prog w r b0 24 v) (h : DataW.Trod enc Try.prog w base spare held 24 v d p) : ∃ xs, Ints w v xs := by
  obtain ⟨a0, len0, cap0, rfl⟩ := okWide_slice Try.underlying24 hv
  obtain ⟨fuel, hf⟩ := h
  rcases open_ints Try.underlying24 Try.underlying3 (by kernel_rfl) hf with ⟨hcs, _⟩ | ⟨x, l, c, zs, hcs, _, hl, hm, hz, _, hcell, hwz⟩
  · simp [Value.cells] at hcs
    obtain ⟨rfl, rfl, rfl⟩ := hcs
    exact ⟨[], Sl.nil_ w 1⟩
  · simp [Value.cells] at hcs
    obtain ⟨rfl, rfl, rfl⟩ := hcs
    refine ⟨zs.take len0, ?_⟩
    have hlc : len0 ≤ zs.length := by
      revert hz; cases spare x.block <;> simp <;> omega
    have hlen : (zs.take len0).length = len0 := by rw [List.length_take, Nat.min_eq_left hlc]
    refine ⟨some x, cap0, by rw [hlen], by rw [hlen]; exact hl, hm, by simp, fun hn => ?_⟩
    rw [hlen] at hn ⊢
    obtain ⟨b, off, spot⟩ := x
    have h0 := hcell 0 (by omega)
    have hs : spot = none := by
      cases spot with
      | none => rfl
      | some s =>
        exfalso
        unfold Addr.add at h0; simp [World.cell?] at h0
        split at h0 <;> simp_all
    subst hs
    refine ⟨b, off, rfl, fun j hj => ?_⟩
    have hjz : j < zs.length := by omega
    have := hcell j hjz
    rw [Addr.add_lit] at this
    rw [this, List.getElem?_map, List.getElem?_take, if_pos (by omega)]
    simp [hjz]
theorem open_int2 {r : Reach} {b0 : Nat} {t : TypeId} {f0 f1 : Field} {v : Value} {d : DataW H} {p : List MemPlace} (hs : Try.prog.underlying t = some (.struct #[f0, f1])) (hone : oneCellFields Try.prog #[f0, f1] = true) (hC : Try.prog.cellsOf t = 2)
    (h0 : Try.prog.underlying f0.type = some (.int .i64)) (h1 : Try.prog.underlying f1.type = some (.int .i64))
    (hv : Value.okWide Try.prog w r b0 t v) (h : DataW.Trod enc Try.prog w base spare held t v d p) : ∃ a b, v = .agg #[.int .i64 a, .int .i64 b] := by
  obtain ⟨v0, v1, y0, y1, n, rfl, _, _, g0, g1⟩ := open_agg2 hs hone hC hv h
  obtain ⟨a, ha, _, _⟩ := DataW.trod_int h0 g0
  obtain ⟨b, hb, _, _⟩ := DataW.trod_int h1 g1
  simp at ha hb
  exact ⟨a, b, by rw [ha, hb]⟩
/-- a slice of structs of two ints -/
theorem open_pairs {r : Reach} {b0 : Nat} {t e : TypeId} {f0 f1 : Field} {v : Value} {d : DataW H} {p : List MemPlace} (ht : Try.prog.underlying t = some (.slice e)) (hs : Try.prog.underlying e = some (.struct #[f0, f1]))
    (hone : oneCellFields Try.prog #[f0, f1] = true) (hC : Try.prog.cellsOf e = 2)
    (h0 : Try.prog.underlying f0.type = some (.int .i64)) (h1 : Try.prog.underlying f1.type = some (.int .i64))
    (hv : Value.okWide Try.prog w r b0 t v) (h : DataW.Trod enc Try.prog w base spare held t v d p) : ∃ ps, Pairs w v ps := by
  obtain ⟨a0, len0, cap0, rfl⟩ := okWide_slice ht hv
  obtain ⟨fuel, hf⟩ := h
  rcases open_slice ht hf with ⟨hcs, _⟩ | ⟨x, len, cap, m, n, D, Pl, hcs, _, hl, hm, hmm, _, hi⟩
  · simp [Value.cells] at hcs
    obtain ⟨rfl, rfl, rfl⟩ := hcs
    exact ⟨[], Sl.nil_ w 2⟩
  · simp [Value.cells] at hcs
    obtain ⟨rfl, rfl, rfl⟩ := hcs
    have hml : len0 ≤ m := by rw [hmm]; split <;> omega
    -- each element's two cells
    have hel : ∀ k, k < len0 → ∃ q : Int × Int, w.cell? (x.add (k * 2)) = some (.int .i64 q.1) ∧ w.cell? (x.add (k * 2 + 1)) = some (.int .i64 q.2) := by
      intro k hk
      obtain ⟨cs', hc, ht'⟩ := hi k (by omega)
      rw [hC] at hc
      obtain ⟨ys, n', _, _, hlen, hyl, hfl⟩ := DataW.trod_struct hs ht'
      obtain ⟨_, hcl, hat⟩ := World.cells?_some hc
      obtain ⟨o0, k0⟩ := hone_of hone 0 f0 rfl
      obtain ⟨o1, k1⟩ := hone_of hone 1 f1 rfl
      have hcl2 : cs'.length = 2 := by simpa using hcl
      obtain ⟨u0, u1, rfl⟩ : ∃ u0 u1, cs' = [u0, u1] := by
        match cs', hcl2 with
        | [u0, u1], _ => exact ⟨u0, u1, rfl⟩
      have e0 := hfl 0 f0 rfl
      have e1 := hfl 1 f1 rfl
      rw [o0, k0] at e0
      rw [o1, k1] at e1
      have hy0 : ∃ y0, ys[0]? = some y0 := ⟨ys[0]'(by rw [hyl]; show 0 < 2; omega), List.getElem?_eq_getElem _⟩
      have hy1 : ∃ y1, ys[1]? = some y1 := ⟨ys[1]'(by rw [hyl]; show 1 < 2; omega), List.getElem?_eq_getElem _⟩
      obtain ⟨y0, hy0⟩ := hy0
      obtain ⟨y1, hy1⟩ := hy1
      rw [hy0] at e0
      rw [hy1] at e1
      obtain ⟨a, ha, _, _⟩ := DataW.trod_int h0 e0
      obtain ⟨b, hb, _, _⟩ := DataW.trod_int h1 e1
      simp at ha hb
      refine ⟨(a, b), ?_, ?_⟩
      · have := hat (i := 0) (by omega)
        rw [Go.Deep.add_add] at this
        simpa [ha] using this
      · have := hat (i := 1) (by omega)
        rw [Go.Deep.add_add] at this
        simpa [hb] using this
    by_cases hz : len0 = 0
    · subst hz
      exact ⟨[], some x, cap0, rfl, by simp, hm, by simp [flat2], fun h => absurd h (by simp)⟩
    · obtain ⟨b, off, spot⟩ := x
      have hs0 : spot = none := by
        obtain ⟨q, hq, _⟩ := hel 0 (by omega)
        cases spot with
        | none => rfl
        | some s =>
          exfalso
          unfold Addr.add at hq; simp [World.cell?] at hq
          split at hq <;> simp_all
      subst hs0
      have hch : ∀ k : Fin len0, ∃ q : Int × Int, w.cell? ⟨b, off + k.1 * 2, none⟩ = some (.int .i64 q.1) ∧ w.cell? ⟨b, off + (k.1 * 2 + 1), none⟩ = some (.int .i64 q.2) := by
        intro k
        obtain ⟨q, h1, h2⟩ := hel k.1 k.2
        rw [Addr.add_lit] at h1 h2
        exact ⟨q, h1, h2⟩
      have hg : ∃ g : Fin len0 → Int × Int, ∀ k, w.cell? ⟨b, off + k.1 * 2, none⟩ = some (.int .i64 (g k).1) ∧ w.cell? ⟨b, off + (k.1 * 2 + 1), none⟩ = some (.int .i64 (g k).2) :=
        ⟨fun k => Classical.choose (hch k), fun k => Classical.choose_spec (hch k)⟩
      obtain ⟨g, hg⟩ := hg
      refine ⟨List.ofFn g, some ⟨b, off, none⟩, cap0, by simp, by simpa using hl, hm, by rw [flat2_length], fun _ => ⟨b, off, rfl, fun j hj => ?_⟩⟩
      rw [List.length_ofFn] at hj
      have hk : j / 2 < len0 := by omega
      have hp : (List.ofFn g)[j / 2]? = some (g ⟨j / 2, hk⟩) := by simp [hk]
      have hfa := flat2_at hp
      have hgk := hg ⟨j / 2, hk⟩
      rcases Nat.mod_two_eq_zero_or_one j with hj2 | hj2
      · have e : j = j / 2 * 2 := by omega
        rw [e, hfa.1]; exact hgk.1
      · have e : j = j / 2 * 2 + 1 := by omega
        rw [e, hfa.2]; exact hgk.2
end
end Go.Proofs.Ytlipkplomndjcaa
