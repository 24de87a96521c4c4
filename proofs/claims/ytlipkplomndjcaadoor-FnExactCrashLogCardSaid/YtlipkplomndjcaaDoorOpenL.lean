/- How the laws' arguments are read: records. -/
import Derived.Test.YtlipkplomndjcaaDoorOpen
import Derived.Test.YtlipkplomndjcaaDoorRec
namespace Go.Proofs.YtlipkplomndjcaaDoor
open Go.ChangeShapes Go.WideShapes Go.ChangeAt Go.RowKit Go.Joins Go.Deep
set_option linter.unusedVariables false
set_option maxRecDepth 100000
section
variable {H : Type} {enc : TypeId × Value → H} {w : World} {base : Nat} {spare : Nat → Bool} {held : Bool}
theorem open_Log {r : Reach} {b0 : Nat} {v : Value} {d : DataW H} {p : List MemPlace} (hv : Value.okWide Tryd.prog w r b0 23 v) (h : DataW.Trod enc Tryd.prog w base spare held 23 v d p) :
    ∃ (a b : ByteArray) (n : Int), v = .agg #[.string a, .string b, .int .i64 n] ∧ a.size ≤ 9223372036854775807 ∧ b.size ≤ 9223372036854775807 := by
  obtain ⟨v0, v1, v2, y0, y1, y2, n, rfl, _, _, g0, g1, g2⟩ := open_agg3 Tryd.underlying23 (by kernel_rfl) (by kernel_rfl) hv h
  obtain ⟨a, ha, _, ha2⟩ := DataW.trod_string Tryd.underlying9 g0
  obtain ⟨b, hb, _, hb2⟩ := DataW.trod_string Tryd.underlying9 g1
  obtain ⟨k, hk, _, _⟩ := DataW.trod_int Tryd.underlying3 g2
  simp only [List.cons.injEq, and_true] at ha hb hk
  subst ha hb hk
  unfold maxLen at ha2 hb2
  exact ⟨a, b, k, rfl, by omega, by omega⟩
end
end Go.Proofs.YtlipkplomndjcaaDoor
