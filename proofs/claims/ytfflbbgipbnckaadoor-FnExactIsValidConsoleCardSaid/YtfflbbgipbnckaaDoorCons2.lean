/- Walks of the laws' comparisons of logs and Consoles. -/
import Derived.Test.YtfflbbgipbnckaaDoorCons
namespace Go.Proofs.YtfflbbgipbnckaaDoor
open Go.RowKit
set_option linter.unusedVariables false
set_option maxRecDepth 100000
theorem wpList_loadL {ops : Array Oper} {rest : List Oper} {op : Oper} {a : Act} {w : World} {Q : Exit → Act → World → Prop} (hw : Region.wanted op (yielded ops a.tmps) = true) (x : Operand) (ho : op.op = .load 31 x)
    (g o : Nat) (hx : a.eval x = .pointer (some ⟨g, o, none⟩)) (d p : ByteArray) (n : Int) (hc : w.rangeAt g o (lgC d p n))
    (h : wpList Tryd.prog ops Q rest (a.put op.dst (.agg (lgC d p n).toArray)) w) : wpList Tryd.prog ops Q (op :: rest) a w :=
  wpList_load_want hw _ x ho g o hx _ _ hc Tryd.underlying31 rfl (by kernel_rfl) h
theorem eqLg_c (d p : ByteArray) (n : Int) (w : World) : Calls Tryd.prog 17 #[.agg (lgC d p n).toArray, .agg (lgC d p n).toArray] w fun e w' => e = .returned (.bool true) ∧ Below w.heap.size w w' := by
  unfold lgC
  go_enter Tryd.func17, Tryd.ntmps17
  go_wp2
  go_ret
  exact ⟨rfl, by (repeat (first | exact Below.refl _ _ | exact (Below.refl _ _).drew | assumption | exact below_one _ | refine Below.chain ?_ (by assumption) | refine Below.drew ?_ | refine Below.alc ?_ _ | refine below_drewN ?_ | (refine Below.setCell ?_ ?_ _) | exact Nat.le_refl _ | (simp; done) | (simp; omega)))⟩
theorem csC_bench {w : World} {g : Nat} {b : List Int} {d p : ByteArray} {n : Int} (h : w.rangeAt g 0 (csC b d p n)) (hb : b.length = 19) : w.rangeAt g 0 (ints b) := by
  have := range_sub h 0 19
  rw [Nat.zero_add, List.drop_zero, csC, List.take_left' (by simp [hb])] at this
  exact this
theorem csC_log {w : World} {g : Nat} {b : List Int} {d p : ByteArray} {n : Int} (h : w.rangeAt g 0 (csC b d p n)) (hb : b.length = 19) : w.rangeAt g 19 (lgC d p n) := by
  have := range_sub h 19 3
  rw [Nat.zero_add, csC, List.drop_left' (by simp [hb])] at this
  exact this
end Go.Proofs.YtfflbbgipbnckaaDoor
