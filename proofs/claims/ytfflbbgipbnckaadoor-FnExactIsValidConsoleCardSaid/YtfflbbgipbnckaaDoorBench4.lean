/- The load of a law's own Bench. -/
import Derived.Test.YtfflbbgipbnckaaDoorBench3
namespace Go.Proofs.YtfflbbgipbnckaaDoor
open Go.RowKit
theorem wpList_loadBL {ops : Array Oper} {rest : List Oper} {op : Oper} {a : Act} {w : World} {Q : Exit → Act → World → Prop} (hw : Region.wanted op (yielded ops a.tmps) = true) (x : Operand) (ho : op.op = .load 55 x)
    (g : Nat) (hx : a.eval x = .pointer (some ⟨g, 0, none⟩)) (b : List Int) (hc : w.rangeAt g 0 (ints b)) (hb : b.length = 19)
    (h : wpList Tryd.prog ops Q rest (a.put op.dst (.agg (ints b).toArray)) w) : wpList Tryd.prog ops Q (op :: rest) a w :=
  wpList_load_want hw _ x ho g 0 hx (ints b) _ hc Tryd.underlying55 rfl (by rw [show (ints b).length = 19 by simp [ints, hb]]; kernel_rfl) h
end Go.Proofs.YtfflbbgipbnckaaDoor
