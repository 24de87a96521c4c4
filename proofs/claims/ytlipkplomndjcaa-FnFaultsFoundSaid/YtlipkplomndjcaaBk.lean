/- A block of cells that a function has made: what it holds, behind calls and stores. -/
import Derived.Test.YtlipkplomndjcaaLib
namespace Go.Proofs.Ytlipkplomndjcaa
open Go.RowKit
set_option linter.unusedVariables false
/-- a block of the call's own that is known whole -/
def Bk (w : World) (g t : Nat) (cs : Array Value) : Prop := w.heap[g]? = some (.cells cs t (0, 0))
theorem Bk.new (w : World) (t : Nat) (cs : Array Value) : Bk (w.alloc (.cells cs t)) w.heap.size t cs := by
  show (w.heap.push _)[w.heap.size]? = _; simp
theorem Bk.below {w w' : World} {g t : Nat} {cs : Array Value} (h : Bk w g t cs) (hb : Below w.heap.size w w') : Bk w' g t cs :=
  (hb.block g (Array.getElem?_eq_some_iff.1 h).1).trans h
theorem Bk.alloc {w : World} {g t : Nat} {cs : Array Value} (h : Bk w g t cs) (o : Obj) : Bk (w.alloc o) g t cs := h.below (below_one o)
theorem Bk.lt {w : World} {g t : Nat} {cs : Array Value} (h : Bk w g t cs) : g < w.heap.size := (Array.getElem?_eq_some_iff.1 h).1
theorem Bk.cell {w : World} {g t : Nat} {cs : Array Value} (h : Bk w g t cs) (i : Nat) : w.cell? ⟨g, i, none⟩ = cs[i]? := by unfold Bk at h; simp [World.cell?, h]
theorem Bk.frozen {w : World} {g t : Nat} {cs : Array Value} (h : Bk w g t cs) (i : Nat) : w.frozen? ⟨g, i, none⟩ = false := by unfold Bk at h; simp [World.frozen?, h]
theorem Bk.keep {w w' : World} {g t : Nat} {cs : Array Value} (h : Bk w g t cs) (hk : w'.heap[g]? = w.heap[g]?) : Bk w' g t cs := hk.trans h
theorem Bk.other {w : World} {g t : Nat} {cs : Array Value} (h : Bk w g t cs) {p : Addr} (hp : g ≠ p.block) (v : Value) : Bk (w.setCell p v) g t cs := h.keep (Below.heap_setCell _ _ _ _ hp)
theorem Bk.set {w : World} {g t : Nat} {cs : Array Value} (h : Bk w g t cs) (i : Nat) (v : Value) : Bk (w.setCell ⟨g, i, none⟩ v) g t (cs.setIfInBounds i v) := by
  unfold Bk at *
  show (w.heap.modify _ _)[g]? = _
  rw [Array.getElem?_modify, if_pos rfl, h]; rfl
theorem Bk.grown {w w' : World} {g t : Nat} {cs : Array Value} {r : Option Nat} (h : Bk w g t cs) (hg : w.grownBy w' r) (hr : some g ≠ r) : Bk w' g t cs := h.keep (hg.block g h.lt hr)
theorem Bk.drew {w : World} {g t : Nat} {cs : Array Value} (h : Bk w g t cs) : Bk w.drew g t cs := h
end Go.Proofs.Ytlipkplomndjcaa
