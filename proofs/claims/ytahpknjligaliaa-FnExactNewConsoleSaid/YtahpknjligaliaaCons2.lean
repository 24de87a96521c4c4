/- Walks of the laws' comparisons of logs and Consoles. -/
import Derived.Test.YtahpknjligaliaaCons
namespace Go.Proofs.Ytahpknjligaliaa
open Go.RowKit
set_option linter.unusedVariables false
set_option maxRecDepth 100000
theorem wpList_loadL {ops : Array Oper} {rest : List Oper} {op : Oper} {a : Act} {w : World} {Q : Exit → Act → World → Prop} (hw : Region.wanted op (yielded ops a.tmps) = true) (x : Operand) (ho : op.op = .load 27 x)
    (g o : Nat) (hx : a.eval x = .pointer (some ⟨g, o, none⟩)) (d p : ByteArray) (n : Int) (hc : w.rangeAt g o (lgC d p n))
    (h : wpList Try.prog ops Q rest (a.put op.dst (.agg (lgC d p n).toArray)) w) : wpList Try.prog ops Q (op :: rest) a w :=
  wpList_load_want hw _ x ho g o hx _ _ hc Try.underlying27 rfl (by kernel_rfl) h
theorem eqLog_c (d p : ByteArray) (n : Int) (w : World) : Calls Try.prog 102 #[.agg (lgC d p n).toArray, .agg (lgC d p n).toArray] w fun e w' => e = .returned (.bool true) ∧ Below w.heap.size w w' := by
  unfold lgC
  go_enter Try.func102, Try.ntmps102
  go_wp2
  go_ret
  exact ⟨rfl, by (repeat (first | exact Below.refl _ _ | exact (Below.refl _ _).drew | assumption | exact below_one _ | refine Below.chain ?_ (by assumption) | refine Below.drew ?_ | refine Below.alc ?_ _ | refine below_drewN ?_ | (refine Below.setCell ?_ ?_ _) | exact Nat.le_refl _ | (simp; done) | (simp; omega)))⟩
theorem csC_bench {w : World} {g : Nat} {b : List Int} {d p : ByteArray} {n : Int} (h : w.rangeAt g 0 (csC b d p n)) (hb : b.length = 19) : w.rangeAt g 0 (ints b) := by
  have := range_sub h 0 19
  rw [Nat.zero_add, List.drop_zero, csC, List.take_left' (by simp [hb])] at this
  exact this
theorem csC_log {w : World} {g : Nat} {b : List Int} {d p : ByteArray} {n : Int} (h : w.rangeAt g 0 (csC b d p n)) (hb : b.length = 19) : w.rangeAt g 19 (lgC d p n) := by
  have := range_sub h 19 3
  rw [Nat.zero_add, csC, List.drop_left' (by simp [hb])] at this
  exact this
theorem eqConsole_c (b : List Int) (d p : ByteArray) (n : Int) (w : World) (hb : b.length = 19) : Calls Try.prog 29 #[.agg (csC b d p n).toArray, .agg (csC b d p n).toArray] w fun e w' => e = .returned (.bool true) ∧ Below w.heap.size w w' := by
  have r1 := World.rangeAt_alloc (range_new w (csC b d p n) 29) (.cells (csC b d p n).toArray 29)
  have r2 := range_new (w.alloc (.cells (csC b d p n).toArray 29)) (csC b d p n) 29
  have hb0 : Below w.heap.size w ((w.alloc (.cells (csC b d p n).toArray 29)).alloc (.cells (csC b d p n).toArray 29)) := by (repeat (first | exact Below.refl _ _ | exact (Below.refl _ _).drew | assumption | exact below_one _ | refine Below.chain ?_ (by assumption) | refine Below.drew ?_ | refine Below.alc ?_ _ | refine below_drewN ?_ | (refine Below.setCell ?_ ?_ _) | exact Nat.le_refl _ | (simp; done) | (simp; omega)))
  simp only [World.size_alloc] at r2
  have b1 := csC_bench r1 hb
  have b2 := csC_bench r2 hb
  go_enter Try.func29, Try.ntmps29
  go_wp2_with (first | (refine wpList_loadB rfl _ rfl _ rfl b b1 hb ?_) | (refine wpList_loadB rfl _ rfl _ rfl b b2 hb ?_))
  refine (eqBench_c b _ hb).mono ?_
  rintro e w1 ⟨rfl, hb1⟩
  have l1 := csC_log (range_below r1 hb1) hb
  have l2 := csC_log (range_below r2 hb1) hb
  have hb2 := Below.chain hb0 hb1
  clear r1 r2 hb0 hb1 b1 b2
  go_wp2_with (first | (refine wpList_loadL rfl _ rfl _ _ rfl d p n l1 ?_) | (refine wpList_loadL rfl _ rfl _ _ rfl d p n l2 ?_))
  refine (eqLog_c d p n _).mono ?_
  rintro e w2 ⟨rfl, hb3⟩
  have hb4 := Below.chain hb2 hb3
  go_wp2
  go_ret
  exact ⟨rfl, hb4⟩
end Go.Proofs.Ytahpknjligaliaa
