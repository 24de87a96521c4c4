/- Walks of IsValidConsole, both texts, and of the law's copy of a Console. -/
import Derived.Test.YtfflbbgipbnckaaDoorCons2
import Derived.Test.YtfflbbgipbnckaaDoorBench4
import Derived.Test.YtfflbbgipbnckaaDoorBench2
import Derived.Test.YtfflbbgipbnckaaDoorLogL
namespace Go.Proofs.YtfflbbgipbnckaaDoor
open Go.RowKit
set_option linter.unusedVariables false
set_option linter.unusedSimpArgs false
set_option maxRecDepth 100000
theorem wpList_loadLL {ops : Array Oper} {rest : List Oper} {op : Oper} {a : Act} {w : World} {Q : Exit → Act → World → Prop} (hw : Region.wanted op (yielded ops a.tmps) = true) (x : Operand) (ho : op.op = .load 36 x)
    (g o : Nat) (hx : a.eval x = .pointer (some ⟨g, o, none⟩)) (d p : ByteArray) (n : Int) (hc : w.rangeAt g o (lgC d p n))
    (h : wpList Tryd.prog ops Q rest (a.put op.dst (.agg (lgC d p n).toArray)) w) : wpList Tryd.prog ops Q (op :: rest) a w :=
  wpList_load_want hw _ x ho g o hx _ _ hc Tryd.underlying36 rfl (by kernel_rfl) h
theorem lgC_one {d p : ByteArray} {n : Int} : ∀ v ∈ lgC d p n, v.oneCell' = true := fun v hv => by
  simp only [lgC, List.mem_cons, List.not_mem_nil, or_false] at hv
  rcases hv with rfl | rfl | rfl <;> rfl
theorem wpList_storeL {ops : Array Oper} {rest : List Oper} {op : Oper} {a : Act} {w : World} {Q : Exit → Act → World → Prop} (hw : Region.wanted op (yielded ops a.tmps) = true) (x y : Operand) (ho : op.op = .store 31 x y)
    (g o : Nat) (d p : ByteArray) (n : Int) (hx : a.eval x = .pointer (some ⟨g, o, none⟩)) (hy : a.eval y = .agg (lgC d p n).toArray) (ht : w.there g o 3)
    (h : wpList Tryd.prog ops Q rest (a.put op.dst undef) (w.setCells g o (lgC d p n))) : wpList Tryd.prog ops Q (op :: rest) a w :=
  wpList_store_want hw _ x y ho g o _ hx hy ht (by kernel_rfl) lgC_one h
theorem wpList_loadCL {ops : Array Oper} {rest : List Oper} {op : Oper} {a : Act} {w : World} {Q : Exit → Act → World → Prop} (hw : Region.wanted op (yielded ops a.tmps) = true) (x : Operand) (ho : op.op = .load 57 x)
    (g : Nat) (hx : a.eval x = .pointer (some ⟨g, 0, none⟩)) (b : List Int) (d p : ByteArray) (n : Int) (hc : w.rangeAt g 0 (csC b d p n)) (hb : b.length = 19)
    (h : wpList Tryd.prog ops Q rest (a.put op.dst (.agg (csC b d p n).toArray)) w) : wpList Tryd.prog ops Q (op :: rest) a w :=
  wpList_load_want hw _ x ho g 0 hx _ _ hc Tryd.underlying57 rfl (by rw [csC_len hb]; kernel_rfl) h
def consV (b : List Int) (d p : ByteArray) (n : Int) : Value := .agg (csC b d p n).toArray
theorem logV_lgC (d p : ByteArray) (n : Int) : logV d p n = .agg (lgC d p n).toArray := rfl
theorem szConsole_c (b : List Int) (d p : ByteArray) (n : Int) (w : World) (hb : b.length = 19) (hd : d.size ≤ 9223372036854775807) (hp : p.size ≤ 9223372036854775807) : Calls Tryd.prog 33 #[consV b d p n, .int .i64 1048576] w fun e w' => e = .returned (.int .i64 (szL d p 1048576)) ∧ Below w.heap.size w w' := by
  unfold consV
  have r0 := csC_log (range_new w (csC b d p n) 57) hb
  have hb0 := Lib.hid (below_one (w := w) (.cells (csC b d p n).toArray 57))
  have HZ := Lib.hid (fun w => szLog_c d p n 1048576 w (by omega) (by omega) hd hp)
  have hk := szL_bd d p 1048576 (by omega)
  simp only [logV_lgC] at HZ
  generalize szL d p 1048576 = kk at *
  by_cases h0 : kk < 0
  · have h1 : kk = -1 := by omega
    have H1 := Lib.hid h1
    have ht : decide (kk < 0) = true := by simp; omega
    clear h1 h0
    go_enter Tryd.func33, Tryd.ntmps33
    go_wp2_with (refine wpList_loadLL rfl _ rfl _ _ rfl d p n r0 ?_)
    refine (HZ.out _).mono ?_
    rintro e w1 ⟨rfl, hb1⟩
    go_wp2
    go_ret
    exact ⟨by rw [H1.out]; rfl, Below.chain hb0.out hb1⟩
  · have ht : decide (kk < 0) = false := by simp; omega
    clear h0
    go_enter Tryd.func33, Tryd.ntmps33
    go_wp2_with (refine wpList_loadLL rfl _ rfl _ _ rfl d p n r0 ?_)
    refine (HZ.out _).mono ?_
    rintro e w1 ⟨rfl, hb1⟩
    go_wp2
    go_ret
    exact ⟨rfl, Below.chain hb0.out hb1⟩
set_option maxHeartbeats 2000000 in
theorem toConsole_c (b : List Int) (d p : ByteArray) (n : Int) (w : World) (hb : b.length = 19) : Calls Tryd.prog 35 #[consV b d p n] w fun e w' => e = .returned (consV b d p n) ∧ Below w.heap.size w w' := by
  have r0 := World.rangeAt_alloc (World.rangeAt_alloc (range_new w (csC b d p n) 57) (.cells zCA 62)) (.cells zCA 62)
  have t1 := World.there_alloc (there_new (w.alloc (.cells (csC b d p n).toArray 57)) zCA 62 (n := 22) (by decide)) (.cells zCA 62)
  have t2 := there_new ((w.alloc (.cells (csC b d p n).toArray 57)).alloc (.cells zCA 62)) zCA 62 (n := 22) (by decide)
  have hb0 : Below w.heap.size w (((w.alloc (.cells (csC b d p n).toArray 57)).alloc (.cells zCA 62)).alloc (.cells zCA 62)) := by (repeat (first | exact Below.refl _ _ | exact (Below.refl _ _).drew | assumption | exact below_one _ | refine Below.chain ?_ (by assumption) | refine Below.drew ?_ | refine Below.alc ?_ _ | refine below_drewN ?_ | (refine Below.setCell ?_ ?_ _) | exact Nat.le_refl _ | (simp; done) | (simp; omega)))
  simp only [World.size_alloc] at t1 t2
  have HTL := Lib.hid (fun w => toLog_c d p n w)
  simp only [logV_lgC] at HTL
  have b0 := csC_bench r0 hb
  unfold consV
  unfold zCA at *
  go_enter Tryd.func35, Tryd.ntmps35
  go_wp2_with (refine wpList_loadBL rfl _ rfl _ rfl b b0 hb ?_)
  refine (toBench_c b _ hb).mono ?_
  rintro e w1 ⟨rfl, hb1⟩
  unfold aggI
  have q1 := there_below t1 hb1
  have q2 := there_below t2 hb1
  have hil : (ints b).length = 19 := by simp [ints, hb]
  have hB1 := below_cells (ints b) _ (w.heap.size + 1 + 1) 0 (Below.chain hb0 hb1) (by omega)
  have r1 := World.rangeAt_setCells_apart (range_below r0 hb1) (w.heap.size + 1 + 1) 0 (ints b) (.inl (by omega))
  have u1 := World.there_setCells q1 (w.heap.size + 1 + 1) 0 (ints b)
  have v1 := World.there_setCells q2 (w.heap.size + 1 + 1) 0 (ints b)
  have c1 := World.rangeAt_setCells_same w1 (w.heap.size + 1 + 1) 0 (ints b) (there_sub q2 (by omega) (by omega))
  have qs := there_sub q2 (o' := 0) (n' := 19) (by omega) (by omega)
  have l1 := csC_log r1 hb
  clear r0 t1 t2 hb0 b0 hb1 q1 q2
  go_wp2_with (first | (refine wpList_storeB rfl _ _ rfl _ b rfl rfl qs hb ?_) | (refine wpList_loadLL rfl _ rfl _ _ rfl d p n l1 ?_))
  refine (HTL.out _).mono ?_
  rintro e w2 ⟨rfl, hb2⟩
  have q1 := there_below u1 hb2
  have q2 := there_below v1 hb2
  have hB2 := below_cells (lgC d p n) _ (w.heap.size + 1 + 1) 19 (Below.chain hB1 hb2) (by omega)
  have u2 := World.there_setCells q1 (w.heap.size + 1 + 1) 19 (lgC d p n)
  have c2 := range_grow (range_below c1 hb2) (ys := lgC d p n) (there_sub q2 (by omega) (by rw [hil]; exact Nat.le_refl _))
  rw [hil] at c2
  have qs2 := there_sub q2 (o' := 19) (n' := 3) (by omega) (by omega)
  have hk2 := World.rangeAt_setCells_same _ (w.heap.size + 1) 0 (csC b d p n) (by rw [csC_len hb]; exact u2)
  have hB5 := below_cells (csC b d p n) _ (w.heap.size + 1) 0 hB2 (by omega)
  have hld := loadVarC hk2 hb
  clear r1 u1 v1 c1 qs l1 hB1 hb2 q1 q2
  go_wp2_with (first | (refine wpList_storeL rfl _ _ rfl _ _ d p n rfl rfl qs2 ?_) | (refine wpList_loadC rfl _ rfl _ rfl b d p n c2 hb ?_) | (refine wpList_storeC rfl _ _ rfl _ b d p n rfl rfl u2 hb ?_))
  exact bodyPost_ret (v := .agg (csC b d p n).toArray) (res_cell Tryd.results35 rfl hld) rfl ⟨rfl, hB5⟩
def ConsOut (b : List Int) (d p : ByteArray) (n : Int) (w : World) (e : Ending) (w' : World) : Prop :=
  ∃ ok, e = .returned (.bool ok) ∧ (ok = true ↔ (goodB b = true ∧ ∃ es, ValidL d.data.toList p.data.toList n es)) ∧ Below w.heap.size w w'
set_option maxHeartbeats 1000000 in
theorem IsValidConsole_c (b : List Int) (d p : ByteArray) (n : Int) (w : World) (hb : b.length = 19) (hd : d.size ≤ 1048576) (hp : p.size ≤ 1048576) (ht : Tab w) : Calls Tryd.prog 36 #[consV b d p n] w (ConsOut b d p n w) := by
  unfold consV
  have r0 := range_new w (csC b d p n) 62
  have b0 := csC_bench r0 hb
  have hb0 := Lib.hid (below_one (w := w) (.cells (csC b d p n).toArray 62))
  have HV := Lib.hid (fun w => IsValidLog_c d p n w hd hp)
  simp only [logV_lgC] at HV
  have HT := Lib.hid ht
  clear ht
  rcases hg : goodB b with _ | _
  · have HG := Lib.hid hg
    clear hg
    go_enter Tryd.func36, Tryd.ntmps36
    go_wp2_with (refine wpList_loadB rfl _ rfl _ rfl b b0 hb ?_)
    refine (IsBench_c b _ hb).mono ?_
    rintro e w1 ⟨rfl, hb1⟩
    rw [HG.out]
    go_wp2
    go_ret
    exact ⟨false, rfl, ⟨(fun h => by cases h), fun h => by rw [HG.out] at h; exact h.1⟩, Below.chain hb0.out hb1⟩
  · have HG := Lib.hid hg
    clear hg
    go_enter Tryd.func36, Tryd.ntmps36
    go_wp2_with (refine wpList_loadB rfl _ rfl _ rfl b b0 hb ?_)
    refine (IsBench_c b _ hb).mono ?_
    rintro e w1 ⟨rfl, hb1⟩
    rw [HG.out]
    have l1 := csC_log (range_below r0 hb1) hb
    have HB1 := Lib.hid (Below.chain hb0.out hb1)
    clear r0 b0 hb1
    go_wp2_with (refine wpList_loadL rfl _ rfl _ _ rfl d p n l1 ?_)
    refine (HV.out _ (HT.out.on HB1.out)).mono ?_
    rintro e w2 ⟨ok, rfl, hi, hb2⟩
    have HI := Lib.hid hi
    clear hi
    go_wp2
    go_ret
    exact ⟨ok, rfl, HI.out.trans ⟨fun h => ⟨HG.out, h⟩, fun h => h.2⟩, Below.chain HB1.out hb2⟩
set_option maxHeartbeats 1000000 in
theorem IsValidConsoleS_c (b : List Int) (d p : ByteArray) (n : Int) (w : World) (hb : b.length = 19) (hd : d.size ≤ 1048576) (hp : p.size ≤ 1048576) : Calls Tryd.prog 34 #[consV b d p n] w (ConsOut b d p n w) := by
  unfold consV
  have r0 := range_new w (csC b d p n) 62
  have b0 := csC_bench r0 hb
  have hb0 := Lib.hid (below_one (w := w) (.cells (csC b d p n).toArray 62))
  have HV := Lib.hid (fun w => l12Valid_c d p n w hd hp)
  simp only [logV_lgC] at HV
  rcases hg : goodB b with _ | _
  · have HG := Lib.hid hg
    clear hg
    go_enter Tryd.func34, Tryd.ntmps34
    go_wp2_with (refine wpList_loadB rfl _ rfl _ rfl b b0 hb ?_)
    refine (l12Good_c b _ hb).mono ?_
    rintro e w1 ⟨rfl, hb1⟩
    rw [HG.out]
    go_wp2
    go_ret
    exact ⟨false, rfl, ⟨(fun h => by cases h), fun h => by rw [HG.out] at h; exact h.1⟩, Below.chain hb0.out hb1⟩
  · have HG := Lib.hid hg
    clear hg
    go_enter Tryd.func34, Tryd.ntmps34
    go_wp2_with (refine wpList_loadB rfl _ rfl _ rfl b b0 hb ?_)
    refine (l12Good_c b _ hb).mono ?_
    rintro e w1 ⟨rfl, hb1⟩
    rw [HG.out]
    have l1 := csC_log (range_below r0 hb1) hb
    have HB1 := Lib.hid (Below.chain hb0.out hb1)
    clear r0 b0 hb1
    go_wp2_with (refine wpList_loadL rfl _ rfl _ _ rfl d p n l1 ?_)
    refine (HV.out _).mono ?_
    rintro e w2 ⟨ok, rfl, hi, hb2⟩
    have HI := Lib.hid hi
    clear hi
    go_wp2
    go_ret
    exact ⟨ok, rfl, HI.out.trans ⟨fun h => ⟨HG.out, h⟩, fun h => h.2⟩, Below.chain HB1.out hb2⟩
end Go.Proofs.YtfflbbgipbnckaaDoor
