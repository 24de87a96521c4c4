/- Walks of NewConsole, both texts. -/
import Derived.Test.YtahpknjligaliaaBench3
namespace Go.Proofs.Ytahpknjligaliaa
open Go.RowKit
set_option linter.unusedVariables false
set_option maxRecDepth 100000
/-- a log's cells; a console's -/
def lgC (d p : ByteArray) (n : Int) : List Value := [.string d, .string p, .int .i64 n]
def csC (b : List Int) (d p : ByteArray) (n : Int) : List Value := ints b ++ lgC d p n
theorem csC_len {b : List Int} (hb : b.length = 19) (d p : ByteArray) (n : Int) : (csC b d p n).length = 22 := by simp [csC, lgC, hb]
theorem csC_one {b : List Int} {d p : ByteArray} {n : Int} : ∀ v ∈ csC b d p n, v.oneCell' = true := fun v hv => by
  unfold csC at hv
  rw [List.mem_append] at hv
  rcases hv with h | h
  · exact ints_one v h
  · simp only [lgC, List.mem_cons, List.not_mem_nil, or_false] at h
    rcases h with rfl | rfl | rfl <;> rfl
theorem wpList_storeC {ops : Array Oper} {rest : List Oper} {op : Oper} {a : Act} {w : World} {Q : Exit → Act → World → Prop} (hw : Region.wanted op (yielded ops a.tmps) = true) (x y : Operand) (ho : op.op = .store 29 x y)
    (g : Nat) (b : List Int) (d p : ByteArray) (n : Int) (hx : a.eval x = .pointer (some ⟨g, 0, none⟩)) (hy : a.eval y = .agg (csC b d p n).toArray) (ht : w.there g 0 22) (hb : b.length = 19)
    (h : wpList Try.prog ops Q rest (a.put op.dst undef) (w.setCells g 0 (csC b d p n))) : wpList Try.prog ops Q (op :: rest) a w :=
  wpList_store_want hw _ x y ho g 0 _ hx hy (by rw [csC_len hb]; exact ht) (by rw [csC_len hb]; kernel_rfl) csC_one h
theorem wpList_loadC {ops : Array Oper} {rest : List Oper} {op : Oper} {a : Act} {w : World} {Q : Exit → Act → World → Prop} (hw : Region.wanted op (yielded ops a.tmps) = true) (x : Operand) (ho : op.op = .load 29 x)
    (g : Nat) (hx : a.eval x = .pointer (some ⟨g, 0, none⟩)) (b : List Int) (d p : ByteArray) (n : Int) (hc : w.rangeAt g 0 (csC b d p n)) (hb : b.length = 19)
    (h : wpList Try.prog ops Q rest (a.put op.dst (.agg (csC b d p n).toArray)) w) : wpList Try.prog ops Q (op :: rest) a w :=
  wpList_load_want hw _ x ho g 0 hx _ _ hc Try.underlying29 rfl (by rw [csC_len hb]; kernel_rfl) h
theorem loadVarC {w : World} {g : Nat} {b : List Int} {d p : ByteArray} {n : Int} (h : w.rangeAt g 0 (csC b d p n)) (hb : b.length = 19) : (loadVar 29 ⟨g, 0, none⟩).run Try.prog w = .ok (.agg (csC b d p n).toArray) w :=
  run_loadVar_mid w g 0 _ _ _ h Try.underlying29 rfl (by rw [csC_len hb]; kernel_rfl)
def zeroI : List Int := List.replicate 19 0
def ncB (b : List Int) : List Int := if goodB b then b else zeroI
def ncV (b : List Int) : Value := .tuple #[.agg (csC (ncB b) ByteArray.empty ByteArray.empty 0).toArray, .bool (goodB b)]
/-- a new Console's cells, written out -/
def zCA : Array Value := #[.int .i64 0, .int .i64 0, .int .i64 0, .int .i64 0, .int .i64 0, .int .i64 0, .int .i64 0, .int .i64 0, .int .i64 0, .int .i64 0, .int .i64 0, .int .i64 0, .int .i64 0, .int .i64 0, .int .i64 0, .int .i64 0, .int .i64 0, .int .i64 0, .int .i64 0, .string (ByteArray.mk #[]), .string (ByteArray.mk #[]), .int .i64 0]
theorem zCA_eq : zCA = (csC zeroI ByteArray.empty ByteArray.empty 0).toArray := rfl
theorem build_cons_x (x0 x1 x2 x3 x4 x5 x6 x7 x8 x9 x10 x11 x12 x13 x14 x15 x16 x17 x18 : Int) : List.foldl (fun (cs : Array Value) (x : Value × Nat) => cs.setIfInBounds x.snd x.fst) zCA (ints [x0, x1, x2, x3, x4, x5, x6, x7, x8, x9, x10, x11, x12, x13, x14, x15, x16, x17, x18]).zipIdx = (csC [x0, x1, x2, x3, x4, x5, x6, x7, x8, x9, x10, x11, x12, x13, x14, x15, x16, x17, x18] ByteArray.empty ByteArray.empty 0).toArray := by kernel_rfl
theorem build_cons {b : List Int} (hb : b.length = 19) : List.foldl (fun (cs : Array Value) (x : Value × Nat) => cs.setIfInBounds x.snd x.fst) zCA (ints b).zipIdx = (csC b ByteArray.empty ByteArray.empty 0).toArray := by
  match b, hb with
  | [x0, x1, x2, x3, x4, x5, x6, x7, x8, x9, x10, x11, x12, x13, x14, x15, x16, x17, x18], _ => exact build_cons_x x0 x1 x2 x3 x4 x5 x6 x7 x8 x9 x10 x11 x12 x13 x14 x15 x16 x17 x18
theorem res_cell2 {P : Program} {fn : Func} {r k : Nat} {t : TypeId} {tmps : Array Value} {w : World} {g : Nat} {v : Value} (h : fn.results = #[.cell r t, .tmp k]) (hr : tmps.getD r undef = .pointer (some ⟨g, 0, none⟩)) (hl : (loadVar t ⟨g, 0, none⟩).run P w = .ok v w) :
    (results fn tmps).run P w = .ok (.tuple #[v, tmps.getD k undef]) w := by
  unfold results
  rw [h]
  simp only [List.mapM_toArray, List.mapM_cons, List.mapM_nil, Sem.run_bind, Sem.run_pure, Sem.run_map, Result.andThen_ok, hr, asAddr, hl]
  rfl
theorem NewConsole_c (b : List Int) (w : World) (hb : b.length = 19) : Calls Try.prog 28 #[aggI b] w fun e w' => e = .returned (ncV b) ∧ Below w.heap.size w w' := by
  have r0 := World.rangeAt_alloc (range_new w (ints b) 25) (.cells zCA 29)
  have t0 := there_new (w.alloc (.cells (ints b).toArray 25)) zCA 29 (n := 22) (by decide)
  have hb0 : Below w.heap.size w ((w.alloc (.cells (ints b).toArray 25)).alloc (.cells zCA 29)) := by (repeat (first | exact Below.refl _ _ | exact (Below.refl _ _).drew | assumption | exact below_one _ | refine Below.chain ?_ (by assumption) | refine Below.drew ?_ | refine Below.alc ?_ _ | refine below_drewN ?_ | (refine Below.setCell ?_ ?_ _) | exact Nat.le_refl _ | (simp; done) | (simp; omega)))
  have hbu := build_cons hb
  simp only [World.size_alloc] at t0
  unfold zCA at *
  unfold aggI
  rcases hq : goodB b with _ | _
  · have HF := Lib.hid (show ncV b = .tuple #[.agg (csC zeroI ByteArray.empty ByteArray.empty 0).toArray, .bool false] by simp [ncV, ncB, hq])
    have HQ := Lib.hid hq; clear hq hbu
    go_enter Try.func28, Try.ntmps28
    go_wp2_with (refine wpList_loadB rfl _ rfl _ rfl b r0 hb ?_)
    refine (IsBench_c b _ hb).mono ?_
    rintro e w1 ⟨rfl, hb1⟩
    rw [HQ.out]
    have t1 := there_below t0 hb1
    have hb2 := Below.chain hb0 hb1
    have hk := World.rangeAt_setCells_same w1 (w.heap.size + 1) 0 (csC zeroI ByteArray.empty ByteArray.empty 0) t1
    have hb3 := below_cells (csC zeroI ByteArray.empty ByteArray.empty 0) w1 (w.heap.size + 1) 0 hb2 (by omega)
    have hld := loadVarC hk (by simp [zeroI])
    clear r0 t0 hb0 hb1
    go_wp2_with (refine wpList_storeC rfl _ _ rfl _ zeroI ByteArray.empty ByteArray.empty 0 rfl rfl t1 (by simp [zeroI]) ?_)
    go_wp2
    exact bodyPost_ret (v := ncV b) (by rw [HF.out]; exact res_cell2 Try.results28 rfl hld) rfl ⟨rfl, hb3⟩
  · have HF := Lib.hid (show ncV b = .tuple #[.agg (csC b ByteArray.empty ByteArray.empty 0).toArray, .bool true] by simp [ncV, ncB, hq])
    have HQ := Lib.hid hq; clear hq
    go_enter Try.func28, Try.ntmps28
    go_wp2_with (refine wpList_loadB rfl _ rfl _ rfl b r0 hb ?_)
    refine (IsBench_c b _ hb).mono ?_
    rintro e w1 ⟨rfl, hb1⟩
    rw [HQ.out]
    have r1 := range_below r0 hb1
    have t1 := there_below t0 hb1
    have hb2 := Below.chain hb0 hb1
    have hk := World.rangeAt_setCells_same w1 (w.heap.size + 1) 0 (csC b ByteArray.empty ByteArray.empty 0) (by rw [csC_len hb]; exact t1)
    have hb3 := below_cells (csC b ByteArray.empty ByteArray.empty 0) w1 (w.heap.size + 1) 0 hb2 (by omega)
    have hld := loadVarC hk hb
    clear r0 t0 hb0 hb1
    go_wp2_with (first | (refine wpList_loadB rfl _ rfl _ rfl b r1 hb ?_) | (refine wpList_storeC rfl _ _ rfl _ b ByteArray.empty ByteArray.empty 0 rfl rfl t1 hb ?_))
    go_wp2
    exact bodyPost_ret (v := ncV b) (by rw [HF.out]; exact res_cell2 Try.results28 rfl hld) rfl ⟨rfl, hb3⟩
theorem sNewConsole_c (b : List Int) (w : World) (hb : b.length = 19) : Calls Try.prog 26 #[aggI b] w fun e w' => e = .returned (ncV b) ∧ Below w.heap.size w w' := by
  have r0 := World.rangeAt_alloc (range_new w (ints b) 25) (.cells zCA 29)
  have t0 := there_new (w.alloc (.cells (ints b).toArray 25)) zCA 29 (n := 22) (by decide)
  have hb0 : Below w.heap.size w ((w.alloc (.cells (ints b).toArray 25)).alloc (.cells zCA 29)) := by (repeat (first | exact Below.refl _ _ | exact (Below.refl _ _).drew | assumption | exact below_one _ | refine Below.chain ?_ (by assumption) | refine Below.drew ?_ | refine Below.alc ?_ _ | refine below_drewN ?_ | (refine Below.setCell ?_ ?_ _) | exact Nat.le_refl _ | (simp; done) | (simp; omega)))
  have hbu := build_cons hb
  simp only [World.size_alloc] at t0
  unfold zCA at *
  unfold aggI
  rcases hq : goodB b with _ | _
  · have HF := Lib.hid (show ncV b = .tuple #[.agg (csC zeroI ByteArray.empty ByteArray.empty 0).toArray, .bool false] by simp [ncV, ncB, hq])
    have HQ := Lib.hid hq; clear hq hbu
    go_enter Try.func26, Try.ntmps26
    go_wp2_with (refine wpList_loadB rfl _ rfl _ rfl b r0 hb ?_)
    refine (l12Good_c b _ hb).mono ?_
    rintro e w1 ⟨rfl, hb1⟩
    rw [HQ.out]
    have t1 := there_below t0 hb1
    have hb2 := Below.chain hb0 hb1
    have hk := World.rangeAt_setCells_same w1 (w.heap.size + 1) 0 (csC zeroI ByteArray.empty ByteArray.empty 0) t1
    have hb3 := below_cells (csC zeroI ByteArray.empty ByteArray.empty 0) w1 (w.heap.size + 1) 0 hb2 (by omega)
    have hld := loadVarC hk (by simp [zeroI])
    clear r0 t0 hb0 hb1
    go_wp2_with (refine wpList_storeC rfl _ _ rfl _ zeroI ByteArray.empty ByteArray.empty 0 rfl rfl t1 (by simp [zeroI]) ?_)
    go_wp2
    exact bodyPost_ret (v := ncV b) (by rw [HF.out]; exact res_cell2 Try.results26 rfl hld) rfl ⟨rfl, hb3⟩
  · have HF := Lib.hid (show ncV b = .tuple #[.agg (csC b ByteArray.empty ByteArray.empty 0).toArray, .bool true] by simp [ncV, ncB, hq])
    have HQ := Lib.hid hq; clear hq
    go_enter Try.func26, Try.ntmps26
    go_wp2_with (refine wpList_loadB rfl _ rfl _ rfl b r0 hb ?_)
    refine (l12Good_c b _ hb).mono ?_
    rintro e w1 ⟨rfl, hb1⟩
    rw [HQ.out]
    have r1 := range_below r0 hb1
    have t1 := there_below t0 hb1
    have hb2 := Below.chain hb0 hb1
    have hk := World.rangeAt_setCells_same w1 (w.heap.size + 1) 0 (csC b ByteArray.empty ByteArray.empty 0) (by rw [csC_len hb]; exact t1)
    have hb3 := below_cells (csC b ByteArray.empty ByteArray.empty 0) w1 (w.heap.size + 1) 0 hb2 (by omega)
    have hld := loadVarC hk hb
    clear r0 t0 hb0 hb1
    go_wp2_with (first | (refine wpList_loadB rfl _ rfl _ rfl b r1 hb ?_) | (refine wpList_storeC rfl _ _ rfl _ b ByteArray.empty ByteArray.empty 0 rfl rfl t1 hb ?_))
    go_wp2
    exact bodyPost_ret (v := ncV b) (by rw [HF.out]; exact res_cell2 Try.results26 rfl hld) rfl ⟨rfl, hb3⟩
end Go.Proofs.Ytahpknjligaliaa
