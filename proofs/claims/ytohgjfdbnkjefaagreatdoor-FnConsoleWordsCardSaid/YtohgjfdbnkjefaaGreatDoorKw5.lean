/- Texts of this claim, gathered: Mb2, Mem, Bench, Chg, Mc, Del, DelV, SS, Conf, AllFaults, Harm, DelF, Read, Fo, Fo2, Count, First, Ff, Bench2. -/
import Derived.Test.YtohgjfdbnkjefaaGreatDoorKw4
import Derived.Deep.MidRow
namespace Go.Proofs.YtohgjfdbnkjefaaGreatDoor
open Go.RowKit
set_option linter.unusedVariables false
set_option linter.unusedSimpArgs false
set_option maxRecDepth 100000
def mbS (n : Nat) : Nat := ((List.range n).map litN).sum
theorem mbS_succ (n : Nat) : mbS (n + 1) = mbS n + litN n := by unfold mbS; rw [List.range_succ, List.map_append, List.sum_append]; simp
theorem litN_bd {u : Nat} (h : u < 10000) : litN u ≤ 28 := by
 have h1 := litL_bd (rowL_cells u) (rowL u).length (Nat.le_refl _)
 rw [List.take_length] at h1
 have h2 := (rowL_row h).2
 show litL (rowL u) ≤ 28
 omega
theorem mbS_le : ∀ n, n ≤ 10000 → mbS n ≤ 28 * n
 | 0, _ => by simp [mbS]
 | n + 1, h => by
  rw [mbS_succ]
  have h1 := mbS_le n (by omega)
  have h2 := litN_bd (show n < 10000 by omega)
  omega
def mbV (n : Int) : Value := .tuple #[if inB n 0 9999 then fracV (mbS (n.toNat + 1)) (n.toNat + 1) else .agg #[.int .i64 0, .int .i64 0], .bool (inB n 0 9999)]
set_option maxHeartbeats 2000000 in
theorem MeanBars_c (n : Int) (w : World) (ht : TabM w) : Calls Tryz.prog 150 #[.int .i64 n] w fun e w' => e = .returned (mbV n) ∧ Below w.heap.size w w' := by
 have B0 := Lib.hid (Bk.new w 174 #[.int .i64 0, .int .i64 0])
 have HB0 := Lib.hid (below_one (w := w) (.cells #[.int .i64 0, .int .i64 0] 174))
 rcases hq : inB n 0 9999 with _ | _
 · have HF := Lib.hid (show mbV n = .tuple #[.agg #[.int .i64 0, .int .i64 0], .bool false] by simp [mbV, hq])
   have HQ := Lib.hid hq; clear hq
   go_enter Tryz.func150, Tryz.ntmps150
   go_wp2_with fail
   refine (within_c n 0 9999 _).mono ?_
   rintro e w1 ⟨rfl, rfl⟩
   rw [HQ.out]
   obtain ⟨d0, d1, z0, z1⟩ : (w.alloc (.cells #[.int .i64 0, .int .i64 0] 174)).cell? ⟨w.heap.size, 0, none⟩ = some (.int .i64 0) ∧ (w.alloc (.cells #[.int .i64 0, .int .i64 0] 174)).cell? ⟨w.heap.size, 1, none⟩ = some (.int .i64 0) ∧ (w.alloc (.cells #[.int .i64 0, .int .i64 0] 174)).frozen? ⟨w.heap.size, 0, none⟩ = false ∧ (w.alloc (.cells #[.int .i64 0, .int .i64 0] 174)).frozen? ⟨w.heap.size, 1, none⟩ = false := ⟨B0.out.cell 0, B0.out.cell 1, B0.out.frozen 0, B0.out.frozen 1⟩
   go_wp2
   refine bodyPost_ret (v := mbV n) (by rw [HF.out]; simp [results, Tryz.results150, go_sem, d0, d1]) rfl ⟨rfl, HB0.out⟩
 · obtain ⟨n0, n1⟩ := inB_true hq
   obtain ⟨N, rfl⟩ := Int.eq_ofNat_of_zero_le n0
   have HF : Hid (mbV (N : Int) = .tuple #[fracV (mbS (N + 1)) (N + 1), .bool true]) := by show _ = _; unfold mbV; rw [hq]; simp
   have HQ := Lib.hid hq; clear hq
   have HT := Lib.hid ht
   clear ht
   go_enter Tryz.func150, Tryz.ntmps150
   go_wp2_with fail
   refine (within_c (N : Int) 0 9999 _).mono ?_
   rintro e w1 ⟨rfl, rfl⟩
   rw [HQ.out]
   go_wp2
   go_loopw [4, 14] (fun s j wr => ∃ k : Nat, k ≤ N + 1 ∧ j = .int .i64 (k : Int) ∧ s = .int .i64 ((mbS k : Nat) : Int) ∧ Hid (Bk wr w.heap.size 174 #[.int .i64 0, .int .i64 0]) ∧ Hid (Below w.heap.size w wr)) (fun _ j _ => N + 1 - (intOf j).toNat)
   case atStart => exact ⟨0, by omega, rfl, rfl, B0, HB0⟩
   case round =>
    obtain ⟨k, hk, rfl, rfl, BB, HB⟩ := hrel
    by_cases hlt : k < N + 1
    · have hdd : decide ((k : Int) < (N : Int) + 1) = true := by simp; omega
      have hsk := mbS_le k (by omega)
      have hlk := litN_bd (show k < 10000 by omega)
      have HS := Lib.hid (mbS_succ k)
      have HRW := Lib.hid (rowOf_c k (by omega) wr (HT.out.on HB.out))
      have hrr := (rowL_row (show k < 10000 by omega)).1
      have HLN : Hid (litL (rowL k) = litN k) := rfl
      generalize mbS k = s at *
      generalize rowL k = R at *
      generalize litN k = ln at *
      go_wp2_with fail
      refine HRW.out.mono ?_
      rintro e w2 ⟨v, rfl, ho, hb2⟩
      have HI := Lib.hid (Ints.of_own ho)
      have HB2 := Lib.hid (Below.chain HB.out hb2)
      have BB2 := Lib.hid (BB.out.below hb2)
      clear ho hb2 HRW
      go_wp2_with fail
      refine (LitOf_c v R w2 HI.out hrr).mono ?_
      rintro e w3 ⟨rfl, hb3⟩
      have HB3 := Lib.hid (Below.chain HB2.out hb3)
      have BB3 := Lib.hid (BB2.out.below hb3)
      rw [HLN.out]
      clear hb3
      go_wp2
      go_roundw
      case rel => exact ⟨k + 1, by omega, by go_num, by rw [HS.out]; first | rfl | simp | exact int_val (by rw [IntWalk.i64_in _ (by omega)]; simp), BB3, HB3⟩
      case measure => simp [intOf]; omega
    · obtain rfl : k = N + 1 := by omega
      have hdd : decide (((N + 1 : Nat) : Int) < (N : Int) + 1) = false := by simp
      have hsk := mbS_le (N + 1) (by omega)
      generalize mbS (N + 1) = s at *
      have hfr := fraction_c s (N + 1) (by omega) (by omega) (by omega) wr
      rw [show ((N + 1 : Nat) : Int) = (N : Int) + 1 by omega] at hfr
      have HFR := Lib.hid hfr
      clear hfr
      go_wp2_with fail
      refine HFR.out.mono ?_
      rintro e w2 ⟨rfl, hb5⟩
      have BB2 := BB.out.below hb5
      have hb6 := Below.chain HB.out hb5
      have e0 : w2.cell? ⟨w.heap.size, 0, none⟩ = some (.int .i64 0) := BB2.cell 0
      have e1 : w2.cell? ⟨w.heap.size, 1, none⟩ = some (.int .i64 0) := BB2.cell 1
      have f0 := BB2.frozen 0
      have f1 := BB2.frozen 1
      obtain ⟨u0, u1, hb7⟩ := two_set (.int .i64 (fracN s (N + 1))) (.int .i64 (fracD s (N + 1))) e0 e1 hb6 (Nat.le_refl _)
      clear BB2 hb6 hb5 BB HB
      unfold fracV at HF ⊢
      go_wp2
      clear e0 e1 f0 f1
      generalize (World.setCell (World.setCell w2 _ _) _ _) = w3 at *
      refine bodyPost_ret (v := mbV (N : Int)) (by rw [HF.out]; simp [results, Tryz.results150, go_sem, u0, u1]) rfl ⟨rfl, hb7⟩
theorem range_below {w w' : World} {g o : Nat} {cs : List Value} (h : w.rangeAt g o cs) (hb : Below w.heap.size w w') : w'.rangeAt g o cs := fun j v hv => cell_later hb (h j v hv)
theorem there_below {w w' : World} {g o n : Nat} (h : w.there g o n) (hb : Below w.heap.size w w') : w'.there g o n := fun j hj => by
 obtain ⟨h1, h2⟩ := h j hj
 obtain ⟨u, hu⟩ := Option.isSome_iff_exists.1 h1
 have hlt := World.block_lt_of_cell? w _ hu
 exact ⟨by rw [cell_later hb hu]; rfl, by rw [hb.frozen (p := ⟨g, o + j, none⟩) hlt]; exact h2⟩
theorem there_new (w : World) (cs : Array Value) (t : TypeId) {n : Nat} (h : n ≤ cs.size) : (w.alloc (.cells cs t)).there w.heap.size 0 n := fun j hj => by
 rw [Nat.zero_add]
 refine ⟨?_, World.frozen?_alloc_new _ _ _ _⟩
 rw [World.cell?_alloc_at _ _ _ _ rfl, Array.getElem?_eq_getElem (by omega)]; rfl
theorem range_new (w : World) (cs : List Value) (t : TypeId) : (w.alloc (.cells cs.toArray t)).rangeAt w.heap.size 0 cs := fun j v hv => by
 rw [Nat.zero_add, World.cell?_alloc_at _ _ _ _ rfl]; simpa using hv
theorem range_sub {w : World} {g o : Nat} {cs : List Value} (h : w.rangeAt g o cs) (p n : Nat) : w.rangeAt g (o + p) ((cs.drop p).take n) := fun j v hv => by
 rw [List.getElem?_take] at hv
 split at hv
 · rw [List.getElem?_drop] at hv
   have := h (p + j) v hv
   rwa [← Nat.add_assoc] at this
 · cases hv
theorem below_cells {w : World} : ∀ (vs : List Value) (a : World) (g o : Nat), Below w.heap.size w a → w.heap.size ≤ g → Below w.heap.size w (a.setCells g o vs)
 | [], _, _, _, h, _ => h
 | v :: r, a, g, o, h, hg => by rw [World.setCells]; exact below_cells r _ g (o + 1) (h.setCell hg v) hg
theorem wpList_load_want {P : Program} {ops : Array Oper} {rest : List Oper} {op : Oper} {a : Act} {w : World} {Q : Exit → Act → World → Prop} (hw : Region.wanted op (yielded ops a.tmps) = true) (ty : TypeId) (x : Operand) (ho : op.op = .load ty x)
 (b o : Nat) (hx : a.eval x = .pointer (some ⟨b, o, none⟩)) (cs : List Value) (d : TypeDesc) (hc : w.rangeAt b o cs)
 (hu : P.underlying ty = some d) (hd : d.isRow = true) (hi : (P.info? ty).map (·.size) = some cs.length)
 (h : wpList P ops Q rest (a.put op.dst (.agg cs.toArray)) w) : wpList P ops Q (op :: rest) a w :=
 BigFrame.wpList_want hw fun _ hK => wp_load_mid ty x ho b o hx cs d hc hu hd hi (hK _ _ h)
theorem wpList_store_want {P : Program} {ops : Array Oper} {rest : List Oper} {op : Oper} {a : Act} {w : World} {Q : Exit → Act → World → Prop} (hw : Region.wanted op (yielded ops a.tmps) = true) (ty : TypeId) (x y : Operand) (ho : op.op = .store ty x y)
 (b o : Nat) (cs : List Value) (hx : a.eval x = .pointer (some ⟨b, o, none⟩)) (hy : a.eval y = .agg cs.toArray)
 (ht : w.there b o cs.length) (hi : (P.info? ty).map (·.size) = some cs.length) (h1 : ∀ v ∈ cs, v.oneCell' = true)
 (h : wpList P ops Q rest (a.put op.dst undef) (w.setCells b o cs)) : wpList P ops Q (op :: rest) a w :=
 BigFrame.wpList_want hw fun _ hK => wp_store_mid ty x y ho b o cs.toArray hx hy (by simpa using ht) (by simpa using hi) (all_oneCell_toArray h1) (hK _ _ (by simpa using h))
theorem res_cell {P : Program} {fn : Func} {r : Nat} {t : TypeId} {tmps : Array Value} {w : World} {g : Nat} {v : Value} (h : fn.results = #[.cell r t]) (hr : tmps.getD r undef = .pointer (some ⟨g, 0, none⟩)) (hl : (loadVar t ⟨g, 0, none⟩).run P w = .ok v w) :
 (results fn tmps).run P w = .ok v w := by
 unfold results
 rw [h]
 simp only [List.mapM_toArray, List.mapM_cons, List.mapM_nil, Sem.run_bind, Sem.run_pure, Sem.run_map, Result.andThen_ok, hr, asAddr, hl]
 rfl
theorem res_cell2 {P : Program} {fn : Func} {r k : Nat} {t : TypeId} {tmps : Array Value} {w : World} {g : Nat} {v : Value} (h : fn.results = #[.cell r t, .tmp k]) (hr : tmps.getD r undef = .pointer (some ⟨g, 0, none⟩)) (hl : (loadVar t ⟨g, 0, none⟩).run P w = .ok v w) :
 (results fn tmps).run P w = .ok (.tuple #[v, tmps.getD k undef]) w := by
 unfold results
 rw [h]
 simp only [List.mapM_toArray, List.mapM_cons, List.mapM_nil, Sem.run_bind, Sem.run_pure, Sem.run_map, Result.andThen_ok, hr, asAddr, hl]
 rfl
def aggI (b : List Int) : Value := .agg (ints b).toArray
def bg (b : List Int) (j : Nat) : Int := b.getD j 0
def bF (b : List Int) (k : Nat) : Int × Int := (bg b (6 + k), bg b (12 + k))
theorem ints_get {b : List Int} {j : Nat} (h : j < b.length) : (ints b).toArray[j]? = some (.int .i64 (bg b j)) := by
 simp [ints, h, bg]
theorem bench_cell {w w1 : World} {b : List Int} {t : TypeId} (hb : Below (w.alloc (.cells (ints b).toArray t)).heap.size (w.alloc (.cells (ints b).toArray t)) w1) {j : Nat} (h : j < b.length) :
 w1.cell? ⟨w.heap.size, j, none⟩ = some (.int .i64 (bg b j)) := (box_after hb).1 j _ (ints_get h)
theorem bench_range {w w1 : World} {b : List Int} {t : TypeId} (hb : Below (w.alloc (.cells (ints b).toArray t)).heap.size (w.alloc (.cells (ints b).toArray t)) w1) :
 w1.rangeAt w.heap.size 0 (ints b) := fun j v h => by rw [Nat.zero_add]; exact (box_after hb).1 j v (by simpa using h)
theorem wpList_loadB {ops : Array Oper} {rest : List Oper} {op : Oper} {a : Act} {w : World} {Q : Exit → Act → World → Prop} (hw : Region.wanted op (yielded ops a.tmps) = true) (x : Operand) (ho : op.op = .load 26 x)
 (g : Nat) (hx : a.eval x = .pointer (some ⟨g, 0, none⟩)) (b : List Int) (hc : w.rangeAt g 0 (ints b)) (hb : b.length = 19)
 (h : wpList Tryz.prog ops Q rest (a.put op.dst (.agg (ints b).toArray)) w) : wpList Tryz.prog ops Q (op :: rest) a w :=
 wpList_load_want hw _ x ho g 0 hx (ints b) _ hc Tryz.underlying26 rfl (by rw [show (ints b).length = 19 by simp [ints, hb]]; kernel_rfl) h
theorem wpList_load6 {ops : Array Oper} {rest : List Oper} {op : Oper} {a : Act} {w : World} {Q : Exit → Act → World → Prop} (hw : Region.wanted op (yielded ops a.tmps) = true) (x : Operand) (ho : op.op = .load 24 x)
 (g o : Nat) (hx : a.eval x = .pointer (some ⟨g, o, none⟩)) (b : List Int) (hc : w.rangeAt g o (ints b)) (hb : b.length = 6)
 (h : wpList Tryz.prog ops Q rest (a.put op.dst (.agg (ints b).toArray)) w) : wpList Tryz.prog ops Q (op :: rest) a w :=
 wpList_load_want hw _ x ho g o hx (ints b) _ hc Tryz.underlying24 rfl (by rw [show (ints b).length = 6 by simp [ints, hb]]; kernel_rfl) h
theorem ints_one {b : List Int} : ∀ v ∈ ints b, v.oneCell' = true := fun v hv => by
 simp only [ints, List.mem_map] at hv
 obtain ⟨x, _, rfl⟩ := hv
 rfl
theorem wpList_storeB {ops : Array Oper} {rest : List Oper} {op : Oper} {a : Act} {w : World} {Q : Exit → Act → World → Prop} (hw : Region.wanted op (yielded ops a.tmps) = true) (x y : Operand) (ho : op.op = .store 26 x y)
 (g : Nat) (b : List Int) (hx : a.eval x = .pointer (some ⟨g, 0, none⟩)) (hy : a.eval y = .agg (ints b).toArray) (ht : w.there g 0 19) (hb : b.length = 19)
 (h : wpList Tryz.prog ops Q rest (a.put op.dst undef) (w.setCells g 0 (ints b))) : wpList Tryz.prog ops Q (op :: rest) a w :=
 wpList_store_want hw _ x y ho g 0 (ints b) hx hy (by rw [show (ints b).length = 19 by simp [ints, hb]]; exact ht) (by rw [show (ints b).length = 19 by simp [ints, hb]]; kernel_rfl) ints_one h
theorem loadVarB {w : World} {g : Nat} {b : List Int} (h : w.rangeAt g 0 (ints b)) (hb : b.length = 19) : (loadVar 26 ⟨g, 0, none⟩).run Tryz.prog w = .ok (aggI b) w :=
 run_loadVar_mid w g 0 _ (ints b) _ h Tryz.underlying26 rfl (by rw [show (ints b).length = 19 by simp [ints, hb]]; kernel_rfl)
def fsB (b : List Int) : List (Int × Int) := (List.range 6).map (bF b)
def goodAt (b : List Int) (k : Nat) : Bool := cellB (bg b k) && fB (bF b k)
def goodTo (b : List Int) (n : Nat) : Bool := (List.range n).all (goodAt b)
def goodB (b : List Int) : Bool := goodTo b 6 && inB (bg b 18) 0 1000
theorem goodTo_succ (b : List Int) (n : Nat) : goodTo b (n + 1) = (goodTo b n && goodAt b n) := by
 unfold goodTo; rw [List.range_succ, List.all_append]; simp
theorem goodTo_bad {b : List Int} {k n : Nat} (hk : k < n) (h : goodAt b k = false) : goodTo b n = false := by
 unfold goodTo
 rw [Bool.eq_false_iff]; intro h2
 rw [List.all_eq_true] at h2
 rw [h2 k (List.mem_range.2 hk)] at h; cases h
theorem take_range {b : List Int} {n : Nat} (h : n ≤ b.length) : b.take n = (List.range n).map (bg b) := by
 apply List.ext_getElem?
 intro i
 rw [List.getElem?_take, List.getElem?_map]
 by_cases hi : i < n
 · rw [if_pos hi, List.getElem?_range hi, List.getElem?_eq_getElem (by omega)]
   simp [bg, show i < b.length by omega]
 · rw [if_neg hi, List.getElem?_eq_none (by simp; omega)]; rfl
theorem goodB_eq {b : List Int} (hb : b.length = 19) : goodB b = ((rowB (b.take 6) && (fsB b).all fB) && inB (bg b 18) 0 1000) := by
 unfold goodB goodTo rowB fsB
 congr 1
 rw [take_range (by omega), decide_eq_true (by simp), Bool.true_and, List.all_map, List.all_map, Bool.eq_iff_iff]
 simp only [Bool.and_eq_true, List.all_eq_true, goodAt, Function.comp]
 exact ⟨fun h => ⟨fun x hx => (h x hx).1, fun x hx => (h x hx).2⟩, fun h x hx => ⟨h.1 x hx, h.2 x hx⟩⟩
theorem l12Fault_c (b : List Int) (k : Nat) (w : World) (hb : b.length = 19) (hk : k < 6) :
 Calls Tryz.prog 97 #[aggI b, .int .i64 (k : Int)] w fun e w' => e = .returned (.agg #[.int .i64 (bF b k).1, .int .i64 (bF b k).2]) ∧ Below w.heap.size w w' := by
 unfold aggI bF
 have g1 := bench_cell (w := w) (b := b) (t := 26) (below_one (.cells #[.int .i64 0, .int .i64 0] 46)) (j := 6 + k) (by omega)
 have g2 := bench_cell (w := w) (b := b) (t := 26) (below_one (.cells #[.int .i64 0, .int .i64 0] 46)) (j := 12 + k) (by omega)
 go_enter Tryz.func97, Tryz.ntmps97
 go_wp2
 go_region
 go_wp2
 exact bodyPost_ret (v := .agg #[.int .i64 (bg b (6 + k)), .int .i64 (bg b (12 + k))]) (by simp [results, Tryz.results97, go_sem]) rfl ⟨rfl, by (repeat (first | exact Below.refl _ _ | exact (Below.refl _ _).drew | assumption | exact below_one _ | refine Below.chain ?_ (by assumption) | refine Below.drew ?_ | refine Below.alc ?_ _ | refine below_drewN ?_ | (refine Below.setCell ?_ ?_ _) | exact Nat.le_refl _ | (simp; done) | (simp; omega)))⟩
theorem bfault_c (b : List Int) (k : Nat) (w : World) (hb : b.length = 19) (hk : k < 6) :
 Calls Tryz.prog 107 #[aggI b, .int .i64 (k : Int)] w fun e w' => e = .returned (.agg #[.int .i64 (bF b k).1, .int .i64 (bF b k).2]) ∧ Below w.heap.size w w' := by
 unfold aggI bF
 have g1 := bench_cell (w := w) (b := b) (t := 26) (below_one (.cells #[.int .i64 0, .int .i64 0] 46)) (j := 6 + k) (by omega)
 have g2 := bench_cell (w := w) (b := b) (t := 26) (below_one (.cells #[.int .i64 0, .int .i64 0] 46)) (j := 12 + k) (by omega)
 go_enter Tryz.func107, Tryz.ntmps107
 go_wp2
 go_region
 go_wp2
 exact bodyPost_ret (v := .agg #[.int .i64 (bg b (6 + k)), .int .i64 (bg b (12 + k))]) (by simp [results, Tryz.results107, go_sem]) rfl ⟨rfl, by (repeat (first | exact Below.refl _ _ | exact (Below.refl _ _).drew | assumption | exact below_one _ | refine Below.chain ?_ (by assumption) | refine Below.drew ?_ | refine Below.alc ?_ _ | refine below_drewN ?_ | (refine Below.setCell ?_ ?_ _) | exact Nat.le_refl _ | (simp; done) | (simp; omega)))⟩
theorem l12Good_c (b : List Int) (w : World) (hb : b.length = 19) :
 Calls Tryz.prog 52 #[aggI b] w fun e w' => e = .returned (.bool (goodB b)) ∧ Below w.heap.size w w' := by
 unfold aggI
 have HW : Hid (∀ wr, Below (w.alloc (.cells (ints b).toArray 26)).heap.size (w.alloc (.cells (ints b).toArray 26)) wr → Below w.heap.size w wr) := fun wr h => Below.chain (below_one _) h
 go_enter Tryz.func52, Tryz.ntmps52
 go_wp2
 generalize hwb : w.alloc (.cells (ints b).toArray 26) = wb at *
 go_loopw [3] (fun j wr => ∃ k : Nat, k ≤ 6 ∧ j = .int .i64 (k : Int) ∧ goodTo b k = true ∧ Below wb.heap.size wb wr) (fun j _ => 7 - (intOf j).toNat)
 case atStart => exact ⟨0, by omega, rfl, rfl, Below.refl _ _⟩
 case round =>
  obtain ⟨k, hk, rfl, hgt, hbw⟩ := hrel
  have hbr := hbw
  subst hwb
  by_cases hlt : k < 6
  · have hd : decide ((k : Int) < 6) = true := by simp; omega
    have g0 := bench_cell hbw (j := k) (by omega)
    have HS := Lib.hid (goodTo_succ b k)
    have HB := Lib.hid (fun h => goodTo_bad (b := b) (n := 6) hlt h)
    go_wp2_with fail
    refine (l2Cell_c _ _).mono ?_
    rintro e w2 ⟨rfl, rfl⟩
    rcases hq : cellB (bg b k) with _ | _
    · have hF : goodB b = false := by unfold goodB; rw [HB.out (by unfold goodAt; rw [hq]; rfl)]; rfl
      have HF := Lib.hid hF; clear hF
      go_wp2
      go_ret
      exact ⟨by rw [HF.out]; rfl, HW.out _ hbr⟩
    · have hr := bench_range hbw
      go_wp2_with (refine wpList_loadB rfl _ rfl _ rfl b hr hb ?_)
      refine (l12Fault_c b k _ hb hlt).mono ?_
      rintro e w3 ⟨rfl, hb3⟩
      have hb4 := Below.chain hbr hb3
      clear hb3 hbr hr g0
      go_wp2_with fail
      refine (l3Fault_c _ _ _).mono ?_
      rintro e w4 ⟨rfl, hb5⟩
      have hb6 := Below.chain hb4 hb5
      clear hb4 hb5
      rcases hq2 : faultB (bF b k).1 (bF b k).2 with _ | _
      · have hF : goodB b = false := by unfold goodB; rw [HB.out (by unfold goodAt fB; rw [hq2, Bool.and_false])]; rfl
        have HF := Lib.hid hF; clear hF
        go_wp2
        go_ret
        exact ⟨by rw [HF.out]; rfl, HW.out _ hb6⟩
      · have hF : goodTo b (k + 1) = true := by rw [HS.out, hgt]; unfold goodAt fB; rw [hq, hq2]; rfl
        have HF := Lib.hid hF; clear hF
        go_wp2
        go_roundw
        case rel => exact ⟨k + 1, by omega, by go_num, HF.out, hb6⟩
        case measure => simp [intOf]; omega
  · obtain rfl : k = 6 := by omega
    have g0 := bench_cell hbw (j := 18) (by omega)
    have hF : goodB b = inB (bg b 18) 0 1000 := by unfold goodB; rw [hgt]; rfl
    have HF := Lib.hid hF; clear hF
    go_wp2_with fail
    refine (l1In_c _ _ _ _).mono ?_
    rintro e w2 ⟨rfl, rfl⟩
    go_wp2
    go_ret
    exact ⟨by rw [HF.out]; rfl, HW.out _ hbr⟩
def fsTo (b : List Int) (n : Nat) : List (Int × Int) := (List.range n).map (bF b)
theorem fsTo_succ (b : List Int) (n : Nat) : fsTo b (n + 1) = fsTo b n ++ [bF b n] := by unfold fsTo; rw [List.range_succ, List.map_append]; rfl
theorem faults_c (b : List Int) (w : World) (hb : b.length = 19) :
 Calls Tryz.prog 93 #[aggI b] w fun e w' => ∃ u, e = .returned u ∧ w'.ownsRow w.heap.size 46 2 u 6 (flat2 (fsB b)) ∧ Below w.heap.size w w' := by
 unfold aggI
 obtain ⟨i, hi, hz0, hz1, hz2⟩ := info_parts info_Fault
 have HW : Hid (∀ wr, Below (w.alloc (.cells (ints b).toArray 26)).heap.size (w.alloc (.cells (ints b).toArray 26)) wr → Below w.heap.size w wr) := fun wr h => Below.chain (below_one _) h
 go_enter Tryz.func93, Tryz.ntmps93
 go_wp2
 generalize hwb : w.alloc (.cells (ints b).toArray 26) = wb at *
 have hwz : w.heap.size + 1 = wb.heap.size := by rw [← hwb]; simp
 go_loopw [3, 5] (fun o j wr => ∃ k : Nat, k ≤ 6 ∧ j = .int .i64 (k : Int) ∧ wr.ownsRow wb.heap.size 46 2 o k (flat2 (fsTo b k)) ∧ Below wb.heap.size wb wr) (fun _ j _ => 7 - (intOf j).toNat)
 case atStart => exact ⟨0, by omega, rfl, World.ownsRow_nil _ _ _ _, Below.refl _ _⟩
 case round =>
  obtain ⟨k, hk, rfl, ho, hbw⟩ := hrel
  by_cases hlt : k < 6
  · have hd : decide ((k : Int) < 6) = true := by simp; omega
    have hr : wr.rangeAt w.heap.size 0 (ints b) := by subst hwb; exact bench_range hbw
    obtain ⟨f1, f2, hf⟩ : ∃ f1 f2, bF b k = (f1, f2) := ⟨_, _, rfl⟩
    have hs := fsTo_succ b k
    rw [hf] at hs
    have HS := Lib.hid hs; have HF := Lib.hid hf; clear hs hf
    go_wp2_with (refine wpList_loadB rfl _ rfl _ rfl b hr hb ?_)
    refine (bfault_c b k _ hb hlt).mono ?_
    rintro e w3 ⟨he, hb3⟩
    rw [HF.out] at he
    subst he
    have hb4 := Below.chain hbw hb3
    have ho4 := own_keep ho hb3
    clear hb3 hbw hr ho HF
    go_wp2_with (at_builtin; refine wpList_append_own_at _ rfl _ _ 127 rfl wb.heap.size 46 i (.agg #[.int .i64 0, .int .i64 0]) 2 16 Tryz.underlying127 hi hz0 hz1 hz2 rfl (by decide) _ k (flat2 (fsTo b k)) rfl (ho4.alloc _) ⟨w3.heap.size, 0, none⟩ 1 1 [.int .i64 f1, .int .i64 f2] rfl rfl (news_new _ [.int .i64 f1, .int .i64 f2] _) (by simp [Value.oneCell']) (by unfold maxLen; omega) (by omega) (by have := hb4.size; simp; omega) ?_)
    intro v' w4 ho5 hg5 _ _
    have hb7 : Below wb.heap.size wb w4 := (Below.alc hb4 _).grown hg5 (by have := hb4.size; simp; omega) (fun g hg => (ho4.lt g hg).1)
    clear ho4 hb4 hg5
    go_wp2
    go_roundw
    case rel => exact ⟨k + 1, by omega, by go_num, by rw [HS.out]; exact ownsRow_cast ho5 rfl (flat2_snoc _ _ _).symm, hb7⟩
    case measure => simp [intOf]; omega
  · obtain rfl : k = 6 := by omega
    go_wp2
    go_ret
    exact ⟨_, rfl, own_lo ho (by omega), HW.out _ hbw⟩
theorem ints_box {w w1 : World} {b : List Int} {t : TypeId} (hb : Below (w.alloc (.cells (ints b).toArray t)).heap.size (w.alloc (.cells (ints b).toArray t)) w1) {n : Nat} (h : n ≤ b.length) (hm : b.length ≤ 1000) (c : Nat) (hc : n ≤ c) (hcm : c ≤ 1000) :
 Ints w1 (.slice (some ⟨w.heap.size, 0, none⟩) n c) (b.take n) := by
 have hl : (b.take n).length = n := by rw [List.length_take]; omega
 refine ⟨_, _, by rw [hl], by rw [hl]; exact hc, by unfold maxLen; omega, by simp, fun _ => ⟨_, _, rfl, fun j hj => ?_⟩⟩
 rw [hl] at hj
 rw [Nat.zero_add, bench_cell hb (by omega), List.getElem?_map, List.getElem?_take, if_pos (by omega), List.getElem?_eq_getElem (by omega)]
 simp [bg, show j < b.length by omega]
theorem IsBench_c (b : List Int) (w : World) (hb : b.length = 19) :
 Calls Tryz.prog 51 #[aggI b] w fun e w' => e = .returned (.bool (goodB b)) ∧ Below w.heap.size w w' := by
 unfold aggI
 have hcl : CallsIt 62 := fun bs w => by kernel_rfl
 have HW : Hid (∀ wr, Below (w.alloc (.cells (ints b).toArray 26)).heap.size (w.alloc (.cells (ints b).toArray 26)) wr → Below w.heap.size w wr) := fun wr h => Below.chain (below_one _) h
 have hI := ints_box (w := w) (b := b) (t := 26) (Below.refl _ _) (n := 6) (by omega) (by omega) 6 (by omega) (by omega)
 have HG := Lib.hid (goodB_eq hb)
 go_enter Tryz.func51, Tryz.ntmps51
 go_wp2_with fail
 refine (IsRow_c _ _ _ hI).mono ?_
 rintro e w2 ⟨rfl, hb2⟩
 have hr := bench_range hb2
 have g18 := bench_cell hb2 (j := 18) (by omega)
 rcases hq : rowB (b.take 6) with _ | _
 · have HF := Lib.hid (show goodB b = false by rw [HG.out, hq]; rfl)
   clear HG hI
   go_wp2
   go_ret
   exact ⟨by rw [HF.out]; rfl, HW.out _ hb2⟩
 · go_wp2_with (refine wpList_loadB rfl _ rfl _ rfl b hr hb ?_)
   refine (faults_c b _ hb).mono ?_
   rintro e w3 ⟨u, rfl, ho, hb3⟩
   have hb4 := Below.chain hb2 hb3
   have g18' := bench_cell hb4 (j := 18) (by omega)
   clear g18 hb2 hb3 hr hI
   have hP : Pairs w3 u (fsB b) := Pairs.of_own ho
   clear ho
   go_wp2_with fail
   refine (areAllFault_c _ (fsB b) 62 fB _ hP hcl (fun x w' => IsFault_c x.1 x.2 w')).mono ?_
   rintro e w4 ⟨rfl, hb5⟩
   have hb6 := Below.chain hb4 hb5
   have g18 := bench_cell hb6 (j := 18) (by omega)
   clear g18' hb4 hb5 hP
   rcases hq2 : (fsB b).all fB with _ | _
   · have HF := Lib.hid (show goodB b = false by rw [HG.out, hq, hq2]; rfl)
     clear HG
     go_wp2
     go_ret
     exact ⟨by rw [HF.out]; rfl, HW.out _ hb6⟩
   · have HF := Lib.hid (show goodB b = inB (bg b 18) 0 1000 by rw [HG.out, hq, hq2]; rfl)
     clear HG
     go_wp2_with fail
     refine (within_c _ _ _ _).mono ?_
     rintro e w5 ⟨rfl, rfl⟩
     go_wp2
     go_ret
     exact ⟨by rw [HF.out]; rfl, HW.out _ hb6⟩
def DInv {α : Type} (p : α → Bool) (es : List α) (j i : Nat) (R : List α) : Prop :=
 ∃ J, R = (es.take j).filter (fun x => !p x) ++ (J ++ es.drop j) ∧ ((es.take j).filter fun x => !p x).length = i ∧ i + J.length = j ∧ i < j ∧ j ≤ es.length
theorem DInv.len {α : Type} {p : α → Bool} {es R : List α} {i j : Nat} (h : DInv p es j i R) : R.length = es.length := by
 obtain ⟨J, rfl, h1, h2, h3, h4⟩ := h
 simp only [List.length_append, List.length_drop]; omega
theorem DInv.keep {α : Type} {p : α → Bool} {es R : List α} {i j : Nat} {x : α} (h : DInv p es j i R) (hx : es[j]? = some x) (hp : p x = false) : DInv p es (j + 1) (i + 1) (R.set i x) := by
 obtain ⟨J, rfl, h1, h2, h3, h4⟩ := h
 have hj : j < es.length := (List.getElem?_eq_some_iff.1 hx).1
 have e : es[j] = x := by rw [List.getElem?_eq_getElem hj] at hx; exact Option.some.inj hx
 have hf : (es.take (j + 1)).filter (fun x => !p x) = (es.take j).filter (fun x => !p x) ++ [x] := by
  rw [List.take_succ_eq_append_getElem hj, List.filter_append]; simp [e, hp]
 cases J with
 | nil => simp at h2; omega
 | cons y J' =>
  refine ⟨J' ++ [x], ?_, by rw [hf, List.length_append, h1]; rfl, by simp at h2 ⊢; omega, by omega, hj⟩
  rw [hf, List.drop_eq_getElem_cons hj, e, List.cons_append, set_mid _ _ _ _ h1.symm]
  simp
theorem DInv.done {α : Type} {p : α → Bool} {es R : List α} {i : Nat} (h : DInv p es es.length i R) : R.take i = es.filter (fun x => !p x) ∧ i = (es.filter fun x => !p x).length := by
 obtain ⟨J, rfl, h1, h2, h3, h4⟩ := h
 rw [List.take_length] at h1 ⊢
 exact ⟨by rw [List.take_left' h1], h1.symm⟩
theorem Sl.partsV {w : World} {v : Value} {xs : List Value} (h : Sl w 1 v xs.length xs) : ∃ a c, v = .slice a xs.length c ∧ xs.length ≤ c ∧ c ≤ 9223372036854775807 ∧
 Hid (∀ k x, xs[k]? = some x → ∃ b off, a = some ⟨b, off, none⟩ ∧ w.cell? ⟨b, off + k, none⟩ = some x) := by
 obtain ⟨a, c, rfl, h1, h2, h3, h4⟩ := h
 refine ⟨a, c, rfl, h1, by unfold maxLen at h2; omega, fun k x hk => ?_⟩
 have hlt : k < xs.length := (List.getElem?_eq_some_iff.1 hk).1
 obtain ⟨b, off, rfl, hc⟩ := h4 (by omega)
 exact ⟨b, off, rfl, by rw [hc k (by omega), hk]⟩
theorem Sl.keepB {w w' : World} {size n B : Nat} {v : Value} {xs : List Value} (h : Sl w size v n xs) (hb : Below B w w') (hv : ∀ g, v.ownBlock = some g → g < B) : Sl w' size v n xs := by
 obtain ⟨a, c, rfl, h1, h2, h3, h4⟩ := h
 refine ⟨a, c, rfl, h1, h2, h3, fun hn => ?_⟩
 obtain ⟨b, off, rfl, hc⟩ := h4 hn
 refine ⟨b, off, rfl, fun j hj => ?_⟩
 have hlt := hv b rfl
 rw [← hc j hj]
 exact hb.cell (p := ⟨b, off + j, none⟩) hlt
def RdSS (w : World) (B : Nat) (u : Value) (xss : List (List Int)) : Prop :=
 ∃ vs, vs.length = xss.length ∧ Sl w 1 u vs.length vs ∧ (∀ g, u.ownBlock = some g → g < B) ∧
  ∀ (k : Nat) (v : Value) (xs : List Int), vs[k]? = some v → xss[k]? = some xs → Ints w v xs ∧ ∀ g, v.ownBlock = some g → g < B
theorem RdSS.keep {w w' : World} {B B' : Nat} {u : Value} {xss : List (List Int)} (h : RdSS w B u xss) (hb : Below B' w w') (hB : B ≤ B') : RdSS w' B u xss := by
 obtain ⟨vs, h1, h2, h3, h4⟩ := h
 exact ⟨vs, h1, h2.keepB hb (fun g hg => Nat.lt_of_lt_of_le (h3 g hg) hB), h3, fun k v xs hv hx => ⟨Sl.keepB (h4 k v xs hv hx).1 hb (fun g hg => Nat.lt_of_lt_of_le ((h4 k v xs hv hx).2 g hg) hB), (h4 k v xs hv hx).2⟩⟩
theorem RdSS.parts {w : World} {B : Nat} {u : Value} {xss : List (List Int)} (h : RdSS w B u xss) : ∃ a c, u = .slice a xss.length c ∧ xss.length ≤ 9223372036854775807 ∧
 Hid (∀ k xs, xss[k]? = some xs → ∃ b off a' c', a = some ⟨b, off, none⟩ ∧ w.cell? ⟨b, off + k, none⟩ = some (.slice a' xs.length c') ∧ Ints w (.slice a' xs.length c') xs) := by
 obtain ⟨vs, h1, h2, h3, h4⟩ := h
 have hle := h2.le
 obtain ⟨a, c, rfl, _, _, HC⟩ := h2.partsV
 refine ⟨a, c, by rw [h1], by omega, fun k xs hk => ?_⟩
 have hlt : k < vs.length := by rw [h1]; exact (List.getElem?_eq_some_iff.1 hk).1
 have hv : vs[k]? = some vs[k] := List.getElem?_eq_getElem hlt
 obtain ⟨b, off, e, hc⟩ := HC.out k _ hv
 have hI := (h4 k _ xs hv hk).1
 obtain ⟨a', c', e2, _⟩ := hI.parts
 exact ⟨b, off, a', c', e, by rw [hc, e2], by rw [← e2]; exact hI⟩
/-! marks -/
theorem Inn.set {w w' : World} {lo : Nat} {vs : List Value} {xss : List (List Int)} {i : Nat} {v : Value} {ys : List Int} (h : Inn w lo vs xss) (hv : vs[i]? = some v) (hi : i < xss.length)
 (ho : w'.ownsRow lo 3 1 v ys.length (ints ys)) (hg : w.grownBy w' v.ownBlock) : Inn w' lo vs (xss.set i ys) := by
 refine ⟨by rw [List.length_set]; exact h.1, fun k a xs ha hx => ?_, h.2.2⟩
 by_cases hk : k = i
 · subst hk
   rw [List.getElem?_set_self hi] at hx
   rw [hv] at ha
   obtain rfl := Option.some.inj ha
   obtain rfl := Option.some.inj hx
   exact ho
 · rw [List.getElem?_set_ne (by omega)] at hx
   have h1 := h.2.1 k a xs ha hx
   refine h1.kept hg ?_
   by_cases hlt : k < i
   · rcases h.2.2 k i a v hlt ha hv with h2 | h2
     · rw [h2]; cases a.ownBlock <;> simp
     · exact .inr (fun e => h2 e.symm)
   · rcases h.2.2 i k v a (by omega) hv ha with h2 | h2
     · exact .inl h2
     · exact .inr h2
theorem Inn.tail {w : World} {lo : Nat} {v : Value} {vs : List Value} {xs : List Int} {xss : List (List Int)} (h : Inn w lo (v :: vs) (xs :: xss)) : Inn w lo vs xss :=
 ⟨by have := h.1; simpa using this, fun k a ys ha hy => h.2.1 (k + 1) a ys (by simpa using ha) (by simpa using hy), fun i j a b hij ha hb => h.2.2 (i + 1) (j + 1) a b (by omega) (by simpa using ha) (by simpa using hb)⟩
theorem Inn.head {w : World} {lo : Nat} {v : Value} {vs : List Value} {xs : List Int} {xss : List (List Int)} (h : Inn w lo (v :: vs) (xs :: xss)) : w.ownsRow lo 3 1 v xs.length (ints xs) ∧ ∀ b ∈ vs, b.ownBlock = none ∨ b.ownBlock ≠ v.ownBlock :=
 ⟨h.2.1 0 v xs rfl rfl, fun b hb => by obtain ⟨j, hj, rfl⟩ := List.getElem_of_mem hb; exact h.2.2 0 (j + 1) v vs[j] (by omega) rfl (by simp [hj])⟩
theorem Inn.cons {w : World} {lo : Nat} {v : Value} {vs : List Value} {xs : List Int} {xss : List (List Int)} (h : Inn w lo vs xss) (ho : w.ownsRow lo 3 1 v xs.length (ints xs)) (hd : ∀ b ∈ vs, b.ownBlock = none ∨ b.ownBlock ≠ v.ownBlock) : Inn w lo (v :: vs) (xs :: xss) := by
 refine ⟨by simp [h.1], fun k a ys ha hy => ?_, fun i j a b hij ha hb => ?_⟩
 · cases k with
   | zero => simp at ha hy; subst ha hy; exact ho
   | succ k => exact h.2.1 k a ys (by simpa using ha) (by simpa using hy)
 · cases i with
   | zero =>
    cases j with
    | zero => omega
    | succ j => simp at ha hb; subst ha; exact hd b (List.mem_of_getElem? hb)
   | succ i =>
    cases j with
    | zero => omega
    | succ j => exact h.2.2 i j a b (by omega) (by simpa using ha) (by simpa using hb)
theorem Inn.filter {w : World} {lo : Nat} {q : Value → Bool} {q' : List Int → Bool} : ∀ {vs : List Value} {xss : List (List Int)}, Inn w lo vs xss → (∀ (k : Nat) v xs, vs[k]? = some v → xss[k]? = some xs → q v = q' xs) → Inn w lo (vs.filter q) (xss.filter q')
 | [], [], h, _ => Inn.nil_ _ _
 | [], _ :: _, h, _ => by have := h.1; simp at this
 | _ :: _, [], h, _ => by have := h.1; simp at this
 | v :: vs, xs :: xss, h, hq => by
  have ih := Inn.filter h.tail (fun k a b ha hb => hq (k + 1) a b (by simpa using ha) (by simpa using hb))
  have h0 := hq 0 v xs rfl rfl
  cases hv : q v
  · rw [hv] at h0
    rw [List.filter_cons_of_neg (by simp [hv]), List.filter_cons_of_neg (by simp [← h0])]
    exact ih
  · rw [hv] at h0
    rw [List.filter_cons_of_pos hv, List.filter_cons_of_pos h0.symm]
    exact ih.cons h.head.1 (fun b hb => h.head.2 b (List.mem_filter.1 hb).1)
def SSPost (w : World) (L : List (List Int)) (b : Bool) (e : Ending) (w' : World) : Prop :=
 ∃ u, e = .returned (.tuple #[u, .bool b]) ∧ OwnSS w' w.heap.size u L ∧ Below w.heap.size w w'
theorem SSPost.mk' {w w' : World} {L L' : List (List Int)} {b b' : Bool} {u : Value} (hL : L = L') (hbb : b = b') (ho : OwnSS w' w.heap.size u L') (hb : Below w.heap.size w w') : SSPost w L b (.returned (.tuple #[u, .bool b'])) w' := by
 subst hL hbb; exact ⟨u, rfl, ho, hb⟩
theorem OwnSS.nil_ (w : World) (lo : Nat) : OwnSS w lo (.slice none 0 0) [] := ⟨[], World.ownsRow_nil _ _ _ _, Inn.nil_ _ _⟩
theorem Inn.lo' {w : World} {lo lo' : Nat} {vs : List Value} {xss : List (List Int)} (h : Inn w lo vs xss) (hl : lo' ≤ lo) : Inn w lo' vs xss := ⟨h.1, fun k v xs h1 h2 => own_lo (h.2.1 k v xs h1 h2) hl, h.2.2⟩
def fitsTo (d l : Int) (ds cs : List Int) (k : Nat) : Bool := ((ds.zip cs).take k).all fun p => shC d l (dg p.1) == p.2
def fitsB (d l : Int) (ds cs : List Int) : Bool := fitsTo d l ds cs ds.length
def readSt (ds cs : List Int) : List (Int × Int) := allSt.filter fun s => fitsB (stD s.1 s.2) (stL s.1 s.2) ds cs
def readOk (ds cs : List Int) : Bool := testB ds && (decide (cs.length = ds.length) && cs.all cellB)
def readL (ds cs : List Int) : List (Int × Int) := if readOk ds cs then readSt ds cs else []
def RdPost (w : World) (ds cs : List Int) (e : Ending) (w' : World) : Prop :=
 ∃ u, e = .returned (.tuple #[u, .bool (readOk ds cs)]) ∧ w'.ownsRow w.heap.size 261 2 u (readL ds cs).length (flat2 (readL ds cs)) ∧ Below w.heap.size w w'
theorem RdPost.no {w w' : World} {ds cs : List Int} {u : Value} (ht : readOk ds cs = false) (ho : w'.ownsRow w.heap.size 261 2 u 0 []) (hb : Below w.heap.size w w') : RdPost w ds cs (.returned (.tuple #[u, .bool false])) w' := by
 refine ⟨u, by rw [ht], ?_, hb⟩
 simpa [readL, ht, flat2_nil] using ho
theorem RdPost.yes {w w' : World} {ds cs : List Int} {u : Value} (ht : readOk ds cs = true) (ho : w'.ownsRow w.heap.size 261 2 u (readSt ds cs).length (flat2 (readSt ds cs))) (hb : Below w.heap.size w w') : RdPost w ds cs (.returned (.tuple #[u, .bool true])) w' := by
 refine ⟨u, by rw [ht], ?_, hb⟩
 simpa [readL, ht] using ho
def FsPost (w : World) (L : List (Int × Int)) (b : Bool) (e : Ending) (w' : World) : Prop :=
 ∃ u, e = .returned (.tuple #[u, .bool b]) ∧ w'.ownsRow w.heap.size 46 2 u L.length (flat2 L) ∧ Below w.heap.size w w'
theorem FsPost.mk' {w w' : World} {L L' : List (Int × Int)} {b b' : Bool} {u : Value} (hL : L = L') (hbb : b = b') (ho : w'.ownsRow w.heap.size 46 2 u L'.length (flat2 L')) (hb : Below w.heap.size w w') : FsPost w L b (.returned (.tuple #[u, .bool b'])) w' := by
 subst hL hbb; exact ⟨u, rfl, ho, hb⟩
def nDig (f : Int × Int) (c : Int) : Nat := (digL f.1 f.2 c).length
theorem nDig_le (f : Int × Int) (c : Int) : nDig f c ≤ 10 := digL_le _ _ _
def prodTo (fs : List (Int × Int)) (r : List Int) (k : Nat) : Nat := ((fs.zip r).take k).foldl (fun m p => m * nDig p.1 p.2) 1
theorem prodTo_zero (fs : List (Int × Int)) (r : List Int) : prodTo fs r 0 = 1 := rfl
theorem prodTo_succ {fs : List (Int × Int)} {r : List Int} {k : Nat} {f : Int × Int} {c : Int} (hf : fs[k]? = some f) (hc : r[k]? = some c) : prodTo fs r (k + 1) = prodTo fs r k * nDig f c := by
 have h : (fs.zip r)[k]? = some (f, c) := by rw [List.getElem?_zip_eq_some]; exact ⟨hf, hc⟩
 unfold prodTo
 rw [take_snoc h, List.foldl_append]; rfl
theorem prodTo_le (fs : List (Int × Int)) (r : List Int) (k : Nat) : prodTo fs r k ≤ 10 ^ k := by
 induction k with
 | zero => simp [prodTo_zero]
 | succ k ih =>
  cases h : (fs.zip r)[k]? with
  | none =>
   have : prodTo fs r (k + 1) = prodTo fs r k := by
    unfold prodTo
    have hl := List.getElem?_eq_none_iff.1 h
    rw [List.take_of_length_le (by omega), List.take_of_length_le hl]
   rw [this]; exact Nat.le_trans ih (Nat.pow_le_pow_right (by omega) (by omega))
  | some p =>
   obtain ⟨f, c⟩ := p
   rw [List.getElem?_zip_eq_some] at h
   rw [prodTo_succ h.1 h.2, Nat.pow_succ]
   exact Nat.mul_le_mul ih (nDig_le _ _)
def cnOk (fs : List (Int × Int)) (r : List Int) : Bool := areB fs r && !decide (r.length = 0)
def cnN (fs : List (Int × Int)) (r : List Int) : Int := if cnOk fs r then (prodTo fs r r.length : Int) else 0
def cnV (fs : List (Int × Int)) (r : List Int) : Value := .tuple #[.int .i64 (cnN fs r), .bool (cnOk fs r)]
theorem wrap_mul {a b : Nat} (ha : a ≤ 100000) (hb : b ≤ 10) : wrap64 ((a : Int) * (b : Int)) = ((a * b : Nat) : Int) ∧ IntKind.i64.wrap ((a : Int) * (b : Int)) = ((a * b : Nat) : Int) := by
 have h : a * b ≤ 100000 * 10 := Nat.mul_le_mul ha hb
 have e : (a : Int) * (b : Int) = ((a * b : Nat) : Int) := by simp
 rw [e]
 exact ⟨by simp only [wrap64]; omega, wrap_i64_small _ (by omega)⟩
theorem pow_le_five {k : Nat} (hk : k ≤ 5) : 10 ^ k ≤ 100000 := Nat.le_trans (Nat.pow_le_pow_right (by omega) hk) (by decide)
theorem CountNumbers_c (v1 v2 : Value) (fs : List (Int × Int)) (r : List Int) (w : World) (h1 : Pairs w v1 fs) (h2 : Ints w v2 r) :
 Calls Tryz.prog 249 #[v1, v2] w fun e w' => e = .returned (cnV fs r) ∧ Below w.heap.size w w' := by
 obtain ⟨a1, c1, rfl, _, _, H1⟩ := h1.parts
 obtain ⟨a2, c2, rfl, _, _, H2⟩ := h2.parts
 rcases ha : areB fs r with _ | _
 · have HF0 : cnV fs r = .tuple #[.int .i64 0, .bool false] := by simp [cnV, cnN, cnOk, ha]
   have HF := Lib.hid HF0; clear HF0; have HA := Lib.hid ha; clear ha
   go_enter Tryz.func249, Tryz.ntmps249
   go_wp2_with fail
   refine (areFaults_c _ _ fs r _ h1 h2).mono ?_
   rintro e w1 ⟨rfl, hb1⟩
   rw [HA.out]
   go_wp2
   go_ret2
   exact ⟨by rw [HF.out]; rfl, hb1⟩
 · have hr6 := rowB_le (areB_row ha)
   by_cases hz : r.length = 0
   · have HF0 : cnV fs r = .tuple #[.int .i64 0, .bool false] := by simp [cnV, cnN, cnOk, hz]
     have hzb : ((r.length : Int) == 0) = true := by simp [hz]
     have HF := Lib.hid HF0; have HZ := Lib.hid hz; clear HF0 hz; have HA := Lib.hid ha; clear ha
     go_enter Tryz.func249, Tryz.ntmps249
     go_wp2_with fail
     refine (areFaults_c _ _ fs r _ h1 h2).mono ?_
     rintro e w1 ⟨rfl, hb1⟩
     rw [HA.out]
     go_wp2
     go_ret2
     exact ⟨by rw [HF.out]; rfl, hb1⟩
   · have HF0 : cnV fs r = .tuple #[.int .i64 (prodTo fs r r.length : Int), .bool true] := by simp [cnV, cnN, cnOk, hz, ha]
     have hzb : ((r.length : Int) == 0) = false := by simp [hz]
     have HF := Lib.hid HF0; have HZ := Lib.hid hz; clear HF0 hz; have HA := Lib.hid ha; clear ha
     go_enter Tryz.func249, Tryz.ntmps249
     go_wp2_with fail
     refine (areFaults_c _ _ fs r _ h1 h2).mono ?_
     rintro e w1 ⟨rfl, hb1⟩
     rw [HA.out]
     clear h1 h2
     go_wp2
     go_loopw [6, 7, 8, 20] (fun m _ _ j wr => ∃ k : Nat, k ≤ r.length ∧ j = .int .i64 (k : Int) ∧ m = .int .i64 (prodTo fs r k : Int) ∧ Below w.heap.size w wr) (fun _ _ _ j _ => r.length - (intOf j).toNat)
     case atStart => exact ⟨0, by omega, rfl, rfl, hb1⟩
     case round =>
      obtain ⟨k, hk, rfl, rfl, hb⟩ := hrel
      clear hb1
      by_cases hlt : k < r.length
      · have hd : decide ((k : Int) < (r.length : Int)) = true := by simp; omega
        have hlf : k < fs.length := by rw [areB_len HA.out]; exact hlt
        obtain ⟨f, hf⟩ := elem_at hlf
        obtain ⟨c, hc⟩ := elem_at hlt
        obtain ⟨b1, o1, rfl, f0, f1⟩ := H1.out k _ hf.out
        obtain ⟨b2, o2, rfl, f2⟩ := H2.out k _ hc.out
        have g0 := cell_later hb f0
        have g1 := cell_later hb f1
        have g2 := cell_later hb f2
        have bd := areB_fault HA.out hf.out
        have hS := prodTo_succ hf.out hc.out
        have hle := Nat.le_trans (prodTo_le fs r k) (pow_le_five (by omega))
        have hnd := nDig_le f c
        have hwm := wrap_mul hle hnd
        have hw1 := hwm.1
        generalize prodTo fs r k = P at *
        have HS := Lib.hid hS; clear hS f0 f1 f2 hwm
        go_wp2_with fail
        refine (digits_c f.1 f.2 c _ bd.1 bd.2.1 bd.2.2.1 bd.2.2.2).mono ?_
        rintro e w2 ⟨u, rfl, ho, hb2⟩
        obtain ⟨a3, c3, rfl, _⟩ := (Sl.of_own ho).slice
        have hb3 := Below.chain hb hb2
        rw [show (digL f.1 f.2 c).length = nDig f c from rfl] at *
        clear ho hb hb2 g0 g1 g2
        go_wp2
        go_roundw
        case rel => exact ⟨k + 1, by omega, by go_num, by rw [HS.out]; exact int_val (by first | exact hw1 | simp), hb3⟩
        case measure => simp [intOf]; omega
      · obtain rfl : k = r.length := by omega
        go_wp2
        go_ret2
        exact ⟨by rw [HF.out]; rfl, hb⟩
def headDig (f : Int × Int) (c : Int) : Int := (digL f.1 f.2 c).headD 0
def firstTo (fs : List (Int × Int)) (r : List Int) (k : Nat) : List Int := ((fs.zip r).take k).map fun p => headDig p.1 p.2
theorem firstTo_le (fs : List (Int × Int)) (r : List Int) (k : Nat) : (firstTo fs r k).length ≤ k := by simp [firstTo, List.length_take]; omega
theorem firstTo_succ {fs : List (Int × Int)} {r : List Int} {k : Nat} {f : Int × Int} {c : Int} (hf : fs[k]? = some f) (hc : r[k]? = some c) : firstTo fs r (k + 1) = firstTo fs r k ++ [headDig f c] := by
 have h : (fs.zip r)[k]? = some (f, c) := by rw [List.getElem?_zip_eq_some]; exact ⟨hf, hc⟩
 unfold firstTo
 rw [take_snoc h]; simp
theorem head_at {f : Int × Int} {c : Int} (h : nDig f c ≠ 0) : (digL f.1 f.2 c)[0]? = some (headDig f c) := by
 unfold nDig at h
 unfold headDig
 cases hd : digL f.1 f.2 c with
 | nil => rw [hd] at h; simp at h
 | cons a l => simp
theorem prodTo_zero_of {fs : List (Int × Int)} {r : List Int} {k n : Nat} {f : Int × Int} {c : Int} (hf : fs[k]? = some f) (hc : r[k]? = some c) (h0 : nDig f c = 0) (hn : k < n) : prodTo fs r n = 0 := by
 have h1 : prodTo fs r (k + 1) = 0 := by rw [prodTo_succ hf hc, h0, Nat.mul_zero]
 have : ∀ m, prodTo fs r (k + 1 + m) = 0 := by
  intro m
  induction m with
  | zero => exact h1
  | succ m ih =>
   cases h : (fs.zip r)[k + 1 + m]? with
   | none =>
    have e : prodTo fs r (k + 1 + (m + 1)) = prodTo fs r (k + 1 + m) := by
     unfold prodTo
     have hl := List.getElem?_eq_none_iff.1 h
     rw [List.take_of_length_le (by omega), List.take_of_length_le hl]
    rw [e]; exact ih
   | some p =>
    obtain ⟨f', c'⟩ := p
    rw [List.getElem?_zip_eq_some] at h
    rw [show k + 1 + (m + 1) = (k + 1 + m) + 1 by omega, prodTo_succ h.1 h.2, ih, Nat.zero_mul]
 have e := this (n - (k + 1))
 rw [show k + 1 + (n - (k + 1)) = n by omega] at e
 exact e
def fnOk (fs : List (Int × Int)) (r : List Int) : Bool := cnOk fs r && !decide (prodTo fs r r.length = 0)
def fnL (fs : List (Int × Int)) (r : List Int) : List Int := if fnOk fs r then firstTo fs r r.length else []
theorem fnOk_len {fs : List (Int × Int)} {r : List Int} (h : cnOk fs r = true) : r.length ≤ 6 := by
 simp only [cnOk, Bool.and_eq_true] at h; exact rowB_le (areB_row h.1)
theorem cnOk_are {fs : List (Int × Int)} {r : List Int} (h : cnOk fs r = true) : areB fs r = true := by
 simp only [cnOk, Bool.and_eq_true] at h; exact h.1
theorem fnL_le (fs : List (Int × Int)) (r : List Int) : (fnL fs r).length ≤ 6 := by
 unfold fnL; split
 · rename_i h; simp only [fnOk, Bool.and_eq_true] at h; exact Nat.le_trans (firstTo_le _ _ _) (fnOk_len h.1)
 · simp
theorem FirstNumber_c (v1 v2 : Value) (fs : List (Int × Int)) (r : List Int) (w : World) (h1 : Pairs w v1 fs) (h2 : Ints w v2 r) :
 Calls Tryz.prog 193 #[v1, v2] w (IntsPost w (fnL fs r) (fnOk fs r)) := by
 obtain ⟨a1, c1, rfl, _, _, H1⟩ := h1.parts
 obtain ⟨a2, c2, rfl, _, _, H2⟩ := h2.parts
 obtain ⟨i, hi, hz0, hz1, hz2⟩ := info_parts info_int
 rcases ha : cnOk fs r with _ | _
 · have hok : fnOk fs r = false := by simp [fnOk, ha]
   have HL := Lib.hid (show fnL fs r = [] by simp [fnL, hok])
   have HK := Lib.hid hok; have HA := Lib.hid ha; clear ha hok
   go_enter Tryz.func193, Tryz.ntmps193
   go_wp2_with fail
   refine (CountNumbers_c _ _ fs r _ h1 h2).mono ?_
   rintro e w1 ⟨rfl, hb1⟩
   unfold cnV
   rw [HA.out]
   go_wp2
   go_ret2
   exact IntsPost.mk' HL.out HK.out (World.ownsRow_nil _ _ _ _) hb1
 · have hN : cnN fs r = (prodTo fs r r.length : Int) := by simp [cnN, ha]
   have hr6 := fnOk_len ha
   by_cases hz : prodTo fs r r.length = 0
   · have hok : fnOk fs r = false := by simp [fnOk, hz]
     have HL := Lib.hid (show fnL fs r = [] by simp [fnL, hok])
     have HN := Lib.hid (show cnN fs r = 0 by rw [hN, hz]; rfl)
     have HK := Lib.hid hok; have HA := Lib.hid ha; clear ha hok hN hz
     go_enter Tryz.func193, Tryz.ntmps193
     go_wp2_with fail
     refine (CountNumbers_c _ _ fs r _ h1 h2).mono ?_
     rintro e w1 ⟨rfl, hb1⟩
     unfold cnV
     rw [HA.out, HN.out]
     go_wp2
     go_ret2
     exact IntsPost.mk' HL.out HK.out (World.ownsRow_nil _ _ _ _) hb1
   · have hok : fnOk fs r = true := by simp [fnOk, hz, ha]
     have HL := Lib.hid (show fnL fs r = firstTo fs r r.length by simp [fnL, hok])
     have hzb : (cnN fs r == 0) = false := by rw [hN]; simp [hz]
     have HZ := Lib.hid hz
     have HK := Lib.hid hok; have HA := Lib.hid ha; clear ha hok hN hz
     go_enter Tryz.func193, Tryz.ntmps193
     go_wp2_with fail
     refine (CountNumbers_c _ _ fs r _ h1 h2).mono ?_
     rintro e w1 ⟨rfl, hb1⟩
     unfold cnV
     rw [HA.out]
     clear h1 h2
     go_wp2
     go_loopw [8, 9, 10, 25] (fun o _ _ j wr => ∃ k : Nat, k ≤ r.length ∧ j = .int .i64 (k : Int) ∧ wr.ownsRow w.heap.size 3 1 o (firstTo fs r k).length ((firstTo fs r k).map (Value.int .i64)) ∧ Below w.heap.size w wr) (fun _ _ _ j _ => r.length - (intOf j).toNat)
     case atStart => exact ⟨0, by omega, rfl, World.ownsRow_nil _ _ _ _, hb1⟩
     case round =>
      obtain ⟨k, hk, rfl, ho, hb⟩ := hrel
      clear hb1
      by_cases hlt : k < r.length
      · have hd : decide ((k : Int) < (r.length : Int)) = true := by simp; omega
        have hlf : k < fs.length := by rw [areB_len (cnOk_are HA.out)]; exact hlt
        obtain ⟨f, hf⟩ := elem_at hlf
        obtain ⟨c, hc⟩ := elem_at hlt
        obtain ⟨b1, o1, rfl, f0, f1⟩ := H1.out k _ hf.out
        obtain ⟨b2, o2, rfl, f2⟩ := H2.out k _ hc.out
        have g0 := cell_later hb f0
        have g1 := cell_later hb f1
        have g2 := cell_later hb f2
        have bd := areB_fault (cnOk_are HA.out) hf.out
        have hne : nDig f c ≠ 0 := fun h => HZ.out (prodTo_zero_of hf.out hc.out h hlt)
        have hh := head_at hne
        have hS := firstTo_succ hf.out hc.out
        have hle := firstTo_le fs r k
        generalize firstTo fs r k = cur at *
        have HS := Lib.hid hS; clear hS f0 f1 f2
        go_wp2_with fail
        refine (digits_c f.1 f.2 c _ bd.1 bd.2.1 bd.2.2.1 bd.2.2.2).mono ?_
        rintro e w2 ⟨u, rfl, hod, hb2⟩
        obtain ⟨a3, c3, hu3, hc3, hcm3, H3⟩ := (Ints.of_own hod).parts
        obtain ⟨b3, o3, e3, g3⟩ := H3.out 0 _ hh
        subst hu3 e3
        simp only [Nat.add_zero] at g3
        have hpos : 0 < (digL f.1 f.2 c).length := (List.getElem?_eq_some_iff.1 hh).1
        have ho2 := own_keep ho hb2
        have hb3 := Below.chain hb hb2
        generalize headDig f c = X at *
        generalize (digL f.1 f.2 c).length = nn at *
        clear ho hb hb2 g0 g1 g2 hod H3 hh
        have hposI : (0 : Int) < (nn : Int) := by omega
        go_wp2_with (at_builtin; refine wpList_append_own_at _ rfl _ _ 37 rfl w.heap.size 3 i (.int .i64 0) 1 8 Tryz.underlying37 hi hz0 hz1 hz2 rfl (by decide) _ cur.length (cur.map (Value.int .i64)) rfl (ho2.alloc _) ⟨w2.heap.size, 0, none⟩ 1 1 [.int .i64 X] rfl rfl (news_new _ [.int .i64 X] _) (by simp [Value.oneCell']) (by unfold maxLen; omega) (by omega) (by have := hb3.size; simp; omega) ?_)
        intro v' w3 ho5 hg5 _ _
        have hb7 : Below w.heap.size w w3 := (Below.alc hb3 _).grown hg5 (by have := hb3.size; simp; omega) (fun g hg => (ho2.lt g hg).1)
        clear ho2 hb3 hg5 g3
        go_wp2
        go_roundw
        case rel => exact ⟨k + 1, by omega, by go_num, by rw [HS.out]; exact ownsRow_cast ho5 (by simp) (by simp), hb7⟩
        case measure => simp [intOf]; omega
      · obtain rfl : k = r.length := by omega
        go_wp2
        go_ret2
        exact IntsPost.mk' HL.out HK.out ho hb
theorem len6 {b : List Int} (h : b.length = 6) : ∃ x0 x1 x2 x3 x4 x5, b = [x0, x1, x2, x3, x4, x5] := by
 match b, h with
 | [x0, x1, x2, x3, x4, x5], _ => exact ⟨x0, x1, x2, x3, x4, x5, rfl⟩
def pt (b : List Int) (o : Nat) : List Int := (b.drop o).take 6
theorem part6 {w : World} {g : Nat} {b : List Int} (h : w.rangeAt g 0 (ints b)) (o : Nat) : w.rangeAt g o (ints (pt b o)) := by
 have := range_sub h o 6
 rw [Nat.zero_add] at this
 simpa [ints, pt, List.map_take, List.map_drop] using this
theorem part6_len {b : List Int} (h : b.length = 19) {o : Nat} (ho : o ≤ 12) : (pt b o).length = 6 := by simp [pt, h]; omega
theorem cell18 {w : World} {g : Nat} {b : List Int} (h : w.rangeAt g 0 (ints b)) {j : Nat} (hj : j < b.length) : w.cell? ⟨g, j, none⟩ = some (.int .i64 (bg b j)) := by
 have := h j (.int .i64 (bg b j)) (by have := ints_get hj; simpa using this)
 rwa [Nat.zero_add] at this
def zB : Obj := .cells #[.int .i64 0, .int .i64 0, .int .i64 0, .int .i64 0, .int .i64 0, .int .i64 0, .int .i64 0, .int .i64 0, .int .i64 0, .int .i64 0, .int .i64 0, .int .i64 0, .int .i64 0, .int .i64 0, .int .i64 0, .int .i64 0, .int .i64 0, .int .i64 0, .int .i64 0] 26
end Go.Proofs.YtohgjfdbnkjefaaGreatDoor
