/- Texts of this claim, gathered: Told, Mem, Bench, Bench2, Bench3. -/
import Derived.Test.YtlipkplomndjcaaK3
import Derived.Deep.MidRow
import Derived.Lib.SliceRun
namespace Go.Proofs.Ytlipkplomndjcaa
open Go.RowKit
set_option linter.unusedVariables false
set_option maxRecDepth 100000
theorem headD_of {xs : List Int} {x d : Int} (h : xs[0]? = some x) : xs.headD d = x := by cases xs <;> simp_all
theorem grpL_pos {d l : Int} {k : Nat} {xs : List Int} (h : (grpL d l)[k]? = some xs) : 0 < xs.length := by
  have hm := List.mem_of_getElem? h
  unfold grpL grpTo at hm
  simp only [List.mem_map, List.mem_filter] at hm
  obtain ⟨x, ⟨hx, _⟩, rfl⟩ := hm
  obtain ⟨n, hn, hxn⟩ := List.getElem_of_mem hx
  have hn10 : n < 10 := by rw [List.length_take] at hn; omega
  rw [List.getElem_take] at hxn
  have hx2 : x = (n : Int) := by
    have := tenI_at hn10
    rw [List.getElem?_eq_getElem (by simp [tenI]; omega), hxn] at this
    simpa using this
  subst hx2
  have h0 := grpOf_head (d := d) (l := l) hn10
  exact (List.getElem?_eq_some_iff.1 h0).1
def toldTo (xss : List (List Int)) (k : Nat) : List Int := ((xss.take k).filter fun xs => xs.length == 1).map fun xs => xs.headD 0
theorem toldTo_succ {xss : List (List Int)} {k : Nat} {xs : List Int} (h : xss[k]? = some xs) : toldTo xss (k + 1) = toldTo xss k ++ if xs.length == 1 then [xs.headD 0] else [] := by
  unfold toldTo
  rw [take_snoc h, List.filter_append, List.map_append]
  cases hq : xs.length == 1 <;> simp [hq]
theorem toldTo_len (xss : List (List Int)) (k : Nat) : (toldTo xss k).length = dkI 2 xss k := by
  unfold toldTo dkI; rw [List.length_map]; congr 2
theorem toldTo_le (xss : List (List Int)) (k : Nat) : (toldTo xss k).length ≤ xss.length := by rw [toldTo_len]; exact dkI_le _ _ _
def tdL (d l : Int) : List Int := if faultB d l then toldTo (grpL d l) (grpL d l).length else []
theorem tdL_le (d l : Int) : (tdL d l).length ≤ 10 := by
  unfold tdL; split
  · exact Nat.le_trans (toldTo_le _ _) (grpTo_le _ _ _)
  · simp
theorem ToldDigits_c (d l : Int) (w : World) : Calls Try.prog 37 #[.agg #[.int .i64 d, .int .i64 l]] w (IntsPost w (tdL d l) (faultB d l)) := by
  obtain ⟨i, hi, hz0, hz1, hz2⟩ := info_parts info_int
  rcases ha : faultB d l with _ | _
  · have HL := Lib.hid (show tdL d l = [] by simp [tdL, ha])
    have HA := Lib.hid ha; clear ha
    go_enter Try.func37, Try.ntmps37
    go_wp2_with fail
    refine (IsFault_c d l _).mono ?_
    rintro e w1 ⟨rfl, hb1⟩
    rw [HA.out]
    go_wp2
    go_ret2
    exact IntsPost.mk' HL.out rfl (World.ownsRow_nil _ _ _ _) (Below.chain (below_one _) hb1)
  · have HL := Lib.hid (show tdL d l = toldTo (grpL d l) (grpL d l).length by simp [tdL, ha])
    have bd := faultB_true ha
    have HA := Lib.hid ha; clear ha
    go_enter Try.func37, Try.ntmps37
    go_wp2_with fail
    refine (IsFault_c d l _).mono ?_
    rintro e w1 ⟨rfl, hb1⟩
    rw [HA.out]
    have q0 := (box_after hb1).1 0 _ rfl
    have q1 := (box_after hb1).1 1 _ rfl
    have hb2 := Below.chain (below_one _) hb1
    clear hb1
    go_wp2_with fail
    refine (groups_c d l _ bd.1 bd.2.1 bd.2.2.1 bd.2.2.2.1).mono ?_
    rintro e w2 ⟨u, rfl, ho, hb3⟩
    have hb4 := Below.chain hb2 hb3
    have sz2 := hb4.size
    clear hb3 hb2 q0 q1
    have h10 : (grpL d l).length ≤ 10 := grpTo_le _ _ _
    have HN : Hid (∀ (k : Nat) (xs : List Int), (grpL d l)[k]? = some xs → 0 < xs.length) := fun k xs h => grpL_pos h
    generalize grpL d l = xss at *
    obtain ⟨a, c, rfl, hxl, HC⟩ := ho.parts
    clear ho
    go_wp2
    go_loopw [4, 6, 13] (fun o _ j wr => ∃ k : Nat, k ≤ xss.length ∧ j = .int .i64 (k : Int) ∧ wr.ownsRow w2.heap.size 3 1 o (toldTo xss k).length ((toldTo xss k).map (Value.int .i64)) ∧ Below w.heap.size w wr ∧ Below w2.heap.size w2 wr) (fun _ _ j _ => xss.length - (intOf j).toNat)
    case atStart => exact ⟨0, by omega, rfl, World.ownsRow_nil _ _ _ _, hb4, Below.refl _ _⟩
    case round =>
      obtain ⟨k, hk, rfl, ho, hb, hb5⟩ := hrel
      clear hb4
      by_cases hlt : k < xss.length
      · have hd : decide ((k : Int) < (xss.length : Int)) = true := by simp; omega
        obtain ⟨xs, hx⟩ := elem_at hlt
        obtain ⟨b, off, a', c', rfl, f0, hxsl, hI⟩ := HC.out k xs hx.out
        have hpos := HN.out k xs hx.out
        obtain ⟨a2, c2, he, _, _, HI⟩ := hI.parts
        obtain ⟨x0, hx0⟩ := elem_at hpos
        obtain ⟨b3, o3, e3, f1⟩ := HI.out 0 _ hx0.out
        have hhd : xs.headD 0 = x0 := headD_of hx0.out
        injection he with he1 he2 he3
        subst he1 e3
        have g0 := cell_later hb5 f0
        have g1 := cell_later hb5 f1
        simp only [Nat.add_zero] at g1
        have hS := toldTo_succ hx.out
        have hle := toldTo_le xss k
        rw [hhd] at hS
        generalize toldTo xss k = cur at *
        have HS := Lib.hid hS; clear hS f0 f1 hI HI hhd hx hx0
        rcases hq : xs.length == 1 with _ | _
        · have hq1 : decide ((xs.length : Int) = 1) = false := by simp at hq ⊢; omega
          have HS2 := Lib.hid (show toldTo xss (k + 1) = cur by rw [HS.out, hq]; simp)
          clear HS
          go_wp2
          go_roundw
          case rel => exact ⟨k + 1, by omega, by go_num, by rw [HS2.out]; exact ho, hb, hb5⟩
          case measure => simp [intOf]; omega
        · have hq1 : decide ((xs.length : Int) = 1) = true := by simp at hq ⊢; omega
          have HS2 := Lib.hid (show toldTo xss (k + 1) = cur ++ [x0] by rw [HS.out, hq]; simp)
          clear HS
          go_wp2_with (at_builtin; refine wpList_append_own_at _ rfl _ _ 24 rfl w2.heap.size 3 i (.int .i64 0) 1 8 Try.underlying24 hi hz0 hz1 hz2 rfl (by decide) _ cur.length (cur.map (Value.int .i64)) rfl (ho.alloc _) ⟨wr.heap.size, 0, none⟩ 1 1 [.int .i64 x0] rfl rfl (news_new _ [.int .i64 x0] _) (by simp [Value.oneCell']) (by unfold maxLen; omega) (by omega) (by have := hb5.size; simp; omega) ?_)
          intro v' w3 ho5 hg5 _ _
          have hb7 : Below w.heap.size w w3 := (Below.alc hb _).grown hg5 (by have := hb.size; simp; omega) (fun g hg => Nat.le_trans sz2 (ho.lt g hg).1)
          have hb8 : Below w2.heap.size w2 w3 := (Below.alc hb5 _).grown hg5 (by have := hb5.size; simp; omega) (fun g hg => (ho.lt g hg).1)
          clear ho hb hb5 hg5
          go_wp2
          go_roundw
          case rel => exact ⟨k + 1, by omega, by go_num, by rw [HS2.out]; exact ownsRow_cast ho5 (by simp) (by simp), hb7, hb8⟩
          case measure => simp [intOf]; omega
      · obtain rfl : k = xss.length := by omega
        go_wp2
        go_ret2
        exact IntsPost.mk' HL.out rfl (own_lo ho sz2) hb
end Go.Proofs.Ytlipkplomndjcaa
namespace Go.Proofs.Ytlipkplomndjcaa
open Go.RowKit
set_option linter.unusedVariables false
theorem range_below {w w' : World} {g o : Nat} {cs : List Value} (h : w.rangeAt g o cs) (hb : Below w.heap.size w w') : w'.rangeAt g o cs := fun j v hv => cell_later hb (h j v hv)
theorem there_below {w w' : World} {g o n : Nat} (h : w.there g o n) (hb : Below w.heap.size w w') : w'.there g o n := fun j hj => by
  obtain ⟨h1, h2⟩ := h j hj
  obtain ⟨u, hu⟩ := Option.isSome_iff_exists.1 h1
  have hlt := World.block_lt_of_cell? w _ hu
  exact ⟨by rw [cell_later hb hu]; rfl, by rw [hb.frozen (p := ⟨g, o + j, none⟩) hlt]; exact h2⟩
theorem there_new (w : World) (cs : Array Value) (t : TypeId) {n : Nat} (h : n ≤ cs.size) : (w.alloc (.cells cs t)).there w.heap.size 0 n := fun j hj => by
  rw [Nat.zero_add]
  refine ⟨?_, World.frozen?_alloc_new _ _ _ _⟩
  rw [World.cell?_alloc_at _ _ _ _ rfl, Array.getElem?_eq_getElem (by omega)]; rfl
theorem range_new (w : World) (cs : List Value) (t : TypeId) : (w.alloc (.cells cs.toArray t)).rangeAt w.heap.size 0 cs := fun j v hv => by
  rw [Nat.zero_add, World.cell?_alloc_at _ _ _ _ rfl]; simpa using hv
theorem there_sub {w : World} {g o n o' n' : Nat} (h : w.there g o n) (h1 : o ≤ o') (h2 : o' + n' ≤ o + n) : w.there g o' n' := fun j hj => by
  have := h (o' - o + j) (by omega)
  rwa [show o + (o' - o + j) = o' + j by omega] at this
theorem range_sub {w : World} {g o : Nat} {cs : List Value} (h : w.rangeAt g o cs) (p n : Nat) : w.rangeAt g (o + p) ((cs.drop p).take n) := fun j v hv => by
  rw [List.getElem?_take] at hv
  split at hv
  · rw [List.getElem?_drop] at hv
    have := h (p + j) v hv
    rwa [← Nat.add_assoc] at this
  · cases hv
theorem range_nil (w : World) (g o : Nat) : w.rangeAt g o [] := fun j v hv => by simp at hv
theorem range_append {w : World} {g o : Nat} {xs ys : List Value} (h1 : w.rangeAt g o xs) (h2 : w.rangeAt g (o + xs.length) ys) : w.rangeAt g o (xs ++ ys) := fun j v hv => by
  by_cases hj : j < xs.length
  · rw [List.getElem?_append_left hj] at hv; exact h1 j v hv
  · rw [List.getElem?_append_right (by omega)] at hv
    have := h2 _ v hv
    rwa [show o + xs.length + (j - xs.length) = o + j by omega] at this
theorem below_cells {w : World} : ∀ (vs : List Value) (a : World) (g o : Nat), Below w.heap.size w a → w.heap.size ≤ g → Below w.heap.size w (a.setCells g o vs)
  | [], _, _, _, h, _ => h
  | v :: r, a, g, o, h, hg => by rw [World.setCells]; exact below_cells r _ g (o + 1) (h.setCell hg v) hg
theorem range_grow {w : World} {g : Nat} {xs ys : List Value} (h : w.rangeAt g 0 xs) (ht : w.there g xs.length ys.length) : (w.setCells g xs.length ys).rangeAt g 0 (xs ++ ys) :=
  range_append (World.rangeAt_setCells_apart h _ _ _ (.inr (.inl (by omega)))) (by rw [Nat.zero_add]; exact World.rangeAt_setCells_same _ _ _ _ ht)
theorem wpList_load_want {P : Program} {ops : Array Oper} {rest : List Oper} {op : Oper} {a : Act} {w : World} {Q : Exit → Act → World → Prop} (hw : Region.wanted op (yielded ops a.tmps) = true) (ty : TypeId) (x : Operand) (ho : op.op = .load ty x)
    (b o : Nat) (hx : a.eval x = .pointer (some ⟨b, o, none⟩)) (cs : List Value) (d : TypeDesc) (hc : w.rangeAt b o cs)
    (hu : P.underlying ty = some d) (hd : d.isRow = true) (hi : (P.info? ty).map (·.size) = some cs.length)
    (h : wpList P ops Q rest (a.put op.dst (.agg cs.toArray)) w) : wpList P ops Q (op :: rest) a w :=
  BigFrame.wpList_want hw fun _ hK => wp_load_mid ty x ho b o hx cs d hc hu hd hi (hK _ _ h)
theorem wpList_store_want {P : Program} {ops : Array Oper} {rest : List Oper} {op : Oper} {a : Act} {w : World} {Q : Exit → Act → World → Prop} (hw : Region.wanted op (yielded ops a.tmps) = true) (ty : TypeId) (x y : Operand) (ho : op.op = .store ty x y)
    (b o : Nat) (cs : List Value) (hx : a.eval x = .pointer (some ⟨b, o, none⟩)) (hy : a.eval y = .agg cs.toArray)
    (ht : w.there b o cs.length) (hi : (P.info? ty).map (·.size) = some cs.length) (h1 : ∀ v ∈ cs, v.oneCell' = true)
    (h : wpList P ops Q rest (a.put op.dst undef) (w.setCells b o cs)) : wpList P ops Q (op :: rest) a w :=
  BigFrame.wpList_want hw fun _ hK => wp_store_mid ty x y ho b o cs.toArray hx hy (by simpa using ht) (by simpa using hi) (all_oneCell_toArray h1) (hK _ _ (by simpa using h))
/-- the results of a function whose result lies in memory -/
theorem res_cell {P : Program} {fn : Func} {r : Nat} {t : TypeId} {tmps : Array Value} {w : World} {g : Nat} {v : Value} (h : fn.results = #[.cell r t]) (hr : tmps.getD r undef = .pointer (some ⟨g, 0, none⟩)) (hl : (loadVar t ⟨g, 0, none⟩).run P w = .ok v w) :
    (results fn tmps).run P w = .ok v w := by
  unfold results
  rw [h]
  simp only [List.mapM_toArray, List.mapM_cons, List.mapM_nil, Sem.run_bind, Sem.run_pure, Sem.run_map, Result.andThen_ok, hr, asAddr, hl]
  rfl
theorem res_cell2 {P : Program} {fn : Func} {r k : Nat} {t : TypeId} {tmps : Array Value} {w : World} {g : Nat} {v : Value} (h : fn.results = #[.cell r t, .tmp k]) (hr : tmps.getD r undef = .pointer (some ⟨g, 0, none⟩)) (hl : (loadVar t ⟨g, 0, none⟩).run P w = .ok v w) :
    (results fn tmps).run P w = .ok (.tuple #[v, tmps.getD k undef]) w := by
  unfold results
  rw [h]
  simp only [List.mapM_toArray, List.mapM_cons, List.mapM_nil, Sem.run_bind, Sem.run_pure, Sem.run_map, Result.andThen_ok, hr, asAddr, hl]
  rfl
end Go.Proofs.Ytlipkplomndjcaa
namespace Go.Proofs.Ytlipkplomndjcaa
open Go.RowKit
set_option linter.unusedVariables false
set_option maxRecDepth 100000
/-- a value of so many ints -/
def aggI (b : List Int) : Value := .agg (ints b).toArray
def bg (b : List Int) (j : Nat) : Int := b.getD j 0
/-- the dark bars and the lit ones of a place -/
def bF (b : List Int) (k : Nat) : Int × Int := (bg b (6 + k), bg b (12 + k))
theorem ints_get {b : List Int} {j : Nat} (h : j < b.length) : (ints b).toArray[j]? = some (.int .i64 (bg b j)) := by
  simp [ints, h, bg]
/-- the cells of a Bench's box, behind whatever was made behind it -/
theorem bench_cell {w w1 : World} {b : List Int} {t : TypeId} (hb : Below (w.alloc (.cells (ints b).toArray t)).heap.size (w.alloc (.cells (ints b).toArray t)) w1) {j : Nat} (h : j < b.length) :
    w1.cell? ⟨w.heap.size, j, none⟩ = some (.int .i64 (bg b j)) := (box_after hb).1 j _ (ints_get h)
theorem bench_range {w w1 : World} {b : List Int} {t : TypeId} (hb : Below (w.alloc (.cells (ints b).toArray t)).heap.size (w.alloc (.cells (ints b).toArray t)) w1) :
    w1.rangeAt w.heap.size 0 (ints b) := fun j v h => by rw [Nat.zero_add]; exact (box_after hb).1 j v (by simpa using h)
theorem loadBench {w : World} {g : Nat} {b : List Int} (h : w.rangeAt g 0 (ints b)) (hb : b.length = 19) : (Instr.loadAt 67 (.pointer (some ⟨g, 0, none⟩))).run Try.prog w = .ok (.agg (ints b).toArray) w :=
  run_loadAt_mid w g 0 _ (ints b) _ h Try.underlying67 rfl (by rw [show (ints b).length = 19 by simp [ints, hb]]; kernel_rfl)
theorem wpList_loadB {ops : Array Oper} {rest : List Oper} {op : Oper} {a : Act} {w : World} {Q : Exit → Act → World → Prop} (hw : Region.wanted op (yielded ops a.tmps) = true) (x : Operand) (ho : op.op = .load 67 x)
    (g : Nat) (hx : a.eval x = .pointer (some ⟨g, 0, none⟩)) (b : List Int) (hc : w.rangeAt g 0 (ints b)) (hb : b.length = 19)
    (h : wpList Try.prog ops Q rest (a.put op.dst (.agg (ints b).toArray)) w) : wpList Try.prog ops Q (op :: rest) a w :=
  wpList_load_want hw _ x ho g 0 hx (ints b) _ hc Try.underlying67 rfl (by rw [show (ints b).length = 19 by simp [ints, hb]]; kernel_rfl) h
theorem wpList_load6 {ops : Array Oper} {rest : List Oper} {op : Oper} {a : Act} {w : World} {Q : Exit → Act → World → Prop} (hw : Region.wanted op (yielded ops a.tmps) = true) (x : Operand) (ho : op.op = .load 65 x)
    (g o : Nat) (hx : a.eval x = .pointer (some ⟨g, o, none⟩)) (b : List Int) (hc : w.rangeAt g o (ints b)) (hb : b.length = 6)
    (h : wpList Try.prog ops Q rest (a.put op.dst (.agg (ints b).toArray)) w) : wpList Try.prog ops Q (op :: rest) a w :=
  wpList_load_want hw _ x ho g o hx (ints b) _ hc Try.underlying65 rfl (by rw [show (ints b).length = 6 by simp [ints, hb]]; kernel_rfl) h
theorem ints_one {b : List Int} : ∀ v ∈ ints b, v.oneCell' = true := fun v hv => by
  simp only [ints, List.mem_map] at hv
  obtain ⟨x, _, rfl⟩ := hv
  rfl
theorem wpList_store6 {ops : Array Oper} {rest : List Oper} {op : Oper} {a : Act} {w : World} {Q : Exit → Act → World → Prop} (hw : Region.wanted op (yielded ops a.tmps) = true) (x y : Operand) (ho : op.op = .store 65 x y)
    (g o : Nat) (b : List Int) (hx : a.eval x = .pointer (some ⟨g, o, none⟩)) (hy : a.eval y = .agg (ints b).toArray) (ht : w.there g o 6) (hb : b.length = 6)
    (h : wpList Try.prog ops Q rest (a.put op.dst undef) (w.setCells g o (ints b))) : wpList Try.prog ops Q (op :: rest) a w :=
  wpList_store_want hw _ x y ho g o (ints b) hx hy (by rw [show (ints b).length = 6 by simp [ints, hb]]; exact ht) (by rw [show (ints b).length = 6 by simp [ints, hb]]; kernel_rfl) ints_one h
theorem wpList_storeB {ops : Array Oper} {rest : List Oper} {op : Oper} {a : Act} {w : World} {Q : Exit → Act → World → Prop} (hw : Region.wanted op (yielded ops a.tmps) = true) (x y : Operand) (ho : op.op = .store 67 x y)
    (g : Nat) (b : List Int) (hx : a.eval x = .pointer (some ⟨g, 0, none⟩)) (hy : a.eval y = .agg (ints b).toArray) (ht : w.there g 0 19) (hb : b.length = 19)
    (h : wpList Try.prog ops Q rest (a.put op.dst undef) (w.setCells g 0 (ints b))) : wpList Try.prog ops Q (op :: rest) a w :=
  wpList_store_want hw _ x y ho g 0 (ints b) hx hy (by rw [show (ints b).length = 19 by simp [ints, hb]]; exact ht) (by rw [show (ints b).length = 19 by simp [ints, hb]]; kernel_rfl) ints_one h
theorem loadVarB {w : World} {g : Nat} {b : List Int} (h : w.rangeAt g 0 (ints b)) (hb : b.length = 19) : (loadVar 67 ⟨g, 0, none⟩).run Try.prog w = .ok (aggI b) w :=
  run_loadVar_mid w g 0 _ (ints b) _ h Try.underlying67 rfl (by rw [show (ints b).length = 19 by simp [ints, hb]]; kernel_rfl)
def fsB (b : List Int) : List (Int × Int) := (List.range 6).map (bF b)
def goodAt (b : List Int) (k : Nat) : Bool := cellB (bg b k) && fB (bF b k)
def goodTo (b : List Int) (n : Nat) : Bool := (List.range n).all (goodAt b)
def goodB (b : List Int) : Bool := goodTo b 6 && inB (bg b 18) 0 1000
theorem goodTo_succ (b : List Int) (n : Nat) : goodTo b (n + 1) = (goodTo b n && goodAt b n) := by
  unfold goodTo; rw [List.range_succ, List.all_append]; simp
theorem goodTo_bad {b : List Int} {k n : Nat} (hk : k < n) (h : goodAt b k = false) : goodTo b n = false := by
  unfold goodTo
  rw [Bool.eq_false_iff]; intro h2
  rw [List.all_eq_true] at h2
  rw [h2 k (List.mem_range.2 hk)] at h; cases h
theorem take_range {b : List Int} {n : Nat} (h : n ≤ b.length) : b.take n = (List.range n).map (bg b) := by
  apply List.ext_getElem?
  intro i
  rw [List.getElem?_take, List.getElem?_map]
  by_cases hi : i < n
  · rw [if_pos hi, List.getElem?_range hi, List.getElem?_eq_getElem (by omega)]
    simp [bg, show i < b.length by omega]
  · rw [if_neg hi, List.getElem?_eq_none (by simp; omega)]; rfl
theorem goodB_eq {b : List Int} (hb : b.length = 19) : goodB b = ((rowB (b.take 6) && (fsB b).all fB) && inB (bg b 18) 0 1000) := by
  unfold goodB goodTo rowB fsB
  congr 1
  rw [take_range (by omega), decide_eq_true (by simp), Bool.true_and, List.all_map, List.all_map, Bool.eq_iff_iff]
  simp only [Bool.and_eq_true, List.all_eq_true, goodAt, Function.comp]
  exact ⟨fun h => ⟨fun x hx => (h x hx).1, fun x hx => (h x hx).2⟩, fun h x hx => ⟨h.1 x hx, h.2 x hx⟩⟩
theorem l12Fault_c (b : List Int) (k : Nat) (w : World) (hb : b.length = 19) (hk : k < 6) :
    Calls Try.prog 154 #[aggI b, .int .i64 (k : Int)] w fun e w' => e = .returned (.agg #[.int .i64 (bF b k).1, .int .i64 (bF b k).2]) ∧ Below w.heap.size w w' := by
  unfold aggI bF
  have g1 := bench_cell (w := w) (b := b) (t := 67) (below_one (.cells #[.int .i64 0, .int .i64 0] 42)) (j := 6 + k) (by omega)
  have g2 := bench_cell (w := w) (b := b) (t := 67) (below_one (.cells #[.int .i64 0, .int .i64 0] 42)) (j := 12 + k) (by omega)
  go_enter Try.func154, Try.ntmps154
  go_wp2
  go_region
  go_wp2
  exact bodyPost_ret (v := .agg #[.int .i64 (bg b (6 + k)), .int .i64 (bg b (12 + k))]) (by simp [results, Try.results154, go_sem]) rfl ⟨rfl, by (repeat (first | exact Below.refl _ _ | exact (Below.refl _ _).drew | assumption | exact below_one _ | refine Below.chain ?_ (by assumption) | refine Below.drew ?_ | refine Below.alc ?_ _ | refine below_drewN ?_ | (refine Below.setCell ?_ ?_ _) | exact Nat.le_refl _ | (simp; done) | (simp; omega)))⟩
theorem bfault_c (b : List Int) (k : Nat) (w : World) (hb : b.length = 19) (hk : k < 6) :
    Calls Try.prog 152 #[aggI b, .int .i64 (k : Int)] w fun e w' => e = .returned (.agg #[.int .i64 (bF b k).1, .int .i64 (bF b k).2]) ∧ Below w.heap.size w w' := by
  unfold aggI bF
  have g1 := bench_cell (w := w) (b := b) (t := 67) (below_one (.cells #[.int .i64 0, .int .i64 0] 42)) (j := 6 + k) (by omega)
  have g2 := bench_cell (w := w) (b := b) (t := 67) (below_one (.cells #[.int .i64 0, .int .i64 0] 42)) (j := 12 + k) (by omega)
  go_enter Try.func152, Try.ntmps152
  go_wp2
  go_region
  go_wp2
  exact bodyPost_ret (v := .agg #[.int .i64 (bg b (6 + k)), .int .i64 (bg b (12 + k))]) (by simp [results, Try.results152, go_sem]) rfl ⟨rfl, by (repeat (first | exact Below.refl _ _ | exact (Below.refl _ _).drew | assumption | exact below_one _ | refine Below.chain ?_ (by assumption) | refine Below.drew ?_ | refine Below.alc ?_ _ | refine below_drewN ?_ | (refine Below.setCell ?_ ?_ _) | exact Nat.le_refl _ | (simp; done) | (simp; omega)))⟩
theorem l12Good_c (b : List Int) (w : World) (hb : b.length = 19) :
    Calls Try.prog 121 #[aggI b] w fun e w' => e = .returned (.bool (goodB b)) ∧ Below w.heap.size w w' := by
  unfold aggI
  have HW : Hid (∀ wr, Below (w.alloc (.cells (ints b).toArray 67)).heap.size (w.alloc (.cells (ints b).toArray 67)) wr → Below w.heap.size w wr) := fun wr h => Below.chain (below_one _) h
  go_enter Try.func121, Try.ntmps121
  go_wp2
  generalize hwb : w.alloc (.cells (ints b).toArray 67) = wb at *
  go_loopw [3] (fun j wr => ∃ k : Nat, k ≤ 6 ∧ j = .int .i64 (k : Int) ∧ goodTo b k = true ∧ Below wb.heap.size wb wr) (fun j _ => 7 - (intOf j).toNat)
  case atStart => exact ⟨0, by omega, rfl, rfl, Below.refl _ _⟩
  case round =>
    obtain ⟨k, hk, rfl, hgt, hbw⟩ := hrel
    have hbr := hbw
    subst hwb
    by_cases hlt : k < 6
    · have hd : decide ((k : Int) < 6) = true := by simp; omega
      have g0 := bench_cell hbw (j := k) (by omega)
      have HS := Lib.hid (goodTo_succ b k)
      have HB := Lib.hid (fun h => goodTo_bad (b := b) (n := 6) hlt h)
      go_wp2_with fail
      refine (l2Cell_c _ _).mono ?_
      rintro e w2 ⟨rfl, rfl⟩
      rcases hq : cellB (bg b k) with _ | _
      · have hF : goodB b = false := by unfold goodB; rw [HB.out (by unfold goodAt; rw [hq]; rfl)]; rfl
        have HF := Lib.hid hF; clear hF
        go_wp2
        go_ret
        exact ⟨by rw [HF.out]; rfl, HW.out _ hbr⟩
      · have hr := bench_range hbw
        go_wp2_with (refine wpList_loadB rfl _ rfl _ rfl b hr hb ?_)
        refine (l12Fault_c b k _ hb hlt).mono ?_
        rintro e w3 ⟨rfl, hb3⟩
        have hb4 := Below.chain hbr hb3
        clear hb3 hbr hr g0
        go_wp2_with fail
        refine (l3Fault_c _ _ _).mono ?_
        rintro e w4 ⟨rfl, hb5⟩
        have hb6 := Below.chain hb4 hb5
        clear hb4 hb5
        rcases hq2 : faultB (bF b k).1 (bF b k).2 with _ | _
        · have hF : goodB b = false := by unfold goodB; rw [HB.out (by unfold goodAt fB; rw [hq2, Bool.and_false])]; rfl
          have HF := Lib.hid hF; clear hF
          go_wp2
          go_ret
          exact ⟨by rw [HF.out]; rfl, HW.out _ hb6⟩
        · have hF : goodTo b (k + 1) = true := by rw [HS.out, hgt]; unfold goodAt fB; rw [hq, hq2]; rfl
          have HF := Lib.hid hF; clear hF
          go_wp2
          go_roundw
          case rel => exact ⟨k + 1, by omega, by go_num, HF.out, hb6⟩
          case measure => simp [intOf]; omega
    · obtain rfl : k = 6 := by omega
      have g0 := bench_cell hbw (j := 18) (by omega)
      have hF : goodB b = inB (bg b 18) 0 1000 := by unfold goodB; rw [hgt]; rfl
      have HF := Lib.hid hF; clear hF
      go_wp2_with fail
      refine (l1In_c _ _ _ _).mono ?_
      rintro e w2 ⟨rfl, rfl⟩
      go_wp2
      go_ret
      exact ⟨by rw [HF.out]; rfl, HW.out _ hbr⟩
def fsTo (b : List Int) (n : Nat) : List (Int × Int) := (List.range n).map (bF b)
theorem fsTo_succ (b : List Int) (n : Nat) : fsTo b (n + 1) = fsTo b n ++ [bF b n] := by unfold fsTo; rw [List.range_succ, List.map_append]; rfl
theorem fsTo_len (b : List Int) (n : Nat) : (fsTo b n).length = n := by simp [fsTo]
theorem faults_c (b : List Int) (w : World) (hb : b.length = 19) :
    Calls Try.prog 127 #[aggI b] w fun e w' => ∃ u, e = .returned u ∧ w'.ownsRow w.heap.size 42 2 u 6 (flat2 (fsB b)) ∧ Below w.heap.size w w' := by
  unfold aggI
  obtain ⟨i, hi, hz0, hz1, hz2⟩ := info_parts info_Fault
  have HW : Hid (∀ wr, Below (w.alloc (.cells (ints b).toArray 67)).heap.size (w.alloc (.cells (ints b).toArray 67)) wr → Below w.heap.size w wr) := fun wr h => Below.chain (below_one _) h
  go_enter Try.func127, Try.ntmps127
  go_wp2
  generalize hwb : w.alloc (.cells (ints b).toArray 67) = wb at *
  have hwz : w.heap.size + 1 = wb.heap.size := by rw [← hwb]; simp
  go_loopw [3, 5] (fun o j wr => ∃ k : Nat, k ≤ 6 ∧ j = .int .i64 (k : Int) ∧ wr.ownsRow wb.heap.size 42 2 o k (flat2 (fsTo b k)) ∧ Below wb.heap.size wb wr) (fun _ j _ => 7 - (intOf j).toNat)
  case atStart => exact ⟨0, by omega, rfl, World.ownsRow_nil _ _ _ _, Below.refl _ _⟩
  case round =>
    obtain ⟨k, hk, rfl, ho, hbw⟩ := hrel
    by_cases hlt : k < 6
    · have hd : decide ((k : Int) < 6) = true := by simp; omega
      have hr : wr.rangeAt w.heap.size 0 (ints b) := by subst hwb; exact bench_range hbw
      obtain ⟨f1, f2, hf⟩ : ∃ f1 f2, bF b k = (f1, f2) := ⟨_, _, rfl⟩
      have hs := fsTo_succ b k
      rw [hf] at hs
      have HS := Lib.hid hs; have HF := Lib.hid hf; clear hs hf
      go_wp2_with (refine wpList_loadB rfl _ rfl _ rfl b hr hb ?_)
      refine (bfault_c b k _ hb hlt).mono ?_
      rintro e w3 ⟨he, hb3⟩
      rw [HF.out] at he
      subst he
      have hb4 := Below.chain hbw hb3
      have ho4 := own_keep ho hb3
      clear hb3 hbw hr ho HF
      go_wp2_with (at_builtin; refine wpList_append_own_at _ rfl _ _ 27 rfl wb.heap.size 42 i (.agg #[.int .i64 0, .int .i64 0]) 2 16 Try.underlying27 hi hz0 hz1 hz2 rfl (by decide) _ k (flat2 (fsTo b k)) rfl (ho4.alloc _) ⟨w3.heap.size, 0, none⟩ 1 1 [.int .i64 f1, .int .i64 f2] rfl rfl (news_new _ [.int .i64 f1, .int .i64 f2] _) (by simp [Value.oneCell']) (by unfold maxLen; omega) (by omega) (by have := hb4.size; simp; omega) ?_)
      intro v' w4 ho5 hg5 _ _
      have hb7 : Below wb.heap.size wb w4 := (Below.alc hb4 _).grown hg5 (by have := hb4.size; simp; omega) (fun g hg => (ho4.lt g hg).1)
      clear ho4 hb4 hg5
      go_wp2
      go_roundw
      case rel => exact ⟨k + 1, by omega, by go_num, by rw [HS.out]; exact ownsRow_cast ho5 rfl (flat2_snoc _ _ _).symm, hb7⟩
      case measure => simp [intOf]; omega
    · obtain rfl : k = 6 := by omega
      go_wp2
      go_ret
      exact ⟨_, rfl, own_lo ho (by omega), HW.out _ hbw⟩
theorem ints_box {w w1 : World} {b : List Int} {t : TypeId} (hb : Below (w.alloc (.cells (ints b).toArray t)).heap.size (w.alloc (.cells (ints b).toArray t)) w1) {n : Nat} (h : n ≤ b.length) (hm : b.length ≤ 1000) (c : Nat) (hc : n ≤ c) (hcm : c ≤ 1000) :
    Ints w1 (.slice (some ⟨w.heap.size, 0, none⟩) n c) (b.take n) := by
  have hl : (b.take n).length = n := by rw [List.length_take]; omega
  refine ⟨_, _, by rw [hl], by rw [hl]; exact hc, by unfold maxLen; omega, by simp, fun _ => ⟨_, _, rfl, fun j hj => ?_⟩⟩
  rw [hl] at hj
  rw [Nat.zero_add, bench_cell hb (by omega), List.getElem?_map, List.getElem?_take, if_pos (by omega), List.getElem?_eq_getElem (by omega)]
  simp [bg, show j < b.length by omega]
theorem IsBench_c (b : List Int) (w : World) (hb : b.length = 19) :
    Calls Try.prog 66 #[aggI b] w fun e w' => e = .returned (.bool (goodB b)) ∧ Below w.heap.size w w' := by
  unfold aggI
  have hcl : CallsIt 32 := fun bs w => by kernel_rfl
  have HW : Hid (∀ wr, Below (w.alloc (.cells (ints b).toArray 67)).heap.size (w.alloc (.cells (ints b).toArray 67)) wr → Below w.heap.size w wr) := fun wr h => Below.chain (below_one _) h
  have hI := ints_box (w := w) (b := b) (t := 67) (Below.refl _ _) (n := 6) (by omega) (by omega) 6 (by omega) (by omega)
  have HG := Lib.hid (goodB_eq hb)
  go_enter Try.func66, Try.ntmps66
  go_wp2_with fail
  refine (IsRow_c _ _ _ hI).mono ?_
  rintro e w2 ⟨rfl, hb2⟩
  have hr := bench_range hb2
  have g18 := bench_cell hb2 (j := 18) (by omega)
  rcases hq : rowB (b.take 6) with _ | _
  · have HF := Lib.hid (show goodB b = false by rw [HG.out, hq]; rfl)
    clear HG hI
    go_wp2
    go_ret
    exact ⟨by rw [HF.out]; rfl, HW.out _ hb2⟩
  · go_wp2_with (refine wpList_loadB rfl _ rfl _ rfl b hr hb ?_)
    refine (faults_c b _ hb).mono ?_
    rintro e w3 ⟨u, rfl, ho, hb3⟩
    have hb4 := Below.chain hb2 hb3
    have g18' := bench_cell hb4 (j := 18) (by omega)
    clear g18 hb2 hb3 hr hI
    have hP : Pairs w3 u (fsB b) := Pairs.of_own ho
    clear ho
    go_wp2_with fail
    refine (areAllFault_c _ (fsB b) 32 fB _ hP hcl (fun x w' => IsFault_c x.1 x.2 w')).mono ?_
    rintro e w4 ⟨rfl, hb5⟩
    have hb6 := Below.chain hb4 hb5
    have g18 := bench_cell hb6 (j := 18) (by omega)
    clear g18' hb4 hb5 hP
    rcases hq2 : (fsB b).all fB with _ | _
    · have HF := Lib.hid (show goodB b = false by rw [HG.out, hq, hq2]; rfl)
      clear HG
      go_wp2
      go_ret
      exact ⟨by rw [HF.out]; rfl, HW.out _ hb6⟩
    · have HF := Lib.hid (show goodB b = inB (bg b 18) 0 1000 by rw [HG.out, hq, hq2]; rfl)
      clear HG
      go_wp2_with fail
      refine (within_c _ _ _ _).mono ?_
      rintro e w5 ⟨rfl, rfl⟩
      go_wp2
      go_ret
      exact ⟨by rw [HF.out]; rfl, HW.out _ hb6⟩
end Go.Proofs.Ytlipkplomndjcaa
namespace Go.Proofs.Ytlipkplomndjcaa
open Go.RowKit
set_option linter.unusedVariables false
set_option maxRecDepth 100000
theorem len6 {b : List Int} (h : b.length = 6) : ∃ x0 x1 x2 x3 x4 x5, b = [x0, x1, x2, x3, x4, x5] := by
  match b, h with
  | [x0, x1, x2, x3, x4, x5], _ => exact ⟨x0, x1, x2, x3, x4, x5, rfl⟩
/-- six of the ints -/
def pt (b : List Int) (o : Nat) : List Int := (b.drop o).take 6
theorem part6 {w : World} {g : Nat} {b : List Int} (h : w.rangeAt g 0 (ints b)) (o : Nat) : w.rangeAt g o (ints (pt b o)) := by
  have := range_sub h o 6
  rw [Nat.zero_add] at this
  simpa [ints, pt, List.map_take, List.map_drop] using this
theorem part6_len {b : List Int} (h : b.length = 19) {o : Nat} (ho : o ≤ 12) : (pt b o).length = 6 := by simp [pt, h]; omega
theorem cell18 {w : World} {g : Nat} {b : List Int} (h : w.rangeAt g 0 (ints b)) {j : Nat} (hj : j < b.length) : w.cell? ⟨g, j, none⟩ = some (.int .i64 (bg b j)) := by
  have := h j (.int .i64 (bg b j)) (by have := ints_get hj; simpa using this)
  rwa [Nat.zero_add] at this
theorem pt_join {b : List Int} (h : b.length = 19) : ints b = ((ints (pt b 0) ++ ints (pt b 6)) ++ ints (pt b 12)) ++ [.int .i64 (bg b 18)] := by
  have : b = ((pt b 0 ++ pt b 6) ++ pt b 12) ++ [bg b 18] := by
    match b, h with
    | [_, _, _, _, _, _, _, _, _, _, _, _, _, _, _, _, _, _, _], _ => rfl
  conv => lhs; rw [this]
  simp [ints]
/-- a new Bench -/
def zB : Obj := .cells #[.int .i64 0, .int .i64 0, .int .i64 0, .int .i64 0, .int .i64 0, .int .i64 0, .int .i64 0, .int .i64 0, .int .i64 0, .int .i64 0, .int .i64 0, .int .i64 0, .int .i64 0, .int .i64 0, .int .i64 0, .int .i64 0, .int .i64 0, .int .i64 0, .int .i64 0] 67
end Go.Proofs.Ytlipkplomndjcaa
namespace Go.Proofs.Ytlipkplomndjcaa
open Go.RowKit
set_option linter.unusedVariables false
set_option maxRecDepth 100000
def shAt (b : List Int) (k : Nat) : Int := shC (bF b k).1 (bF b k).2 (bg b k)
def shTo (b : List Int) (n : Nat) : List Int := (List.range n).map (shAt b)
theorem shTo_succ (b : List Int) (n : Nat) : shTo b (n + 1) = shTo b n ++ [shAt b n] := by unfold shTo; rw [List.range_succ, List.map_append]; rfl
theorem shTo_len (b : List Int) (n : Nat) : (shTo b n).length = n := by simp [shTo]
theorem take_succ_bg {b : List Int} {n : Nat} (h : n < b.length) : b.take (n + 1) = b.take n ++ [bg b n] := by
  rw [take_snoc (List.getElem?_eq_getElem h)]; simp [bg, h]
theorem goodB_at {b : List Int} (h : goodB b = true) {k : Nat} (hk : k < 6) : (0 ≤ (bF b k).1 ∧ (bF b k).1 ≤ 127 ∧ 0 ≤ (bF b k).2 ∧ (bF b k).2 ≤ 127) ∧ 0 ≤ bg b k ∧ bg b k ≤ 127 := by
  unfold goodB goodTo at h
  simp only [Bool.and_eq_true, List.all_eq_true, List.mem_range] at h
  have := h.1 k hk
  unfold goodAt fB at this
  simp only [Bool.and_eq_true] at this
  have h1 := faultB_true this.2
  exact ⟨⟨h1.1, h1.2.1, h1.2.2.1, h1.2.2.2.1⟩, cellB_true this.1⟩
theorem index6_0 (x0 x1 x2 x3 x4 x5 : Int) (w : World) : (Instr.index 65 (.agg #[.int .i64 x0, .int .i64 x1, .int .i64 x2, .int .i64 x3, .int .i64 x4, .int .i64 x5]) (.int .i64 0)).run Try.prog w = .ok (.int .i64 x0) w := by kernel_rfl
theorem index6_1 (x0 x1 x2 x3 x4 x5 : Int) (w : World) : (Instr.index 65 (.agg #[.int .i64 x0, .int .i64 x1, .int .i64 x2, .int .i64 x3, .int .i64 x4, .int .i64 x5]) (.int .i64 1)).run Try.prog w = .ok (.int .i64 x1) w := by kernel_rfl
theorem index6_2 (x0 x1 x2 x3 x4 x5 : Int) (w : World) : (Instr.index 65 (.agg #[.int .i64 x0, .int .i64 x1, .int .i64 x2, .int .i64 x3, .int .i64 x4, .int .i64 x5]) (.int .i64 2)).run Try.prog w = .ok (.int .i64 x2) w := by kernel_rfl
theorem index6_3 (x0 x1 x2 x3 x4 x5 : Int) (w : World) : (Instr.index 65 (.agg #[.int .i64 x0, .int .i64 x1, .int .i64 x2, .int .i64 x3, .int .i64 x4, .int .i64 x5]) (.int .i64 3)).run Try.prog w = .ok (.int .i64 x3) w := by kernel_rfl
theorem index6_4 (x0 x1 x2 x3 x4 x5 : Int) (w : World) : (Instr.index 65 (.agg #[.int .i64 x0, .int .i64 x1, .int .i64 x2, .int .i64 x3, .int .i64 x4, .int .i64 x5]) (.int .i64 4)).run Try.prog w = .ok (.int .i64 x4) w := by kernel_rfl
theorem index6_5 (x0 x1 x2 x3 x4 x5 : Int) (w : World) : (Instr.index 65 (.agg #[.int .i64 x0, .int .i64 x1, .int .i64 x2, .int .i64 x3, .int .i64 x4, .int .i64 x5]) (.int .i64 5)).run Try.prog w = .ok (.int .i64 x5) w := by kernel_rfl
theorem index6 {b : List Int} (hb : b.length = 6) {k : Nat} (hk : k < 6) (w : World) : (Instr.index 65 (.agg (ints b).toArray) (.int .i64 (k : Int))).run Try.prog w = .ok (.int .i64 (bg b k)) w := by
  obtain ⟨x0, x1, x2, x3, x4, x5, rfl⟩ := len6 hb
  have h : k = 0 ∨ k = 1 ∨ k = 2 ∨ k = 3 ∨ k = 4 ∨ k = 5 := by omega
  rcases h with rfl | rfl | rfl | rfl | rfl | rfl
  · exact index6_0 x0 x1 x2 x3 x4 x5 w
  · exact index6_1 x0 x1 x2 x3 x4 x5 w
  · exact index6_2 x0 x1 x2 x3 x4 x5 w
  · exact index6_3 x0 x1 x2 x3 x4 x5 w
  · exact index6_4 x0 x1 x2 x3 x4 x5 w
  · exact index6_5 x0 x1 x2 x3 x4 x5 w
theorem bg_pt {b : List Int} (h : b.length = 19) {k : Nat} (hk : k < 6) : bg (pt b 0) k = bg b k := by
  unfold bg pt; simp [hk]
theorem shown_b_c (b : List Int) (w : World) (hb : b.length = 19) (hg : goodB b = true) :
    Calls Try.prog 125 #[aggI b] w fun e w' => ∃ u, e = .returned u ∧ w'.ownsRow w.heap.size 3 1 u (shTo b 6).length (ints (shTo b 6)) ∧ Below w.heap.size w w' := by
  unfold aggI
  obtain ⟨i, hi, hz0, hz1, hz2⟩ := info_parts info_int
  have HW : Hid (∀ wr, Below (w.alloc (.cells (ints b).toArray 67)).heap.size (w.alloc (.cells (ints b).toArray 67)) wr → Below w.heap.size w wr) := fun wr h => Below.chain (below_one _) h
  have r0 := range_new w (ints b) 67
  have p1 := part6_len hb (o := 0) (by decide)
  go_enter Try.func125, Try.ntmps125
  go_wp2_with (refine wpList_load6 rfl _ rfl _ _ rfl _ (part6 r0 0) p1 ?_)
  generalize hwb : w.alloc (.cells (ints b).toArray 67) = wb at *
  have hwz : w.heap.size + 1 = wb.heap.size := by rw [← hwb]; simp
  go_loopw [3, 8] (fun o j wr => ∃ k : Nat, k ≤ 6 ∧ j = .int .i64 (k : Int) ∧ wr.ownsRow wb.heap.size 3 1 o k (ints (shTo b k)) ∧ Below wb.heap.size wb wr) (fun _ j _ => 7 - (intOf j).toNat)
  case atStart => exact ⟨0, by omega, rfl, World.ownsRow_nil _ _ _ _, Below.refl _ _⟩
  case round =>
    obtain ⟨k, hk, rfl, ho, hbw⟩ := hrel
    by_cases hlt : k < 6
    · have hd : decide ((k : Int) < 6) = true := by simp; omega
      have hr : wr.rangeAt w.heap.size 0 (ints b) := range_below r0 hbw
      have hix := fun w => index6 p1 hlt w
      have HP := Lib.hid (bg_pt hb hlt)
      have HS := Lib.hid (shTo_succ b k)
      have bd := goodB_at hg hlt
      go_wp2_with (refine wpList_loadB rfl _ rfl _ rfl b hr hb ?_)
      refine (bfault_c b k _ hb hlt).mono ?_
      rintro e w3 ⟨rfl, hb3⟩
      have hb4 := Below.chain hbw hb3
      have ho4 := own_keep ho hb3
      clear hb3 hbw hr ho
      rw [HP.out]
      go_wp2_with fail
      refine (shown_c (bF b k).1 (bF b k).2 (bg b k) bd.1.1 bd.1.2.1 bd.1.2.2.1 bd.1.2.2.2 bd.2.1 bd.2.2 _).mono ?_
      rintro e w4 ⟨rfl, hb5⟩
      have hb6 := Below.chain hb4 hb5
      have ho6 := own_keep ho4 hb5
      clear hb4 hb5 ho4
      have hX : shC (bF b k).1 (bF b k).2 (bg b k) = shAt b k := rfl
      rw [hX]
      clear hX
      generalize shAt b k = X at *
      go_wp2_with (at_builtin; refine wpList_append_own_at _ rfl _ _ 24 rfl wb.heap.size 3 i (.int .i64 0) 1 8 Try.underlying24 hi hz0 hz1 hz2 rfl (by decide) _ k (ints (shTo b k)) rfl (ho6.alloc _) ⟨w4.heap.size, 0, none⟩ 1 1 [.int .i64 X] rfl rfl (news_new _ [.int .i64 X] _) (by simp [Value.oneCell']) (by unfold maxLen; omega) (by omega) (by have := hb6.size; simp; omega) ?_)
      intro v' w5 ho5 hg5 _ _
      have hb7 : Below wb.heap.size wb w5 := (Below.alc hb6 _).grown hg5 (by have := hb6.size; simp; omega) (fun g hg => (ho6.lt g hg).1)
      clear ho6 hb6 hg5
      go_wp2
      go_roundw
      case rel => exact ⟨k + 1, by omega, by go_num, by rw [HS.out]; exact ownsRow_cast ho5 rfl (by simp), hb7⟩
      case measure => simp [intOf]; omega
    · obtain rfl : k = 6 := by omega
      go_wp2
      go_ret
      exact ⟨_, rfl, own_lo (ownsRow_cast ho (shTo_len b 6).symm rfl) (by omega), HW.out _ hbw⟩
theorem ints_cells {w : World} {ad : Addr} {n c : Nat} {xs : List Int} (h : Ints w (.slice (some ad) n c) xs) : ∀ j u, (ints xs)[j]? = some u → w.cell? (ad.add j) = some u := by
  intro j u hu
  obtain ⟨a, c', e, _, _, HC⟩ := h.parts
  simp only [ints, List.getElem?_map, Option.map_eq_some_iff] at hu
  obtain ⟨x, hx, rfl⟩ := hu
  obtain ⟨b, off, e2, hc⟩ := HC.out j x hx
  injection e with e1 e3 e4
  rw [e2] at e1
  injection e1 with e5
  subst e5
  rw [Addr.add_lit]; exact hc
theorem Clone_c (v : Value) (xs : List Int) (w : World) (hv : Ints w v xs) (hn : xs.length ≤ 1048576) :
    Calls Try.prog 123 #[v] w fun e w' => ∃ u, e = .returned u ∧ w'.ownsRow w.heap.size 3 1 u xs.length (ints xs) ∧ Below w.heap.size w w' := by
  obtain ⟨i, hi, hz0, hz1, hz2⟩ := info_parts info_int
  have hv0 := hv
  obtain ⟨a, c, rfl, _, _, _⟩ := hv.parts
  cases a with
  | none =>
    have hx : xs = [] := by
      obtain ⟨a', c', e, _, _, HC⟩ := hv0.parts
      cases xs with
      | nil => rfl
      | cons x t =>
        obtain ⟨b, off, e2, _⟩ := HC.out 0 x rfl
        injection e with e1
        rw [e2] at e1; cases e1
    subst hx
    have hnil := fun (w : World) => Lib.run_eql_slice_nil (P := Try.prog) w 24 3 none 0 c 0 0 Try.underlying24
    simp only [List.length_nil, List.map_nil]
    go_enter Try.func123, Try.ntmps123
    go_wp2
    go_ret
    exact ⟨_, rfl, World.ownsRow_nil _ _ _ _, by (repeat (first | exact Below.refl _ _ | exact (Below.refl _ _).drew | assumption | exact below_one _ | refine Below.chain ?_ (by assumption) | refine Below.drew ?_ | refine Below.alc ?_ _ | refine below_drewN ?_ | (refine Below.setCell ?_ ?_ _) | exact Nat.le_refl _ | (simp; done) | (simp; omega)))⟩
  | some ad =>
    have hc := ints_cells (hv.below (below_one (.cells #[] 3)))
    have ho0 := World.ownsRow_lit (e := 3) (size := 1) (base := w.heap.size) w #[] 0 (Nat.le_refl _) (by decide) rfl
    have HC := Lib.hid hc
    clear hc hv hv0
    have hnil := fun (w : World) => Lib.run_eql_slice_nil (P := Try.prog) w 24 3 (some ad) xs.length c 0 0 Try.underlying24
    go_enter Try.func123, Try.ntmps123
    go_wp2_with (at_builtin; refine wpList_append_own_at _ rfl _ _ 24 rfl w.heap.size 3 i (.int .i64 0) 1 8 Try.underlying24 hi hz0 hz1 hz2 rfl (by decide) _ 0 [] rfl ho0 ad xs.length c (ints xs) rfl (by simp) HC.out ints_one (by unfold maxLen; omega) (by omega) (by simp) ?_)
    intro v' w1 ho1 hg1 _ _
    have hb1 : Below w.heap.size w w1 := (below_one _).grown hg1 (by simp) (fun g hg => (ho0.lt g hg).1)
    go_wp2
    go_ret
    exact ⟨_, rfl, ownsRow_cast ho1 (by simp) (by simp), hb1⟩
/-- the cells of a Bench, sent or shown -/
def rowOf (b : List Int) (s : Bool) (n : Nat) : List Int := if s then shTo b n else b.take n
theorem rowOf_len {b : List Int} (hb : b.length = 19) (s : Bool) {n : Nat} (h : n ≤ 6) : (rowOf b s n).length = n := by
  unfold rowOf; split
  · exact shTo_len _ _
  · rw [List.length_take]; omega
theorem rowOf_succ {b : List Int} (hb : b.length = 19) (s : Bool) {n : Nat} (h : n < 6) : rowOf b s (n + 1) = rowOf b s n ++ [if s then shAt b n else bg b n] := by
  unfold rowOf; split
  · exact shTo_succ _ _
  · exact take_succ_bg (by omega)
theorem range_grown {w w' : World} {g o : Nat} {cs : List Value} {r : Option Nat} (h : w.rangeAt g o cs) (hg : w.grownBy w' r) (hr : some g ≠ r) : w'.rangeAt g o cs := fun j v hv =>
  hg.cell (h j v hv) hr
theorem l12Row_c (b : List Int) (s : Bool) (w : World) (hb : b.length = 19) (hg : goodB b = true) :
    Calls Try.prog 124 #[aggI b, .bool s] w fun e w' => ∃ u, e = .returned u ∧ w'.ownsRow w.heap.size 3 1 u (rowOf b s 6).length (ints (rowOf b s 6)) ∧ Below w.heap.size w w' := by
  unfold aggI
  obtain ⟨i, hi, hz0, hz1, hz2⟩ := info_parts info_int
  have r0 := World.rangeAt_alloc (range_new w (ints b) 67) (.cells #[] 3)
  have ho0 := World.ownsRow_lit (e := 3) (size := 1) (base := w.heap.size + 1) (w.alloc (.cells (ints b).toArray 67)) #[] 0 (by simp) (by decide) rfl
  have hb0 : Below w.heap.size w ((w.alloc (.cells (ints b).toArray 67)).alloc (.cells #[] 3)) := by (repeat (first | exact Below.refl _ _ | exact (Below.refl _ _).drew | assumption | exact below_one _ | refine Below.chain ?_ (by assumption) | refine Below.drew ?_ | refine Below.alc ?_ _ | refine below_drewN ?_ | (refine Below.setCell ?_ ?_ _) | exact Nat.le_refl _ | (simp; done) | (simp; omega)))
  have hw0 : w.heap.size + 1 ≤ ((w.alloc (.cells (ints b).toArray 67)).alloc (.cells #[] 3)).heap.size := by simp
  have HL := Lib.hid (fun n h => rowOf_len hb s (n := n) h)
  go_enter Try.func124, Try.ntmps124
  go_wp2
  generalize (w.alloc (.cells (ints b).toArray 67)).alloc (.cells #[] 3) = wb at *
  simp only [World.size_alloc] at ho0
  go_loopw [5, 6] (fun o j wr => ∃ k : Nat, k ≤ 6 ∧ j = .int .i64 (k : Int) ∧ wr.ownsRow (w.heap.size + 1) 3 1 o k (ints (rowOf b s k)) ∧ Below w.heap.size w wr ∧ wr.rangeAt w.heap.size 0 (ints b) ∧ w.heap.size + 1 ≤ wr.heap.size) (fun _ j _ => 7 - (intOf j).toNat)
  case atStart => exact ⟨0, by omega, rfl, ownsRow_cast ho0 rfl (by cases s <;> simp [rowOf, shTo]), hb0, r0, hw0⟩
  case round =>
    obtain ⟨k, hk, rfl, ho, hbw, hr, hsz⟩ := hrel
    clear ho0 hb0 r0 hw0
    by_cases hlt : k < 6
    · have hd : decide ((k : Int) < 6) = true := by simp; omega
      have g0 := cell18 hr (j := k) (by omega)
      have HS := Lib.hid (rowOf_succ hb s hlt)
      have bd := goodB_at hg hlt
      cases s with
      | false =>
        have HS2 := Lib.hid (show rowOf b false (k + 1) = rowOf b false k ++ [bg b k] from HS.out)
        clear HS
        generalize bg b k = X at *
        go_wp2_with (at_builtin; refine wpList_append_own_at _ rfl _ _ 24 rfl (w.heap.size + 1) 3 i (.int .i64 0) 1 8 Try.underlying24 hi hz0 hz1 hz2 rfl (by decide) _ k (ints (rowOf b false k)) rfl (ho.alloc _) ⟨wr.heap.size, 0, none⟩ 1 1 [.int .i64 X] rfl rfl (news_new _ [.int .i64 X] _) (by simp [Value.oneCell']) (by unfold maxLen; omega) (by omega) (by simp; omega) ?_)
        intro v' w5 ho5 hg5 _ hat
        have hb7 : Below w.heap.size w w5 := (Below.alc hbw _).grown hg5 (by simp; omega) (fun g hg => by have := (ho.lt g hg).1; omega)
        have hr7 := range_grown (World.rangeAt_alloc hr _) hg5 (fun e => by have := (ho.lt _ e.symm).1; omega)
        have hsz7 : w.heap.size + 1 ≤ w5.heap.size := Nat.le_trans (by simp; omega) hg5.size
        clear ho hbw hr hg5 g0
        go_wp2
        go_roundw
        case rel => exact ⟨k + 1, by omega, by go_num, by rw [HS2.out]; exact ownsRow_cast ho5 rfl (by simp), hb7, hr7, hsz7⟩
        case measure => simp [intOf]; omega
      | true =>
        have HS2 := Lib.hid (show rowOf b true (k + 1) = rowOf b true k ++ [shAt b k] from HS.out)
        clear HS
        go_wp2_with (refine wpList_loadB rfl _ rfl _ rfl b hr hb ?_)
        refine (l12Fault_c b k _ hb hlt).mono ?_
        rintro e w3 ⟨rfl, hb3⟩
        have hb4 := Below.chain hbw hb3
        have ho4 := own_keep ho hb3
        have hr4 := range_below hr hb3
        have hsz4 := Nat.le_trans hsz hb3.size
        clear hb3 hbw hr ho g0
        go_wp2_with fail
        refine (l3Shown_c (bF b k).1 (bF b k).2 (bg b k) bd.1.1 bd.1.2.1 bd.1.2.2.1 bd.1.2.2.2 bd.2.1 bd.2.2 _).mono ?_
        rintro e w4 ⟨rfl, hb5⟩
        have hb6 := Below.chain hb4 hb5
        have ho6 := own_keep ho4 hb5
        have hr6 := range_below hr4 hb5
        have hsz6 := Nat.le_trans hsz4 hb5.size
        clear hb4 hb5 ho4 hr4
        have hX : shC (bF b k).1 (bF b k).2 (bg b k) = shAt b k := rfl
        rw [hX]
        clear hX
        generalize shAt b k = X at *
        go_wp2_with (at_builtin; refine wpList_append_own_at _ rfl _ _ 24 rfl (w.heap.size + 1) 3 i (.int .i64 0) 1 8 Try.underlying24 hi hz0 hz1 hz2 rfl (by decide) _ k (ints (rowOf b true k)) rfl (ho6.alloc _) ⟨w4.heap.size, 0, none⟩ 1 1 [.int .i64 X] rfl rfl (news_new _ [.int .i64 X] _) (by simp [Value.oneCell']) (by unfold maxLen; omega) (by omega) (by simp; omega) ?_)
        intro v' w5 ho5 hg5 _ hat
        have hb7 : Below w.heap.size w w5 := (Below.alc hb6 _).grown hg5 (by simp; omega) (fun g hg => by have := (ho6.lt g hg).1; omega)
        have hr7 := range_grown (World.rangeAt_alloc hr6 _) hg5 (fun e => by have := (ho6.lt _ e.symm).1; omega)
        have hsz7 : w.heap.size + 1 ≤ w5.heap.size := Nat.le_trans (by simp; omega) hg5.size
        clear ho6 hb6 hr6 hg5
        go_wp2
        go_roundw
        case rel => exact ⟨k + 1, by omega, by go_num, by rw [HS2.out]; exact ownsRow_cast ho5 rfl (by simp), hb7, hr7, hsz7⟩
        case measure => simp [intOf]; omega
    · obtain rfl : k = 6 := by omega
      go_wp2
      go_ret
      exact ⟨_, rfl, own_lo (ownsRow_cast ho (HL.out 6 (by omega)).symm rfl) (by omega), hbw⟩
/-- what SentRow and BenchRow return -/
def brL (b : List Int) (s : Bool) : List Int := if goodB b then rowOf b s 6 else []
theorem brL_le (b : List Int) (s : Bool) : (brL b s).length ≤ 6 := by
  unfold brL rowOf; split
  · split
    · rw [shTo_len]; omega
    · rw [List.length_take]; omega
  · simp
theorem sSentRow_c (b : List Int) (w : World) (hb : b.length = 19) : Calls Try.prog 63 #[aggI b] w (IntsPost w (brL b false) (goodB b)) := by
  have r0 := range_new w (ints b) 67
  have hb0 := below_one (w := w) (.cells (ints b).toArray 67)
  unfold aggI
  rcases hq : goodB b with _ | _
  · have HL := Lib.hid (show brL b false = [] by simp [brL, hq])
    have HQ := Lib.hid hq; clear hq
    go_enter Try.func63, Try.ntmps63
    go_wp2_with (refine wpList_loadB rfl _ rfl _ rfl b r0 hb ?_)
    refine (l12Good_c b _ hb).mono ?_
    rintro e w1 ⟨rfl, hb1⟩
    rw [HQ.out]
    have hb2 := Below.chain hb0 hb1
    have ho0 := World.ownsRow_lit (e := 3) (size := 1) (base := w.heap.size) w1 #[] 0 hb2.size (by decide) rfl
    go_wp2
    go_ret2
    exact IntsPost.mk' HL.out rfl ho0 (Below.alc hb2 _)
  · have HL := Lib.hid (show brL b false = rowOf b false 6 by simp [brL, hq])
    have HQ := Lib.hid hq
    go_enter Try.func63, Try.ntmps63
    go_wp2_with (refine wpList_loadB rfl _ rfl _ rfl b r0 hb ?_)
    refine (l12Good_c b _ hb).mono ?_
    rintro e w1 ⟨rfl, hb1⟩
    rw [HQ.out]
    have r1 := range_below r0 hb1
    have hb2 := Below.chain hb0 hb1
    go_wp2_with (refine wpList_loadB rfl _ rfl _ rfl b r1 hb ?_)
    refine (l12Row_c b false _ hb hq).mono ?_
    rintro e w2 ⟨u, rfl, ho, hb3⟩
    have hb4 := Below.chain hb2 hb3
    go_wp2
    go_ret2
    exact IntsPost.mk' HL.out rfl (own_lo ho hb2.size) hb4
theorem sBenchRow_c (b : List Int) (w : World) (hb : b.length = 19) : Calls Try.prog 65 #[aggI b] w (IntsPost w (brL b true) (goodB b)) := by
  have r0 := range_new w (ints b) 67
  have hb0 := below_one (w := w) (.cells (ints b).toArray 67)
  unfold aggI
  rcases hq : goodB b with _ | _
  · have HL := Lib.hid (show brL b true = [] by simp [brL, hq])
    have HQ := Lib.hid hq; clear hq
    go_enter Try.func65, Try.ntmps65
    go_wp2_with (refine wpList_loadB rfl _ rfl _ rfl b r0 hb ?_)
    refine (l12Good_c b _ hb).mono ?_
    rintro e w1 ⟨rfl, hb1⟩
    rw [HQ.out]
    have hb2 := Below.chain hb0 hb1
    have ho0 := World.ownsRow_lit (e := 3) (size := 1) (base := w.heap.size) w1 #[] 0 hb2.size (by decide) rfl
    go_wp2
    go_ret2
    exact IntsPost.mk' HL.out rfl ho0 (Below.alc hb2 _)
  · have HL := Lib.hid (show brL b true = rowOf b true 6 by simp [brL, hq])
    have HQ := Lib.hid hq
    go_enter Try.func65, Try.ntmps65
    go_wp2_with (refine wpList_loadB rfl _ rfl _ rfl b r0 hb ?_)
    refine (l12Good_c b _ hb).mono ?_
    rintro e w1 ⟨rfl, hb1⟩
    rw [HQ.out]
    have r1 := range_below r0 hb1
    have hb2 := Below.chain hb0 hb1
    go_wp2_with (refine wpList_loadB rfl _ rfl _ rfl b r1 hb ?_)
    refine (l12Row_c b true _ hb hq).mono ?_
    rintro e w2 ⟨u, rfl, ho, hb3⟩
    have hb4 := Below.chain hb2 hb3
    go_wp2
    go_ret2
    exact IntsPost.mk' HL.out rfl (own_lo ho hb2.size) hb4
theorem BenchRow_c (b : List Int) (w : World) (hb : b.length = 19) : Calls Try.prog 64 #[aggI b] w (IntsPost w (brL b true) (goodB b)) := by
  have r0 := range_new w (ints b) 67
  have hb0 := below_one (w := w) (.cells (ints b).toArray 67)
  unfold aggI
  rcases hq : goodB b with _ | _
  · have HL := Lib.hid (show brL b true = [] by simp [brL, hq])
    have HQ := Lib.hid hq; clear hq
    go_enter Try.func64, Try.ntmps64
    go_wp2_with (refine wpList_loadB rfl _ rfl _ rfl b r0 hb ?_)
    refine (IsBench_c b _ hb).mono ?_
    rintro e w1 ⟨rfl, hb1⟩
    rw [HQ.out]
    have hb2 := Below.chain hb0 hb1
    go_wp2
    go_ret2
    exact IntsPost.mk' HL.out rfl (World.ownsRow_nil _ _ _ _) hb2
  · have HL := Lib.hid (show brL b true = rowOf b true 6 by simp [brL, hq])
    have HQ := Lib.hid hq
    go_enter Try.func64, Try.ntmps64
    go_wp2_with (refine wpList_loadB rfl _ rfl _ rfl b r0 hb ?_)
    refine (IsBench_c b _ hb).mono ?_
    rintro e w1 ⟨rfl, hb1⟩
    rw [HQ.out]
    have r1 := range_below r0 hb1
    have hb2 := Below.chain hb0 hb1
    go_wp2_with (refine wpList_loadB rfl _ rfl _ rfl b r1 hb ?_)
    refine (shown_b_c b _ hb hq).mono ?_
    rintro e w2 ⟨u, rfl, ho, hb3⟩
    have hb4 := Below.chain hb2 hb3
    go_wp2
    go_ret2
    exact IntsPost.mk' HL.out rfl (own_lo ho hb2.size) hb4
theorem SentRow_c (b : List Int) (w : World) (hb : b.length = 19) : Calls Try.prog 62 #[aggI b] w (IntsPost w (brL b false) (goodB b)) := by
  have r0 := range_new w (ints b) 67
  have hb0 := below_one (w := w) (.cells (ints b).toArray 67)
  unfold aggI
  rcases hq : goodB b with _ | _
  · have HL := Lib.hid (show brL b false = [] by simp [brL, hq])
    have HQ := Lib.hid hq; clear hq
    go_enter Try.func62, Try.ntmps62
    go_wp2_with (refine wpList_loadB rfl _ rfl _ rfl b r0 hb ?_)
    refine (IsBench_c b _ hb).mono ?_
    rintro e w1 ⟨rfl, hb1⟩
    rw [HQ.out]
    have hb2 := Below.chain hb0 hb1
    go_wp2
    go_ret2
    exact IntsPost.mk' HL.out rfl (World.ownsRow_nil _ _ _ _) hb2
  · have HL := Lib.hid (show brL b false = rowOf b false 6 by simp [brL, hq])
    have HQ := Lib.hid hq
    go_enter Try.func62, Try.ntmps62
    go_wp2_with (refine wpList_loadB rfl _ rfl _ rfl b r0 hb ?_)
    refine (IsBench_c b _ hb).mono ?_
    rintro e w1 ⟨rfl, hb1⟩
    rw [HQ.out]
    have r1 := range_below r0 hb1
    have hb2 := Below.chain hb0 hb1
    have hI := ints_box (w := w) (b := b) (t := 67) hb1 (n := 6) (by omega) (by omega) 6 (by omega) (by omega)
    go_wp2_with fail
    refine (Clone_c _ (b.take 6) _ hI (by simp; omega)).mono ?_
    rintro e w2 ⟨u, rfl, ho, hb3⟩
    have hb4 := Below.chain hb2 hb3
    go_wp2
    go_ret2
    exact IntsPost.mk' HL.out rfl (own_lo ho hb2.size) hb4
end Go.Proofs.Ytlipkplomndjcaa
