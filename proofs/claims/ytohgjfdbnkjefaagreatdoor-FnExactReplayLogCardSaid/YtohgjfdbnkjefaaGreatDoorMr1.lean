import Derived.Test.YtohgjfdbnkjefaaGreatDoorKx25
import Derived.Test.YtohgjfdbnkjefaaGreatDoorSf
import Derived.Lib.SmallJoins
import Derived.Deep.RegionHeld3
import Derived.Laws.IdiomStrings
namespace Go.Proofs.YtohgjfdbnkjefaaGreatDoor
open Go.ChangeShapes Go.WideShapes Go.ChangeAt Go.RowKit Go.Joins Go.Deep
set_option linter.unusedVariables false
set_option maxRecDepth 100000
open Lib (hid)
theorem qBl {a : Nat} {b c : World} (h : Below a b c := by (repeat (first | exact Below.refl _ _ | exact (Below.refl _ _).drew | assumption | exact below_one _ | refine Below.chain ?_ (by assumption) | refine Below.drew ?_ | refine Below.alc ?_ _ | refine below_drewN ?_ | (refine Below.setCell ?_ ?_ _) | exact Nat.le_refl _ | (simp; done) | (simp; omega)))) : Below a b c := h
section
variable {H : Type} {enc : TypeId × Value → H} {w : World} {base : Nat} {spare : Nat → Bool} {held : Bool}
theorem open_Bench {r : Reach} {b0 : Nat} {v : Value} {d : DataW H} {p : List MemPlace} (hv : Value.okWide Tryz.prog w r b0 51 v) (h : DataW.Trod enc Tryz.prog w base spare held 51 v d p) : ∃ b : List Int, v = aggI b ∧ b.length = 19 := by
 obtain ⟨cs, rfl, _⟩ := okWide_struct Tryz.underlying51 hv
 obtain ⟨fuel, hf⟩ := h
 obtain ⟨b, hb1, hb2⟩ := bench_cells Tryz.underlying51 ⟨rfl, rfl⟩ ⟨rfl, rfl⟩ ⟨rfl, rfl⟩ ⟨rfl, rfl⟩ (by kernel_rfl) hf
 refine ⟨b, ?_, hb2⟩
 have : cs.toList = ints b := hb1
 unfold aggI
 rw [← this]
end
end Go.Proofs.YtohgjfdbnkjefaaGreatDoor
namespace Go.Proofs.YtohgjfdbnkjefaaGreatDoor
end Go.Proofs.YtohgjfdbnkjefaaGreatDoor
namespace Go.Proofs.YtohgjfdbnkjefaaGreatDoor
open Go.ChangeShapes Go.WideShapes Go.ChangeAt Go.RowKit Go.Joins Go.Deep
set_option linter.unusedVariables false
set_option maxRecDepth 100000
section
variable {H : Type} {enc : TypeId × Value → H} {w : World} {base : Nat} {spare : Nat → Bool} {held : Bool}
theorem open_Log {r : Reach} {b0 : Nat} {v : Value} {d : DataW H} {p : List MemPlace} (hv : Value.okWide Tryz.prog w r b0 52 v) (h : DataW.Trod enc Tryz.prog w base spare held 52 v d p) :
 ∃ (a b : ByteArray) (n : Int), v = .agg #[.string a, .string b, .int .i64 n] ∧ a.size ≤ 9223372036854775807 ∧ b.size ≤ 9223372036854775807 := by
 obtain ⟨v0, v1, v2, y0, y1, y2, n, rfl, _, _, g0, g1, g2⟩ := open_agg3 Tryz.underlying52 (by kernel_rfl) (by kernel_rfl) hv h
 obtain ⟨a, ha, _, ha2⟩ := DataW.trod_string Tryz.underlying9 g0
 obtain ⟨b, hb, _, hb2⟩ := DataW.trod_string Tryz.underlying9 g1
 obtain ⟨k, hk, _, _⟩ := DataW.trod_int Tryz.underlying3 g2
 simp only [List.cons.injEq, and_true] at ha hb hk
 subst ha hb hk
 unfold maxLen at ha2 hb2
 exact ⟨a, b, k, rfl, by omega, by omega⟩
end
end Go.Proofs.YtohgjfdbnkjefaaGreatDoor
namespace Go.Proofs.YtohgjfdbnkjefaaGreatDoor
open Go.RowKit
set_option linter.unusedVariables false
set_option maxRecDepth 100000
theorem bs_inj {a b : List UInt8} (h : bs a = bs b) : a = b := by have := congrArg (fun s : ByteArray => s.data.toList) h; simpa [bs_list] using this
def ncB (b : List Int) : List Int := if goodB b then b else zeroI
def ncV (b : List Int) : Value := .tuple #[.agg (csC (ncB b) ByteArray.empty ByteArray.empty 0).toArray, .bool (goodB b)]
theorem NewConsole_c (b : List Int) (w : World) (hb : b.length = 19) : Calls Tryz.prog 11 #[aggI b] w fun e w' => e = .returned (ncV b) ∧ Below w.heap.size w w' := by
 have r0 := World.rangeAt_alloc (range_new w (ints b) 26) (.cells zCA 31)
 have t0 := there_new (w.alloc (.cells (ints b).toArray 26)) zCA 31 (n := 22) (by decide)
 have hb0 : Below w.heap.size w ((w.alloc (.cells (ints b).toArray 26)).alloc (.cells zCA 31)) := qBl
 have hbu := build_cons hb
 simp only [World.size_alloc] at t0
 unfold zCA at *
 unfold aggI
 rcases hq : goodB b with _ | _
 · have HF := hid (show ncV b = .tuple #[.agg (csC zeroI ByteArray.empty ByteArray.empty 0).toArray, .bool false] by simp [ncV, ncB, hq])
   have HQ := hid hq; clear hq hbu
   go_enter Tryz.func11, Tryz.ntmps11
   go_wp2_with (refine wpList_loadB rfl _ rfl _ rfl b r0 hb ?_)
   refine (IsBench_c b _ hb).mono ?_
   rintro e w1 ⟨rfl, hb1⟩
   rw [HQ.out]
   have t1 := there_below t0 hb1
   have hb2 := Below.chain hb0 hb1
   have hk := World.rangeAt_setCells_same w1 (w.heap.size + 1) 0 (csC zeroI ByteArray.empty ByteArray.empty 0) t1
   have hb3 := below_cells (csC zeroI ByteArray.empty ByteArray.empty 0) w1 (w.heap.size + 1) 0 hb2 (by omega)
   have hld := loadVarC hk (by simp [zeroI])
   clear r0 t0 hb0 hb1
   go_wp2_with (refine wpList_storeC rfl _ _ rfl _ zeroI ByteArray.empty ByteArray.empty 0 rfl rfl t1 (by simp [zeroI]) ?_)
   go_wp2
   exact bodyPost_ret (v := ncV b) (by rw [HF.out]; exact res_cell2 Tryz.results11 rfl hld) rfl ⟨rfl, hb3⟩
 · have HF := hid (show ncV b = .tuple #[.agg (csC b ByteArray.empty ByteArray.empty 0).toArray, .bool true] by simp [ncV, ncB, hq])
   have HQ := hid hq; clear hq
   go_enter Tryz.func11, Tryz.ntmps11
   go_wp2_with (refine wpList_loadB rfl _ rfl _ rfl b r0 hb ?_)
   refine (IsBench_c b _ hb).mono ?_
   rintro e w1 ⟨rfl, hb1⟩
   rw [HQ.out]
   have r1 := range_below r0 hb1
   have t1 := there_below t0 hb1
   have hb2 := Below.chain hb0 hb1
   have hk := World.rangeAt_setCells_same w1 (w.heap.size + 1) 0 (csC b ByteArray.empty ByteArray.empty 0) (by rw [csC_len hb]; exact t1)
   have hb3 := below_cells (csC b ByteArray.empty ByteArray.empty 0) w1 (w.heap.size + 1) 0 hb2 (by omega)
   have hld := loadVarC hk hb
   clear r0 t0 hb0 hb1
   go_wp2_with (first | (refine wpList_loadB rfl _ rfl _ rfl b r1 hb ?_) | (refine wpList_storeC rfl _ _ rfl _ b ByteArray.empty ByteArray.empty 0 rfl rfl t1 hb ?_))
   go_wp2
   exact bodyPost_ret (v := ncV b) (by rw [HF.out]; exact res_cell2 Tryz.results11 rfl hld) rfl ⟨rfl, hb3⟩
theorem sNewConsole_c (b : List Int) (w : World) (hb : b.length = 19) : Calls Tryz.prog 38 #[aggI b] w fun e w' => e = .returned (ncV b) ∧ Below w.heap.size w w' := by
 have r0 := World.rangeAt_alloc (range_new w (ints b) 26) (.cells zCA 31)
 have t0 := there_new (w.alloc (.cells (ints b).toArray 26)) zCA 31 (n := 22) (by decide)
 have hb0 : Below w.heap.size w ((w.alloc (.cells (ints b).toArray 26)).alloc (.cells zCA 31)) := qBl
 have hbu := build_cons hb
 simp only [World.size_alloc] at t0
 unfold zCA at *
 unfold aggI
 rcases hq : goodB b with _ | _
 · have HF := hid (show ncV b = .tuple #[.agg (csC zeroI ByteArray.empty ByteArray.empty 0).toArray, .bool false] by simp [ncV, ncB, hq])
   have HQ := hid hq; clear hq hbu
   go_enter Tryz.func38, Tryz.ntmps38
   go_wp2_with (refine wpList_loadB rfl _ rfl _ rfl b r0 hb ?_)
   refine (l12Good_c b _ hb).mono ?_
   rintro e w1 ⟨rfl, hb1⟩
   rw [HQ.out]
   have t1 := there_below t0 hb1
   have hb2 := Below.chain hb0 hb1
   have hk := World.rangeAt_setCells_same w1 (w.heap.size + 1) 0 (csC zeroI ByteArray.empty ByteArray.empty 0) t1
   have hb3 := below_cells (csC zeroI ByteArray.empty ByteArray.empty 0) w1 (w.heap.size + 1) 0 hb2 (by omega)
   have hld := loadVarC hk (by simp [zeroI])
   clear r0 t0 hb0 hb1
   go_wp2_with (refine wpList_storeC rfl _ _ rfl _ zeroI ByteArray.empty ByteArray.empty 0 rfl rfl t1 (by simp [zeroI]) ?_)
   go_wp2
   exact bodyPost_ret (v := ncV b) (by rw [HF.out]; exact res_cell2 Tryz.results38 rfl hld) rfl ⟨rfl, hb3⟩
 · have HF := hid (show ncV b = .tuple #[.agg (csC b ByteArray.empty ByteArray.empty 0).toArray, .bool true] by simp [ncV, ncB, hq])
   have HQ := hid hq; clear hq
   go_enter Tryz.func38, Tryz.ntmps38
   go_wp2_with (refine wpList_loadB rfl _ rfl _ rfl b r0 hb ?_)
   refine (l12Good_c b _ hb).mono ?_
   rintro e w1 ⟨rfl, hb1⟩
   rw [HQ.out]
   have r1 := range_below r0 hb1
   have t1 := there_below t0 hb1
   have hb2 := Below.chain hb0 hb1
   have hk := World.rangeAt_setCells_same w1 (w.heap.size + 1) 0 (csC b ByteArray.empty ByteArray.empty 0) (by rw [csC_len hb]; exact t1)
   have hb3 := below_cells (csC b ByteArray.empty ByteArray.empty 0) w1 (w.heap.size + 1) 0 hb2 (by omega)
   have hld := loadVarC hk hb
   clear r0 t0 hb0 hb1
   go_wp2_with (first | (refine wpList_loadB rfl _ rfl _ rfl b r1 hb ?_) | (refine wpList_storeC rfl _ _ rfl _ b ByteArray.empty ByteArray.empty 0 rfl rfl t1 hb ?_))
   go_wp2
   exact bodyPost_ret (v := ncV b) (by rw [HF.out]; exact res_cell2 Tryz.results38 rfl hld) rfl ⟨rfl, hb3⟩
set_option linter.unusedSimpArgs false
theorem flatR_at {es : List (Bs × Bs)} {k : Nat} {e : Bs × Bs} (h : es[k]? = some e) : (flatR es)[k * 2]? = some (.string (bs e.1)) ∧ (flatR es)[k * 2 + 1]? = some (.string (bs e.2)) := by
 induction es generalizing k with
 | nil => simp at h
 | cons q t ih =>
  cases k with
  | zero => simp at h; subst h; simp [flatR]
  | succ k =>
   simp at h
   have := ih h
   constructor
   · rw [show (k + 1) * 2 = k * 2 + 2 by omega]; simpa [flatR] using this.1
   · rw [show (k + 1) * 2 + 1 = k * 2 + 1 + 2 by omega]; simpa [flatR] using this.2
theorem Sl.parts2 {w : World} {v : Value} {n : Nat} {xs : List Value} (h : Sl w 2 v n xs) : ∃ a c, v = .slice a n c ∧ n ≤ 9223372036854775807 ∧
 Hid (∀ k, k < n → ∃ b off, a = some ⟨b, off, none⟩ ∧ w.cell? ⟨b, off + k * 2, none⟩ = xs[k * 2]? ∧ w.cell? ⟨b, off + k * 2 + 1, none⟩ = xs[k * 2 + 1]?) := by
 obtain ⟨a, c, rfl, h1, h2, h3, h4⟩ := h
 refine ⟨a, c, rfl, by unfold maxLen at h2; omega, fun k hk => ?_⟩
 obtain ⟨b, off, rfl, hc⟩ := h4 (by omega)
 exact ⟨b, off, rfl, hc _ (by omega), by rw [Nat.add_assoc, hc _ (by omega)]⟩
theorem wpList_loadL {ops : Array Oper} {rest : List Oper} {op : Oper} {a : Act} {w : World} {Q : Exit → Act → World → Prop} (hw : Region.wanted op (yielded ops a.tmps) = true) (x : Operand) (ho : op.op = .load 29 x)
 (g o : Nat) (hx : a.eval x = .pointer (some ⟨g, o, none⟩)) (d p : ByteArray) (n : Int) (hc : w.rangeAt g o (lgC d p n))
 (h : wpList Tryz.prog ops Q rest (a.put op.dst (.agg (lgC d p n).toArray)) w) : wpList Tryz.prog ops Q (op :: rest) a w :=
 wpList_load_want hw _ x ho g o hx _ _ hc Tryz.underlying29 rfl (by kernel_rfl) h
theorem csC_bench {w : World} {g : Nat} {b : List Int} {d p : ByteArray} {n : Int} (h : w.rangeAt g 0 (csC b d p n)) (hb : b.length = 19) : w.rangeAt g 0 (ints b) := by
 have := range_sub h 0 19
 rw [Nat.zero_add, List.drop_zero, csC, List.take_left' (by simp [hb])] at this
 exact this
theorem csC_log {w : World} {g : Nat} {b : List Int} {d p : ByteArray} {n : Int} (h : w.rangeAt g 0 (csC b d p n)) (hb : b.length = 19) : w.rangeAt g 19 (lgC d p n) := by
 have := range_sub h 19 3
 rw [Nat.zero_add, csC, List.drop_left' (by simp [hb])] at this
 exact this
def consV (b : List Int) (d p : ByteArray) (n : Int) : Value := .agg (csC b d p n).toArray
theorem logV_lgC (d p : ByteArray) (n : Int) : logV d p n = .agg (lgC d p n).toArray := rfl
def ConsOut (b : List Int) (d p : ByteArray) (n : Int) (w : World) (e : Ending) (w' : World) : Prop :=
 ∃ ok, e = .returned (.bool ok) ∧ (ok = true ↔ (goodB b = true ∧ ∃ es, ValidL d.data.toList p.data.toList n es)) ∧ Below w.heap.size w w'
set_option maxHeartbeats 1000000 in
theorem IsValidConsole_c (b : List Int) (d p : ByteArray) (n : Int) (w : World) (hb : b.length = 19) (hd : d.size ≤ 1048576) (hp : p.size ≤ 1048576) (ht : Tab w) : Calls Tryz.prog 43 #[consV b d p n] w (ConsOut b d p n w) := by
 unfold consV
 have r0 := range_new w (csC b d p n) 31
 have b0 := csC_bench r0 hb
 have hb0 := hid (below_one (w := w) (.cells (csC b d p n).toArray 31))
 have HV := hid (fun w => IsValidLog_c d p n w hd hp)
 simp only [logV_lgC] at HV
 have HT := hid ht
 clear ht
 rcases hg : goodB b with _ | _
 · have HG := hid hg
   clear hg
   go_enter Tryz.func43, Tryz.ntmps43
   go_wp2_with (refine wpList_loadB rfl _ rfl _ rfl b b0 hb ?_)
   refine (IsBench_c b _ hb).mono ?_
   rintro e w1 ⟨rfl, hb1⟩
   rw [HG.out]
   go_wp2
   go_ret
   exact ⟨false, rfl, ⟨(fun h => by cases h), fun h => by rw [HG.out] at h; exact h.1⟩, Below.chain hb0.out hb1⟩
 · have HG := hid hg
   clear hg
   go_enter Tryz.func43, Tryz.ntmps43
   go_wp2_with (refine wpList_loadB rfl _ rfl _ rfl b b0 hb ?_)
   refine (IsBench_c b _ hb).mono ?_
   rintro e w1 ⟨rfl, hb1⟩
   rw [HG.out]
   have l1 := csC_log (range_below r0 hb1) hb
   have HB1 := hid (Below.chain hb0.out hb1)
   clear r0 b0 hb1
   go_wp2_with (refine wpList_loadL rfl _ rfl _ _ rfl d p n l1 ?_)
   refine (HV.out _ (HT.out.on HB1.out)).mono ?_
   rintro e w2 ⟨ok, rfl, hi, hb2⟩
   have HI := hid hi
   clear hi
   go_wp2
   go_ret
   exact ⟨ok, rfl, HI.out.trans ⟨fun h => ⟨HG.out, h⟩, fun h => h.2⟩, Below.chain HB1.out hb2⟩
set_option maxHeartbeats 1000000 in
theorem IsValidConsoleS_c (b : List Int) (d p : ByteArray) (n : Int) (w : World) (hb : b.length = 19) (hd : d.size ≤ 1048576) (hp : p.size ≤ 1048576) : Calls Tryz.prog 44 #[consV b d p n] w (ConsOut b d p n w) := by
 unfold consV
 have r0 := range_new w (csC b d p n) 31
 have b0 := csC_bench r0 hb
 have hb0 := hid (below_one (w := w) (.cells (csC b d p n).toArray 31))
 have HV := hid (fun w => l12Valid_c d p n w hd hp)
 simp only [logV_lgC] at HV
 rcases hg : goodB b with _ | _
 · have HG := hid hg
   clear hg
   go_enter Tryz.func44, Tryz.ntmps44
   go_wp2_with (refine wpList_loadB rfl _ rfl _ rfl b b0 hb ?_)
   refine (l12Good_c b _ hb).mono ?_
   rintro e w1 ⟨rfl, hb1⟩
   rw [HG.out]
   go_wp2
   go_ret
   exact ⟨false, rfl, ⟨(fun h => by cases h), fun h => by rw [HG.out] at h; exact h.1⟩, Below.chain hb0.out hb1⟩
 · have HG := hid hg
   clear hg
   go_enter Tryz.func44, Tryz.ntmps44
   go_wp2_with (refine wpList_loadB rfl _ rfl _ rfl b b0 hb ?_)
   refine (l12Good_c b _ hb).mono ?_
   rintro e w1 ⟨rfl, hb1⟩
   rw [HG.out]
   have l1 := csC_log (range_below r0 hb1) hb
   have HB1 := hid (Below.chain hb0.out hb1)
   clear r0 b0 hb1
   go_wp2_with (refine wpList_loadL rfl _ rfl _ _ rfl d p n l1 ?_)
   refine (HV.out _).mono ?_
   rintro e w2 ⟨ok, rfl, hi, hb2⟩
   have HI := hid hi
   clear hi
   go_wp2
   go_ret
   exact ⟨ok, rfl, HI.out.trans ⟨fun h => ⟨HG.out, h⟩, fun h => h.2⟩, Below.chain HB1.out hb2⟩
structure Cst where
 b : List Int
 d : ByteArray
 p : ByteArray
 n : Int
def Cst.val (c : Cst) : Value := consV c.b c.d c.p c.n
def Cst.ok (c : Cst) : Prop := goodB c.b = true ∧ ∃ es, ValidL c.d.data.toList c.p.data.toList c.n es
structure Cst.fit (c : Cst) : Prop where
 hb : c.b.length = 19
 hd : c.d.size ≤ 1048576
 hp : c.p.size ≤ 1048576
def tNo : Bs := [110, 111]
def tBad : Bs := [98, 97, 100]
def tFull : Bs := [102, 117, 108, 108]
def doneC (c : Cst) (line : ByteArray) : Cst := ⟨(execM c.b line.data.toList).1, c.d, c.p ++ bs (lineS c.n line.data.toList (sayO (execM c.b line.data.toList).2)), c.n + 1⟩
def stepV (ok : Bool) (c : Cst) (line : ByteArray) : Cst × Bs :=
 if ok = false then (c, tNo) else if cmdB line = false then (c, tBad) else if c.n = 60 then (c, tFull) else (doneC c line, sayO (execM c.b line.data.toList).2)
theorem stepV_no {c : Cst} {line : ByteArray} : stepV false c line = (c, tNo) := rfl
theorem stepV_bad {c : Cst} {line : ByteArray} (h : cmdB line = false) : stepV true c line = (c, tBad) := by unfold stepV; rw [if_neg (by simp), if_pos h]
theorem stepV_full {c : Cst} {line : ByteArray} (h : cmdB line = true) (hn : c.n = 60) : stepV true c line = (c, tFull) := by unfold stepV; rw [if_neg (by simp), if_neg (by rw [h]; simp), if_pos hn]
theorem stepV_done {c : Cst} {line : ByteArray} (h : cmdB line = true) (hn : c.n ≠ 60) : stepV true c line = (doneC c line, sayO (execM c.b line.data.toList).2) := by unfold stepV; rw [if_neg (by simp), if_neg (by rw [h]; simp), if_neg hn]
def ExOut (c : Cst) (line : ByteArray) (w : World) (e : Ending) (w' : World) : Prop :=
 ∃ ok, e = .returned (.tuple #[(stepV ok c line).1.val, .string (bs (stepV ok c line).2)]) ∧ (ok = true ↔ c.ok) ∧ Below w.heap.size w w'
theorem okE_of {line : ByteArray} {r : Bs} (h : recB line (bs r) = true) : OkE (line.data.toList, r) := by
 have := recB_iff.1 h
 rw [bs_list] at this; exact this
theorem done_valid {c : Cst} {line : ByteArray} {es : List (Bs × Bs)} (hb : c.b.length = 19) (hg : goodB c.b = true) (hv : ValidL c.d.data.toList c.p.data.toList c.n es) (hc : cmdB line = true) (hn : c.n ≠ 60) :
 ValidL (doneC c line).d.data.toList (doneC c line).p.data.toList (doneC c line).n (es ++ [(line.data.toList, sayO (execM c.b line.data.toList).2)]) := by
 have := hv.snoc (e := (line.data.toList, sayO (execM c.b line.data.toList).2)) (okE_of (recB_of hc (sayM_rp hb hg _))) hn
 unfold doneC
 simp only
 rw [app_list, bs_list]
 exact this
theorem valid_small {c : Cst} {es : List (Bs × Bs)} (hv : ValidL c.d.data.toList c.p.data.toList c.n es) : c.d.size ≤ 30000 ∧ c.p.size ≤ 30000 := by
 have := hv.sz
 rw [List.length_append, ba_len, ba_len] at this
 omega
theorem stepV_ok {c : Cst} (line : ByteArray) (hb : c.b.length = 19) (h : c.ok) : (stepV true c line).1.b.length = 19 ∧ (stepV true c line).1.ok := by
 cases hc : cmdB line with
 | false => rw [stepV_bad hc]; exact ⟨hb, h⟩
 | true =>
  by_cases hn : c.n = 60
  · rw [stepV_full hc hn]; exact ⟨hb, h⟩
  · rw [stepV_done hc hn]
    obtain ⟨hg, es, hv⟩ := h
    have hx := (execM_ok hb hg line.data.toList).1
    exact ⟨hx.1, hx.2, _, done_valid hb hg hv hc hn⟩
theorem ok_fit {c : Cst} (hb : c.b.length = 19) (h : c.ok) : c.fit := by
 obtain ⟨_, es, hv⟩ := h
 have := valid_small hv
 exact ⟨hb, by omega, by omega⟩
theorem ex_yes {c : Cst} {line : ByteArray} {w w' : World} {e : Ending} (h : c.ok) (ho : ExOut c line w e w') : e = .returned (.tuple #[(stepV true c line).1.val, .string (bs (stepV true c line).2)]) ∧ Below w.heap.size w w' := by
 obtain ⟨ok, rfl, hi, hb⟩ := ho
 rw [hi.2 h]; exact ⟨rfl, hb⟩
def repI : Cst → List (Bs × Bs) → Nat
 | _, [] => 0
 | c, e :: t => if (stepV true c (bs e.1)).2 = e.2 then repI (stepV true c (bs e.1)).1 t + 1 else 0
def repS : Cst → List (Bs × Bs) → Option Cst
 | c, [] => some c
 | c, e :: t => if (stepV true c (bs e.1)).2 = e.2 then repS (stepV true c (bs e.1)).1 t else none
theorem repI_yes {c : Cst} {e : Bs × Bs} {t : List (Bs × Bs)} (hx : (stepV true c (bs e.1)).2 = e.2) : repI c (e :: t) = repI (stepV true c (bs e.1)).1 t + 1 := if_pos hx
theorem repI_not {c : Cst} {e : Bs × Bs} {t : List (Bs × Bs)} (hx : (stepV true c (bs e.1)).2 ≠ e.2) : repI c (e :: t) = 0 := if_neg hx
theorem repS_all {c c' : Cst} {es : List (Bs × Bs)} (h : repS c es = some c') : repI c es = es.length := by
 induction es generalizing c with
 | nil => rfl
 | cons x t ih =>
  unfold repS at h
  split at h
  · rename_i hx
    unfold repI
    rw [if_pos hx, ih h]; rfl
  · cases h
def Replays (c0 c : Cst) : Prop := ∃ es, ValidL c.d.data.toList c.p.data.toList c.n es ∧ repS c0 es = some c
theorem Replays.count {c0 c : Cst} (h : Replays c0 c) : ∃ es, ValidL c.d.data.toList c.p.data.toList c.n es ∧ (repI c0 es : Int) = c.n := by
 obtain ⟨es, hv, hr⟩ := h
 exact ⟨es, hv, by rw [repS_all hr, hv.cnt]⟩
def RepAt (c0 : Cst) (es : List (Bs × Bs)) (k : Nat) (c : Cst) : Prop := repI c0 es = k + repI c (es.drop k)
theorem RepAt.zero (c0 : Cst) (es : List (Bs × Bs)) : RepAt c0 es 0 c0 := by unfold RepAt; simp
theorem RepAt.next {c0 c : Cst} {es : List (Bs × Bs)} {k : Nat} {e : Bs × Bs} (h : RepAt c0 es k c) (he : es[k]? = some e) (hx : (stepV true c (bs e.1)).2 = e.2) : RepAt c0 es (k + 1) (stepV true c (bs e.1)).1 := by
 unfold RepAt at *
 rw [h, drop_at he, repI_yes hx]
 omega
theorem RepAt.stop {c0 c : Cst} {es : List (Bs × Bs)} {k : Nat} {e : Bs × Bs} (h : RepAt c0 es k c) (he : es[k]? = some e) (hx : (stepV true c (bs e.1)).2 ≠ e.2) : repI c0 es = k := by
 unfold RepAt at *
 rw [h, drop_at he, repI_not hx]; rfl
theorem RepAt.done {c0 c : Cst} {es : List (Bs × Bs)} (h : RepAt c0 es es.length c) : repI c0 es = es.length := by
 unfold RepAt at h
 rw [h, List.drop_length]; rfl
set_option maxHeartbeats 4000000 in
theorem AppendRecordS_c (d p : ByteArray) (n : Int) (c r : ByteArray) (w : World) (hd : d.size ≤ 1048576) (hp : p.size ≤ 1048576) (hc : c.size ≤ 1048576) (hr : r.size ≤ 1048576) : Calls Tryz.prog 73 #[logV d p n, recV c r] w (AppOut d p n c r w) := by
 have HV := hid (fun w => l12Valid_c d p n w hd hp)
 have HRV := hid (l12Record_c c r)
 have hbA := below_one (w := w) (.cells #[.string d, .string p, .int .i64 n] 29)
 have hbB := Below.alc hbA (.cells #[.string c, .string r] 76)
 have hb0 := hid (Below.alc hbB (.cells #[.string ⟨#[]⟩, .string ⟨#[]⟩, .int .i64 0] 29))
 have A0 := hid (((Bk.new w 29 #[.string d, .string p, .int .i64 n]).alloc (.cells #[.string c, .string r] 76)).alloc (.cells #[.string ⟨#[]⟩, .string ⟨#[]⟩, .int .i64 0] 29))
 have R0 := Bk.alloc (Bk.new (w.alloc (.cells #[.string d, .string p, .int .i64 n] 29)) 76 #[.string c, .string r]) (.cells #[.string ⟨#[]⟩, .string ⟨#[]⟩, .int .i64 0] 29)
 have Z0 := Bk.new ((w.alloc (.cells #[.string d, .string p, .int .i64 n] 29)).alloc (.cells #[.string c, .string r] 76)) 29 #[.string ⟨#[]⟩, .string ⟨#[]⟩, .int .i64 0]
 simp only [World.size_alloc] at R0 Z0
 have HR0 := hid R0
 have HZ0 := hid Z0
 clear hbA hbB R0 Z0
 unfold logV recV at *
 go_enter Tryz.func73, Tryz.ntmps73
 go_wp2_with fail
 refine (HV.out _).mono ?_
 rintro e w2 ⟨ok, rfl, hiff, hb2⟩
 have A2 := hid (A0.out.below hb2)
 have R2 := hid (HR0.out.below hb2)
 have Z2 := hid (HZ0.out.below hb2)
 have HBX := hid (Below.chain hb0.out hb2)
 have HI := hid hiff
 clear hb2 A0 HR0 HZ0 hb0 hiff HV
 have a0 : w2.cell? ⟨w.heap.size, 0, none⟩ = some (.string d) := A2.out.cell 0
 have a1 : w2.cell? ⟨w.heap.size, 1, none⟩ = some (.string p) := A2.out.cell 1
 have a2 : w2.cell? ⟨w.heap.size, 2, none⟩ = some (.int .i64 n) := A2.out.cell 2
 have r0 : w2.cell? ⟨w.heap.size + 1, 0, none⟩ = some (.string c) := R2.out.cell 0
 have r1 : w2.cell? ⟨w.heap.size + 1, 1, none⟩ = some (.string r) := R2.out.cell 1
 have z0 : w2.cell? ⟨w.heap.size + 1 + 1, 0, none⟩ = some (.string ⟨#[]⟩) := Z2.out.cell 0
 have z1 : w2.cell? ⟨w.heap.size + 1 + 1, 1, none⟩ = some (.string ⟨#[]⟩) := Z2.out.cell 1
 have z2 : w2.cell? ⟨w.heap.size + 1 + 1, 2, none⟩ = some (.int .i64 0) := Z2.out.cell 2
 have f0 : w2.frozen? ⟨w.heap.size + 1 + 1, 0, none⟩ = false := Z2.out.frozen 0
 have f1 : w2.frozen? ⟨w.heap.size + 1 + 1, 1, none⟩ = false := Z2.out.frozen 1
 have f2 : w2.frozen? ⟨w.heap.size + 1 + 1, 2, none⟩ = false := Z2.out.frozen 2
 have FIN : Hid (∀ X w', appV ok (recB c r) d p n c r = X → Below w.heap.size w w' → AppOut d p n c r w (.returned (.tuple #[X.1, .int .i64 X.2])) w') := fun X w' hX hb => by
  subst hX; exact ⟨ok, rfl, HI.out, hb⟩
 cases ok with
 | false =>
  have F := hid (fun w' => FIN.out _ w' (appV_no rfl))
  unfold logV at F
  clear FIN
  go_wp2
  exact bodyPost_ret (v := .tuple #[.agg #[.string d, .string p, .int .i64 n], .int .i64 1]) (by simp [results, Tryz.results73, go_sem, z0, z1, z2]) rfl (F.out _ (by have hb := HBX.out; exact ((hb.setCell (p := ⟨w.heap.size + 1 + 1, 0, none⟩) (by show w.heap.size ≤ w.heap.size + 1 + 1; omega) _).setCell (p := ⟨w.heap.size + 1 + 1, 1, none⟩) (by show w.heap.size ≤ w.heap.size + 1 + 1; omega) _).setCell (p := ⟨w.heap.size + 1 + 1, 2, none⟩) (by show w.heap.size ≤ w.heap.size + 1 + 1; omega) _))
 | true =>
  go_wp2_with fail
  refine (HRV.out _ (by omega) (by omega)).mono ?_
  rintro e w3 ⟨rfl, hb2⟩
  have A3 := hid (A2.out.below hb2)
  have R3 := hid (R2.out.below hb2)
  have Z3 := hid (Z2.out.below hb2)
  have HBX3 := hid (Below.chain HBX.out hb2)
  clear hb2 A2 R2 Z2 a0 a1 a2 r0 r1 z0 z1 z2 f0 f1 f2 HBX
  have a0 : w3.cell? ⟨w.heap.size, 0, none⟩ = some (.string d) := A3.out.cell 0
  have a1 : w3.cell? ⟨w.heap.size, 1, none⟩ = some (.string p) := A3.out.cell 1
  have a2 : w3.cell? ⟨w.heap.size, 2, none⟩ = some (.int .i64 n) := A3.out.cell 2
  have r0 : w3.cell? ⟨w.heap.size + 1, 0, none⟩ = some (.string c) := R3.out.cell 0
  have r1 : w3.cell? ⟨w.heap.size + 1, 1, none⟩ = some (.string r) := R3.out.cell 1
  have z0 : w3.cell? ⟨w.heap.size + 1 + 1, 0, none⟩ = some (.string ⟨#[]⟩) := Z3.out.cell 0
  have z1 : w3.cell? ⟨w.heap.size + 1 + 1, 1, none⟩ = some (.string ⟨#[]⟩) := Z3.out.cell 1
  have z2 : w3.cell? ⟨w.heap.size + 1 + 1, 2, none⟩ = some (.int .i64 0) := Z3.out.cell 2
  have f0 : w3.frozen? ⟨w.heap.size + 1 + 1, 0, none⟩ = false := Z3.out.frozen 0
  have f1 : w3.frozen? ⟨w.heap.size + 1 + 1, 1, none⟩ = false := Z3.out.frozen 1
  have f2 : w3.frozen? ⟨w.heap.size + 1 + 1, 2, none⟩ = false := Z3.out.frozen 2
  have HBX := HBX3
  clear HBX3
  rcases hrc : recB c r with _ | _
  · rw [hrc] at FIN
    have F := hid (fun w' => FIN.out _ w' (appV_no rfl))
    unfold logV at F
    clear FIN hrc
    go_wp2
    exact bodyPost_ret (v := .tuple #[.agg #[.string d, .string p, .int .i64 n], .int .i64 1]) (by simp [results, Tryz.results73, go_sem, z0, z1, z2]) rfl (F.out _ (by have hb := HBX.out; exact ((hb.setCell (p := ⟨w.heap.size + 1 + 1, 0, none⟩) (by show w.heap.size ≤ w.heap.size + 1 + 1; omega) _).setCell (p := ⟨w.heap.size + 1 + 1, 1, none⟩) (by show w.heap.size ≤ w.heap.size + 1 + 1; omega) _).setCell (p := ⟨w.heap.size + 1 + 1, 2, none⟩) (by show w.heap.size ≤ w.heap.size + 1 + 1; omega) _))
  · have HRC := hid hrc
    rw [hrc] at FIN
    clear hrc
    by_cases h60 : n = 60
    · have t60 : (n == 60) = true := by rw [h60]; rfl
      have F := hid (fun w' => FIN.out _ w' (appV_full h60))
      unfold logV at F
      clear FIN h60
      go_wp2
      exact bodyPost_ret (v := .tuple #[.agg #[.string d, .string p, .int .i64 n], .int .i64 2]) (by simp [results, Tryz.results73, go_sem, z0, z1, z2]) rfl (F.out _ (by have hb := HBX.out; exact ((hb.setCell (p := ⟨w.heap.size + 1 + 1, 0, none⟩) (by show w.heap.size ≤ w.heap.size + 1 + 1; omega) _).setCell (p := ⟨w.heap.size + 1 + 1, 1, none⟩) (by show w.heap.size ≤ w.heap.size + 1 + 1; omega) _).setCell (p := ⟨w.heap.size + 1 + 1, 2, none⟩) (by show w.heap.size ≤ w.heap.size + 1 + 1; omega) _))
    · have t60 : (n == 60) = false := by simp; exact h60
      have F := hid (fun w' => FIN.out _ w' (appV_yes h60))
      unfold logV at F
      obtain ⟨es, hes⟩ := HI.out.1 trivial
      obtain ⟨hn0, hn1, hin, hsz⟩ := app_line hes h60 HRC.out
      have HLN : Hid (∀ w, Calls Tryz.prog 131 #[.int .i64 n, .agg #[.string c, .string r]] w fun e w' => e = .returned (.string (bs (lineS n c.data.toList r.data.toList))) ∧ Below w.heap.size w w') := fun w => by
       have h := l12Line_c n.toNat (by omega) c r w hc hr
       rw [show ((n.toNat : Nat) : Int) = n by omega] at h
       exact h
      clear FIN h60 hes hin
      generalize bs (lineS n c.data.toList r.data.toList) = X at *
      have hXs : ¬ (9223372036854775807 < p.size + X.size) := by omega
      have hw1 : IntKind.i64.wrap (n + 1) = n + 1 := IntWalk.i64_in _ (by omega)
      go_wp2_with fail
      -- REGION
      refine wp_region_held_drew (S := fun w' : World => w'.cell? ⟨w.heap.size, 2, none⟩ = some (.int .i64 n) ∧ w'.cell? ⟨w.heap.size + 1, 0, none⟩ = some (.string c) ∧ w'.cell? ⟨w.heap.size + 1, 1, none⟩ = some (.string r)) (by kernel_rfl) ⟨a2, r0, r1⟩ (fun hHeld => ?_)
      refine' tkY 0 hHeld ?r_1
      try simp only [Act.put, xqA, xqB, xqC]
      refine' tkY 2 hHeld ?r_2
      try simp only [Act.put, xqA, xqB, xqC]
      refine' tkX 3 hHeld ?y_3 ?r_3
      case y_3 => exact Or.inl ⟨by rfl, by (intro w hSw; (obtain ⟨hs1, hs2, hs3⟩ := hSw); go_simp; first | done | with_reducible rfl)⟩
      try simp only [Act.put, xqA, xqB, xqC]
      refine' tkX 4 hHeld ?y_4 ?r_4
      case y_4 => exact Or.inl ⟨by rfl, by (intro w hSw; (obtain ⟨hs1, hs2, hs3⟩ := hSw); go_simp; first | done | with_reducible rfl)⟩
      try simp only [Act.put, xqA, xqB, xqC]
      refine wpAnyH_ready (rs := [1, 5]) (by kernel_rfl) (by simp) ?_
      refine' AllReadyH.cons (o := _) ?e_5 ?st_5 ?more_5
      case e_5 => (simp only [xeA, xeB, xeC]; exact rfl)
      case st_5 =>
       intro K hK
       go_simp
       refine hK.out _ _ ⟨a2, r0, r1⟩ (fun hHeld => ?_)
       clear hK K
       try simp only [Act.put, xqA, xqB, xqC]
       refine wpAnyH_ready (rs := [5]) (by kernel_rfl) (by simp) ?_
       refine' AllReadyH.cons (o := _) ?e_6 ?st_6 AllReadyH.nil
       case e_6 => (simp only [xeA, xeB, xeC]; exact rfl)
       case st_6 =>
        intro K hK
        go_simp
        refine (HLN.out _).mono ?_
        rintro e wb ⟨rfl, hbb⟩
        have a0b := cell_later hbb a0
        have a1b := cell_later hbb a1
        have a2b := cell_later hbb a2
        have r0b := cell_later hbb r0
        have r1b := cell_later hbb r1
        have A4 := hid (Bk.below (w := w3.drew) A3.out hbb)
        have Z4 := hid (Bk.below (w := w3.drew) Z3.out hbb)
        have HBB := hid (Below.chain HBX.out.drew hbb)
        have fa1b : wb.frozen? ⟨w.heap.size, 1, none⟩ = false := A4.out.frozen 1
        have fa2b : wb.frozen? ⟨w.heap.size, 2, none⟩ = false := A4.out.frozen 2
        have z0b : wb.cell? ⟨w.heap.size + 1 + 1, 0, none⟩ = some (.string ⟨#[]⟩) := Z4.out.cell 0
        have z1b : wb.cell? ⟨w.heap.size + 1 + 1, 1, none⟩ = some (.string ⟨#[]⟩) := Z4.out.cell 1
        have z2b : wb.cell? ⟨w.heap.size + 1 + 1, 2, none⟩ = some (.int .i64 0) := Z4.out.cell 2
        have f0b : wb.frozen? ⟨w.heap.size + 1 + 1, 0, none⟩ = false := Z4.out.frozen 0
        have f1b : wb.frozen? ⟨w.heap.size + 1 + 1, 1, none⟩ = false := Z4.out.frozen 1
        have f2b : wb.frozen? ⟨w.heap.size + 1 + 1, 2, none⟩ = false := Z4.out.frozen 2
        clear hbb a0 a1 a2 r0 r1 z0 z1 z2 f0 f1 f2 A3 Z3 HBX
        refine hK.out _ _ ⟨a2b, r0b, r1b⟩ (fun hHeld => ?_)
        clear hK K
        try simp only [Act.put, xqA, xqB, xqC]
        refine' tkY 6 hHeld ?r_7
        try simp only [Act.put, xqA, xqB, xqC]
        refine' tkY 7 hHeld ?r_8
        try simp only [Act.put, xqA, xqB, xqC]
        refine wpAnyH_ready (rs := [8]) (by kernel_rfl) (by simp) ?_
        refine' AllReadyH.cons (o := _) ?e_9 ?st_9 AllReadyH.nil
        case e_9 => (simp only [xeA, xeB, xeC]; exact rfl)
        case st_9 =>
         intro K hK
         go_simp
         refine hK.out _ _ ⟨(World.cell?_setCell_other _ _ _ _ (by simp)).trans a2b, (World.cell?_setCell_other _ _ _ _ (by simp)).trans r0b, (World.cell?_setCell_other _ _ _ _ (by simp)).trans r1b⟩ (fun hHeld => ?_)
         clear hK K hHeld
         try simp only [Act.put, xqA, xqB, xqC]
         refine wpAnyH_done (by kernel_rfl) ?_ _
         go_wp2
         exact bodyPost_ret (v := .tuple #[.agg #[.string d, .string (p ++ X), .int .i64 (n + 1)], .int .i64 0]) (by simp [results, Tryz.results73, go_sem, a0b, a1b, a2b, z0b, z1b, z2b]) rfl (F.out _ (by have hb := HBB.out; exact ((((hb.setCell (p := ⟨w.heap.size, 1, none⟩) (Nat.le_refl _) _).setCell (p := ⟨w.heap.size, 2, none⟩) (Nat.le_refl _) _).setCell (p := ⟨w.heap.size + 1 + 1, 0, none⟩) (by show w.heap.size ≤ w.heap.size + 1 + 1; omega) _).setCell (p := ⟨w.heap.size + 1 + 1, 1, none⟩) (by show w.heap.size ≤ w.heap.size + 1 + 1; omega) _).setCell (p := ⟨w.heap.size + 1 + 1, 2, none⟩) (by show w.heap.size ≤ w.heap.size + 1 + 1; omega) _))
      case more_5 =>
       refine' AllReadyH.cons (o := _) ?e_10 ?st_10 AllReadyH.nil
       case e_10 => (simp only [xeA, xeB, xeC]; exact rfl)
       case st_10 =>
        intro K hK
        go_simp
        refine (HLN.out _).mono ?_
        rintro e wb ⟨rfl, hbb⟩
        have a0b := cell_later hbb a0
        have a1b := cell_later hbb a1
        have a2b := cell_later hbb a2
        have r0b := cell_later hbb r0
        have r1b := cell_later hbb r1
        have A4 := hid (Bk.below (w := w3.drew) A3.out hbb)
        have Z4 := hid (Bk.below (w := w3.drew) Z3.out hbb)
        have HBB := hid (Below.chain HBX.out.drew hbb)
        have fa1b : wb.frozen? ⟨w.heap.size, 1, none⟩ = false := A4.out.frozen 1
        have fa2b : wb.frozen? ⟨w.heap.size, 2, none⟩ = false := A4.out.frozen 2
        have z0b : wb.cell? ⟨w.heap.size + 1 + 1, 0, none⟩ = some (.string ⟨#[]⟩) := Z4.out.cell 0
        have z1b : wb.cell? ⟨w.heap.size + 1 + 1, 1, none⟩ = some (.string ⟨#[]⟩) := Z4.out.cell 1
        have z2b : wb.cell? ⟨w.heap.size + 1 + 1, 2, none⟩ = some (.int .i64 0) := Z4.out.cell 2
        have f0b : wb.frozen? ⟨w.heap.size + 1 + 1, 0, none⟩ = false := Z4.out.frozen 0
        have f1b : wb.frozen? ⟨w.heap.size + 1 + 1, 1, none⟩ = false := Z4.out.frozen 1
        have f2b : wb.frozen? ⟨w.heap.size + 1 + 1, 2, none⟩ = false := Z4.out.frozen 2
        clear hbb a0 a1 a2 r0 r1 z0 z1 z2 f0 f1 f2 A3 Z3 HBX
        refine hK.out _ _ ⟨a2b, r0b, r1b⟩ (fun hHeld => ?_)
        clear hK K
        try simp only [Act.put, xqA, xqB, xqC]
        refine wpAnyH_ready (rs := [1]) (by kernel_rfl) (by simp) ?_
        refine' AllReadyH.cons (o := _) ?e_11 ?st_11 AllReadyH.nil
        case e_11 => (simp only [xeA, xeB, xeC]; exact rfl)
        case st_11 =>
         intro K hK
         go_simp
         refine hK.out _ _ ⟨a2b, r0b, r1b⟩ (fun hHeld => ?_)
         clear hK K
         try simp only [Act.put, xqA, xqB, xqC]
         refine' tkY 6 hHeld ?r_12
         try simp only [Act.put, xqA, xqB, xqC]
         refine' tkY 7 hHeld ?r_13
         try simp only [Act.put, xqA, xqB, xqC]
         refine wpAnyH_ready (rs := [8]) (by kernel_rfl) (by simp) ?_
         refine' AllReadyH.cons (o := _) ?e_14 ?st_14 AllReadyH.nil
         case e_14 => (simp only [xeA, xeB, xeC]; exact rfl)
         case st_14 =>
          intro K hK
          go_simp
          refine hK.out _ _ ⟨(World.cell?_setCell_other _ _ _ _ (by simp)).trans a2b, (World.cell?_setCell_other _ _ _ _ (by simp)).trans r0b, (World.cell?_setCell_other _ _ _ _ (by simp)).trans r1b⟩ (fun hHeld => ?_)
          clear hK K hHeld
          try simp only [Act.put, xqA, xqB, xqC]
          refine wpAnyH_done (by kernel_rfl) ?_ _
          go_wp2
          exact bodyPost_ret (v := .tuple #[.agg #[.string d, .string (p ++ X), .int .i64 (n + 1)], .int .i64 0]) (by simp [results, Tryz.results73, go_sem, a0b, a1b, a2b, z0b, z1b, z2b]) rfl (F.out _ (by have hb := HBB.out; exact ((((hb.setCell (p := ⟨w.heap.size, 1, none⟩) (Nat.le_refl _) _).setCell (p := ⟨w.heap.size, 2, none⟩) (Nat.le_refl _) _).setCell (p := ⟨w.heap.size + 1 + 1, 0, none⟩) (by show w.heap.size ≤ w.heap.size + 1 + 1; omega) _).setCell (p := ⟨w.heap.size + 1 + 1, 1, none⟩) (by show w.heap.size ≤ w.heap.size + 1 + 1; omega) _).setCell (p := ⟨w.heap.size + 1 + 1, 2, none⟩) (by show w.heap.size ≤ w.heap.size + 1 + 1; omega) _))
      -- END
end Go.Proofs.YtohgjfdbnkjefaaGreatDoor
