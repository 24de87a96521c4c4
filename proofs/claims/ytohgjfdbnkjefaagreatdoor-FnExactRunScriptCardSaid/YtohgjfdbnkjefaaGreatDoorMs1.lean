import Derived.Test.YtohgjfdbnkjefaaGreatDoorKx25
import Derived.Deep.RegionHeld3
import Derived.Laws.IdiomStrings
namespace Go.Proofs.YtohgjfdbnkjefaaGreatDoor
open Go.RowKit
set_option linter.unusedVariables false
open Lib (hid)
theorem qBl {a : Nat} {b c : World} (h : Below a b c := by (repeat (first | exact Below.refl _ _ | exact (Below.refl _ _).drew | assumption | exact below_one _ | refine Below.chain ?_ (by assumption) | refine Below.drew ?_ | refine Below.alc ?_ _ | refine below_drewN ?_ | (refine Below.setCell ?_ ?_ _) | exact Nat.le_refl _ | (simp; done) | (simp; omega)))) : Below a b c := h
theorem below_mark {w a b : World} {lo : Nat} {v : Value} (h : Below w.heap.size w a) (hl : ∀ k, v.ownBlock = some k → lo ≤ k ∧ k < a.heap.size) (hlo : w.heap.size ≤ lo) (hg : a.grownBy b v.ownBlock) : Below w.heap.size w b :=
 h.grown hg h.size fun k hk => Nat.le_trans hlo (hl k hk).1
theorem ne_of {a b : Option Nat} {l1 u1 l2 u2 : Nat} (h1 : ∀ k, a = some k → l1 ≤ k ∧ k < u1) (h2 : ∀ k, b = some k → l2 ≤ k ∧ k < u2) (h : u1 ≤ l2 ∨ u2 ≤ l1) : b = none ∨ b ≠ a := by
 cases b with
 | none => exact .inl rfl
 | some k =>
  right; intro e
  have := h1 k e.symm; have := h2 k rfl; omega
theorem lt_mono {v : Value} {l u u' : Nat} (h : ∀ k, v.ownBlock = some k → l ≤ k ∧ k < u) (hu : u ≤ u') : ∀ k, v.ownBlock = some k → l ≤ k ∧ k < u' :=
 fun k hk => ⟨(h k hk).1, Nat.lt_of_lt_of_le (h k hk).2 hu⟩
/-! the grid of all pairs of a bar and a kind, and the states among them -/
set_option linter.unusedSimpArgs false
set_option maxRecDepth 100000
def mkS (k : Nat) : ByteArray := bs (109 :: Lib.decDigits k)
theorem bs_cons (c : UInt8) (l : List UInt8) : (⟨#[c]⟩ : ByteArray) ++ bs l = bs (c :: l) := ByteArray.ext (by simp [bs])
set_option maxHeartbeats 1000000 in
theorem markText_c (k : Nat) (h1 : 1 ≤ k) (h2 : k ≤ 1000000000) (w : World) : Calls Tryz.prog 78 #[.int .i64 (k : Int)] w fun e w' => e = .returned (.string (mkS k)) ∧ Below w.heap.size w w' := by
 have hd0 : decide ((k : Int) ≤ 0) = false := by simp; omega
 have HLk : Hid ((Lib.decDigits k).length ≤ 20) := by show _ ≤ _; rw [Lib.decDigits_length]; exact Lib.nDigits_le20 k (by omega)
 go_enter Tryz.func78, Tryz.ntmps78
 go_wp2
 go_loopw [0, 3] (fun q s wr => ∃ (m : Nat) (l : List UInt8), q = .int .i64 (m : Int) ∧ s = .string (bs l) ∧ m ≤ 1000000000 ∧ Hid ((if m = 0 then [] else Lib.decDigits m) ++ l = Lib.decDigits k) ∧ Below w.heap.size w wr) (fun q _ _ => (intOf q).toNat)
 case atStart => exact ⟨k, [], rfl, rfl, h2, by show _ = _; rw [if_neg (by omega), List.append_nil], Below.refl _ _⟩
 case round =>
  obtain ⟨m, l, rfl, rfl, hm, hE, hB⟩ := hrel
  have hl : l.length ≤ 20 := by have := congrArg List.length hE.out; have := HLk.out; rw [List.length_append] at *; omega
  by_cases h0 : 0 < m
  · have hd : decide ((0 : Int) < (m : Int)) = true := by simp; omega
    have hls : (bs l).size = l.length := bs_size l
    obtain ⟨c, hc⟩ : ∃ c, c = UInt8.ofNat (48 + m % 10) := ⟨_, rfl⟩
    have hn : (c.toNat : Int) = 48 + (m : Int) % 10 := by
     have : (UInt8.ofNat (48 + m % 10)).toNat = 48 + m % 10 := by simp; omega
     rw [hc, this]; omega
    have hcv : (convert 22 9 (.slice (some ⟨wr.heap.size, 0, none⟩) 1 1)).run Tryz.prog (wr.alloc (.cells #[.int .u8 (48 + (m : Int) % 10)] 5)) = .ok (.string ⟨#[c]⟩) (wr.alloc (.cells #[.int .u8 (48 + (m : Int) % 10)] 5)) :=
     run_convert_bytes_back (P := Tryz.prog) (wr.alloc (.cells #[.int .u8 (48 + (m : Int) % 10)] 5)) 22 9 5 ⟨wr.heap.size, 0, none⟩ 1 [c] Tryz.underlying22 Tryz.underlying5 Tryz.underlying9 (fun j hj => by
      obtain rfl : j = 0 := by simp at hj; exact hj
      rw [Addr.add_lit, World.cell?_alloc_at _ _ _ _ rfl]
      show some (Value.int .u8 _) = some (Value.int .u8 _)
      rw [show ([c][0]) = c from rfl, hn])
    have HBC := hid (bs_cons c l)
    have HC := hid hc
    clear hn hc
    go_wp2
    go_roundw
    case rel =>
     refine ⟨m / 10, c :: l, by go_num, by rw [HBC.out], by omega, ?_, by exact qBl⟩
     · show _ = _
       rw [← hE.out, if_neg (show ¬ m = 0 by omega), HC.out]
       by_cases h10 : m < 10
       · rw [if_pos (by omega), Lib.decDigits_one h10, show m % 10 = m by omega]; rfl
       · rw [if_neg (by omega), decDigits_big h10]; simp
    case measure => simp [intOf]; omega
  · obtain rfl : m = 0 := by omega
    have HF : Hid (mkS k = ⟨#[109]⟩ ++ bs l) := by
     have h := hE.out
     rw [if_pos rfl, List.nil_append] at h
     show _ = _
     rw [bs_cons, mkS, h]
    have hls : (bs l).size = l.length := bs_size l
    go_wp2
    go_ret
    exact ⟨by rw [HF.out]; rfl, hB⟩
def mkL (k0 m : Nat) : List Value := (List.range m).map fun j => Value.string (mkS (k0 + j))
theorem mkL_len (k0 m : Nat) : (mkL k0 m).length = m := by simp [mkL]
theorem mkL_succ (k0 m : Nat) : mkL k0 (m + 1) = mkL k0 m ++ [.string (mkS (k0 + m))] := by simp [mkL, List.range_succ]
theorem mkL_at {k0 m j : Nat} (h : j < m) : (mkL k0 m)[j]? = some (.string (mkS (k0 + j))) := by simp [mkL, h]
theorem mkL_set {k0 m : Nat} {xs : List Value} (h : m < xs.length) : (mkL k0 m ++ xs.drop m).set m (.string (mkS (k0 + m))) = mkL k0 (m + 1) ++ xs.drop (m + 1) := by
 rw [List.drop_eq_getElem_cons h, set_mid _ _ _ _ (mkL_len k0 m).symm, mkL_succ]; simp
theorem gr_some {w w' : World} {r : Option Nat} (h : w.grownBy w' none) : w.grownBy w' r := ⟨h.os, h.tape, h.output, h.size, fun k hk _ => h.block k hk (by simp)⟩
theorem wpList_loadL {ops : Array Oper} {rest : List Oper} {op : Oper} {a : Act} {w : World} {Q : Exit → Act → World → Prop} (hw : Region.wanted op (yielded ops a.tmps) = true) (x : Operand) (ho : op.op = .load 29 x)
 (g o : Nat) (hx : a.eval x = .pointer (some ⟨g, o, none⟩)) (d p : ByteArray) (n : Int) (hc : w.rangeAt g o (lgC d p n))
 (h : wpList Tryz.prog ops Q rest (a.put op.dst (.agg (lgC d p n).toArray)) w) : wpList Tryz.prog ops Q (op :: rest) a w :=
 wpList_load_want hw _ x ho g o hx _ _ hc Tryz.underlying29 rfl (by kernel_rfl) h
theorem csC_bench {w : World} {g : Nat} {b : List Int} {d p : ByteArray} {n : Int} (h : w.rangeAt g 0 (csC b d p n)) (hb : b.length = 19) : w.rangeAt g 0 (ints b) := by
 have := range_sub h 0 19
 rw [Nat.zero_add, List.drop_zero, csC, List.take_left' (by simp [hb])] at this
 exact this
theorem csC_log {w : World} {g : Nat} {b : List Int} {d p : ByteArray} {n : Int} (h : w.rangeAt g 0 (csC b d p n)) (hb : b.length = 19) : w.rangeAt g 19 (lgC d p n) := by
 have := range_sub h 19 3
 rw [Nat.zero_add, csC, List.drop_left' (by simp [hb])] at this
 exact this
theorem wpList_loadLL {ops : Array Oper} {rest : List Oper} {op : Oper} {a : Act} {w : World} {Q : Exit → Act → World → Prop} (hw : Region.wanted op (yielded ops a.tmps) = true) (x : Operand) (ho : op.op = .load 52 x)
 (g o : Nat) (hx : a.eval x = .pointer (some ⟨g, o, none⟩)) (d p : ByteArray) (n : Int) (hc : w.rangeAt g o (lgC d p n))
 (h : wpList Tryz.prog ops Q rest (a.put op.dst (.agg (lgC d p n).toArray)) w) : wpList Tryz.prog ops Q (op :: rest) a w :=
 wpList_load_want hw _ x ho g o hx _ _ hc Tryz.underlying52 rfl (by kernel_rfl) h
theorem lgC_one {d p : ByteArray} {n : Int} : ∀ v ∈ lgC d p n, v.oneCell' = true := fun v hv => by
 simp only [lgC, List.mem_cons, List.not_mem_nil, or_false] at hv
 rcases hv with rfl | rfl | rfl <;> rfl
theorem wpList_storeL {ops : Array Oper} {rest : List Oper} {op : Oper} {a : Act} {w : World} {Q : Exit → Act → World → Prop} (hw : Region.wanted op (yielded ops a.tmps) = true) (x y : Operand) (ho : op.op = .store 29 x y)
 (g o : Nat) (d p : ByteArray) (n : Int) (hx : a.eval x = .pointer (some ⟨g, o, none⟩)) (hy : a.eval y = .agg (lgC d p n).toArray) (ht : w.there g o 3)
 (h : wpList Tryz.prog ops Q rest (a.put op.dst undef) (w.setCells g o (lgC d p n))) : wpList Tryz.prog ops Q (op :: rest) a w :=
 wpList_store_want hw _ x y ho g o _ hx hy ht (by kernel_rfl) lgC_one h
theorem wpList_loadCL {ops : Array Oper} {rest : List Oper} {op : Oper} {a : Act} {w : World} {Q : Exit → Act → World → Prop} (hw : Region.wanted op (yielded ops a.tmps) = true) (x : Operand) (ho : op.op = .load 59 x)
 (g : Nat) (hx : a.eval x = .pointer (some ⟨g, 0, none⟩)) (b : List Int) (d p : ByteArray) (n : Int) (hc : w.rangeAt g 0 (csC b d p n)) (hb : b.length = 19)
 (h : wpList Tryz.prog ops Q rest (a.put op.dst (.agg (csC b d p n).toArray)) w) : wpList Tryz.prog ops Q (op :: rest) a w :=
 wpList_load_want hw _ x ho g 0 hx _ _ hc Tryz.underlying59 rfl (by rw [csC_len hb]; kernel_rfl) h
def consV (b : List Int) (d p : ByteArray) (n : Int) : Value := .agg (csC b d p n).toArray
theorem logV_lgC (d p : ByteArray) (n : Int) : logV d p n = .agg (lgC d p n).toArray := rfl
theorem szConsole_c (b : List Int) (d p : ByteArray) (n : Int) (w : World) (hb : b.length = 19) (hd : d.size ≤ 9223372036854775807) (hp : p.size ≤ 9223372036854775807) : Calls Tryz.prog 28 #[consV b d p n, .int .i64 1048576] w fun e w' => e = .returned (.int .i64 (szL d p 1048576)) ∧ Below w.heap.size w w' := by
 unfold consV
 have r0 := csC_log (range_new w (csC b d p n) 59) hb
 have hb0 := hid (below_one (w := w) (.cells (csC b d p n).toArray 59))
 have HZ := hid (fun w => szLog_c d p n 1048576 w (by omega) (by omega) hd hp)
 have hk := szL_bd d p 1048576 (by omega)
 simp only [logV_lgC] at HZ
 generalize szL d p 1048576 = kk at *
 by_cases h0 : kk < 0
 · have h1 : kk = -1 := by omega
   have H1 := hid h1
   have ht : decide (kk < 0) = true := by simp; omega
   clear h1 h0
   go_enter Tryz.func28, Tryz.ntmps28
   go_wp2_with (refine wpList_loadLL rfl _ rfl _ _ rfl d p n r0 ?_)
   refine (HZ.out _).mono ?_
   rintro e w1 ⟨rfl, hb1⟩
   go_wp2
   go_ret
   exact ⟨by rw [H1.out]; rfl, Below.chain hb0.out hb1⟩
 · have ht : decide (kk < 0) = false := by simp; omega
   clear h0
   go_enter Tryz.func28, Tryz.ntmps28
   go_wp2_with (refine wpList_loadLL rfl _ rfl _ _ rfl d p n r0 ?_)
   refine (HZ.out _).mono ?_
   rintro e w1 ⟨rfl, hb1⟩
   go_wp2
   go_ret
   exact ⟨rfl, Below.chain hb0.out hb1⟩
set_option maxHeartbeats 2000000 in
theorem toConsole_c (b : List Int) (d p : ByteArray) (n : Int) (w : World) (hb : b.length = 19) : Calls Tryz.prog 30 #[consV b d p n] w fun e w' => e = .returned (consV b d p n) ∧ Below w.heap.size w w' := by
 have r0 := World.rangeAt_alloc (World.rangeAt_alloc (range_new w (csC b d p n) 59) (.cells zCA 31)) (.cells zCA 31)
 have t1 := World.there_alloc (there_new (w.alloc (.cells (csC b d p n).toArray 59)) zCA 31 (n := 22) (by decide)) (.cells zCA 31)
 have t2 := there_new ((w.alloc (.cells (csC b d p n).toArray 59)).alloc (.cells zCA 31)) zCA 31 (n := 22) (by decide)
 have hb0 : Below w.heap.size w (((w.alloc (.cells (csC b d p n).toArray 59)).alloc (.cells zCA 31)).alloc (.cells zCA 31)) := qBl
 simp only [World.size_alloc] at t1 t2
 have HTL := hid (fun w => toLog_c d p n w)
 simp only [logV_lgC] at HTL
 have b0 := csC_bench r0 hb
 unfold consV
 unfold zCA at *
 go_enter Tryz.func30, Tryz.ntmps30
 go_wp2_with (refine wpList_loadBL rfl _ rfl _ rfl b b0 hb ?_)
 refine (toBench_c b _ hb).mono ?_
 rintro e w1 ⟨rfl, hb1⟩
 unfold aggI
 have q1 := there_below t1 hb1
 have q2 := there_below t2 hb1
 have hil : (ints b).length = 19 := by simp [ints, hb]
 have hB1 := below_cells (ints b) _ (w.heap.size + 1 + 1) 0 (Below.chain hb0 hb1) (by omega)
 have r1 := World.rangeAt_setCells_apart (range_below r0 hb1) (w.heap.size + 1 + 1) 0 (ints b) (.inl (by omega))
 have u1 := World.there_setCells q1 (w.heap.size + 1 + 1) 0 (ints b)
 have v1 := World.there_setCells q2 (w.heap.size + 1 + 1) 0 (ints b)
 have c1 := World.rangeAt_setCells_same w1 (w.heap.size + 1 + 1) 0 (ints b) (there_sub q2 (by omega) (by omega))
 have qs := there_sub q2 (o' := 0) (n' := 19) (by omega) (by omega)
 have l1 := csC_log r1 hb
 clear r0 t1 t2 hb0 b0 hb1 q1 q2
 go_wp2_with (first | (refine wpList_storeB rfl _ _ rfl _ b rfl rfl qs hb ?_) | (refine wpList_loadLL rfl _ rfl _ _ rfl d p n l1 ?_))
 refine (HTL.out _).mono ?_
 rintro e w2 ⟨rfl, hb2⟩
 have q1 := there_below u1 hb2
 have q2 := there_below v1 hb2
 have hB2 := below_cells (lgC d p n) _ (w.heap.size + 1 + 1) 19 (Below.chain hB1 hb2) (by omega)
 have u2 := World.there_setCells q1 (w.heap.size + 1 + 1) 19 (lgC d p n)
 have c2 := range_grow (range_below c1 hb2) (ys := lgC d p n) (there_sub q2 (by omega) (by rw [hil]; exact Nat.le_refl _))
 rw [hil] at c2
 have qs2 := there_sub q2 (o' := 19) (n' := 3) (by omega) (by omega)
 have hk2 := World.rangeAt_setCells_same _ (w.heap.size + 1) 0 (csC b d p n) (by rw [csC_len hb]; exact u2)
 have hB5 := below_cells (csC b d p n) _ (w.heap.size + 1) 0 hB2 (by omega)
 have hld := loadVarC hk2 hb
 clear r1 u1 v1 c1 qs l1 hB1 hb2 q1 q2
 go_wp2_with (first | (refine wpList_storeL rfl _ _ rfl _ _ d p n rfl rfl qs2 ?_) | (refine wpList_loadC rfl _ rfl _ rfl b d p n c2 hb ?_) | (refine wpList_storeC rfl _ _ rfl _ b d p n rfl rfl u2 hb ?_))
 exact bodyPost_ret (v := .agg (csC b d p n).toArray) (res_cell Tryz.results30 rfl hld) rfl ⟨rfl, hB5⟩
def ConsOut (b : List Int) (d p : ByteArray) (n : Int) (w : World) (e : Ending) (w' : World) : Prop :=
 ∃ ok, e = .returned (.bool ok) ∧ (ok = true ↔ (goodB b = true ∧ ∃ es, ValidL d.data.toList p.data.toList n es)) ∧ Below w.heap.size w w'
set_option maxHeartbeats 1000000 in
theorem IsValidConsole_c (b : List Int) (d p : ByteArray) (n : Int) (w : World) (hb : b.length = 19) (hd : d.size ≤ 1048576) (hp : p.size ≤ 1048576) (ht : Tab w) : Calls Tryz.prog 43 #[consV b d p n] w (ConsOut b d p n w) := by
 unfold consV
 have r0 := range_new w (csC b d p n) 31
 have b0 := csC_bench r0 hb
 have hb0 := hid (below_one (w := w) (.cells (csC b d p n).toArray 31))
 have HV := hid (fun w => IsValidLog_c d p n w hd hp)
 simp only [logV_lgC] at HV
 have HT := hid ht
 clear ht
 rcases hg : goodB b with _ | _
 · have HG := hid hg
   clear hg
   go_enter Tryz.func43, Tryz.ntmps43
   go_wp2_with (refine wpList_loadB rfl _ rfl _ rfl b b0 hb ?_)
   refine (IsBench_c b _ hb).mono ?_
   rintro e w1 ⟨rfl, hb1⟩
   rw [HG.out]
   go_wp2
   go_ret
   exact ⟨false, rfl, ⟨(fun h => by cases h), fun h => by rw [HG.out] at h; exact h.1⟩, Below.chain hb0.out hb1⟩
 · have HG := hid hg
   clear hg
   go_enter Tryz.func43, Tryz.ntmps43
   go_wp2_with (refine wpList_loadB rfl _ rfl _ rfl b b0 hb ?_)
   refine (IsBench_c b _ hb).mono ?_
   rintro e w1 ⟨rfl, hb1⟩
   rw [HG.out]
   have l1 := csC_log (range_below r0 hb1) hb
   have HB1 := hid (Below.chain hb0.out hb1)
   clear r0 b0 hb1
   go_wp2_with (refine wpList_loadL rfl _ rfl _ _ rfl d p n l1 ?_)
   refine (HV.out _ (HT.out.on HB1.out)).mono ?_
   rintro e w2 ⟨ok, rfl, hi, hb2⟩
   have HI := hid hi
   clear hi
   go_wp2
   go_ret
   exact ⟨ok, rfl, HI.out.trans ⟨fun h => ⟨HG.out, h⟩, fun h => h.2⟩, Below.chain HB1.out hb2⟩
set_option maxHeartbeats 1000000 in
theorem IsValidConsoleS_c (b : List Int) (d p : ByteArray) (n : Int) (w : World) (hb : b.length = 19) (hd : d.size ≤ 1048576) (hp : p.size ≤ 1048576) : Calls Tryz.prog 44 #[consV b d p n] w (ConsOut b d p n w) := by
 unfold consV
 have r0 := range_new w (csC b d p n) 31
 have b0 := csC_bench r0 hb
 have hb0 := hid (below_one (w := w) (.cells (csC b d p n).toArray 31))
 have HV := hid (fun w => l12Valid_c d p n w hd hp)
 simp only [logV_lgC] at HV
 rcases hg : goodB b with _ | _
 · have HG := hid hg
   clear hg
   go_enter Tryz.func44, Tryz.ntmps44
   go_wp2_with (refine wpList_loadB rfl _ rfl _ rfl b b0 hb ?_)
   refine (l12Good_c b _ hb).mono ?_
   rintro e w1 ⟨rfl, hb1⟩
   rw [HG.out]
   go_wp2
   go_ret
   exact ⟨false, rfl, ⟨(fun h => by cases h), fun h => by rw [HG.out] at h; exact h.1⟩, Below.chain hb0.out hb1⟩
 · have HG := hid hg
   clear hg
   go_enter Tryz.func44, Tryz.ntmps44
   go_wp2_with (refine wpList_loadB rfl _ rfl _ rfl b b0 hb ?_)
   refine (l12Good_c b _ hb).mono ?_
   rintro e w1 ⟨rfl, hb1⟩
   rw [HG.out]
   have l1 := csC_log (range_below r0 hb1) hb
   have HB1 := hid (Below.chain hb0.out hb1)
   clear r0 b0 hb1
   go_wp2_with (refine wpList_loadL rfl _ rfl _ _ rfl d p n l1 ?_)
   refine (HV.out _).mono ?_
   rintro e w2 ⟨ok, rfl, hi, hb2⟩
   have HI := hid hi
   clear hi
   go_wp2
   go_ret
   exact ⟨ok, rfl, HI.out.trans ⟨fun h => ⟨HG.out, h⟩, fun h => h.2⟩, Below.chain HB1.out hb2⟩
theorem snocL {α : Type} {M : List α → Prop} (h0 : M []) (h1 : ∀ l x, M l → M (l ++ [x])) (l : List α) : M l := by
 have key : ∀ (k : Nat) (l : List α), l.length = k → M l := by
  intro k
  induction k with
  | zero => intro l hl; rw [List.eq_nil_of_length_eq_zero hl]; exact h0
  | succ k ih =>
   intro l hl
   rcases List.eq_nil_or_concat l with rfl | ⟨t, x, rfl⟩
   · exact h0
   · rw [List.concat_eq_append] at hl ⊢
     exact h1 t x (ih t (by rw [List.length_append] at hl; simpa using hl))
 exact key l.length l rfl
structure Cst where
 b : List Int
 d : ByteArray
 p : ByteArray
 n : Int
def Cst.val (c : Cst) : Value := consV c.b c.d c.p c.n
def Cst.ok (c : Cst) : Prop := goodB c.b = true ∧ ∃ es, ValidL c.d.data.toList c.p.data.toList c.n es
structure Cst.fit (c : Cst) : Prop where
 hb : c.b.length = 19
 hd : c.d.size ≤ 1048576
 hp : c.p.size ≤ 1048576
def tNo : Bs := [110, 111]
def tBad : Bs := [98, 97, 100]
def tFull : Bs := [102, 117, 108, 108]
def doneC (c : Cst) (line : ByteArray) : Cst := ⟨(execM c.b line.data.toList).1, c.d, c.p ++ bs (lineS c.n line.data.toList (sayO (execM c.b line.data.toList).2)), c.n + 1⟩
def stepV (ok : Bool) (c : Cst) (line : ByteArray) : Cst × Bs :=
 if ok = false then (c, tNo) else if cmdB line = false then (c, tBad) else if c.n = 60 then (c, tFull) else (doneC c line, sayO (execM c.b line.data.toList).2)
theorem stepV_no {c : Cst} {line : ByteArray} : stepV false c line = (c, tNo) := rfl
theorem stepV_bad {c : Cst} {line : ByteArray} (h : cmdB line = false) : stepV true c line = (c, tBad) := by unfold stepV; rw [if_neg (by simp), if_pos h]
theorem stepV_full {c : Cst} {line : ByteArray} (h : cmdB line = true) (hn : c.n = 60) : stepV true c line = (c, tFull) := by unfold stepV; rw [if_neg (by simp), if_neg (by rw [h]; simp), if_pos hn]
theorem stepV_done {c : Cst} {line : ByteArray} (h : cmdB line = true) (hn : c.n ≠ 60) : stepV true c line = (doneC c line, sayO (execM c.b line.data.toList).2) := by unfold stepV; rw [if_neg (by simp), if_neg (by rw [h]; simp), if_neg hn]
def ExOut (c : Cst) (line : ByteArray) (w : World) (e : Ending) (w' : World) : Prop :=
 ∃ ok, e = .returned (.tuple #[(stepV ok c line).1.val, .string (bs (stepV ok c line).2)]) ∧ (ok = true ↔ c.ok) ∧ Below w.heap.size w w'
theorem okE_of {line : ByteArray} {r : Bs} (h : recB line (bs r) = true) : OkE (line.data.toList, r) := by
 have := recB_iff.1 h
 rw [bs_list] at this; exact this
theorem done_valid {c : Cst} {line : ByteArray} {es : List (Bs × Bs)} (hb : c.b.length = 19) (hg : goodB c.b = true) (hv : ValidL c.d.data.toList c.p.data.toList c.n es) (hc : cmdB line = true) (hn : c.n ≠ 60) :
 ValidL (doneC c line).d.data.toList (doneC c line).p.data.toList (doneC c line).n (es ++ [(line.data.toList, sayO (execM c.b line.data.toList).2)]) := by
 have := hv.snoc (e := (line.data.toList, sayO (execM c.b line.data.toList).2)) (okE_of (recB_of hc (sayM_rp hb hg _))) hn
 unfold doneC
 simp only
 rw [app_list, bs_list]
 exact this
theorem valid_small {c : Cst} {es : List (Bs × Bs)} (hv : ValidL c.d.data.toList c.p.data.toList c.n es) : c.d.size ≤ 30000 ∧ c.p.size ≤ 30000 := by
 have := hv.sz
 rw [List.length_append, ba_len, ba_len] at this
 omega
theorem stepV_ok {c : Cst} (line : ByteArray) (hb : c.b.length = 19) (h : c.ok) : (stepV true c line).1.b.length = 19 ∧ (stepV true c line).1.ok := by
 cases hc : cmdB line with
 | false => rw [stepV_bad hc]; exact ⟨hb, h⟩
 | true =>
  by_cases hn : c.n = 60
  · rw [stepV_full hc hn]; exact ⟨hb, h⟩
  · rw [stepV_done hc hn]
    obtain ⟨hg, es, hv⟩ := h
    have hx := (execM_ok hb hg line.data.toList).1
    exact ⟨hx.1, hx.2, _, done_valid hb hg hv hc hn⟩
theorem ok_fit {c : Cst} (hb : c.b.length = 19) (h : c.ok) : c.fit := by
 obtain ⟨_, es, hv⟩ := h
 have := valid_small hv
 exact ⟨hb, by omega, by omega⟩
theorem ex_yes {c : Cst} {line : ByteArray} {w w' : World} {e : Ending} (h : c.ok) (ho : ExOut c line w e w') : e = .returned (.tuple #[(stepV true c line).1.val, .string (bs (stepV true c line).2)]) ∧ Below w.heap.size w w' := by
 obtain ⟨ok, rfl, hi, hb⟩ := ho
 rw [hi.2 h]; exact ⟨rfl, hb⟩
def runS (c : Cst) (ls : List Bs) : Cst × List Bs := ls.foldl (fun s l => ((stepV true s.1 (bs l)).1, s.2 ++ [(stepV true s.1 (bs l)).2])) (c, [])
theorem runS_snoc (c : Cst) (ls : List Bs) (l : Bs) : runS c (ls ++ [l]) = ((stepV true (runS c ls).1 (bs l)).1, (runS c ls).2 ++ [(stepV true (runS c ls).1 (bs l)).2]) := by unfold runS; rw [List.foldl_append]; rfl
theorem runS_len (c : Cst) (ls : List Bs) : (runS c ls).2.length = ls.length := by
 refine snocL (M := fun ls => (runS c ls).2.length = ls.length) rfl (fun l x ih => ?_) ls
 rw [runS_snoc, List.length_append, List.length_append, ih]; rfl
theorem runS_ok {c : Cst} (hb : c.b.length = 19) (h : c.ok) (ls : List Bs) : (runS c ls).1.b.length = 19 ∧ (runS c ls).1.ok := by
 refine snocL (M := fun ls => (runS c ls).1.b.length = 19 ∧ (runS c ls).1.ok) ⟨hb, h⟩ (fun l x ih => ?_) ls
 rw [runS_snoc]
 exact stepV_ok _ ih.1 ih.2
def repI : Cst → List (Bs × Bs) → Nat
 | _, [] => 0
 | c, e :: t => if (stepV true c (bs e.1)).2 = e.2 then repI (stepV true c (bs e.1)).1 t + 1 else 0
def repS : Cst → List (Bs × Bs) → Option Cst
 | c, [] => some c
 | c, e :: t => if (stepV true c (bs e.1)).2 = e.2 then repS (stepV true c (bs e.1)).1 t else none
theorem repI_yes {c : Cst} {e : Bs × Bs} {t : List (Bs × Bs)} (hx : (stepV true c (bs e.1)).2 = e.2) : repI c (e :: t) = repI (stepV true c (bs e.1)).1 t + 1 := if_pos hx
theorem repI_not {c : Cst} {e : Bs × Bs} {t : List (Bs × Bs)} (hx : (stepV true c (bs e.1)).2 ≠ e.2) : repI c (e :: t) = 0 := if_neg hx
theorem repS_all {c c' : Cst} {es : List (Bs × Bs)} (h : repS c es = some c') : repI c es = es.length := by
 induction es generalizing c with
 | nil => rfl
 | cons x t ih =>
  unfold repS at h
  split at h
  · rename_i hx
    unfold repI
    rw [if_pos hx, ih h]; rfl
  · cases h
def Replays (c0 c : Cst) : Prop := ∃ es, ValidL c.d.data.toList c.p.data.toList c.n es ∧ repS c0 es = some c
theorem Replays.count {c0 c : Cst} (h : Replays c0 c) : ∃ es, ValidL c.d.data.toList c.p.data.toList c.n es ∧ (repI c0 es : Int) = c.n := by
 obtain ⟨es, hv, hr⟩ := h
 exact ⟨es, hv, by rw [repS_all hr, hv.cnt]⟩
def RepAt (c0 : Cst) (es : List (Bs × Bs)) (k : Nat) (c : Cst) : Prop := repI c0 es = k + repI c (es.drop k)
theorem RepAt.zero (c0 : Cst) (es : List (Bs × Bs)) : RepAt c0 es 0 c0 := by unfold RepAt; simp
theorem RepAt.next {c0 c : Cst} {es : List (Bs × Bs)} {k : Nat} {e : Bs × Bs} (h : RepAt c0 es k c) (he : es[k]? = some e) (hx : (stepV true c (bs e.1)).2 = e.2) : RepAt c0 es (k + 1) (stepV true c (bs e.1)).1 := by
 unfold RepAt at *
 rw [h, drop_at he, repI_yes hx]
 omega
theorem RepAt.stop {c0 c : Cst} {es : List (Bs × Bs)} {k : Nat} {e : Bs × Bs} (h : RepAt c0 es k c) (he : es[k]? = some e) (hx : (stepV true c (bs e.1)).2 ≠ e.2) : repI c0 es = k := by
 unfold RepAt at *
 rw [h, drop_at he, repI_not hx]; rfl
theorem RepAt.done {c0 c : Cst} {es : List (Bs × Bs)} (h : RepAt c0 es es.length c) : repI c0 es = es.length := by
 unfold RepAt at h
 rw [h, List.drop_length]; rfl
set_option maxHeartbeats 4000000 in
theorem AppendRecordS_c (d p : ByteArray) (n : Int) (c r : ByteArray) (w : World) (hd : d.size ≤ 1048576) (hp : p.size ≤ 1048576) (hc : c.size ≤ 1048576) (hr : r.size ≤ 1048576) : Calls Tryz.prog 73 #[logV d p n, recV c r] w (AppOut d p n c r w) := by
 have HV := hid (fun w => l12Valid_c d p n w hd hp)
 have HRV := hid (l12Record_c c r)
 have hbA := below_one (w := w) (.cells #[.string d, .string p, .int .i64 n] 29)
 have hbB := Below.alc hbA (.cells #[.string c, .string r] 76)
 have hb0 := hid (Below.alc hbB (.cells #[.string ⟨#[]⟩, .string ⟨#[]⟩, .int .i64 0] 29))
 have A0 := hid (((Bk.new w 29 #[.string d, .string p, .int .i64 n]).alloc (.cells #[.string c, .string r] 76)).alloc (.cells #[.string ⟨#[]⟩, .string ⟨#[]⟩, .int .i64 0] 29))
 have R0 := Bk.alloc (Bk.new (w.alloc (.cells #[.string d, .string p, .int .i64 n] 29)) 76 #[.string c, .string r]) (.cells #[.string ⟨#[]⟩, .string ⟨#[]⟩, .int .i64 0] 29)
 have Z0 := Bk.new ((w.alloc (.cells #[.string d, .string p, .int .i64 n] 29)).alloc (.cells #[.string c, .string r] 76)) 29 #[.string ⟨#[]⟩, .string ⟨#[]⟩, .int .i64 0]
 simp only [World.size_alloc] at R0 Z0
 have HR0 := hid R0
 have HZ0 := hid Z0
 clear hbA hbB R0 Z0
 unfold logV recV at *
 go_enter Tryz.func73, Tryz.ntmps73
 go_wp2_with fail
 refine (HV.out _).mono ?_
 rintro e w2 ⟨ok, rfl, hiff, hb2⟩
 have A2 := hid (A0.out.below hb2)
 have R2 := hid (HR0.out.below hb2)
 have Z2 := hid (HZ0.out.below hb2)
 have HBX := hid (Below.chain hb0.out hb2)
 have HI := hid hiff
 clear hb2 A0 HR0 HZ0 hb0 hiff HV
 have a0 : w2.cell? ⟨w.heap.size, 0, none⟩ = some (.string d) := A2.out.cell 0
 have a1 : w2.cell? ⟨w.heap.size, 1, none⟩ = some (.string p) := A2.out.cell 1
 have a2 : w2.cell? ⟨w.heap.size, 2, none⟩ = some (.int .i64 n) := A2.out.cell 2
 have r0 : w2.cell? ⟨w.heap.size + 1, 0, none⟩ = some (.string c) := R2.out.cell 0
 have r1 : w2.cell? ⟨w.heap.size + 1, 1, none⟩ = some (.string r) := R2.out.cell 1
 have z0 : w2.cell? ⟨w.heap.size + 1 + 1, 0, none⟩ = some (.string ⟨#[]⟩) := Z2.out.cell 0
 have z1 : w2.cell? ⟨w.heap.size + 1 + 1, 1, none⟩ = some (.string ⟨#[]⟩) := Z2.out.cell 1
 have z2 : w2.cell? ⟨w.heap.size + 1 + 1, 2, none⟩ = some (.int .i64 0) := Z2.out.cell 2
 have f0 : w2.frozen? ⟨w.heap.size + 1 + 1, 0, none⟩ = false := Z2.out.frozen 0
 have f1 : w2.frozen? ⟨w.heap.size + 1 + 1, 1, none⟩ = false := Z2.out.frozen 1
 have f2 : w2.frozen? ⟨w.heap.size + 1 + 1, 2, none⟩ = false := Z2.out.frozen 2
 have FIN : Hid (∀ X w', appV ok (recB c r) d p n c r = X → Below w.heap.size w w' → AppOut d p n c r w (.returned (.tuple #[X.1, .int .i64 X.2])) w') := fun X w' hX hb => by
  subst hX; exact ⟨ok, rfl, HI.out, hb⟩
 cases ok with
 | false =>
  have F := hid (fun w' => FIN.out _ w' (appV_no rfl))
  unfold logV at F
  clear FIN
  go_wp2
  exact bodyPost_ret (v := .tuple #[.agg #[.string d, .string p, .int .i64 n], .int .i64 1]) (by simp [results, Tryz.results73, go_sem, z0, z1, z2]) rfl (F.out _ (by have hb := HBX.out; exact ((hb.setCell (p := ⟨w.heap.size + 1 + 1, 0, none⟩) (by show w.heap.size ≤ w.heap.size + 1 + 1; omega) _).setCell (p := ⟨w.heap.size + 1 + 1, 1, none⟩) (by show w.heap.size ≤ w.heap.size + 1 + 1; omega) _).setCell (p := ⟨w.heap.size + 1 + 1, 2, none⟩) (by show w.heap.size ≤ w.heap.size + 1 + 1; omega) _))
 | true =>
  go_wp2_with fail
  refine (HRV.out _ (by omega) (by omega)).mono ?_
  rintro e w3 ⟨rfl, hb2⟩
  have A3 := hid (A2.out.below hb2)
  have R3 := hid (R2.out.below hb2)
  have Z3 := hid (Z2.out.below hb2)
  have HBX3 := hid (Below.chain HBX.out hb2)
  clear hb2 A2 R2 Z2 a0 a1 a2 r0 r1 z0 z1 z2 f0 f1 f2 HBX
  have a0 : w3.cell? ⟨w.heap.size, 0, none⟩ = some (.string d) := A3.out.cell 0
  have a1 : w3.cell? ⟨w.heap.size, 1, none⟩ = some (.string p) := A3.out.cell 1
  have a2 : w3.cell? ⟨w.heap.size, 2, none⟩ = some (.int .i64 n) := A3.out.cell 2
  have r0 : w3.cell? ⟨w.heap.size + 1, 0, none⟩ = some (.string c) := R3.out.cell 0
  have r1 : w3.cell? ⟨w.heap.size + 1, 1, none⟩ = some (.string r) := R3.out.cell 1
  have z0 : w3.cell? ⟨w.heap.size + 1 + 1, 0, none⟩ = some (.string ⟨#[]⟩) := Z3.out.cell 0
  have z1 : w3.cell? ⟨w.heap.size + 1 + 1, 1, none⟩ = some (.string ⟨#[]⟩) := Z3.out.cell 1
  have z2 : w3.cell? ⟨w.heap.size + 1 + 1, 2, none⟩ = some (.int .i64 0) := Z3.out.cell 2
  have f0 : w3.frozen? ⟨w.heap.size + 1 + 1, 0, none⟩ = false := Z3.out.frozen 0
  have f1 : w3.frozen? ⟨w.heap.size + 1 + 1, 1, none⟩ = false := Z3.out.frozen 1
  have f2 : w3.frozen? ⟨w.heap.size + 1 + 1, 2, none⟩ = false := Z3.out.frozen 2
  have HBX := HBX3
  clear HBX3
  rcases hrc : recB c r with _ | _
  · rw [hrc] at FIN
    have F := hid (fun w' => FIN.out _ w' (appV_no rfl))
    unfold logV at F
    clear FIN hrc
    go_wp2
    exact bodyPost_ret (v := .tuple #[.agg #[.string d, .string p, .int .i64 n], .int .i64 1]) (by simp [results, Tryz.results73, go_sem, z0, z1, z2]) rfl (F.out _ (by have hb := HBX.out; exact ((hb.setCell (p := ⟨w.heap.size + 1 + 1, 0, none⟩) (by show w.heap.size ≤ w.heap.size + 1 + 1; omega) _).setCell (p := ⟨w.heap.size + 1 + 1, 1, none⟩) (by show w.heap.size ≤ w.heap.size + 1 + 1; omega) _).setCell (p := ⟨w.heap.size + 1 + 1, 2, none⟩) (by show w.heap.size ≤ w.heap.size + 1 + 1; omega) _))
  · have HRC := hid hrc
    rw [hrc] at FIN
    clear hrc
    by_cases h60 : n = 60
    · have t60 : (n == 60) = true := by rw [h60]; rfl
      have F := hid (fun w' => FIN.out _ w' (appV_full h60))
      unfold logV at F
      clear FIN h60
      go_wp2
      exact bodyPost_ret (v := .tuple #[.agg #[.string d, .string p, .int .i64 n], .int .i64 2]) (by simp [results, Tryz.results73, go_sem, z0, z1, z2]) rfl (F.out _ (by have hb := HBX.out; exact ((hb.setCell (p := ⟨w.heap.size + 1 + 1, 0, none⟩) (by show w.heap.size ≤ w.heap.size + 1 + 1; omega) _).setCell (p := ⟨w.heap.size + 1 + 1, 1, none⟩) (by show w.heap.size ≤ w.heap.size + 1 + 1; omega) _).setCell (p := ⟨w.heap.size + 1 + 1, 2, none⟩) (by show w.heap.size ≤ w.heap.size + 1 + 1; omega) _))
    · have t60 : (n == 60) = false := by simp; exact h60
      have F := hid (fun w' => FIN.out _ w' (appV_yes h60))
      unfold logV at F
      obtain ⟨es, hes⟩ := HI.out.1 trivial
      obtain ⟨hn0, hn1, hin, hsz⟩ := app_line hes h60 HRC.out
      have HLN : Hid (∀ w, Calls Tryz.prog 131 #[.int .i64 n, .agg #[.string c, .string r]] w fun e w' => e = .returned (.string (bs (lineS n c.data.toList r.data.toList))) ∧ Below w.heap.size w w') := fun w => by
       have h := l12Line_c n.toNat (by omega) c r w hc hr
       rw [show ((n.toNat : Nat) : Int) = n by omega] at h
       exact h
      clear FIN h60 hes hin
      generalize bs (lineS n c.data.toList r.data.toList) = X at *
      have hXs : ¬ (9223372036854775807 < p.size + X.size) := by omega
      have hw1 : IntKind.i64.wrap (n + 1) = n + 1 := IntWalk.i64_in _ (by omega)
      go_wp2_with fail
      -- REGION
      refine wp_region_held_drew (S := fun w' : World => w'.cell? ⟨w.heap.size, 2, none⟩ = some (.int .i64 n) ∧ w'.cell? ⟨w.heap.size + 1, 0, none⟩ = some (.string c) ∧ w'.cell? ⟨w.heap.size + 1, 1, none⟩ = some (.string r)) (by kernel_rfl) ⟨a2, r0, r1⟩ (fun hHeld => ?_)
      refine' tkY 0 hHeld ?r_1
      try simp only [Act.put, xqA, xqB, xqC]
      refine' tkY 2 hHeld ?r_2
      try simp only [Act.put, xqA, xqB, xqC]
      refine' tkX 3 hHeld ?y_3 ?r_3
      case y_3 => exact Or.inl ⟨by rfl, by (intro w hSw; (obtain ⟨hs1, hs2, hs3⟩ := hSw); go_simp; first | done | with_reducible rfl)⟩
      try simp only [Act.put, xqA, xqB, xqC]
      refine' tkX 4 hHeld ?y_4 ?r_4
      case y_4 => exact Or.inl ⟨by rfl, by (intro w hSw; (obtain ⟨hs1, hs2, hs3⟩ := hSw); go_simp; first | done | with_reducible rfl)⟩
      try simp only [Act.put, xqA, xqB, xqC]
      refine wpAnyH_ready (rs := [1, 5]) (by kernel_rfl) (by simp) ?_
      refine' AllReadyH.cons (o := _) ?e_5 ?st_5 ?more_5
      case e_5 => (simp only [xeA, xeB, xeC]; exact rfl)
      case st_5 =>
       intro K hK
       go_simp
       refine hK.out _ _ ⟨a2, r0, r1⟩ (fun hHeld => ?_)
       clear hK K
       try simp only [Act.put, xqA, xqB, xqC]
       refine wpAnyH_ready (rs := [5]) (by kernel_rfl) (by simp) ?_
       refine' AllReadyH.cons (o := _) ?e_6 ?st_6 AllReadyH.nil
       case e_6 => (simp only [xeA, xeB, xeC]; exact rfl)
       case st_6 =>
        intro K hK
        go_simp
        refine (HLN.out _).mono ?_
        rintro e wb ⟨rfl, hbb⟩
        have a0b := cell_later hbb a0
        have a1b := cell_later hbb a1
        have a2b := cell_later hbb a2
        have r0b := cell_later hbb r0
        have r1b := cell_later hbb r1
        have A4 := hid (Bk.below (w := w3.drew) A3.out hbb)
        have Z4 := hid (Bk.below (w := w3.drew) Z3.out hbb)
        have HBB := hid (Below.chain HBX.out.drew hbb)
        have fa1b : wb.frozen? ⟨w.heap.size, 1, none⟩ = false := A4.out.frozen 1
        have fa2b : wb.frozen? ⟨w.heap.size, 2, none⟩ = false := A4.out.frozen 2
        have z0b : wb.cell? ⟨w.heap.size + 1 + 1, 0, none⟩ = some (.string ⟨#[]⟩) := Z4.out.cell 0
        have z1b : wb.cell? ⟨w.heap.size + 1 + 1, 1, none⟩ = some (.string ⟨#[]⟩) := Z4.out.cell 1
        have z2b : wb.cell? ⟨w.heap.size + 1 + 1, 2, none⟩ = some (.int .i64 0) := Z4.out.cell 2
        have f0b : wb.frozen? ⟨w.heap.size + 1 + 1, 0, none⟩ = false := Z4.out.frozen 0
        have f1b : wb.frozen? ⟨w.heap.size + 1 + 1, 1, none⟩ = false := Z4.out.frozen 1
        have f2b : wb.frozen? ⟨w.heap.size + 1 + 1, 2, none⟩ = false := Z4.out.frozen 2
        clear hbb a0 a1 a2 r0 r1 z0 z1 z2 f0 f1 f2 A3 Z3 HBX
        refine hK.out _ _ ⟨a2b, r0b, r1b⟩ (fun hHeld => ?_)
        clear hK K
        try simp only [Act.put, xqA, xqB, xqC]
        refine' tkY 6 hHeld ?r_7
        try simp only [Act.put, xqA, xqB, xqC]
        refine' tkY 7 hHeld ?r_8
        try simp only [Act.put, xqA, xqB, xqC]
        refine wpAnyH_ready (rs := [8]) (by kernel_rfl) (by simp) ?_
        refine' AllReadyH.cons (o := _) ?e_9 ?st_9 AllReadyH.nil
        case e_9 => (simp only [xeA, xeB, xeC]; exact rfl)
        case st_9 =>
         intro K hK
         go_simp
         refine hK.out _ _ ⟨(World.cell?_setCell_other _ _ _ _ (by simp)).trans a2b, (World.cell?_setCell_other _ _ _ _ (by simp)).trans r0b, (World.cell?_setCell_other _ _ _ _ (by simp)).trans r1b⟩ (fun hHeld => ?_)
         clear hK K hHeld
         try simp only [Act.put, xqA, xqB, xqC]
         refine wpAnyH_done (by kernel_rfl) ?_ _
         go_wp2
         exact bodyPost_ret (v := .tuple #[.agg #[.string d, .string (p ++ X), .int .i64 (n + 1)], .int .i64 0]) (by simp [results, Tryz.results73, go_sem, a0b, a1b, a2b, z0b, z1b, z2b]) rfl (F.out _ (by have hb := HBB.out; exact ((((hb.setCell (p := ⟨w.heap.size, 1, none⟩) (Nat.le_refl _) _).setCell (p := ⟨w.heap.size, 2, none⟩) (Nat.le_refl _) _).setCell (p := ⟨w.heap.size + 1 + 1, 0, none⟩) (by show w.heap.size ≤ w.heap.size + 1 + 1; omega) _).setCell (p := ⟨w.heap.size + 1 + 1, 1, none⟩) (by show w.heap.size ≤ w.heap.size + 1 + 1; omega) _).setCell (p := ⟨w.heap.size + 1 + 1, 2, none⟩) (by show w.heap.size ≤ w.heap.size + 1 + 1; omega) _))
      case more_5 =>
       refine' AllReadyH.cons (o := _) ?e_10 ?st_10 AllReadyH.nil
       case e_10 => (simp only [xeA, xeB, xeC]; exact rfl)
       case st_10 =>
        intro K hK
        go_simp
        refine (HLN.out _).mono ?_
        rintro e wb ⟨rfl, hbb⟩
        have a0b := cell_later hbb a0
        have a1b := cell_later hbb a1
        have a2b := cell_later hbb a2
        have r0b := cell_later hbb r0
        have r1b := cell_later hbb r1
        have A4 := hid (Bk.below (w := w3.drew) A3.out hbb)
        have Z4 := hid (Bk.below (w := w3.drew) Z3.out hbb)
        have HBB := hid (Below.chain HBX.out.drew hbb)
        have fa1b : wb.frozen? ⟨w.heap.size, 1, none⟩ = false := A4.out.frozen 1
        have fa2b : wb.frozen? ⟨w.heap.size, 2, none⟩ = false := A4.out.frozen 2
        have z0b : wb.cell? ⟨w.heap.size + 1 + 1, 0, none⟩ = some (.string ⟨#[]⟩) := Z4.out.cell 0
        have z1b : wb.cell? ⟨w.heap.size + 1 + 1, 1, none⟩ = some (.string ⟨#[]⟩) := Z4.out.cell 1
        have z2b : wb.cell? ⟨w.heap.size + 1 + 1, 2, none⟩ = some (.int .i64 0) := Z4.out.cell 2
        have f0b : wb.frozen? ⟨w.heap.size + 1 + 1, 0, none⟩ = false := Z4.out.frozen 0
        have f1b : wb.frozen? ⟨w.heap.size + 1 + 1, 1, none⟩ = false := Z4.out.frozen 1
        have f2b : wb.frozen? ⟨w.heap.size + 1 + 1, 2, none⟩ = false := Z4.out.frozen 2
        clear hbb a0 a1 a2 r0 r1 z0 z1 z2 f0 f1 f2 A3 Z3 HBX
        refine hK.out _ _ ⟨a2b, r0b, r1b⟩ (fun hHeld => ?_)
        clear hK K
        try simp only [Act.put, xqA, xqB, xqC]
        refine wpAnyH_ready (rs := [1]) (by kernel_rfl) (by simp) ?_
        refine' AllReadyH.cons (o := _) ?e_11 ?st_11 AllReadyH.nil
        case e_11 => (simp only [xeA, xeB, xeC]; exact rfl)
        case st_11 =>
         intro K hK
         go_simp
         refine hK.out _ _ ⟨a2b, r0b, r1b⟩ (fun hHeld => ?_)
         clear hK K
         try simp only [Act.put, xqA, xqB, xqC]
         refine' tkY 6 hHeld ?r_12
         try simp only [Act.put, xqA, xqB, xqC]
         refine' tkY 7 hHeld ?r_13
         try simp only [Act.put, xqA, xqB, xqC]
         refine wpAnyH_ready (rs := [8]) (by kernel_rfl) (by simp) ?_
         refine' AllReadyH.cons (o := _) ?e_14 ?st_14 AllReadyH.nil
         case e_14 => (simp only [xeA, xeB, xeC]; exact rfl)
         case st_14 =>
          intro K hK
          go_simp
          refine hK.out _ _ ⟨(World.cell?_setCell_other _ _ _ _ (by simp)).trans a2b, (World.cell?_setCell_other _ _ _ _ (by simp)).trans r0b, (World.cell?_setCell_other _ _ _ _ (by simp)).trans r1b⟩ (fun hHeld => ?_)
          clear hK K hHeld
          try simp only [Act.put, xqA, xqB, xqC]
          refine wpAnyH_done (by kernel_rfl) ?_ _
          go_wp2
          exact bodyPost_ret (v := .tuple #[.agg #[.string d, .string (p ++ X), .int .i64 (n + 1)], .int .i64 0]) (by simp [results, Tryz.results73, go_sem, a0b, a1b, a2b, z0b, z1b, z2b]) rfl (F.out _ (by have hb := HBB.out; exact ((((hb.setCell (p := ⟨w.heap.size, 1, none⟩) (Nat.le_refl _) _).setCell (p := ⟨w.heap.size, 2, none⟩) (Nat.le_refl _) _).setCell (p := ⟨w.heap.size + 1 + 1, 0, none⟩) (by show w.heap.size ≤ w.heap.size + 1 + 1; omega) _).setCell (p := ⟨w.heap.size + 1 + 1, 1, none⟩) (by show w.heap.size ≤ w.heap.size + 1 + 1; omega) _).setCell (p := ⟨w.heap.size + 1 + 1, 2, none⟩) (by show w.heap.size ≤ w.heap.size + 1 + 1; omega) _))
      -- END
end Go.Proofs.YtohgjfdbnkjefaaGreatDoor
