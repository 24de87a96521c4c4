/- Texts of this claim, gathered: Bench3, Job1, Shows, Tdp, Csd, Vless, Dnp. -/
import Derived.Test.YtohgjfdbnkjefaaGreatDoorKw5
import Derived.Lib.SliceRun
namespace Go.Proofs.YtohgjfdbnkjefaaGreatDoor
open Go.RowKit
set_option linter.unusedVariables false
set_option maxRecDepth 100000
def shAt (b : List Int) (k : Nat) : Int := shC (bF b k).1 (bF b k).2 (bg b k)
def shTo (b : List Int) (n : Nat) : List Int := (List.range n).map (shAt b)
theorem shTo_succ (b : List Int) (n : Nat) : shTo b (n + 1) = shTo b n ++ [shAt b n] := by unfold shTo; rw [List.range_succ, List.map_append]; rfl
theorem shTo_len (b : List Int) (n : Nat) : (shTo b n).length = n := by simp [shTo]
theorem goodB_at {b : List Int} (h : goodB b = true) {k : Nat} (hk : k < 6) : (0 ≤ (bF b k).1 ∧ (bF b k).1 ≤ 127 ∧ 0 ≤ (bF b k).2 ∧ (bF b k).2 ≤ 127) ∧ 0 ≤ bg b k ∧ bg b k ≤ 127 := by
 unfold goodB goodTo at h
 simp only [Bool.and_eq_true, List.all_eq_true, List.mem_range] at h
 have := h.1 k hk
 unfold goodAt fB at this
 simp only [Bool.and_eq_true] at this
 have h1 := faultB_true this.2
 exact ⟨⟨h1.1, h1.2.1, h1.2.2.1, h1.2.2.2.1⟩, cellB_true this.1⟩
theorem index6_0 (x0 x1 x2 x3 x4 x5 : Int) (w : World) : (Instr.index 24 (.agg #[.int .i64 x0, .int .i64 x1, .int .i64 x2, .int .i64 x3, .int .i64 x4, .int .i64 x5]) (.int .i64 0)).run Tryz.prog w = .ok (.int .i64 x0) w := by kernel_rfl
theorem index6_1 (x0 x1 x2 x3 x4 x5 : Int) (w : World) : (Instr.index 24 (.agg #[.int .i64 x0, .int .i64 x1, .int .i64 x2, .int .i64 x3, .int .i64 x4, .int .i64 x5]) (.int .i64 1)).run Tryz.prog w = .ok (.int .i64 x1) w := by kernel_rfl
theorem index6_2 (x0 x1 x2 x3 x4 x5 : Int) (w : World) : (Instr.index 24 (.agg #[.int .i64 x0, .int .i64 x1, .int .i64 x2, .int .i64 x3, .int .i64 x4, .int .i64 x5]) (.int .i64 2)).run Tryz.prog w = .ok (.int .i64 x2) w := by kernel_rfl
theorem index6_3 (x0 x1 x2 x3 x4 x5 : Int) (w : World) : (Instr.index 24 (.agg #[.int .i64 x0, .int .i64 x1, .int .i64 x2, .int .i64 x3, .int .i64 x4, .int .i64 x5]) (.int .i64 3)).run Tryz.prog w = .ok (.int .i64 x3) w := by kernel_rfl
theorem index6_4 (x0 x1 x2 x3 x4 x5 : Int) (w : World) : (Instr.index 24 (.agg #[.int .i64 x0, .int .i64 x1, .int .i64 x2, .int .i64 x3, .int .i64 x4, .int .i64 x5]) (.int .i64 4)).run Tryz.prog w = .ok (.int .i64 x4) w := by kernel_rfl
theorem index6_5 (x0 x1 x2 x3 x4 x5 : Int) (w : World) : (Instr.index 24 (.agg #[.int .i64 x0, .int .i64 x1, .int .i64 x2, .int .i64 x3, .int .i64 x4, .int .i64 x5]) (.int .i64 5)).run Tryz.prog w = .ok (.int .i64 x5) w := by kernel_rfl
theorem index6 {b : List Int} (hb : b.length = 6) {k : Nat} (hk : k < 6) (w : World) : (Instr.index 24 (.agg (ints b).toArray) (.int .i64 (k : Int))).run Tryz.prog w = .ok (.int .i64 (bg b k)) w := by
 obtain ⟨x0, x1, x2, x3, x4, x5, rfl⟩ := len6 hb
 have h : k = 0 ∨ k = 1 ∨ k = 2 ∨ k = 3 ∨ k = 4 ∨ k = 5 := by omega
 rcases h with rfl | rfl | rfl | rfl | rfl | rfl
 · exact index6_0 x0 x1 x2 x3 x4 x5 w
 · exact index6_1 x0 x1 x2 x3 x4 x5 w
 · exact index6_2 x0 x1 x2 x3 x4 x5 w
 · exact index6_3 x0 x1 x2 x3 x4 x5 w
 · exact index6_4 x0 x1 x2 x3 x4 x5 w
 · exact index6_5 x0 x1 x2 x3 x4 x5 w
theorem bg_pt {b : List Int} (h : b.length = 19) {k : Nat} (hk : k < 6) : bg (pt b 0) k = bg b k := by
 unfold bg pt; simp [hk]
theorem shown_b_c (b : List Int) (w : World) (hb : b.length = 19) (hg : goodB b = true) :
 Calls Tryz.prog 56 #[aggI b] w fun e w' => ∃ u, e = .returned u ∧ w'.ownsRow w.heap.size 3 1 u (shTo b 6).length (ints (shTo b 6)) ∧ Below w.heap.size w w' := by
 unfold aggI
 obtain ⟨i, hi, hz0, hz1, hz2⟩ := info_parts info_int
 have HW : Hid (∀ wr, Below (w.alloc (.cells (ints b).toArray 26)).heap.size (w.alloc (.cells (ints b).toArray 26)) wr → Below w.heap.size w wr) := fun wr h => Below.chain (below_one _) h
 have r0 := range_new w (ints b) 26
 have p1 := part6_len hb (o := 0) (by decide)
 go_enter Tryz.func56, Tryz.ntmps56
 go_wp2_with (refine wpList_load6 rfl _ rfl _ _ rfl _ (part6 r0 0) p1 ?_)
 generalize hwb : w.alloc (.cells (ints b).toArray 26) = wb at *
 have hwz : w.heap.size + 1 = wb.heap.size := by rw [← hwb]; simp
 go_loopw [3, 8] (fun o j wr => ∃ k : Nat, k ≤ 6 ∧ j = .int .i64 (k : Int) ∧ wr.ownsRow wb.heap.size 3 1 o k (ints (shTo b k)) ∧ Below wb.heap.size wb wr) (fun _ j _ => 7 - (intOf j).toNat)
 case atStart => exact ⟨0, by omega, rfl, World.ownsRow_nil _ _ _ _, Below.refl _ _⟩
 case round =>
  obtain ⟨k, hk, rfl, ho, hbw⟩ := hrel
  by_cases hlt : k < 6
  · have hd : decide ((k : Int) < 6) = true := by simp; omega
    have hr : wr.rangeAt w.heap.size 0 (ints b) := range_below r0 hbw
    have hix := fun w => index6 p1 hlt w
    have HP := Lib.hid (bg_pt hb hlt)
    have HS := Lib.hid (shTo_succ b k)
    have bd := goodB_at hg hlt
    go_wp2_with (refine wpList_loadB rfl _ rfl _ rfl b hr hb ?_)
    refine (bfault_c b k _ hb hlt).mono ?_
    rintro e w3 ⟨rfl, hb3⟩
    have hb4 := Below.chain hbw hb3
    have ho4 := own_keep ho hb3
    clear hb3 hbw hr ho
    rw [HP.out]
    go_wp2_with fail
    refine (shown_c (bF b k).1 (bF b k).2 (bg b k) bd.1.1 bd.1.2.1 bd.1.2.2.1 bd.1.2.2.2 bd.2.1 bd.2.2 _).mono ?_
    rintro e w4 ⟨rfl, hb5⟩
    have hb6 := Below.chain hb4 hb5
    have ho6 := own_keep ho4 hb5
    clear hb4 hb5 ho4
    have hX : shC (bF b k).1 (bF b k).2 (bg b k) = shAt b k := rfl
    rw [hX]
    clear hX
    generalize shAt b k = X at *
    go_wp2_with (at_builtin; refine wpList_append_own_at _ rfl _ _ 37 rfl wb.heap.size 3 i (.int .i64 0) 1 8 Tryz.underlying37 hi hz0 hz1 hz2 rfl (by decide) _ k (ints (shTo b k)) rfl (ho6.alloc _) ⟨w4.heap.size, 0, none⟩ 1 1 [.int .i64 X] rfl rfl (news_new _ [.int .i64 X] _) (by simp [Value.oneCell']) (by unfold maxLen; omega) (by omega) (by have := hb6.size; simp; omega) ?_)
    intro v' w5 ho5 hg5 _ _
    have hb7 : Below wb.heap.size wb w5 := (Below.alc hb6 _).grown hg5 (by have := hb6.size; simp; omega) (fun g hg => (ho6.lt g hg).1)
    clear ho6 hb6 hg5
    go_wp2
    go_roundw
    case rel => exact ⟨k + 1, by omega, by go_num, by rw [HS.out]; exact ownsRow_cast ho5 rfl (by simp), hb7⟩
    case measure => simp [intOf]; omega
  · obtain rfl : k = 6 := by omega
    go_wp2
    go_ret
    exact ⟨_, rfl, own_lo (ownsRow_cast ho (shTo_len b 6).symm rfl) (by omega), HW.out _ hbw⟩
theorem ints_cells {w : World} {ad : Addr} {n c : Nat} {xs : List Int} (h : Ints w (.slice (some ad) n c) xs) : ∀ j u, (ints xs)[j]? = some u → w.cell? (ad.add j) = some u := by
 intro j u hu
 obtain ⟨a, c', e, _, _, HC⟩ := h.parts
 simp only [ints, List.getElem?_map, Option.map_eq_some_iff] at hu
 obtain ⟨x, hx, rfl⟩ := hu
 obtain ⟨b, off, e2, hc⟩ := HC.out j x hx
 injection e with e1 e3 e4
 rw [e2] at e1
 injection e1 with e5
 subst e5
 rw [Addr.add_lit]; exact hc
theorem Clone_c (v : Value) (xs : List Int) (w : World) (hv : Ints w v xs) (hn : xs.length ≤ 1048576) :
 Calls Tryz.prog 57 #[v] w fun e w' => ∃ u, e = .returned u ∧ w'.ownsRow w.heap.size 3 1 u xs.length (ints xs) ∧ Below w.heap.size w w' := by
 obtain ⟨i, hi, hz0, hz1, hz2⟩ := info_parts info_int
 have hv0 := hv
 obtain ⟨a, c, rfl, _, _, _⟩ := hv.parts
 cases a with
 | none =>
  have hx : xs = [] := by
   obtain ⟨a', c', e, _, _, HC⟩ := hv0.parts
   cases xs with
   | nil => rfl
   | cons x t =>
    obtain ⟨b, off, e2, _⟩ := HC.out 0 x rfl
    injection e with e1
    rw [e2] at e1; cases e1
  subst hx
  have hnil := fun (w : World) => Lib.run_eql_slice_nil (P := Tryz.prog) w 37 3 none 0 c 0 0 Tryz.underlying37
  simp only [List.length_nil, List.map_nil]
  go_enter Tryz.func57, Tryz.ntmps57
  go_wp2
  go_ret
  exact ⟨_, rfl, World.ownsRow_nil _ _ _ _, by (repeat (first | exact Below.refl _ _ | exact (Below.refl _ _).drew | assumption | exact below_one _ | refine Below.chain ?_ (by assumption) | refine Below.drew ?_ | refine Below.alc ?_ _ | refine below_drewN ?_ | (refine Below.setCell ?_ ?_ _) | exact Nat.le_refl _ | (simp; done) | (simp; omega)))⟩
 | some ad =>
  have hc := ints_cells (hv.below (below_one (.cells #[] 3)))
  have ho0 := World.ownsRow_lit (e := 3) (size := 1) (base := w.heap.size) w #[] 0 (Nat.le_refl _) (by decide) rfl
  have HC := Lib.hid hc
  clear hc hv hv0
  have hnil := fun (w : World) => Lib.run_eql_slice_nil (P := Tryz.prog) w 37 3 (some ad) xs.length c 0 0 Tryz.underlying37
  go_enter Tryz.func57, Tryz.ntmps57
  go_wp2_with (at_builtin; refine wpList_append_own_at _ rfl _ _ 37 rfl w.heap.size 3 i (.int .i64 0) 1 8 Tryz.underlying37 hi hz0 hz1 hz2 rfl (by decide) _ 0 [] rfl ho0 ad xs.length c (ints xs) rfl (by simp) HC.out ints_one (by unfold maxLen; omega) (by omega) (by simp) ?_)
  intro v' w1 ho1 hg1 _ _
  have hb1 : Below w.heap.size w w1 := (below_one _).grown hg1 (by simp) (fun g hg => (ho0.lt g hg).1)
  go_wp2
  go_ret
  exact ⟨_, rfl, ownsRow_cast ho1 (by simp) (by simp), hb1⟩
def rowOf (b : List Int) (s : Bool) (n : Nat) : List Int := if s then shTo b n else b.take n
def brL (b : List Int) (s : Bool) : List Int := if goodB b then rowOf b s 6 else []
theorem BenchRow_c (b : List Int) (w : World) (hb : b.length = 19) : Calls Tryz.prog 14 #[aggI b] w (IntsPost w (brL b true) (goodB b)) := by
 have r0 := range_new w (ints b) 26
 have hb0 := below_one (w := w) (.cells (ints b).toArray 26)
 unfold aggI
 rcases hq : goodB b with _ | _
 · have HL := Lib.hid (show brL b true = [] by simp [brL, hq])
   have HQ := Lib.hid hq; clear hq
   go_enter Tryz.func14, Tryz.ntmps14
   go_wp2_with (refine wpList_loadB rfl _ rfl _ rfl b r0 hb ?_)
   refine (IsBench_c b _ hb).mono ?_
   rintro e w1 ⟨rfl, hb1⟩
   rw [HQ.out]
   have hb2 := Below.chain hb0 hb1
   go_wp2
   go_ret2
   exact IntsPost.mk' HL.out rfl (World.ownsRow_nil _ _ _ _) hb2
 · have HL := Lib.hid (show brL b true = rowOf b true 6 by simp [brL, hq])
   have HQ := Lib.hid hq
   go_enter Tryz.func14, Tryz.ntmps14
   go_wp2_with (refine wpList_loadB rfl _ rfl _ rfl b r0 hb ?_)
   refine (IsBench_c b _ hb).mono ?_
   rintro e w1 ⟨rfl, hb1⟩
   rw [HQ.out]
   have r1 := range_below r0 hb1
   have hb2 := Below.chain hb0 hb1
   go_wp2_with (refine wpList_loadB rfl _ rfl _ rfl b r1 hb ?_)
   refine (shown_b_c b _ hb hq).mono ?_
   rintro e w2 ⟨u, rfl, ho, hb3⟩
   have hb4 := Below.chain hb2 hb3
   go_wp2
   go_ret2
   exact IntsPost.mk' HL.out rfl (own_lo ho hb2.size) hb4
theorem SentRow_c (b : List Int) (w : World) (hb : b.length = 19) : Calls Tryz.prog 15 #[aggI b] w (IntsPost w (brL b false) (goodB b)) := by
 have r0 := range_new w (ints b) 26
 have hb0 := below_one (w := w) (.cells (ints b).toArray 26)
 unfold aggI
 rcases hq : goodB b with _ | _
 · have HL := Lib.hid (show brL b false = [] by simp [brL, hq])
   have HQ := Lib.hid hq; clear hq
   go_enter Tryz.func15, Tryz.ntmps15
   go_wp2_with (refine wpList_loadB rfl _ rfl _ rfl b r0 hb ?_)
   refine (IsBench_c b _ hb).mono ?_
   rintro e w1 ⟨rfl, hb1⟩
   rw [HQ.out]
   have hb2 := Below.chain hb0 hb1
   go_wp2
   go_ret2
   exact IntsPost.mk' HL.out rfl (World.ownsRow_nil _ _ _ _) hb2
 · have HL := Lib.hid (show brL b false = rowOf b false 6 by simp [brL, hq])
   have HQ := Lib.hid hq
   go_enter Tryz.func15, Tryz.ntmps15
   go_wp2_with (refine wpList_loadB rfl _ rfl _ rfl b r0 hb ?_)
   refine (IsBench_c b _ hb).mono ?_
   rintro e w1 ⟨rfl, hb1⟩
   rw [HQ.out]
   have r1 := range_below r0 hb1
   have hb2 := Below.chain hb0 hb1
   have hI := ints_box (w := w) (b := b) (t := 26) hb1 (n := 6) (by omega) (by omega) 6 (by omega) (by omega)
   go_wp2_with fail
   refine (Clone_c _ (b.take 6) _ hI (by simp; omega)).mono ?_
   rintro e w2 ⟨u, rfl, ho, hb3⟩
   have hb4 := Below.chain hb2 hb3
   go_wp2
   go_ret2
   exact IntsPost.mk' HL.out rfl (own_lo ho hb2.size) hb4
def permC (p : List Nat) (c : Int) : Int := (((List.range 7).foldl (fun o k => o + c.toNat / 2 ^ (p.getD k 0) % 2 * 2 ^ k) 0 : Nat) : Int)
def mvC (t : Bool) (c : Int) : Int := permC (if t then [3, 4, 5, 0, 1, 2, 6] else [0, 5, 4, 3, 2, 1, 6]) c
theorem mvC_all : ∀ n : Fin 128, ∀ t : Bool, 0 ≤ mvC t (n.1 : Int) ∧ mvC t (n.1 : Int) ≤ 127 := by decide +kernel
theorem mvC_bd {c : Int} (t : Bool) (h0 : 0 ≤ c) (h1 : c ≤ 127) : 0 ≤ mvC t c ∧ mvC t c ≤ 127 := by
 obtain ⟨n, rfl⟩ := Int.eq_ofNat_of_zero_le h0
 exact mvC_all ⟨n, by omega⟩ t
theorem index7_0 (x0 x1 x2 x3 x4 x5 x6 : Int) (w : World) : (Instr.index 208 (.agg #[.int .i64 x0, .int .i64 x1, .int .i64 x2, .int .i64 x3, .int .i64 x4, .int .i64 x5, .int .i64 x6]) (.int .i64 0)).run Tryz.prog w = .ok (.int .i64 x0) w := by kernel_rfl
theorem index7_1 (x0 x1 x2 x3 x4 x5 x6 : Int) (w : World) : (Instr.index 208 (.agg #[.int .i64 x0, .int .i64 x1, .int .i64 x2, .int .i64 x3, .int .i64 x4, .int .i64 x5, .int .i64 x6]) (.int .i64 1)).run Tryz.prog w = .ok (.int .i64 x1) w := by kernel_rfl
theorem index7_2 (x0 x1 x2 x3 x4 x5 x6 : Int) (w : World) : (Instr.index 208 (.agg #[.int .i64 x0, .int .i64 x1, .int .i64 x2, .int .i64 x3, .int .i64 x4, .int .i64 x5, .int .i64 x6]) (.int .i64 2)).run Tryz.prog w = .ok (.int .i64 x2) w := by kernel_rfl
theorem index7_3 (x0 x1 x2 x3 x4 x5 x6 : Int) (w : World) : (Instr.index 208 (.agg #[.int .i64 x0, .int .i64 x1, .int .i64 x2, .int .i64 x3, .int .i64 x4, .int .i64 x5, .int .i64 x6]) (.int .i64 3)).run Tryz.prog w = .ok (.int .i64 x3) w := by kernel_rfl
theorem index7_4 (x0 x1 x2 x3 x4 x5 x6 : Int) (w : World) : (Instr.index 208 (.agg #[.int .i64 x0, .int .i64 x1, .int .i64 x2, .int .i64 x3, .int .i64 x4, .int .i64 x5, .int .i64 x6]) (.int .i64 4)).run Tryz.prog w = .ok (.int .i64 x4) w := by kernel_rfl
theorem index7_5 (x0 x1 x2 x3 x4 x5 x6 : Int) (w : World) : (Instr.index 208 (.agg #[.int .i64 x0, .int .i64 x1, .int .i64 x2, .int .i64 x3, .int .i64 x4, .int .i64 x5, .int .i64 x6]) (.int .i64 5)).run Tryz.prog w = .ok (.int .i64 x5) w := by kernel_rfl
theorem index7_6 (x0 x1 x2 x3 x4 x5 x6 : Int) (w : World) : (Instr.index 208 (.agg #[.int .i64 x0, .int .i64 x1, .int .i64 x2, .int .i64 x3, .int .i64 x4, .int .i64 x5, .int .i64 x6]) (.int .i64 6)).run Tryz.prog w = .ok (.int .i64 x6) w := by kernel_rfl
theorem mvT_i : ∀ n : Nat, n < 128 → (bits BinOp.or IntKind.i64 (bits BinOp.or IntKind.i64 (bits BinOp.or IntKind.i64 (bits BinOp.or IntKind.i64 (bits BinOp.or IntKind.i64 (bits BinOp.or IntKind.i64 (bits BinOp.or IntKind.i64 0 (wrap64 (bits BinOp.and IntKind.i64 (n : Int) 1 * 8))) (wrap64 (bits BinOp.and IntKind.i64 ((n : Int) / 2) 1 * 16))) (wrap64 (bits BinOp.and IntKind.i64 ((n : Int) / 4) 1 * 32))) (wrap64 (bits BinOp.and IntKind.i64 ((n : Int) / 8) 1))) (wrap64 (bits BinOp.and IntKind.i64 ((n : Int) / 16) 1 * 2))) (wrap64 (bits BinOp.and IntKind.i64 ((n : Int) / 32) 1 * 4))) (wrap64 (bits BinOp.and IntKind.i64 ((n : Int) / 64) 1 * 64))) = mvC true (n : Int) := by decide +kernel
theorem mvM_i : ∀ n : Nat, n < 128 → (bits BinOp.or IntKind.i64 (bits BinOp.or IntKind.i64 (bits BinOp.or IntKind.i64 (bits BinOp.or IntKind.i64 (bits BinOp.or IntKind.i64 (bits BinOp.or IntKind.i64 (bits BinOp.or IntKind.i64 0 (wrap64 (bits BinOp.and IntKind.i64 (n : Int) 1))) (wrap64 (bits BinOp.and IntKind.i64 ((n : Int) / 2) 1 * 32))) (wrap64 (bits BinOp.and IntKind.i64 ((n : Int) / 4) 1 * 16))) (wrap64 (bits BinOp.and IntKind.i64 ((n : Int) / 8) 1 * 8))) (wrap64 (bits BinOp.and IntKind.i64 ((n : Int) / 16) 1 * 4))) (wrap64 (bits BinOp.and IntKind.i64 ((n : Int) / 32) 1 * 2))) (wrap64 (bits BinOp.and IntKind.i64 ((n : Int) / 64) 1 * 64))) = mvC false (n : Int) := by decide +kernel
theorem mvT_s : ∀ n : Nat, n < 128 → (bits BinOp.or IntKind.i64 (bits BinOp.or IntKind.i64 (bits BinOp.or IntKind.i64 (bits BinOp.or IntKind.i64 (bits BinOp.or IntKind.i64 (bits BinOp.or IntKind.i64 (bits BinOp.or IntKind.i64 0 (wrap64 (bits BinOp.and IntKind.i64 ((n : Int) / 8) 1))) (wrap64 (bits BinOp.and IntKind.i64 ((n : Int) / 16) 1 * 2))) (wrap64 (bits BinOp.and IntKind.i64 ((n : Int) / 32) 1 * 4))) (wrap64 (bits BinOp.and IntKind.i64 (n : Int) 1 * 8))) (wrap64 (bits BinOp.and IntKind.i64 ((n : Int) / 2) 1 * 16))) (wrap64 (bits BinOp.and IntKind.i64 ((n : Int) / 4) 1 * 32))) (wrap64 (bits BinOp.and IntKind.i64 ((n : Int) / 64) 1 * 64))) = mvC true (n : Int) := by decide +kernel
theorem mvM_s : ∀ n : Nat, n < 128 → (bits BinOp.or IntKind.i64 (bits BinOp.or IntKind.i64 (bits BinOp.or IntKind.i64 (bits BinOp.or IntKind.i64 (bits BinOp.or IntKind.i64 (bits BinOp.or IntKind.i64 (bits BinOp.or IntKind.i64 0 (wrap64 (bits BinOp.and IntKind.i64 (n : Int) 1))) (wrap64 (bits BinOp.and IntKind.i64 ((n : Int) / 32) 1 * 2))) (wrap64 (bits BinOp.and IntKind.i64 ((n : Int) / 16) 1 * 4))) (wrap64 (bits BinOp.and IntKind.i64 ((n : Int) / 8) 1 * 8))) (wrap64 (bits BinOp.and IntKind.i64 ((n : Int) / 4) 1 * 16))) (wrap64 (bits BinOp.and IntKind.i64 ((n : Int) / 2) 1 * 32))) (wrap64 (bits BinOp.and IntKind.i64 ((n : Int) / 64) 1 * 64))) = mvC false (n : Int) := by decide +kernel
theorem movedT_c (c : Int) (w : World) (h0 : 0 ≤ c) (h1 : c ≤ 127) : Calls Tryz.prog 203 #[.int .i64 c, .agg #[.int .i64 3, .int .i64 4, .int .i64 5, .int .i64 0, .int .i64 1, .int .i64 2, .int .i64 6]] w fun e w' => e = .returned (.int .i64 (mvC true c)) ∧ Below w.heap.size w w' := by
 obtain ⟨n, rfl⟩ := Int.eq_ofNat_of_zero_le h0
 have hn : n < 128 := by omega
 have i0 := index7_0 3 4 5 0 1 2 6
 have i1 := index7_1 3 4 5 0 1 2 6
 have i2 := index7_2 3 4 5 0 1 2 6
 have i3 := index7_3 3 4 5 0 1 2 6
 have i4 := index7_4 3 4 5 0 1 2 6
 have i5 := index7_5 3 4 5 0 1 2 6
 have i6 := index7_6 3 4 5 0 1 2 6
 go_enter Tryz.func203, Tryz.ntmps203
 go_wp2
 refine wp_loop_rounds 8 ?_
 rw [rounds_succ]
 go_wp2
 rw [rounds_succ]
 go_wp2
 rw [rounds_succ]
 go_wp2
 rw [rounds_succ]
 go_wp2
 rw [rounds_succ]
 go_wp2
 rw [rounds_succ]
 go_wp2
 rw [rounds_succ]
 go_wp2
 rw [rounds_succ]
 go_wp2
 go_ret
 exact ⟨int_ret (mvT_i n hn), by (repeat (first | exact Below.refl _ _ | exact (Below.refl _ _).drew | assumption | exact below_one _ | refine Below.chain ?_ (by assumption) | refine Below.drew ?_ | refine Below.alc ?_ _ | refine below_drewN ?_ | (refine Below.setCell ?_ ?_ _) | exact Nat.le_refl _ | (simp; done) | (simp; omega)))⟩
theorem movedM_c (c : Int) (w : World) (h0 : 0 ≤ c) (h1 : c ≤ 127) : Calls Tryz.prog 203 #[.int .i64 c, .agg #[.int .i64 0, .int .i64 5, .int .i64 4, .int .i64 3, .int .i64 2, .int .i64 1, .int .i64 6]] w fun e w' => e = .returned (.int .i64 (mvC false c)) ∧ Below w.heap.size w w' := by
 obtain ⟨n, rfl⟩ := Int.eq_ofNat_of_zero_le h0
 have hn : n < 128 := by omega
 have i0 := index7_0 0 5 4 3 2 1 6
 have i1 := index7_1 0 5 4 3 2 1 6
 have i2 := index7_2 0 5 4 3 2 1 6
 have i3 := index7_3 0 5 4 3 2 1 6
 have i4 := index7_4 0 5 4 3 2 1 6
 have i5 := index7_5 0 5 4 3 2 1 6
 have i6 := index7_6 0 5 4 3 2 1 6
 go_enter Tryz.func203, Tryz.ntmps203
 go_wp2
 refine wp_loop_rounds 8 ?_
 rw [rounds_succ]
 go_wp2
 rw [rounds_succ]
 go_wp2
 rw [rounds_succ]
 go_wp2
 rw [rounds_succ]
 go_wp2
 rw [rounds_succ]
 go_wp2
 rw [rounds_succ]
 go_wp2
 rw [rounds_succ]
 go_wp2
 rw [rounds_succ]
 go_wp2
 go_ret
 exact ⟨int_ret (mvM_i n hn), by (repeat (first | exact Below.refl _ _ | exact (Below.refl _ _).drew | assumption | exact below_one _ | refine Below.chain ?_ (by assumption) | refine Below.drew ?_ | refine Below.alc ?_ _ | refine below_drewN ?_ | (refine Below.setCell ?_ ?_ _) | exact Nat.le_refl _ | (simp; done) | (simp; omega)))⟩
theorem turned_c (c : Int) (w : World) (h0 : 0 ≤ c) (h1 : c ≤ 127) : Calls Tryz.prog 155 #[.int .i64 c] w fun e w' => e = .returned (.int .i64 (mvC true c)) ∧ Below w.heap.size w w' := by
 go_enter Tryz.func155, Tryz.ntmps155
 go_wp2_with fail
 refine (movedT_c c _ h0 h1).mono ?_
 rintro e w1 ⟨rfl, hb1⟩
 go_wp2
 go_ret
 exact ⟨rfl, hb1⟩
theorem mirrored_c (c : Int) (w : World) (h0 : 0 ≤ c) (h1 : c ≤ 127) : Calls Tryz.prog 156 #[.int .i64 c] w fun e w' => e = .returned (.int .i64 (mvC false c)) ∧ Below w.heap.size w w' := by
 go_enter Tryz.func156, Tryz.ntmps156
 go_wp2_with fail
 refine (movedM_c c _ h0 h1).mono ?_
 rintro e w1 ⟨rfl, hb1⟩
 go_wp2
 go_ret
 exact ⟨rfl, hb1⟩
theorem l2Turn_c (c : Int) (w : World) (h0 : 0 ≤ c) (h1 : c ≤ 127) : Calls Tryz.prog 242 #[.int .i64 c] w fun e w' => e = .returned (.int .i64 (mvC true c)) ∧ Below w.heap.size w w' := by
 obtain ⟨n, rfl⟩ := Int.eq_ofNat_of_zero_le h0
 have hn : n < 128 := by omega
 go_enter Tryz.func242, Tryz.ntmps242
 go_wp2
 refine wp_loop_rounds 8 ?_
 rw [rounds_succ]
 go_wp2
 rw [rounds_succ]
 go_wp2
 rw [rounds_succ]
 go_wp2
 rw [rounds_succ]
 go_wp2
 rw [rounds_succ]
 go_wp2
 rw [rounds_succ]
 go_wp2
 rw [rounds_succ]
 go_wp2
 rw [rounds_succ]
 go_wp2
 go_ret
 exact ⟨int_ret (mvT_s n hn), by (repeat (first | exact Below.refl _ _ | exact (Below.refl _ _).drew | assumption | exact below_one _ | refine Below.chain ?_ (by assumption) | refine Below.drew ?_ | refine Below.alc ?_ _ | refine below_drewN ?_ | (refine Below.setCell ?_ ?_ _) | exact Nat.le_refl _ | (simp; done) | (simp; omega)))⟩
theorem l2Mirror_c (c : Int) (w : World) (h0 : 0 ≤ c) (h1 : c ≤ 127) : Calls Tryz.prog 243 #[.int .i64 c] w fun e w' => e = .returned (.int .i64 (mvC false c)) ∧ Below w.heap.size w w' := by
 obtain ⟨n, rfl⟩ := Int.eq_ofNat_of_zero_le h0
 have hn : n < 128 := by omega
 go_enter Tryz.func243, Tryz.ntmps243
 go_wp2
 refine wp_loop_rounds 8 ?_
 rw [rounds_succ]
 go_wp2
 rw [rounds_succ]
 go_wp2
 rw [rounds_succ]
 go_wp2
 rw [rounds_succ]
 go_wp2
 rw [rounds_succ]
 go_wp2
 rw [rounds_succ]
 go_wp2
 rw [rounds_succ]
 go_wp2
 rw [rounds_succ]
 go_wp2
 go_ret
 exact ⟨int_ret (mvM_s n hn), by (repeat (first | exact Below.refl _ _ | exact (Below.refl _ _).drew | assumption | exact below_one _ | refine Below.chain ?_ (by assumption) | refine Below.drew ?_ | refine Below.alc ?_ _ | refine below_drewN ?_ | (refine Below.setCell ?_ ?_ _) | exact Nat.le_refl _ | (simp; done) | (simp; omega)))⟩
set_option linter.unusedSimpArgs false
def ciV (d l : Int) : Value := .tuple #[.int .i64 (if faultB d l then ((grpL d l).length : Int) else 0), .bool (faultB d l)]
theorem CountImages_c (d l : Int) (w : World) : Calls Tryz.prog 20 #[.agg #[.int .i64 d, .int .i64 l]] w fun e w' => e = .returned (ciV d l) ∧ Below w.heap.size w w' := by
 rcases hq : faultB d l with _ | _
 · have HF := Lib.hid (show ciV d l = .tuple #[.int .i64 0, .bool false] by simp [ciV, hq])
   have HQ := Lib.hid hq; clear hq
   go_enter Tryz.func20, Tryz.ntmps20
   go_wp2_with fail
   refine (IsFault_c d l _).mono ?_
   rintro e w1 ⟨rfl, hb1⟩
   rw [HQ.out]
   have hb2 := Below.chain (below_one _) hb1
   clear hb1
   go_wp2
   go_ret2
   exact ⟨by rw [HF.out]; rfl, by (repeat (first | exact Below.refl _ _ | exact (Below.refl _ _).drew | assumption | exact below_one _ | refine Below.chain ?_ (by assumption) | refine Below.drew ?_ | refine Below.alc ?_ _ | refine below_drewN ?_ | (refine Below.setCell ?_ ?_ _) | exact Nat.le_refl _ | (simp; done) | (simp; omega)))⟩
 · have HF := Lib.hid (show ciV d l = .tuple #[.int .i64 (grpL d l).length, .bool true] by simp [ciV, hq])
   have bd := faultB_true hq
   have HQ := Lib.hid hq; clear hq
   go_enter Tryz.func20, Tryz.ntmps20
   go_wp2_with fail
   refine (IsFault_c d l _).mono ?_
   rintro e w1 ⟨rfl, hb1⟩
   rw [HQ.out]
   have q0 := (box_after hb1).1 0 _ rfl
   have q1 := (box_after hb1).1 1 _ rfl
   have hb2 := Below.chain (below_one _) hb1
   clear hb1
   go_wp2_with fail
   refine (groups_c d l _ bd.1 bd.2.1 bd.2.2.1 bd.2.2.2.1).mono ?_
   rintro e w3 ⟨u, rfl, ho, hb3⟩
   have hb4 := Below.chain hb2 hb3
   obtain ⟨vs, hov, hin⟩ := ho
   have hl := hin.1
   obtain ⟨a, c, rfl, hmx⟩ := (Sl.of_own hov).slice
   clear hin hov hb3
   go_wp2
   go_ret2
   exact ⟨by rw [HF.out]; rfl, by (repeat (first | exact Below.refl _ _ | exact (Below.refl _ _).drew | assumption | exact below_one _ | refine Below.chain ?_ (by assumption) | refine Below.drew ?_ | refine Below.alc ?_ _ | refine below_drewN ?_ | (refine Below.setCell ?_ ?_ _) | exact Nat.le_refl _ | (simp; done) | (simp; omega)))⟩
theorem sum_add {α : Type} (f g : α → Nat) : ∀ H : List α, (H.map fun h => f h + g h).sum = (H.map f).sum + (H.map g).sum
 | [] => rfl
 | a :: t => by simp [sum_add f g t]; omega
theorem sum_ind {α : Type} (p : α → Bool) : ∀ H : List α, (H.map fun h => if p h then 1 else 0).sum = (H.filter p).length
 | [] => rfl
 | a :: t => by cases hp : p a <;> simp [hp, sum_ind p t]; omega
theorem sum_swap {α β : Type} (p : α → β → Bool) (H : List α) : ∀ L : List β, (H.map fun h => (L.filter (p h)).length).sum = (L.map fun y => (H.filter fun h => p h y).length).sum
 | [] => by
  simp only [List.filter_nil, List.length_nil, List.map_nil, List.sum_nil]
  induction H with
  | nil => rfl
  | cons a t ih => simp [ih]
 | y :: L => by
  have e : ∀ h, ((y :: L).filter (p h)).length = (if p h y then 1 else 0) + (L.filter (p h)).length := by
   intro h; cases hp : p h y <;> simp [hp]; omega
  simp only [e]
  rw [sum_add, sum_ind (fun h => p h y), sum_swap p H L]; simp
theorem sum_one {α : Type} (f : α → Nat) : ∀ L : List α, (∀ y ∈ L, f y = 1) → (L.map f).sum = L.length
 | [], _ => rfl
 | a :: t, h => by simp [h a (by simp), sum_one f t (fun y hy => h y (by simp [hy]))]; omega
theorem filter_eq_one {l : List Int} (hn : l.Nodup) {x : Int} (hx : x ∈ l) : (l.filter fun h => h == x).length = 1 := by
 induction l with
 | nil => simp at hx
 | cons a t ih =>
  rw [List.nodup_cons] at hn
  by_cases ha : a = x
  · subst ha
    have : (t.filter fun h => h == a) = [] := by
     rw [List.filter_eq_nil_iff]; intro y hy e
     simp at e; subst e; exact hn.1 hy
    simp [this]
  · have hx2 : x ∈ t := by
     rcases List.mem_cons.1 hx with e | e
     · exact absurd e.symm ha
     · exact e
    have hax : (a == x) = false := by simpa using ha
    simp [hax, ih hn.2 hx2]
theorem mem_grpOf {d l x y : Int} : y ∈ grpOf d l x ↔ y ∈ tenI ∧ shC d l (dg y) = shC d l (dg x) := by
 unfold grpOf digL
 rw [List.mem_filter]; simp
theorem grpOf_same {d l x y : Int} (h : y ∈ grpOf d l x) : grpOf d l y = grpOf d l x := by
 have := (mem_grpOf.1 h).2
 unfold grpOf; rw [this]
theorem grpOf_self {d l x : Int} (h : x ∈ tenI) : x ∈ grpOf d l x := mem_grpOf.2 ⟨h, rfl⟩
theorem headD_mem {xs : List Int} {x : Int} (h : x ∈ xs) : xs.headD (-1) ∈ xs := by cases xs <;> simp_all
def headsL (d l : Int) : List Int := tenI.filter (isHead d l)
theorem grpL_heads (d l : Int) : grpL d l = (headsL d l).map (grpOf d l) := rfl
theorem ten_nodup : tenI.Nodup := by decide
theorem one_head (d l : Int) {y : Int} (hy : y ∈ tenI) : ((headsL d l).filter fun h => shC d l (dg y) == shC d l (dg h)).length = 1 := by
 have h0 := headD_mem (grpOf_self (d := d) (l := l) hy)
 have hg := grpOf_same h0
 have e : (headsL d l).filter (fun h => shC d l (dg y) == shC d l (dg h)) = (headsL d l).filter fun h => h == (grpOf d l y).headD (-1) := by
  apply List.filter_congr
  intro h hh
  unfold headsL at hh
  rw [List.mem_filter] at hh
  have hH : (grpOf d l h).headD (-1) = h := by simpa [isHead] using hh.2
  rw [Bool.eq_iff_iff, beq_iff_eq, beq_iff_eq]
  constructor
  · intro e
    have : grpOf d l h = grpOf d l y := by unfold grpOf; rw [e]
    rw [← this, hH]
  · intro e
    subst e
    exact (mem_grpOf.1 h0).2.symm
 rw [e]
 refine filter_eq_one (ten_nodup.filter _) ?_
 rw [List.mem_filter]
 refine ⟨(mem_grpOf.1 h0).1, ?_⟩
 unfold isHead
 rw [hg]; simp
theorem grp_sum (d l : Int) : ((grpL d l).map List.length).sum = 10 := by
 rw [grpL_heads, List.map_map]
 have e : (List.length ∘ grpOf d l) = fun h => (tenI.filter fun y => shC d l (dg y) == shC d l (dg h)).length := rfl
 rw [e, sum_swap (fun h y => shC d l (dg y) == shC d l (dg h))]
 exact sum_one _ tenI (fun y hy => one_head d l hy)
def sqTo (xss : List (List Int)) (k : Nat) : Nat := ((xss.take k).map fun g => g.length * g.length).sum
theorem sqTo_succ {xss : List (List Int)} {k : Nat} {g : List Int} (h : xss[k]? = some g) : sqTo xss (k + 1) = sqTo xss k + g.length * g.length := by
 unfold sqTo; rw [take_snoc h]; simp
theorem sq_le : ∀ xs : List (List Int), (xs.map fun g => g.length * g.length).sum ≤ (xs.map List.length).sum * (xs.map List.length).sum
 | [] => by simp
 | g :: t => by
  simp only [List.map_cons, List.sum_cons]
  have := sq_le t
  generalize (t.map List.length).sum = s at *
  generalize (t.map fun g => g.length * g.length).sum = q at *
  generalize g.length = n
  rw [Nat.add_mul, Nat.mul_add, Nat.mul_add]
  omega
theorem take_sum : ∀ (xs : List (List Int)) (k : Nat), ((xs.take k).map List.length).sum ≤ (xs.map List.length).sum
 | [], k => by simp
 | g :: t, 0 => by simp
 | g :: t, k + 1 => by
  simp only [List.take_succ_cons, List.map_cons, List.sum_cons]
  have := take_sum t k
  omega
theorem sqTo_le (d l : Int) (k : Nat) : sqTo (grpL d l) k ≤ 100 := by
 have h1 := sq_le ((grpL d l).take k)
 have h2 := take_sum (grpL d l) k
 rw [grp_sum] at h2
 have h3 := Nat.mul_le_mul h2 h2
 unfold sqTo
 omega
theorem grp_ten {d l : Int} {k : Nat} {g : List Int} (h : (grpL d l)[k]? = some g) : g.length ≤ 10 := by
 have h1 := sqTo_succ h
 have h2 := sqTo_le d l (k + 1)
 by_cases hg : g.length ≤ 10
 · exact hg
 · have := Nat.mul_le_mul (show 11 ≤ g.length by omega) (show 11 ≤ g.length by omega)
   omega
def csS (d l : Int) : Nat := sqTo (grpL d l) (grpL d l).length
def csV (d l : Int) : Value := .tuple #[if faultB d l then fracV (csS d l) 100 else .agg #[.int .i64 0, .int .i64 0], .bool (faultB d l)]
set_option maxHeartbeats 2000000 in
theorem ChanceSameDigit_c (d l : Int) (w : World) : Calls Tryz.prog 202 #[.agg #[.int .i64 d, .int .i64 l]] w fun e w' => e = .returned (csV d l) ∧ Below w.heap.size w w' := by
 have X0 := Lib.hid ((Bk.new w 46 #[.int .i64 d, .int .i64 l]).alloc (.cells #[.int .i64 0, .int .i64 0] 174))
 have b0 := Bk.new (w.alloc (.cells #[.int .i64 d, .int .i64 l] 46)) 174 #[.int .i64 0, .int .i64 0]
 rw [World.size_alloc] at b0
 have B0 := Lib.hid b0
 clear b0
 have HB0 : Hid (Below w.heap.size w ((w.alloc (.cells #[.int .i64 d, .int .i64 l] 46)).alloc (.cells #[.int .i64 0, .int .i64 0] 174))) := Below.alc (below_one _) _
 obtain ⟨q0, q1⟩ : ((w.alloc (.cells #[.int .i64 d, .int .i64 l] 46)).alloc (.cells #[.int .i64 0, .int .i64 0] 174)).cell? ⟨w.heap.size, 0, none⟩ = some (.int .i64 d) ∧ ((w.alloc (.cells #[.int .i64 d, .int .i64 l] 46)).alloc (.cells #[.int .i64 0, .int .i64 0] 174)).cell? ⟨w.heap.size, 1, none⟩ = some (.int .i64 l) := ⟨X0.out.cell 0, X0.out.cell 1⟩
 rcases hq : faultB d l with _ | _
 · have HF := Lib.hid (show csV d l = .tuple #[.agg #[.int .i64 0, .int .i64 0], .bool false] by simp [csV, hq])
   have HQ := Lib.hid hq; clear hq
   go_enter Tryz.func202, Tryz.ntmps202
   go_wp2_with fail
   refine (IsFault_c d l _).mono ?_
   rintro e w1 ⟨rfl, hb1⟩
   rw [HQ.out]
   have B1 := B0.out.below hb1
   have e0 : w1.cell? ⟨w.heap.size + 1, 0, none⟩ = some (.int .i64 0) := B1.cell 0
   have e1 : w1.cell? ⟨w.heap.size + 1, 1, none⟩ = some (.int .i64 0) := B1.cell 1
   have f0 := B1.frozen 0
   have f1 := B1.frozen 1
   have HB1 := Lib.hid (Below.chain HB0.out hb1)
   obtain ⟨u0, u1, hb7⟩ := two_set (.int .i64 0) (.int .i64 0) e0 e1 HB1.out (by omega)
   clear hb1 B1
   go_wp2
   clear e0 e1 f0 f1
   generalize (World.setCell (World.setCell _ _ _) _ _) = w3 at *
   refine bodyPost_ret (v := csV d l) (by rw [HF.out]; simp [results, Tryz.results202, go_sem, u0, u1]) rfl ⟨rfl, hb7⟩
 · have HF := Lib.hid (show csV d l = .tuple #[fracV (csS d l) 100, .bool true] by simp [csV, hq])
   have HQ := Lib.hid hq
   obtain ⟨d0, d1, l0, l1, _⟩ := faultB_true hq
   clear hq
   have HS : Hid (csS d l = sqTo (grpL d l) (grpL d l).length) := rfl
   have HSL := Lib.hid (fun k => sqTo_le d l k)
   have HGT := Lib.hid (fun k g (h : (grpL d l)[k]? = some g) => grp_ten h)
   have HGR := Lib.hid (fun w => groups_c d l w d0 d1 l0 l1)
   generalize csS d l = S at *
   generalize grpL d l = xss at *
   go_enter Tryz.func202, Tryz.ntmps202
   go_wp2_with fail
   refine (IsFault_c d l _).mono ?_
   rintro e w1 ⟨rfl, hb1⟩
   rw [HQ.out]
   have B1 := Lib.hid (B0.out.below hb1)
   have X1 := X0.out.below hb1
   obtain ⟨q2, q3⟩ : w1.cell? ⟨w.heap.size, 0, none⟩ = some (.int .i64 d) ∧ w1.cell? ⟨w.heap.size, 1, none⟩ = some (.int .i64 l) := ⟨X1.cell 0, X1.cell 1⟩
   have HB1 := Lib.hid (Below.chain HB0.out hb1)
   clear hb1 X1 q0 q1 B0 X0 HB0
   go_wp2_with fail
   refine (HGR.out _).mono ?_
   rintro e w2 ⟨u, rfl, ho, hb2⟩
   have B2 := Lib.hid (B1.out.below hb2)
   have HB2 := Lib.hid (Below.chain HB1.out hb2)
   obtain ⟨a, c, rfl, hxl, HC⟩ := ho.parts
   clear hb2 B1 HB1 q2 q3 ho HGR
   go_wp2
   go_loopw [4, 14] (fun s j wr => ∃ k : Nat, k ≤ xss.length ∧ j = .int .i64 (k : Int) ∧ s = .int .i64 ((sqTo xss k : Nat) : Int) ∧ Hid (Below w2.heap.size w2 wr)) (fun _ j _ => xss.length - (intOf j).toNat)
   case atStart => exact ⟨0, by omega, rfl, rfl, Below.refl _ _⟩
   case round =>
    obtain ⟨k, hk, rfl, rfl, HBr⟩ := hrel
    by_cases hlt : k < xss.length
    · have hdd : decide ((k : Int) < (xss.length : Int)) = true := by simp; omega
      obtain ⟨g, hg⟩ := elem_at hlt
      obtain ⟨b, off, a2, c2, rfl, f0, hgl, _⟩ := HC.out k g hg.out
      have g0 := cell_later HBr.out f0
      have hg10 := HGT.out k g hg.out
      have hs1 := HSL.out k
      have HX := Lib.hid (sqTo_succ hg.out)
      have hsq : g.length * g.length ≤ 100 := Nat.mul_le_mul hg10 hg10
      have hwm : IntKind.i64.wrap ((g.length : Int) * (g.length : Int)) = ((g.length * g.length : Nat) : Int) := by rw [← Int.natCast_mul, IntWalk.i64_in _ (by omega)]
      have hmm : (g.length : Int) * (g.length : Int) = ((g.length * g.length : Nat) : Int) := by rw [Int.natCast_mul]
      generalize hn : g.length * g.length = gg at *
      have HGG := Lib.hid hn
      clear f0 hn
      generalize sqTo xss k = s at *
      have hwa : IntKind.i64.wrap ((s : Int) + (gg : Int)) = (s : Int) + (gg : Int) := IntWalk.i64_in _ (by omega)
      go_wp2
      go_roundw
      case rel => exact ⟨k + 1, by omega, by go_num, by rw [HX.out]; first | rfl | simp, HBr⟩
      case measure => simp [intOf]; omega
    · obtain rfl : k = xss.length := by omega
      have hdd : decide ((xss.length : Int) < (xss.length : Int)) = false := by simp
      have hs1 := HSL.out xss.length
      rw [← HS.out] at *
      have HFR := Lib.hid (fraction_c S 100 (by omega) (by omega) (by omega) wr)
      go_wp2_with fail
      refine HFR.out.mono ?_
      rintro e w4 ⟨rfl, hb5⟩
      have BB2 := (B2.out.below HBr.out).below hb5
      have hb6 := Below.chain (Below.chain HB2.out HBr.out) hb5
      have e0 : w4.cell? ⟨w.heap.size + 1, 0, none⟩ = some (.int .i64 0) := BB2.cell 0
      have e1 : w4.cell? ⟨w.heap.size + 1, 1, none⟩ = some (.int .i64 0) := BB2.cell 1
      have f0 := BB2.frozen 0
      have f1 := BB2.frozen 1
      obtain ⟨u0, u1, hb7⟩ := two_set (.int .i64 (fracN S 100)) (.int .i64 (fracD S 100)) e0 e1 hb6 (by omega)
      clear BB2 hb6 hb5 HB2 HBr
      unfold fracV at HF ⊢
      go_wp2
      clear e0 e1 f0 f1
      generalize (World.setCell (World.setCell w4 _ _) _ _) = w3 at *
      refine bodyPost_ret (v := csV d l) (by rw [HF.out]; simp [results, Tryz.results202, go_sem, u0, u1]) rfl ⟨rfl, hb7⟩
theorem TabM.below {w w' : World} (h : TabM w) (hb : Below w.heap.size w w') : TabM w' := h.on hb
def frA (ok : Bool) (a b : Nat) : Nat := if ok then a / Nat.gcd a b else 0
def frB (ok : Bool) (a b : Nat) : Nat := if ok then b / Nat.gcd a b else 0
theorem frV_eq (ok : Bool) (a b : Nat) : (if ok then fracV a b else .agg #[.int .i64 0, .int .i64 0]) = .agg #[.int .i64 ((frA ok a b : Nat) : Int), .int .i64 ((frB ok a b : Nat) : Int)] := by
 cases ok <;> rfl
/-! tests -/
/-! same digits -/
theorem two_mul_le (x y : Nat) : 2 * (x * y) ≤ x * x + y * y := by
 rcases Nat.le_total x y with h | h
 · obtain ⟨d, rfl⟩ := Nat.exists_eq_add_of_le h
   simp only [Nat.add_mul, Nat.mul_add]
   have := Nat.mul_comm x d
   omega
 · obtain ⟨d, rfl⟩ := Nat.exists_eq_add_of_le h
   simp only [Nat.add_mul, Nat.mul_add]
   have := Nat.mul_comm y d
   omega
theorem cross_le (x : Nat) : ∀ xs : List Nat, 2 * (x * xs.sum) ≤ xs.length * (x * x) + (xs.map fun y => y * y).sum
 | [] => by simp
 | y :: t => by
  have h1 := cross_le x t
  have h2 := two_mul_le x y
  simp only [List.sum_cons, List.map_cons, List.length_cons, Nat.add_mul, Nat.mul_add, Nat.one_mul]
  omega
theorem cauchy : ∀ xs : List Nat, xs.sum * xs.sum ≤ xs.length * (xs.map fun y => y * y).sum
 | [] => by simp
 | x :: t => by
  have h1 := cauchy t
  have h2 := cross_le x t
  have h3 := Nat.mul_comm x t.sum
  simp only [List.sum_cons, List.map_cons, List.length_cons, Nat.add_mul, Nat.mul_add, Nat.one_mul]
  omega
theorem cs_facts (d l : Int) : csS d l ≤ 100 ∧ 100 ≤ csS d l * (grpL d l).length ∧ 0 < (grpL d l).length ∧ (grpL d l).length ≤ 10 := by
 have h1 := sqTo_le d l (grpL d l).length
 have h2 := cauchy ((grpL d l).map List.length)
 rw [grp_sum, List.length_map, List.map_map] at h2
 have e : csS d l = ((grpL d l).map ((fun y => y * y) ∘ List.length)).sum := by
  unfold csS sqTo; rw [List.take_length]; rfl
 rw [← e, Nat.mul_comm (grpL d l).length] at h2
 refine ⟨h1, h2, ?_, grpTo_le _ _ _⟩
 rcases Nat.eq_zero_or_pos (grpL d l).length with h | h
 · rw [h] at h2; omega
 · exact h
def csA (d l : Int) : Nat := frA (faultB d l) (csS d l) 100
def csB (d l : Int) : Nat := frB (faultB d l) (csS d l) 100
theorem csV_fr (d l : Int) : csV d l = .tuple #[.agg #[.int .i64 ((csA d l : Nat) : Int), .int .i64 ((csB d l : Nat) : Int)], .bool (faultB d l)] := by
 unfold csV csA csB; rw [frV_eq]
def mbA (n : Int) : Nat := frA (inB n 0 9999) (mbS (n.toNat + 1)) (n.toNat + 1)
def mbB (n : Int) : Nat := frB (inB n 0 9999) (mbS (n.toNat + 1)) (n.toNat + 1)
theorem mbV_fr (n : Int) : mbV n = .tuple #[.agg #[.int .i64 ((mbA n : Nat) : Int), .int .i64 ((mbB n : Nat) : Int)], .bool (inB n 0 9999)] := by
 unfold mbV mbA mbB; rw [frV_eq]
end Go.Proofs.YtohgjfdbnkjefaaGreatDoor
