import Derived.Test.YtohgjfdbnkjefaaGreatDoorKc9
open Go.World (rangeAt_setCells_same)
open Go.Lib (hid)
namespace Go.Proofs.YtohgjfdbnkjefaaGreatDoor
open Go.RowKit
set_option linter.unusedVariables false
set_option linter.unusedSimpArgs false
set_option maxRecDepth 100000
attribute [local go_sem ↓] Go.wp_at_zero Go.wp_at_succ
def MkPost (w : World) (b : List Int) (k a v : Int) (e : Ending) (w' : World) : Prop :=
 ∃ X : List Int, e = .returned (mkV X (makeB b k a v)) ∧ X.length = 19 ∧ (makeB b k a v = true → X = madeB b k a.toNat v) ∧ Below w.heap.size w w'
theorem MkPost.mk' {w : World} {b : List Int} {k a v : Int} {e : Ending} {w' : World} (X : List Int) {ok : Bool} (h : makeB b k a v = ok) (he : e = .returned (mkV X ok)) (hl : X.length = 19) (hx : ok = true → X = madeB b k a.toNat v) (hb : Below w.heap.size w w') : MkPost w b k a v e w' :=
 ⟨X, by rw [he, h], hl, fun h2 => hx (by rw [← h, h2]), hb⟩
theorem there_some {w : World} {g n : Nat} (h : w.there g 0 n) {j : Nat} (hj : j < n) : ∃ u, w.cell? ⟨g, j, none⟩ = some u := by
 have := (h j hj).1
 rw [Nat.zero_add] at this
 exact Option.isSome_iff_exists.1 this
theorem cell_far2 {w : World} {g o g2 : Nat} {u : Value} {vs : List Value} {o2 : Nat} (h : w.cell? ⟨g, o, none⟩ = some u) (hne : g ≠ g2) : (w.setCells g2 o2 vs).cell? ⟨g, o, none⟩ = some u := by
 have := World.rangeAt_setCells_apart (w := w) (b' := g) (o' := o) (cs := [u]) (fun j v hv => by
  cases j with
  | zero => simp at hv; subst hv; exact h
  | succ j => simp at hv) g2 o2 vs (.inl hne) 0 u rfl
 simpa using this
theorem hi19 {b : List Int} (h : b.length = 19) : (Tryz.prog.info? 26).map (·.size) = some (ints b).length := by rw [show (ints b).length = 19 by simp [ints, h]]; kernel_rfl
set_option maxHeartbeats 2000000 in
theorem make_a (b : List Int) (k a v : Int) (w : World) (hb : b.length = 19) (hg : goodB b = true) (ha : inB a 0 5 = false) :
 Calls Tryz.prog 142 #[aggI b, jobV k a v] w (MkPost w b k a v) := by
 obtain ⟨r0, t0, t1, q0, q1, q2, hb0⟩ := set3 b k a v w hb
 have gc := gB hg
 have HM := hid (show makeB b k a v = false by unfold makeB; rw [ha]; rfl)
 have HA := hid ha; clear ha
 have K := rangeAt_setCells_same (((w.alloc (.cells (ints b).toArray 26)).alloc (.cells #[.int .i64 k, .int .i64 a, .int .i64 v] 123)).alloc (.cells zBA 26)) (w.heap.size + 1 + 1) 0 (ints b) (by simpa [hb] using t1)
 have K6 := below_cells (ints b) (((w.alloc (.cells (ints b).toArray 26)).alloc (.cells #[.int .i64 k, .int .i64 a, .int .i64 v] 123)).alloc (.cells zBA 26)) (w.heap.size + 1 + 1) 0 hb0 (by omega)
 have K5 := loadVarB K hb
 clear t0 K
 unfold aggI jobV
 unfold zBA zB at *
 go_enter Tryz.func142, Tryz.ntmps142
 go_wp2_with fail
 refine (l1In_c _ _ _ _).mono ?_
 rintro e w1 ⟨rfl, rfl⟩
 rw [HA.out]
 generalize World.alloc _ _ = wb at *
 go_wp2_with (first | (refine wpList_loadB rfl _ rfl _ rfl _ r0 hb ?_) | (refine wpList_storeB rfl _ _ rfl _ _ rfl rfl t1 hb ?_))
 exact bodyPost_ret (v := mkV b false) (res_cell2 Tryz.results142 rfl K5) rfl (MkPost.mk' b HM.out rfl hb (fun h => by cases h) K6)
set_option maxHeartbeats 2000000 in
theorem make_o (b : List Int) (k : Int) (an : Nat) (v : Int) (w : World) (hb : b.length = 19) (hg : goodB b = true) (ha : an < 6) (k1 : ¬ k = 1) (k2 : ¬ k = 2) (k3 : ¬ k = 3) (k4 : ¬ k = 4) (k5 : ¬ k = 5) (k6 : ¬ k = 6) (k7 : ¬ k = 7) :
 Calls Tryz.prog 142 #[aggI b, jobV k (an : Int) v] w (MkPost w b k (an : Int) v) := by
 obtain ⟨r0, t0, t1, q0, q1, q2, hb0⟩ := set3 b k (an : Int) v w hb
 have n0 : (0 : Int) ≤ (an : Int) := by omega
 have n1 : (an : Int) < 6 := by omega
 have gc := gB hg
 have bd := goodB_at hg ha
 unfold bF at bd
 simp only at bd
 obtain ⟨⟨d0, d1, d2, d3⟩, d4, d5⟩ := bd
 have HM := hid (show makeB b k (an : Int) v = false by unfold makeB makeK; simp [k1, k2, k3, k4, k5, k6, k7])
 have HA : Hid (inB (an : Int) 0 5 = true) := inB_mk (by omega) (by omega)
 have K := rangeAt_setCells_same (((w.alloc (.cells (ints b).toArray 26)).alloc (.cells #[.int .i64 k, .int .i64 (an : Int), .int .i64 v] 123)).alloc (.cells zBA 26)) (w.heap.size + 1 + 1) 0 (ints b) (by simpa [hb] using t1)
 have K6 := below_cells (ints b) (((w.alloc (.cells (ints b).toArray 26)).alloc (.cells #[.int .i64 k, .int .i64 (an : Int), .int .i64 v] 123)).alloc (.cells zBA 26)) (w.heap.size + 1 + 1) 0 hb0 (by omega)
 have K5 := loadVarB K hb
 clear t0 K
 unfold aggI jobV
 unfold zBA zB at *
 go_enter Tryz.func142, Tryz.ntmps142
 go_wp2_with fail
 refine (l1In_c _ _ _ _).mono ?_
 rintro e w1 ⟨rfl, rfl⟩
 rw [HA.out]
 generalize World.alloc _ _ = wb at *
 go_wp2_with (first | (refine wpList_loadB rfl _ rfl _ rfl _ r0 hb ?_) | (refine wpList_storeB rfl _ _ rfl _ _ rfl rfl t1 hb ?_))
 exact bodyPost_ret (v := mkV b false) (res_cell2 Tryz.results142 rfl K5) rfl (MkPost.mk' b HM.out rfl hb (fun h => by cases h) K6)
set_option maxHeartbeats 2000000 in
theorem make_1n (b : List Int) (an : Nat) (v : Int) (w : World) (hb : b.length = 19) (hg : goodB b = true) (ha : an < 6) (hv : inB v 0 9 = false) :
 Calls Tryz.prog 142 #[aggI b, jobV 1 (an : Int) v] w (MkPost w b 1 (an : Int) v) := by
 obtain ⟨r0, t0, t1, q0, q1, q2, hb0⟩ := set3 b 1 (an : Int) v w hb
 have n0 : (0 : Int) ≤ (an : Int) := by omega
 have n1 : (an : Int) < 6 := by omega
 have gc := gB hg
 have bd := goodB_at hg ha
 unfold bF at bd
 simp only at bd
 obtain ⟨⟨d0, d1, d2, d3⟩, d4, d5⟩ := bd
 have HM := hid (show makeB b 1 (an : Int) v = false by unfold makeB makeK; rw [if_pos rfl]; unfold digitB; rw [hv]; simp)
 have HA : Hid (inB (an : Int) 0 5 = true) := inB_mk (by omega) (by omega)
 have HV := hid hv; clear hv
 have K := rangeAt_setCells_same (((w.alloc (.cells (ints b).toArray 26)).alloc (.cells #[.int .i64 1, .int .i64 (an : Int), .int .i64 v] 123)).alloc (.cells zBA 26)) (w.heap.size + 1 + 1) 0 (ints b) (by simpa [hb] using t1)
 have K6 := below_cells (ints b) (((w.alloc (.cells (ints b).toArray 26)).alloc (.cells #[.int .i64 1, .int .i64 (an : Int), .int .i64 v] 123)).alloc (.cells zBA 26)) (w.heap.size + 1 + 1) 0 hb0 (by omega)
 have K5 := loadVarB K hb
 clear t0 K
 unfold aggI jobV
 unfold zBA zB at *
 go_enter Tryz.func142, Tryz.ntmps142
 go_wp2_with fail
 refine (l1In_c _ _ _ _).mono ?_
 rintro e w1 ⟨rfl, rfl⟩
 rw [HA.out]
 go_wp2_with fail
 refine (l1In_c _ _ _ _).mono ?_
 rintro e w1 ⟨rfl, rfl⟩
 rw [HV.out]
 generalize World.alloc _ _ = wb at *
 go_wp2_with (first | (refine wpList_loadB rfl _ rfl _ rfl _ r0 hb ?_) | (refine wpList_storeB rfl _ _ rfl _ _ rfl rfl t1 hb ?_))
 exact bodyPost_ret (v := mkV b false) (res_cell2 Tryz.results142 rfl K5) rfl (MkPost.mk' b HM.out rfl hb (fun h => by cases h) K6)
set_option maxHeartbeats 2000000 in
theorem make_1y (b : List Int) (an vn : Nat) (w : World) (hb : b.length = 19) (hg : goodB b = true) (ha : an < 6) (hv : vn < 10) :
 Calls Tryz.prog 142 #[aggI b, jobV 1 (an : Int) (vn : Int)] w (MkPost w b 1 (an : Int) (vn : Int)) := by
 obtain ⟨r0, t0, t1, q0, q1, q2, hb0⟩ := set3 b 1 (an : Int) (vn : Int) w hb
 have n0 : (0 : Int) ≤ (an : Int) := by omega
 have n1 : (an : Int) < 6 := by omega
 have gc := gB hg
 have bd := goodB_at hg ha
 unfold bF at bd
 simp only at bd
 obtain ⟨⟨d0, d1, d2, d3⟩, d4, d5⟩ := bd
 have HM := hid (show makeB b 1 (an : Int) (vn : Int) = true by unfold makeB makeK digitB; rw [if_pos rfl, inB_mk (by omega) (by omega), inB_mk (by omega) (by omega)]; rfl)
 have HX : Hid (madeB b 1 ((an : Int).toNat) (vn : Int) = b.set an (dg (vn : Int))) := by show _ = _; unfold madeB; rw [if_pos rfl, Int.toNat_natCast]
 have HA : Hid (inB (an : Int) 0 5 = true) := inB_mk (by omega) (by omega)
 have HV : Hid (inB (vn : Int) 0 9 = true) := inB_mk (by omega) (by omega)
 have v0 : (0 : Int) ≤ (vn : Int) := by omega
 have v1 : (vn : Int) ≤ 9 := by omega
 have HD := fun w => l2Digit_c (vn : Int) v0 v1 w
 generalize dg (vn : Int) = X1 at *
 unfold aggI jobV
 unfold zBA zB at *
 go_enter Tryz.func142, Tryz.ntmps142
 go_wp2_with fail
 refine (l1In_c _ _ _ _).mono ?_
 rintro e w1 ⟨rfl, rfl⟩
 rw [HA.out]
 go_wp2_with fail
 refine (l1In_c _ _ _ _).mono ?_
 rintro e w1 ⟨rfl, rfl⟩
 rw [HV.out]
 generalize World.alloc _ _ = wb at *
 have HR := hid r0; have HT := hid t0; have HT1 := hid t1; have HBW := hid hb0
 have GC := hid gc
 clear r0 t0 t1 hb0 gc
 go_wp2
 go_region_held3 (fun w' => w'.cell? ⟨w.heap.size + 1, 1, none⟩ = some (.int .i64 (an : Int)) ∧ w'.cell? ⟨w.heap.size + 1, 2, none⟩ = some (.int .i64 (vn : Int)))
  (first | (go_split_ands; exact ⟨cell_later ‹_› ‹_›, cell_later ‹_› ‹_›⟩) | (go_split_ands; refine ⟨?_, ?_⟩ <;> (rw [World.cell?_setCell_other _ _ _ _ (by simp)]; assumption)) | go_keep)
  ((go_at_call 141; refine (HD _).mono ?_; rintro e w' ⟨rfl, hb3⟩; have hB : Below wb.heap.size wb w' := Below.chain (Below.refl _ _).drew hb3; have p0 := cell18 (range_below HR.out hB) (j := an) (by omega); have f0 := there_froz (there_below HT.out hB) (j := an) (by omega)))
 go_split_ands
 have r0 := range_below HR.out hB
 have t0 := there_below HT.out hB
 have t1 := there_below HT1.out hB
 have hb0 := Below.chain HBW.out hB
 have hl : (b.set (an) (X1)).length = 19 := by simp [hb]
 have R1 := (range_set r0 (j := an) (X1) (by omega))
 have T0 := (there_set t0 w.heap.size (an) (.int .i64 (X1)))
 have T1 := (there_set t1 w.heap.size (an) (.int .i64 (X1)))
 have B1 := (Below.setCell hb0 (p := ⟨w.heap.size, an, none⟩) (Nat.le_refl _) (.int .i64 (X1)))
 have K := rangeAt_setCells_same _ (w.heap.size + 1 + 1) 0 (ints (b.set (an) (X1))) (by simpa [hb] using T1)
 have K6 := below_cells (ints (b.set (an) (X1))) _ (w.heap.size + 1 + 1) 0 B1 (by omega)
 have K5 := loadVarB K hl
 clear r0 t0 t1 hb0 T0 B1
 generalize hbb : (b.set (an) (X1)) = bb at *
 have HBB := hid hbb; clear hbb
 clear K
 go_wp2_with (first | (refine wpList_loadB rfl _ rfl _ rfl _ R1 hl ?_) | (refine wpList_storeB rfl _ _ rfl _ _ rfl rfl T1 hl ?_))
 exact bodyPost_ret (v := mkV bb true) (res_cell2 Tryz.results142 rfl K5) rfl (MkPost.mk' bb HM.out rfl hl (fun _ => HX.out.symm) K6)
set_option maxHeartbeats 2000000 in
theorem make_2 (b : List Int) (an : Nat) (v : Int) (w : World) (hb : b.length = 19) (hg : goodB b = true) (ha : an < 6) :
 Calls Tryz.prog 142 #[aggI b, jobV 2 (an : Int) v] w (MkPost w b 2 (an : Int) v) := by
 obtain ⟨r0, t0, t1, q0, q1, q2, hb0⟩ := set3 b 2 (an : Int) v w hb
 have n0 : (0 : Int) ≤ (an : Int) := by omega
 have n1 : (an : Int) < 6 := by omega
 have gc := gB hg
 have bd := goodB_at hg ha
 unfold bF at bd
 simp only at bd
 obtain ⟨⟨d0, d1, d2, d3⟩, d4, d5⟩ := bd
 have HM := hid (show makeB b 2 (an : Int) v = (v == 0) by unfold makeB makeK; rw [if_neg (by omega), if_pos rfl, inB_mk (by omega) (by omega)]; rfl)
 have HX : Hid (madeB b 2 ((an : Int).toNat) v = b.set an 0) := by show _ = _; unfold madeB; rw [if_neg (by omega), if_pos rfl, Int.toNat_natCast]
 have HA : Hid (inB (an : Int) 0 5 = true) := inB_mk (by omega) (by omega)
 unfold aggI jobV
 unfold zBA zB at *
 go_enter Tryz.func142, Tryz.ntmps142
 go_wp2_with fail
 refine (l1In_c _ _ _ _).mono ?_
 rintro e w1 ⟨rfl, rfl⟩
 rw [HA.out]
 generalize World.alloc _ _ = wb at *
 have g1 := cell18 r0 (j := an) (by omega)
 have f1 := there_froz t0 (j := an) (by omega)
 have hl : (b.set (an) (0)).length = 19 := by simp [hb]
 have R1 := (range_set r0 (j := an) (0) (by omega))
 have T0 := (there_set t0 w.heap.size (an) (.int .i64 (0)))
 have T1 := (there_set t1 w.heap.size (an) (.int .i64 (0)))
 have B1 := (Below.setCell hb0 (p := ⟨w.heap.size, an, none⟩) (Nat.le_refl _) (.int .i64 (0)))
 have K := rangeAt_setCells_same _ (w.heap.size + 1 + 1) 0 (ints (b.set (an) (0))) (by simpa [hb] using T1)
 have K6 := below_cells (ints (b.set (an) (0))) _ (w.heap.size + 1 + 1) 0 B1 (by omega)
 have K5 := loadVarB K hl
 clear r0 t0 t1 hb0 T0 K K5 K6
 generalize hbb : (b.set (an) (0)) = bb at *
 have HBB := hid hbb; clear hbb
 have q2' := World.cell?_setCell_other wb ⟨w.heap.size, an, none⟩ ⟨w.heap.size + 1, 2, none⟩ (.int .i64 0) (by simp)
 rw [q2] at q2'
 have B3 := B1; clear B1
 go_wp2
 generalize World.setCell _ _ _ = w3 at *
 refine wp_region_held_drew (S := fun w' : World => w'.rangeAt (w.heap.size) 0 (ints bb) ∧ w'.there (w.heap.size + 1 + 1) 0 19 ∧ w'.cell? ⟨w.heap.size + 1, 2, none⟩ = some (.int .i64 v)) (by kernel_rfl) ⟨R1, T1, q2'⟩ (fun hHeld => ?_)
 refine' tkL 0 hHeld (cs := ints bb) (fun w' h => h.1) Tryz.underlying26 (hi19 hl) ?_
 repeat' first
  | refine' tkZ 1 hHeld ?_
  | refine' tkZ 2 hHeld ?_
  | refine' tkZ 3 hHeld ?_
  | refine' tkZ 5 hHeld ?_
  | (refine rdyS [4] (rdy ?_ .nil)
     intro K hK
     rw [if_pos (by rfl)]
     refine wp_store_mid _ _ _ rfl _ _ (ints bb).toArray rfl rfl (by simpa [ints, hl] using hHeld.2.1) (by simpa using hi19 hl) (all_oneCell_toArray ints_one) ?_
     rw [List.toList_toArray]
     refine hK.out _ _ ⟨World.rangeAt_setCells_apart (w := w3.drew) R1 (w.heap.size + 1 + 1) 0 (ints bb) (.inl (by omega)), World.there_setCells (w := w3.drew) T1 (w.heap.size + 1 + 1) 0 (ints bb), cell_far2 (show w3.drew.cell? _ = _ from q2') (by simp)⟩ fun hHeld => nrm ?_
     clear hK K)
  | (refine wpAnyH_done (by decide +kernel) ?_ _
     have K5 := loadVarB (rangeAt_setCells_same w3.drew (w.heap.size + 1 + 1) 0 (ints bb) (by simpa [hl] using T1)) hl
     have K6 := below_cells (ints bb) w3.drew (w.heap.size + 1 + 1) 0 B3.drew (by omega)
     go_wp2
     first
      | exact bodyPost_ret (v := mkV bb (v == 0)) (res_cell2 Tryz.results142 rfl K5) rfl (MkPost.mk' bb HM.out rfl hl (fun _ => HX.out.symm) K6))
set_option maxHeartbeats 2000000 in
theorem make_3n (b : List Int) (an : Nat) (v : Int) (w : World) (hb : b.length = 19) (hg : goodB b = true) (ha : an < 6) (hv : inB v 0 6 = false) :
 Calls Tryz.prog 142 #[aggI b, jobV 3 (an : Int) v] w (MkPost w b 3 (an : Int) v) := by
 obtain ⟨r0, t0, t1, q0, q1, q2, hb0⟩ := set3 b 3 (an : Int) v w hb
 have n0 : (0 : Int) ≤ (an : Int) := by omega
 have n1 : (an : Int) < 6 := by omega
 have gc := gB hg
 have bd := goodB_at hg ha
 unfold bF at bd
 simp only at bd
 obtain ⟨⟨d0, d1, d2, d3⟩, d4, d5⟩ := bd
 have HM := hid (show makeB b 3 (an : Int) v = false by unfold makeB makeK; rw [if_neg (show ¬ (3 : Int) = 1 by omega), if_neg (show ¬ (3 : Int) = 2 by omega), if_pos rfl, inB_mk (show (0 : Int) ≤ (an : Int) by omega) (by omega), Int.toNat_natCast, hv, Bool.false_and, Bool.and_false])
 have HX : Hid (false = true → b = madeB b 3 ((an : Int).toNat) v) := fun h => by cases h
 have HA : Hid (inB (an : Int) 0 5 = true) := inB_mk (by omega) (by omega)
 have hl : b.length = 19 := by simp [hb]
 have HF := fun w => fail_no3 b an v w hb hg ha hv
 have HFF := hid HF; clear HF
 unfold mkV aggI jobV at HFF
 clear hv
 unfold aggI jobV
 unfold zBA zB at *
 go_enter Tryz.func142, Tryz.ntmps142
 go_wp2_with fail
 refine (l1In_c _ _ _ _).mono ?_
 rintro e w1 ⟨rfl, rfl⟩
 rw [HA.out]
 generalize World.alloc _ _ = wb at *
 go_wp2_with (refine wpList_loadB rfl _ rfl _ rfl _ r0 hb ?_)
 refine (HFF.out _).mono ?_
 rintro e w1 ⟨rfl, hb1⟩
 have u1 := there_below t1 hb1
 have b1 := Below.chain hb0 hb1
 have K := rangeAt_setCells_same w1 (w.heap.size + 1 + 1) 0 (ints b) (by simpa [hl] using u1)
 have K6 := below_cells (ints b) w1 (w.heap.size + 1 + 1) 0 b1 (by omega)
 have K5 := loadVarB K hl
 clear r0 t0 t1 hb0 hb1 b1 K q0 q1 q2
 go_wp2_with (refine wpList_storeB rfl _ _ rfl _ b rfl rfl u1 hl ?_)
 exact bodyPost_ret (v := mkV b false) (res_cell2 Tryz.results142 rfl K5) rfl (MkPost.mk' b HM.out rfl hl HX.out K6)
set_option maxHeartbeats 2000000 in
theorem make_3y (b : List Int) (an vn : Nat) (w : World) (hb : b.length = 19) (hg : goodB b = true) (ha : an < 6) (hv : vn < 7) :
 Calls Tryz.prog 142 #[aggI b, jobV 3 (an : Int) (vn : Int)] w (MkPost w b 3 (an : Int) (vn : Int)) := by
 obtain ⟨r0, t0, t1, q0, q1, q2, hb0⟩ := set3 b 3 (an : Int) (vn : Int) w hb
 have n0 : (0 : Int) ≤ (an : Int) := by omega
 have n1 : (an : Int) < 6 := by omega
 have gc := gB hg
 have bd := goodB_at hg ha
 unfold bF at bd
 simp only at bd
 obtain ⟨⟨d0, d1, d2, d3⟩, d4, d5⟩ := bd
 have HM := hid (show makeB b 3 (an : Int) (vn : Int) = (!barB (bg b (6 + an)) (vn : Int)) by unfold makeB makeK; rw [if_neg (show ¬ (3 : Int) = 1 by omega), if_neg (show ¬ (3 : Int) = 2 by omega), if_pos rfl, inB_mk (show (0 : Int) ≤ (an : Int) by omega) (by omega), Int.toNat_natCast, inB_mk (show (0 : Int) ≤ (vn : Int) by omega) (by omega), Bool.true_and, Bool.true_and])
 have HX : Hid ((!barB (bg b (6 + an)) (vn : Int)) = true → ((b.set (6 + an) (orC (bg b (6 + an)) (bitC (vn : Int)))).set (12 + an) (anC (bg b (12 + an)) (bitC (vn : Int)))) = madeB b 3 ((an : Int).toNat) (vn : Int)) := fun _ => by unfold madeB; rw [if_neg (show ¬ (3 : Int) = 1 by omega), if_neg (show ¬ (3 : Int) = 2 by omega), if_pos rfl, Int.toNat_natCast]
 have HA : Hid (inB (an : Int) 0 5 = true) := inB_mk (by omega) (by omega)
 have hl : ((b.set (6 + an) (orC (bg b (6 + an)) (bitC (vn : Int)))).set (12 + an) (anC (bg b (12 + an)) (bitC (vn : Int)))).length = 19 := by simp [hb]
 have HF := fun w => fail_yes3 b an vn w hb hg ha hv
 generalize ((b.set (6 + an) (orC (bg b (6 + an)) (bitC (vn : Int)))).set (12 + an) (anC (bg b (12 + an)) (bitC (vn : Int)))) = bb at *
 generalize (!barB (bg b (6 + an)) (vn : Int)) = okv at *
 have HFF := hid HF; clear HF
 unfold mkV aggI jobV at HFF
 unfold aggI jobV
 unfold zBA zB at *
 go_enter Tryz.func142, Tryz.ntmps142
 go_wp2_with fail
 refine (l1In_c _ _ _ _).mono ?_
 rintro e w1 ⟨rfl, rfl⟩
 rw [HA.out]
 generalize World.alloc _ _ = wb at *
 go_wp2_with (refine wpList_loadB rfl _ rfl _ rfl _ r0 hb ?_)
 refine (HFF.out _).mono ?_
 rintro e w1 ⟨rfl, hb1⟩
 have u1 := there_below t1 hb1
 have b1 := Below.chain hb0 hb1
 have K := rangeAt_setCells_same w1 (w.heap.size + 1 + 1) 0 (ints bb) (by simpa [hl] using u1)
 have K6 := below_cells (ints bb) w1 (w.heap.size + 1 + 1) 0 b1 (by omega)
 have K5 := loadVarB K hl
 clear r0 t0 t1 hb0 hb1 b1 K q0 q1 q2
 go_wp2_with (refine wpList_storeB rfl _ _ rfl _ bb rfl rfl u1 hl ?_)
 exact bodyPost_ret (v := mkV bb okv) (res_cell2 Tryz.results142 rfl K5) rfl (MkPost.mk' bb HM.out rfl hl HX.out K6)
set_option maxHeartbeats 2000000 in
theorem make_4n (b : List Int) (an : Nat) (v : Int) (w : World) (hb : b.length = 19) (hg : goodB b = true) (ha : an < 6) (hv : inB v 0 6 = false) :
 Calls Tryz.prog 142 #[aggI b, jobV 4 (an : Int) v] w (MkPost w b 4 (an : Int) v) := by
 obtain ⟨r0, t0, t1, q0, q1, q2, hb0⟩ := set3 b 4 (an : Int) v w hb
 have n0 : (0 : Int) ≤ (an : Int) := by omega
 have n1 : (an : Int) < 6 := by omega
 have gc := gB hg
 have bd := goodB_at hg ha
 unfold bF at bd
 simp only at bd
 obtain ⟨⟨d0, d1, d2, d3⟩, d4, d5⟩ := bd
 have HM := hid (show makeB b 4 (an : Int) v = false by unfold makeB makeK; rw [if_neg (show ¬ (4 : Int) = 1 by omega), if_neg (show ¬ (4 : Int) = 2 by omega), if_neg (show ¬ (4 : Int) = 3 by omega), if_pos rfl, inB_mk (show (0 : Int) ≤ (an : Int) by omega) (by omega), Int.toNat_natCast, hv, Bool.false_and, Bool.and_false])
 have HX : Hid (false = true → b = madeB b 4 ((an : Int).toNat) v) := fun h => by cases h
 have HA : Hid (inB (an : Int) 0 5 = true) := inB_mk (by omega) (by omega)
 have hl : b.length = 19 := by simp [hb]
 have HF := fun w => fail_no4 b an v w hb hg ha hv
 have HFF := hid HF; clear HF
 unfold mkV aggI jobV at HFF
 clear hv
 unfold aggI jobV
 unfold zBA zB at *
 go_enter Tryz.func142, Tryz.ntmps142
 go_wp2_with fail
 refine (l1In_c _ _ _ _).mono ?_
 rintro e w1 ⟨rfl, rfl⟩
 rw [HA.out]
 generalize World.alloc _ _ = wb at *
 go_wp2_with (refine wpList_loadB rfl _ rfl _ rfl _ r0 hb ?_)
 refine (HFF.out _).mono ?_
 rintro e w1 ⟨rfl, hb1⟩
 have u1 := there_below t1 hb1
 have b1 := Below.chain hb0 hb1
 have K := rangeAt_setCells_same w1 (w.heap.size + 1 + 1) 0 (ints b) (by simpa [hl] using u1)
 have K6 := below_cells (ints b) w1 (w.heap.size + 1 + 1) 0 b1 (by omega)
 have K5 := loadVarB K hl
 clear r0 t0 t1 hb0 hb1 b1 K q0 q1 q2
 go_wp2_with (refine wpList_storeB rfl _ _ rfl _ b rfl rfl u1 hl ?_)
 exact bodyPost_ret (v := mkV b false) (res_cell2 Tryz.results142 rfl K5) rfl (MkPost.mk' b HM.out rfl hl HX.out K6)
set_option maxHeartbeats 2000000 in
theorem make_4y (b : List Int) (an vn : Nat) (w : World) (hb : b.length = 19) (hg : goodB b = true) (ha : an < 6) (hv : vn < 7) :
 Calls Tryz.prog 142 #[aggI b, jobV 4 (an : Int) (vn : Int)] w (MkPost w b 4 (an : Int) (vn : Int)) := by
 obtain ⟨r0, t0, t1, q0, q1, q2, hb0⟩ := set3 b 4 (an : Int) (vn : Int) w hb
 have n0 : (0 : Int) ≤ (an : Int) := by omega
 have n1 : (an : Int) < 6 := by omega
 have gc := gB hg
 have bd := goodB_at hg ha
 unfold bF at bd
 simp only at bd
 obtain ⟨⟨d0, d1, d2, d3⟩, d4, d5⟩ := bd
 have HM := hid (show makeB b 4 (an : Int) (vn : Int) = (!barB (bg b (12 + an)) (vn : Int)) by unfold makeB makeK; rw [if_neg (show ¬ (4 : Int) = 1 by omega), if_neg (show ¬ (4 : Int) = 2 by omega), if_neg (show ¬ (4 : Int) = 3 by omega), if_pos rfl, inB_mk (show (0 : Int) ≤ (an : Int) by omega) (by omega), Int.toNat_natCast, inB_mk (show (0 : Int) ≤ (vn : Int) by omega) (by omega), Bool.true_and, Bool.true_and])
 have HX : Hid ((!barB (bg b (12 + an)) (vn : Int)) = true → ((b.set (6 + an) (anC (bg b (6 + an)) (bitC (vn : Int)))).set (12 + an) (orC (bg b (12 + an)) (bitC (vn : Int)))) = madeB b 4 ((an : Int).toNat) (vn : Int)) := fun _ => by unfold madeB; rw [if_neg (show ¬ (4 : Int) = 1 by omega), if_neg (show ¬ (4 : Int) = 2 by omega), if_neg (show ¬ (4 : Int) = 3 by omega), if_pos rfl, Int.toNat_natCast]
 have HA : Hid (inB (an : Int) 0 5 = true) := inB_mk (by omega) (by omega)
 have hl : ((b.set (6 + an) (anC (bg b (6 + an)) (bitC (vn : Int)))).set (12 + an) (orC (bg b (12 + an)) (bitC (vn : Int)))).length = 19 := by simp [hb]
 have HF := fun w => fail_yes4 b an vn w hb hg ha hv
 generalize ((b.set (6 + an) (anC (bg b (6 + an)) (bitC (vn : Int)))).set (12 + an) (orC (bg b (12 + an)) (bitC (vn : Int)))) = bb at *
 generalize (!barB (bg b (12 + an)) (vn : Int)) = okv at *
 have HFF := hid HF; clear HF
 unfold mkV aggI jobV at HFF
 unfold aggI jobV
 unfold zBA zB at *
 go_enter Tryz.func142, Tryz.ntmps142
 go_wp2_with fail
 refine (l1In_c _ _ _ _).mono ?_
 rintro e w1 ⟨rfl, rfl⟩
 rw [HA.out]
 generalize World.alloc _ _ = wb at *
 go_wp2_with (refine wpList_loadB rfl _ rfl _ rfl _ r0 hb ?_)
 refine (HFF.out _).mono ?_
 rintro e w1 ⟨rfl, hb1⟩
 have u1 := there_below t1 hb1
 have b1 := Below.chain hb0 hb1
 have K := rangeAt_setCells_same w1 (w.heap.size + 1 + 1) 0 (ints bb) (by simpa [hl] using u1)
 have K6 := below_cells (ints bb) w1 (w.heap.size + 1 + 1) 0 b1 (by omega)
 have K5 := loadVarB K hl
 clear r0 t0 t1 hb0 hb1 b1 K q0 q1 q2
 go_wp2_with (refine wpList_storeB rfl _ _ rfl _ bb rfl rfl u1 hl ?_)
 exact bodyPost_ret (v := mkV bb okv) (res_cell2 Tryz.results142 rfl K5) rfl (MkPost.mk' bb HM.out rfl hl HX.out K6)
theorem or_zero {x y : Int} (x0 : 0 ≤ x) (x1 : x ≤ 127) (y0 : 0 ≤ y) (y1 : y ≤ 127) : ∃ m : Int, bits .or .i64 x y = m ∧ (m == 0) = ((x == 0) && (y == 0)) := by
 obtain ⟨x, rfl⟩ := Int.eq_ofNat_of_zero_le x0
 obtain ⟨y, rfl⟩ := Int.eq_ofNat_of_zero_le y0
 refine ⟨((x ||| y : Nat) : Int), i64_or_nat _ _ (by omega) (by omega), ?_⟩
 rw [Bool.eq_iff_iff]
 simp only [Bool.and_eq_true, beq_iff_eq]
 constructor
 · intro h
   have h0 : x ||| y = 0 := by omega
   have := Nat.or_eq_zero_iff.1 h0
   omega
 · rintro ⟨h1, h2⟩
   have h3 : x = 0 := by omega
   have h4 : y = 0 := by omega
   rw [h3, h4]; rfl
set_option maxHeartbeats 2000000 in
theorem make_5 (b : List Int) (an : Nat) (v : Int) (w : World) (hb : b.length = 19) (hg : goodB b = true) (ha : an < 6) :
 Calls Tryz.prog 142 #[aggI b, jobV 5 (an : Int) v] w (MkPost w b 5 (an : Int) v) := by
 obtain ⟨r0, t0, t1, q0, q1, q2, hb0⟩ := set3 b 5 (an : Int) v w hb
 have n0 : (0 : Int) ≤ (an : Int) := by omega
 have n1 : (an : Int) < 6 := by omega
 have gc := gB hg
 have bd := goodB_at hg ha
 unfold bF at bd
 simp only at bd
 obtain ⟨⟨d0, d1, d2, d3⟩, d4, d5⟩ := bd
 have HM := hid (show makeB b 5 (an : Int) v = ((v == 0) && !((bg b (6 + an) == 0) && (bg b (12 + an) == 0))) by unfold makeB makeK; rw [if_neg (show ¬ (5 : Int) = 1 by omega), if_neg (show ¬ (5 : Int) = 2 by omega), if_neg (show ¬ (5 : Int) = 3 by omega), if_neg (show ¬ (5 : Int) = 4 by omega), if_pos rfl, inB_mk (show (0 : Int) ≤ (an : Int) by omega) (by omega), Int.toNat_natCast]; simp [Bool.and_comm])
 have HX : Hid (madeB b 5 ((an : Int).toNat) v = ((b.set (6 + an) (0)).set (12 + an) (0))) := by show _ = _; unfold madeB; rw [if_neg (show ¬ (5 : Int) = 1 by omega), if_neg (show ¬ (5 : Int) = 2 by omega), if_neg (show ¬ (5 : Int) = 3 by omega), if_neg (show ¬ (5 : Int) = 4 by omega), if_pos rfl, Int.toNat_natCast]
 have HA : Hid (inB (an : Int) 0 5 = true) := inB_mk (by omega) (by omega)
 obtain ⟨M, HO, HZ⟩ := or_zero d0 d1 d2 d3
 rcases hz : ((bg b (6 + an) == 0) && (bg b (12 + an) == 0)) with _ | _ <;> (
  rw [hz] at HZ
  have HZ2 : (M != 0) = _ := congrArg not HZ
  rw [hz] at HM
  simp only [Bool.not_true, Bool.not_false, Bool.and_true, Bool.and_false] at HM HZ2
  clear hz
  unfold aggI jobV
  unfold zBA zB at *
  go_enter Tryz.func142, Tryz.ntmps142
  go_wp2_with fail
  refine (l1In_c _ _ _ _).mono ?_
  rintro e w1 ⟨rfl, rfl⟩
  rw [HA.out]
  generalize World.alloc _ _ = wb at *
  have g1 := cell18 r0 (j := 6 + an) (by omega)
  have g2 := cell18 r0 (j := 12 + an) (by omega)
  have f1 := there_froz t0 (j := 6 + an) (by omega)
  have f2 := there_froz t0 (j := 12 + an) (by omega)
  go_wp2
  go_region
  have r1 : wb.drew.rangeAt w.heap.size 0 (ints b) := r0
  have u0 : wb.drew.there w.heap.size 0 19 := t0
  have u1 : wb.drew.there (w.heap.size + 1 + 1) 0 19 := t1
  have hb1 : Below w.heap.size w wb.drew := hb0.drew
  clear r0 t0 t1 hb0
  have r0 := r1; have t0 := u0; have t1 := u1; have hb0 := hb1
  clear r1 u0 u1 hb1
  have g1 : wb.drew.cell? ⟨w.heap.size, 6 + an, none⟩ = _ := g1
  have g2 : wb.drew.cell? ⟨w.heap.size, 12 + an, none⟩ = _ := g2
  have f1 : wb.drew.frozen? ⟨w.heap.size, 6 + an, none⟩ = _ := f1
  have f2 : wb.drew.frozen? ⟨w.heap.size, 12 + an, none⟩ = _ := f2
  have q0 : wb.drew.cell? ⟨w.heap.size + 1, 0, none⟩ = _ := q0
  have q1 : wb.drew.cell? ⟨w.heap.size + 1, 1, none⟩ = _ := q1
  have q2 : wb.drew.cell? ⟨w.heap.size + 1, 2, none⟩ = _ := q2
  generalize wb.drew = wd at *
  have hl : ((b.set (6 + an) (0)).set (12 + an) (0)).length = 19 := by simp [hb]
  have R1 := (range_set (range_set r0 (j := 6 + an) (0) (by omega)) (j := 12 + an) (0) (by simp; omega))
  have T0 := (there_set (there_set t0 w.heap.size (6 + an) (.int .i64 (0))) w.heap.size (12 + an) (.int .i64 (0)))
  have T1 := (there_set (there_set t1 w.heap.size (6 + an) (.int .i64 (0))) w.heap.size (12 + an) (.int .i64 (0)))
  have B1 := (Below.setCell (Below.setCell hb0 (p := ⟨w.heap.size, 6 + an, none⟩) (Nat.le_refl _) (.int .i64 (0))) (p := ⟨w.heap.size, 12 + an, none⟩) (Nat.le_refl _) (.int .i64 (0)))
  have K := rangeAt_setCells_same _ (w.heap.size + 1 + 1) 0 (ints ((b.set (6 + an) (0)).set (12 + an) (0))) (by simpa [hb] using T1)
  have K6 := below_cells (ints ((b.set (6 + an) (0)).set (12 + an) (0))) _ (w.heap.size + 1 + 1) 0 B1 (by omega)
  have K5 := loadVarB K hl
  clear r0 t0 t1 hb0 T0 K K5 K6
  generalize hbb : ((b.set (6 + an) (0)).set (12 + an) (0)) = bb at *
  have HBB := hid hbb; clear hbb
  have q2' : ((wd.setCell ⟨w.heap.size, 6 + an, none⟩ (.int .i64 (0))).setCell ⟨w.heap.size, 12 + an, none⟩ (.int .i64 (0))).cell? ⟨w.heap.size + 1, 2, none⟩ = some (.int .i64 v) := by rw [World.cell?_setCell_other _ _ _ _ (by simp), World.cell?_setCell_other _ _ _ _ (by simp)]; exact q2
  have B3 := B1; clear B1
  go_wp2
  generalize World.setCell _ _ _ = w3 at *
  refine wp_region_held_drew (S := fun w' : World => w'.rangeAt (w.heap.size) 0 (ints bb) ∧ w'.there (w.heap.size + 1 + 1) 0 19 ∧ w'.cell? ⟨w.heap.size + 1, 2, none⟩ = some (.int .i64 v)) (by kernel_rfl) ⟨R1, T1, q2'⟩ (fun hHeld => ?_)
  refine' tkL 0 hHeld (cs := ints bb) (fun w' h => h.1) Tryz.underlying26 (hi19 hl) ?_
  repeat' first
   | refine' tkZ 1 hHeld ?_
   | refine' tkZ 2 hHeld ?_
   | refine' tkZ 3 hHeld ?_
   | refine' tkZ 4 hHeld ?_
   | refine' tkZ 5 hHeld ?_
   | refine' tkZ 6 hHeld ?_
   | refine' tkZ 8 hHeld ?_
   | refine' tkZ 3 hHeld (v := undef) (hy := Or.inr ⟨by rfl, rfl⟩) ?_
   | refine' tkZ 4 hHeld (v := undef) (hy := Or.inr ⟨by rfl, rfl⟩) ?_
   | refine' tkZ 5 hHeld (v := undef) (hy := Or.inr ⟨by rfl, rfl⟩) ?_
   | (refine rdyS [7] (rdy ?_ .nil)
      intro K hK
      rw [if_pos (by rfl)]
      refine wp_store_mid _ _ _ rfl _ _ (ints bb).toArray rfl rfl (by simpa [ints, hl] using hHeld.2.1) (by simpa using hi19 hl) (all_oneCell_toArray ints_one) ?_
      rw [List.toList_toArray]
      refine hK.out _ _ ⟨World.rangeAt_setCells_apart (w := w3.drew) R1 (w.heap.size + 1 + 1) 0 (ints bb) (.inl (by omega)), World.there_setCells (w := w3.drew) T1 (w.heap.size + 1 + 1) 0 (ints bb), cell_far2 (show w3.drew.cell? _ = _ from q2') (by simp)⟩ fun hHeld => nrm ?_
      clear hK K)
   | (refine wpAnyH_done (by decide +kernel) ?_ _
      have K5 := loadVarB (rangeAt_setCells_same w3.drew (w.heap.size + 1 + 1) 0 (ints bb) (by simpa [hl] using T1)) hl
      have K6 := below_cells (ints bb) w3.drew (w.heap.size + 1 + 1) 0 B3.drew (by omega)
      go_wp2
      first
       | exact bodyPost_ret (v := mkV bb (v == 0)) (res_cell2 Tryz.results142 rfl K5) rfl (MkPost.mk' bb HM.out rfl hl (fun _ => HX.out.symm) K6)
       | exact bodyPost_ret (v := mkV bb false) (res_cell2 Tryz.results142 rfl K5) rfl (MkPost.mk' bb HM.out rfl hl (fun _ => HX.out.symm) K6)))
set_option maxHeartbeats 4000000 in
theorem make_67 (b : List Int) (k : Int) (tf : Bool) (a v : Int) (w : World) (hb : b.length = 19) (hg : goodB b = true) (ha : inB a 0 5 = true) (hk : k = 6 ∧ tf = true ∨ k = 7 ∧ tf = false) :
 Calls Tryz.prog 142 #[aggI b, jobV k a v] w (MkPost w b k a v) := by
 obtain ⟨r0, t0, t1, q0, q1, q2, hb0⟩ := set3 b k a v w hb
 have HM : Hid (makeB b k a v = ((v == 0) && (a == 0))) := by
  show _ = _
  have h0 := inB_true ha
  have e : (a.toNat == 0) = (a == 0) := by rw [Bool.eq_iff_iff, beq_iff_eq, beq_iff_eq]; omega
  unfold makeB makeK
  rw [if_neg (by omega), if_neg (by omega), if_neg (by omega), if_neg (by omega), if_neg (by omega), if_pos (by omega), ha, e, Bool.true_and, Bool.and_comm]
 have HX : Hid (madeB b k (a.toNat) v = seenI tf b 6) := by
  show _ = _
  rcases hk with ⟨rfl, rfl⟩ | ⟨rfl, rfl⟩ <;> (unfold madeB; simp)
 have HA := hid ha
 have hl : (seenI tf b 6).length = 19 := by rw [seenI_len, hb]
 have HC := fun w => l12Seen_c tf b w hb hg
 rw [← seen_same tf hb] at HC
 generalize seenI tf b 6 = bb at *
 have HCC := hid HC
 clear HC ha
 unfold aggI at HCC
 unfold aggI jobV
 unfold zBA zB at *
 rcases hk with ⟨rfl, rfl⟩ | ⟨rfl, rfl⟩ <;> rcases n2 : (a == 0) with _ | _ <;> (
  have n3 : decide (a = 0) = _ := n2
  rw [n2] at HM
  simp only [Bool.and_true, Bool.and_false] at HM
  go_enter Tryz.func142, Tryz.ntmps142
  go_wp2_with fail
  refine (l1In_c _ _ _ _).mono ?_
  rintro e w1 ⟨rfl, rfl⟩
  rw [HA.out]
  generalize World.alloc _ _ = wb at *
  go_wp2
  refine wp_region_held_drew (S := fun w' : World => w'.rangeAt (w.heap.size) 0 (ints b) ∧ w'.there (w.heap.size + 1 + 1) 0 19 ∧ w'.cell? ⟨w.heap.size + 1, 0, none⟩ = _ ∧ w'.cell? ⟨w.heap.size + 1, 1, none⟩ = some (.int .i64 a) ∧ w'.cell? ⟨w.heap.size + 1, 2, none⟩ = some (.int .i64 v)) (by kernel_rfl) ⟨r0, t1, q0, q1, q2⟩ (fun hHeld => ?_)
  refine' tkL 0 hHeld (cs := ints b) (fun w' h => h.1) Tryz.underlying26 (hi19 hb) ?_
  repeat' first
   | refine' tkZ 1 hHeld ?_
   | refine' tkZ 2 hHeld ?_
   | refine' tkZ 3 hHeld ?_
   | refine' tkZ 5 hHeld ?_
   | refine' tkZ 6 hHeld ?_
   | refine' tkZ 7 hHeld ?_
   | refine' tkZ 8 hHeld ?_
   | refine' tkZ 9 hHeld ?_
   | refine' tkZ 10 hHeld ?_
   | refine' tkZ 11 hHeld ?_
   | refine' tkZ 12 hHeld ?_
   | refine' tkZ 14 hHeld ?_
   | refine' tkZ 9 hHeld (v := undef) (hy := Or.inr ⟨by rfl, rfl⟩) ?_
   | refine' tkZ 10 hHeld (v := undef) (hy := Or.inr ⟨by rfl, rfl⟩) ?_
   | refine' tkZ 11 hHeld (v := undef) (hy := Or.inr ⟨by rfl, rfl⟩) ?_
   | (refine rdyS [13] (rdy ?_ .nil)
      intro K hK
      rw [if_pos (by rfl)]
      refine wp_store_mid _ _ _ rfl _ _ (ints bb).toArray rfl rfl (by simpa [ints, hl] using hHeld.2.1) (by simpa using hi19 hl) (all_oneCell_toArray ints_one) ?_
      rw [List.toList_toArray]
      refine hK.out _ _ ⟨World.rangeAt_setCells_apart (w := w3) R1 (w.heap.size + 1 + 1) 0 (ints bb) (.inl (by omega)), World.there_setCells (w := w3) T1 (w.heap.size + 1 + 1) 0 (ints bb), cell_far2 p0 (by simp), cell_far2 p1 (by simp), cell_far2 p2 (by simp)⟩ fun hHeld => nrm ?_
      clear hK K)
   | (refine rdyS [4] (rdy ?_ .nil)
      intro K hK
      go_simp
      refine (HCC.out _).mono ?_
      rintro e w3 ⟨rfl, hb3⟩
      have hB : Below wb.heap.size wb w3 := Below.chain (Below.refl _ _).drew hb3
      have R1 := range_below r0 hB
      have T1 := there_below t1 hB
      have B3 := Below.chain hb0 hB
      have p0 := cell_later hB q0
      have p1 := cell_later hB q1
      have p2 := cell_later hB q2
      go_wp2_with fail
      refine hK.out _ _ ⟨R1, T1, p0, p1, p2⟩ fun hHeld => nrm ?_
      clear hK K)
   | (refine wpAnyH_done (by decide +kernel) ?_ _
      have K5 := loadVarB (rangeAt_setCells_same w3 (w.heap.size + 1 + 1) 0 (ints bb) (by simpa [hl] using T1)) hl
      have K6 := below_cells (ints bb) w3 (w.heap.size + 1 + 1) 0 B3 (by omega)
      go_wp2
      first
       | exact bodyPost_ret (v := mkV bb (v == 0)) (res_cell2 Tryz.results142 rfl K5) rfl (MkPost.mk' bb HM.out rfl hl (fun _ => HX.out.symm) K6)
       | exact bodyPost_ret (v := mkV bb false) (res_cell2 Tryz.results142 rfl K5) rfl (MkPost.mk' bb HM.out rfl hl (fun _ => HX.out.symm) K6)))
end Go.Proofs.YtohgjfdbnkjefaaGreatDoor
namespace Go.Proofs.YtohgjfdbnkjefaaGreatDoor
open Go.RowKit
set_option linter.unusedVariables false
set_option maxRecDepth 100000
theorem bg_set_same {b : List Int} {i : Nat} (x : Int) (h : i < b.length) : bg (b.set i x) i = x := by
 unfold bg; simp [List.getD_eq_getElem?_getD, List.getElem?_set_self h]
theorem bg_set_ne (b : List Int) {i j : Nat} (x : Int) (h : i ≠ j) : bg (b.set i x) j = bg b j := by
 unfold bg; rw [List.getD_eq_getElem?_getD, List.getD_eq_getElem?_getD, List.getElem?_set_ne h]
theorem faultB_mk {d l : Int} (d0 : 0 ≤ d) (d1 : d ≤ 127) (l0 : 0 ≤ l) (l1 : l ≤ 127) (h : andC d l = 0) : faultB d l = true := by
 unfold faultB cellB; rw [inB_mk d0 d1, inB_mk l0 l1, h]; rfl
theorem cellB_mk {d : Int} (d0 : 0 ≤ d) (d1 : d ≤ 127) : cellB d = true := inB_mk d0 d1
theorem mv_and_all : ∀ t : Bool, ∀ x y : Fin 128, x.1 &&& y.1 = 0 → (mvC t (x.1 : Int)).toNat &&& (mvC t (y.1 : Int)).toNat = 0 := by decide +kernel
theorem mv_fault (t : Bool) {d l : Int} (h : faultB d l = true) : faultB (mvC t d) (mvC t l) = true := by
 obtain ⟨d0, d1, l0, l1, h4⟩ := faultB_true h
 have b1 := mvC_bd t d0 d1
 have b2 := mvC_bd t l0 l1
 obtain ⟨d, rfl⟩ := Int.eq_ofNat_of_zero_le d0
 obtain ⟨l, rfl⟩ := Int.eq_ofNat_of_zero_le l0
 refine faultB_mk b1.1 b1.2 b2.1 b2.2 ?_
 have h5 : d &&& l = 0 := by unfold andC at h4; simpa using h4
 have := mv_and_all t ⟨d, by omega⟩ ⟨l, by omega⟩ h5
 unfold andC
 rw [this]; rfl
theorem bit_not : ∀ v : Fin 7, 2 ^ v.1 &&& (127 - 2 ^ v.1) = 0 ∧ 2 ^ v.1 < 128 := by decide +kernel
theorem or_fault {d l : Int} {v : Nat} (hv : v < 7) (h : faultB d l = true) : faultB (orC d (bitC (v : Int))) (anC l (bitC (v : Int))) = true ∧ faultB (anC d (bitC (v : Int))) (orC l (bitC (v : Int))) = true := by
 obtain ⟨d0, d1, l0, l1, h4⟩ := faultB_true h
 obtain ⟨d, rfl⟩ := Int.eq_ofNat_of_zero_le d0
 obtain ⟨l, rfl⟩ := Int.eq_ofNat_of_zero_le l0
 have h5 : d &&& l = 0 := by unfold andC at h4; simpa using h4
 obtain ⟨hb, hb2⟩ := bit_not ⟨v, hv⟩
 simp only at hb hb2
 unfold orC anC bitC
 simp only [Int.toNat_natCast]
 generalize hB : 2 ^ v = B at *
 generalize hM : 127 - B = M at *
 have o1 : d ||| B < 2 ^ 7 := Nat.or_lt_two_pow (by omega) (by omega)
 have o2 : l ||| B < 2 ^ 7 := Nat.or_lt_two_pow (by omega) (by omega)
 have a1 : d &&& M < 2 ^ 7 := Nat.and_lt_two_pow _ (by omega)
 have a2 : l &&& M < 2 ^ 7 := Nat.and_lt_two_pow _ (by omega)
 have e1 : (d ||| B) &&& (l &&& M) = 0 := by
  rw [Nat.and_or_distrib_right, ← Nat.and_assoc, h5, Nat.zero_and, Nat.zero_or, Nat.and_comm l M, ← Nat.and_assoc, hb, Nat.zero_and]
 have e2 : (d &&& M) &&& (l ||| B) = 0 := by
  rw [Nat.and_or_distrib_left, Nat.and_assoc, Nat.and_comm M l, ← Nat.and_assoc, h5, Nat.zero_and, Nat.zero_or, Nat.and_assoc, Nat.and_comm M B, hb, Nat.and_zero]
 constructor
 · exact faultB_mk (by omega) (by omega) (by omega) (by omega) (by unfold andC; simp only [Int.toNat_natCast]; rw [e1]; rfl)
 · exact faultB_mk (by omega) (by omega) (by omega) (by omega) (by unfold andC; simp only [Int.toNat_natCast]; rw [e2]; rfl)
theorem goodAt_true {b : List Int} {j : Nat} (h : goodAt b j = true) : (0 ≤ bg b j ∧ bg b j ≤ 127) ∧ faultB (bg b (6 + j)) (bg b (12 + j)) = true := by
 unfold goodAt fB at h
 simp only [Bool.and_eq_true] at h
 exact ⟨cellB_true h.1, h.2⟩
theorem goodAt_mk {b : List Int} {j : Nat} (h1 : 0 ≤ bg b j) (h2 : bg b j ≤ 127) (h3 : faultB (bg b (6 + j)) (bg b (12 + j)) = true) : goodAt b j = true := by
 unfold goodAt fB
 rw [cellB_mk h1 h2]
 exact h3
theorem goodB_all {b : List Int} : goodB b = true ↔ (∀ j, j < 6 → goodAt b j = true) ∧ inB (bg b 18) 0 1000 = true := by
 unfold goodB goodTo
 simp only [Bool.and_eq_true, List.all_eq_true, List.mem_range]
theorem seenI_x (t : Bool) (x0 x1 x2 x3 x4 x5 x6 x7 x8 x9 x10 x11 x12 x13 x14 x15 x16 x17 x18 : Int) :
 seenI t [x0, x1, x2, x3, x4, x5, x6, x7, x8, x9, x10, x11, x12, x13, x14, x15, x16, x17, x18] 6 = [mvC t x5, mvC t x4, mvC t x3, mvC t x2, mvC t x1, mvC t x0, mvC t x11, mvC t x10, mvC t x9, mvC t x8, mvC t x7, mvC t x6, mvC t x17, mvC t x16, mvC t x15, mvC t x14, mvC t x13, mvC t x12, x18] := by kernel_rfl
theorem seen_good (t : Bool) {b : List Int} (hb : b.length = 19) (h : ∀ j, j < 6 → goodAt b j = true) : ∀ j, j < 6 → goodAt (seenI t b 6) j = true := by
 match b, hb with
 | [x0, x1, x2, x3, x4, x5, x6, x7, x8, x9, x10, x11, x12, x13, x14, x15, x16, x17, x18], _ =>
  rw [seenI_x]
  intro j hj
  have hh := goodAt_true (h (5 - j) (by omega))
  have hj6 : j = 0 ∨ j = 1 ∨ j = 2 ∨ j = 3 ∨ j = 4 ∨ j = 5 := by omega
  rcases hj6 with rfl | rfl | rfl | rfl | rfl | rfl <;> exact goodAt_mk (mvC_bd t hh.1.1 hh.1.2).1 (mvC_bd t hh.1.1 hh.1.2).2 (mv_fault t hh.2)
theorem made_len {b : List Int} (hb : b.length = 19) (k : Int) (a : Nat) (v : Int) : (madeB b k a v).length = 19 := by
 unfold madeB
 repeat (split; · (first | (simp [hb]; done) | (rw [seenI_len, hb])))
 exact hb
theorem made_18 {b : List Int} (hb : b.length = 19) (k : Int) {a : Nat} (v : Int) (ha : a < 6) : bg (madeB b k a v) 18 = bg b 18 := by
 unfold madeB
 split; · exact bg_set_ne _ _ (by omega)
 split; · exact bg_set_ne _ _ (by omega)
 split; · rw [bg_set_ne _ _ (by omega), bg_set_ne _ _ (by omega)]
 split; · rw [bg_set_ne _ _ (by omega), bg_set_ne _ _ (by omega)]
 split; · rw [bg_set_ne _ _ (by omega), bg_set_ne _ _ (by omega)]
 split; · exact seenI_18 _ _ 6 (by omega)
 split; · exact seenI_18 _ _ 6 (by omega)
 rfl
theorem two_good {b : List Int} {a : Nat} {x y : Int} (hb : b.length = 19) (ha : a < 6) (h : ∀ j, j < 6 → goodAt b j = true) (hf : faultB x y = true) : ∀ j, j < 6 → goodAt ((b.set (6 + a) x).set (12 + a) y) j = true := by
 intro j hj
 have hh := goodAt_true (h j hj)
 have e0 : bg ((b.set (6 + a) x).set (12 + a) y) j = bg b j := by rw [bg_set_ne _ _ (by omega), bg_set_ne _ _ (by omega)]
 refine goodAt_mk (by rw [e0]; exact hh.1.1) (by rw [e0]; exact hh.1.2) ?_
 by_cases hja : j = a
 · subst hja
   rw [bg_set_same _ (by simp; omega), bg_set_ne _ _ (by omega), bg_set_same _ (by omega)]
   exact hf
 · rw [bg_set_ne _ _ (by omega), bg_set_ne _ _ (by omega), bg_set_ne _ _ (by omega), bg_set_ne _ _ (by omega)]
   exact hh.2
theorem one_good {b : List Int} {a : Nat} {x : Int} (hb : b.length = 19) (ha : a < 6) (h : ∀ j, j < 6 → goodAt b j = true) (x0 : 0 ≤ x) (x1 : x ≤ 127) : ∀ j, j < 6 → goodAt (b.set a x) j = true := by
 intro j hj
 have hh := goodAt_true (h j hj)
 have hf : faultB (bg (b.set a x) (6 + j)) (bg (b.set a x) (12 + j)) = true := by rw [bg_set_ne _ _ (by omega), bg_set_ne _ _ (by omega)]; exact hh.2
 by_cases hja : j = a
 · subst hja
   exact goodAt_mk (by rw [bg_set_same _ (by omega)]; exact x0) (by rw [bg_set_same _ (by omega)]; exact x1) hf
 · have e0 : bg (b.set a x) j = bg b j := bg_set_ne _ _ (by omega)
   exact goodAt_mk (by rw [e0]; exact hh.1.1) (by rw [e0]; exact hh.1.2) hf
theorem made_good {b : List Int} {k a v : Int} (hb : b.length = 19) (hg : goodB b = true) (hm : makeB b k a v = true) : a.toNat < 6 ∧ ∀ j, j < 6 → goodAt (madeB b k a.toNat v) j = true := by
 have h := (goodB_all.1 hg).1
 unfold makeB at hm
 simp only [Bool.and_eq_true] at hm
 have h2 := inB_true hm.1
 have ha : a.toNat < 6 := by omega
 refine ⟨ha, ?_⟩
 have hk := hm.2
 generalize a.toNat = n at *
 unfold makeK at hk
 unfold madeB
 by_cases k1 : k = 1
 · rw [if_pos k1] at hk ⊢
   exact one_good hb ha h (dg_bd v).1 (dg_bd v).2
 rw [if_neg k1] at hk ⊢
 by_cases k2 : k = 2
 · rw [if_pos k2]
   exact one_good hb ha h (by omega) (by omega)
 rw [if_neg k2] at hk ⊢
 by_cases k3 : k = 3
 · rw [if_pos k3] at hk ⊢
   simp only [Bool.and_eq_true] at hk
   have h3 := inB_true hk.1
   obtain ⟨vn, rfl⟩ := Int.eq_ofNat_of_zero_le h3.1
   exact two_good hb ha h (or_fault (by omega) (goodAt_true (h n ha)).2).1
 rw [if_neg k3] at hk ⊢
 by_cases k4 : k = 4
 · rw [if_pos k4] at hk ⊢
   simp only [Bool.and_eq_true] at hk
   have h3 := inB_true hk.1
   obtain ⟨vn, rfl⟩ := Int.eq_ofNat_of_zero_le h3.1
   exact two_good hb ha h (or_fault (by omega) (goodAt_true (h n ha)).2).2
 rw [if_neg k4] at hk ⊢
 by_cases k5 : k = 5
 · rw [if_pos k5]
   exact two_good hb ha h rfl
 rw [if_neg k5] at hk ⊢
 by_cases k6 : k = 6
 · rw [if_pos k6]
   exact seen_good true hb h
 rw [if_neg k6]
 by_cases k7 : k = 7
 · rw [if_pos k7]
   exact seen_good false hb h
 rw [if_neg k7]
 exact h
theorem cnt_good {b : List Int} {k a v : Int} (hb : b.length = 19) (hg : goodB b = true) (hm : makeB b k a v = true) : goodB (doB b k a v) = !(bg b 18 == 1000) ∧ (doB b k a v).length = 19 ∧ doB b k a v = (madeB b k a.toNat v).set 18 (bg b 18 + 1) := by
 obtain ⟨ha, h⟩ := made_good hb hg hm
 have hl := made_len hb k a.toNat v
 have h18 := made_18 hb k v ha
 have e : doB b k a v = (madeB b k a.toNat v).set 18 (bg b 18 + 1) := by unfold doB cntB; rw [h18]
 refine ⟨?_, by rw [e, List.length_set, hl], e⟩
 have hc := inB_true (goodB_all.1 hg).2
 have hall : ∀ j, j < 6 → goodAt (doB b k a v) j = true := by
  intro j hj
  have hh := goodAt_true (h j hj)
  rw [e]
  exact goodAt_mk (by rw [bg_set_ne _ _ (by omega)]; exact hh.1.1) (by rw [bg_set_ne _ _ (by omega)]; exact hh.1.2) (by rw [bg_set_ne _ _ (by omega), bg_set_ne _ _ (by omega)]; exact hh.2)
 have hcnt : bg (doB b k a v) 18 = bg b 18 + 1 := by rw [e, bg_set_same _ (by omega)]
 rw [Bool.eq_iff_iff, goodB_all, hcnt]
 constructor
 · intro hx
   have := inB_true hx.2
   simp; omega
 · intro hx
   simp at hx
   exact ⟨hall, inB_mk (by omega) (by omega)⟩
def lgC (d p : ByteArray) (n : Int) : List Value := [.string d, .string p, .int .i64 n]
def csC (b : List Int) (d p : ByteArray) (n : Int) : List Value := ints b ++ lgC d p n
theorem csC_len {b : List Int} (hb : b.length = 19) (d p : ByteArray) (n : Int) : (csC b d p n).length = 22 := by simp [csC, lgC, hb]
theorem csC_one {b : List Int} {d p : ByteArray} {n : Int} : ∀ v ∈ csC b d p n, v.oneCell' = true := fun v hv => by
 unfold csC at hv
 rw [List.mem_append] at hv
 rcases hv with h | h
 · exact ints_one v h
 · simp only [lgC, List.mem_cons, List.not_mem_nil, or_false] at h
   rcases h with rfl | rfl | rfl <;> rfl
theorem wpList_storeC {ops : Array Oper} {rest : List Oper} {op : Oper} {a : Act} {w : World} {Q : Exit → Act → World → Prop} (hw : Region.wanted op (yielded ops a.tmps) = true) (x y : Operand) (ho : op.op = .store 31 x y)
 (g : Nat) (b : List Int) (d p : ByteArray) (n : Int) (hx : a.eval x = .pointer (some ⟨g, 0, none⟩)) (hy : a.eval y = .agg (csC b d p n).toArray) (ht : w.there g 0 22) (hb : b.length = 19)
 (h : wpList Tryz.prog ops Q rest (a.put op.dst undef) (w.setCells g 0 (csC b d p n))) : wpList Tryz.prog ops Q (op :: rest) a w :=
 wpList_store_want hw _ x y ho g 0 _ hx hy (by rw [csC_len hb]; exact ht) (by rw [csC_len hb]; kernel_rfl) csC_one h
theorem wpList_loadC {ops : Array Oper} {rest : List Oper} {op : Oper} {a : Act} {w : World} {Q : Exit → Act → World → Prop} (hw : Region.wanted op (yielded ops a.tmps) = true) (x : Operand) (ho : op.op = .load 31 x)
 (g : Nat) (hx : a.eval x = .pointer (some ⟨g, 0, none⟩)) (b : List Int) (d p : ByteArray) (n : Int) (hc : w.rangeAt g 0 (csC b d p n)) (hb : b.length = 19)
 (h : wpList Tryz.prog ops Q rest (a.put op.dst (.agg (csC b d p n).toArray)) w) : wpList Tryz.prog ops Q (op :: rest) a w :=
 wpList_load_want hw _ x ho g 0 hx _ _ hc Tryz.underlying31 rfl (by rw [csC_len hb]; kernel_rfl) h
theorem loadVarC {w : World} {g : Nat} {b : List Int} {d p : ByteArray} {n : Int} (h : w.rangeAt g 0 (csC b d p n)) (hb : b.length = 19) : (loadVar 31 ⟨g, 0, none⟩).run Tryz.prog w = .ok (.agg (csC b d p n).toArray) w :=
 run_loadVar_mid w g 0 _ _ _ h Tryz.underlying31 rfl (by rw [csC_len hb]; kernel_rfl)
def zeroI : List Int := List.replicate 19 0
def ncB (b : List Int) : List Int := if goodB b then b else zeroI
def ncV (b : List Int) : Value := .tuple #[.agg (csC (ncB b) ByteArray.empty ByteArray.empty 0).toArray, .bool (goodB b)]
def zCA : Array Value := #[.int .i64 0, .int .i64 0, .int .i64 0, .int .i64 0, .int .i64 0, .int .i64 0, .int .i64 0, .int .i64 0, .int .i64 0, .int .i64 0, .int .i64 0, .int .i64 0, .int .i64 0, .int .i64 0, .int .i64 0, .int .i64 0, .int .i64 0, .int .i64 0, .int .i64 0, .string (ByteArray.mk #[]), .string (ByteArray.mk #[]), .int .i64 0]
theorem build_cons_x (x0 x1 x2 x3 x4 x5 x6 x7 x8 x9 x10 x11 x12 x13 x14 x15 x16 x17 x18 : Int) : List.foldl (fun (cs : Array Value) (x : Value × Nat) => cs.setIfInBounds x.snd x.fst) zCA (ints [x0, x1, x2, x3, x4, x5, x6, x7, x8, x9, x10, x11, x12, x13, x14, x15, x16, x17, x18]).zipIdx = (csC [x0, x1, x2, x3, x4, x5, x6, x7, x8, x9, x10, x11, x12, x13, x14, x15, x16, x17, x18] ByteArray.empty ByteArray.empty 0).toArray := by kernel_rfl
theorem build_cons {b : List Int} (hb : b.length = 19) : List.foldl (fun (cs : Array Value) (x : Value × Nat) => cs.setIfInBounds x.snd x.fst) zCA (ints b).zipIdx = (csC b ByteArray.empty ByteArray.empty 0).toArray := by
 match b, hb with
 | [x0, x1, x2, x3, x4, x5, x6, x7, x8, x9, x10, x11, x12, x13, x14, x15, x16, x17, x18], _ => exact build_cons_x x0 x1 x2 x3 x4 x5 x6 x7 x8 x9 x10 x11 x12 x13 x14 x15 x16 x17 x18
theorem NewConsole_c (b : List Int) (w : World) (hb : b.length = 19) : Calls Tryz.prog 11 #[aggI b] w fun e w' => e = .returned (ncV b) ∧ Below w.heap.size w w' := by
 have r0 := World.rangeAt_alloc (range_new w (ints b) 26) (.cells zCA 31)
 have t0 := there_new (w.alloc (.cells (ints b).toArray 26)) zCA 31 (n := 22) (by decide)
 have hb0 : Below w.heap.size w ((w.alloc (.cells (ints b).toArray 26)).alloc (.cells zCA 31)) := qBl
 have hbu := build_cons hb
 simp only [World.size_alloc] at t0
 unfold zCA at *
 unfold aggI
 rcases hq : goodB b with _ | _
 · have HF := hid (show ncV b = .tuple #[.agg (csC zeroI ByteArray.empty ByteArray.empty 0).toArray, .bool false] by simp [ncV, ncB, hq])
   have HQ := hid hq; clear hq hbu
   go_enter Tryz.func11, Tryz.ntmps11
   go_wp2_with (refine wpList_loadB rfl _ rfl _ rfl b r0 hb ?_)
   refine (IsBench_c b _ hb).mono ?_
   rintro e w1 ⟨rfl, hb1⟩
   rw [HQ.out]
   have t1 := there_below t0 hb1
   have hb2 := Below.chain hb0 hb1
   have hk := rangeAt_setCells_same w1 (w.heap.size + 1) 0 (csC zeroI ByteArray.empty ByteArray.empty 0) t1
   have hb3 := below_cells (csC zeroI ByteArray.empty ByteArray.empty 0) w1 (w.heap.size + 1) 0 hb2 (by omega)
   have hld := loadVarC hk (by simp [zeroI])
   clear r0 t0 hb0 hb1
   go_wp2_with (refine wpList_storeC rfl _ _ rfl _ zeroI ByteArray.empty ByteArray.empty 0 rfl rfl t1 (by simp [zeroI]) ?_)
   go_wp2
   exact bodyPost_ret (v := ncV b) (by rw [HF.out]; exact res_cell2 Tryz.results11 rfl hld) rfl ⟨rfl, hb3⟩
 · have HF := hid (show ncV b = .tuple #[.agg (csC b ByteArray.empty ByteArray.empty 0).toArray, .bool true] by simp [ncV, ncB, hq])
   have HQ := hid hq; clear hq
   go_enter Tryz.func11, Tryz.ntmps11
   go_wp2_with (refine wpList_loadB rfl _ rfl _ rfl b r0 hb ?_)
   refine (IsBench_c b _ hb).mono ?_
   rintro e w1 ⟨rfl, hb1⟩
   rw [HQ.out]
   have r1 := range_below r0 hb1
   have t1 := there_below t0 hb1
   have hb2 := Below.chain hb0 hb1
   have hk := rangeAt_setCells_same w1 (w.heap.size + 1) 0 (csC b ByteArray.empty ByteArray.empty 0) (by rw [csC_len hb]; exact t1)
   have hb3 := below_cells (csC b ByteArray.empty ByteArray.empty 0) w1 (w.heap.size + 1) 0 hb2 (by omega)
   have hld := loadVarC hk hb
   clear r0 t0 hb0 hb1
   go_wp2_with (first | (refine wpList_loadB rfl _ rfl _ rfl b r1 hb ?_) | (refine wpList_storeC rfl _ _ rfl _ b ByteArray.empty ByteArray.empty 0 rfl rfl t1 hb ?_))
   go_wp2
   exact bodyPost_ret (v := ncV b) (by rw [HF.out]; exact res_cell2 Tryz.results11 rfl hld) rfl ⟨rfl, hb3⟩
theorem sNewConsole_c (b : List Int) (w : World) (hb : b.length = 19) : Calls Tryz.prog 38 #[aggI b] w fun e w' => e = .returned (ncV b) ∧ Below w.heap.size w w' := by
 have r0 := World.rangeAt_alloc (range_new w (ints b) 26) (.cells zCA 31)
 have t0 := there_new (w.alloc (.cells (ints b).toArray 26)) zCA 31 (n := 22) (by decide)
 have hb0 : Below w.heap.size w ((w.alloc (.cells (ints b).toArray 26)).alloc (.cells zCA 31)) := qBl
 have hbu := build_cons hb
 simp only [World.size_alloc] at t0
 unfold zCA at *
 unfold aggI
 rcases hq : goodB b with _ | _
 · have HF := hid (show ncV b = .tuple #[.agg (csC zeroI ByteArray.empty ByteArray.empty 0).toArray, .bool false] by simp [ncV, ncB, hq])
   have HQ := hid hq; clear hq hbu
   go_enter Tryz.func38, Tryz.ntmps38
   go_wp2_with (refine wpList_loadB rfl _ rfl _ rfl b r0 hb ?_)
   refine (l12Good_c b _ hb).mono ?_
   rintro e w1 ⟨rfl, hb1⟩
   rw [HQ.out]
   have t1 := there_below t0 hb1
   have hb2 := Below.chain hb0 hb1
   have hk := rangeAt_setCells_same w1 (w.heap.size + 1) 0 (csC zeroI ByteArray.empty ByteArray.empty 0) t1
   have hb3 := below_cells (csC zeroI ByteArray.empty ByteArray.empty 0) w1 (w.heap.size + 1) 0 hb2 (by omega)
   have hld := loadVarC hk (by simp [zeroI])
   clear r0 t0 hb0 hb1
   go_wp2_with (refine wpList_storeC rfl _ _ rfl _ zeroI ByteArray.empty ByteArray.empty 0 rfl rfl t1 (by simp [zeroI]) ?_)
   go_wp2
   exact bodyPost_ret (v := ncV b) (by rw [HF.out]; exact res_cell2 Tryz.results38 rfl hld) rfl ⟨rfl, hb3⟩
 · have HF := hid (show ncV b = .tuple #[.agg (csC b ByteArray.empty ByteArray.empty 0).toArray, .bool true] by simp [ncV, ncB, hq])
   have HQ := hid hq; clear hq
   go_enter Tryz.func38, Tryz.ntmps38
   go_wp2_with (refine wpList_loadB rfl _ rfl _ rfl b r0 hb ?_)
   refine (l12Good_c b _ hb).mono ?_
   rintro e w1 ⟨rfl, hb1⟩
   rw [HQ.out]
   have r1 := range_below r0 hb1
   have t1 := there_below t0 hb1
   have hb2 := Below.chain hb0 hb1
   have hk := rangeAt_setCells_same w1 (w.heap.size + 1) 0 (csC b ByteArray.empty ByteArray.empty 0) (by rw [csC_len hb]; exact t1)
   have hb3 := below_cells (csC b ByteArray.empty ByteArray.empty 0) w1 (w.heap.size + 1) 0 hb2 (by omega)
   have hld := loadVarC hk hb
   clear r0 t0 hb0 hb1
   go_wp2_with (first | (refine wpList_loadB rfl _ rfl _ rfl b r1 hb ?_) | (refine wpList_storeC rfl _ _ rfl _ b ByteArray.empty ByteArray.empty 0 rfl rfl t1 hb ?_))
   go_wp2
   exact bodyPost_ret (v := ncV b) (by rw [HF.out]; exact res_cell2 Tryz.results38 rfl hld) rfl ⟨rfl, hb3⟩
end Go.Proofs.YtohgjfdbnkjefaaGreatDoor
