/- Texts of this claim, gathered: Job5. -/
import Derived.Test.YtohgjfdbnkjefaaGreatDoorKw8
namespace Go.Proofs.YtohgjfdbnkjefaaGreatDoor
open Go.RowKit
set_option linter.unusedVariables false
set_option maxRecDepth 100000
attribute [local go_sem ↓] Go.wp_at_zero Go.wp_at_succ
theorem anC_sub {x y : Int} (x0 : 0 ≤ x) (x1 : x ≤ 127) (y0 : 0 ≤ y) (y1 : y ≤ 127) : ∃ m : Int, 0 ≤ m ∧ m ≤ x ∧ bits .and .i64 x y = m ∧ anC x y = x - m := by
 obtain ⟨x, rfl⟩ := Int.eq_ofNat_of_zero_le x0
 obtain ⟨y, rfl⟩ := Int.eq_ofNat_of_zero_le y0
 have h2 : x &&& y ≤ x := Nat.and_le_left
 refine ⟨((x &&& y : Nat) : Int), by omega, by omega, i64_and_nat _ _ (by omega) (by omega), ?_⟩
 unfold anC
 rw [Int.toNat_natCast, Int.toNat_natCast, ← and_sub x y (by omega) (by omega)]; omega
theorem bar_and : ∀ d : Fin 128, ∀ v : Fin 7, ((d.1 &&& 2 ^ v.1 == 0) = !barB (d.1 : Int) (v.1 : Int)) := by decide +kernel
theorem bar_free {x : Int} {v : Nat} (x0 : 0 ≤ x) (x1 : x ≤ 127) (hv : v < 7) : ∃ m : Int, bits .and .i64 x (bitC (v : Int)) = m ∧ (m == 0) = !barB x (v : Int) := by
 obtain ⟨x, rfl⟩ := Int.eq_ofNat_of_zero_le x0
 have h := bar_and ⟨x, by omega⟩ ⟨v, hv⟩
 have hp : 2 ^ v ≤ 2 ^ 6 := Nat.pow_le_pow_right (by omega) (by omega)
 refine ⟨((x &&& 2 ^ v : Nat) : Int), ?_, ?_⟩
 · unfold bitC
   rw [Int.toNat_natCast]
   exact i64_and_nat _ _ (by omega) (by omega)
 · rw [← h, Bool.eq_iff_iff]; simp only [beq_iff_eq]; omega
def mkV (X : List Int) (ok : Bool) : Value := .tuple #[aggI X, .bool ok]
set_option maxHeartbeats 2000000 in
theorem fail_no3 (b : List Int) (an : Nat) (v : Int) (w : World) (hb : b.length = 19) (hg : goodB b = true) (ha : an < 6) (hv : inB v 0 6 = false) :
 Calls Tryz.prog 188 #[aggI b, jobV 3 (an : Int) v] w fun e w' => e = .returned (mkV b false) ∧ Below w.heap.size w w' := by
 have r0 := World.rangeAt_alloc (World.rangeAt_alloc (range_new w (ints b) 26) (.cells #[.int .i64 3, .int .i64 (an : Int), .int .i64 v] 123)) zB
 have t0 := World.there_alloc (World.there_alloc (there_new w (ints b).toArray 26 (n := 19) (by simp [hb])) (.cells #[.int .i64 3, .int .i64 (an : Int), .int .i64 v] 123)) zB
 have t1 := there_new ((w.alloc (.cells (ints b).toArray 26)).alloc (.cells #[.int .i64 3, .int .i64 (an : Int), .int .i64 v] 123)) _ 26 (n := 19) (show 19 ≤ (zBA : Array Value).size by decide)
 have q0 : (((w.alloc (.cells (ints b).toArray 26)).alloc (.cells #[.int .i64 3, .int .i64 (an : Int), .int .i64 v] 123)).alloc zB).cell? ⟨w.heap.size + 1, 0, none⟩ = some (.int .i64 3) := cell_later (below_one _) (by rw [World.cell?_alloc_at _ _ _ _ (by simp)]; rfl)
 have q1 : (((w.alloc (.cells (ints b).toArray 26)).alloc (.cells #[.int .i64 3, .int .i64 (an : Int), .int .i64 v] 123)).alloc zB).cell? ⟨w.heap.size + 1, 1, none⟩ = some (.int .i64 (an : Int)) := cell_later (below_one _) (by rw [World.cell?_alloc_at _ _ _ _ (by simp)]; rfl)
 have q2 : (((w.alloc (.cells (ints b).toArray 26)).alloc (.cells #[.int .i64 3, .int .i64 (an : Int), .int .i64 v] 123)).alloc zB).cell? ⟨w.heap.size + 1, 2, none⟩ = some (.int .i64 v) := cell_later (below_one _) (by rw [World.cell?_alloc_at _ _ _ _ (by simp)]; rfl)
 have hb0 : Below w.heap.size w (((w.alloc (.cells (ints b).toArray 26)).alloc (.cells #[.int .i64 3, .int .i64 (an : Int), .int .i64 v] 123)).alloc zB) := by (repeat (first | exact Below.refl _ _ | exact (Below.refl _ _).drew | assumption | exact below_one _ | refine Below.chain ?_ (by assumption) | refine Below.drew ?_ | refine Below.alc ?_ _ | refine below_drewN ?_ | (refine Below.setCell ?_ ?_ _) | exact Nat.le_refl _ | (simp; done) | (simp; omega)))
 simp only [World.size_alloc] at t1
 have n0 : (0 : Int) ≤ (an : Int) := by omega
 have n1 : (an : Int) < 6 := by omega
 have gc := inB_true (show inB (bg b 18) 0 1000 = true by unfold goodB at hg; simp only [Bool.and_eq_true] at hg; exact hg.2)
 have bd := goodB_at hg ha
 unfold bF at bd
 simp only at bd
 obtain ⟨⟨d0, d1, d2, d3⟩, d4, d5⟩ := bd
 have HV := Lib.hid hv; clear hv
 have K := World.rangeAt_setCells_same (((w.alloc (.cells (ints b).toArray 26)).alloc (.cells #[.int .i64 3, .int .i64 (an : Int), .int .i64 v] 123)).alloc (.cells zBA 26)) (w.heap.size + 1 + 1) 0 (ints b) (by simpa [hb] using t1)
 have K6 := below_cells (ints b) (((w.alloc (.cells (ints b).toArray 26)).alloc (.cells #[.int .i64 3, .int .i64 (an : Int), .int .i64 v] 123)).alloc (.cells zBA 26)) (w.heap.size + 1 + 1) 0 hb0 (by omega)
 have K5 := loadVarB K hb
 clear t0 K
 unfold mkV aggI jobV
 unfold zBA zB at *
 go_enter Tryz.func188, Tryz.ntmps188
 go_wp2_with fail
 refine (l1In_c _ _ _ _).mono ?_
 rintro e w1 ⟨rfl, rfl⟩
 rw [HV.out]
 generalize World.alloc _ _ = wb at *
 go_wp2_with (first | (refine wpList_loadB rfl _ rfl _ rfl _ r0 hb ?_) | (refine wpList_storeB rfl _ _ rfl _ _ rfl rfl t1 hb ?_))
 exact bodyPost_ret (v := mkV b false) (res_cell2 Tryz.results188 rfl K5) rfl ⟨rfl, K6⟩
set_option maxHeartbeats 2000000 in
theorem fail_yes3 (b : List Int) (an vn : Nat) (w : World) (hb : b.length = 19) (hg : goodB b = true) (ha : an < 6) (hv : vn < 7) :
 Calls Tryz.prog 188 #[aggI b, jobV 3 (an : Int) (vn : Int)] w fun e w' => e = .returned (mkV ((b.set (6 + an) (orC (bg b (6 + an)) (bitC (vn : Int)))).set (12 + an) (anC (bg b (12 + an)) (bitC (vn : Int)))) (!barB (bg b (6 + an)) (vn : Int))) ∧ Below w.heap.size w w' := by
 have r0 := World.rangeAt_alloc (World.rangeAt_alloc (range_new w (ints b) 26) (.cells #[.int .i64 3, .int .i64 (an : Int), .int .i64 (vn : Int)] 123)) zB
 have t0 := World.there_alloc (World.there_alloc (there_new w (ints b).toArray 26 (n := 19) (by simp [hb])) (.cells #[.int .i64 3, .int .i64 (an : Int), .int .i64 (vn : Int)] 123)) zB
 have t1 := there_new ((w.alloc (.cells (ints b).toArray 26)).alloc (.cells #[.int .i64 3, .int .i64 (an : Int), .int .i64 (vn : Int)] 123)) _ 26 (n := 19) (show 19 ≤ (zBA : Array Value).size by decide)
 have q0 : (((w.alloc (.cells (ints b).toArray 26)).alloc (.cells #[.int .i64 3, .int .i64 (an : Int), .int .i64 (vn : Int)] 123)).alloc zB).cell? ⟨w.heap.size + 1, 0, none⟩ = some (.int .i64 3) := cell_later (below_one _) (by rw [World.cell?_alloc_at _ _ _ _ (by simp)]; rfl)
 have q1 : (((w.alloc (.cells (ints b).toArray 26)).alloc (.cells #[.int .i64 3, .int .i64 (an : Int), .int .i64 (vn : Int)] 123)).alloc zB).cell? ⟨w.heap.size + 1, 1, none⟩ = some (.int .i64 (an : Int)) := cell_later (below_one _) (by rw [World.cell?_alloc_at _ _ _ _ (by simp)]; rfl)
 have q2 : (((w.alloc (.cells (ints b).toArray 26)).alloc (.cells #[.int .i64 3, .int .i64 (an : Int), .int .i64 (vn : Int)] 123)).alloc zB).cell? ⟨w.heap.size + 1, 2, none⟩ = some (.int .i64 (vn : Int)) := cell_later (below_one _) (by rw [World.cell?_alloc_at _ _ _ _ (by simp)]; rfl)
 have hb0 : Below w.heap.size w (((w.alloc (.cells (ints b).toArray 26)).alloc (.cells #[.int .i64 3, .int .i64 (an : Int), .int .i64 (vn : Int)] 123)).alloc zB) := by (repeat (first | exact Below.refl _ _ | exact (Below.refl _ _).drew | assumption | exact below_one _ | refine Below.chain ?_ (by assumption) | refine Below.drew ?_ | refine Below.alc ?_ _ | refine below_drewN ?_ | (refine Below.setCell ?_ ?_ _) | exact Nat.le_refl _ | (simp; done) | (simp; omega)))
 simp only [World.size_alloc] at t1
 have n0 : (0 : Int) ≤ (an : Int) := by omega
 have n1 : (an : Int) < 6 := by omega
 have gc := inB_true (show inB (bg b 18) 0 1000 = true by unfold goodB at hg; simp only [Bool.and_eq_true] at hg; exact hg.2)
 have bd := goodB_at hg ha
 unfold bF at bd
 simp only at bd
 obtain ⟨⟨d0, d1, d2, d3⟩, d4, d5⟩ := bd
 obtain ⟨v1, _, vw⟩ := bitC_f (n := vn) (by omega)
 have v2 := bitC_64 ⟨vn, hv⟩
 simp only at v2
 have HX := orC_i64 d0 d1 (show 0 ≤ bitC (vn : Int) by omega) (show bitC (vn : Int) ≤ 127 by omega)
 obtain ⟨M, M0, M1, HM, HN⟩ := anC_sub d2 d3 (show 0 ≤ bitC (vn : Int) by omega) (show bitC (vn : Int) ≤ 127 by omega)
 obtain ⟨N, HN1, HN2⟩ := bar_free d0 d1 hv
 have HV : Hid (inB (vn : Int) 0 6 = true) := inB_mk (by omega) (by omega)
 rw [HN, ← HN2]
 generalize orC (bg b (6 + an)) (bitC (vn : Int)) = X1 at *
 generalize bitC (vn : Int) = V at *
 have HE := Lib.hid (show ((b.set (6 + an) (X1)).set (12 + an) (bg b (12 + an) - M)) = ((b.set (6 + an) (X1)).set (12 + an) (bg b (12 + an) - M)) by rfl)
 rw [HE.out]
 clear HN HN2
 unfold mkV aggI jobV
 unfold zBA zB at *
 go_enter Tryz.func188, Tryz.ntmps188
 go_wp2_with fail
 refine (l1In_c _ _ _ _).mono ?_
 rintro e w1 ⟨rfl, rfl⟩
 rw [HV.out]
 generalize World.alloc _ _ = wb at *
 have g1 := cell18 r0 (j := 6 + an) (by omega)
 have g2 := cell18 r0 (j := 12 + an) (by omega)
 have f1 := there_froz t0 (j := 6 + an) (by omega)
 have f2 := there_froz t0 (j := 12 + an) (by omega)
 go_wp2
 go_region
 have r1 : wb.drew.rangeAt w.heap.size 0 (ints b) := r0
 have u0 : wb.drew.there w.heap.size 0 19 := t0
 have u1 : wb.drew.there (w.heap.size + 1 + 1) 0 19 := t1
 have hb1 : Below w.heap.size w wb.drew := hb0.drew
 clear r0 t0 t1 hb0
 have r0 := r1; have t0 := u0; have t1 := u1; have hb0 := hb1
 clear r1 u0 u1 hb1
 have g1 : wb.drew.cell? ⟨w.heap.size, 6 + an, none⟩ = _ := g1
 have g2 : wb.drew.cell? ⟨w.heap.size, 12 + an, none⟩ = _ := g2
 have f1 : wb.drew.frozen? ⟨w.heap.size, 6 + an, none⟩ = _ := f1
 have f2 : wb.drew.frozen? ⟨w.heap.size, 12 + an, none⟩ = _ := f2
 have q0 : wb.drew.cell? ⟨w.heap.size + 1, 0, none⟩ = _ := q0
 have q1 : wb.drew.cell? ⟨w.heap.size + 1, 1, none⟩ = _ := q1
 have q2 : wb.drew.cell? ⟨w.heap.size + 1, 2, none⟩ = _ := q2
 generalize wb.drew = wd at *
 have hl : ((b.set (6 + an) (X1)).set (12 + an) (bg b (12 + an) - M)).length = 19 := by simp [hb]
 have R1 := (range_set (range_set r0 (j := 6 + an) (X1) (by omega)) (j := 12 + an) (bg b (12 + an) - M) (by simp; omega))
 have T0 := (there_set (there_set t0 w.heap.size (6 + an) (.int .i64 (X1))) w.heap.size (12 + an) (.int .i64 (bg b (12 + an) - M)))
 have T1 := (there_set (there_set t1 w.heap.size (6 + an) (.int .i64 (X1))) w.heap.size (12 + an) (.int .i64 (bg b (12 + an) - M)))
 have B1 := (Below.setCell (Below.setCell hb0 (p := ⟨w.heap.size, 6 + an, none⟩) (Nat.le_refl _) (.int .i64 (X1))) (p := ⟨w.heap.size, 12 + an, none⟩) (Nat.le_refl _) (.int .i64 (bg b (12 + an) - M)))
 have K := World.rangeAt_setCells_same _ (w.heap.size + 1 + 1) 0 (ints ((b.set (6 + an) (X1)).set (12 + an) (bg b (12 + an) - M))) (by simpa [hb] using T1)
 have K6 := below_cells (ints ((b.set (6 + an) (X1)).set (12 + an) (bg b (12 + an) - M))) _ (w.heap.size + 1 + 1) 0 B1 (by omega)
 have K5 := loadVarB K hl
 clear r0 t0 t1 hb0 T0 B1 K
 generalize hbb : ((b.set (6 + an) (X1)).set (12 + an) (bg b (12 + an) - M)) = bb at *
 have HBB := Lib.hid hbb; clear hbb
 go_wp2_with (first | (refine wpList_loadB rfl _ rfl _ rfl _ R1 hl ?_) | (refine wpList_storeB rfl _ _ rfl _ _ rfl rfl T1 hl ?_))
 exact bodyPost_ret (v := mkV bb (N == 0)) (res_cell2 Tryz.results188 rfl K5) rfl ⟨by rw [← HBB.out]; rfl, K6⟩
set_option maxHeartbeats 2000000 in
theorem fail_no4 (b : List Int) (an : Nat) (v : Int) (w : World) (hb : b.length = 19) (hg : goodB b = true) (ha : an < 6) (hv : inB v 0 6 = false) :
 Calls Tryz.prog 188 #[aggI b, jobV 4 (an : Int) v] w fun e w' => e = .returned (mkV b false) ∧ Below w.heap.size w w' := by
 have r0 := World.rangeAt_alloc (World.rangeAt_alloc (range_new w (ints b) 26) (.cells #[.int .i64 4, .int .i64 (an : Int), .int .i64 v] 123)) zB
 have t0 := World.there_alloc (World.there_alloc (there_new w (ints b).toArray 26 (n := 19) (by simp [hb])) (.cells #[.int .i64 4, .int .i64 (an : Int), .int .i64 v] 123)) zB
 have t1 := there_new ((w.alloc (.cells (ints b).toArray 26)).alloc (.cells #[.int .i64 4, .int .i64 (an : Int), .int .i64 v] 123)) _ 26 (n := 19) (show 19 ≤ (zBA : Array Value).size by decide)
 have q0 : (((w.alloc (.cells (ints b).toArray 26)).alloc (.cells #[.int .i64 4, .int .i64 (an : Int), .int .i64 v] 123)).alloc zB).cell? ⟨w.heap.size + 1, 0, none⟩ = some (.int .i64 4) := cell_later (below_one _) (by rw [World.cell?_alloc_at _ _ _ _ (by simp)]; rfl)
 have q1 : (((w.alloc (.cells (ints b).toArray 26)).alloc (.cells #[.int .i64 4, .int .i64 (an : Int), .int .i64 v] 123)).alloc zB).cell? ⟨w.heap.size + 1, 1, none⟩ = some (.int .i64 (an : Int)) := cell_later (below_one _) (by rw [World.cell?_alloc_at _ _ _ _ (by simp)]; rfl)
 have q2 : (((w.alloc (.cells (ints b).toArray 26)).alloc (.cells #[.int .i64 4, .int .i64 (an : Int), .int .i64 v] 123)).alloc zB).cell? ⟨w.heap.size + 1, 2, none⟩ = some (.int .i64 v) := cell_later (below_one _) (by rw [World.cell?_alloc_at _ _ _ _ (by simp)]; rfl)
 have hb0 : Below w.heap.size w (((w.alloc (.cells (ints b).toArray 26)).alloc (.cells #[.int .i64 4, .int .i64 (an : Int), .int .i64 v] 123)).alloc zB) := by (repeat (first | exact Below.refl _ _ | exact (Below.refl _ _).drew | assumption | exact below_one _ | refine Below.chain ?_ (by assumption) | refine Below.drew ?_ | refine Below.alc ?_ _ | refine below_drewN ?_ | (refine Below.setCell ?_ ?_ _) | exact Nat.le_refl _ | (simp; done) | (simp; omega)))
 simp only [World.size_alloc] at t1
 have n0 : (0 : Int) ≤ (an : Int) := by omega
 have n1 : (an : Int) < 6 := by omega
 have gc := inB_true (show inB (bg b 18) 0 1000 = true by unfold goodB at hg; simp only [Bool.and_eq_true] at hg; exact hg.2)
 have bd := goodB_at hg ha
 unfold bF at bd
 simp only at bd
 obtain ⟨⟨d0, d1, d2, d3⟩, d4, d5⟩ := bd
 have HV := Lib.hid hv; clear hv
 have K := World.rangeAt_setCells_same (((w.alloc (.cells (ints b).toArray 26)).alloc (.cells #[.int .i64 4, .int .i64 (an : Int), .int .i64 v] 123)).alloc (.cells zBA 26)) (w.heap.size + 1 + 1) 0 (ints b) (by simpa [hb] using t1)
 have K6 := below_cells (ints b) (((w.alloc (.cells (ints b).toArray 26)).alloc (.cells #[.int .i64 4, .int .i64 (an : Int), .int .i64 v] 123)).alloc (.cells zBA 26)) (w.heap.size + 1 + 1) 0 hb0 (by omega)
 have K5 := loadVarB K hb
 clear t0 K
 unfold mkV aggI jobV
 unfold zBA zB at *
 go_enter Tryz.func188, Tryz.ntmps188
 go_wp2_with fail
 refine (l1In_c _ _ _ _).mono ?_
 rintro e w1 ⟨rfl, rfl⟩
 rw [HV.out]
 generalize World.alloc _ _ = wb at *
 go_wp2_with (first | (refine wpList_loadB rfl _ rfl _ rfl _ r0 hb ?_) | (refine wpList_storeB rfl _ _ rfl _ _ rfl rfl t1 hb ?_))
 exact bodyPost_ret (v := mkV b false) (res_cell2 Tryz.results188 rfl K5) rfl ⟨rfl, K6⟩
set_option maxHeartbeats 2000000 in
theorem fail_yes4 (b : List Int) (an vn : Nat) (w : World) (hb : b.length = 19) (hg : goodB b = true) (ha : an < 6) (hv : vn < 7) :
 Calls Tryz.prog 188 #[aggI b, jobV 4 (an : Int) (vn : Int)] w fun e w' => e = .returned (mkV ((b.set (6 + an) (anC (bg b (6 + an)) (bitC (vn : Int)))).set (12 + an) (orC (bg b (12 + an)) (bitC (vn : Int)))) (!barB (bg b (12 + an)) (vn : Int))) ∧ Below w.heap.size w w' := by
 have r0 := World.rangeAt_alloc (World.rangeAt_alloc (range_new w (ints b) 26) (.cells #[.int .i64 4, .int .i64 (an : Int), .int .i64 (vn : Int)] 123)) zB
 have t0 := World.there_alloc (World.there_alloc (there_new w (ints b).toArray 26 (n := 19) (by simp [hb])) (.cells #[.int .i64 4, .int .i64 (an : Int), .int .i64 (vn : Int)] 123)) zB
 have t1 := there_new ((w.alloc (.cells (ints b).toArray 26)).alloc (.cells #[.int .i64 4, .int .i64 (an : Int), .int .i64 (vn : Int)] 123)) _ 26 (n := 19) (show 19 ≤ (zBA : Array Value).size by decide)
 have q0 : (((w.alloc (.cells (ints b).toArray 26)).alloc (.cells #[.int .i64 4, .int .i64 (an : Int), .int .i64 (vn : Int)] 123)).alloc zB).cell? ⟨w.heap.size + 1, 0, none⟩ = some (.int .i64 4) := cell_later (below_one _) (by rw [World.cell?_alloc_at _ _ _ _ (by simp)]; rfl)
 have q1 : (((w.alloc (.cells (ints b).toArray 26)).alloc (.cells #[.int .i64 4, .int .i64 (an : Int), .int .i64 (vn : Int)] 123)).alloc zB).cell? ⟨w.heap.size + 1, 1, none⟩ = some (.int .i64 (an : Int)) := cell_later (below_one _) (by rw [World.cell?_alloc_at _ _ _ _ (by simp)]; rfl)
 have q2 : (((w.alloc (.cells (ints b).toArray 26)).alloc (.cells #[.int .i64 4, .int .i64 (an : Int), .int .i64 (vn : Int)] 123)).alloc zB).cell? ⟨w.heap.size + 1, 2, none⟩ = some (.int .i64 (vn : Int)) := cell_later (below_one _) (by rw [World.cell?_alloc_at _ _ _ _ (by simp)]; rfl)
 have hb0 : Below w.heap.size w (((w.alloc (.cells (ints b).toArray 26)).alloc (.cells #[.int .i64 4, .int .i64 (an : Int), .int .i64 (vn : Int)] 123)).alloc zB) := by (repeat (first | exact Below.refl _ _ | exact (Below.refl _ _).drew | assumption | exact below_one _ | refine Below.chain ?_ (by assumption) | refine Below.drew ?_ | refine Below.alc ?_ _ | refine below_drewN ?_ | (refine Below.setCell ?_ ?_ _) | exact Nat.le_refl _ | (simp; done) | (simp; omega)))
 simp only [World.size_alloc] at t1
 have n0 : (0 : Int) ≤ (an : Int) := by omega
 have n1 : (an : Int) < 6 := by omega
 have gc := inB_true (show inB (bg b 18) 0 1000 = true by unfold goodB at hg; simp only [Bool.and_eq_true] at hg; exact hg.2)
 have bd := goodB_at hg ha
 unfold bF at bd
 simp only at bd
 obtain ⟨⟨d0, d1, d2, d3⟩, d4, d5⟩ := bd
 obtain ⟨v1, _, vw⟩ := bitC_f (n := vn) (by omega)
 have v2 := bitC_64 ⟨vn, hv⟩
 simp only at v2
 have HX := orC_i64 d2 d3 (show 0 ≤ bitC (vn : Int) by omega) (show bitC (vn : Int) ≤ 127 by omega)
 obtain ⟨M, M0, M1, HM, HN⟩ := anC_sub d0 d1 (show 0 ≤ bitC (vn : Int) by omega) (show bitC (vn : Int) ≤ 127 by omega)
 obtain ⟨N, HN1, HN2⟩ := bar_free d2 d3 hv
 have HV : Hid (inB (vn : Int) 0 6 = true) := inB_mk (by omega) (by omega)
 rw [HN, ← HN2]
 generalize orC (bg b (12 + an)) (bitC (vn : Int)) = X1 at *
 generalize bitC (vn : Int) = V at *
 have HE := Lib.hid (show ((b.set (6 + an) (bg b (6 + an) - M)).set (12 + an) (X1)) = ((b.set (12 + an) (X1)).set (6 + an) (bg b (6 + an) - M)) by rw [List.set_comm _ _ (by omega)])
 rw [HE.out]
 clear HN HN2
 unfold mkV aggI jobV
 unfold zBA zB at *
 go_enter Tryz.func188, Tryz.ntmps188
 go_wp2_with fail
 refine (l1In_c _ _ _ _).mono ?_
 rintro e w1 ⟨rfl, rfl⟩
 rw [HV.out]
 generalize World.alloc _ _ = wb at *
 have g1 := cell18 r0 (j := 6 + an) (by omega)
 have g2 := cell18 r0 (j := 12 + an) (by omega)
 have f1 := there_froz t0 (j := 6 + an) (by omega)
 have f2 := there_froz t0 (j := 12 + an) (by omega)
 go_wp2
 go_region
 have r1 : wb.drew.rangeAt w.heap.size 0 (ints b) := r0
 have u0 : wb.drew.there w.heap.size 0 19 := t0
 have u1 : wb.drew.there (w.heap.size + 1 + 1) 0 19 := t1
 have hb1 : Below w.heap.size w wb.drew := hb0.drew
 clear r0 t0 t1 hb0
 have r0 := r1; have t0 := u0; have t1 := u1; have hb0 := hb1
 clear r1 u0 u1 hb1
 have g1 : wb.drew.cell? ⟨w.heap.size, 6 + an, none⟩ = _ := g1
 have g2 : wb.drew.cell? ⟨w.heap.size, 12 + an, none⟩ = _ := g2
 have f1 : wb.drew.frozen? ⟨w.heap.size, 6 + an, none⟩ = _ := f1
 have f2 : wb.drew.frozen? ⟨w.heap.size, 12 + an, none⟩ = _ := f2
 have q0 : wb.drew.cell? ⟨w.heap.size + 1, 0, none⟩ = _ := q0
 have q1 : wb.drew.cell? ⟨w.heap.size + 1, 1, none⟩ = _ := q1
 have q2 : wb.drew.cell? ⟨w.heap.size + 1, 2, none⟩ = _ := q2
 generalize wb.drew = wd at *
 have hl : ((b.set (12 + an) (X1)).set (6 + an) (bg b (6 + an) - M)).length = 19 := by simp [hb]
 have R1 := (range_set (range_set r0 (j := 12 + an) (X1) (by omega)) (j := 6 + an) (bg b (6 + an) - M) (by simp; omega))
 have T0 := (there_set (there_set t0 w.heap.size (12 + an) (.int .i64 (X1))) w.heap.size (6 + an) (.int .i64 (bg b (6 + an) - M)))
 have T1 := (there_set (there_set t1 w.heap.size (12 + an) (.int .i64 (X1))) w.heap.size (6 + an) (.int .i64 (bg b (6 + an) - M)))
 have B1 := (Below.setCell (Below.setCell hb0 (p := ⟨w.heap.size, 12 + an, none⟩) (Nat.le_refl _) (.int .i64 (X1))) (p := ⟨w.heap.size, 6 + an, none⟩) (Nat.le_refl _) (.int .i64 (bg b (6 + an) - M)))
 have K := World.rangeAt_setCells_same _ (w.heap.size + 1 + 1) 0 (ints ((b.set (12 + an) (X1)).set (6 + an) (bg b (6 + an) - M))) (by simpa [hb] using T1)
 have K6 := below_cells (ints ((b.set (12 + an) (X1)).set (6 + an) (bg b (6 + an) - M))) _ (w.heap.size + 1 + 1) 0 B1 (by omega)
 have K5 := loadVarB K hl
 clear r0 t0 t1 hb0 T0 B1 K
 generalize hbb : ((b.set (12 + an) (X1)).set (6 + an) (bg b (6 + an) - M)) = bb at *
 have HBB := Lib.hid hbb; clear hbb
 go_wp2_with (first | (refine wpList_loadB rfl _ rfl _ rfl _ R1 hl ?_) | (refine wpList_storeB rfl _ _ rfl _ _ rfl rfl T1 hl ?_))
 exact bodyPost_ret (v := mkV bb (N == 0)) (res_cell2 Tryz.results188 rfl K5) rfl ⟨by rw [← HBB.out]; rfl, K6⟩
end Go.Proofs.YtohgjfdbnkjefaaGreatDoor
namespace Go.Proofs.YtohgjfdbnkjefaaGreatDoor
end Go.Proofs.YtohgjfdbnkjefaaGreatDoor
