/- Texts of this claim, gathered: Job3, Job4. -/
import Derived.Test.YtohgjfdbnkjefaaGreatDoorKw7
import Derived.RegionTactic
import Derived.Deep.RegionHeld3
import Derived.Deep.DrawnRows
import Derived.Deep.DeepCutAuto
import Derived.Tactics
import Derived.Tactics2
import Derived.BigRegion
namespace Go.Proofs.YtohgjfdbnkjefaaGreatDoor
open Go.RowKit
set_option linter.unusedVariables false
set_option maxRecDepth 100000
attribute [local go_sem ↓] Go.wp_at_zero Go.wp_at_succ
def jobV (k a b : Int) : Value := .agg #[.int .i64 k, .int .i64 a, .int .i64 b]
def orC (x y : Int) : Int := ((x.toNat ||| y.toNat : Nat) : Int)
def anC (x y : Int) : Int := ((x.toNat &&& (127 - y.toNat) : Nat) : Int)
def bitC (v : Int) : Int := ((2 ^ v.toNat : Nat) : Int)
def cntB (b : List Int) : List Int := b.set 18 (bg b 18 + 1)
theorem bitC_all : ∀ n : Fin 10, bitC (n.1 : Int) ≤ 512 ∧ 1 ≤ bitC (n.1 : Int) ∧ wrap64 ((2 : Int) ^ n.1) = bitC (n.1 : Int) := by decide +kernel
theorem bitC_f {n : Nat} (h : n < 10) : 1 ≤ bitC n ∧ bitC n ≤ 512 ∧ wrap64 ((2 : Int) ^ n) = bitC n := ⟨(bitC_all ⟨n, h⟩).2.1, (bitC_all ⟨n, h⟩).1, (bitC_all ⟨n, h⟩).2.2⟩
theorem bitC_64 : ∀ n : Fin 7, bitC (n.1 : Int) ≤ 64 := by decide +kernel
theorem orC_i64 {x y : Int} (x0 : 0 ≤ x) (x1 : x ≤ 127) (y0 : 0 ≤ y) (y1 : y ≤ 127) : bits .or .i64 x y = orC x y := by
 obtain ⟨x, rfl⟩ := Int.eq_ofNat_of_zero_le x0
 obtain ⟨y, rfl⟩ := Int.eq_ofNat_of_zero_le y0
 exact i64_or_nat _ _ (by omega) (by omega)
theorem anC_i64 {x y : Int} (x0 : 0 ≤ x) (x1 : x ≤ 127) (y0 : 0 ≤ y) (y1 : y ≤ 127) : bits .andNot .i64 x y = anC x y := by
 obtain ⟨x, rfl⟩ := Int.eq_ofNat_of_zero_le x0
 obtain ⟨y, rfl⟩ := Int.eq_ofNat_of_zero_le y0
 exact i64_andNot_nat _ _ (by omega) (by omega)
theorem do_end {w wr : World} {b : List Int} {B R : Nat} (hl : b.length = 19) (hr : wr.rangeAt B 0 (ints b)) (hB : wr.there B 0 19) (hR : wr.there R 0 19) (hb : Below w.heap.size w wr) (hBw : w.heap.size ≤ B) (hRw : w.heap.size ≤ R) (hne : B ≠ R) :
 wr.cell? ⟨B, 18, none⟩ = some (.int .i64 (bg b 18)) ∧ wr.frozen? ⟨B, 18, none⟩ = false ∧ (wr.setCell ⟨B, 18, none⟩ (.int .i64 (bg b 18 + 1))).rangeAt B 0 (ints (cntB b)) ∧ (wr.setCell ⟨B, 18, none⟩ (.int .i64 (bg b 18 + 1))).there R 0 19 ∧
  ((wr.setCell ⟨B, 18, none⟩ (.int .i64 (bg b 18 + 1))).setCells R 0 (ints (cntB b))).rangeAt R 0 (ints (cntB b)) ∧ Below w.heap.size w ((wr.setCell ⟨B, 18, none⟩ (.int .i64 (bg b 18 + 1))).setCells R 0 (ints (cntB b))) := by
 have h1 := there_set hR B 18 (.int .i64 (bg b 18 + 1))
 refine ⟨cell18 hr (by omega), there_froz hB (by omega), range_set hr _ (by omega), h1, World.rangeAt_setCells_same _ _ _ _ (by simpa [cntB, hl] using h1), below_cells _ _ _ _ (hb.setCell (p := ⟨B, 18, none⟩) hBw _) hRw⟩
theorem cntB_len {b : List Int} (h : b.length = 19) : (cntB b).length = 19 := by simp [cntB, h]
set_option maxHeartbeats 2000000 in
theorem do_k3 (b : List Int) (an vn : Nat) (w : World) (hb : b.length = 19) (hg : goodB b = true) (ha : an < 6) (hv : vn < 7) :
 Calls Tryz.prog 104 #[aggI b, jobV 3 (an : Int) (vn : Int)] w fun e w' => e = .returned (aggI (cntB ((b.set (6 + an) (orC (bg b (6 + an)) (bitC (vn : Int)))).set (12 + an) (anC (bg b (12 + an)) (bitC (vn : Int)))))) ∧ Below w.heap.size w w' := by
 have r0 := World.rangeAt_alloc (World.rangeAt_alloc (range_new w (ints b) 26) (.cells #[.int .i64 3, .int .i64 (an : Int), .int .i64 (vn : Int)] 123)) zB
 have t0 := World.there_alloc (World.there_alloc (there_new w (ints b).toArray 26 (n := 19) (by simp [hb])) (.cells #[.int .i64 3, .int .i64 (an : Int), .int .i64 (vn : Int)] 123)) zB
 have t1 := there_new ((w.alloc (.cells (ints b).toArray 26)).alloc (.cells #[.int .i64 3, .int .i64 (an : Int), .int .i64 (vn : Int)] 123)) _ 26 (n := 19) (show 19 ≤ (zBA : Array Value).size by decide)
 have q0 : (((w.alloc (.cells (ints b).toArray 26)).alloc (.cells #[.int .i64 3, .int .i64 (an : Int), .int .i64 (vn : Int)] 123)).alloc zB).cell? ⟨w.heap.size + 1, 0, none⟩ = some (.int .i64 3) := cell_later (below_one _) (by rw [World.cell?_alloc_at _ _ _ _ (by simp)]; rfl)
 have q1 : (((w.alloc (.cells (ints b).toArray 26)).alloc (.cells #[.int .i64 3, .int .i64 (an : Int), .int .i64 (vn : Int)] 123)).alloc zB).cell? ⟨w.heap.size + 1, 1, none⟩ = some (.int .i64 (an : Int)) := cell_later (below_one _) (by rw [World.cell?_alloc_at _ _ _ _ (by simp)]; rfl)
 have q2 : (((w.alloc (.cells (ints b).toArray 26)).alloc (.cells #[.int .i64 3, .int .i64 (an : Int), .int .i64 (vn : Int)] 123)).alloc zB).cell? ⟨w.heap.size + 1, 2, none⟩ = some (.int .i64 (vn : Int)) := cell_later (below_one _) (by rw [World.cell?_alloc_at _ _ _ _ (by simp)]; rfl)
 have hb0 : Below w.heap.size w (((w.alloc (.cells (ints b).toArray 26)).alloc (.cells #[.int .i64 3, .int .i64 (an : Int), .int .i64 (vn : Int)] 123)).alloc zB) := by (repeat (first | exact Below.refl _ _ | exact (Below.refl _ _).drew | assumption | exact below_one _ | refine Below.chain ?_ (by assumption) | refine Below.drew ?_ | refine Below.alc ?_ _ | refine below_drewN ?_ | (refine Below.setCell ?_ ?_ _) | exact Nat.le_refl _ | (simp; done) | (simp; omega)))
 simp only [World.size_alloc] at t1
 have n0 : (0 : Int) ≤ (an : Int) := by omega
 have n1 : (an : Int) < 6 := by omega
 have gc := inB_true (show inB (bg b 18) 0 1000 = true by unfold goodB at hg; simp only [Bool.and_eq_true] at hg; exact hg.2)
 have bd := goodB_at hg ha
 unfold bF at bd
 simp only at bd
 obtain ⟨⟨d0, d1, d2, d3⟩, d4, d5⟩ := bd
 obtain ⟨v1, _, vw⟩ := bitC_f (n := vn) (by omega)
 have v2 := bitC_64 ⟨vn, hv⟩
 simp only at v2
 have HX := orC_i64 d0 d1 (show 0 ≤ bitC (vn : Int) by omega) (show bitC (vn : Int) ≤ 127 by omega)
 have HY := anC_i64 d2 d3 (show 0 ≤ bitC (vn : Int) by omega) (show bitC (vn : Int) ≤ 127 by omega)
 generalize orC (bg b (6 + an)) (bitC (vn : Int)) = X1 at *
 generalize anC (bg b (12 + an)) (bitC (vn : Int)) = X2 at *
 generalize bitC (vn : Int) = V at *
 unfold aggI jobV
 unfold zBA zB at *
 go_enter Tryz.func104, Tryz.ntmps104
 go_wp2
 generalize World.alloc _ _ = wb at *
 have g1 := cell18 r0 (j := 6 + an) (by omega)
 have g2 := cell18 r0 (j := 12 + an) (by omega)
 have f1 := there_froz t0 (j := 6 + an) (by omega)
 have f2 := there_froz t0 (j := 12 + an) (by omega)
 have HH := Lib.hid (show ((b.set (6 + an) (X1)).set (12 + an) (X2)).length = 19 by simp [hb])
 have HR3 := Lib.hid (range_set (range_set r0 (j := 6 + an) (X1) (by omega)) (j := 12 + an) (X2) (by simp; omega))
 have HT3 := Lib.hid (there_set (there_set t0 w.heap.size (6 + an) (.int .i64 (X1))) w.heap.size (12 + an) (.int .i64 (X2)))
 have HR4 := Lib.hid (there_set (there_set t1 w.heap.size (6 + an) (.int .i64 (X1))) w.heap.size (12 + an) (.int .i64 (X2)))
 have HB3 := Lib.hid (Below.setCell (Below.setCell hb0 (p := ⟨w.heap.size, 6 + an, none⟩) (Nat.le_refl _) (.int .i64 (X1))) (p := ⟨w.heap.size, 12 + an, none⟩) (Nat.le_refl _) (.int .i64 (X2)))
 have HC3 := Lib.hid (show bg ((b.set (6 + an) (X1)).set (12 + an) (X2)) 18 = bg b 18 by unfold bg; simp only [List.getD_eq_getElem?_getD]; rw [List.getElem?_set_ne (by omega), List.getElem?_set_ne (by omega)])
 go_region
 clear q0 q1 q2 r0 t0 t1 hb0
 have A1 : (((wb.setCell ⟨w.heap.size, 6 + an, none⟩ (.int .i64 (X1))).setCell ⟨w.heap.size, 12 + an, none⟩ (.int .i64 (X2))).drew).rangeAt w.heap.size 0 (ints ((b.set (6 + an) (X1)).set (12 + an) (X2))) := HR3.out
 have A2 : (((wb.setCell ⟨w.heap.size, 6 + an, none⟩ (.int .i64 (X1))).setCell ⟨w.heap.size, 12 + an, none⟩ (.int .i64 (X2))).drew).there w.heap.size 0 19 := HT3.out
 have A3 : (((wb.setCell ⟨w.heap.size, 6 + an, none⟩ (.int .i64 (X1))).setCell ⟨w.heap.size, 12 + an, none⟩ (.int .i64 (X2))).drew).there (w.heap.size + 1 + 1) 0 19 := HR4.out
 have A4 : Below w.heap.size w (((wb.setCell ⟨w.heap.size, 6 + an, none⟩ (.int .i64 (X1))).setCell ⟨w.heap.size, 12 + an, none⟩ (.int .i64 (X2))).drew) := (HB3.out).drew
 generalize ((wb.setCell ⟨w.heap.size, 6 + an, none⟩ (.int .i64 (X1))).setCell ⟨w.heap.size, 12 + an, none⟩ (.int .i64 (X2))).drew = wr at *
 have hl := HH.out
 have gc' : 0 ≤ bg ((b.set (6 + an) (X1)).set (12 + an) (X2)) 18 ∧ bg ((b.set (6 + an) (X1)).set (12 + an) (X2)) 18 ≤ 1000 := by rw [HC3.out]; exact gc
 clear gc
 obtain ⟨K1, K2, K3, K4, K5, K6⟩ := do_end hl A1 A2 A3 A4 (Nat.le_refl _) (by omega) (by omega)
 clear A1 A2 A3 A4
 generalize hbb : ((b.set (6 + an) (X1)).set (12 + an) (X2)) = bb at *
 have HBB := Lib.hid hbb; clear hbb
 go_wp2_with (first | (refine wpList_loadB rfl _ rfl _ rfl _ K3 (cntB_len hl) ?_) | (refine wpList_storeB rfl _ _ rfl _ _ rfl rfl K4 (cntB_len hl) ?_))
 exact bodyPost_ret (v := aggI (cntB bb)) (res_cell Tryz.results104 rfl (loadVarB K5 (cntB_len hl))) rfl ⟨by rw [← HBB.out]; rfl, K6⟩
set_option maxHeartbeats 2000000 in
theorem do_k4 (b : List Int) (an vn : Nat) (w : World) (hb : b.length = 19) (hg : goodB b = true) (ha : an < 6) (hv : vn < 7) :
 Calls Tryz.prog 104 #[aggI b, jobV 4 (an : Int) (vn : Int)] w fun e w' => e = .returned (aggI (cntB ((b.set (6 + an) (anC (bg b (6 + an)) (bitC (vn : Int)))).set (12 + an) (orC (bg b (12 + an)) (bitC (vn : Int)))))) ∧ Below w.heap.size w w' := by
 have r0 := World.rangeAt_alloc (World.rangeAt_alloc (range_new w (ints b) 26) (.cells #[.int .i64 4, .int .i64 (an : Int), .int .i64 (vn : Int)] 123)) zB
 have t0 := World.there_alloc (World.there_alloc (there_new w (ints b).toArray 26 (n := 19) (by simp [hb])) (.cells #[.int .i64 4, .int .i64 (an : Int), .int .i64 (vn : Int)] 123)) zB
 have t1 := there_new ((w.alloc (.cells (ints b).toArray 26)).alloc (.cells #[.int .i64 4, .int .i64 (an : Int), .int .i64 (vn : Int)] 123)) _ 26 (n := 19) (show 19 ≤ (zBA : Array Value).size by decide)
 have q0 : (((w.alloc (.cells (ints b).toArray 26)).alloc (.cells #[.int .i64 4, .int .i64 (an : Int), .int .i64 (vn : Int)] 123)).alloc zB).cell? ⟨w.heap.size + 1, 0, none⟩ = some (.int .i64 4) := cell_later (below_one _) (by rw [World.cell?_alloc_at _ _ _ _ (by simp)]; rfl)
 have q1 : (((w.alloc (.cells (ints b).toArray 26)).alloc (.cells #[.int .i64 4, .int .i64 (an : Int), .int .i64 (vn : Int)] 123)).alloc zB).cell? ⟨w.heap.size + 1, 1, none⟩ = some (.int .i64 (an : Int)) := cell_later (below_one _) (by rw [World.cell?_alloc_at _ _ _ _ (by simp)]; rfl)
 have q2 : (((w.alloc (.cells (ints b).toArray 26)).alloc (.cells #[.int .i64 4, .int .i64 (an : Int), .int .i64 (vn : Int)] 123)).alloc zB).cell? ⟨w.heap.size + 1, 2, none⟩ = some (.int .i64 (vn : Int)) := cell_later (below_one _) (by rw [World.cell?_alloc_at _ _ _ _ (by simp)]; rfl)
 have hb0 : Below w.heap.size w (((w.alloc (.cells (ints b).toArray 26)).alloc (.cells #[.int .i64 4, .int .i64 (an : Int), .int .i64 (vn : Int)] 123)).alloc zB) := by (repeat (first | exact Below.refl _ _ | exact (Below.refl _ _).drew | assumption | exact below_one _ | refine Below.chain ?_ (by assumption) | refine Below.drew ?_ | refine Below.alc ?_ _ | refine below_drewN ?_ | (refine Below.setCell ?_ ?_ _) | exact Nat.le_refl _ | (simp; done) | (simp; omega)))
 simp only [World.size_alloc] at t1
 have n0 : (0 : Int) ≤ (an : Int) := by omega
 have n1 : (an : Int) < 6 := by omega
 have gc := inB_true (show inB (bg b 18) 0 1000 = true by unfold goodB at hg; simp only [Bool.and_eq_true] at hg; exact hg.2)
 have bd := goodB_at hg ha
 unfold bF at bd
 simp only at bd
 obtain ⟨⟨d0, d1, d2, d3⟩, d4, d5⟩ := bd
 obtain ⟨v1, _, vw⟩ := bitC_f (n := vn) (by omega)
 have v2 := bitC_64 ⟨vn, hv⟩
 simp only at v2
 have HX := anC_i64 d0 d1 (show 0 ≤ bitC (vn : Int) by omega) (show bitC (vn : Int) ≤ 127 by omega)
 have HY := orC_i64 d2 d3 (show 0 ≤ bitC (vn : Int) by omega) (show bitC (vn : Int) ≤ 127 by omega)
 generalize anC (bg b (6 + an)) (bitC (vn : Int)) = X1 at *
 generalize orC (bg b (12 + an)) (bitC (vn : Int)) = X2 at *
 generalize bitC (vn : Int) = V at *
 unfold aggI jobV
 unfold zBA zB at *
 go_enter Tryz.func104, Tryz.ntmps104
 go_wp2
 generalize World.alloc _ _ = wb at *
 have g1 := cell18 r0 (j := 6 + an) (by omega)
 have g2 := cell18 r0 (j := 12 + an) (by omega)
 have f1 := there_froz t0 (j := 6 + an) (by omega)
 have f2 := there_froz t0 (j := 12 + an) (by omega)
 have HH := Lib.hid (show ((b.set (6 + an) (X1)).set (12 + an) (X2)).length = 19 by simp [hb])
 have HR3 := Lib.hid (range_set (range_set r0 (j := 6 + an) (X1) (by omega)) (j := 12 + an) (X2) (by simp; omega))
 have HT3 := Lib.hid (there_set (there_set t0 w.heap.size (6 + an) (.int .i64 (X1))) w.heap.size (12 + an) (.int .i64 (X2)))
 have HR4 := Lib.hid (there_set (there_set t1 w.heap.size (6 + an) (.int .i64 (X1))) w.heap.size (12 + an) (.int .i64 (X2)))
 have HB3 := Lib.hid (Below.setCell (Below.setCell hb0 (p := ⟨w.heap.size, 6 + an, none⟩) (Nat.le_refl _) (.int .i64 (X1))) (p := ⟨w.heap.size, 12 + an, none⟩) (Nat.le_refl _) (.int .i64 (X2)))
 have HC3 := Lib.hid (show bg ((b.set (6 + an) (X1)).set (12 + an) (X2)) 18 = bg b 18 by unfold bg; simp only [List.getD_eq_getElem?_getD]; rw [List.getElem?_set_ne (by omega), List.getElem?_set_ne (by omega)])
 go_region
 clear q0 q1 q2 r0 t0 t1 hb0
 have A1 : (((wb.setCell ⟨w.heap.size, 6 + an, none⟩ (.int .i64 (X1))).setCell ⟨w.heap.size, 12 + an, none⟩ (.int .i64 (X2))).drew).rangeAt w.heap.size 0 (ints ((b.set (6 + an) (X1)).set (12 + an) (X2))) := HR3.out
 have A2 : (((wb.setCell ⟨w.heap.size, 6 + an, none⟩ (.int .i64 (X1))).setCell ⟨w.heap.size, 12 + an, none⟩ (.int .i64 (X2))).drew).there w.heap.size 0 19 := HT3.out
 have A3 : (((wb.setCell ⟨w.heap.size, 6 + an, none⟩ (.int .i64 (X1))).setCell ⟨w.heap.size, 12 + an, none⟩ (.int .i64 (X2))).drew).there (w.heap.size + 1 + 1) 0 19 := HR4.out
 have A4 : Below w.heap.size w (((wb.setCell ⟨w.heap.size, 6 + an, none⟩ (.int .i64 (X1))).setCell ⟨w.heap.size, 12 + an, none⟩ (.int .i64 (X2))).drew) := (HB3.out).drew
 generalize ((wb.setCell ⟨w.heap.size, 6 + an, none⟩ (.int .i64 (X1))).setCell ⟨w.heap.size, 12 + an, none⟩ (.int .i64 (X2))).drew = wr at *
 have hl := HH.out
 have gc' : 0 ≤ bg ((b.set (6 + an) (X1)).set (12 + an) (X2)) 18 ∧ bg ((b.set (6 + an) (X1)).set (12 + an) (X2)) 18 ≤ 1000 := by rw [HC3.out]; exact gc
 clear gc
 obtain ⟨K1, K2, K3, K4, K5, K6⟩ := do_end hl A1 A2 A3 A4 (Nat.le_refl _) (by omega) (by omega)
 clear A1 A2 A3 A4
 generalize hbb : ((b.set (6 + an) (X1)).set (12 + an) (X2)) = bb at *
 have HBB := Lib.hid hbb; clear hbb
 go_wp2_with (first | (refine wpList_loadB rfl _ rfl _ rfl _ K3 (cntB_len hl) ?_) | (refine wpList_storeB rfl _ _ rfl _ _ rfl rfl K4 (cntB_len hl) ?_))
 exact bodyPost_ret (v := aggI (cntB bb)) (res_cell Tryz.results104 rfl (loadVarB K5 (cntB_len hl))) rfl ⟨by rw [← HBB.out]; rfl, K6⟩
set_option maxHeartbeats 2000000 in
theorem do_k5 (b : List Int) (an : Nat) (w : World) (hb : b.length = 19) (hg : goodB b = true) (ha : an < 6)  :
 Calls Tryz.prog 104 #[aggI b, jobV 5 (an : Int) 0] w fun e w' => e = .returned (aggI (cntB ((b.set (6 + an) (0)).set (12 + an) (0)))) ∧ Below w.heap.size w w' := by
 have r0 := World.rangeAt_alloc (World.rangeAt_alloc (range_new w (ints b) 26) (.cells #[.int .i64 5, .int .i64 (an : Int), .int .i64 0] 123)) zB
 have t0 := World.there_alloc (World.there_alloc (there_new w (ints b).toArray 26 (n := 19) (by simp [hb])) (.cells #[.int .i64 5, .int .i64 (an : Int), .int .i64 0] 123)) zB
 have t1 := there_new ((w.alloc (.cells (ints b).toArray 26)).alloc (.cells #[.int .i64 5, .int .i64 (an : Int), .int .i64 0] 123)) _ 26 (n := 19) (show 19 ≤ (zBA : Array Value).size by decide)
 have q0 : (((w.alloc (.cells (ints b).toArray 26)).alloc (.cells #[.int .i64 5, .int .i64 (an : Int), .int .i64 0] 123)).alloc zB).cell? ⟨w.heap.size + 1, 0, none⟩ = some (.int .i64 5) := cell_later (below_one _) (by rw [World.cell?_alloc_at _ _ _ _ (by simp)]; rfl)
 have q1 : (((w.alloc (.cells (ints b).toArray 26)).alloc (.cells #[.int .i64 5, .int .i64 (an : Int), .int .i64 0] 123)).alloc zB).cell? ⟨w.heap.size + 1, 1, none⟩ = some (.int .i64 (an : Int)) := cell_later (below_one _) (by rw [World.cell?_alloc_at _ _ _ _ (by simp)]; rfl)
 have q2 : (((w.alloc (.cells (ints b).toArray 26)).alloc (.cells #[.int .i64 5, .int .i64 (an : Int), .int .i64 0] 123)).alloc zB).cell? ⟨w.heap.size + 1, 2, none⟩ = some (.int .i64 0) := cell_later (below_one _) (by rw [World.cell?_alloc_at _ _ _ _ (by simp)]; rfl)
 have hb0 : Below w.heap.size w (((w.alloc (.cells (ints b).toArray 26)).alloc (.cells #[.int .i64 5, .int .i64 (an : Int), .int .i64 0] 123)).alloc zB) := by (repeat (first | exact Below.refl _ _ | exact (Below.refl _ _).drew | assumption | exact below_one _ | refine Below.chain ?_ (by assumption) | refine Below.drew ?_ | refine Below.alc ?_ _ | refine below_drewN ?_ | (refine Below.setCell ?_ ?_ _) | exact Nat.le_refl _ | (simp; done) | (simp; omega)))
 simp only [World.size_alloc] at t1
 have n0 : (0 : Int) ≤ (an : Int) := by omega
 have n1 : (an : Int) < 6 := by omega
 have gc := inB_true (show inB (bg b 18) 0 1000 = true by unfold goodB at hg; simp only [Bool.and_eq_true] at hg; exact hg.2)
 have bd := goodB_at hg ha
 unfold bF at bd
 simp only at bd
 obtain ⟨⟨d0, d1, d2, d3⟩, d4, d5⟩ := bd
 unfold aggI jobV
 unfold zBA zB at *
 go_enter Tryz.func104, Tryz.ntmps104
 go_wp2
 generalize World.alloc _ _ = wb at *
 have g1 := cell18 r0 (j := 6 + an) (by omega)
 have g2 := cell18 r0 (j := 12 + an) (by omega)
 have f1 := there_froz t0 (j := 6 + an) (by omega)
 have f2 := there_froz t0 (j := 12 + an) (by omega)
 have HH := Lib.hid (show ((b.set (6 + an) (0)).set (12 + an) (0)).length = 19 by simp [hb])
 have HR3 := Lib.hid (range_set (range_set r0 (j := 6 + an) (0) (by omega)) (j := 12 + an) (0) (by simp; omega))
 have HT3 := Lib.hid (there_set (there_set t0 w.heap.size (6 + an) (.int .i64 (0))) w.heap.size (12 + an) (.int .i64 (0)))
 have HR4 := Lib.hid (there_set (there_set t1 w.heap.size (6 + an) (.int .i64 (0))) w.heap.size (12 + an) (.int .i64 (0)))
 have HB3 := Lib.hid (Below.setCell (Below.setCell hb0 (p := ⟨w.heap.size, 6 + an, none⟩) (Nat.le_refl _) (.int .i64 (0))) (p := ⟨w.heap.size, 12 + an, none⟩) (Nat.le_refl _) (.int .i64 (0)))
 have HC3 := Lib.hid (show bg ((b.set (6 + an) (0)).set (12 + an) (0)) 18 = bg b 18 by unfold bg; simp only [List.getD_eq_getElem?_getD]; rw [List.getElem?_set_ne (by omega), List.getElem?_set_ne (by omega)])
 go_region
 clear q0 q1 q2 r0 t0 t1 hb0
 have A1 : (((wb.setCell ⟨w.heap.size, 6 + an, none⟩ (.int .i64 (0))).setCell ⟨w.heap.size, 12 + an, none⟩ (.int .i64 (0))).drew).rangeAt w.heap.size 0 (ints ((b.set (6 + an) (0)).set (12 + an) (0))) := HR3.out
 have A2 : (((wb.setCell ⟨w.heap.size, 6 + an, none⟩ (.int .i64 (0))).setCell ⟨w.heap.size, 12 + an, none⟩ (.int .i64 (0))).drew).there w.heap.size 0 19 := HT3.out
 have A3 : (((wb.setCell ⟨w.heap.size, 6 + an, none⟩ (.int .i64 (0))).setCell ⟨w.heap.size, 12 + an, none⟩ (.int .i64 (0))).drew).there (w.heap.size + 1 + 1) 0 19 := HR4.out
 have A4 : Below w.heap.size w (((wb.setCell ⟨w.heap.size, 6 + an, none⟩ (.int .i64 (0))).setCell ⟨w.heap.size, 12 + an, none⟩ (.int .i64 (0))).drew) := (HB3.out).drew
 generalize ((wb.setCell ⟨w.heap.size, 6 + an, none⟩ (.int .i64 (0))).setCell ⟨w.heap.size, 12 + an, none⟩ (.int .i64 (0))).drew = wr at *
 have hl := HH.out
 have gc' : 0 ≤ bg ((b.set (6 + an) (0)).set (12 + an) (0)) 18 ∧ bg ((b.set (6 + an) (0)).set (12 + an) (0)) 18 ≤ 1000 := by rw [HC3.out]; exact gc
 clear gc
 obtain ⟨K1, K2, K3, K4, K5, K6⟩ := do_end hl A1 A2 A3 A4 (Nat.le_refl _) (by omega) (by omega)
 clear A1 A2 A3 A4
 generalize hbb : ((b.set (6 + an) (0)).set (12 + an) (0)) = bb at *
 have HBB := Lib.hid hbb; clear hbb
 go_wp2_with (first | (refine wpList_loadB rfl _ rfl _ rfl _ K3 (cntB_len hl) ?_) | (refine wpList_storeB rfl _ _ rfl _ _ rfl rfl K4 (cntB_len hl) ?_))
 exact bodyPost_ret (v := aggI (cntB bb)) (res_cell Tryz.results104 rfl (loadVarB K5 (cntB_len hl))) rfl ⟨by rw [← HBB.out]; rfl, K6⟩
set_option maxHeartbeats 2000000 in
theorem do_k2 (b : List Int) (an : Nat) (w : World) (hb : b.length = 19) (hg : goodB b = true) (ha : an < 6) :
 Calls Tryz.prog 104 #[aggI b, jobV 2 (an : Int) 0] w fun e w' => e = .returned (aggI (cntB (b.set (an) (0)))) ∧ Below w.heap.size w w' := by
 have r0 := World.rangeAt_alloc (World.rangeAt_alloc (range_new w (ints b) 26) (.cells #[.int .i64 2, .int .i64 (an : Int), .int .i64 0] 123)) zB
 have t0 := World.there_alloc (World.there_alloc (there_new w (ints b).toArray 26 (n := 19) (by simp [hb])) (.cells #[.int .i64 2, .int .i64 (an : Int), .int .i64 0] 123)) zB
 have t1 := there_new ((w.alloc (.cells (ints b).toArray 26)).alloc (.cells #[.int .i64 2, .int .i64 (an : Int), .int .i64 0] 123)) _ 26 (n := 19) (show 19 ≤ (zBA : Array Value).size by decide)
 have q0 : (((w.alloc (.cells (ints b).toArray 26)).alloc (.cells #[.int .i64 2, .int .i64 (an : Int), .int .i64 0] 123)).alloc zB).cell? ⟨w.heap.size + 1, 0, none⟩ = some (.int .i64 2) := cell_later (below_one _) (by rw [World.cell?_alloc_at _ _ _ _ (by simp)]; rfl)
 have q1 : (((w.alloc (.cells (ints b).toArray 26)).alloc (.cells #[.int .i64 2, .int .i64 (an : Int), .int .i64 0] 123)).alloc zB).cell? ⟨w.heap.size + 1, 1, none⟩ = some (.int .i64 (an : Int)) := cell_later (below_one _) (by rw [World.cell?_alloc_at _ _ _ _ (by simp)]; rfl)
 have q2 : (((w.alloc (.cells (ints b).toArray 26)).alloc (.cells #[.int .i64 2, .int .i64 (an : Int), .int .i64 0] 123)).alloc zB).cell? ⟨w.heap.size + 1, 2, none⟩ = some (.int .i64 0) := cell_later (below_one _) (by rw [World.cell?_alloc_at _ _ _ _ (by simp)]; rfl)
 have hb0 : Below w.heap.size w (((w.alloc (.cells (ints b).toArray 26)).alloc (.cells #[.int .i64 2, .int .i64 (an : Int), .int .i64 0] 123)).alloc zB) := by (repeat (first | exact Below.refl _ _ | exact (Below.refl _ _).drew | assumption | exact below_one _ | refine Below.chain ?_ (by assumption) | refine Below.drew ?_ | refine Below.alc ?_ _ | refine below_drewN ?_ | (refine Below.setCell ?_ ?_ _) | exact Nat.le_refl _ | (simp; done) | (simp; omega)))
 simp only [World.size_alloc] at t1
 have n0 : (0 : Int) ≤ (an : Int) := by omega
 have n1 : (an : Int) < 6 := by omega
 have gc := inB_true (show inB (bg b 18) 0 1000 = true by unfold goodB at hg; simp only [Bool.and_eq_true] at hg; exact hg.2)
 have bd := goodB_at hg ha
 unfold bF at bd
 simp only at bd
 obtain ⟨⟨d0, d1, d2, d3⟩, d4, d5⟩ := bd
 unfold aggI jobV
 unfold zBA zB at *
 go_enter Tryz.func104, Tryz.ntmps104
 go_upto_region 7 with fail
 generalize World.alloc _ _ = wb at *
 have g1 := cell18 r0 (j := an) (by omega)
 have f1 := there_froz t0 (j := an) (by omega)
 have HH := Lib.hid (show (b.set (an) (0)).length = 19 by simp [hb])
 have HR3 := Lib.hid (range_set r0 (j := an) (0) (by omega))
 have HT3 := Lib.hid (there_set t0 w.heap.size (an) (.int .i64 (0)))
 have HR4 := Lib.hid (there_set t1 w.heap.size (an) (.int .i64 (0)))
 have HB3 := Lib.hid (Below.setCell hb0 (p := ⟨w.heap.size, an, none⟩) (Nat.le_refl _) (.int .i64 (0)))
 have HC3 := Lib.hid (show bg (b.set (an) (0)) 18 = bg b 18 by unfold bg; simp only [List.getD_eq_getElem?_getD]; rw [List.getElem?_set_ne (by omega)])
 have hl := HH.out
 have gc' : 0 ≤ bg (b.set (an) (0)) 18 ∧ bg (b.set (an) (0)) 18 ≤ 1000 := by rw [HC3.out]; exact gc
 clear gc
 obtain ⟨K1, K2, K3, K4, K5, K6⟩ := do_end hl HR3.out HT3.out HR4.out HB3.out (Nat.le_refl _) (by omega) (by omega)
 clear r0 t0 t1 hb0
 generalize hbb : (b.set (an) (0)) = bb at *
 have HBB := Lib.hid hbb; clear hbb
 go_wp2_with (first | (refine wpList_loadB rfl _ rfl _ rfl _ K3 (cntB_len hl) ?_) | (refine wpList_storeB rfl _ _ rfl _ _ rfl rfl K4 (cntB_len hl) ?_))
 exact bodyPost_ret (v := aggI (cntB bb)) (res_cell Tryz.results104 rfl (loadVarB K5 (cntB_len hl))) rfl ⟨by rw [← HBB.out]; rfl, K6⟩
set_option maxHeartbeats 2000000 in
theorem do_k1 (b : List Int) (an vn : Nat) (w : World) (hb : b.length = 19) (hg : goodB b = true) (ha : an < 6) (hv : vn < 10) :
 Calls Tryz.prog 104 #[aggI b, jobV 1 (an : Int) (vn : Int)] w fun e w' => e = .returned (aggI (cntB (b.set (an) (dg (vn : Int))))) ∧ Below w.heap.size w w' := by
 have r0 := World.rangeAt_alloc (World.rangeAt_alloc (range_new w (ints b) 26) (.cells #[.int .i64 1, .int .i64 (an : Int), .int .i64 (vn : Int)] 123)) zB
 have t0 := World.there_alloc (World.there_alloc (there_new w (ints b).toArray 26 (n := 19) (by simp [hb])) (.cells #[.int .i64 1, .int .i64 (an : Int), .int .i64 (vn : Int)] 123)) zB
 have t1 := there_new ((w.alloc (.cells (ints b).toArray 26)).alloc (.cells #[.int .i64 1, .int .i64 (an : Int), .int .i64 (vn : Int)] 123)) _ 26 (n := 19) (show 19 ≤ (zBA : Array Value).size by decide)
 have q0 : (((w.alloc (.cells (ints b).toArray 26)).alloc (.cells #[.int .i64 1, .int .i64 (an : Int), .int .i64 (vn : Int)] 123)).alloc zB).cell? ⟨w.heap.size + 1, 0, none⟩ = some (.int .i64 1) := cell_later (below_one _) (by rw [World.cell?_alloc_at _ _ _ _ (by simp)]; rfl)
 have q1 : (((w.alloc (.cells (ints b).toArray 26)).alloc (.cells #[.int .i64 1, .int .i64 (an : Int), .int .i64 (vn : Int)] 123)).alloc zB).cell? ⟨w.heap.size + 1, 1, none⟩ = some (.int .i64 (an : Int)) := cell_later (below_one _) (by rw [World.cell?_alloc_at _ _ _ _ (by simp)]; rfl)
 have q2 : (((w.alloc (.cells (ints b).toArray 26)).alloc (.cells #[.int .i64 1, .int .i64 (an : Int), .int .i64 (vn : Int)] 123)).alloc zB).cell? ⟨w.heap.size + 1, 2, none⟩ = some (.int .i64 (vn : Int)) := cell_later (below_one _) (by rw [World.cell?_alloc_at _ _ _ _ (by simp)]; rfl)
 have hb0 : Below w.heap.size w (((w.alloc (.cells (ints b).toArray 26)).alloc (.cells #[.int .i64 1, .int .i64 (an : Int), .int .i64 (vn : Int)] 123)).alloc zB) := by (repeat (first | exact Below.refl _ _ | exact (Below.refl _ _).drew | assumption | exact below_one _ | refine Below.chain ?_ (by assumption) | refine Below.drew ?_ | refine Below.alc ?_ _ | refine below_drewN ?_ | (refine Below.setCell ?_ ?_ _) | exact Nat.le_refl _ | (simp; done) | (simp; omega)))
 simp only [World.size_alloc] at t1
 have n0 : (0 : Int) ≤ (an : Int) := by omega
 have n1 : (an : Int) < 6 := by omega
 have gc := inB_true (show inB (bg b 18) 0 1000 = true by unfold goodB at hg; simp only [Bool.and_eq_true] at hg; exact hg.2)
 have bd := goodB_at hg ha
 unfold bF at bd
 simp only at bd
 obtain ⟨⟨d0, d1, d2, d3⟩, d4, d5⟩ := bd
 have hix := fun w => index_dig (vn : Int) (by omega) (by omega) w
 generalize dg (vn : Int) = X1 at *
 unfold aggI jobV
 unfold zBA zB at *
 go_enter Tryz.func104, Tryz.ntmps104
 go_wp2
 generalize World.alloc _ _ = wb at *
 have HR := Lib.hid r0; have HT := Lib.hid t0; have HT1 := Lib.hid t1; have HBW := Lib.hid hb0
 clear r0 t0 t1 hb0
 have GC := Lib.hid gc; clear gc
 go_region_held3 (fun w' => w'.cell? ⟨w.heap.size + 1, 1, none⟩ = some (.int .i64 (an : Int)) ∧ w'.cell? ⟨w.heap.size + 1, 2, none⟩ = some (.int .i64 (vn : Int)))
  (first | (go_split_ands; exact ⟨cell_later ‹_› ‹_›, cell_later ‹_› ‹_›⟩) | (go_split_ands; refine ⟨?_, ?_⟩ <;> (rw [World.cell?_setCell_other _ _ _ _ (by simp)]; assumption)) | go_keep)
  ((go_at_call 112; refine (digitCells_c _).mono ?_; rintro e w' ⟨rfl, hb3⟩; have hB : Below wb.heap.size wb w' := Below.chain (Below.refl _ _).drew hb3; have p0 := cell18 (range_below HR.out hB) (j := an) (by omega); have f0 := there_froz (there_below HT.out hB) (j := an) (by omega)))
 go_split_ands
 have gc := GC.out
 have r0 := range_below HR.out hB
 have t0 := there_below HT.out hB
 have t1 := there_below HT1.out hB
 have hb0 := Below.chain HBW.out hB
 have HH := Lib.hid (show (b.set (an) (X1)).length = 19 by simp [hb])
 have HR3 := Lib.hid (range_set r0 (j := an) (X1) (by omega))
 have HT3 := Lib.hid (there_set t0 w.heap.size (an) (.int .i64 (X1)))
 have HR4 := Lib.hid (there_set t1 w.heap.size (an) (.int .i64 (X1)))
 have HB3 := Lib.hid (Below.setCell hb0 (p := ⟨w.heap.size, an, none⟩) (Nat.le_refl _) (.int .i64 (X1)))
 have HC3 := Lib.hid (show bg (b.set (an) (X1)) 18 = bg b 18 by unfold bg; simp only [List.getD_eq_getElem?_getD]; rw [List.getElem?_set_ne (by omega)])
 clear q0 q1 q2 r0 t0 t1 hb0 p0 f0 hb3
 have A1 : ((w'.setCell ⟨w.heap.size, an, none⟩ (.int .i64 (X1)))).rangeAt w.heap.size 0 (ints (b.set (an) (X1))) := HR3.out
 have A2 : ((w'.setCell ⟨w.heap.size, an, none⟩ (.int .i64 (X1)))).there w.heap.size 0 19 := HT3.out
 have A3 : ((w'.setCell ⟨w.heap.size, an, none⟩ (.int .i64 (X1)))).there (w.heap.size + 1 + 1) 0 19 := HR4.out
 have A4 : Below w.heap.size w ((w'.setCell ⟨w.heap.size, an, none⟩ (.int .i64 (X1)))) := HB3.out
 generalize (w'.setCell ⟨w.heap.size, an, none⟩ (.int .i64 (X1))) = wr at *
 have hl := HH.out
 have gc' : 0 ≤ bg (b.set (an) (X1)) 18 ∧ bg (b.set (an) (X1)) 18 ≤ 1000 := by rw [HC3.out]; exact gc
 clear gc
 obtain ⟨K1, K2, K3, K4, K5, K6⟩ := do_end hl A1 A2 A3 A4 (Nat.le_refl _) (by omega) (by omega)
 clear A1 A2 A3 A4
 generalize hbb : (b.set (an) (X1)) = bb at *
 have HBB := Lib.hid hbb; clear hbb
 go_wp2_with (first | (refine wpList_loadB rfl _ rfl _ rfl _ K3 (cntB_len hl) ?_) | (refine wpList_storeB rfl _ _ rfl _ _ rfl rfl K4 (cntB_len hl) ?_))
 exact bodyPost_ret (v := aggI (cntB bb)) (res_cell Tryz.results104 rfl (loadVarB K5 (cntB_len hl))) rfl ⟨by rw [← HBB.out]; rfl, K6⟩
theorem seenP_18 (t : Bool) (b cur : List Int) (i o : Nat) (ho : o < 6) : bg (seenP t b cur i o) 18 = bg cur 18 := by
 unfold seenP bg
 simp only [List.getD_eq_getElem?_getD]
 rw [List.getElem?_set_ne (by omega), List.getElem?_set_ne (by omega), List.getElem?_set_ne (by omega)]
theorem seenI_18 (t : Bool) (b : List Int) : ∀ n, n ≤ 6 → bg (seenI t b n) 18 = bg b 18
 | 0, _ => rfl
 | n + 1, h => by rw [seenI_succ, seenP_18 _ _ _ _ _ (by omega), seenI_18 t b n (by omega)]
set_option maxHeartbeats 2000000 in
theorem do_k6 (b : List Int) (w : World) (hb : b.length = 19) (hg : goodB b = true) :
 Calls Tryz.prog 104 #[aggI b, jobV 6 0 0] w fun e w' => e = .returned (aggI (cntB (seenI true b 6))) ∧ Below w.heap.size w w' := by
 have r0 := World.rangeAt_alloc (World.rangeAt_alloc (range_new w (ints b) 26) (.cells #[.int .i64 6, .int .i64 0, .int .i64 0] 123)) zB
 have t0 := World.there_alloc (World.there_alloc (there_new w (ints b).toArray 26 (n := 19) (by simp [hb])) (.cells #[.int .i64 6, .int .i64 0, .int .i64 0] 123)) zB
 have t1 := there_new ((w.alloc (.cells (ints b).toArray 26)).alloc (.cells #[.int .i64 6, .int .i64 0, .int .i64 0] 123)) _ 26 (n := 19) (show 19 ≤ (zBA : Array Value).size by decide)
 have q0 : (((w.alloc (.cells (ints b).toArray 26)).alloc (.cells #[.int .i64 6, .int .i64 0, .int .i64 0] 123)).alloc zB).cell? ⟨w.heap.size + 1, 0, none⟩ = some (.int .i64 6) := cell_later (below_one _) (by rw [World.cell?_alloc_at _ _ _ _ (by simp)]; rfl)
 have q1 : (((w.alloc (.cells (ints b).toArray 26)).alloc (.cells #[.int .i64 6, .int .i64 0, .int .i64 0] 123)).alloc zB).cell? ⟨w.heap.size + 1, 1, none⟩ = some (.int .i64 0) := cell_later (below_one _) (by rw [World.cell?_alloc_at _ _ _ _ (by simp)]; rfl)
 have q2 : (((w.alloc (.cells (ints b).toArray 26)).alloc (.cells #[.int .i64 6, .int .i64 0, .int .i64 0] 123)).alloc zB).cell? ⟨w.heap.size + 1, 2, none⟩ = some (.int .i64 0) := cell_later (below_one _) (by rw [World.cell?_alloc_at _ _ _ _ (by simp)]; rfl)
 have hb0 : Below w.heap.size w (((w.alloc (.cells (ints b).toArray 26)).alloc (.cells #[.int .i64 6, .int .i64 0, .int .i64 0] 123)).alloc zB) := by (repeat (first | exact Below.refl _ _ | exact (Below.refl _ _).drew | assumption | exact below_one _ | refine Below.chain ?_ (by assumption) | refine Below.drew ?_ | refine Below.alc ?_ _ | refine below_drewN ?_ | (refine Below.setCell ?_ ?_ _) | exact Nat.le_refl _ | (simp; done) | (simp; omega)))
 simp only [World.size_alloc] at t1
 have gc := inB_true (show inB (bg b 18) 0 1000 = true by unfold goodB at hg; simp only [Bool.and_eq_true] at hg; exact hg.2)
 have hl : (seenI true b 6).length = 19 := by rw [seenI_len, hb]
 have HC3 := Lib.hid (seenI_18 true b 6 (by omega))
 unfold aggI jobV
 unfold zBA zB at *
 go_enter Tryz.func104, Tryz.ntmps104
 go_wp2_with (refine wpList_loadB rfl _ rfl _ rfl b r0 hb ?_)
 refine (seenFromT_c b _ hb hg).mono ?_
 rintro e w1 ⟨rfl, hb1⟩
 have x1 := there_below t0 hb1
 have x2 := there_below t1 hb1
 have x3 := Below.chain hb0 hb1
 have A1 := World.rangeAt_setCells_same w1 w.heap.size 0 (ints (seenI true b 6)) (by simpa [hl] using x1)
 have A2 := World.there_setCells x1 w.heap.size 0 (ints (seenI true b 6))
 have A3 := World.there_setCells x2 w.heap.size 0 (ints (seenI true b 6))
 have A4 := below_cells (ints (seenI true b 6)) w1 w.heap.size 0 x3 (Nat.le_refl _)
 have gc' : 0 ≤ bg (seenI true b 6) 18 ∧ bg (seenI true b 6) 18 ≤ 1000 := by rw [HC3.out]; exact gc
 clear gc
 obtain ⟨K1, K2, K3, K4, K5, K6⟩ := do_end hl A1 A2 A3 A4 (Nat.le_refl _) (by omega) (by omega)
 clear A1 A2 A3 A4 r0 t0 t1 hb0 hb1 x2 x3 q0 q1 q2
 generalize hbb : (seenI true b 6) = bb at *
 have HBB := Lib.hid hbb; clear hbb
 go_wp2_with (first | (refine wpList_storeB rfl _ _ rfl _ _ rfl rfl x1 hl ?_) | (refine wpList_loadB rfl _ rfl _ rfl _ K3 (cntB_len hl) ?_) | (refine wpList_storeB rfl _ _ rfl _ _ rfl rfl K4 (cntB_len hl) ?_))
 exact bodyPost_ret (v := aggI (cntB bb)) (res_cell Tryz.results104 rfl (loadVarB K5 (cntB_len hl))) rfl ⟨by rw [← HBB.out]; rfl, K6⟩
set_option maxHeartbeats 2000000 in
theorem do_k7 (b : List Int) (w : World) (hb : b.length = 19) (hg : goodB b = true) :
 Calls Tryz.prog 104 #[aggI b, jobV 7 0 0] w fun e w' => e = .returned (aggI (cntB (seenI false b 6))) ∧ Below w.heap.size w w' := by
 have r0 := World.rangeAt_alloc (World.rangeAt_alloc (range_new w (ints b) 26) (.cells #[.int .i64 7, .int .i64 0, .int .i64 0] 123)) zB
 have t0 := World.there_alloc (World.there_alloc (there_new w (ints b).toArray 26 (n := 19) (by simp [hb])) (.cells #[.int .i64 7, .int .i64 0, .int .i64 0] 123)) zB
 have t1 := there_new ((w.alloc (.cells (ints b).toArray 26)).alloc (.cells #[.int .i64 7, .int .i64 0, .int .i64 0] 123)) _ 26 (n := 19) (show 19 ≤ (zBA : Array Value).size by decide)
 have q0 : (((w.alloc (.cells (ints b).toArray 26)).alloc (.cells #[.int .i64 7, .int .i64 0, .int .i64 0] 123)).alloc zB).cell? ⟨w.heap.size + 1, 0, none⟩ = some (.int .i64 7) := cell_later (below_one _) (by rw [World.cell?_alloc_at _ _ _ _ (by simp)]; rfl)
 have q1 : (((w.alloc (.cells (ints b).toArray 26)).alloc (.cells #[.int .i64 7, .int .i64 0, .int .i64 0] 123)).alloc zB).cell? ⟨w.heap.size + 1, 1, none⟩ = some (.int .i64 0) := cell_later (below_one _) (by rw [World.cell?_alloc_at _ _ _ _ (by simp)]; rfl)
 have q2 : (((w.alloc (.cells (ints b).toArray 26)).alloc (.cells #[.int .i64 7, .int .i64 0, .int .i64 0] 123)).alloc zB).cell? ⟨w.heap.size + 1, 2, none⟩ = some (.int .i64 0) := cell_later (below_one _) (by rw [World.cell?_alloc_at _ _ _ _ (by simp)]; rfl)
 have hb0 : Below w.heap.size w (((w.alloc (.cells (ints b).toArray 26)).alloc (.cells #[.int .i64 7, .int .i64 0, .int .i64 0] 123)).alloc zB) := by (repeat (first | exact Below.refl _ _ | exact (Below.refl _ _).drew | assumption | exact below_one _ | refine Below.chain ?_ (by assumption) | refine Below.drew ?_ | refine Below.alc ?_ _ | refine below_drewN ?_ | (refine Below.setCell ?_ ?_ _) | exact Nat.le_refl _ | (simp; done) | (simp; omega)))
 simp only [World.size_alloc] at t1
 have gc := inB_true (show inB (bg b 18) 0 1000 = true by unfold goodB at hg; simp only [Bool.and_eq_true] at hg; exact hg.2)
 have hl : (seenI false b 6).length = 19 := by rw [seenI_len, hb]
 have HC3 := Lib.hid (seenI_18 false b 6 (by omega))
 unfold aggI jobV
 unfold zBA zB at *
 go_enter Tryz.func104, Tryz.ntmps104
 go_wp2_with (refine wpList_loadB rfl _ rfl _ rfl b r0 hb ?_)
 refine (seenFromM_c b _ hb hg).mono ?_
 rintro e w1 ⟨rfl, hb1⟩
 have x1 := there_below t0 hb1
 have x2 := there_below t1 hb1
 have x3 := Below.chain hb0 hb1
 have A1 := World.rangeAt_setCells_same w1 w.heap.size 0 (ints (seenI false b 6)) (by simpa [hl] using x1)
 have A2 := World.there_setCells x1 w.heap.size 0 (ints (seenI false b 6))
 have A3 := World.there_setCells x2 w.heap.size 0 (ints (seenI false b 6))
 have A4 := below_cells (ints (seenI false b 6)) w1 w.heap.size 0 x3 (Nat.le_refl _)
 have gc' : 0 ≤ bg (seenI false b 6) 18 ∧ bg (seenI false b 6) 18 ≤ 1000 := by rw [HC3.out]; exact gc
 clear gc
 obtain ⟨K1, K2, K3, K4, K5, K6⟩ := do_end hl A1 A2 A3 A4 (Nat.le_refl _) (by omega) (by omega)
 clear A1 A2 A3 A4 r0 t0 t1 hb0 hb1 x2 x3 q0 q1 q2
 generalize hbb : (seenI false b 6) = bb at *
 have HBB := Lib.hid hbb; clear hbb
 go_wp2_with (first | (refine wpList_storeB rfl _ _ rfl _ _ rfl rfl x1 hl ?_) | (refine wpList_loadB rfl _ rfl _ rfl _ K3 (cntB_len hl) ?_) | (refine wpList_storeB rfl _ _ rfl _ _ rfl rfl K4 (cntB_len hl) ?_))
 exact bodyPost_ret (v := aggI (cntB bb)) (res_cell Tryz.results104 rfl (loadVarB K5 (cntB_len hl))) rfl ⟨by rw [← HBB.out]; rfl, K6⟩
end Go.Proofs.YtohgjfdbnkjefaaGreatDoor
namespace Go.Proofs.YtohgjfdbnkjefaaGreatDoor
open Go.RowKit
set_option linter.unusedVariables false
set_option maxRecDepth 100000
def barB (c v : Int) : Bool := c.toNat / 2 ^ v.toNat % 2 == 1
def makeK (b : List Int) (k : Int) (a : Nat) (v : Int) : Bool :=
 if k = 1 then digitB v else if k = 2 then (v == 0) else if k = 3 then (inB v 0 6 && !barB (bg b (6 + a)) v) else if k = 4 then (inB v 0 6 && !barB (bg b (12 + a)) v)
 else if k = 5 then ((v == 0) && !((bg b (6 + a) == 0) && (bg b (12 + a) == 0))) else if k = 6 ∨ k = 7 then ((a == 0) && (v == 0)) else false
def makeB (b : List Int) (k a v : Int) : Bool := inB a 0 5 && makeK b k a.toNat v
def possB (b : List Int) (k a v : Int) : Bool := !(bg b 18 == 1000) && makeB b k a v
def madeB (b : List Int) (k : Int) (a : Nat) (v : Int) : List Int :=
 if k = 1 then b.set a (dg v) else if k = 2 then b.set a 0 else if k = 3 then (b.set (6 + a) (orC (bg b (6 + a)) (bitC v))).set (12 + a) (anC (bg b (12 + a)) (bitC v))
 else if k = 4 then (b.set (6 + a) (anC (bg b (6 + a)) (bitC v))).set (12 + a) (orC (bg b (12 + a)) (bitC v)) else if k = 5 then (b.set (6 + a) 0).set (12 + a) 0
 else if k = 6 then seenI true b 6 else if k = 7 then seenI false b 6 else b
def doB (b : List Int) (k a v : Int) : List Int := cntB (madeB b k a.toNat v)
theorem bar_i64 (d v : Nat) (hd : d < 128) : bits BinOp.and IntKind.i64 ((d : Int) / 2 ^ v) 1 = ((d / 2 ^ v % 2 : Nat) : Int) := by
 have h := Nat.div_le_self d (2 ^ v)
 have e : ((d : Int) / 2 ^ v) = ((d / 2 ^ v : Nat) : Int) := by simp
 rw [e, show (1 : Int) = ((1 : Nat) : Int) from rfl, i64_and_nat _ _ (by omega) (by omega), Nat.and_one_is_mod]
theorem bar_eq (d v : Nat) : ((d : Int) / 2 ^ v % 2 == 0) = (true && !barB (d : Int) (v : Int)) := by
 unfold barB
 have e : (d : Int) / 2 ^ v % 2 = ((d / 2 ^ v % 2 : Nat) : Int) := by simp
 rw [e, Int.toNat_natCast, Int.toNat_natCast]
 have : d / 2 ^ v % 2 = 0 ∨ d / 2 ^ v % 2 = 1 := by omega
 rcases this with h | h <;> rw [h] <;> rfl
theorem within_f {n lo hi : Int} (h : inB n lo hi = false) (w : World) : Calls Tryz.prog 94 #[.int .i64 n, .int .i64 lo, .int .i64 hi] w fun e w' => e = .returned (.bool false) ∧ w' = w := (within_c n lo hi w).mono fun e w1 hh => ⟨by rw [hh.1, h], hh.2.symm⟩
theorem within_t {n lo hi : Int} (h : inB n lo hi = true) (w : World) : Calls Tryz.prog 94 #[.int .i64 n, .int .i64 lo, .int .i64 hi] w fun e w' => e = .returned (.bool true) ∧ w' = w := (within_c n lo hi w).mono fun e w1 hh => ⟨by rw [hh.1, h], hh.2.symm⟩
set_option maxHeartbeats 1000000 in
theorem isPossible_c (b : List Int) (k a v : Int) (w : World) (hb : b.length = 19) (hg : goodB b = true) :
 Calls Tryz.prog 103 #[aggI b, jobV k a v] w fun e w' => e = .returned (.bool (possB b k a v)) ∧ Below w.heap.size w w' := by
 have r0 := World.rangeAt_alloc (range_new w (ints b) 26) (.cells #[.int .i64 k, .int .i64 a, .int .i64 v] 123)
 have g18 := cell18 r0 (j := 18) (by omega)
 have hb0 : Below w.heap.size w ((w.alloc (.cells (ints b).toArray 26)).alloc (.cells #[.int .i64 k, .int .i64 a, .int .i64 v] 123)) := by (repeat (first | exact Below.refl _ _ | exact (Below.refl _ _).drew | assumption | exact below_one _ | refine Below.chain ?_ (by assumption) | refine Below.drew ?_ | refine Below.alc ?_ _ | refine below_drewN ?_ | (refine Below.setCell ?_ ?_ _) | exact Nat.le_refl _ | (simp; done) | (simp; omega)))
 rcases h18 : (bg b 18 == 1000) with _ | _
 · rcases ha : inB a 0 5 with _ | _
   · have HF := Lib.hid (show possB b k a v = false by unfold possB makeB; rw [ha]; simp)
     have HA := Lib.hid ha; clear ha
     unfold aggI jobV
     go_enter Tryz.func103, Tryz.ntmps103
     go_wp2_with fail
     refine (within_c _ _ _ _).mono ?_
     rintro e w1 ⟨rfl, rfl⟩
     rw [HA.out]
     go_wp2
     go_ret
     exact ⟨by rw [HF.out]; rfl, hb0⟩
   · have h2 := inB_true ha
     obtain ⟨an, rfl⟩ := Int.eq_ofNat_of_zero_le h2.1
     have han : an < 6 := by omega
     have bd := goodB_at hg han
     unfold bF at bd
     simp only at bd
     obtain ⟨⟨d0, d1, d2, d3⟩, d4, d5⟩ := bd
     have HP : Hid (possB b k (an : Int) v = makeK b k an v) := by
      show _ = _
      unfold possB makeB; rw [h18, ha]; rfl
     have HA := Lib.hid ha; clear ha h2
     have n0 : (0 : Int) ≤ (an : Int) := by omega
     have n1 : (an : Int) < 6 := by omega
     have g6 := cell18 r0 (j := 6 + an) (by omega)
     have g12 := cell18 r0 (j := 12 + an) (by omega)
     unfold aggI jobV
     by_cases k1 : k = 1
     · subst k1
       have HF := Lib.hid (show possB b 1 (an : Int) v = digitB v by rw [HP.out]; rfl)
       clear HP g6 g12
       go_enter Tryz.func103, Tryz.ntmps103
       go_wp2_with fail
       refine (within_c _ _ _ _).mono ?_
       rintro e w1 ⟨rfl, rfl⟩
       rw [HA.out]
       go_wp2_with fail
       refine (isDigit_c _ _).mono ?_
       rintro e w1 ⟨rfl, rfl⟩
       go_wp2
       go_ret
       exact ⟨by rw [HF.out]; rfl, hb0⟩
     by_cases k2 : k = 2
     · subst k2
       have HF := Lib.hid (show possB b 2 (an : Int) v = (v == 0) by rw [HP.out]; rfl)
       clear HP g6 g12
       go_enter Tryz.func103, Tryz.ntmps103
       go_wp2_with fail
       refine (within_c _ _ _ _).mono ?_
       rintro e w1 ⟨rfl, rfl⟩
       rw [HA.out]
       go_wp2
       go_ret
       exact ⟨by rw [HF.out]; rfl, hb0⟩
     by_cases k3 : k = 3
     · subst k3
       have HF := Lib.hid (show possB b 3 (an : Int) v = (inB v 0 6 && !barB (bg b (6 + an)) v) by rw [HP.out]; rfl)
       clear HP
       rcases hv : inB v 0 6 with _ | _
       · have HF2 := Lib.hid (show possB b 3 (an : Int) v = false by rw [HF.out, hv]; rfl)
         have HV := Lib.hid hv; clear hv HF
         go_enter Tryz.func103, Tryz.ntmps103
         go_wp2_with fail
         refine (within_c _ _ _ _).mono ?_
         rintro e w1 ⟨rfl, rfl⟩
         rw [HA.out]
         go_wp2
         go_quiet ((go_at_call 94; exact Calls.quiet_of_same (within_f HV.out _)))
         go_wp2
         go_ret
         exact ⟨by rw [HF2.out]; rfl, below_drewN hb0⟩
       · have h2 := inB_true hv
         obtain ⟨vn, rfl⟩ := Int.eq_ofNat_of_zero_le h2.1
         generalize hD : bg b (6 + an) = D at *
         obtain ⟨dn, rfl⟩ := Int.eq_ofNat_of_zero_le (show 0 ≤ D by omega)
         have hbit := bar_i64 dn vn (by omega)
         have HV := Lib.hid hv; clear hv hD
         go_enter Tryz.func103, Tryz.ntmps103
         go_wp2_with fail
         refine (within_c _ _ _ _).mono ?_
         rintro e w1 ⟨rfl, rfl⟩
         rw [HA.out]
         go_wp2
         go_quiet ((go_at_call 94; exact Calls.quiet_of_same (within_t HV.out _)))
         go_wp2
         go_ret
         exact ⟨bool_ret (by rw [HF.out, HV.out]; exact bar_eq dn vn), below_drewN hb0⟩
     by_cases k4 : k = 4
     · subst k4
       have HF := Lib.hid (show possB b 4 (an : Int) v = (inB v 0 6 && !barB (bg b (12 + an)) v) by rw [HP.out]; rfl)
       clear HP
       rcases hv : inB v 0 6 with _ | _
       · have HF2 := Lib.hid (show possB b 4 (an : Int) v = false by rw [HF.out, hv]; rfl)
         have HV := Lib.hid hv; clear hv HF
         go_enter Tryz.func103, Tryz.ntmps103
         go_wp2_with fail
         refine (within_c _ _ _ _).mono ?_
         rintro e w1 ⟨rfl, rfl⟩
         rw [HA.out]
         go_wp2
         go_quiet ((go_at_call 94; exact Calls.quiet_of_same (within_f HV.out _)))
         go_wp2
         go_ret
         exact ⟨by rw [HF2.out]; rfl, below_drewN hb0⟩
       · have h2 := inB_true hv
         obtain ⟨vn, rfl⟩ := Int.eq_ofNat_of_zero_le h2.1
         generalize hD : bg b (12 + an) = D at *
         obtain ⟨dn, rfl⟩ := Int.eq_ofNat_of_zero_le (show 0 ≤ D by omega)
         have hbit := bar_i64 dn vn (by omega)
         have HV := Lib.hid hv; clear hv hD
         go_enter Tryz.func103, Tryz.ntmps103
         go_wp2_with fail
         refine (within_c _ _ _ _).mono ?_
         rintro e w1 ⟨rfl, rfl⟩
         rw [HA.out]
         go_wp2
         go_quiet ((go_at_call 94; exact Calls.quiet_of_same (within_t HV.out _)))
         go_wp2
         go_ret
         exact ⟨bool_ret (by rw [HF.out, HV.out]; exact bar_eq dn vn), below_drewN hb0⟩
     by_cases k5 : k = 5
     · subst k5
       have HF := Lib.hid (show possB b 5 (an : Int) v = ((v == 0) && !((bg b (6 + an) == 0) && (bg b (12 + an) == 0))) by rw [HP.out]; rfl)
       clear HP g6 g12
       rcases hv : (v == 0) with _ | _
       · have HF2 := Lib.hid (show possB b 5 (an : Int) v = false by rw [HF.out, hv]; rfl)
         clear HF
         go_enter Tryz.func103, Tryz.ntmps103
         go_wp2_with fail
         refine (within_c _ _ _ _).mono ?_
         rintro e w1 ⟨rfl, rfl⟩
         rw [HA.out]
         go_wp2
         go_ret
         exact ⟨by rw [HF2.out]; rfl, hb0⟩
       · obtain rfl : v = 0 := by simpa using hv
         go_enter Tryz.func103, Tryz.ntmps103
         go_wp2_with fail
         refine (within_c _ _ _ _).mono ?_
         rintro e w1 ⟨rfl, rfl⟩
         rw [HA.out]
         go_wp2_with (refine wpList_loadB rfl _ rfl _ rfl b r0 hb ?_)
         refine (bfault_c b an _ hb han).mono ?_
         rintro e w2 ⟨rfl, hb2⟩
         have hb3 := Below.chain hb0 hb2
         unfold bF
         go_wp2
         all_goals
          go_ret
          exact ⟨by rw [HF.out]; simp [*], hb3⟩
     by_cases k6 : k = 6
     · subst k6
       have HF := Lib.hid (show possB b 6 (an : Int) v = ((an == 0) && (v == 0)) by rw [HP.out]; rfl)
       clear HP g6 g12
       go_enter Tryz.func103, Tryz.ntmps103
       go_wp2_with fail
       refine (within_c _ _ _ _).mono ?_
       rintro e w1 ⟨rfl, rfl⟩
       rw [HA.out]
       go_wp2
       all_goals
        go_ret
        exact ⟨bool_ret (by rw [HF.out]; first | (simp [*]; done) | (have := ‹¬ _›; simp; omega)), by (repeat (first | exact Below.refl _ _ | exact (Below.refl _ _).drew | assumption | exact below_one _ | refine Below.chain ?_ (by assumption) | refine Below.drew ?_ | refine Below.alc ?_ _ | refine below_drewN ?_ | (refine Below.setCell ?_ ?_ _) | exact Nat.le_refl _ | (simp; done) | (simp; omega)))⟩
     by_cases k7 : k = 7
     · subst k7
       have HF := Lib.hid (show possB b 7 (an : Int) v = ((an == 0) && (v == 0)) by rw [HP.out]; rfl)
       clear HP g6 g12
       go_enter Tryz.func103, Tryz.ntmps103
       go_wp2_with fail
       refine (within_c _ _ _ _).mono ?_
       rintro e w1 ⟨rfl, rfl⟩
       rw [HA.out]
       go_wp2
       all_goals
        go_ret
        exact ⟨bool_ret (by rw [HF.out]; first | (simp [*]; done) | (have := ‹¬ _›; simp; omega)), by (repeat (first | exact Below.refl _ _ | exact (Below.refl _ _).drew | assumption | exact below_one _ | refine Below.chain ?_ (by assumption) | refine Below.drew ?_ | refine Below.alc ?_ _ | refine below_drewN ?_ | (refine Below.setCell ?_ ?_ _) | exact Nat.le_refl _ | (simp; done) | (simp; omega)))⟩
     have HF := Lib.hid (show possB b k (an : Int) v = false by rw [HP.out]; unfold makeK; simp [k1, k2, k3, k4, k5, k6, k7])
     clear HP g6 g12
     go_enter Tryz.func103, Tryz.ntmps103
     go_wp2_with fail
     refine (within_c _ _ _ _).mono ?_
     rintro e w1 ⟨rfl, rfl⟩
     rw [HA.out]
     go_wp2
     go_ret
     exact ⟨by rw [HF.out]; rfl, hb0⟩
 · have HF := Lib.hid (show possB b k a v = false by unfold possB; rw [h18]; rfl)
   unfold aggI jobV
   go_enter Tryz.func103, Tryz.ntmps103
   go_wp2
   go_ret
   exact ⟨by rw [HF.out]; rfl, hb0⟩
theorem do_c (b : List Int) (k a v : Int) (w : World) (hb : b.length = 19) (hg : goodB b = true) (hp : makeB b k a v = true) :
 Calls Tryz.prog 104 #[aggI b, jobV k a v] w fun e w' => e = .returned (aggI (doB b k a v)) ∧ Below w.heap.size w w' := by
 unfold makeB at hp
 simp only [Bool.and_eq_true] at hp
 have h2 := inB_true hp.1
 obtain ⟨an, rfl⟩ := Int.eq_ofNat_of_zero_le h2.1
 have han : an < 6 := by omega
 have hk := hp.2
 rw [Int.toNat_natCast] at hk
 unfold makeK at hk
 unfold doB madeB
 rw [Int.toNat_natCast]
 split at hk
 · subst_vars
   have h3 := digitB_true hk
   obtain ⟨vn, rfl⟩ := Int.eq_ofNat_of_zero_le h3.1
   exact do_k1 b an vn w hb hg han (by omega)
 split at hk
 · subst_vars
   obtain rfl : v = 0 := by simpa using hk
   exact do_k2 b an w hb hg han
 split at hk
 · subst_vars
   simp only [Bool.and_eq_true] at hk
   have h3 := inB_true hk.1
   obtain ⟨vn, rfl⟩ := Int.eq_ofNat_of_zero_le h3.1
   exact do_k3 b an vn w hb hg han (by omega)
 split at hk
 · subst_vars
   simp only [Bool.and_eq_true] at hk
   have h3 := inB_true hk.1
   obtain ⟨vn, rfl⟩ := Int.eq_ofNat_of_zero_le h3.1
   exact do_k4 b an vn w hb hg han (by omega)
 split at hk
 · subst_vars
   simp only [Bool.and_eq_true] at hk
   obtain rfl : v = 0 := by simpa using hk.1
   exact do_k5 b an w hb hg han
 split at hk
 · rename_i h67
   simp only [Bool.and_eq_true] at hk
   obtain rfl : v = 0 := by simpa using hk.2
   obtain rfl : an = 0 := by simpa using hk.1
   rcases h67 with rfl | rfl
   · exact do_k6 b w hb hg
   · exact do_k7 b w hb hg
 · cases hk
end Go.Proofs.YtohgjfdbnkjefaaGreatDoor
