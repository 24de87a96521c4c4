/- Texts of this claim, gathered: Job3. -/
import Derived.Test.YtfbnmkpkihfocaaK5
import Derived.RegionTactic
import Derived.Deep.RegionHeld3
import Derived.Deep.DrawnRows
import Derived.Deep.DeepCutAuto
import Derived.Tactics
import Derived.Tactics2
import Derived.BigRegion
namespace Go.Proofs.Ytfbnmkpkihfocaa
open Go.RowKit
set_option linter.unusedVariables false
set_option maxRecDepth 100000
attribute [local go_sem ↓] Go.wp_at_zero Go.wp_at_succ
def jobV (k a b : Int) : Value := .agg #[.int .i64 k, .int .i64 a, .int .i64 b]
def orC (x y : Int) : Int := ((x.toNat ||| y.toNat : Nat) : Int)
def anC (x y : Int) : Int := ((x.toNat &&& (127 - y.toNat) : Nat) : Int)
def bitC (v : Int) : Int := ((2 ^ v.toNat : Nat) : Int)
/-- one Job more -/
def cntB (b : List Int) : List Int := b.set 18 (bg b 18 + 1)
theorem bitC_all : ∀ n : Fin 10, bitC (n.1 : Int) ≤ 512 ∧ 1 ≤ bitC (n.1 : Int) ∧ wrap64 ((2 : Int) ^ n.1) = bitC (n.1 : Int) := by decide +kernel
theorem bitC_f {n : Nat} (h : n < 10) : 1 ≤ bitC n ∧ bitC n ≤ 512 ∧ wrap64 ((2 : Int) ^ n) = bitC n := ⟨(bitC_all ⟨n, h⟩).2.1, (bitC_all ⟨n, h⟩).1, (bitC_all ⟨n, h⟩).2.2⟩
theorem bitC_64 : ∀ n : Fin 7, bitC (n.1 : Int) ≤ 64 := by decide +kernel
theorem orC_i64 {x y : Int} (x0 : 0 ≤ x) (x1 : x ≤ 127) (y0 : 0 ≤ y) (y1 : y ≤ 127) : bits .or .i64 x y = orC x y := by
  obtain ⟨x, rfl⟩ := Int.eq_ofNat_of_zero_le x0
  obtain ⟨y, rfl⟩ := Int.eq_ofNat_of_zero_le y0
  exact i64_or_nat _ _ (by omega) (by omega)
theorem anC_i64 {x y : Int} (x0 : 0 ≤ x) (x1 : x ≤ 127) (y0 : 0 ≤ y) (y1 : y ≤ 127) : bits .andNot .i64 x y = anC x y := by
  obtain ⟨x, rfl⟩ := Int.eq_ofNat_of_zero_le x0
  obtain ⟨y, rfl⟩ := Int.eq_ofNat_of_zero_le y0
  exact i64_andNot_nat _ _ (by omega) (by omega)
/-- what a walk of a Bench's own copy ends with: the count goes up, the copy is handed back -/
theorem do_end {w wr : World} {b : List Int} {B R : Nat} (hl : b.length = 19) (hr : wr.rangeAt B 0 (ints b)) (hB : wr.there B 0 19) (hR : wr.there R 0 19) (hb : Below w.heap.size w wr) (hBw : w.heap.size ≤ B) (hRw : w.heap.size ≤ R) (hne : B ≠ R) :
    wr.cell? ⟨B, 18, none⟩ = some (.int .i64 (bg b 18)) ∧ wr.frozen? ⟨B, 18, none⟩ = false ∧ (wr.setCell ⟨B, 18, none⟩ (.int .i64 (bg b 18 + 1))).rangeAt B 0 (ints (cntB b)) ∧ (wr.setCell ⟨B, 18, none⟩ (.int .i64 (bg b 18 + 1))).there R 0 19 ∧
      ((wr.setCell ⟨B, 18, none⟩ (.int .i64 (bg b 18 + 1))).setCells R 0 (ints (cntB b))).rangeAt R 0 (ints (cntB b)) ∧ Below w.heap.size w ((wr.setCell ⟨B, 18, none⟩ (.int .i64 (bg b 18 + 1))).setCells R 0 (ints (cntB b))) := by
  have h1 := there_set hR B 18 (.int .i64 (bg b 18 + 1))
  refine ⟨cell18 hr (by omega), there_froz hB (by omega), range_set hr _ (by omega), h1, World.rangeAt_setCells_same _ _ _ _ (by simpa [cntB, hl] using h1), below_cells _ _ _ _ (hb.setCell (p := ⟨B, 18, none⟩) hBw _) hRw⟩
theorem cntB_len {b : List Int} (h : b.length = 19) : (cntB b).length = 19 := by simp [cntB, h]
set_option maxHeartbeats 2000000 in
theorem do_k3 (b : List Int) (an vn : Nat) (w : World) (hb : b.length = 19) (hg : goodB b = true) (ha : an < 6) (hv : vn < 7) :
    Calls Try.prog 77 #[aggI b, jobV 3 (an : Int) (vn : Int)] w fun e w' => e = .returned (aggI (cntB ((b.set (6 + an) (orC (bg b (6 + an)) (bitC (vn : Int)))).set (12 + an) (anC (bg b (12 + an)) (bitC (vn : Int)))))) ∧ Below w.heap.size w w' := by
  have r0 := World.rangeAt_alloc (World.rangeAt_alloc (range_new w (ints b) 50) (.cells #[.int .i64 3, .int .i64 (an : Int), .int .i64 (vn : Int)] 54)) zB
  have t0 := World.there_alloc (World.there_alloc (there_new w (ints b).toArray 50 (n := 19) (by simp [hb])) (.cells #[.int .i64 3, .int .i64 (an : Int), .int .i64 (vn : Int)] 54)) zB
  have t1 := there_new ((w.alloc (.cells (ints b).toArray 50)).alloc (.cells #[.int .i64 3, .int .i64 (an : Int), .int .i64 (vn : Int)] 54)) _ 50 (n := 19) (show 19 ≤ (zBA : Array Value).size by decide)
  have q0 : (((w.alloc (.cells (ints b).toArray 50)).alloc (.cells #[.int .i64 3, .int .i64 (an : Int), .int .i64 (vn : Int)] 54)).alloc zB).cell? ⟨w.heap.size + 1, 0, none⟩ = some (.int .i64 3) := cell_later (below_one _) (by rw [World.cell?_alloc_at _ _ _ _ (by simp)]; rfl)
  have q1 : (((w.alloc (.cells (ints b).toArray 50)).alloc (.cells #[.int .i64 3, .int .i64 (an : Int), .int .i64 (vn : Int)] 54)).alloc zB).cell? ⟨w.heap.size + 1, 1, none⟩ = some (.int .i64 (an : Int)) := cell_later (below_one _) (by rw [World.cell?_alloc_at _ _ _ _ (by simp)]; rfl)
  have q2 : (((w.alloc (.cells (ints b).toArray 50)).alloc (.cells #[.int .i64 3, .int .i64 (an : Int), .int .i64 (vn : Int)] 54)).alloc zB).cell? ⟨w.heap.size + 1, 2, none⟩ = some (.int .i64 (vn : Int)) := cell_later (below_one _) (by rw [World.cell?_alloc_at _ _ _ _ (by simp)]; rfl)
  have hb0 : Below w.heap.size w (((w.alloc (.cells (ints b).toArray 50)).alloc (.cells #[.int .i64 3, .int .i64 (an : Int), .int .i64 (vn : Int)] 54)).alloc zB) := by (repeat (first | exact Below.refl _ _ | exact (Below.refl _ _).drew | assumption | exact below_one _ | refine Below.chain ?_ (by assumption) | refine Below.drew ?_ | refine Below.alc ?_ _ | refine below_drewN ?_ | (refine Below.setCell ?_ ?_ _) | exact Nat.le_refl _ | (simp; done) | (simp; omega)))
  simp only [World.size_alloc] at t1
  have n0 : (0 : Int) ≤ (an : Int) := by omega
  have n1 : (an : Int) < 6 := by omega
  have gc := inB_true (show inB (bg b 18) 0 1000 = true by unfold goodB at hg; simp only [Bool.and_eq_true] at hg; exact hg.2)
  have bd := goodB_at hg ha
  unfold bF at bd
  simp only at bd
  obtain ⟨⟨d0, d1, d2, d3⟩, d4, d5⟩ := bd
  obtain ⟨v1, _, vw⟩ := bitC_f (n := vn) (by omega)
  have v2 := bitC_64 ⟨vn, hv⟩
  simp only at v2
  have HX := orC_i64 d0 d1 (show 0 ≤ bitC (vn : Int) by omega) (show bitC (vn : Int) ≤ 127 by omega)
  have HY := anC_i64 d2 d3 (show 0 ≤ bitC (vn : Int) by omega) (show bitC (vn : Int) ≤ 127 by omega)
  generalize orC (bg b (6 + an)) (bitC (vn : Int)) = X1 at *
  generalize anC (bg b (12 + an)) (bitC (vn : Int)) = X2 at *
  generalize bitC (vn : Int) = V at *
  unfold aggI jobV
  unfold zBA zB at *
  go_enter Try.func77, Try.ntmps77
  go_wp2
  generalize World.alloc _ _ = wb at *
  have g1 := cell18 r0 (j := 6 + an) (by omega)
  have g2 := cell18 r0 (j := 12 + an) (by omega)
  have f1 := there_froz t0 (j := 6 + an) (by omega)
  have f2 := there_froz t0 (j := 12 + an) (by omega)
  have HH := Lib.hid (show ((b.set (6 + an) (X1)).set (12 + an) (X2)).length = 19 by simp [hb])
  have HR3 := Lib.hid (range_set (range_set r0 (j := 6 + an) (X1) (by omega)) (j := 12 + an) (X2) (by simp; omega))
  have HT3 := Lib.hid (there_set (there_set t0 w.heap.size (6 + an) (.int .i64 (X1))) w.heap.size (12 + an) (.int .i64 (X2)))
  have HR4 := Lib.hid (there_set (there_set t1 w.heap.size (6 + an) (.int .i64 (X1))) w.heap.size (12 + an) (.int .i64 (X2)))
  have HB3 := Lib.hid (Below.setCell (Below.setCell hb0 (p := ⟨w.heap.size, 6 + an, none⟩) (Nat.le_refl _) (.int .i64 (X1))) (p := ⟨w.heap.size, 12 + an, none⟩) (Nat.le_refl _) (.int .i64 (X2)))
  have HC3 := Lib.hid (show bg ((b.set (6 + an) (X1)).set (12 + an) (X2)) 18 = bg b 18 by unfold bg; simp only [List.getD_eq_getElem?_getD]; rw [List.getElem?_set_ne (by omega), List.getElem?_set_ne (by omega)])
  go_region
  clear q0 q1 q2 r0 t0 t1 hb0
  have A1 : (((wb.setCell ⟨w.heap.size, 6 + an, none⟩ (.int .i64 (X1))).setCell ⟨w.heap.size, 12 + an, none⟩ (.int .i64 (X2))).drew).rangeAt w.heap.size 0 (ints ((b.set (6 + an) (X1)).set (12 + an) (X2))) := HR3.out
  have A2 : (((wb.setCell ⟨w.heap.size, 6 + an, none⟩ (.int .i64 (X1))).setCell ⟨w.heap.size, 12 + an, none⟩ (.int .i64 (X2))).drew).there w.heap.size 0 19 := HT3.out
  have A3 : (((wb.setCell ⟨w.heap.size, 6 + an, none⟩ (.int .i64 (X1))).setCell ⟨w.heap.size, 12 + an, none⟩ (.int .i64 (X2))).drew).there (w.heap.size + 1 + 1) 0 19 := HR4.out
  have A4 : Below w.heap.size w (((wb.setCell ⟨w.heap.size, 6 + an, none⟩ (.int .i64 (X1))).setCell ⟨w.heap.size, 12 + an, none⟩ (.int .i64 (X2))).drew) := (HB3.out).drew
  generalize ((wb.setCell ⟨w.heap.size, 6 + an, none⟩ (.int .i64 (X1))).setCell ⟨w.heap.size, 12 + an, none⟩ (.int .i64 (X2))).drew = wr at *
  have hl := HH.out
  have gc' : 0 ≤ bg ((b.set (6 + an) (X1)).set (12 + an) (X2)) 18 ∧ bg ((b.set (6 + an) (X1)).set (12 + an) (X2)) 18 ≤ 1000 := by rw [HC3.out]; exact gc
  clear gc
  obtain ⟨K1, K2, K3, K4, K5, K6⟩ := do_end hl A1 A2 A3 A4 (Nat.le_refl _) (by omega) (by omega)
  clear A1 A2 A3 A4
  generalize hbb : ((b.set (6 + an) (X1)).set (12 + an) (X2)) = bb at *
  have HBB := Lib.hid hbb; clear hbb
  go_wp2_with (first | (refine wpList_loadB rfl _ rfl _ rfl _ K3 (cntB_len hl) ?_) | (refine wpList_storeB rfl _ _ rfl _ _ rfl rfl K4 (cntB_len hl) ?_))
  exact bodyPost_ret (v := aggI (cntB bb)) (res_cell Try.results77 rfl (loadVarB K5 (cntB_len hl))) rfl ⟨by rw [← HBB.out]; rfl, K6⟩
set_option maxHeartbeats 2000000 in
theorem do_k4 (b : List Int) (an vn : Nat) (w : World) (hb : b.length = 19) (hg : goodB b = true) (ha : an < 6) (hv : vn < 7) :
    Calls Try.prog 77 #[aggI b, jobV 4 (an : Int) (vn : Int)] w fun e w' => e = .returned (aggI (cntB ((b.set (6 + an) (anC (bg b (6 + an)) (bitC (vn : Int)))).set (12 + an) (orC (bg b (12 + an)) (bitC (vn : Int)))))) ∧ Below w.heap.size w w' := by
  have r0 := World.rangeAt_alloc (World.rangeAt_alloc (range_new w (ints b) 50) (.cells #[.int .i64 4, .int .i64 (an : Int), .int .i64 (vn : Int)] 54)) zB
  have t0 := World.there_alloc (World.there_alloc (there_new w (ints b).toArray 50 (n := 19) (by simp [hb])) (.cells #[.int .i64 4, .int .i64 (an : Int), .int .i64 (vn : Int)] 54)) zB
  have t1 := there_new ((w.alloc (.cells (ints b).toArray 50)).alloc (.cells #[.int .i64 4, .int .i64 (an : Int), .int .i64 (vn : Int)] 54)) _ 50 (n := 19) (show 19 ≤ (zBA : Array Value).size by decide)
  have q0 : (((w.alloc (.cells (ints b).toArray 50)).alloc (.cells #[.int .i64 4, .int .i64 (an : Int), .int .i64 (vn : Int)] 54)).alloc zB).cell? ⟨w.heap.size + 1, 0, none⟩ = some (.int .i64 4) := cell_later (below_one _) (by rw [World.cell?_alloc_at _ _ _ _ (by simp)]; rfl)
  have q1 : (((w.alloc (.cells (ints b).toArray 50)).alloc (.cells #[.int .i64 4, .int .i64 (an : Int), .int .i64 (vn : Int)] 54)).alloc zB).cell? ⟨w.heap.size + 1, 1, none⟩ = some (.int .i64 (an : Int)) := cell_later (below_one _) (by rw [World.cell?_alloc_at _ _ _ _ (by simp)]; rfl)
  have q2 : (((w.alloc (.cells (ints b).toArray 50)).alloc (.cells #[.int .i64 4, .int .i64 (an : Int), .int .i64 (vn : Int)] 54)).alloc zB).cell? ⟨w.heap.size + 1, 2, none⟩ = some (.int .i64 (vn : Int)) := cell_later (below_one _) (by rw [World.cell?_alloc_at _ _ _ _ (by simp)]; rfl)
  have hb0 : Below w.heap.size w (((w.alloc (.cells (ints b).toArray 50)).alloc (.cells #[.int .i64 4, .int .i64 (an : Int), .int .i64 (vn : Int)] 54)).alloc zB) := by (repeat (first | exact Below.refl _ _ | exact (Below.refl _ _).drew | assumption | exact below_one _ | refine Below.chain ?_ (by assumption) | refine Below.drew ?_ | refine Below.alc ?_ _ | refine below_drewN ?_ | (refine Below.setCell ?_ ?_ _) | exact Nat.le_refl _ | (simp; done) | (simp; omega)))
  simp only [World.size_alloc] at t1
  have n0 : (0 : Int) ≤ (an : Int) := by omega
  have n1 : (an : Int) < 6 := by omega
  have gc := inB_true (show inB (bg b 18) 0 1000 = true by unfold goodB at hg; simp only [Bool.and_eq_true] at hg; exact hg.2)
  have bd := goodB_at hg ha
  unfold bF at bd
  simp only at bd
  obtain ⟨⟨d0, d1, d2, d3⟩, d4, d5⟩ := bd
  obtain ⟨v1, _, vw⟩ := bitC_f (n := vn) (by omega)
  have v2 := bitC_64 ⟨vn, hv⟩
  simp only at v2
  have HX := anC_i64 d0 d1 (show 0 ≤ bitC (vn : Int) by omega) (show bitC (vn : Int) ≤ 127 by omega)
  have HY := orC_i64 d2 d3 (show 0 ≤ bitC (vn : Int) by omega) (show bitC (vn : Int) ≤ 127 by omega)
  generalize anC (bg b (6 + an)) (bitC (vn : Int)) = X1 at *
  generalize orC (bg b (12 + an)) (bitC (vn : Int)) = X2 at *
  generalize bitC (vn : Int) = V at *
  unfold aggI jobV
  unfold zBA zB at *
  go_enter Try.func77, Try.ntmps77
  go_wp2
  generalize World.alloc _ _ = wb at *
  have g1 := cell18 r0 (j := 6 + an) (by omega)
  have g2 := cell18 r0 (j := 12 + an) (by omega)
  have f1 := there_froz t0 (j := 6 + an) (by omega)
  have f2 := there_froz t0 (j := 12 + an) (by omega)
  have HH := Lib.hid (show ((b.set (6 + an) (X1)).set (12 + an) (X2)).length = 19 by simp [hb])
  have HR3 := Lib.hid (range_set (range_set r0 (j := 6 + an) (X1) (by omega)) (j := 12 + an) (X2) (by simp; omega))
  have HT3 := Lib.hid (there_set (there_set t0 w.heap.size (6 + an) (.int .i64 (X1))) w.heap.size (12 + an) (.int .i64 (X2)))
  have HR4 := Lib.hid (there_set (there_set t1 w.heap.size (6 + an) (.int .i64 (X1))) w.heap.size (12 + an) (.int .i64 (X2)))
  have HB3 := Lib.hid (Below.setCell (Below.setCell hb0 (p := ⟨w.heap.size, 6 + an, none⟩) (Nat.le_refl _) (.int .i64 (X1))) (p := ⟨w.heap.size, 12 + an, none⟩) (Nat.le_refl _) (.int .i64 (X2)))
  have HC3 := Lib.hid (show bg ((b.set (6 + an) (X1)).set (12 + an) (X2)) 18 = bg b 18 by unfold bg; simp only [List.getD_eq_getElem?_getD]; rw [List.getElem?_set_ne (by omega), List.getElem?_set_ne (by omega)])
  go_region
  clear q0 q1 q2 r0 t0 t1 hb0
  have A1 : (((wb.setCell ⟨w.heap.size, 6 + an, none⟩ (.int .i64 (X1))).setCell ⟨w.heap.size, 12 + an, none⟩ (.int .i64 (X2))).drew).rangeAt w.heap.size 0 (ints ((b.set (6 + an) (X1)).set (12 + an) (X2))) := HR3.out
  have A2 : (((wb.setCell ⟨w.heap.size, 6 + an, none⟩ (.int .i64 (X1))).setCell ⟨w.heap.size, 12 + an, none⟩ (.int .i64 (X2))).drew).there w.heap.size 0 19 := HT3.out
  have A3 : (((wb.setCell ⟨w.heap.size, 6 + an, none⟩ (.int .i64 (X1))).setCell ⟨w.heap.size, 12 + an, none⟩ (.int .i64 (X2))).drew).there (w.heap.size + 1 + 1) 0 19 := HR4.out
  have A4 : Below w.heap.size w (((wb.setCell ⟨w.heap.size, 6 + an, none⟩ (.int .i64 (X1))).setCell ⟨w.heap.size, 12 + an, none⟩ (.int .i64 (X2))).drew) := (HB3.out).drew
  generalize ((wb.setCell ⟨w.heap.size, 6 + an, none⟩ (.int .i64 (X1))).setCell ⟨w.heap.size, 12 + an, none⟩ (.int .i64 (X2))).drew = wr at *
  have hl := HH.out
  have gc' : 0 ≤ bg ((b.set (6 + an) (X1)).set (12 + an) (X2)) 18 ∧ bg ((b.set (6 + an) (X1)).set (12 + an) (X2)) 18 ≤ 1000 := by rw [HC3.out]; exact gc
  clear gc
  obtain ⟨K1, K2, K3, K4, K5, K6⟩ := do_end hl A1 A2 A3 A4 (Nat.le_refl _) (by omega) (by omega)
  clear A1 A2 A3 A4
  generalize hbb : ((b.set (6 + an) (X1)).set (12 + an) (X2)) = bb at *
  have HBB := Lib.hid hbb; clear hbb
  go_wp2_with (first | (refine wpList_loadB rfl _ rfl _ rfl _ K3 (cntB_len hl) ?_) | (refine wpList_storeB rfl _ _ rfl _ _ rfl rfl K4 (cntB_len hl) ?_))
  exact bodyPost_ret (v := aggI (cntB bb)) (res_cell Try.results77 rfl (loadVarB K5 (cntB_len hl))) rfl ⟨by rw [← HBB.out]; rfl, K6⟩
set_option maxHeartbeats 2000000 in
theorem do_k5 (b : List Int) (an : Nat) (w : World) (hb : b.length = 19) (hg : goodB b = true) (ha : an < 6)  :
    Calls Try.prog 77 #[aggI b, jobV 5 (an : Int) 0] w fun e w' => e = .returned (aggI (cntB ((b.set (6 + an) (0)).set (12 + an) (0)))) ∧ Below w.heap.size w w' := by
  have r0 := World.rangeAt_alloc (World.rangeAt_alloc (range_new w (ints b) 50) (.cells #[.int .i64 5, .int .i64 (an : Int), .int .i64 0] 54)) zB
  have t0 := World.there_alloc (World.there_alloc (there_new w (ints b).toArray 50 (n := 19) (by simp [hb])) (.cells #[.int .i64 5, .int .i64 (an : Int), .int .i64 0] 54)) zB
  have t1 := there_new ((w.alloc (.cells (ints b).toArray 50)).alloc (.cells #[.int .i64 5, .int .i64 (an : Int), .int .i64 0] 54)) _ 50 (n := 19) (show 19 ≤ (zBA : Array Value).size by decide)
  have q0 : (((w.alloc (.cells (ints b).toArray 50)).alloc (.cells #[.int .i64 5, .int .i64 (an : Int), .int .i64 0] 54)).alloc zB).cell? ⟨w.heap.size + 1, 0, none⟩ = some (.int .i64 5) := cell_later (below_one _) (by rw [World.cell?_alloc_at _ _ _ _ (by simp)]; rfl)
  have q1 : (((w.alloc (.cells (ints b).toArray 50)).alloc (.cells #[.int .i64 5, .int .i64 (an : Int), .int .i64 0] 54)).alloc zB).cell? ⟨w.heap.size + 1, 1, none⟩ = some (.int .i64 (an : Int)) := cell_later (below_one _) (by rw [World.cell?_alloc_at _ _ _ _ (by simp)]; rfl)
  have q2 : (((w.alloc (.cells (ints b).toArray 50)).alloc (.cells #[.int .i64 5, .int .i64 (an : Int), .int .i64 0] 54)).alloc zB).cell? ⟨w.heap.size + 1, 2, none⟩ = some (.int .i64 0) := cell_later (below_one _) (by rw [World.cell?_alloc_at _ _ _ _ (by simp)]; rfl)
  have hb0 : Below w.heap.size w (((w.alloc (.cells (ints b).toArray 50)).alloc (.cells #[.int .i64 5, .int .i64 (an : Int), .int .i64 0] 54)).alloc zB) := by (repeat (first | exact Below.refl _ _ | exact (Below.refl _ _).drew | assumption | exact below_one _ | refine Below.chain ?_ (by assumption) | refine Below.drew ?_ | refine Below.alc ?_ _ | refine below_drewN ?_ | (refine Below.setCell ?_ ?_ _) | exact Nat.le_refl _ | (simp; done) | (simp; omega)))
  simp only [World.size_alloc] at t1
  have n0 : (0 : Int) ≤ (an : Int) := by omega
  have n1 : (an : Int) < 6 := by omega
  have gc := inB_true (show inB (bg b 18) 0 1000 = true by unfold goodB at hg; simp only [Bool.and_eq_true] at hg; exact hg.2)
  have bd := goodB_at hg ha
  unfold bF at bd
  simp only at bd
  obtain ⟨⟨d0, d1, d2, d3⟩, d4, d5⟩ := bd
  unfold aggI jobV
  unfold zBA zB at *
  go_enter Try.func77, Try.ntmps77
  go_wp2
  generalize World.alloc _ _ = wb at *
  have g1 := cell18 r0 (j := 6 + an) (by omega)
  have g2 := cell18 r0 (j := 12 + an) (by omega)
  have f1 := there_froz t0 (j := 6 + an) (by omega)
  have f2 := there_froz t0 (j := 12 + an) (by omega)
  have HH := Lib.hid (show ((b.set (6 + an) (0)).set (12 + an) (0)).length = 19 by simp [hb])
  have HR3 := Lib.hid (range_set (range_set r0 (j := 6 + an) (0) (by omega)) (j := 12 + an) (0) (by simp; omega))
  have HT3 := Lib.hid (there_set (there_set t0 w.heap.size (6 + an) (.int .i64 (0))) w.heap.size (12 + an) (.int .i64 (0)))
  have HR4 := Lib.hid (there_set (there_set t1 w.heap.size (6 + an) (.int .i64 (0))) w.heap.size (12 + an) (.int .i64 (0)))
  have HB3 := Lib.hid (Below.setCell (Below.setCell hb0 (p := ⟨w.heap.size, 6 + an, none⟩) (Nat.le_refl _) (.int .i64 (0))) (p := ⟨w.heap.size, 12 + an, none⟩) (Nat.le_refl _) (.int .i64 (0)))
  have HC3 := Lib.hid (show bg ((b.set (6 + an) (0)).set (12 + an) (0)) 18 = bg b 18 by unfold bg; simp only [List.getD_eq_getElem?_getD]; rw [List.getElem?_set_ne (by omega), List.getElem?_set_ne (by omega)])
  go_region
  clear q0 q1 q2 r0 t0 t1 hb0
  have A1 : (((wb.setCell ⟨w.heap.size, 6 + an, none⟩ (.int .i64 (0))).setCell ⟨w.heap.size, 12 + an, none⟩ (.int .i64 (0))).drew).rangeAt w.heap.size 0 (ints ((b.set (6 + an) (0)).set (12 + an) (0))) := HR3.out
  have A2 : (((wb.setCell ⟨w.heap.size, 6 + an, none⟩ (.int .i64 (0))).setCell ⟨w.heap.size, 12 + an, none⟩ (.int .i64 (0))).drew).there w.heap.size 0 19 := HT3.out
  have A3 : (((wb.setCell ⟨w.heap.size, 6 + an, none⟩ (.int .i64 (0))).setCell ⟨w.heap.size, 12 + an, none⟩ (.int .i64 (0))).drew).there (w.heap.size + 1 + 1) 0 19 := HR4.out
  have A4 : Below w.heap.size w (((wb.setCell ⟨w.heap.size, 6 + an, none⟩ (.int .i64 (0))).setCell ⟨w.heap.size, 12 + an, none⟩ (.int .i64 (0))).drew) := (HB3.out).drew
  generalize ((wb.setCell ⟨w.heap.size, 6 + an, none⟩ (.int .i64 (0))).setCell ⟨w.heap.size, 12 + an, none⟩ (.int .i64 (0))).drew = wr at *
  have hl := HH.out
  have gc' : 0 ≤ bg ((b.set (6 + an) (0)).set (12 + an) (0)) 18 ∧ bg ((b.set (6 + an) (0)).set (12 + an) (0)) 18 ≤ 1000 := by rw [HC3.out]; exact gc
  clear gc
  obtain ⟨K1, K2, K3, K4, K5, K6⟩ := do_end hl A1 A2 A3 A4 (Nat.le_refl _) (by omega) (by omega)
  clear A1 A2 A3 A4
  generalize hbb : ((b.set (6 + an) (0)).set (12 + an) (0)) = bb at *
  have HBB := Lib.hid hbb; clear hbb
  go_wp2_with (first | (refine wpList_loadB rfl _ rfl _ rfl _ K3 (cntB_len hl) ?_) | (refine wpList_storeB rfl _ _ rfl _ _ rfl rfl K4 (cntB_len hl) ?_))
  exact bodyPost_ret (v := aggI (cntB bb)) (res_cell Try.results77 rfl (loadVarB K5 (cntB_len hl))) rfl ⟨by rw [← HBB.out]; rfl, K6⟩
set_option maxHeartbeats 2000000 in
theorem do_k2 (b : List Int) (an : Nat) (w : World) (hb : b.length = 19) (hg : goodB b = true) (ha : an < 6) :
    Calls Try.prog 77 #[aggI b, jobV 2 (an : Int) 0] w fun e w' => e = .returned (aggI (cntB (b.set (an) (0)))) ∧ Below w.heap.size w w' := by
  have r0 := World.rangeAt_alloc (World.rangeAt_alloc (range_new w (ints b) 50) (.cells #[.int .i64 2, .int .i64 (an : Int), .int .i64 0] 54)) zB
  have t0 := World.there_alloc (World.there_alloc (there_new w (ints b).toArray 50 (n := 19) (by simp [hb])) (.cells #[.int .i64 2, .int .i64 (an : Int), .int .i64 0] 54)) zB
  have t1 := there_new ((w.alloc (.cells (ints b).toArray 50)).alloc (.cells #[.int .i64 2, .int .i64 (an : Int), .int .i64 0] 54)) _ 50 (n := 19) (show 19 ≤ (zBA : Array Value).size by decide)
  have q0 : (((w.alloc (.cells (ints b).toArray 50)).alloc (.cells #[.int .i64 2, .int .i64 (an : Int), .int .i64 0] 54)).alloc zB).cell? ⟨w.heap.size + 1, 0, none⟩ = some (.int .i64 2) := cell_later (below_one _) (by rw [World.cell?_alloc_at _ _ _ _ (by simp)]; rfl)
  have q1 : (((w.alloc (.cells (ints b).toArray 50)).alloc (.cells #[.int .i64 2, .int .i64 (an : Int), .int .i64 0] 54)).alloc zB).cell? ⟨w.heap.size + 1, 1, none⟩ = some (.int .i64 (an : Int)) := cell_later (below_one _) (by rw [World.cell?_alloc_at _ _ _ _ (by simp)]; rfl)
  have q2 : (((w.alloc (.cells (ints b).toArray 50)).alloc (.cells #[.int .i64 2, .int .i64 (an : Int), .int .i64 0] 54)).alloc zB).cell? ⟨w.heap.size + 1, 2, none⟩ = some (.int .i64 0) := cell_later (below_one _) (by rw [World.cell?_alloc_at _ _ _ _ (by simp)]; rfl)
  have hb0 : Below w.heap.size w (((w.alloc (.cells (ints b).toArray 50)).alloc (.cells #[.int .i64 2, .int .i64 (an : Int), .int .i64 0] 54)).alloc zB) := by (repeat (first | exact Below.refl _ _ | exact (Below.refl _ _).drew | assumption | exact below_one _ | refine Below.chain ?_ (by assumption) | refine Below.drew ?_ | refine Below.alc ?_ _ | refine below_drewN ?_ | (refine Below.setCell ?_ ?_ _) | exact Nat.le_refl _ | (simp; done) | (simp; omega)))
  simp only [World.size_alloc] at t1
  have n0 : (0 : Int) ≤ (an : Int) := by omega
  have n1 : (an : Int) < 6 := by omega
  have gc := inB_true (show inB (bg b 18) 0 1000 = true by unfold goodB at hg; simp only [Bool.and_eq_true] at hg; exact hg.2)
  have bd := goodB_at hg ha
  unfold bF at bd
  simp only at bd
  obtain ⟨⟨d0, d1, d2, d3⟩, d4, d5⟩ := bd
  unfold aggI jobV
  unfold zBA zB at *
  go_enter Try.func77, Try.ntmps77
  go_upto_region 7 with fail
  generalize World.alloc _ _ = wb at *
  have g1 := cell18 r0 (j := an) (by omega)
  have f1 := there_froz t0 (j := an) (by omega)
  have HH := Lib.hid (show (b.set (an) (0)).length = 19 by simp [hb])
  have HR3 := Lib.hid (range_set r0 (j := an) (0) (by omega))
  have HT3 := Lib.hid (there_set t0 w.heap.size (an) (.int .i64 (0)))
  have HR4 := Lib.hid (there_set t1 w.heap.size (an) (.int .i64 (0)))
  have HB3 := Lib.hid (Below.setCell hb0 (p := ⟨w.heap.size, an, none⟩) (Nat.le_refl _) (.int .i64 (0)))
  have HC3 := Lib.hid (show bg (b.set (an) (0)) 18 = bg b 18 by unfold bg; simp only [List.getD_eq_getElem?_getD]; rw [List.getElem?_set_ne (by omega)])
  have hl := HH.out
  have gc' : 0 ≤ bg (b.set (an) (0)) 18 ∧ bg (b.set (an) (0)) 18 ≤ 1000 := by rw [HC3.out]; exact gc
  clear gc
  obtain ⟨K1, K2, K3, K4, K5, K6⟩ := do_end hl HR3.out HT3.out HR4.out HB3.out (Nat.le_refl _) (by omega) (by omega)
  clear r0 t0 t1 hb0
  generalize hbb : (b.set (an) (0)) = bb at *
  have HBB := Lib.hid hbb; clear hbb
  go_wp2_with (first | (refine wpList_loadB rfl _ rfl _ rfl _ K3 (cntB_len hl) ?_) | (refine wpList_storeB rfl _ _ rfl _ _ rfl rfl K4 (cntB_len hl) ?_))
  exact bodyPost_ret (v := aggI (cntB bb)) (res_cell Try.results77 rfl (loadVarB K5 (cntB_len hl))) rfl ⟨by rw [← HBB.out]; rfl, K6⟩
set_option maxHeartbeats 2000000 in
theorem do_k1 (b : List Int) (an vn : Nat) (w : World) (hb : b.length = 19) (hg : goodB b = true) (ha : an < 6) (hv : vn < 10) :
    Calls Try.prog 77 #[aggI b, jobV 1 (an : Int) (vn : Int)] w fun e w' => e = .returned (aggI (cntB (b.set (an) (dg (vn : Int))))) ∧ Below w.heap.size w w' := by
  have r0 := World.rangeAt_alloc (World.rangeAt_alloc (range_new w (ints b) 50) (.cells #[.int .i64 1, .int .i64 (an : Int), .int .i64 (vn : Int)] 54)) zB
  have t0 := World.there_alloc (World.there_alloc (there_new w (ints b).toArray 50 (n := 19) (by simp [hb])) (.cells #[.int .i64 1, .int .i64 (an : Int), .int .i64 (vn : Int)] 54)) zB
  have t1 := there_new ((w.alloc (.cells (ints b).toArray 50)).alloc (.cells #[.int .i64 1, .int .i64 (an : Int), .int .i64 (vn : Int)] 54)) _ 50 (n := 19) (show 19 ≤ (zBA : Array Value).size by decide)
  have q0 : (((w.alloc (.cells (ints b).toArray 50)).alloc (.cells #[.int .i64 1, .int .i64 (an : Int), .int .i64 (vn : Int)] 54)).alloc zB).cell? ⟨w.heap.size + 1, 0, none⟩ = some (.int .i64 1) := cell_later (below_one _) (by rw [World.cell?_alloc_at _ _ _ _ (by simp)]; rfl)
  have q1 : (((w.alloc (.cells (ints b).toArray 50)).alloc (.cells #[.int .i64 1, .int .i64 (an : Int), .int .i64 (vn : Int)] 54)).alloc zB).cell? ⟨w.heap.size + 1, 1, none⟩ = some (.int .i64 (an : Int)) := cell_later (below_one _) (by rw [World.cell?_alloc_at _ _ _ _ (by simp)]; rfl)
  have q2 : (((w.alloc (.cells (ints b).toArray 50)).alloc (.cells #[.int .i64 1, .int .i64 (an : Int), .int .i64 (vn : Int)] 54)).alloc zB).cell? ⟨w.heap.size + 1, 2, none⟩ = some (.int .i64 (vn : Int)) := cell_later (below_one _) (by rw [World.cell?_alloc_at _ _ _ _ (by simp)]; rfl)
  have hb0 : Below w.heap.size w (((w.alloc (.cells (ints b).toArray 50)).alloc (.cells #[.int .i64 1, .int .i64 (an : Int), .int .i64 (vn : Int)] 54)).alloc zB) := by (repeat (first | exact Below.refl _ _ | exact (Below.refl _ _).drew | assumption | exact below_one _ | refine Below.chain ?_ (by assumption) | refine Below.drew ?_ | refine Below.alc ?_ _ | refine below_drewN ?_ | (refine Below.setCell ?_ ?_ _) | exact Nat.le_refl _ | (simp; done) | (simp; omega)))
  simp only [World.size_alloc] at t1
  have n0 : (0 : Int) ≤ (an : Int) := by omega
  have n1 : (an : Int) < 6 := by omega
  have gc := inB_true (show inB (bg b 18) 0 1000 = true by unfold goodB at hg; simp only [Bool.and_eq_true] at hg; exact hg.2)
  have bd := goodB_at hg ha
  unfold bF at bd
  simp only at bd
  obtain ⟨⟨d0, d1, d2, d3⟩, d4, d5⟩ := bd
  have hix := fun w => index_dig (vn : Int) (by omega) (by omega) w
  generalize dg (vn : Int) = X1 at *
  unfold aggI jobV
  unfold zBA zB at *
  go_enter Try.func77, Try.ntmps77
  go_wp2
  generalize World.alloc _ _ = wb at *
  have HR := Lib.hid r0; have HT := Lib.hid t0; have HT1 := Lib.hid t1; have HBW := Lib.hid hb0
  clear r0 t0 t1 hb0
  have GC := Lib.hid gc; clear gc
  go_region_held3 (fun w' => w'.cell? ⟨w.heap.size + 1, 1, none⟩ = some (.int .i64 (an : Int)) ∧ w'.cell? ⟨w.heap.size + 1, 2, none⟩ = some (.int .i64 (vn : Int)))
    (first | (go_split_ands; exact ⟨cell_later ‹_› ‹_›, cell_later ‹_› ‹_›⟩) | (go_split_ands; refine ⟨?_, ?_⟩ <;> (rw [World.cell?_setCell_other _ _ _ _ (by simp)]; assumption)) | go_keep)
    ((go_at_call 69; refine (digitCells_c _).mono ?_; rintro e w' ⟨rfl, hb3⟩; have hB : Below wb.heap.size wb w' := Below.chain (Below.refl _ _).drew hb3; have p0 := cell18 (range_below HR.out hB) (j := an) (by omega); have f0 := there_froz (there_below HT.out hB) (j := an) (by omega)))
  go_split_ands
  have gc := GC.out
  have r0 := range_below HR.out hB
  have t0 := there_below HT.out hB
  have t1 := there_below HT1.out hB
  have hb0 := Below.chain HBW.out hB
  have HH := Lib.hid (show (b.set (an) (X1)).length = 19 by simp [hb])
  have HR3 := Lib.hid (range_set r0 (j := an) (X1) (by omega))
  have HT3 := Lib.hid (there_set t0 w.heap.size (an) (.int .i64 (X1)))
  have HR4 := Lib.hid (there_set t1 w.heap.size (an) (.int .i64 (X1)))
  have HB3 := Lib.hid (Below.setCell hb0 (p := ⟨w.heap.size, an, none⟩) (Nat.le_refl _) (.int .i64 (X1)))
  have HC3 := Lib.hid (show bg (b.set (an) (X1)) 18 = bg b 18 by unfold bg; simp only [List.getD_eq_getElem?_getD]; rw [List.getElem?_set_ne (by omega)])
  clear q0 q1 q2 r0 t0 t1 hb0 p0 f0 hb3
  have A1 : ((w'.setCell ⟨w.heap.size, an, none⟩ (.int .i64 (X1)))).rangeAt w.heap.size 0 (ints (b.set (an) (X1))) := HR3.out
  have A2 : ((w'.setCell ⟨w.heap.size, an, none⟩ (.int .i64 (X1)))).there w.heap.size 0 19 := HT3.out
  have A3 : ((w'.setCell ⟨w.heap.size, an, none⟩ (.int .i64 (X1)))).there (w.heap.size + 1 + 1) 0 19 := HR4.out
  have A4 : Below w.heap.size w ((w'.setCell ⟨w.heap.size, an, none⟩ (.int .i64 (X1)))) := HB3.out
  generalize (w'.setCell ⟨w.heap.size, an, none⟩ (.int .i64 (X1))) = wr at *
  have hl := HH.out
  have gc' : 0 ≤ bg (b.set (an) (X1)) 18 ∧ bg (b.set (an) (X1)) 18 ≤ 1000 := by rw [HC3.out]; exact gc
  clear gc
  obtain ⟨K1, K2, K3, K4, K5, K6⟩ := do_end hl A1 A2 A3 A4 (Nat.le_refl _) (by omega) (by omega)
  clear A1 A2 A3 A4
  generalize hbb : (b.set (an) (X1)) = bb at *
  have HBB := Lib.hid hbb; clear hbb
  go_wp2_with (first | (refine wpList_loadB rfl _ rfl _ rfl _ K3 (cntB_len hl) ?_) | (refine wpList_storeB rfl _ _ rfl _ _ rfl rfl K4 (cntB_len hl) ?_))
  exact bodyPost_ret (v := aggI (cntB bb)) (res_cell Try.results77 rfl (loadVarB K5 (cntB_len hl))) rfl ⟨by rw [← HBB.out]; rfl, K6⟩
theorem seenP_18 (t : Bool) (b cur : List Int) (i o : Nat) (ho : o < 6) : bg (seenP t b cur i o) 18 = bg cur 18 := by
  unfold seenP bg
  simp only [List.getD_eq_getElem?_getD]
  rw [List.getElem?_set_ne (by omega), List.getElem?_set_ne (by omega), List.getElem?_set_ne (by omega)]
theorem seenI_18 (t : Bool) (b : List Int) : ∀ n, n ≤ 6 → bg (seenI t b n) 18 = bg b 18
  | 0, _ => rfl
  | n + 1, h => by rw [seenI_succ, seenP_18 _ _ _ _ _ (by omega), seenI_18 t b n (by omega)]
set_option maxHeartbeats 2000000 in
theorem do_k6 (b : List Int) (w : World) (hb : b.length = 19) (hg : goodB b = true) :
    Calls Try.prog 77 #[aggI b, jobV 6 0 0] w fun e w' => e = .returned (aggI (cntB (seenI true b 6))) ∧ Below w.heap.size w w' := by
  have r0 := World.rangeAt_alloc (World.rangeAt_alloc (range_new w (ints b) 50) (.cells #[.int .i64 6, .int .i64 0, .int .i64 0] 54)) zB
  have t0 := World.there_alloc (World.there_alloc (there_new w (ints b).toArray 50 (n := 19) (by simp [hb])) (.cells #[.int .i64 6, .int .i64 0, .int .i64 0] 54)) zB
  have t1 := there_new ((w.alloc (.cells (ints b).toArray 50)).alloc (.cells #[.int .i64 6, .int .i64 0, .int .i64 0] 54)) _ 50 (n := 19) (show 19 ≤ (zBA : Array Value).size by decide)
  have q0 : (((w.alloc (.cells (ints b).toArray 50)).alloc (.cells #[.int .i64 6, .int .i64 0, .int .i64 0] 54)).alloc zB).cell? ⟨w.heap.size + 1, 0, none⟩ = some (.int .i64 6) := cell_later (below_one _) (by rw [World.cell?_alloc_at _ _ _ _ (by simp)]; rfl)
  have q1 : (((w.alloc (.cells (ints b).toArray 50)).alloc (.cells #[.int .i64 6, .int .i64 0, .int .i64 0] 54)).alloc zB).cell? ⟨w.heap.size + 1, 1, none⟩ = some (.int .i64 0) := cell_later (below_one _) (by rw [World.cell?_alloc_at _ _ _ _ (by simp)]; rfl)
  have q2 : (((w.alloc (.cells (ints b).toArray 50)).alloc (.cells #[.int .i64 6, .int .i64 0, .int .i64 0] 54)).alloc zB).cell? ⟨w.heap.size + 1, 2, none⟩ = some (.int .i64 0) := cell_later (below_one _) (by rw [World.cell?_alloc_at _ _ _ _ (by simp)]; rfl)
  have hb0 : Below w.heap.size w (((w.alloc (.cells (ints b).toArray 50)).alloc (.cells #[.int .i64 6, .int .i64 0, .int .i64 0] 54)).alloc zB) := by (repeat (first | exact Below.refl _ _ | exact (Below.refl _ _).drew | assumption | exact below_one _ | refine Below.chain ?_ (by assumption) | refine Below.drew ?_ | refine Below.alc ?_ _ | refine below_drewN ?_ | (refine Below.setCell ?_ ?_ _) | exact Nat.le_refl _ | (simp; done) | (simp; omega)))
  simp only [World.size_alloc] at t1
  have gc := inB_true (show inB (bg b 18) 0 1000 = true by unfold goodB at hg; simp only [Bool.and_eq_true] at hg; exact hg.2)
  have hl : (seenI true b 6).length = 19 := by rw [seenI_len, hb]
  have HC3 := Lib.hid (seenI_18 true b 6 (by omega))
  unfold aggI jobV
  unfold zBA zB at *
  go_enter Try.func77, Try.ntmps77
  go_wp2_with (refine wpList_loadB rfl _ rfl _ rfl b r0 hb ?_)
  refine (seenFromT_c b _ hb hg).mono ?_
  rintro e w1 ⟨rfl, hb1⟩
  have x1 := there_below t0 hb1
  have x2 := there_below t1 hb1
  have x3 := Below.chain hb0 hb1
  have A1 := World.rangeAt_setCells_same w1 w.heap.size 0 (ints (seenI true b 6)) (by simpa [hl] using x1)
  have A2 := World.there_setCells x1 w.heap.size 0 (ints (seenI true b 6))
  have A3 := World.there_setCells x2 w.heap.size 0 (ints (seenI true b 6))
  have A4 := below_cells (ints (seenI true b 6)) w1 w.heap.size 0 x3 (Nat.le_refl _)
  have gc' : 0 ≤ bg (seenI true b 6) 18 ∧ bg (seenI true b 6) 18 ≤ 1000 := by rw [HC3.out]; exact gc
  clear gc
  obtain ⟨K1, K2, K3, K4, K5, K6⟩ := do_end hl A1 A2 A3 A4 (Nat.le_refl _) (by omega) (by omega)
  clear A1 A2 A3 A4 r0 t0 t1 hb0 hb1 x2 x3 q0 q1 q2
  generalize hbb : (seenI true b 6) = bb at *
  have HBB := Lib.hid hbb; clear hbb
  go_wp2_with (first | (refine wpList_storeB rfl _ _ rfl _ _ rfl rfl x1 hl ?_) | (refine wpList_loadB rfl _ rfl _ rfl _ K3 (cntB_len hl) ?_) | (refine wpList_storeB rfl _ _ rfl _ _ rfl rfl K4 (cntB_len hl) ?_))
  exact bodyPost_ret (v := aggI (cntB bb)) (res_cell Try.results77 rfl (loadVarB K5 (cntB_len hl))) rfl ⟨by rw [← HBB.out]; rfl, K6⟩
set_option maxHeartbeats 2000000 in
theorem do_k7 (b : List Int) (w : World) (hb : b.length = 19) (hg : goodB b = true) :
    Calls Try.prog 77 #[aggI b, jobV 7 0 0] w fun e w' => e = .returned (aggI (cntB (seenI false b 6))) ∧ Below w.heap.size w w' := by
  have r0 := World.rangeAt_alloc (World.rangeAt_alloc (range_new w (ints b) 50) (.cells #[.int .i64 7, .int .i64 0, .int .i64 0] 54)) zB
  have t0 := World.there_alloc (World.there_alloc (there_new w (ints b).toArray 50 (n := 19) (by simp [hb])) (.cells #[.int .i64 7, .int .i64 0, .int .i64 0] 54)) zB
  have t1 := there_new ((w.alloc (.cells (ints b).toArray 50)).alloc (.cells #[.int .i64 7, .int .i64 0, .int .i64 0] 54)) _ 50 (n := 19) (show 19 ≤ (zBA : Array Value).size by decide)
  have q0 : (((w.alloc (.cells (ints b).toArray 50)).alloc (.cells #[.int .i64 7, .int .i64 0, .int .i64 0] 54)).alloc zB).cell? ⟨w.heap.size + 1, 0, none⟩ = some (.int .i64 7) := cell_later (below_one _) (by rw [World.cell?_alloc_at _ _ _ _ (by simp)]; rfl)
  have q1 : (((w.alloc (.cells (ints b).toArray 50)).alloc (.cells #[.int .i64 7, .int .i64 0, .int .i64 0] 54)).alloc zB).cell? ⟨w.heap.size + 1, 1, none⟩ = some (.int .i64 0) := cell_later (below_one _) (by rw [World.cell?_alloc_at _ _ _ _ (by simp)]; rfl)
  have q2 : (((w.alloc (.cells (ints b).toArray 50)).alloc (.cells #[.int .i64 7, .int .i64 0, .int .i64 0] 54)).alloc zB).cell? ⟨w.heap.size + 1, 2, none⟩ = some (.int .i64 0) := cell_later (below_one _) (by rw [World.cell?_alloc_at _ _ _ _ (by simp)]; rfl)
  have hb0 : Below w.heap.size w (((w.alloc (.cells (ints b).toArray 50)).alloc (.cells #[.int .i64 7, .int .i64 0, .int .i64 0] 54)).alloc zB) := by (repeat (first | exact Below.refl _ _ | exact (Below.refl _ _).drew | assumption | exact below_one _ | refine Below.chain ?_ (by assumption) | refine Below.drew ?_ | refine Below.alc ?_ _ | refine below_drewN ?_ | (refine Below.setCell ?_ ?_ _) | exact Nat.le_refl _ | (simp; done) | (simp; omega)))
  simp only [World.size_alloc] at t1
  have gc := inB_true (show inB (bg b 18) 0 1000 = true by unfold goodB at hg; simp only [Bool.and_eq_true] at hg; exact hg.2)
  have hl : (seenI false b 6).length = 19 := by rw [seenI_len, hb]
  have HC3 := Lib.hid (seenI_18 false b 6 (by omega))
  unfold aggI jobV
  unfold zBA zB at *
  go_enter Try.func77, Try.ntmps77
  go_wp2_with (refine wpList_loadB rfl _ rfl _ rfl b r0 hb ?_)
  refine (seenFromM_c b _ hb hg).mono ?_
  rintro e w1 ⟨rfl, hb1⟩
  have x1 := there_below t0 hb1
  have x2 := there_below t1 hb1
  have x3 := Below.chain hb0 hb1
  have A1 := World.rangeAt_setCells_same w1 w.heap.size 0 (ints (seenI false b 6)) (by simpa [hl] using x1)
  have A2 := World.there_setCells x1 w.heap.size 0 (ints (seenI false b 6))
  have A3 := World.there_setCells x2 w.heap.size 0 (ints (seenI false b 6))
  have A4 := below_cells (ints (seenI false b 6)) w1 w.heap.size 0 x3 (Nat.le_refl _)
  have gc' : 0 ≤ bg (seenI false b 6) 18 ∧ bg (seenI false b 6) 18 ≤ 1000 := by rw [HC3.out]; exact gc
  clear gc
  obtain ⟨K1, K2, K3, K4, K5, K6⟩ := do_end hl A1 A2 A3 A4 (Nat.le_refl _) (by omega) (by omega)
  clear A1 A2 A3 A4 r0 t0 t1 hb0 hb1 x2 x3 q0 q1 q2
  generalize hbb : (seenI false b 6) = bb at *
  have HBB := Lib.hid hbb; clear hbb
  go_wp2_with (first | (refine wpList_storeB rfl _ _ rfl _ _ rfl rfl x1 hl ?_) | (refine wpList_loadB rfl _ rfl _ rfl _ K3 (cntB_len hl) ?_) | (refine wpList_storeB rfl _ _ rfl _ _ rfl rfl K4 (cntB_len hl) ?_))
  exact bodyPost_ret (v := aggI (cntB bb)) (res_cell Try.results77 rfl (loadVarB K5 (cntB_len hl))) rfl ⟨by rw [← HBB.out]; rfl, K6⟩
end Go.Proofs.Ytfbnmkpkihfocaa
