/- Texts of this claim, gathered: Job6. -/
import Derived.Test.YtohgjfdbnkjefaaGreatDoorKw9
namespace Go.Proofs.YtohgjfdbnkjefaaGreatDoor
open Go.RowKit
set_option linter.unusedVariables false
set_option linter.unusedSimpArgs false
set_option maxRecDepth 100000
attribute [local go_sem ↓] Go.wp_at_zero Go.wp_at_succ
def MkPost (w : World) (b : List Int) (k a v : Int) (e : Ending) (w' : World) : Prop :=
 ∃ X : List Int, e = .returned (mkV X (makeB b k a v)) ∧ X.length = 19 ∧ (makeB b k a v = true → X = madeB b k a.toNat v) ∧ Below w.heap.size w w'
theorem MkPost.mk' {w : World} {b : List Int} {k a v : Int} {e : Ending} {w' : World} (X : List Int) {ok : Bool} (h : makeB b k a v = ok) (he : e = .returned (mkV X ok)) (hl : X.length = 19) (hx : ok = true → X = madeB b k a.toNat v) (hb : Below w.heap.size w w') : MkPost w b k a v e w' :=
 ⟨X, by rw [he, h], hl, fun h2 => hx (by rw [← h, h2]), hb⟩
theorem there_some {w : World} {g n : Nat} (h : w.there g 0 n) {j : Nat} (hj : j < n) : ∃ u, w.cell? ⟨g, j, none⟩ = some u := by
 have := (h j hj).1
 rw [Nat.zero_add] at this
 exact Option.isSome_iff_exists.1 this
theorem cell_far2 {w : World} {g o g2 : Nat} {u : Value} {vs : List Value} {o2 : Nat} (h : w.cell? ⟨g, o, none⟩ = some u) (hne : g ≠ g2) : (w.setCells g2 o2 vs).cell? ⟨g, o, none⟩ = some u := by
 have := World.rangeAt_setCells_apart (w := w) (b' := g) (o' := o) (cs := [u]) (fun j v hv => by
  cases j with
  | zero => simp at hv; subst hv; exact h
  | succ j => simp at hv) g2 o2 vs (.inl hne) 0 u rfl
 simpa using this
theorem hi19 {b : List Int} (h : b.length = 19) : (Tryz.prog.info? 26).map (·.size) = some (ints b).length := by rw [show (ints b).length = 19 by simp [ints, h]]; kernel_rfl
set_option maxHeartbeats 2000000 in
theorem make_a (b : List Int) (k a v : Int) (w : World) (hb : b.length = 19) (hg : goodB b = true) (ha : inB a 0 5 = false) :
 Calls Tryz.prog 142 #[aggI b, jobV k a v] w (MkPost w b k a v) := by
 have r0 := World.rangeAt_alloc (World.rangeAt_alloc (range_new w (ints b) 26) (.cells #[.int .i64 k, .int .i64 a, .int .i64 v] 123)) zB
 have t0 := World.there_alloc (World.there_alloc (there_new w (ints b).toArray 26 (n := 19) (by simp [hb])) (.cells #[.int .i64 k, .int .i64 a, .int .i64 v] 123)) zB
 have t1 := there_new ((w.alloc (.cells (ints b).toArray 26)).alloc (.cells #[.int .i64 k, .int .i64 a, .int .i64 v] 123)) _ 26 (n := 19) (show 19 ≤ (zBA : Array Value).size by decide)
 have q0 : (((w.alloc (.cells (ints b).toArray 26)).alloc (.cells #[.int .i64 k, .int .i64 a, .int .i64 v] 123)).alloc zB).cell? ⟨w.heap.size + 1, 0, none⟩ = some (.int .i64 k) := cell_later (below_one _) (by rw [World.cell?_alloc_at _ _ _ _ (by simp)]; rfl)
 have q1 : (((w.alloc (.cells (ints b).toArray 26)).alloc (.cells #[.int .i64 k, .int .i64 a, .int .i64 v] 123)).alloc zB).cell? ⟨w.heap.size + 1, 1, none⟩ = some (.int .i64 a) := cell_later (below_one _) (by rw [World.cell?_alloc_at _ _ _ _ (by simp)]; rfl)
 have q2 : (((w.alloc (.cells (ints b).toArray 26)).alloc (.cells #[.int .i64 k, .int .i64 a, .int .i64 v] 123)).alloc zB).cell? ⟨w.heap.size + 1, 2, none⟩ = some (.int .i64 v) := cell_later (below_one _) (by rw [World.cell?_alloc_at _ _ _ _ (by simp)]; rfl)
 have hb0 : Below w.heap.size w (((w.alloc (.cells (ints b).toArray 26)).alloc (.cells #[.int .i64 k, .int .i64 a, .int .i64 v] 123)).alloc zB) := by (repeat (first | exact Below.refl _ _ | exact (Below.refl _ _).drew | assumption | exact below_one _ | refine Below.chain ?_ (by assumption) | refine Below.drew ?_ | refine Below.alc ?_ _ | refine below_drewN ?_ | (refine Below.setCell ?_ ?_ _) | exact Nat.le_refl _ | (simp; done) | (simp; omega)))
 simp only [World.size_alloc] at t1
 have gc := inB_true (show inB (bg b 18) 0 1000 = true by unfold goodB at hg; simp only [Bool.and_eq_true] at hg; exact hg.2)
 have HM := Lib.hid (show makeB b k a v = false by unfold makeB; rw [ha]; rfl)
 have HA := Lib.hid ha; clear ha
 have K := World.rangeAt_setCells_same (((w.alloc (.cells (ints b).toArray 26)).alloc (.cells #[.int .i64 k, .int .i64 a, .int .i64 v] 123)).alloc (.cells zBA 26)) (w.heap.size + 1 + 1) 0 (ints b) (by simpa [hb] using t1)
 have K6 := below_cells (ints b) (((w.alloc (.cells (ints b).toArray 26)).alloc (.cells #[.int .i64 k, .int .i64 a, .int .i64 v] 123)).alloc (.cells zBA 26)) (w.heap.size + 1 + 1) 0 hb0 (by omega)
 have K5 := loadVarB K hb
 clear t0 K
 unfold aggI jobV
 unfold zBA zB at *
 go_enter Tryz.func142, Tryz.ntmps142
 go_wp2_with fail
 refine (l1In_c _ _ _ _).mono ?_
 rintro e w1 ⟨rfl, rfl⟩
 rw [HA.out]
 generalize World.alloc _ _ = wb at *
 go_wp2_with (first | (refine wpList_loadB rfl _ rfl _ rfl _ r0 hb ?_) | (refine wpList_storeB rfl _ _ rfl _ _ rfl rfl t1 hb ?_))
 exact bodyPost_ret (v := mkV b false) (res_cell2 Tryz.results142 rfl K5) rfl (MkPost.mk' b HM.out rfl hb (fun h => by cases h) K6)
set_option maxHeartbeats 2000000 in
theorem make_o (b : List Int) (k : Int) (an : Nat) (v : Int) (w : World) (hb : b.length = 19) (hg : goodB b = true) (ha : an < 6) (k1 : ¬ k = 1) (k2 : ¬ k = 2) (k3 : ¬ k = 3) (k4 : ¬ k = 4) (k5 : ¬ k = 5) (k6 : ¬ k = 6) (k7 : ¬ k = 7) :
 Calls Tryz.prog 142 #[aggI b, jobV k (an : Int) v] w (MkPost w b k (an : Int) v) := by
 have r0 := World.rangeAt_alloc (World.rangeAt_alloc (range_new w (ints b) 26) (.cells #[.int .i64 k, .int .i64 (an : Int), .int .i64 v] 123)) zB
 have t0 := World.there_alloc (World.there_alloc (there_new w (ints b).toArray 26 (n := 19) (by simp [hb])) (.cells #[.int .i64 k, .int .i64 (an : Int), .int .i64 v] 123)) zB
 have t1 := there_new ((w.alloc (.cells (ints b).toArray 26)).alloc (.cells #[.int .i64 k, .int .i64 (an : Int), .int .i64 v] 123)) _ 26 (n := 19) (show 19 ≤ (zBA : Array Value).size by decide)
 have q0 : (((w.alloc (.cells (ints b).toArray 26)).alloc (.cells #[.int .i64 k, .int .i64 (an : Int), .int .i64 v] 123)).alloc zB).cell? ⟨w.heap.size + 1, 0, none⟩ = some (.int .i64 k) := cell_later (below_one _) (by rw [World.cell?_alloc_at _ _ _ _ (by simp)]; rfl)
 have q1 : (((w.alloc (.cells (ints b).toArray 26)).alloc (.cells #[.int .i64 k, .int .i64 (an : Int), .int .i64 v] 123)).alloc zB).cell? ⟨w.heap.size + 1, 1, none⟩ = some (.int .i64 (an : Int)) := cell_later (below_one _) (by rw [World.cell?_alloc_at _ _ _ _ (by simp)]; rfl)
 have q2 : (((w.alloc (.cells (ints b).toArray 26)).alloc (.cells #[.int .i64 k, .int .i64 (an : Int), .int .i64 v] 123)).alloc zB).cell? ⟨w.heap.size + 1, 2, none⟩ = some (.int .i64 v) := cell_later (below_one _) (by rw [World.cell?_alloc_at _ _ _ _ (by simp)]; rfl)
 have hb0 : Below w.heap.size w (((w.alloc (.cells (ints b).toArray 26)).alloc (.cells #[.int .i64 k, .int .i64 (an : Int), .int .i64 v] 123)).alloc zB) := by (repeat (first | exact Below.refl _ _ | exact (Below.refl _ _).drew | assumption | exact below_one _ | refine Below.chain ?_ (by assumption) | refine Below.drew ?_ | refine Below.alc ?_ _ | refine below_drewN ?_ | (refine Below.setCell ?_ ?_ _) | exact Nat.le_refl _ | (simp; done) | (simp; omega)))
 simp only [World.size_alloc] at t1
 have n0 : (0 : Int) ≤ (an : Int) := by omega
 have n1 : (an : Int) < 6 := by omega
 have gc := inB_true (show inB (bg b 18) 0 1000 = true by unfold goodB at hg; simp only [Bool.and_eq_true] at hg; exact hg.2)
 have bd := goodB_at hg ha
 unfold bF at bd
 simp only at bd
 obtain ⟨⟨d0, d1, d2, d3⟩, d4, d5⟩ := bd
 have HM := Lib.hid (show makeB b k (an : Int) v = false by unfold makeB makeK; simp [k1, k2, k3, k4, k5, k6, k7])
 have HA : Hid (inB (an : Int) 0 5 = true) := inB_mk (by omega) (by omega)
 have K := World.rangeAt_setCells_same (((w.alloc (.cells (ints b).toArray 26)).alloc (.cells #[.int .i64 k, .int .i64 (an : Int), .int .i64 v] 123)).alloc (.cells zBA 26)) (w.heap.size + 1 + 1) 0 (ints b) (by simpa [hb] using t1)
 have K6 := below_cells (ints b) (((w.alloc (.cells (ints b).toArray 26)).alloc (.cells #[.int .i64 k, .int .i64 (an : Int), .int .i64 v] 123)).alloc (.cells zBA 26)) (w.heap.size + 1 + 1) 0 hb0 (by omega)
 have K5 := loadVarB K hb
 clear t0 K
 unfold aggI jobV
 unfold zBA zB at *
 go_enter Tryz.func142, Tryz.ntmps142
 go_wp2_with fail
 refine (l1In_c _ _ _ _).mono ?_
 rintro e w1 ⟨rfl, rfl⟩
 rw [HA.out]
 generalize World.alloc _ _ = wb at *
 go_wp2_with (first | (refine wpList_loadB rfl _ rfl _ rfl _ r0 hb ?_) | (refine wpList_storeB rfl _ _ rfl _ _ rfl rfl t1 hb ?_))
 exact bodyPost_ret (v := mkV b false) (res_cell2 Tryz.results142 rfl K5) rfl (MkPost.mk' b HM.out rfl hb (fun h => by cases h) K6)
set_option maxHeartbeats 2000000 in
theorem make_1n (b : List Int) (an : Nat) (v : Int) (w : World) (hb : b.length = 19) (hg : goodB b = true) (ha : an < 6) (hv : inB v 0 9 = false) :
 Calls Tryz.prog 142 #[aggI b, jobV 1 (an : Int) v] w (MkPost w b 1 (an : Int) v) := by
 have r0 := World.rangeAt_alloc (World.rangeAt_alloc (range_new w (ints b) 26) (.cells #[.int .i64 1, .int .i64 (an : Int), .int .i64 v] 123)) zB
 have t0 := World.there_alloc (World.there_alloc (there_new w (ints b).toArray 26 (n := 19) (by simp [hb])) (.cells #[.int .i64 1, .int .i64 (an : Int), .int .i64 v] 123)) zB
 have t1 := there_new ((w.alloc (.cells (ints b).toArray 26)).alloc (.cells #[.int .i64 1, .int .i64 (an : Int), .int .i64 v] 123)) _ 26 (n := 19) (show 19 ≤ (zBA : Array Value).size by decide)
 have q0 : (((w.alloc (.cells (ints b).toArray 26)).alloc (.cells #[.int .i64 1, .int .i64 (an : Int), .int .i64 v] 123)).alloc zB).cell? ⟨w.heap.size + 1, 0, none⟩ = some (.int .i64 1) := cell_later (below_one _) (by rw [World.cell?_alloc_at _ _ _ _ (by simp)]; rfl)
 have q1 : (((w.alloc (.cells (ints b).toArray 26)).alloc (.cells #[.int .i64 1, .int .i64 (an : Int), .int .i64 v] 123)).alloc zB).cell? ⟨w.heap.size + 1, 1, none⟩ = some (.int .i64 (an : Int)) := cell_later (below_one _) (by rw [World.cell?_alloc_at _ _ _ _ (by simp)]; rfl)
 have q2 : (((w.alloc (.cells (ints b).toArray 26)).alloc (.cells #[.int .i64 1, .int .i64 (an : Int), .int .i64 v] 123)).alloc zB).cell? ⟨w.heap.size + 1, 2, none⟩ = some (.int .i64 v) := cell_later (below_one _) (by rw [World.cell?_alloc_at _ _ _ _ (by simp)]; rfl)
 have hb0 : Below w.heap.size w (((w.alloc (.cells (ints b).toArray 26)).alloc (.cells #[.int .i64 1, .int .i64 (an : Int), .int .i64 v] 123)).alloc zB) := by (repeat (first | exact Below.refl _ _ | exact (Below.refl _ _).drew | assumption | exact below_one _ | refine Below.chain ?_ (by assumption) | refine Below.drew ?_ | refine Below.alc ?_ _ | refine below_drewN ?_ | (refine Below.setCell ?_ ?_ _) | exact Nat.le_refl _ | (simp; done) | (simp; omega)))
 simp only [World.size_alloc] at t1
 have n0 : (0 : Int) ≤ (an : Int) := by omega
 have n1 : (an : Int) < 6 := by omega
 have gc := inB_true (show inB (bg b 18) 0 1000 = true by unfold goodB at hg; simp only [Bool.and_eq_true] at hg; exact hg.2)
 have bd := goodB_at hg ha
 unfold bF at bd
 simp only at bd
 obtain ⟨⟨d0, d1, d2, d3⟩, d4, d5⟩ := bd
 have HM := Lib.hid (show makeB b 1 (an : Int) v = false by unfold makeB makeK; rw [if_pos rfl]; unfold digitB; rw [hv]; simp)
 have HA : Hid (inB (an : Int) 0 5 = true) := inB_mk (by omega) (by omega)
 have HV := Lib.hid hv; clear hv
 have K := World.rangeAt_setCells_same (((w.alloc (.cells (ints b).toArray 26)).alloc (.cells #[.int .i64 1, .int .i64 (an : Int), .int .i64 v] 123)).alloc (.cells zBA 26)) (w.heap.size + 1 + 1) 0 (ints b) (by simpa [hb] using t1)
 have K6 := below_cells (ints b) (((w.alloc (.cells (ints b).toArray 26)).alloc (.cells #[.int .i64 1, .int .i64 (an : Int), .int .i64 v] 123)).alloc (.cells zBA 26)) (w.heap.size + 1 + 1) 0 hb0 (by omega)
 have K5 := loadVarB K hb
 clear t0 K
 unfold aggI jobV
 unfold zBA zB at *
 go_enter Tryz.func142, Tryz.ntmps142
 go_wp2_with fail
 refine (l1In_c _ _ _ _).mono ?_
 rintro e w1 ⟨rfl, rfl⟩
 rw [HA.out]
 go_wp2_with fail
 refine (l1In_c _ _ _ _).mono ?_
 rintro e w1 ⟨rfl, rfl⟩
 rw [HV.out]
 generalize World.alloc _ _ = wb at *
 go_wp2_with (first | (refine wpList_loadB rfl _ rfl _ rfl _ r0 hb ?_) | (refine wpList_storeB rfl _ _ rfl _ _ rfl rfl t1 hb ?_))
 exact bodyPost_ret (v := mkV b false) (res_cell2 Tryz.results142 rfl K5) rfl (MkPost.mk' b HM.out rfl hb (fun h => by cases h) K6)
set_option maxHeartbeats 2000000 in
theorem make_1y (b : List Int) (an vn : Nat) (w : World) (hb : b.length = 19) (hg : goodB b = true) (ha : an < 6) (hv : vn < 10) :
 Calls Tryz.prog 142 #[aggI b, jobV 1 (an : Int) (vn : Int)] w (MkPost w b 1 (an : Int) (vn : Int)) := by
 have r0 := World.rangeAt_alloc (World.rangeAt_alloc (range_new w (ints b) 26) (.cells #[.int .i64 1, .int .i64 (an : Int), .int .i64 (vn : Int)] 123)) zB
 have t0 := World.there_alloc (World.there_alloc (there_new w (ints b).toArray 26 (n := 19) (by simp [hb])) (.cells #[.int .i64 1, .int .i64 (an : Int), .int .i64 (vn : Int)] 123)) zB
 have t1 := there_new ((w.alloc (.cells (ints b).toArray 26)).alloc (.cells #[.int .i64 1, .int .i64 (an : Int), .int .i64 (vn : Int)] 123)) _ 26 (n := 19) (show 19 ≤ (zBA : Array Value).size by decide)
 have q0 : (((w.alloc (.cells (ints b).toArray 26)).alloc (.cells #[.int .i64 1, .int .i64 (an : Int), .int .i64 (vn : Int)] 123)).alloc zB).cell? ⟨w.heap.size + 1, 0, none⟩ = some (.int .i64 1) := cell_later (below_one _) (by rw [World.cell?_alloc_at _ _ _ _ (by simp)]; rfl)
 have q1 : (((w.alloc (.cells (ints b).toArray 26)).alloc (.cells #[.int .i64 1, .int .i64 (an : Int), .int .i64 (vn : Int)] 123)).alloc zB).cell? ⟨w.heap.size + 1, 1, none⟩ = some (.int .i64 (an : Int)) := cell_later (below_one _) (by rw [World.cell?_alloc_at _ _ _ _ (by simp)]; rfl)
 have q2 : (((w.alloc (.cells (ints b).toArray 26)).alloc (.cells #[.int .i64 1, .int .i64 (an : Int), .int .i64 (vn : Int)] 123)).alloc zB).cell? ⟨w.heap.size + 1, 2, none⟩ = some (.int .i64 (vn : Int)) := cell_later (below_one _) (by rw [World.cell?_alloc_at _ _ _ _ (by simp)]; rfl)
 have hb0 : Below w.heap.size w (((w.alloc (.cells (ints b).toArray 26)).alloc (.cells #[.int .i64 1, .int .i64 (an : Int), .int .i64 (vn : Int)] 123)).alloc zB) := by (repeat (first | exact Below.refl _ _ | exact (Below.refl _ _).drew | assumption | exact below_one _ | refine Below.chain ?_ (by assumption) | refine Below.drew ?_ | refine Below.alc ?_ _ | refine below_drewN ?_ | (refine Below.setCell ?_ ?_ _) | exact Nat.le_refl _ | (simp; done) | (simp; omega)))
 simp only [World.size_alloc] at t1
 have n0 : (0 : Int) ≤ (an : Int) := by omega
 have n1 : (an : Int) < 6 := by omega
 have gc := inB_true (show inB (bg b 18) 0 1000 = true by unfold goodB at hg; simp only [Bool.and_eq_true] at hg; exact hg.2)
 have bd := goodB_at hg ha
 unfold bF at bd
 simp only at bd
 obtain ⟨⟨d0, d1, d2, d3⟩, d4, d5⟩ := bd
 have HM := Lib.hid (show makeB b 1 (an : Int) (vn : Int) = true by unfold makeB makeK digitB; rw [if_pos rfl, inB_mk (by omega) (by omega), inB_mk (by omega) (by omega)]; rfl)
 have HX : Hid (madeB b 1 ((an : Int).toNat) (vn : Int) = b.set an (dg (vn : Int))) := by show _ = _; unfold madeB; rw [if_pos rfl, Int.toNat_natCast]
 have HA : Hid (inB (an : Int) 0 5 = true) := inB_mk (by omega) (by omega)
 have HV : Hid (inB (vn : Int) 0 9 = true) := inB_mk (by omega) (by omega)
 have v0 : (0 : Int) ≤ (vn : Int) := by omega
 have v1 : (vn : Int) ≤ 9 := by omega
 have HD := fun w => l2Digit_c (vn : Int) v0 v1 w
 generalize dg (vn : Int) = X1 at *
 unfold aggI jobV
 unfold zBA zB at *
 go_enter Tryz.func142, Tryz.ntmps142
 go_wp2_with fail
 refine (l1In_c _ _ _ _).mono ?_
 rintro e w1 ⟨rfl, rfl⟩
 rw [HA.out]
 go_wp2_with fail
 refine (l1In_c _ _ _ _).mono ?_
 rintro e w1 ⟨rfl, rfl⟩
 rw [HV.out]
 generalize World.alloc _ _ = wb at *
 have HR := Lib.hid r0; have HT := Lib.hid t0; have HT1 := Lib.hid t1; have HBW := Lib.hid hb0
 have GC := Lib.hid gc
 clear r0 t0 t1 hb0 gc
 go_wp2
 go_region_held3 (fun w' => w'.cell? ⟨w.heap.size + 1, 1, none⟩ = some (.int .i64 (an : Int)) ∧ w'.cell? ⟨w.heap.size + 1, 2, none⟩ = some (.int .i64 (vn : Int)))
  (first | (go_split_ands; exact ⟨cell_later ‹_› ‹_›, cell_later ‹_› ‹_›⟩) | (go_split_ands; refine ⟨?_, ?_⟩ <;> (rw [World.cell?_setCell_other _ _ _ _ (by simp)]; assumption)) | go_keep)
  ((go_at_call 141; refine (HD _).mono ?_; rintro e w' ⟨rfl, hb3⟩; have hB : Below wb.heap.size wb w' := Below.chain (Below.refl _ _).drew hb3; have p0 := cell18 (range_below HR.out hB) (j := an) (by omega); have f0 := there_froz (there_below HT.out hB) (j := an) (by omega)))
 go_split_ands
 have r0 := range_below HR.out hB
 have t0 := there_below HT.out hB
 have t1 := there_below HT1.out hB
 have hb0 := Below.chain HBW.out hB
 have hl : (b.set (an) (X1)).length = 19 := by simp [hb]
 have R1 := (range_set r0 (j := an) (X1) (by omega))
 have T0 := (there_set t0 w.heap.size (an) (.int .i64 (X1)))
 have T1 := (there_set t1 w.heap.size (an) (.int .i64 (X1)))
 have B1 := (Below.setCell hb0 (p := ⟨w.heap.size, an, none⟩) (Nat.le_refl _) (.int .i64 (X1)))
 have K := World.rangeAt_setCells_same _ (w.heap.size + 1 + 1) 0 (ints (b.set (an) (X1))) (by simpa [hb] using T1)
 have K6 := below_cells (ints (b.set (an) (X1))) _ (w.heap.size + 1 + 1) 0 B1 (by omega)
 have K5 := loadVarB K hl
 clear r0 t0 t1 hb0 T0 B1
 generalize hbb : (b.set (an) (X1)) = bb at *
 have HBB := Lib.hid hbb; clear hbb
 clear K
 go_wp2_with (first | (refine wpList_loadB rfl _ rfl _ rfl _ R1 hl ?_) | (refine wpList_storeB rfl _ _ rfl _ _ rfl rfl T1 hl ?_))
 exact bodyPost_ret (v := mkV bb true) (res_cell2 Tryz.results142 rfl K5) rfl (MkPost.mk' bb HM.out rfl hl (fun _ => HX.out.symm) K6)
set_option maxHeartbeats 2000000 in
theorem make_2 (b : List Int) (an : Nat) (v : Int) (w : World) (hb : b.length = 19) (hg : goodB b = true) (ha : an < 6) :
 Calls Tryz.prog 142 #[aggI b, jobV 2 (an : Int) v] w (MkPost w b 2 (an : Int) v) := by
 have r0 := World.rangeAt_alloc (World.rangeAt_alloc (range_new w (ints b) 26) (.cells #[.int .i64 2, .int .i64 (an : Int), .int .i64 v] 123)) zB
 have t0 := World.there_alloc (World.there_alloc (there_new w (ints b).toArray 26 (n := 19) (by simp [hb])) (.cells #[.int .i64 2, .int .i64 (an : Int), .int .i64 v] 123)) zB
 have t1 := there_new ((w.alloc (.cells (ints b).toArray 26)).alloc (.cells #[.int .i64 2, .int .i64 (an : Int), .int .i64 v] 123)) _ 26 (n := 19) (show 19 ≤ (zBA : Array Value).size by decide)
 have q0 : (((w.alloc (.cells (ints b).toArray 26)).alloc (.cells #[.int .i64 2, .int .i64 (an : Int), .int .i64 v] 123)).alloc zB).cell? ⟨w.heap.size + 1, 0, none⟩ = some (.int .i64 2) := cell_later (below_one _) (by rw [World.cell?_alloc_at _ _ _ _ (by simp)]; rfl)
 have q1 : (((w.alloc (.cells (ints b).toArray 26)).alloc (.cells #[.int .i64 2, .int .i64 (an : Int), .int .i64 v] 123)).alloc zB).cell? ⟨w.heap.size + 1, 1, none⟩ = some (.int .i64 (an : Int)) := cell_later (below_one _) (by rw [World.cell?_alloc_at _ _ _ _ (by simp)]; rfl)
 have q2 : (((w.alloc (.cells (ints b).toArray 26)).alloc (.cells #[.int .i64 2, .int .i64 (an : Int), .int .i64 v] 123)).alloc zB).cell? ⟨w.heap.size + 1, 2, none⟩ = some (.int .i64 v) := cell_later (below_one _) (by rw [World.cell?_alloc_at _ _ _ _ (by simp)]; rfl)
 have hb0 : Below w.heap.size w (((w.alloc (.cells (ints b).toArray 26)).alloc (.cells #[.int .i64 2, .int .i64 (an : Int), .int .i64 v] 123)).alloc zB) := by (repeat (first | exact Below.refl _ _ | exact (Below.refl _ _).drew | assumption | exact below_one _ | refine Below.chain ?_ (by assumption) | refine Below.drew ?_ | refine Below.alc ?_ _ | refine below_drewN ?_ | (refine Below.setCell ?_ ?_ _) | exact Nat.le_refl _ | (simp; done) | (simp; omega)))
 simp only [World.size_alloc] at t1
 have n0 : (0 : Int) ≤ (an : Int) := by omega
 have n1 : (an : Int) < 6 := by omega
 have gc := inB_true (show inB (bg b 18) 0 1000 = true by unfold goodB at hg; simp only [Bool.and_eq_true] at hg; exact hg.2)
 have bd := goodB_at hg ha
 unfold bF at bd
 simp only at bd
 obtain ⟨⟨d0, d1, d2, d3⟩, d4, d5⟩ := bd
 have HM := Lib.hid (show makeB b 2 (an : Int) v = (v == 0) by unfold makeB makeK; rw [if_neg (by omega), if_pos rfl, inB_mk (by omega) (by omega)]; rfl)
 have HX : Hid (madeB b 2 ((an : Int).toNat) v = b.set an 0) := by show _ = _; unfold madeB; rw [if_neg (by omega), if_pos rfl, Int.toNat_natCast]
 have HA : Hid (inB (an : Int) 0 5 = true) := inB_mk (by omega) (by omega)
 unfold aggI jobV
 unfold zBA zB at *
 go_enter Tryz.func142, Tryz.ntmps142
 go_wp2_with fail
 refine (l1In_c _ _ _ _).mono ?_
 rintro e w1 ⟨rfl, rfl⟩
 rw [HA.out]
 generalize World.alloc _ _ = wb at *
 have g1 := cell18 r0 (j := an) (by omega)
 have f1 := there_froz t0 (j := an) (by omega)
 have hl : (b.set (an) (0)).length = 19 := by simp [hb]
 have R1 := (range_set r0 (j := an) (0) (by omega))
 have T0 := (there_set t0 w.heap.size (an) (.int .i64 (0)))
 have T1 := (there_set t1 w.heap.size (an) (.int .i64 (0)))
 have B1 := (Below.setCell hb0 (p := ⟨w.heap.size, an, none⟩) (Nat.le_refl _) (.int .i64 (0)))
 have K := World.rangeAt_setCells_same _ (w.heap.size + 1 + 1) 0 (ints (b.set (an) (0))) (by simpa [hb] using T1)
 have K6 := below_cells (ints (b.set (an) (0))) _ (w.heap.size + 1 + 1) 0 B1 (by omega)
 have K5 := loadVarB K hl
 clear r0 t0 t1 hb0 T0 K K5 K6
 generalize hbb : (b.set (an) (0)) = bb at *
 have HBB := Lib.hid hbb; clear hbb
 have q2' := World.cell?_setCell_other wb ⟨w.heap.size, an, none⟩ ⟨w.heap.size + 1, 2, none⟩ (.int .i64 0) (by simp)
 rw [q2] at q2'
 have B3 := B1; clear B1
 go_wp2
 generalize World.setCell _ _ _ = w3 at *
 refine wp_region_held_drew (S := fun w' : World => w'.rangeAt (w.heap.size) 0 (ints bb) ∧ w'.there (w.heap.size + 1 + 1) 0 19 ∧ w'.cell? ⟨w.heap.size + 1, 2, none⟩ = some (.int .i64 v)) (by kernel_rfl) ⟨R1, T1, q2'⟩ (fun hHeld => ?_)
 refine' tkX 0 hHeld ?y0 ?r0
 case y0 =>
  refine' yieldsIf_load_mid ?hw _ _ rfl _ _ rfl (ints bb) _ ?hS ?hu ?hd ?hi
  case hw => rfl
  case hS => exact fun (w' : World) (h : w'.rangeAt (w.heap.size) 0 (ints bb) ∧ w'.there (w.heap.size + 1 + 1) 0 19 ∧ w'.cell? ⟨w.heap.size + 1, 2, none⟩ = some (.int .i64 v)) => h.1
  case hu => exact Tryz.underlying26
  case hd => rfl
  case hi => exact (hi19 hl)
 try simp only [Act.put, xqA, xqB, xqC]
 refine' tkY 1 hHeld ?r1
 try simp only [Act.put, xqA, xqB, xqC]
 refine' tkY 2 hHeld ?r2
 try simp only [Act.put, xqA, xqB, xqC]
 refine' tkY 3 hHeld ?r3
 try simp only [Act.put, xqA, xqB, xqC]
 refine wpAnyH_ready (rs := [4]) (by kernel_rfl) (by simp) ?_
 refine' AllReadyH.cons (o := _) ?e4 ?st4 AllReadyH.nil
 case e4 => (simp only [xeA, xeB, xeC]; exact rfl)
 intro K hK
 rw [if_pos (by rfl)]
 refine wp_store_mid _ _ _ rfl _ _ (ints bb).toArray rfl rfl (by simpa [ints, hl] using hHeld.2.1) (by simpa using hi19 hl) (all_oneCell_toArray ints_one) ?_
 simp only [Act.put, xqA, xqB, xqC, List.toList_toArray]
 refine hK.out _ _ ⟨World.rangeAt_setCells_apart (w := w3.drew) R1 (w.heap.size + 1 + 1) 0 (ints bb) (.inl (by omega)), World.there_setCells (w := w3.drew) T1 (w.heap.size + 1 + 1) 0 (ints bb), cell_far2 (show w3.drew.cell? _ = _ from q2') (by simp)⟩ (fun hHeld => ?_)
 clear hK K
 try simp only [Act.put, xqA, xqB, xqC]
 refine' tkY 5 hHeld ?r5
 try simp only [Act.put, xqA, xqB, xqC]
 refine wpAnyH_done (by kernel_rfl) ?_ _
 have K5 := loadVarB (World.rangeAt_setCells_same w3.drew (w.heap.size + 1 + 1) 0 (ints bb) (by simpa [hl] using T1)) hl
 have K6 := below_cells (ints bb) w3.drew (w.heap.size + 1 + 1) 0 B3.drew (by omega)
 go_wp2
 exact bodyPost_ret (v := mkV bb (v == 0)) (res_cell2 Tryz.results142 rfl K5) rfl (MkPost.mk' bb HM.out rfl hl (fun _ => HX.out.symm) K6)
set_option maxHeartbeats 2000000 in
theorem make_3n (b : List Int) (an : Nat) (v : Int) (w : World) (hb : b.length = 19) (hg : goodB b = true) (ha : an < 6) (hv : inB v 0 6 = false) :
 Calls Tryz.prog 142 #[aggI b, jobV 3 (an : Int) v] w (MkPost w b 3 (an : Int) v) := by
 have r0 := World.rangeAt_alloc (World.rangeAt_alloc (range_new w (ints b) 26) (.cells #[.int .i64 3, .int .i64 (an : Int), .int .i64 v] 123)) zB
 have t0 := World.there_alloc (World.there_alloc (there_new w (ints b).toArray 26 (n := 19) (by simp [hb])) (.cells #[.int .i64 3, .int .i64 (an : Int), .int .i64 v] 123)) zB
 have t1 := there_new ((w.alloc (.cells (ints b).toArray 26)).alloc (.cells #[.int .i64 3, .int .i64 (an : Int), .int .i64 v] 123)) _ 26 (n := 19) (show 19 ≤ (zBA : Array Value).size by decide)
 have q0 : (((w.alloc (.cells (ints b).toArray 26)).alloc (.cells #[.int .i64 3, .int .i64 (an : Int), .int .i64 v] 123)).alloc zB).cell? ⟨w.heap.size + 1, 0, none⟩ = some (.int .i64 3) := cell_later (below_one _) (by rw [World.cell?_alloc_at _ _ _ _ (by simp)]; rfl)
 have q1 : (((w.alloc (.cells (ints b).toArray 26)).alloc (.cells #[.int .i64 3, .int .i64 (an : Int), .int .i64 v] 123)).alloc zB).cell? ⟨w.heap.size + 1, 1, none⟩ = some (.int .i64 (an : Int)) := cell_later (below_one _) (by rw [World.cell?_alloc_at _ _ _ _ (by simp)]; rfl)
 have q2 : (((w.alloc (.cells (ints b).toArray 26)).alloc (.cells #[.int .i64 3, .int .i64 (an : Int), .int .i64 v] 123)).alloc zB).cell? ⟨w.heap.size + 1, 2, none⟩ = some (.int .i64 v) := cell_later (below_one _) (by rw [World.cell?_alloc_at _ _ _ _ (by simp)]; rfl)
 have hb0 : Below w.heap.size w (((w.alloc (.cells (ints b).toArray 26)).alloc (.cells #[.int .i64 3, .int .i64 (an : Int), .int .i64 v] 123)).alloc zB) := by (repeat (first | exact Below.refl _ _ | exact (Below.refl _ _).drew | assumption | exact below_one _ | refine Below.chain ?_ (by assumption) | refine Below.drew ?_ | refine Below.alc ?_ _ | refine below_drewN ?_ | (refine Below.setCell ?_ ?_ _) | exact Nat.le_refl _ | (simp; done) | (simp; omega)))
 simp only [World.size_alloc] at t1
 have n0 : (0 : Int) ≤ (an : Int) := by omega
 have n1 : (an : Int) < 6 := by omega
 have gc := inB_true (show inB (bg b 18) 0 1000 = true by unfold goodB at hg; simp only [Bool.and_eq_true] at hg; exact hg.2)
 have bd := goodB_at hg ha
 unfold bF at bd
 simp only at bd
 obtain ⟨⟨d0, d1, d2, d3⟩, d4, d5⟩ := bd
 have HM := Lib.hid (show makeB b 3 (an : Int) v = false by unfold makeB makeK; rw [if_neg (show ¬ (3 : Int) = 1 by omega), if_neg (show ¬ (3 : Int) = 2 by omega), if_pos rfl, inB_mk (show (0 : Int) ≤ (an : Int) by omega) (by omega), Int.toNat_natCast, hv, Bool.false_and, Bool.and_false])
 have HX : Hid (false = true → b = madeB b 3 ((an : Int).toNat) v) := fun h => by cases h
 have HA : Hid (inB (an : Int) 0 5 = true) := inB_mk (by omega) (by omega)
 have hl : b.length = 19 := by simp [hb]
 have HF := fun w => fail_no3 b an v w hb hg ha hv
 have HFF := Lib.hid HF; clear HF
 unfold mkV aggI jobV at HFF
 clear hv
 unfold aggI jobV
 unfold zBA zB at *
 go_enter Tryz.func142, Tryz.ntmps142
 go_wp2_with fail
 refine (l1In_c _ _ _ _).mono ?_
 rintro e w1 ⟨rfl, rfl⟩
 rw [HA.out]
 generalize World.alloc _ _ = wb at *
 go_wp2_with (refine wpList_loadB rfl _ rfl _ rfl _ r0 hb ?_)
 refine (HFF.out _).mono ?_
 rintro e w1 ⟨rfl, hb1⟩
 have u1 := there_below t1 hb1
 have b1 := Below.chain hb0 hb1
 have K := World.rangeAt_setCells_same w1 (w.heap.size + 1 + 1) 0 (ints b) (by simpa [hl] using u1)
 have K6 := below_cells (ints b) w1 (w.heap.size + 1 + 1) 0 b1 (by omega)
 have K5 := loadVarB K hl
 clear r0 t0 t1 hb0 hb1 b1 K q0 q1 q2
 go_wp2_with (refine wpList_storeB rfl _ _ rfl _ b rfl rfl u1 hl ?_)
 exact bodyPost_ret (v := mkV b false) (res_cell2 Tryz.results142 rfl K5) rfl (MkPost.mk' b HM.out rfl hl HX.out K6)
set_option maxHeartbeats 2000000 in
theorem make_3y (b : List Int) (an vn : Nat) (w : World) (hb : b.length = 19) (hg : goodB b = true) (ha : an < 6) (hv : vn < 7) :
 Calls Tryz.prog 142 #[aggI b, jobV 3 (an : Int) (vn : Int)] w (MkPost w b 3 (an : Int) (vn : Int)) := by
 have r0 := World.rangeAt_alloc (World.rangeAt_alloc (range_new w (ints b) 26) (.cells #[.int .i64 3, .int .i64 (an : Int), .int .i64 (vn : Int)] 123)) zB
 have t0 := World.there_alloc (World.there_alloc (there_new w (ints b).toArray 26 (n := 19) (by simp [hb])) (.cells #[.int .i64 3, .int .i64 (an : Int), .int .i64 (vn : Int)] 123)) zB
 have t1 := there_new ((w.alloc (.cells (ints b).toArray 26)).alloc (.cells #[.int .i64 3, .int .i64 (an : Int), .int .i64 (vn : Int)] 123)) _ 26 (n := 19) (show 19 ≤ (zBA : Array Value).size by decide)
 have q0 : (((w.alloc (.cells (ints b).toArray 26)).alloc (.cells #[.int .i64 3, .int .i64 (an : Int), .int .i64 (vn : Int)] 123)).alloc zB).cell? ⟨w.heap.size + 1, 0, none⟩ = some (.int .i64 3) := cell_later (below_one _) (by rw [World.cell?_alloc_at _ _ _ _ (by simp)]; rfl)
 have q1 : (((w.alloc (.cells (ints b).toArray 26)).alloc (.cells #[.int .i64 3, .int .i64 (an : Int), .int .i64 (vn : Int)] 123)).alloc zB).cell? ⟨w.heap.size + 1, 1, none⟩ = some (.int .i64 (an : Int)) := cell_later (below_one _) (by rw [World.cell?_alloc_at _ _ _ _ (by simp)]; rfl)
 have q2 : (((w.alloc (.cells (ints b).toArray 26)).alloc (.cells #[.int .i64 3, .int .i64 (an : Int), .int .i64 (vn : Int)] 123)).alloc zB).cell? ⟨w.heap.size + 1, 2, none⟩ = some (.int .i64 (vn : Int)) := cell_later (below_one _) (by rw [World.cell?_alloc_at _ _ _ _ (by simp)]; rfl)
 have hb0 : Below w.heap.size w (((w.alloc (.cells (ints b).toArray 26)).alloc (.cells #[.int .i64 3, .int .i64 (an : Int), .int .i64 (vn : Int)] 123)).alloc zB) := by (repeat (first | exact Below.refl _ _ | exact (Below.refl _ _).drew | assumption | exact below_one _ | refine Below.chain ?_ (by assumption) | refine Below.drew ?_ | refine Below.alc ?_ _ | refine below_drewN ?_ | (refine Below.setCell ?_ ?_ _) | exact Nat.le_refl _ | (simp; done) | (simp; omega)))
 simp only [World.size_alloc] at t1
 have n0 : (0 : Int) ≤ (an : Int) := by omega
 have n1 : (an : Int) < 6 := by omega
 have gc := inB_true (show inB (bg b 18) 0 1000 = true by unfold goodB at hg; simp only [Bool.and_eq_true] at hg; exact hg.2)
 have bd := goodB_at hg ha
 unfold bF at bd
 simp only at bd
 obtain ⟨⟨d0, d1, d2, d3⟩, d4, d5⟩ := bd
 have HM := Lib.hid (show makeB b 3 (an : Int) (vn : Int) = (!barB (bg b (6 + an)) (vn : Int)) by unfold makeB makeK; rw [if_neg (show ¬ (3 : Int) = 1 by omega), if_neg (show ¬ (3 : Int) = 2 by omega), if_pos rfl, inB_mk (show (0 : Int) ≤ (an : Int) by omega) (by omega), Int.toNat_natCast, inB_mk (show (0 : Int) ≤ (vn : Int) by omega) (by omega), Bool.true_and, Bool.true_and])
 have HX : Hid ((!barB (bg b (6 + an)) (vn : Int)) = true → ((b.set (6 + an) (orC (bg b (6 + an)) (bitC (vn : Int)))).set (12 + an) (anC (bg b (12 + an)) (bitC (vn : Int)))) = madeB b 3 ((an : Int).toNat) (vn : Int)) := fun _ => by unfold madeB; rw [if_neg (show ¬ (3 : Int) = 1 by omega), if_neg (show ¬ (3 : Int) = 2 by omega), if_pos rfl, Int.toNat_natCast]
 have HA : Hid (inB (an : Int) 0 5 = true) := inB_mk (by omega) (by omega)
 have hl : ((b.set (6 + an) (orC (bg b (6 + an)) (bitC (vn : Int)))).set (12 + an) (anC (bg b (12 + an)) (bitC (vn : Int)))).length = 19 := by simp [hb]
 have HF := fun w => fail_yes3 b an vn w hb hg ha hv
 generalize ((b.set (6 + an) (orC (bg b (6 + an)) (bitC (vn : Int)))).set (12 + an) (anC (bg b (12 + an)) (bitC (vn : Int)))) = bb at *
 generalize (!barB (bg b (6 + an)) (vn : Int)) = okv at *
 have HFF := Lib.hid HF; clear HF
 unfold mkV aggI jobV at HFF
 unfold aggI jobV
 unfold zBA zB at *
 go_enter Tryz.func142, Tryz.ntmps142
 go_wp2_with fail
 refine (l1In_c _ _ _ _).mono ?_
 rintro e w1 ⟨rfl, rfl⟩
 rw [HA.out]
 generalize World.alloc _ _ = wb at *
 go_wp2_with (refine wpList_loadB rfl _ rfl _ rfl _ r0 hb ?_)
 refine (HFF.out _).mono ?_
 rintro e w1 ⟨rfl, hb1⟩
 have u1 := there_below t1 hb1
 have b1 := Below.chain hb0 hb1
 have K := World.rangeAt_setCells_same w1 (w.heap.size + 1 + 1) 0 (ints bb) (by simpa [hl] using u1)
 have K6 := below_cells (ints bb) w1 (w.heap.size + 1 + 1) 0 b1 (by omega)
 have K5 := loadVarB K hl
 clear r0 t0 t1 hb0 hb1 b1 K q0 q1 q2
 go_wp2_with (refine wpList_storeB rfl _ _ rfl _ bb rfl rfl u1 hl ?_)
 exact bodyPost_ret (v := mkV bb okv) (res_cell2 Tryz.results142 rfl K5) rfl (MkPost.mk' bb HM.out rfl hl HX.out K6)
set_option maxHeartbeats 2000000 in
theorem make_4n (b : List Int) (an : Nat) (v : Int) (w : World) (hb : b.length = 19) (hg : goodB b = true) (ha : an < 6) (hv : inB v 0 6 = false) :
 Calls Tryz.prog 142 #[aggI b, jobV 4 (an : Int) v] w (MkPost w b 4 (an : Int) v) := by
 have r0 := World.rangeAt_alloc (World.rangeAt_alloc (range_new w (ints b) 26) (.cells #[.int .i64 4, .int .i64 (an : Int), .int .i64 v] 123)) zB
 have t0 := World.there_alloc (World.there_alloc (there_new w (ints b).toArray 26 (n := 19) (by simp [hb])) (.cells #[.int .i64 4, .int .i64 (an : Int), .int .i64 v] 123)) zB
 have t1 := there_new ((w.alloc (.cells (ints b).toArray 26)).alloc (.cells #[.int .i64 4, .int .i64 (an : Int), .int .i64 v] 123)) _ 26 (n := 19) (show 19 ≤ (zBA : Array Value).size by decide)
 have q0 : (((w.alloc (.cells (ints b).toArray 26)).alloc (.cells #[.int .i64 4, .int .i64 (an : Int), .int .i64 v] 123)).alloc zB).cell? ⟨w.heap.size + 1, 0, none⟩ = some (.int .i64 4) := cell_later (below_one _) (by rw [World.cell?_alloc_at _ _ _ _ (by simp)]; rfl)
 have q1 : (((w.alloc (.cells (ints b).toArray 26)).alloc (.cells #[.int .i64 4, .int .i64 (an : Int), .int .i64 v] 123)).alloc zB).cell? ⟨w.heap.size + 1, 1, none⟩ = some (.int .i64 (an : Int)) := cell_later (below_one _) (by rw [World.cell?_alloc_at _ _ _ _ (by simp)]; rfl)
 have q2 : (((w.alloc (.cells (ints b).toArray 26)).alloc (.cells #[.int .i64 4, .int .i64 (an : Int), .int .i64 v] 123)).alloc zB).cell? ⟨w.heap.size + 1, 2, none⟩ = some (.int .i64 v) := cell_later (below_one _) (by rw [World.cell?_alloc_at _ _ _ _ (by simp)]; rfl)
 have hb0 : Below w.heap.size w (((w.alloc (.cells (ints b).toArray 26)).alloc (.cells #[.int .i64 4, .int .i64 (an : Int), .int .i64 v] 123)).alloc zB) := by (repeat (first | exact Below.refl _ _ | exact (Below.refl _ _).drew | assumption | exact below_one _ | refine Below.chain ?_ (by assumption) | refine Below.drew ?_ | refine Below.alc ?_ _ | refine below_drewN ?_ | (refine Below.setCell ?_ ?_ _) | exact Nat.le_refl _ | (simp; done) | (simp; omega)))
 simp only [World.size_alloc] at t1
 have n0 : (0 : Int) ≤ (an : Int) := by omega
 have n1 : (an : Int) < 6 := by omega
 have gc := inB_true (show inB (bg b 18) 0 1000 = true by unfold goodB at hg; simp only [Bool.and_eq_true] at hg; exact hg.2)
 have bd := goodB_at hg ha
 unfold bF at bd
 simp only at bd
 obtain ⟨⟨d0, d1, d2, d3⟩, d4, d5⟩ := bd
 have HM := Lib.hid (show makeB b 4 (an : Int) v = false by unfold makeB makeK; rw [if_neg (show ¬ (4 : Int) = 1 by omega), if_neg (show ¬ (4 : Int) = 2 by omega), if_neg (show ¬ (4 : Int) = 3 by omega), if_pos rfl, inB_mk (show (0 : Int) ≤ (an : Int) by omega) (by omega), Int.toNat_natCast, hv, Bool.false_and, Bool.and_false])
 have HX : Hid (false = true → b = madeB b 4 ((an : Int).toNat) v) := fun h => by cases h
 have HA : Hid (inB (an : Int) 0 5 = true) := inB_mk (by omega) (by omega)
 have hl : b.length = 19 := by simp [hb]
 have HF := fun w => fail_no4 b an v w hb hg ha hv
 have HFF := Lib.hid HF; clear HF
 unfold mkV aggI jobV at HFF
 clear hv
 unfold aggI jobV
 unfold zBA zB at *
 go_enter Tryz.func142, Tryz.ntmps142
 go_wp2_with fail
 refine (l1In_c _ _ _ _).mono ?_
 rintro e w1 ⟨rfl, rfl⟩
 rw [HA.out]
 generalize World.alloc _ _ = wb at *
 go_wp2_with (refine wpList_loadB rfl _ rfl _ rfl _ r0 hb ?_)
 refine (HFF.out _).mono ?_
 rintro e w1 ⟨rfl, hb1⟩
 have u1 := there_below t1 hb1
 have b1 := Below.chain hb0 hb1
 have K := World.rangeAt_setCells_same w1 (w.heap.size + 1 + 1) 0 (ints b) (by simpa [hl] using u1)
 have K6 := below_cells (ints b) w1 (w.heap.size + 1 + 1) 0 b1 (by omega)
 have K5 := loadVarB K hl
 clear r0 t0 t1 hb0 hb1 b1 K q0 q1 q2
 go_wp2_with (refine wpList_storeB rfl _ _ rfl _ b rfl rfl u1 hl ?_)
 exact bodyPost_ret (v := mkV b false) (res_cell2 Tryz.results142 rfl K5) rfl (MkPost.mk' b HM.out rfl hl HX.out K6)
set_option maxHeartbeats 2000000 in
theorem make_4y (b : List Int) (an vn : Nat) (w : World) (hb : b.length = 19) (hg : goodB b = true) (ha : an < 6) (hv : vn < 7) :
 Calls Tryz.prog 142 #[aggI b, jobV 4 (an : Int) (vn : Int)] w (MkPost w b 4 (an : Int) (vn : Int)) := by
 have r0 := World.rangeAt_alloc (World.rangeAt_alloc (range_new w (ints b) 26) (.cells #[.int .i64 4, .int .i64 (an : Int), .int .i64 (vn : Int)] 123)) zB
 have t0 := World.there_alloc (World.there_alloc (there_new w (ints b).toArray 26 (n := 19) (by simp [hb])) (.cells #[.int .i64 4, .int .i64 (an : Int), .int .i64 (vn : Int)] 123)) zB
 have t1 := there_new ((w.alloc (.cells (ints b).toArray 26)).alloc (.cells #[.int .i64 4, .int .i64 (an : Int), .int .i64 (vn : Int)] 123)) _ 26 (n := 19) (show 19 ≤ (zBA : Array Value).size by decide)
 have q0 : (((w.alloc (.cells (ints b).toArray 26)).alloc (.cells #[.int .i64 4, .int .i64 (an : Int), .int .i64 (vn : Int)] 123)).alloc zB).cell? ⟨w.heap.size + 1, 0, none⟩ = some (.int .i64 4) := cell_later (below_one _) (by rw [World.cell?_alloc_at _ _ _ _ (by simp)]; rfl)
 have q1 : (((w.alloc (.cells (ints b).toArray 26)).alloc (.cells #[.int .i64 4, .int .i64 (an : Int), .int .i64 (vn : Int)] 123)).alloc zB).cell? ⟨w.heap.size + 1, 1, none⟩ = some (.int .i64 (an : Int)) := cell_later (below_one _) (by rw [World.cell?_alloc_at _ _ _ _ (by simp)]; rfl)
 have q2 : (((w.alloc (.cells (ints b).toArray 26)).alloc (.cells #[.int .i64 4, .int .i64 (an : Int), .int .i64 (vn : Int)] 123)).alloc zB).cell? ⟨w.heap.size + 1, 2, none⟩ = some (.int .i64 (vn : Int)) := cell_later (below_one _) (by rw [World.cell?_alloc_at _ _ _ _ (by simp)]; rfl)
 have hb0 : Below w.heap.size w (((w.alloc (.cells (ints b).toArray 26)).alloc (.cells #[.int .i64 4, .int .i64 (an : Int), .int .i64 (vn : Int)] 123)).alloc zB) := by (repeat (first | exact Below.refl _ _ | exact (Below.refl _ _).drew | assumption | exact below_one _ | refine Below.chain ?_ (by assumption) | refine Below.drew ?_ | refine Below.alc ?_ _ | refine below_drewN ?_ | (refine Below.setCell ?_ ?_ _) | exact Nat.le_refl _ | (simp; done) | (simp; omega)))
 simp only [World.size_alloc] at t1
 have n0 : (0 : Int) ≤ (an : Int) := by omega
 have n1 : (an : Int) < 6 := by omega
 have gc := inB_true (show inB (bg b 18) 0 1000 = true by unfold goodB at hg; simp only [Bool.and_eq_true] at hg; exact hg.2)
 have bd := goodB_at hg ha
 unfold bF at bd
 simp only at bd
 obtain ⟨⟨d0, d1, d2, d3⟩, d4, d5⟩ := bd
 have HM := Lib.hid (show makeB b 4 (an : Int) (vn : Int) = (!barB (bg b (12 + an)) (vn : Int)) by unfold makeB makeK; rw [if_neg (show ¬ (4 : Int) = 1 by omega), if_neg (show ¬ (4 : Int) = 2 by omega), if_neg (show ¬ (4 : Int) = 3 by omega), if_pos rfl, inB_mk (show (0 : Int) ≤ (an : Int) by omega) (by omega), Int.toNat_natCast, inB_mk (show (0 : Int) ≤ (vn : Int) by omega) (by omega), Bool.true_and, Bool.true_and])
 have HX : Hid ((!barB (bg b (12 + an)) (vn : Int)) = true → ((b.set (6 + an) (anC (bg b (6 + an)) (bitC (vn : Int)))).set (12 + an) (orC (bg b (12 + an)) (bitC (vn : Int)))) = madeB b 4 ((an : Int).toNat) (vn : Int)) := fun _ => by unfold madeB; rw [if_neg (show ¬ (4 : Int) = 1 by omega), if_neg (show ¬ (4 : Int) = 2 by omega), if_neg (show ¬ (4 : Int) = 3 by omega), if_pos rfl, Int.toNat_natCast]
 have HA : Hid (inB (an : Int) 0 5 = true) := inB_mk (by omega) (by omega)
 have hl : ((b.set (6 + an) (anC (bg b (6 + an)) (bitC (vn : Int)))).set (12 + an) (orC (bg b (12 + an)) (bitC (vn : Int)))).length = 19 := by simp [hb]
 have HF := fun w => fail_yes4 b an vn w hb hg ha hv
 generalize ((b.set (6 + an) (anC (bg b (6 + an)) (bitC (vn : Int)))).set (12 + an) (orC (bg b (12 + an)) (bitC (vn : Int)))) = bb at *
 generalize (!barB (bg b (12 + an)) (vn : Int)) = okv at *
 have HFF := Lib.hid HF; clear HF
 unfold mkV aggI jobV at HFF
 unfold aggI jobV
 unfold zBA zB at *
 go_enter Tryz.func142, Tryz.ntmps142
 go_wp2_with fail
 refine (l1In_c _ _ _ _).mono ?_
 rintro e w1 ⟨rfl, rfl⟩
 rw [HA.out]
 generalize World.alloc _ _ = wb at *
 go_wp2_with (refine wpList_loadB rfl _ rfl _ rfl _ r0 hb ?_)
 refine (HFF.out _).mono ?_
 rintro e w1 ⟨rfl, hb1⟩
 have u1 := there_below t1 hb1
 have b1 := Below.chain hb0 hb1
 have K := World.rangeAt_setCells_same w1 (w.heap.size + 1 + 1) 0 (ints bb) (by simpa [hl] using u1)
 have K6 := below_cells (ints bb) w1 (w.heap.size + 1 + 1) 0 b1 (by omega)
 have K5 := loadVarB K hl
 clear r0 t0 t1 hb0 hb1 b1 K q0 q1 q2
 go_wp2_with (refine wpList_storeB rfl _ _ rfl _ bb rfl rfl u1 hl ?_)
 exact bodyPost_ret (v := mkV bb okv) (res_cell2 Tryz.results142 rfl K5) rfl (MkPost.mk' bb HM.out rfl hl HX.out K6)
theorem or_zero {x y : Int} (x0 : 0 ≤ x) (x1 : x ≤ 127) (y0 : 0 ≤ y) (y1 : y ≤ 127) : ∃ m : Int, bits .or .i64 x y = m ∧ (m == 0) = ((x == 0) && (y == 0)) := by
 obtain ⟨x, rfl⟩ := Int.eq_ofNat_of_zero_le x0
 obtain ⟨y, rfl⟩ := Int.eq_ofNat_of_zero_le y0
 refine ⟨((x ||| y : Nat) : Int), i64_or_nat _ _ (by omega) (by omega), ?_⟩
 rw [Bool.eq_iff_iff]
 simp only [Bool.and_eq_true, beq_iff_eq]
 constructor
 · intro h
   have h0 : x ||| y = 0 := by omega
   have := Nat.or_eq_zero_iff.1 h0
   omega
 · rintro ⟨h1, h2⟩
   have h3 : x = 0 := by omega
   have h4 : y = 0 := by omega
   rw [h3, h4]; rfl
set_option maxHeartbeats 2000000 in
theorem make_5n (b : List Int) (an : Nat) (v : Int) (w : World) (hb : b.length = 19) (hg : goodB b = true) (ha : an < 6) (hz : ((bg b (6 + an) == 0) && (bg b (12 + an) == 0)) = true) :
 Calls Tryz.prog 142 #[aggI b, jobV 5 (an : Int) v] w (MkPost w b 5 (an : Int) v) := by
 have r0 := World.rangeAt_alloc (World.rangeAt_alloc (range_new w (ints b) 26) (.cells #[.int .i64 5, .int .i64 (an : Int), .int .i64 v] 123)) zB
 have t0 := World.there_alloc (World.there_alloc (there_new w (ints b).toArray 26 (n := 19) (by simp [hb])) (.cells #[.int .i64 5, .int .i64 (an : Int), .int .i64 v] 123)) zB
 have t1 := there_new ((w.alloc (.cells (ints b).toArray 26)).alloc (.cells #[.int .i64 5, .int .i64 (an : Int), .int .i64 v] 123)) _ 26 (n := 19) (show 19 ≤ (zBA : Array Value).size by decide)
 have q0 : (((w.alloc (.cells (ints b).toArray 26)).alloc (.cells #[.int .i64 5, .int .i64 (an : Int), .int .i64 v] 123)).alloc zB).cell? ⟨w.heap.size + 1, 0, none⟩ = some (.int .i64 5) := cell_later (below_one _) (by rw [World.cell?_alloc_at _ _ _ _ (by simp)]; rfl)
 have q1 : (((w.alloc (.cells (ints b).toArray 26)).alloc (.cells #[.int .i64 5, .int .i64 (an : Int), .int .i64 v] 123)).alloc zB).cell? ⟨w.heap.size + 1, 1, none⟩ = some (.int .i64 (an : Int)) := cell_later (below_one _) (by rw [World.cell?_alloc_at _ _ _ _ (by simp)]; rfl)
 have q2 : (((w.alloc (.cells (ints b).toArray 26)).alloc (.cells #[.int .i64 5, .int .i64 (an : Int), .int .i64 v] 123)).alloc zB).cell? ⟨w.heap.size + 1, 2, none⟩ = some (.int .i64 v) := cell_later (below_one _) (by rw [World.cell?_alloc_at _ _ _ _ (by simp)]; rfl)
 have hb0 : Below w.heap.size w (((w.alloc (.cells (ints b).toArray 26)).alloc (.cells #[.int .i64 5, .int .i64 (an : Int), .int .i64 v] 123)).alloc zB) := by (repeat (first | exact Below.refl _ _ | exact (Below.refl _ _).drew | assumption | exact below_one _ | refine Below.chain ?_ (by assumption) | refine Below.drew ?_ | refine Below.alc ?_ _ | refine below_drewN ?_ | (refine Below.setCell ?_ ?_ _) | exact Nat.le_refl _ | (simp; done) | (simp; omega)))
 simp only [World.size_alloc] at t1
 have n0 : (0 : Int) ≤ (an : Int) := by omega
 have n1 : (an : Int) < 6 := by omega
 have gc := inB_true (show inB (bg b 18) 0 1000 = true by unfold goodB at hg; simp only [Bool.and_eq_true] at hg; exact hg.2)
 have bd := goodB_at hg ha
 unfold bF at bd
 simp only at bd
 obtain ⟨⟨d0, d1, d2, d3⟩, d4, d5⟩ := bd
 have HM := Lib.hid (show makeB b 5 (an : Int) v = false by unfold makeB makeK; rw [if_neg (show ¬ (5 : Int) = 1 by omega), if_neg (show ¬ (5 : Int) = 2 by omega), if_neg (show ¬ (5 : Int) = 3 by omega), if_neg (show ¬ (5 : Int) = 4 by omega), if_pos rfl, inB_mk (show (0 : Int) ≤ (an : Int) by omega) (by omega), Int.toNat_natCast, hz]; simp)
 have HX : Hid (madeB b 5 ((an : Int).toNat) v = ((b.set (6 + an) (0)).set (12 + an) (0))) := by show _ = _; unfold madeB; rw [if_neg (show ¬ (5 : Int) = 1 by omega), if_neg (show ¬ (5 : Int) = 2 by omega), if_neg (show ¬ (5 : Int) = 3 by omega), if_neg (show ¬ (5 : Int) = 4 by omega), if_pos rfl, Int.toNat_natCast]
 have HA : Hid (inB (an : Int) 0 5 = true) := inB_mk (by omega) (by omega)
 obtain ⟨M, HO, HZ⟩ := or_zero d0 d1 d2 d3
 rw [hz] at HZ
 have HZ2 : (M != 0) = false := by simp [bne, HZ]
 clear hz
 unfold aggI jobV
 unfold zBA zB at *
 go_enter Tryz.func142, Tryz.ntmps142
 go_wp2_with fail
 refine (l1In_c _ _ _ _).mono ?_
 rintro e w1 ⟨rfl, rfl⟩
 rw [HA.out]
 generalize World.alloc _ _ = wb at *
 have g1 := cell18 r0 (j := 6 + an) (by omega)
 have g2 := cell18 r0 (j := 12 + an) (by omega)
 have f1 := there_froz t0 (j := 6 + an) (by omega)
 have f2 := there_froz t0 (j := 12 + an) (by omega)
 go_wp2
 go_region
 have r1 : wb.drew.rangeAt w.heap.size 0 (ints b) := r0
 have u0 : wb.drew.there w.heap.size 0 19 := t0
 have u1 : wb.drew.there (w.heap.size + 1 + 1) 0 19 := t1
 have hb1 : Below w.heap.size w wb.drew := hb0.drew
 clear r0 t0 t1 hb0
 have r0 := r1; have t0 := u0; have t1 := u1; have hb0 := hb1
 clear r1 u0 u1 hb1
 have g1 : wb.drew.cell? ⟨w.heap.size, 6 + an, none⟩ = _ := g1
 have g2 : wb.drew.cell? ⟨w.heap.size, 12 + an, none⟩ = _ := g2
 have f1 : wb.drew.frozen? ⟨w.heap.size, 6 + an, none⟩ = _ := f1
 have f2 : wb.drew.frozen? ⟨w.heap.size, 12 + an, none⟩ = _ := f2
 have q0 : wb.drew.cell? ⟨w.heap.size + 1, 0, none⟩ = _ := q0
 have q1 : wb.drew.cell? ⟨w.heap.size + 1, 1, none⟩ = _ := q1
 have q2 : wb.drew.cell? ⟨w.heap.size + 1, 2, none⟩ = _ := q2
 generalize wb.drew = wd at *
 have hl : ((b.set (6 + an) (0)).set (12 + an) (0)).length = 19 := by simp [hb]
 have R1 := (range_set (range_set r0 (j := 6 + an) (0) (by omega)) (j := 12 + an) (0) (by simp; omega))
 have T0 := (there_set (there_set t0 w.heap.size (6 + an) (.int .i64 (0))) w.heap.size (12 + an) (.int .i64 (0)))
 have T1 := (there_set (there_set t1 w.heap.size (6 + an) (.int .i64 (0))) w.heap.size (12 + an) (.int .i64 (0)))
 have B1 := (Below.setCell (Below.setCell hb0 (p := ⟨w.heap.size, 6 + an, none⟩) (Nat.le_refl _) (.int .i64 (0))) (p := ⟨w.heap.size, 12 + an, none⟩) (Nat.le_refl _) (.int .i64 (0)))
 have K := World.rangeAt_setCells_same _ (w.heap.size + 1 + 1) 0 (ints ((b.set (6 + an) (0)).set (12 + an) (0))) (by simpa [hb] using T1)
 have K6 := below_cells (ints ((b.set (6 + an) (0)).set (12 + an) (0))) _ (w.heap.size + 1 + 1) 0 B1 (by omega)
 have K5 := loadVarB K hl
 clear r0 t0 t1 hb0 T0 K K5 K6
 generalize hbb : ((b.set (6 + an) (0)).set (12 + an) (0)) = bb at *
 have HBB := Lib.hid hbb; clear hbb
 have q2' : ((wd.setCell ⟨w.heap.size, 6 + an, none⟩ (.int .i64 (0))).setCell ⟨w.heap.size, 12 + an, none⟩ (.int .i64 (0))).cell? ⟨w.heap.size + 1, 2, none⟩ = some (.int .i64 v) := by rw [World.cell?_setCell_other _ _ _ _ (by simp), World.cell?_setCell_other _ _ _ _ (by simp)]; exact q2
 have B3 := B1; clear B1
 go_wp2
 generalize World.setCell _ _ _ = w3 at *
 refine wp_region_held_drew (S := fun w' : World => w'.rangeAt (w.heap.size) 0 (ints bb) ∧ w'.there (w.heap.size + 1 + 1) 0 19 ∧ w'.cell? ⟨w.heap.size + 1, 2, none⟩ = some (.int .i64 v)) (by kernel_rfl) ⟨R1, T1, q2'⟩ (fun hHeld => ?_)
 refine' tkX 0 hHeld ?y0 ?r0
 case y0 =>
  refine' yieldsIf_load_mid ?hw _ _ rfl _ _ rfl (ints bb) _ ?hS ?hu ?hd ?hi
  case hw => rfl
  case hS => exact fun (w' : World) (h : w'.rangeAt (w.heap.size) 0 (ints bb) ∧ w'.there (w.heap.size + 1 + 1) 0 19 ∧ w'.cell? ⟨w.heap.size + 1, 2, none⟩ = some (.int .i64 v)) => h.1
  case hu => exact Tryz.underlying26
  case hd => rfl
  case hi => exact (hi19 hl)
 try simp only [Act.put, xqA, xqB, xqC]
 refine' tkY 1 hHeld ?r1
 try simp only [Act.put, xqA, xqB, xqC]
 refine' tkY 2 hHeld ?r2
 try simp only [Act.put, xqA, xqB, xqC]
 refine' tkX 3 (v := undef) hHeld ?y3 ?r3
 case y3 => exact Or.inr ⟨by rfl, rfl⟩
 try simp only [Act.put, xqA, xqB, xqC]
 refine' tkX 4 (v := undef) hHeld ?y4 ?r4
 case y4 => exact Or.inr ⟨by rfl, rfl⟩
 try simp only [Act.put, xqA, xqB, xqC]
 refine' tkX 5 (v := undef) hHeld ?y5 ?r5
 case y5 => exact Or.inr ⟨by rfl, rfl⟩
 try simp only [Act.put, xqA, xqB, xqC]
 refine' tkY 6 hHeld ?r6
 try simp only [Act.put, xqA, xqB, xqC]
 refine wpAnyH_ready (rs := [7]) (by kernel_rfl) (by simp) ?_
 refine' AllReadyH.cons (o := _) ?e7 ?st7 AllReadyH.nil
 case e7 => (simp only [xeA, xeB, xeC]; exact rfl)
 intro K hK
 rw [if_pos (by rfl)]
 refine wp_store_mid _ _ _ rfl _ _ (ints bb).toArray rfl rfl (by simpa [ints, hl] using hHeld.2.1) (by simpa using hi19 hl) (all_oneCell_toArray ints_one) ?_
 simp only [Act.put, xqA, xqB, xqC, List.toList_toArray]
 refine hK.out _ _ ⟨World.rangeAt_setCells_apart (w := w3.drew) R1 (w.heap.size + 1 + 1) 0 (ints bb) (.inl (by omega)), World.there_setCells (w := w3.drew) T1 (w.heap.size + 1 + 1) 0 (ints bb), cell_far2 (show w3.drew.cell? _ = _ from q2') (by simp)⟩ (fun hHeld => ?_)
 clear hK K
 try simp only [Act.put, xqA, xqB, xqC]
 refine' tkY 8 hHeld ?r8
 try simp only [Act.put, xqA, xqB, xqC]
 refine wpAnyH_done (by kernel_rfl) ?_ _
 have K5 := loadVarB (World.rangeAt_setCells_same w3.drew (w.heap.size + 1 + 1) 0 (ints bb) (by simpa [hl] using T1)) hl
 have K6 := below_cells (ints bb) w3.drew (w.heap.size + 1 + 1) 0 B3.drew (by omega)
 go_wp2
 exact bodyPost_ret (v := mkV bb false) (res_cell2 Tryz.results142 rfl K5) rfl (MkPost.mk' bb HM.out rfl hl (fun h => by cases h) K6)
set_option maxHeartbeats 2000000 in
theorem make_5y (b : List Int) (an : Nat) (v : Int) (w : World) (hb : b.length = 19) (hg : goodB b = true) (ha : an < 6) (hz : ((bg b (6 + an) == 0) && (bg b (12 + an) == 0)) = false) :
 Calls Tryz.prog 142 #[aggI b, jobV 5 (an : Int) v] w (MkPost w b 5 (an : Int) v) := by
 have r0 := World.rangeAt_alloc (World.rangeAt_alloc (range_new w (ints b) 26) (.cells #[.int .i64 5, .int .i64 (an : Int), .int .i64 v] 123)) zB
 have t0 := World.there_alloc (World.there_alloc (there_new w (ints b).toArray 26 (n := 19) (by simp [hb])) (.cells #[.int .i64 5, .int .i64 (an : Int), .int .i64 v] 123)) zB
 have t1 := there_new ((w.alloc (.cells (ints b).toArray 26)).alloc (.cells #[.int .i64 5, .int .i64 (an : Int), .int .i64 v] 123)) _ 26 (n := 19) (show 19 ≤ (zBA : Array Value).size by decide)
 have q0 : (((w.alloc (.cells (ints b).toArray 26)).alloc (.cells #[.int .i64 5, .int .i64 (an : Int), .int .i64 v] 123)).alloc zB).cell? ⟨w.heap.size + 1, 0, none⟩ = some (.int .i64 5) := cell_later (below_one _) (by rw [World.cell?_alloc_at _ _ _ _ (by simp)]; rfl)
 have q1 : (((w.alloc (.cells (ints b).toArray 26)).alloc (.cells #[.int .i64 5, .int .i64 (an : Int), .int .i64 v] 123)).alloc zB).cell? ⟨w.heap.size + 1, 1, none⟩ = some (.int .i64 (an : Int)) := cell_later (below_one _) (by rw [World.cell?_alloc_at _ _ _ _ (by simp)]; rfl)
 have q2 : (((w.alloc (.cells (ints b).toArray 26)).alloc (.cells #[.int .i64 5, .int .i64 (an : Int), .int .i64 v] 123)).alloc zB).cell? ⟨w.heap.size + 1, 2, none⟩ = some (.int .i64 v) := cell_later (below_one _) (by rw [World.cell?_alloc_at _ _ _ _ (by simp)]; rfl)
 have hb0 : Below w.heap.size w (((w.alloc (.cells (ints b).toArray 26)).alloc (.cells #[.int .i64 5, .int .i64 (an : Int), .int .i64 v] 123)).alloc zB) := by (repeat (first | exact Below.refl _ _ | exact (Below.refl _ _).drew | assumption | exact below_one _ | refine Below.chain ?_ (by assumption) | refine Below.drew ?_ | refine Below.alc ?_ _ | refine below_drewN ?_ | (refine Below.setCell ?_ ?_ _) | exact Nat.le_refl _ | (simp; done) | (simp; omega)))
 simp only [World.size_alloc] at t1
 have n0 : (0 : Int) ≤ (an : Int) := by omega
 have n1 : (an : Int) < 6 := by omega
 have gc := inB_true (show inB (bg b 18) 0 1000 = true by unfold goodB at hg; simp only [Bool.and_eq_true] at hg; exact hg.2)
 have bd := goodB_at hg ha
 unfold bF at bd
 simp only at bd
 obtain ⟨⟨d0, d1, d2, d3⟩, d4, d5⟩ := bd
 have HM := Lib.hid (show makeB b 5 (an : Int) v = (v == 0) by unfold makeB makeK; rw [if_neg (show ¬ (5 : Int) = 1 by omega), if_neg (show ¬ (5 : Int) = 2 by omega), if_neg (show ¬ (5 : Int) = 3 by omega), if_neg (show ¬ (5 : Int) = 4 by omega), if_pos rfl, inB_mk (show (0 : Int) ≤ (an : Int) by omega) (by omega), Int.toNat_natCast, hz]; simp)
 have HX : Hid (madeB b 5 ((an : Int).toNat) v = ((b.set (6 + an) (0)).set (12 + an) (0))) := by show _ = _; unfold madeB; rw [if_neg (show ¬ (5 : Int) = 1 by omega), if_neg (show ¬ (5 : Int) = 2 by omega), if_neg (show ¬ (5 : Int) = 3 by omega), if_neg (show ¬ (5 : Int) = 4 by omega), if_pos rfl, Int.toNat_natCast]
 have HA : Hid (inB (an : Int) 0 5 = true) := inB_mk (by omega) (by omega)
 obtain ⟨M, HO, HZ⟩ := or_zero d0 d1 d2 d3
 rw [hz] at HZ
 have HZ2 : (M != 0) = true := by simp [bne, HZ]
 clear hz
 unfold aggI jobV
 unfold zBA zB at *
 go_enter Tryz.func142, Tryz.ntmps142
 go_wp2_with fail
 refine (l1In_c _ _ _ _).mono ?_
 rintro e w1 ⟨rfl, rfl⟩
 rw [HA.out]
 generalize World.alloc _ _ = wb at *
 have g1 := cell18 r0 (j := 6 + an) (by omega)
 have g2 := cell18 r0 (j := 12 + an) (by omega)
 have f1 := there_froz t0 (j := 6 + an) (by omega)
 have f2 := there_froz t0 (j := 12 + an) (by omega)
 go_wp2
 go_region
 have r1 : wb.drew.rangeAt w.heap.size 0 (ints b) := r0
 have u0 : wb.drew.there w.heap.size 0 19 := t0
 have u1 : wb.drew.there (w.heap.size + 1 + 1) 0 19 := t1
 have hb1 : Below w.heap.size w wb.drew := hb0.drew
 clear r0 t0 t1 hb0
 have r0 := r1; have t0 := u0; have t1 := u1; have hb0 := hb1
 clear r1 u0 u1 hb1
 have g1 : wb.drew.cell? ⟨w.heap.size, 6 + an, none⟩ = _ := g1
 have g2 : wb.drew.cell? ⟨w.heap.size, 12 + an, none⟩ = _ := g2
 have f1 : wb.drew.frozen? ⟨w.heap.size, 6 + an, none⟩ = _ := f1
 have f2 : wb.drew.frozen? ⟨w.heap.size, 12 + an, none⟩ = _ := f2
 have q0 : wb.drew.cell? ⟨w.heap.size + 1, 0, none⟩ = _ := q0
 have q1 : wb.drew.cell? ⟨w.heap.size + 1, 1, none⟩ = _ := q1
 have q2 : wb.drew.cell? ⟨w.heap.size + 1, 2, none⟩ = _ := q2
 generalize wb.drew = wd at *
 have hl : ((b.set (6 + an) (0)).set (12 + an) (0)).length = 19 := by simp [hb]
 have R1 := (range_set (range_set r0 (j := 6 + an) (0) (by omega)) (j := 12 + an) (0) (by simp; omega))
 have T0 := (there_set (there_set t0 w.heap.size (6 + an) (.int .i64 (0))) w.heap.size (12 + an) (.int .i64 (0)))
 have T1 := (there_set (there_set t1 w.heap.size (6 + an) (.int .i64 (0))) w.heap.size (12 + an) (.int .i64 (0)))
 have B1 := (Below.setCell (Below.setCell hb0 (p := ⟨w.heap.size, 6 + an, none⟩) (Nat.le_refl _) (.int .i64 (0))) (p := ⟨w.heap.size, 12 + an, none⟩) (Nat.le_refl _) (.int .i64 (0)))
 have K := World.rangeAt_setCells_same _ (w.heap.size + 1 + 1) 0 (ints ((b.set (6 + an) (0)).set (12 + an) (0))) (by simpa [hb] using T1)
 have K6 := below_cells (ints ((b.set (6 + an) (0)).set (12 + an) (0))) _ (w.heap.size + 1 + 1) 0 B1 (by omega)
 have K5 := loadVarB K hl
 clear r0 t0 t1 hb0 T0 K K5 K6
 generalize hbb : ((b.set (6 + an) (0)).set (12 + an) (0)) = bb at *
 have HBB := Lib.hid hbb; clear hbb
 have q2' : ((wd.setCell ⟨w.heap.size, 6 + an, none⟩ (.int .i64 (0))).setCell ⟨w.heap.size, 12 + an, none⟩ (.int .i64 (0))).cell? ⟨w.heap.size + 1, 2, none⟩ = some (.int .i64 v) := by rw [World.cell?_setCell_other _ _ _ _ (by simp), World.cell?_setCell_other _ _ _ _ (by simp)]; exact q2
 have B3 := B1; clear B1
 go_wp2
 generalize World.setCell _ _ _ = w3 at *
 refine wp_region_held_drew (S := fun w' : World => w'.rangeAt (w.heap.size) 0 (ints bb) ∧ w'.there (w.heap.size + 1 + 1) 0 19 ∧ w'.cell? ⟨w.heap.size + 1, 2, none⟩ = some (.int .i64 v)) (by kernel_rfl) ⟨R1, T1, q2'⟩ (fun hHeld => ?_)
 refine' tkX 0 hHeld ?y0 ?r0
 case y0 =>
  refine' yieldsIf_load_mid ?hw _ _ rfl _ _ rfl (ints bb) _ ?hS ?hu ?hd ?hi
  case hw => rfl
  case hS => exact fun (w' : World) (h : w'.rangeAt (w.heap.size) 0 (ints bb) ∧ w'.there (w.heap.size + 1 + 1) 0 19 ∧ w'.cell? ⟨w.heap.size + 1, 2, none⟩ = some (.int .i64 v)) => h.1
  case hu => exact Tryz.underlying26
  case hd => rfl
  case hi => exact (hi19 hl)
 try simp only [Act.put, xqA, xqB, xqC]
 refine' tkY 1 hHeld ?r1
 try simp only [Act.put, xqA, xqB, xqC]
 refine' tkY 2 hHeld ?r2
 try simp only [Act.put, xqA, xqB, xqC]
 refine' tkY 3 hHeld ?r3
 try simp only [Act.put, xqA, xqB, xqC]
 refine' tkY 4 hHeld ?r4
 try simp only [Act.put, xqA, xqB, xqC]
 refine' tkY 5 hHeld ?r5
 try simp only [Act.put, xqA, xqB, xqC]
 refine' tkY 6 hHeld ?r6
 try simp only [Act.put, xqA, xqB, xqC]
 refine wpAnyH_ready (rs := [7]) (by kernel_rfl) (by simp) ?_
 refine' AllReadyH.cons (o := _) ?e7 ?st7 AllReadyH.nil
 case e7 => (simp only [xeA, xeB, xeC]; exact rfl)
 intro K hK
 rw [if_pos (by rfl)]
 refine wp_store_mid _ _ _ rfl _ _ (ints bb).toArray rfl rfl (by simpa [ints, hl] using hHeld.2.1) (by simpa using hi19 hl) (all_oneCell_toArray ints_one) ?_
 simp only [Act.put, xqA, xqB, xqC, List.toList_toArray]
 refine hK.out _ _ ⟨World.rangeAt_setCells_apart (w := w3.drew) R1 (w.heap.size + 1 + 1) 0 (ints bb) (.inl (by omega)), World.there_setCells (w := w3.drew) T1 (w.heap.size + 1 + 1) 0 (ints bb), cell_far2 (show w3.drew.cell? _ = _ from q2') (by simp)⟩ (fun hHeld => ?_)
 clear hK K
 try simp only [Act.put, xqA, xqB, xqC]
 refine' tkY 8 hHeld ?r8
 try simp only [Act.put, xqA, xqB, xqC]
 refine wpAnyH_done (by kernel_rfl) ?_ _
 have K5 := loadVarB (World.rangeAt_setCells_same w3.drew (w.heap.size + 1 + 1) 0 (ints bb) (by simpa [hl] using T1)) hl
 have K6 := below_cells (ints bb) w3.drew (w.heap.size + 1 + 1) 0 B3.drew (by omega)
 go_wp2
 exact bodyPost_ret (v := mkV bb (v == 0)) (res_cell2 Tryz.results142 rfl K5) rfl (MkPost.mk' bb HM.out rfl hl (fun _ => HX.out.symm) K6)
set_option maxHeartbeats 2000000 in
theorem make_6n (b : List Int) (an : Nat) (v : Int) (w : World) (hb : b.length = 19) (hg : goodB b = true) (ha : an < 6) (h0 : 0 < an) :
 Calls Tryz.prog 142 #[aggI b, jobV 6 (an : Int) v] w (MkPost w b 6 (an : Int) v) := by
 have r0 := World.rangeAt_alloc (World.rangeAt_alloc (range_new w (ints b) 26) (.cells #[.int .i64 6, .int .i64 (an : Int), .int .i64 v] 123)) zB
 have t0 := World.there_alloc (World.there_alloc (there_new w (ints b).toArray 26 (n := 19) (by simp [hb])) (.cells #[.int .i64 6, .int .i64 (an : Int), .int .i64 v] 123)) zB
 have t1 := there_new ((w.alloc (.cells (ints b).toArray 26)).alloc (.cells #[.int .i64 6, .int .i64 (an : Int), .int .i64 v] 123)) _ 26 (n := 19) (show 19 ≤ (zBA : Array Value).size by decide)
 have q0 : (((w.alloc (.cells (ints b).toArray 26)).alloc (.cells #[.int .i64 6, .int .i64 (an : Int), .int .i64 v] 123)).alloc zB).cell? ⟨w.heap.size + 1, 0, none⟩ = some (.int .i64 6) := cell_later (below_one _) (by rw [World.cell?_alloc_at _ _ _ _ (by simp)]; rfl)
 have q1 : (((w.alloc (.cells (ints b).toArray 26)).alloc (.cells #[.int .i64 6, .int .i64 (an : Int), .int .i64 v] 123)).alloc zB).cell? ⟨w.heap.size + 1, 1, none⟩ = some (.int .i64 (an : Int)) := cell_later (below_one _) (by rw [World.cell?_alloc_at _ _ _ _ (by simp)]; rfl)
 have q2 : (((w.alloc (.cells (ints b).toArray 26)).alloc (.cells #[.int .i64 6, .int .i64 (an : Int), .int .i64 v] 123)).alloc zB).cell? ⟨w.heap.size + 1, 2, none⟩ = some (.int .i64 v) := cell_later (below_one _) (by rw [World.cell?_alloc_at _ _ _ _ (by simp)]; rfl)
 have hb0 : Below w.heap.size w (((w.alloc (.cells (ints b).toArray 26)).alloc (.cells #[.int .i64 6, .int .i64 (an : Int), .int .i64 v] 123)).alloc zB) := by (repeat (first | exact Below.refl _ _ | exact (Below.refl _ _).drew | assumption | exact below_one _ | refine Below.chain ?_ (by assumption) | refine Below.drew ?_ | refine Below.alc ?_ _ | refine below_drewN ?_ | (refine Below.setCell ?_ ?_ _) | exact Nat.le_refl _ | (simp; done) | (simp; omega)))
 simp only [World.size_alloc] at t1
 have n0 : (0 : Int) ≤ (an : Int) := by omega
 have n1 : (an : Int) < 6 := by omega
 have gc := inB_true (show inB (bg b 18) 0 1000 = true by unfold goodB at hg; simp only [Bool.and_eq_true] at hg; exact hg.2)
 have bd := goodB_at hg ha
 unfold bF at bd
 simp only at bd
 obtain ⟨⟨d0, d1, d2, d3⟩, d4, d5⟩ := bd
 have HM := Lib.hid (show makeB b 6 (an : Int) v = false by unfold makeB makeK; rw [if_neg (show ¬ (6 : Int) = 1 by omega), if_neg (show ¬ (6 : Int) = 2 by omega), if_neg (show ¬ (6 : Int) = 3 by omega), if_neg (show ¬ (6 : Int) = 4 by omega), if_neg (show ¬ (6 : Int) = 5 by omega), if_pos (show (6 : Int) = 6 ∨ (6 : Int) = 7 by omega)]; rw [inB_mk (show (0 : Int) ≤ (an : Int) by omega) (by omega), Int.toNat_natCast, show (an == 0) = false by simp; omega]; rfl)
 have HX : Hid (madeB b 6 (((an : Int) : Int).toNat) v = (seenI true b 6)) := by show _ = _; unfold madeB; rw [if_neg (show ¬ (6 : Int) = 1 by omega), if_neg (show ¬ (6 : Int) = 2 by omega), if_neg (show ¬ (6 : Int) = 3 by omega), if_neg (show ¬ (6 : Int) = 4 by omega), if_neg (show ¬ (6 : Int) = 5 by omega), if_pos rfl]
 have HA : Hid (inB (an : Int) 0 5 = true) := inB_mk (by omega) (by omega)
 have hl : (seenI true b 6).length = 19 := by rw [seenI_len, hb]
 have HC := fun w => l12Seen_c true b w hb hg
 rw [← seen_same true hb] at HC
 generalize (seenI true b 6) = bb at *
 have n2 : ((an : Int) == 0) = false := by simp; omega
 have n3 : decide ((an : Int) = 0) = false := by simp; omega
 have HCC := Lib.hid HC; clear HC
 unfold aggI at HCC
 unfold aggI jobV
 unfold zBA zB at *
 go_enter Tryz.func142, Tryz.ntmps142
 go_wp2_with fail
 refine (l1In_c _ _ _ _).mono ?_
 rintro e w1 ⟨rfl, rfl⟩
 rw [HA.out]
 generalize World.alloc _ _ = wb at *
 go_wp2
 refine wp_region_held_drew (S := fun w' : World => w'.rangeAt (w.heap.size) 0 (ints b) ∧ w'.there (w.heap.size + 1 + 1) 0 19 ∧ w'.cell? ⟨w.heap.size + 1, 0, none⟩ = some (.int .i64 6) ∧ w'.cell? ⟨w.heap.size + 1, 1, none⟩ = some (.int .i64 (an : Int)) ∧ w'.cell? ⟨w.heap.size + 1, 2, none⟩ = some (.int .i64 v)) (by kernel_rfl) ⟨r0, t1, q0, q1, q2⟩ (fun hHeld => ?_)
 refine' tkX 0 hHeld ?y0 ?r0
 case y0 =>
  refine' yieldsIf_load_mid ?hw _ _ rfl _ _ rfl (ints b) _ ?hS ?hu ?hd ?hi
  case hw => rfl
  case hS => exact fun (w' : World) (h : w'.rangeAt (w.heap.size) 0 (ints b) ∧ w'.there (w.heap.size + 1 + 1) 0 19 ∧ w'.cell? ⟨w.heap.size + 1, 0, none⟩ = some (.int .i64 6) ∧ w'.cell? ⟨w.heap.size + 1, 1, none⟩ = some (.int .i64 (an : Int)) ∧ w'.cell? ⟨w.heap.size + 1, 2, none⟩ = some (.int .i64 v)) => h.1
  case hu => exact Tryz.underlying26
  case hd => rfl
  case hi => exact (hi19 hb)
 try simp only [Act.put, xqA, xqB, xqC]
 refine' tkY 1 hHeld ?r1
 try simp only [Act.put, xqA, xqB, xqC]
 refine' tkY 2 hHeld ?r2
 try simp only [Act.put, xqA, xqB, xqC]
 refine' tkY 3 hHeld ?r3
 try simp only [Act.put, xqA, xqB, xqC]
 refine' tkY 5 hHeld ?r5
 try simp only [Act.put, xqA, xqB, xqC]
 refine' tkY 6 hHeld ?r6
 try simp only [Act.put, xqA, xqB, xqC]
 refine' tkY 7 hHeld ?r7
 try simp only [Act.put, xqA, xqB, xqC]
 refine wpAnyH_ready (rs := [4]) (by kernel_rfl) (by simp) ?_
 refine' AllReadyH.cons (o := _) ?e4 ?st4 AllReadyH.nil
 case e4 => (simp only [xeA, xeB, xeC]; exact rfl)
 intro K hK
 go_simp
 refine (HCC.out _).mono ?_
 rintro e w3 ⟨rfl, hb3⟩
 have hB : Below wb.heap.size wb w3 := Below.chain (Below.refl _ _).drew hb3
 have R1 := range_below r0 hB
 have T1 := there_below t1 hB
 have B3 := Below.chain hb0 hB
 have p0 := cell_later hB q0
 have p1 := cell_later hB q1
 have p2 := cell_later hB q2
 go_wp2_with fail
 refine hK.out _ _ ⟨R1, T1, p0, p1, p2⟩ (fun hHeld => ?_)
 clear hK K
 try simp only [Act.put, xqA, xqB, xqC]
 refine' tkY 8 hHeld ?r8
 try simp only [Act.put, xqA, xqB, xqC]
 refine' tkX 9 (v := undef) hHeld ?y9 ?r9
 case y9 => exact Or.inr ⟨by rfl, rfl⟩
 try simp only [Act.put, xqA, xqB, xqC]
 refine' tkX 10 (v := undef) hHeld ?y10 ?r10
 case y10 => exact Or.inr ⟨by rfl, rfl⟩
 try simp only [Act.put, xqA, xqB, xqC]
 refine' tkX 11 (v := undef) hHeld ?y11 ?r11
 case y11 => exact Or.inr ⟨by rfl, rfl⟩
 try simp only [Act.put, xqA, xqB, xqC]
 refine' tkY 12 hHeld ?r12
 try simp only [Act.put, xqA, xqB, xqC]
 refine wpAnyH_ready (rs := [13]) (by kernel_rfl) (by simp) ?_
 refine' AllReadyH.cons (o := _) ?e13 ?st13 AllReadyH.nil
 case e13 => (simp only [xeA, xeB, xeC]; exact rfl)
 intro K hK
 rw [if_pos (by rfl)]
 refine wp_store_mid _ _ _ rfl _ _ (ints bb).toArray rfl rfl (by simpa [ints, hl] using hHeld.2.1) (by simpa using hi19 hl) (all_oneCell_toArray ints_one) ?_
 simp only [Act.put, xqA, xqB, xqC, List.toList_toArray]
 refine hK.out _ _ ⟨World.rangeAt_setCells_apart (w := w3) R1 (w.heap.size + 1 + 1) 0 (ints bb) (.inl (by omega)), World.there_setCells (w := w3) T1 (w.heap.size + 1 + 1) 0 (ints bb), cell_far2 p0 (by simp), cell_far2 p1 (by simp), cell_far2 p2 (by simp)⟩ (fun hHeld => ?_)
 clear hK K
 try simp only [Act.put, xqA, xqB, xqC]
 refine' tkY 14 hHeld ?r14
 try simp only [Act.put, xqA, xqB, xqC]
 refine wpAnyH_done (by kernel_rfl) ?_ _
 have K5 := loadVarB (World.rangeAt_setCells_same w3 (w.heap.size + 1 + 1) 0 (ints bb) (by simpa [hl] using T1)) hl
 have K6 := below_cells (ints bb) w3 (w.heap.size + 1 + 1) 0 B3 (by omega)
 go_wp2
 exact bodyPost_ret (v := mkV bb false) (res_cell2 Tryz.results142 rfl K5) rfl (MkPost.mk' bb HM.out rfl hl (fun h => by cases h) K6)
set_option maxHeartbeats 2000000 in
theorem make_6y (b : List Int) (v : Int) (w : World) (hb : b.length = 19) (hg : goodB b = true)  :
 Calls Tryz.prog 142 #[aggI b, jobV 6 0 v] w (MkPost w b 6 0 v) := by
 have r0 := World.rangeAt_alloc (World.rangeAt_alloc (range_new w (ints b) 26) (.cells #[.int .i64 6, .int .i64 0, .int .i64 v] 123)) zB
 have t0 := World.there_alloc (World.there_alloc (there_new w (ints b).toArray 26 (n := 19) (by simp [hb])) (.cells #[.int .i64 6, .int .i64 0, .int .i64 v] 123)) zB
 have t1 := there_new ((w.alloc (.cells (ints b).toArray 26)).alloc (.cells #[.int .i64 6, .int .i64 0, .int .i64 v] 123)) _ 26 (n := 19) (show 19 ≤ (zBA : Array Value).size by decide)
 have q0 : (((w.alloc (.cells (ints b).toArray 26)).alloc (.cells #[.int .i64 6, .int .i64 0, .int .i64 v] 123)).alloc zB).cell? ⟨w.heap.size + 1, 0, none⟩ = some (.int .i64 6) := cell_later (below_one _) (by rw [World.cell?_alloc_at _ _ _ _ (by simp)]; rfl)
 have q1 : (((w.alloc (.cells (ints b).toArray 26)).alloc (.cells #[.int .i64 6, .int .i64 0, .int .i64 v] 123)).alloc zB).cell? ⟨w.heap.size + 1, 1, none⟩ = some (.int .i64 0) := cell_later (below_one _) (by rw [World.cell?_alloc_at _ _ _ _ (by simp)]; rfl)
 have q2 : (((w.alloc (.cells (ints b).toArray 26)).alloc (.cells #[.int .i64 6, .int .i64 0, .int .i64 v] 123)).alloc zB).cell? ⟨w.heap.size + 1, 2, none⟩ = some (.int .i64 v) := cell_later (below_one _) (by rw [World.cell?_alloc_at _ _ _ _ (by simp)]; rfl)
 have hb0 : Below w.heap.size w (((w.alloc (.cells (ints b).toArray 26)).alloc (.cells #[.int .i64 6, .int .i64 0, .int .i64 v] 123)).alloc zB) := by (repeat (first | exact Below.refl _ _ | exact (Below.refl _ _).drew | assumption | exact below_one _ | refine Below.chain ?_ (by assumption) | refine Below.drew ?_ | refine Below.alc ?_ _ | refine below_drewN ?_ | (refine Below.setCell ?_ ?_ _) | exact Nat.le_refl _ | (simp; done) | (simp; omega)))
 simp only [World.size_alloc] at t1
 have gc := inB_true (show inB (bg b 18) 0 1000 = true by unfold goodB at hg; simp only [Bool.and_eq_true] at hg; exact hg.2)
 have HM := Lib.hid (show makeB b 6 0 v = (v == 0) by unfold makeB makeK; rw [if_neg (show ¬ (6 : Int) = 1 by omega), if_neg (show ¬ (6 : Int) = 2 by omega), if_neg (show ¬ (6 : Int) = 3 by omega), if_neg (show ¬ (6 : Int) = 4 by omega), if_neg (show ¬ (6 : Int) = 5 by omega), if_pos (show (6 : Int) = 6 ∨ (6 : Int) = 7 by omega)]; rfl)
 have HX : Hid (madeB b 6 ((0 : Int).toNat) v = (seenI true b 6)) := by show _ = _; unfold madeB; rw [if_neg (show ¬ (6 : Int) = 1 by omega), if_neg (show ¬ (6 : Int) = 2 by omega), if_neg (show ¬ (6 : Int) = 3 by omega), if_neg (show ¬ (6 : Int) = 4 by omega), if_neg (show ¬ (6 : Int) = 5 by omega), if_pos rfl]
 have HA : Hid (inB 0 0 5 = true) := inB_mk (by omega) (by omega)
 have hl : (seenI true b 6).length = 19 := by rw [seenI_len, hb]
 have HC := fun w => l12Seen_c true b w hb hg
 rw [← seen_same true hb] at HC
 generalize (seenI true b 6) = bb at *
 have HCC := Lib.hid HC; clear HC
 unfold aggI at HCC
 unfold aggI jobV
 unfold zBA zB at *
 go_enter Tryz.func142, Tryz.ntmps142
 go_wp2_with fail
 refine (l1In_c _ _ _ _).mono ?_
 rintro e w1 ⟨rfl, rfl⟩
 rw [HA.out]
 generalize World.alloc _ _ = wb at *
 go_wp2
 refine wp_region_held_drew (S := fun w' : World => w'.rangeAt (w.heap.size) 0 (ints b) ∧ w'.there (w.heap.size + 1 + 1) 0 19 ∧ w'.cell? ⟨w.heap.size + 1, 0, none⟩ = some (.int .i64 6) ∧ w'.cell? ⟨w.heap.size + 1, 1, none⟩ = some (.int .i64 0) ∧ w'.cell? ⟨w.heap.size + 1, 2, none⟩ = some (.int .i64 v)) (by kernel_rfl) ⟨r0, t1, q0, q1, q2⟩ (fun hHeld => ?_)
 refine' tkX 0 hHeld ?y0 ?r0
 case y0 =>
  refine' yieldsIf_load_mid ?hw _ _ rfl _ _ rfl (ints b) _ ?hS ?hu ?hd ?hi
  case hw => rfl
  case hS => exact fun (w' : World) (h : w'.rangeAt (w.heap.size) 0 (ints b) ∧ w'.there (w.heap.size + 1 + 1) 0 19 ∧ w'.cell? ⟨w.heap.size + 1, 0, none⟩ = some (.int .i64 6) ∧ w'.cell? ⟨w.heap.size + 1, 1, none⟩ = some (.int .i64 0) ∧ w'.cell? ⟨w.heap.size + 1, 2, none⟩ = some (.int .i64 v)) => h.1
  case hu => exact Tryz.underlying26
  case hd => rfl
  case hi => exact (hi19 hb)
 try simp only [Act.put, xqA, xqB, xqC]
 refine' tkY 1 hHeld ?r1
 try simp only [Act.put, xqA, xqB, xqC]
 refine' tkY 2 hHeld ?r2
 try simp only [Act.put, xqA, xqB, xqC]
 refine' tkY 3 hHeld ?r3
 try simp only [Act.put, xqA, xqB, xqC]
 refine' tkY 5 hHeld ?r5
 try simp only [Act.put, xqA, xqB, xqC]
 refine' tkY 6 hHeld ?r6
 try simp only [Act.put, xqA, xqB, xqC]
 refine' tkY 7 hHeld ?r7
 try simp only [Act.put, xqA, xqB, xqC]
 refine wpAnyH_ready (rs := [4]) (by kernel_rfl) (by simp) ?_
 refine' AllReadyH.cons (o := _) ?e4 ?st4 AllReadyH.nil
 case e4 => (simp only [xeA, xeB, xeC]; exact rfl)
 intro K hK
 go_simp
 refine (HCC.out _).mono ?_
 rintro e w3 ⟨rfl, hb3⟩
 have hB : Below wb.heap.size wb w3 := Below.chain (Below.refl _ _).drew hb3
 have R1 := range_below r0 hB
 have T1 := there_below t1 hB
 have B3 := Below.chain hb0 hB
 have p0 := cell_later hB q0
 have p1 := cell_later hB q1
 have p2 := cell_later hB q2
 go_wp2_with fail
 refine hK.out _ _ ⟨R1, T1, p0, p1, p2⟩ (fun hHeld => ?_)
 clear hK K
 try simp only [Act.put, xqA, xqB, xqC]
 refine' tkY 8 hHeld ?r8
 try simp only [Act.put, xqA, xqB, xqC]
 refine' tkY 9 hHeld ?r9
 try simp only [Act.put, xqA, xqB, xqC]
 refine' tkY 10 hHeld ?r10
 try simp only [Act.put, xqA, xqB, xqC]
 refine' tkY 11 hHeld ?r11
 try simp only [Act.put, xqA, xqB, xqC]
 refine' tkY 12 hHeld ?r12
 try simp only [Act.put, xqA, xqB, xqC]
 refine wpAnyH_ready (rs := [13]) (by kernel_rfl) (by simp) ?_
 refine' AllReadyH.cons (o := _) ?e13 ?st13 AllReadyH.nil
 case e13 => (simp only [xeA, xeB, xeC]; exact rfl)
 intro K hK
 rw [if_pos (by rfl)]
 refine wp_store_mid _ _ _ rfl _ _ (ints bb).toArray rfl rfl (by simpa [ints, hl] using hHeld.2.1) (by simpa using hi19 hl) (all_oneCell_toArray ints_one) ?_
 simp only [Act.put, xqA, xqB, xqC, List.toList_toArray]
 refine hK.out _ _ ⟨World.rangeAt_setCells_apart (w := w3) R1 (w.heap.size + 1 + 1) 0 (ints bb) (.inl (by omega)), World.there_setCells (w := w3) T1 (w.heap.size + 1 + 1) 0 (ints bb), cell_far2 p0 (by simp), cell_far2 p1 (by simp), cell_far2 p2 (by simp)⟩ (fun hHeld => ?_)
 clear hK K
 try simp only [Act.put, xqA, xqB, xqC]
 refine' tkY 14 hHeld ?r14
 try simp only [Act.put, xqA, xqB, xqC]
 refine wpAnyH_done (by kernel_rfl) ?_ _
 have K5 := loadVarB (World.rangeAt_setCells_same w3 (w.heap.size + 1 + 1) 0 (ints bb) (by simpa [hl] using T1)) hl
 have K6 := below_cells (ints bb) w3 (w.heap.size + 1 + 1) 0 B3 (by omega)
 go_wp2
 exact bodyPost_ret (v := mkV bb (v == 0)) (res_cell2 Tryz.results142 rfl K5) rfl (MkPost.mk' bb HM.out rfl hl (fun _ => HX.out.symm) K6)
set_option maxHeartbeats 2000000 in
theorem make_7n (b : List Int) (an : Nat) (v : Int) (w : World) (hb : b.length = 19) (hg : goodB b = true) (ha : an < 6) (h0 : 0 < an) :
 Calls Tryz.prog 142 #[aggI b, jobV 7 (an : Int) v] w (MkPost w b 7 (an : Int) v) := by
 have r0 := World.rangeAt_alloc (World.rangeAt_alloc (range_new w (ints b) 26) (.cells #[.int .i64 7, .int .i64 (an : Int), .int .i64 v] 123)) zB
 have t0 := World.there_alloc (World.there_alloc (there_new w (ints b).toArray 26 (n := 19) (by simp [hb])) (.cells #[.int .i64 7, .int .i64 (an : Int), .int .i64 v] 123)) zB
 have t1 := there_new ((w.alloc (.cells (ints b).toArray 26)).alloc (.cells #[.int .i64 7, .int .i64 (an : Int), .int .i64 v] 123)) _ 26 (n := 19) (show 19 ≤ (zBA : Array Value).size by decide)
 have q0 : (((w.alloc (.cells (ints b).toArray 26)).alloc (.cells #[.int .i64 7, .int .i64 (an : Int), .int .i64 v] 123)).alloc zB).cell? ⟨w.heap.size + 1, 0, none⟩ = some (.int .i64 7) := cell_later (below_one _) (by rw [World.cell?_alloc_at _ _ _ _ (by simp)]; rfl)
 have q1 : (((w.alloc (.cells (ints b).toArray 26)).alloc (.cells #[.int .i64 7, .int .i64 (an : Int), .int .i64 v] 123)).alloc zB).cell? ⟨w.heap.size + 1, 1, none⟩ = some (.int .i64 (an : Int)) := cell_later (below_one _) (by rw [World.cell?_alloc_at _ _ _ _ (by simp)]; rfl)
 have q2 : (((w.alloc (.cells (ints b).toArray 26)).alloc (.cells #[.int .i64 7, .int .i64 (an : Int), .int .i64 v] 123)).alloc zB).cell? ⟨w.heap.size + 1, 2, none⟩ = some (.int .i64 v) := cell_later (below_one _) (by rw [World.cell?_alloc_at _ _ _ _ (by simp)]; rfl)
 have hb0 : Below w.heap.size w (((w.alloc (.cells (ints b).toArray 26)).alloc (.cells #[.int .i64 7, .int .i64 (an : Int), .int .i64 v] 123)).alloc zB) := by (repeat (first | exact Below.refl _ _ | exact (Below.refl _ _).drew | assumption | exact below_one _ | refine Below.chain ?_ (by assumption) | refine Below.drew ?_ | refine Below.alc ?_ _ | refine below_drewN ?_ | (refine Below.setCell ?_ ?_ _) | exact Nat.le_refl _ | (simp; done) | (simp; omega)))
 simp only [World.size_alloc] at t1
 have n0 : (0 : Int) ≤ (an : Int) := by omega
 have n1 : (an : Int) < 6 := by omega
 have gc := inB_true (show inB (bg b 18) 0 1000 = true by unfold goodB at hg; simp only [Bool.and_eq_true] at hg; exact hg.2)
 have bd := goodB_at hg ha
 unfold bF at bd
 simp only at bd
 obtain ⟨⟨d0, d1, d2, d3⟩, d4, d5⟩ := bd
 have HM := Lib.hid (show makeB b 7 (an : Int) v = false by unfold makeB makeK; rw [if_neg (show ¬ (7 : Int) = 1 by omega), if_neg (show ¬ (7 : Int) = 2 by omega), if_neg (show ¬ (7 : Int) = 3 by omega), if_neg (show ¬ (7 : Int) = 4 by omega), if_neg (show ¬ (7 : Int) = 5 by omega), if_pos (show (7 : Int) = 6 ∨ (7 : Int) = 7 by omega)]; rw [inB_mk (show (0 : Int) ≤ (an : Int) by omega) (by omega), Int.toNat_natCast, show (an == 0) = false by simp; omega]; rfl)
 have HX : Hid (madeB b 7 (((an : Int) : Int).toNat) v = (seenI false b 6)) := by show _ = _; unfold madeB; rw [if_neg (show ¬ (7 : Int) = 1 by omega), if_neg (show ¬ (7 : Int) = 2 by omega), if_neg (show ¬ (7 : Int) = 3 by omega), if_neg (show ¬ (7 : Int) = 4 by omega), if_neg (show ¬ (7 : Int) = 5 by omega), if_neg (show ¬ (7 : Int) = 6 by omega), if_pos rfl]
 have HA : Hid (inB (an : Int) 0 5 = true) := inB_mk (by omega) (by omega)
 have hl : (seenI false b 6).length = 19 := by rw [seenI_len, hb]
 have HC := fun w => l12Seen_c false b w hb hg
 rw [← seen_same false hb] at HC
 generalize (seenI false b 6) = bb at *
 have n2 : ((an : Int) == 0) = false := by simp; omega
 have n3 : decide ((an : Int) = 0) = false := by simp; omega
 have HCC := Lib.hid HC; clear HC
 unfold aggI at HCC
 unfold aggI jobV
 unfold zBA zB at *
 go_enter Tryz.func142, Tryz.ntmps142
 go_wp2_with fail
 refine (l1In_c _ _ _ _).mono ?_
 rintro e w1 ⟨rfl, rfl⟩
 rw [HA.out]
 generalize World.alloc _ _ = wb at *
 go_wp2
 refine wp_region_held_drew (S := fun w' : World => w'.rangeAt (w.heap.size) 0 (ints b) ∧ w'.there (w.heap.size + 1 + 1) 0 19 ∧ w'.cell? ⟨w.heap.size + 1, 0, none⟩ = some (.int .i64 7) ∧ w'.cell? ⟨w.heap.size + 1, 1, none⟩ = some (.int .i64 (an : Int)) ∧ w'.cell? ⟨w.heap.size + 1, 2, none⟩ = some (.int .i64 v)) (by kernel_rfl) ⟨r0, t1, q0, q1, q2⟩ (fun hHeld => ?_)
 refine' tkX 0 hHeld ?y0 ?r0
 case y0 =>
  refine' yieldsIf_load_mid ?hw _ _ rfl _ _ rfl (ints b) _ ?hS ?hu ?hd ?hi
  case hw => rfl
  case hS => exact fun (w' : World) (h : w'.rangeAt (w.heap.size) 0 (ints b) ∧ w'.there (w.heap.size + 1 + 1) 0 19 ∧ w'.cell? ⟨w.heap.size + 1, 0, none⟩ = some (.int .i64 7) ∧ w'.cell? ⟨w.heap.size + 1, 1, none⟩ = some (.int .i64 (an : Int)) ∧ w'.cell? ⟨w.heap.size + 1, 2, none⟩ = some (.int .i64 v)) => h.1
  case hu => exact Tryz.underlying26
  case hd => rfl
  case hi => exact (hi19 hb)
 try simp only [Act.put, xqA, xqB, xqC]
 refine' tkY 1 hHeld ?r1
 try simp only [Act.put, xqA, xqB, xqC]
 refine' tkY 2 hHeld ?r2
 try simp only [Act.put, xqA, xqB, xqC]
 refine' tkY 3 hHeld ?r3
 try simp only [Act.put, xqA, xqB, xqC]
 refine' tkY 5 hHeld ?r5
 try simp only [Act.put, xqA, xqB, xqC]
 refine' tkY 6 hHeld ?r6
 try simp only [Act.put, xqA, xqB, xqC]
 refine' tkY 7 hHeld ?r7
 try simp only [Act.put, xqA, xqB, xqC]
 refine wpAnyH_ready (rs := [4]) (by kernel_rfl) (by simp) ?_
 refine' AllReadyH.cons (o := _) ?e4 ?st4 AllReadyH.nil
 case e4 => (simp only [xeA, xeB, xeC]; exact rfl)
 intro K hK
 go_simp
 refine (HCC.out _).mono ?_
 rintro e w3 ⟨rfl, hb3⟩
 have hB : Below wb.heap.size wb w3 := Below.chain (Below.refl _ _).drew hb3
 have R1 := range_below r0 hB
 have T1 := there_below t1 hB
 have B3 := Below.chain hb0 hB
 have p0 := cell_later hB q0
 have p1 := cell_later hB q1
 have p2 := cell_later hB q2
 go_wp2_with fail
 refine hK.out _ _ ⟨R1, T1, p0, p1, p2⟩ (fun hHeld => ?_)
 clear hK K
 try simp only [Act.put, xqA, xqB, xqC]
 refine' tkY 8 hHeld ?r8
 try simp only [Act.put, xqA, xqB, xqC]
 refine' tkX 9 (v := undef) hHeld ?y9 ?r9
 case y9 => exact Or.inr ⟨by rfl, rfl⟩
 try simp only [Act.put, xqA, xqB, xqC]
 refine' tkX 10 (v := undef) hHeld ?y10 ?r10
 case y10 => exact Or.inr ⟨by rfl, rfl⟩
 try simp only [Act.put, xqA, xqB, xqC]
 refine' tkX 11 (v := undef) hHeld ?y11 ?r11
 case y11 => exact Or.inr ⟨by rfl, rfl⟩
 try simp only [Act.put, xqA, xqB, xqC]
 refine' tkY 12 hHeld ?r12
 try simp only [Act.put, xqA, xqB, xqC]
 refine wpAnyH_ready (rs := [13]) (by kernel_rfl) (by simp) ?_
 refine' AllReadyH.cons (o := _) ?e13 ?st13 AllReadyH.nil
 case e13 => (simp only [xeA, xeB, xeC]; exact rfl)
 intro K hK
 rw [if_pos (by rfl)]
 refine wp_store_mid _ _ _ rfl _ _ (ints bb).toArray rfl rfl (by simpa [ints, hl] using hHeld.2.1) (by simpa using hi19 hl) (all_oneCell_toArray ints_one) ?_
 simp only [Act.put, xqA, xqB, xqC, List.toList_toArray]
 refine hK.out _ _ ⟨World.rangeAt_setCells_apart (w := w3) R1 (w.heap.size + 1 + 1) 0 (ints bb) (.inl (by omega)), World.there_setCells (w := w3) T1 (w.heap.size + 1 + 1) 0 (ints bb), cell_far2 p0 (by simp), cell_far2 p1 (by simp), cell_far2 p2 (by simp)⟩ (fun hHeld => ?_)
 clear hK K
 try simp only [Act.put, xqA, xqB, xqC]
 refine' tkY 14 hHeld ?r14
 try simp only [Act.put, xqA, xqB, xqC]
 refine wpAnyH_done (by kernel_rfl) ?_ _
 have K5 := loadVarB (World.rangeAt_setCells_same w3 (w.heap.size + 1 + 1) 0 (ints bb) (by simpa [hl] using T1)) hl
 have K6 := below_cells (ints bb) w3 (w.heap.size + 1 + 1) 0 B3 (by omega)
 go_wp2
 exact bodyPost_ret (v := mkV bb false) (res_cell2 Tryz.results142 rfl K5) rfl (MkPost.mk' bb HM.out rfl hl (fun h => by cases h) K6)
set_option maxHeartbeats 2000000 in
theorem make_7y (b : List Int) (v : Int) (w : World) (hb : b.length = 19) (hg : goodB b = true)  :
 Calls Tryz.prog 142 #[aggI b, jobV 7 0 v] w (MkPost w b 7 0 v) := by
 have r0 := World.rangeAt_alloc (World.rangeAt_alloc (range_new w (ints b) 26) (.cells #[.int .i64 7, .int .i64 0, .int .i64 v] 123)) zB
 have t0 := World.there_alloc (World.there_alloc (there_new w (ints b).toArray 26 (n := 19) (by simp [hb])) (.cells #[.int .i64 7, .int .i64 0, .int .i64 v] 123)) zB
 have t1 := there_new ((w.alloc (.cells (ints b).toArray 26)).alloc (.cells #[.int .i64 7, .int .i64 0, .int .i64 v] 123)) _ 26 (n := 19) (show 19 ≤ (zBA : Array Value).size by decide)
 have q0 : (((w.alloc (.cells (ints b).toArray 26)).alloc (.cells #[.int .i64 7, .int .i64 0, .int .i64 v] 123)).alloc zB).cell? ⟨w.heap.size + 1, 0, none⟩ = some (.int .i64 7) := cell_later (below_one _) (by rw [World.cell?_alloc_at _ _ _ _ (by simp)]; rfl)
 have q1 : (((w.alloc (.cells (ints b).toArray 26)).alloc (.cells #[.int .i64 7, .int .i64 0, .int .i64 v] 123)).alloc zB).cell? ⟨w.heap.size + 1, 1, none⟩ = some (.int .i64 0) := cell_later (below_one _) (by rw [World.cell?_alloc_at _ _ _ _ (by simp)]; rfl)
 have q2 : (((w.alloc (.cells (ints b).toArray 26)).alloc (.cells #[.int .i64 7, .int .i64 0, .int .i64 v] 123)).alloc zB).cell? ⟨w.heap.size + 1, 2, none⟩ = some (.int .i64 v) := cell_later (below_one _) (by rw [World.cell?_alloc_at _ _ _ _ (by simp)]; rfl)
 have hb0 : Below w.heap.size w (((w.alloc (.cells (ints b).toArray 26)).alloc (.cells #[.int .i64 7, .int .i64 0, .int .i64 v] 123)).alloc zB) := by (repeat (first | exact Below.refl _ _ | exact (Below.refl _ _).drew | assumption | exact below_one _ | refine Below.chain ?_ (by assumption) | refine Below.drew ?_ | refine Below.alc ?_ _ | refine below_drewN ?_ | (refine Below.setCell ?_ ?_ _) | exact Nat.le_refl _ | (simp; done) | (simp; omega)))
 simp only [World.size_alloc] at t1
 have gc := inB_true (show inB (bg b 18) 0 1000 = true by unfold goodB at hg; simp only [Bool.and_eq_true] at hg; exact hg.2)
 have HM := Lib.hid (show makeB b 7 0 v = (v == 0) by unfold makeB makeK; rw [if_neg (show ¬ (7 : Int) = 1 by omega), if_neg (show ¬ (7 : Int) = 2 by omega), if_neg (show ¬ (7 : Int) = 3 by omega), if_neg (show ¬ (7 : Int) = 4 by omega), if_neg (show ¬ (7 : Int) = 5 by omega), if_pos (show (7 : Int) = 6 ∨ (7 : Int) = 7 by omega)]; rfl)
 have HX : Hid (madeB b 7 ((0 : Int).toNat) v = (seenI false b 6)) := by show _ = _; unfold madeB; rw [if_neg (show ¬ (7 : Int) = 1 by omega), if_neg (show ¬ (7 : Int) = 2 by omega), if_neg (show ¬ (7 : Int) = 3 by omega), if_neg (show ¬ (7 : Int) = 4 by omega), if_neg (show ¬ (7 : Int) = 5 by omega), if_neg (show ¬ (7 : Int) = 6 by omega), if_pos rfl]
 have HA : Hid (inB 0 0 5 = true) := inB_mk (by omega) (by omega)
 have hl : (seenI false b 6).length = 19 := by rw [seenI_len, hb]
 have HC := fun w => l12Seen_c false b w hb hg
 rw [← seen_same false hb] at HC
 generalize (seenI false b 6) = bb at *
 have HCC := Lib.hid HC; clear HC
 unfold aggI at HCC
 unfold aggI jobV
 unfold zBA zB at *
 go_enter Tryz.func142, Tryz.ntmps142
 go_wp2_with fail
 refine (l1In_c _ _ _ _).mono ?_
 rintro e w1 ⟨rfl, rfl⟩
 rw [HA.out]
 generalize World.alloc _ _ = wb at *
 go_wp2
 refine wp_region_held_drew (S := fun w' : World => w'.rangeAt (w.heap.size) 0 (ints b) ∧ w'.there (w.heap.size + 1 + 1) 0 19 ∧ w'.cell? ⟨w.heap.size + 1, 0, none⟩ = some (.int .i64 7) ∧ w'.cell? ⟨w.heap.size + 1, 1, none⟩ = some (.int .i64 0) ∧ w'.cell? ⟨w.heap.size + 1, 2, none⟩ = some (.int .i64 v)) (by kernel_rfl) ⟨r0, t1, q0, q1, q2⟩ (fun hHeld => ?_)
 refine' tkX 0 hHeld ?y0 ?r0
 case y0 =>
  refine' yieldsIf_load_mid ?hw _ _ rfl _ _ rfl (ints b) _ ?hS ?hu ?hd ?hi
  case hw => rfl
  case hS => exact fun (w' : World) (h : w'.rangeAt (w.heap.size) 0 (ints b) ∧ w'.there (w.heap.size + 1 + 1) 0 19 ∧ w'.cell? ⟨w.heap.size + 1, 0, none⟩ = some (.int .i64 7) ∧ w'.cell? ⟨w.heap.size + 1, 1, none⟩ = some (.int .i64 0) ∧ w'.cell? ⟨w.heap.size + 1, 2, none⟩ = some (.int .i64 v)) => h.1
  case hu => exact Tryz.underlying26
  case hd => rfl
  case hi => exact (hi19 hb)
 try simp only [Act.put, xqA, xqB, xqC]
 refine' tkY 1 hHeld ?r1
 try simp only [Act.put, xqA, xqB, xqC]
 refine' tkY 2 hHeld ?r2
 try simp only [Act.put, xqA, xqB, xqC]
 refine' tkY 3 hHeld ?r3
 try simp only [Act.put, xqA, xqB, xqC]
 refine' tkY 5 hHeld ?r5
 try simp only [Act.put, xqA, xqB, xqC]
 refine' tkY 6 hHeld ?r6
 try simp only [Act.put, xqA, xqB, xqC]
 refine' tkY 7 hHeld ?r7
 try simp only [Act.put, xqA, xqB, xqC]
 refine wpAnyH_ready (rs := [4]) (by kernel_rfl) (by simp) ?_
 refine' AllReadyH.cons (o := _) ?e4 ?st4 AllReadyH.nil
 case e4 => (simp only [xeA, xeB, xeC]; exact rfl)
 intro K hK
 go_simp
 refine (HCC.out _).mono ?_
 rintro e w3 ⟨rfl, hb3⟩
 have hB : Below wb.heap.size wb w3 := Below.chain (Below.refl _ _).drew hb3
 have R1 := range_below r0 hB
 have T1 := there_below t1 hB
 have B3 := Below.chain hb0 hB
 have p0 := cell_later hB q0
 have p1 := cell_later hB q1
 have p2 := cell_later hB q2
 go_wp2_with fail
 refine hK.out _ _ ⟨R1, T1, p0, p1, p2⟩ (fun hHeld => ?_)
 clear hK K
 try simp only [Act.put, xqA, xqB, xqC]
 refine' tkY 8 hHeld ?r8
 try simp only [Act.put, xqA, xqB, xqC]
 refine' tkY 9 hHeld ?r9
 try simp only [Act.put, xqA, xqB, xqC]
 refine' tkY 10 hHeld ?r10
 try simp only [Act.put, xqA, xqB, xqC]
 refine' tkY 11 hHeld ?r11
 try simp only [Act.put, xqA, xqB, xqC]
 refine' tkY 12 hHeld ?r12
 try simp only [Act.put, xqA, xqB, xqC]
 refine wpAnyH_ready (rs := [13]) (by kernel_rfl) (by simp) ?_
 refine' AllReadyH.cons (o := _) ?e13 ?st13 AllReadyH.nil
 case e13 => (simp only [xeA, xeB, xeC]; exact rfl)
 intro K hK
 rw [if_pos (by rfl)]
 refine wp_store_mid _ _ _ rfl _ _ (ints bb).toArray rfl rfl (by simpa [ints, hl] using hHeld.2.1) (by simpa using hi19 hl) (all_oneCell_toArray ints_one) ?_
 simp only [Act.put, xqA, xqB, xqC, List.toList_toArray]
 refine hK.out _ _ ⟨World.rangeAt_setCells_apart (w := w3) R1 (w.heap.size + 1 + 1) 0 (ints bb) (.inl (by omega)), World.there_setCells (w := w3) T1 (w.heap.size + 1 + 1) 0 (ints bb), cell_far2 p0 (by simp), cell_far2 p1 (by simp), cell_far2 p2 (by simp)⟩ (fun hHeld => ?_)
 clear hK K
 try simp only [Act.put, xqA, xqB, xqC]
 refine' tkY 14 hHeld ?r14
 try simp only [Act.put, xqA, xqB, xqC]
 refine wpAnyH_done (by kernel_rfl) ?_ _
 have K5 := loadVarB (World.rangeAt_setCells_same w3 (w.heap.size + 1 + 1) 0 (ints bb) (by simpa [hl] using T1)) hl
 have K6 := below_cells (ints bb) w3 (w.heap.size + 1 + 1) 0 B3 (by omega)
 go_wp2
 exact bodyPost_ret (v := mkV bb (v == 0)) (res_cell2 Tryz.results142 rfl K5) rfl (MkPost.mk' bb HM.out rfl hl (fun _ => HX.out.symm) K6)
end Go.Proofs.YtohgjfdbnkjefaaGreatDoor
namespace Go.Proofs.YtohgjfdbnkjefaaGreatDoor
end Go.Proofs.YtohgjfdbnkjefaaGreatDoor
