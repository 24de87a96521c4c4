/- Walks of ChanceHarmless and MeanImages, both texts. -/
import Derived.Test.YtahpknjligaliaaDark2
import Derived.Test.YtahpknjligaliaaBox
namespace Go.Proofs.Ytahpknjligaliaa
open Go.RowKit
set_option linter.unusedVariables false
set_option maxRecDepth 100000
def dkOk (k : Int) : Bool := inB k 0 7
/-- the answer: a fraction, and whether it is one -/
def dkV (kind ten : Nat) (k : Int) : Value := .tuple #[if dkOk k then fracV (dkS (dkG kind) k 128) (ten * dkM k 128) else .agg #[.int .i64 0, .int .i64 0], .bool (dkOk k)]
theorem dk_bounds {k : Int} (h : dkOk k = true) : 0 < dkM k 128 ∧ dkM k 128 ≤ 128 := by
  have h2 : 0 ≤ k ∧ k ≤ 7 := inB_true h
  obtain ⟨n, rfl⟩ := Int.eq_ofNat_of_zero_le h2.1
  exact ⟨dkM_pos ⟨n, by omega⟩, dkM_le _ _⟩
theorem MeanImages1_c (d : Nat) (w : World) (hd : d < 128) : Calls Try.prog 145 #[.agg #[.int .i64 (d : Int), .int .i64 0]] w fun e w' => e = .returned (.int .i64 (dkG 1 d : Nat)) ∧ Below w.heap.size w w' := by
  have q0 : (w.alloc (.cells #[.int .i64 (d : Int), .int .i64 0] 65)).cell? ⟨w.heap.size, 0, none⟩ = some (.int .i64 (d : Int)) := by rw [World.cell?_alloc_at _ _ _ _ rfl]; rfl
  have q1 : (w.alloc (.cells #[.int .i64 (d : Int), .int .i64 0] 65)).cell? ⟨w.heap.size, 1, none⟩ = some (.int .i64 0) := by rw [World.cell?_alloc_at _ _ _ _ rfl]; rfl
  have hG : dkG 1 d = (grpL (d : Int) 0).length := by
    unfold dkG dkI; rw [List.take_length]; simp [dkH]
  rw [hG]; clear hG
  go_enter Try.func145, Try.ntmps145
  go_wp2_with fail
  refine (groups_c (d : Int) 0 _ (by omega) (by omega) (by omega) (by omega)).mono ?_
  rintro e w1 ⟨u, rfl, ho, hb⟩
  obtain ⟨a, c, rfl, _, _⟩ := ho.parts
  go_wp2
  go_ret
  exact ⟨rfl, by (repeat (first | exact Below.refl _ _ | exact (Below.refl _ _).drew | assumption | exact below_one _ | refine Below.chain ?_ (by assumption) | refine Below.drew ?_ | refine Below.alc ?_ _ | refine below_drewN ?_ | (refine Below.setCell ?_ ?_ _) | exact Nat.le_refl _ | (simp; done) | (simp; omega)))⟩
theorem ChanceHarmless1_c (d : Nat) (w : World) (hd : d < 128) : Calls Try.prog 161 #[.agg #[.int .i64 (d : Int), .int .i64 0]] w fun e w' => e = .returned (.int .i64 (dkG 3 d : Nat)) ∧ Below w.heap.size w w' := by
  have q0 : (w.alloc (.cells #[.int .i64 (d : Int), .int .i64 0] 65)).cell? ⟨w.heap.size, 0, none⟩ = some (.int .i64 (d : Int)) := by rw [World.cell?_alloc_at _ _ _ _ rfl]; rfl
  have q1 : (w.alloc (.cells #[.int .i64 (d : Int), .int .i64 0] 65)).cell? ⟨w.heap.size, 1, none⟩ = some (.int .i64 0) := by rw [World.cell?_alloc_at _ _ _ _ rfl]; rfl
  have hG : dkG 3 d = if decide ((grpL (d : Int) 0).length = 10) then 1 else 0 := by
    unfold dkG dkI; rw [List.take_length]; simp [dkH]
  rcases hq : decide ((grpL (d : Int) 0).length = 10) with _ | _
  all_goals
    rw [hG, hq]
    have HQ := Lib.hid hq
    clear hq hG
    go_enter Try.func161, Try.ntmps161
    go_wp2_with fail
    refine (isHarmless_c (d : Int) 0 _ (by omega) (by omega) (by omega) (by omega)).mono ?_
    rintro e w1 ⟨rfl, hb⟩
    rw [HQ.out]
    go_wp2
    go_ret
    exact ⟨rfl, by (repeat (first | exact Below.refl _ _ | exact (Below.refl _ _).drew | assumption | exact below_one _ | refine Below.chain ?_ (by assumption) | refine Below.drew ?_ | refine Below.alc ?_ _ | refine below_drewN ?_ | (refine Below.setCell ?_ ?_ _) | exact Nat.le_refl _ | (simp; done) | (simp; omega)))⟩
theorem MeanImages_c (k : Int) (w : World) : Calls Try.prog 66 #[.int .i64 k] w fun e w' => e = .returned (dkV 1 1 k) ∧ Below w.heap.size w w' := by
  have hcl : CallsIt 145 := fun bs w => by kernel_rfl
  rcases hc : dkOk k with _ | _
  · have HC := Lib.hid (show inB k 0 7 = false from hc)
    have HF := Lib.hid (show dkV 1 1 k = .tuple #[.agg #[.int .i64 0, .int .i64 0], .bool false] by simp [dkV, hc]); clear hc
    go_enter Try.func66, Try.ntmps66
    go_wp2_with fail
    refine (overDark_c k _ (dkG 1) _ (dkG_le (by decide)) hcl (fun d w' hd => MeanImages1_c d w' hd)).mono ?_
    rintro e w1 ⟨rfl, hb⟩
    rw [HC.out]
    obtain ⟨hd, hfz⟩ := box_after hb
    have d0 := hd 0 _ rfl
    have d1 := hd 1 _ rfl
    have z0 := hfz 0
    have z1 := hfz 1
    clear hd hfz
    have hb4 : Below w.heap.size w w1 := Below.chain (Below.alc (Below.refl _ _) _) hb
    clear hb
    go_wp2
    refine bodyPost_ret (v := dkV 1 1 k) (by rw [HF.out]; simp [results, Try.results66, go_sem, d0, d1]) rfl ⟨rfl, by (repeat (first | exact Below.refl _ _ | exact (Below.refl _ _).drew | assumption | exact below_one _ | refine Below.chain ?_ (by assumption) | refine Below.drew ?_ | refine Below.alc ?_ _ | refine below_drewN ?_ | (refine Below.setCell ?_ ?_ _) | exact Nat.le_refl _ | (simp; done) | (simp; omega)))⟩
  · have HC := Lib.hid (show inB k 0 7 = true from hc)
    have HF := Lib.hid (show dkV 1 1 k = .tuple #[fracV (dkS (dkG 1) k 128) (dkM k 128), .bool true] by simp [dkV, hc])
    have HM := dk_bounds hc
    have HS := dkS_le (dkG_le (kind := 1) (by decide)) k 128
    clear hc
    go_enter Try.func66, Try.ntmps66
    go_wp2_with fail
    refine (overDark_c k _ (dkG 1) _ (dkG_le (by decide)) hcl (fun d w' hd => MeanImages1_c d w' hd)).mono ?_
    rintro e w1 ⟨rfl, hb⟩
    rw [HC.out]
    obtain ⟨hd, hfz⟩ := box_after hb
    have d0 := hd 0 _ rfl
    have d1 := hd 1 _ rfl
    have z0 := hfz 0
    have z1 := hfz 1
    clear hd hfz
    have hb4 : Below w.heap.size w w1 := Below.chain (Below.alc (Below.refl _ _) _) hb
    clear hb
    generalize dkS (dkG 1) k 128 = s at *
    generalize dkM k 128 = m at *
    go_wp2_with fail
    refine (fraction_c s (m) (by omega) (by omega) (by omega) _).mono ?_
    rintro e w2 ⟨rfl, hb5⟩
    have e0 := cell_later hb5 d0
    have e1 := cell_later hb5 d1
    have f0 := hb5.frozen (p := ⟨w.heap.size, 0, none⟩) (World.block_lt_of_cell? _ _ d0) |>.trans z0
    have f1 := hb5.frozen (p := ⟨w.heap.size, 1, none⟩) (World.block_lt_of_cell? _ _ d1) |>.trans z1
    have hb6 := Below.chain hb4 hb5
    obtain ⟨u0, u1, hb7⟩ := two_set (.int .i64 (fracN s (m))) (.int .i64 (fracD s (m))) e0 e1 hb6 (Nat.le_refl _)
    clear hb4 hb5 d0 d1 z0 z1 hb6
    unfold fracV at HF ⊢
    go_wp2
    clear e0 e1 f0 f1
    generalize (World.setCell (World.setCell w2 _ _) _ _) = w3 at *
    refine bodyPost_ret (v := dkV 1 1 k) (by rw [HF.out]; simp [results, Try.results66, go_sem, u0, u1]) rfl ⟨rfl, hb7⟩
theorem ChanceHarmless_c (k : Int) (w : World) : Calls Try.prog 74 #[.int .i64 k] w fun e w' => e = .returned (dkV 3 1 k) ∧ Below w.heap.size w w' := by
  have hcl : CallsIt 161 := fun bs w => by kernel_rfl
  rcases hc : dkOk k with _ | _
  · have HC := Lib.hid (show inB k 0 7 = false from hc)
    have HF := Lib.hid (show dkV 3 1 k = .tuple #[.agg #[.int .i64 0, .int .i64 0], .bool false] by simp [dkV, hc]); clear hc
    go_enter Try.func74, Try.ntmps74
    go_wp2_with fail
    refine (overDark_c k _ (dkG 3) _ (dkG_le (by decide)) hcl (fun d w' hd => ChanceHarmless1_c d w' hd)).mono ?_
    rintro e w1 ⟨rfl, hb⟩
    rw [HC.out]
    obtain ⟨hd, hfz⟩ := box_after hb
    have d0 := hd 0 _ rfl
    have d1 := hd 1 _ rfl
    have z0 := hfz 0
    have z1 := hfz 1
    clear hd hfz
    have hb4 : Below w.heap.size w w1 := Below.chain (Below.alc (Below.refl _ _) _) hb
    clear hb
    go_wp2
    refine bodyPost_ret (v := dkV 3 1 k) (by rw [HF.out]; simp [results, Try.results74, go_sem, d0, d1]) rfl ⟨rfl, by (repeat (first | exact Below.refl _ _ | exact (Below.refl _ _).drew | assumption | exact below_one _ | refine Below.chain ?_ (by assumption) | refine Below.drew ?_ | refine Below.alc ?_ _ | refine below_drewN ?_ | (refine Below.setCell ?_ ?_ _) | exact Nat.le_refl _ | (simp; done) | (simp; omega)))⟩
  · have HC := Lib.hid (show inB k 0 7 = true from hc)
    have HF := Lib.hid (show dkV 3 1 k = .tuple #[fracV (dkS (dkG 3) k 128) (dkM k 128), .bool true] by simp [dkV, hc])
    have HM := dk_bounds hc
    have HS := dkS_le (dkG_le (kind := 3) (by decide)) k 128
    clear hc
    go_enter Try.func74, Try.ntmps74
    go_wp2_with fail
    refine (overDark_c k _ (dkG 3) _ (dkG_le (by decide)) hcl (fun d w' hd => ChanceHarmless1_c d w' hd)).mono ?_
    rintro e w1 ⟨rfl, hb⟩
    rw [HC.out]
    obtain ⟨hd, hfz⟩ := box_after hb
    have d0 := hd 0 _ rfl
    have d1 := hd 1 _ rfl
    have z0 := hfz 0
    have z1 := hfz 1
    clear hd hfz
    have hb4 : Below w.heap.size w w1 := Below.chain (Below.alc (Below.refl _ _) _) hb
    clear hb
    generalize dkS (dkG 3) k 128 = s at *
    generalize dkM k 128 = m at *
    go_wp2_with fail
    refine (fraction_c s (m) (by omega) (by omega) (by omega) _).mono ?_
    rintro e w2 ⟨rfl, hb5⟩
    have e0 := cell_later hb5 d0
    have e1 := cell_later hb5 d1
    have f0 := hb5.frozen (p := ⟨w.heap.size, 0, none⟩) (World.block_lt_of_cell? _ _ d0) |>.trans z0
    have f1 := hb5.frozen (p := ⟨w.heap.size, 1, none⟩) (World.block_lt_of_cell? _ _ d1) |>.trans z1
    have hb6 := Below.chain hb4 hb5
    obtain ⟨u0, u1, hb7⟩ := two_set (.int .i64 (fracN s (m))) (.int .i64 (fracD s (m))) e0 e1 hb6 (Nat.le_refl _)
    clear hb4 hb5 d0 d1 z0 z1 hb6
    unfold fracV at HF ⊢
    go_wp2
    clear e0 e1 f0 f1
    generalize (World.setCell (World.setCell w2 _ _) _ _) = w3 at *
    refine bodyPost_ret (v := dkV 3 1 k) (by rw [HF.out]; simp [results, Try.results74, go_sem, u0, u1]) rfl ⟨rfl, hb7⟩
theorem sMeanImages_c (k : Int) (w : World) : Calls Try.prog 65 #[.int .i64 k] w fun e w' => e = .returned (dkV 1 1 k) ∧ Below w.heap.size w w' := by
  rcases hc : dkOk k with _ | _
  · have HC := Lib.hid (show inB k 0 7 = false from hc)
    have HF := Lib.hid (show dkV 1 1 k = .tuple #[.agg #[.int .i64 0, .int .i64 0], .bool false] by simp [dkV, hc]); clear hc
    have hb := Below.refl (w.alloc (.cells #[.int .i64 0, .int .i64 0] 79)).heap.size (w.alloc (.cells #[.int .i64 0, .int .i64 0] 79))
    go_enter Try.func65, Try.ntmps65
    go_wp2_with fail
    refine (l1In_c k 0 7 _).mono ?_
    rintro e w1 ⟨rfl, rfl⟩
    rw [HC.out]
    obtain ⟨hd, hfz⟩ := box_after hb
    have d0 := hd 0 _ rfl
    have d1 := hd 1 _ rfl
    have z0 := hfz 0
    have z1 := hfz 1
    clear hd hfz
    have hb4 : Below w.heap.size w (w.alloc (.cells #[.int .i64 0, .int .i64 0] 79)) := Below.chain (Below.alc (Below.refl _ _) _) hb
    clear hb
    go_wp2
    refine bodyPost_ret (v := dkV 1 1 k) (by rw [HF.out]; simp [results, Try.results65, go_sem, d0, d1]) rfl ⟨rfl, by (repeat (first | exact Below.refl _ _ | exact (Below.refl _ _).drew | assumption | exact below_one _ | refine Below.chain ?_ (by assumption) | refine Below.drew ?_ | refine Below.alc ?_ _ | refine below_drewN ?_ | (refine Below.setCell ?_ ?_ _) | exact Nat.le_refl _ | (simp; done) | (simp; omega)))⟩
  · have HC := Lib.hid (show inB k 0 7 = true from hc)
    have HF := Lib.hid (show dkV 1 1 k = .tuple #[fracV (dkS (dkG 1) k 128) (dkM k 128), .bool true] by simp [dkV, hc])
    have HM := dk_bounds hc
    have HS := dkS_le (dkG_le (kind := 1) (by decide)) k 128
    clear hc
    go_enter Try.func65, Try.ntmps65
    go_wp2_with fail
    refine (l1In_c k 0 7 _).mono ?_
    rintro e w1 ⟨rfl, rfl⟩
    rw [HC.out]
    go_wp2_with fail
    refine (l9Dark_c k 1 (by decide) _).mono ?_
    rintro e w1 ⟨rfl, hb⟩
    obtain ⟨hd, hfz⟩ := box_after hb
    have d0 := hd 0 _ rfl
    have d1 := hd 1 _ rfl
    have z0 := hfz 0
    have z1 := hfz 1
    clear hd hfz
    have hb4 : Below w.heap.size w w1 := Below.chain (Below.alc (Below.refl _ _) _) hb
    clear hb
    generalize dkS (dkG 1) k 128 = s at *
    generalize dkM k 128 = m at *
    go_wp2_with fail
    refine (l9Cut_c s (m) (by omega) (by omega) (by omega) _).mono ?_
    rintro e w2 ⟨rfl, hb5⟩
    have e0 := cell_later hb5 d0
    have e1 := cell_later hb5 d1
    have f0 := hb5.frozen (p := ⟨w.heap.size, 0, none⟩) (World.block_lt_of_cell? _ _ d0) |>.trans z0
    have f1 := hb5.frozen (p := ⟨w.heap.size, 1, none⟩) (World.block_lt_of_cell? _ _ d1) |>.trans z1
    have hb6 := Below.chain hb4 hb5
    obtain ⟨u0, u1, hb7⟩ := two_set (.int .i64 (fracN s (m))) (.int .i64 (fracD s (m))) e0 e1 hb6 (Nat.le_refl _)
    clear hb4 hb5 d0 d1 z0 z1 hb6
    unfold fracV at HF ⊢
    go_wp2
    clear e0 e1 f0 f1
    generalize (World.setCell (World.setCell w2 _ _) _ _) = w3 at *
    refine bodyPost_ret (v := dkV 1 1 k) (by rw [HF.out]; simp [results, Try.results65, go_sem, u0, u1]) rfl ⟨rfl, hb7⟩
theorem sChanceHarmless_c (k : Int) (w : World) : Calls Try.prog 73 #[.int .i64 k] w fun e w' => e = .returned (dkV 3 1 k) ∧ Below w.heap.size w w' := by
  rcases hc : dkOk k with _ | _
  · have HC := Lib.hid (show inB k 0 7 = false from hc)
    have HF := Lib.hid (show dkV 3 1 k = .tuple #[.agg #[.int .i64 0, .int .i64 0], .bool false] by simp [dkV, hc]); clear hc
    have hb := Below.refl (w.alloc (.cells #[.int .i64 0, .int .i64 0] 79)).heap.size (w.alloc (.cells #[.int .i64 0, .int .i64 0] 79))
    go_enter Try.func73, Try.ntmps73
    go_wp2_with fail
    refine (l1In_c k 0 7 _).mono ?_
    rintro e w1 ⟨rfl, rfl⟩
    rw [HC.out]
    obtain ⟨hd, hfz⟩ := box_after hb
    have d0 := hd 0 _ rfl
    have d1 := hd 1 _ rfl
    have z0 := hfz 0
    have z1 := hfz 1
    clear hd hfz
    have hb4 : Below w.heap.size w (w.alloc (.cells #[.int .i64 0, .int .i64 0] 79)) := Below.chain (Below.alc (Below.refl _ _) _) hb
    clear hb
    go_wp2
    refine bodyPost_ret (v := dkV 3 1 k) (by rw [HF.out]; simp [results, Try.results73, go_sem, d0, d1]) rfl ⟨rfl, by (repeat (first | exact Below.refl _ _ | exact (Below.refl _ _).drew | assumption | exact below_one _ | refine Below.chain ?_ (by assumption) | refine Below.drew ?_ | refine Below.alc ?_ _ | refine below_drewN ?_ | (refine Below.setCell ?_ ?_ _) | exact Nat.le_refl _ | (simp; done) | (simp; omega)))⟩
  · have HC := Lib.hid (show inB k 0 7 = true from hc)
    have HF := Lib.hid (show dkV 3 1 k = .tuple #[fracV (dkS (dkG 3) k 128) (dkM k 128), .bool true] by simp [dkV, hc])
    have HM := dk_bounds hc
    have HS := dkS_le (dkG_le (kind := 3) (by decide)) k 128
    clear hc
    go_enter Try.func73, Try.ntmps73
    go_wp2_with fail
    refine (l1In_c k 0 7 _).mono ?_
    rintro e w1 ⟨rfl, rfl⟩
    rw [HC.out]
    go_wp2_with fail
    refine (l9Dark_c k 3 (by decide) _).mono ?_
    rintro e w1 ⟨rfl, hb⟩
    obtain ⟨hd, hfz⟩ := box_after hb
    have d0 := hd 0 _ rfl
    have d1 := hd 1 _ rfl
    have z0 := hfz 0
    have z1 := hfz 1
    clear hd hfz
    have hb4 : Below w.heap.size w w1 := Below.chain (Below.alc (Below.refl _ _) _) hb
    clear hb
    generalize dkS (dkG 3) k 128 = s at *
    generalize dkM k 128 = m at *
    go_wp2_with fail
    refine (l9Cut_c s (m) (by omega) (by omega) (by omega) _).mono ?_
    rintro e w2 ⟨rfl, hb5⟩
    have e0 := cell_later hb5 d0
    have e1 := cell_later hb5 d1
    have f0 := hb5.frozen (p := ⟨w.heap.size, 0, none⟩) (World.block_lt_of_cell? _ _ d0) |>.trans z0
    have f1 := hb5.frozen (p := ⟨w.heap.size, 1, none⟩) (World.block_lt_of_cell? _ _ d1) |>.trans z1
    have hb6 := Below.chain hb4 hb5
    obtain ⟨u0, u1, hb7⟩ := two_set (.int .i64 (fracN s (m))) (.int .i64 (fracD s (m))) e0 e1 hb6 (Nat.le_refl _)
    clear hb4 hb5 d0 d1 z0 z1 hb6
    unfold fracV at HF ⊢
    go_wp2
    clear e0 e1 f0 f1
    generalize (World.setCell (World.setCell w2 _ _) _ _) = w3 at *
    refine bodyPost_ret (v := dkV 3 1 k) (by rw [HF.out]; simp [results, Try.results73, go_sem, u0, u1]) rfl ⟨rfl, hb7⟩
end Go.Proofs.Ytahpknjligaliaa
