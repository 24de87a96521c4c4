/- Walks of ChanceTold, both texts. -/
import Derived.Test.YtahpknjligaliaaDark3
import Derived.Test.YtahpknjligaliaaTold
namespace Go.Proofs.Ytahpknjligaliaa
open Go.RowKit
set_option linter.unusedVariables false
set_option maxRecDepth 100000
theorem ChanceTold1_c (d : Nat) (w : World) (hd : d < 128) : Calls Try.prog 166 #[.agg #[.int .i64 (d : Int), .int .i64 0]] w fun e w' => e = .returned (.int .i64 (dkG 2 d : Nat)) ∧ Below w.heap.size w w' := by
  have hf : faultB (d : Int) 0 = true := by
    unfold faultB cellB
    rw [inB_mk (by omega) (by omega)]
    simp [andC, inB]
  have hG : dkG 2 d = (tdL (d : Int) 0).length := by
    unfold tdL dkG; rw [hf, if_pos rfl, toldTo_len]; simp
  rw [hG]; clear hG hf
  have q0 : (w.alloc (.cells #[.int .i64 (d : Int), .int .i64 0] 65)).cell? ⟨w.heap.size, 0, none⟩ = some (.int .i64 (d : Int)) := by rw [World.cell?_alloc_at _ _ _ _ rfl]; rfl
  have q1 : (w.alloc (.cells #[.int .i64 (d : Int), .int .i64 0] 65)).cell? ⟨w.heap.size, 1, none⟩ = some (.int .i64 0) := by rw [World.cell?_alloc_at _ _ _ _ rfl]; rfl
  go_enter Try.func166, Try.ntmps166
  go_wp2_with fail
  refine (ToldDigits_c (d : Int) 0 _).mono ?_
  rintro e w1 ⟨u, rfl, ho, hb⟩
  obtain ⟨a, c, rfl, _⟩ := (Sl.of_own ho).slice
  go_wp2
  go_ret
  exact ⟨rfl, by (repeat (first | exact Below.refl _ _ | exact (Below.refl _ _).drew | assumption | exact below_one _ | refine Below.chain ?_ (by assumption) | refine Below.drew ?_ | refine Below.alc ?_ _ | refine below_drewN ?_ | (refine Below.setCell ?_ ?_ _) | exact Nat.le_refl _ | (simp; done) | (simp; omega)))⟩
theorem ChanceTold_c (k : Int) (w : World) : Calls Try.prog 85 #[.int .i64 k] w fun e w' => e = .returned (dkV 2 10 k) ∧ Below w.heap.size w w' := by
  have hcl : CallsIt 166 := fun bs w => by kernel_rfl
  rcases hc : dkOk k with _ | _
  · have HC := Lib.hid (show inB k 0 7 = false from hc)
    have HF := Lib.hid (show dkV 2 10 k = .tuple #[.agg #[.int .i64 0, .int .i64 0], .bool false] by simp [dkV, hc]); clear hc
    go_enter Try.func85, Try.ntmps85
    go_wp2_with fail
    refine (overDark_c k _ (dkG 2) _ (dkG_le (by decide)) hcl (fun d w' hd => ChanceTold1_c d w' hd)).mono ?_
    rintro e w1 ⟨rfl, hb⟩
    rw [HC.out]
    obtain ⟨hd, hfz⟩ := box_after hb
    have d0 := hd 0 _ rfl
    have d1 := hd 1 _ rfl
    have z0 := hfz 0
    have z1 := hfz 1
    clear hd hfz
    have hb4 : Below w.heap.size w w1 := Below.chain (Below.alc (Below.refl _ _) _) hb
    clear hb
    go_wp2
    refine bodyPost_ret (v := dkV 2 10 k) (by rw [HF.out]; simp [results, Try.results85, go_sem, d0, d1]) rfl ⟨rfl, by (repeat (first | exact Below.refl _ _ | exact (Below.refl _ _).drew | assumption | exact below_one _ | refine Below.chain ?_ (by assumption) | refine Below.drew ?_ | refine Below.alc ?_ _ | refine below_drewN ?_ | (refine Below.setCell ?_ ?_ _) | exact Nat.le_refl _ | (simp; done) | (simp; omega)))⟩
  · have HC := Lib.hid (show inB k 0 7 = true from hc)
    have HF := Lib.hid (show dkV 2 10 k = .tuple #[fracV (dkS (dkG 2) k 128) (10 * dkM k 128), .bool true] by simp [dkV, hc])
    have HM := dk_bounds hc
    have HS := dkS_le (dkG_le (kind := 2) (by decide)) k 128
    clear hc
    go_enter Try.func85, Try.ntmps85
    go_wp2_with fail
    refine (overDark_c k _ (dkG 2) _ (dkG_le (by decide)) hcl (fun d w' hd => ChanceTold1_c d w' hd)).mono ?_
    rintro e w1 ⟨rfl, hb⟩
    rw [HC.out]
    obtain ⟨hd, hfz⟩ := box_after hb
    have d0 := hd 0 _ rfl
    have d1 := hd 1 _ rfl
    have z0 := hfz 0
    have z1 := hfz 1
    clear hd hfz
    have hb4 : Below w.heap.size w w1 := Below.chain (Below.alc (Below.refl _ _) _) hb
    clear hb
    generalize dkS (dkG 2) k 128 = s at *
    generalize dkM k 128 = m at *
    have hw : wrap64 (10 * (m : Int)) = ((10 * m : Nat) : Int) := by simp only [wrap64]; omega
    go_wp2_with fail
    refine (fraction_c s (10 * m) (by omega) (by omega) (by omega) _).mono ?_
    rintro e w2 ⟨rfl, hb5⟩
    have e0 := cell_later hb5 d0
    have e1 := cell_later hb5 d1
    have f0 := hb5.frozen (p := ⟨w.heap.size, 0, none⟩) (World.block_lt_of_cell? _ _ d0) |>.trans z0
    have f1 := hb5.frozen (p := ⟨w.heap.size, 1, none⟩) (World.block_lt_of_cell? _ _ d1) |>.trans z1
    have hb6 := Below.chain hb4 hb5
    obtain ⟨u0, u1, hb7⟩ := two_set (.int .i64 (fracN s (10 * m))) (.int .i64 (fracD s (10 * m))) e0 e1 hb6 (Nat.le_refl _)
    clear hb4 hb5 d0 d1 z0 z1 hb6
    unfold fracV at HF ⊢
    go_wp2
    clear e0 e1 f0 f1
    generalize (World.setCell (World.setCell w2 _ _) _ _) = w3 at *
    refine bodyPost_ret (v := dkV 2 10 k) (by rw [HF.out]; simp [results, Try.results85, go_sem, u0, u1]) rfl ⟨rfl, hb7⟩
theorem sChanceTold_c (k : Int) (w : World) : Calls Try.prog 84 #[.int .i64 k] w fun e w' => e = .returned (dkV 2 10 k) ∧ Below w.heap.size w w' := by
  rcases hc : dkOk k with _ | _
  · have HC := Lib.hid (show inB k 0 7 = false from hc)
    have HF := Lib.hid (show dkV 2 10 k = .tuple #[.agg #[.int .i64 0, .int .i64 0], .bool false] by simp [dkV, hc]); clear hc
    have hb := Below.refl (w.alloc (.cells #[.int .i64 0, .int .i64 0] 79)).heap.size (w.alloc (.cells #[.int .i64 0, .int .i64 0] 79))
    go_enter Try.func84, Try.ntmps84
    go_wp2_with fail
    refine (l1In_c k 0 7 _).mono ?_
    rintro e w1 ⟨rfl, rfl⟩
    rw [HC.out]
    obtain ⟨hd, hfz⟩ := box_after hb
    have d0 := hd 0 _ rfl
    have d1 := hd 1 _ rfl
    have z0 := hfz 0
    have z1 := hfz 1
    clear hd hfz
    have hb4 : Below w.heap.size w (w.alloc (.cells #[.int .i64 0, .int .i64 0] 79)) := Below.chain (Below.alc (Below.refl _ _) _) hb
    clear hb
    go_wp2
    refine bodyPost_ret (v := dkV 2 10 k) (by rw [HF.out]; simp [results, Try.results84, go_sem, d0, d1]) rfl ⟨rfl, by (repeat (first | exact Below.refl _ _ | exact (Below.refl _ _).drew | assumption | exact below_one _ | refine Below.chain ?_ (by assumption) | refine Below.drew ?_ | refine Below.alc ?_ _ | refine below_drewN ?_ | (refine Below.setCell ?_ ?_ _) | exact Nat.le_refl _ | (simp; done) | (simp; omega)))⟩
  · have HC := Lib.hid (show inB k 0 7 = true from hc)
    have HF := Lib.hid (show dkV 2 10 k = .tuple #[fracV (dkS (dkG 2) k 128) (10 * dkM k 128), .bool true] by simp [dkV, hc])
    have HM := dk_bounds hc
    have HS := dkS_le (dkG_le (kind := 2) (by decide)) k 128
    clear hc
    go_enter Try.func84, Try.ntmps84
    go_wp2_with fail
    refine (l1In_c k 0 7 _).mono ?_
    rintro e w1 ⟨rfl, rfl⟩
    rw [HC.out]
    go_wp2_with fail
    refine (l9Dark_c k 2 (by decide) _).mono ?_
    rintro e w1 ⟨rfl, hb⟩
    obtain ⟨hd, hfz⟩ := box_after hb
    have d0 := hd 0 _ rfl
    have d1 := hd 1 _ rfl
    have z0 := hfz 0
    have z1 := hfz 1
    clear hd hfz
    have hb4 : Below w.heap.size w w1 := Below.chain (Below.alc (Below.refl _ _) _) hb
    clear hb
    generalize dkS (dkG 2) k 128 = s at *
    generalize dkM k 128 = m at *
    have hw : wrap64 (10 * (m : Int)) = ((10 * m : Nat) : Int) := by simp only [wrap64]; omega
    go_wp2_with fail
    refine (l9Cut_c s (10 * m) (by omega) (by omega) (by omega) _).mono ?_
    rintro e w2 ⟨rfl, hb5⟩
    have e0 := cell_later hb5 d0
    have e1 := cell_later hb5 d1
    have f0 := hb5.frozen (p := ⟨w.heap.size, 0, none⟩) (World.block_lt_of_cell? _ _ d0) |>.trans z0
    have f1 := hb5.frozen (p := ⟨w.heap.size, 1, none⟩) (World.block_lt_of_cell? _ _ d1) |>.trans z1
    have hb6 := Below.chain hb4 hb5
    obtain ⟨u0, u1, hb7⟩ := two_set (.int .i64 (fracN s (10 * m))) (.int .i64 (fracD s (10 * m))) e0 e1 hb6 (Nat.le_refl _)
    clear hb4 hb5 d0 d1 z0 z1 hb6
    unfold fracV at HF ⊢
    go_wp2
    clear e0 e1 f0 f1
    generalize (World.setCell (World.setCell w2 _ _) _ _) = w3 at *
    refine bodyPost_ret (v := dkV 2 10 k) (by rw [HF.out]; simp [results, Try.results84, go_sem, u0, u1]) rfl ⟨rfl, hb7⟩
end Go.Proofs.Ytahpknjligaliaa
