/- Walks of MeanFound and ChanceFull, both texts. -/
import Derived.Test.YtahpknjligaliaaDrawn
namespace Go.Proofs.Ytahpknjligaliaa
open Go.RowKit
set_option linter.unusedVariables false
set_option maxRecDepth 100000
def gFound (xs : List Int) : Nat := (foundSt xs).length
def gFull (xs : List Int) : Nat := if fullB xs then 1 else 0
theorem gFound_le : ∀ xs, gFound xs ≤ 15 := foundSt_le
theorem gFull_le : ∀ xs, gFull xs ≤ 15 := fun xs => by unfold gFull; split <;> omega
def otV (g : List Int → Nat) (m : Int) : Value := .tuple #[if inB m 0 4 then fracV (otS g m.toNat (10 ^ m.toNat)) (10 ^ m.toNat) else .agg #[.int .i64 0, .int .i64 0], .bool (inB m 0 4)]
theorem MeanFound1_c (v : Value) (xs : List Int) (w : World) (hv : Ints w v xs) (ht : testB xs = true) : Calls Try.prog 151 #[v] w fun e w' => e = .returned (.int .i64 (gFound xs : Nat)) ∧ Below w.heap.size w w' := by
  go_enter Try.func151, Try.ntmps151
  go_wp2_with fail
  refine (found_c v xs _ hv ht).mono ?_
  rintro e w1 ⟨u, rfl, ho, hb⟩
  obtain ⟨a, c, rfl, _⟩ := (Sl.of_own ho).slice
  go_wp2
  go_ret
  exact ⟨rfl, hb⟩
theorem MeanFound_c (m : Int) (w : World) : Calls Try.prog 69 #[.int .i64 m] w fun e w' => e = .returned (otV gFound m) ∧ Below w.heap.size w w' := by
  have hcl : CallsIt 151 := fun bs w => by kernel_rfl
  rcases hc : inB m 0 4 with _ | _
  · have HC := Lib.hid hc
    have HF := Lib.hid (show otV gFound m = .tuple #[.agg #[.int .i64 0, .int .i64 0], .bool false] by simp [otV, hc])
    go_enter Try.func69, Try.ntmps69
    go_wp2_with fail
    refine (overTests_no m _ _ hc).mono ?_
    rintro e w1 ⟨rfl, rfl⟩
    have hb := Below.refl (w.alloc (.cells #[.int .i64 0, .int .i64 0] 79)).heap.size (w.alloc (.cells #[.int .i64 0, .int .i64 0] 79))
    obtain ⟨hd, hfz⟩ := box_after hb
    have d0 := hd 0 _ rfl
    have d1 := hd 1 _ rfl
    have z0 := hfz 0
    have z1 := hfz 1
    clear hd hfz
    have hb4 := below_one (w := w) (.cells #[.int .i64 0, .int .i64 0] 79)
    clear hb hc
    go_wp2
    refine bodyPost_ret (v := otV gFound m) (by rw [HF.out]; simp [results, Try.results69, go_sem, d0, d1]) rfl ⟨rfl, by (repeat (first | exact Below.refl _ _ | exact (Below.refl _ _).drew | assumption | exact below_one _ | refine Below.chain ?_ (by assumption) | refine Below.drew ?_ | refine Below.alc ?_ _ | refine below_drewN ?_ | (refine Below.setCell ?_ ?_ _) | exact Nat.le_refl _ | (simp; done) | (simp; omega)))⟩
  · have hm := inB_true hc
    obtain ⟨m, rfl⟩ := Int.eq_ofNat_of_zero_le hm.1
    have hm4 : m ≤ 4 := by omega
    have HF := Lib.hid (show otV gFound (m : Int) = .tuple #[fracV (otS gFound m (10 ^ m)) (10 ^ m), .bool true] by simp [otV, hc])
    have HP := pw_pos m
    have HQ := pw_le hm4
    have HS := otS_le gFound_le m (10 ^ m)
    clear hc
    go_enter Try.func69, Try.ntmps69
    go_wp2_with fail
    refine (overTests_c m hm4 _ gFound _ gFound_le hcl (fun v xs w' h1 h2 => MeanFound1_c v xs w' h1 h2)).mono ?_
    rintro e w1 ⟨rfl, hb⟩
    obtain ⟨hd, hfz⟩ := box_after hb
    have d0 := hd 0 _ rfl
    have d1 := hd 1 _ rfl
    have z0 := hfz 0
    have z1 := hfz 1
    clear hd hfz
    have hb4 : Below w.heap.size w w1 := Below.chain (Below.alc (Below.refl _ _) _) hb
    clear hb
    generalize otS gFound m (10 ^ m) = s at *
    generalize 10 ^ m = N at *
    go_wp2_with fail
    refine (fraction_c s N (by omega) (by omega) (by omega) _).mono ?_
    rintro e w2 ⟨rfl, hb5⟩
    have e0 := cell_later hb5 d0
    have e1 := cell_later hb5 d1
    have f0 := hb5.frozen (p := ⟨w.heap.size, 0, none⟩) (World.block_lt_of_cell? _ _ d0) |>.trans z0
    have f1 := hb5.frozen (p := ⟨w.heap.size, 1, none⟩) (World.block_lt_of_cell? _ _ d1) |>.trans z1
    have hb6 := Below.chain hb4 hb5
    obtain ⟨u0, u1, hb7⟩ := two_set (.int .i64 (fracN s N)) (.int .i64 (fracD s N)) e0 e1 hb6 (Nat.le_refl _)
    clear hb4 hb5 d0 d1 z0 z1 hb6
    unfold fracV at HF ⊢
    go_wp2
    clear e0 e1 f0 f1
    generalize (World.setCell (World.setCell w2 _ _) _ _) = w3 at *
    refine bodyPost_ret (v := otV gFound (m : Int)) (by rw [HF.out]; simp [results, Try.results69, go_sem, u0, u1]) rfl ⟨rfl, hb7⟩
theorem sMeanFound_c (m : Int) (w : World) : Calls Try.prog 68 #[.int .i64 m] w fun e w' => e = .returned (otV gFound m) ∧ Below w.heap.size w w' := by
  rcases hc : inB m 0 4 with _ | _
  · have HC := Lib.hid hc
    have HF := Lib.hid (show otV gFound m = .tuple #[.agg #[.int .i64 0, .int .i64 0], .bool false] by simp [otV, hc]); clear hc
    go_enter Try.func68, Try.ntmps68
    go_wp2_with fail
    refine (l1In_c m 0 4 _).mono ?_
    rintro e w1 ⟨rfl, rfl⟩
    rw [HC.out]
    have hb := Below.refl (w.alloc (.cells #[.int .i64 0, .int .i64 0] 79)).heap.size (w.alloc (.cells #[.int .i64 0, .int .i64 0] 79))
    obtain ⟨hd, hfz⟩ := box_after hb
    have d0 := hd 0 _ rfl
    have d1 := hd 1 _ rfl
    have z0 := hfz 0
    have z1 := hfz 1
    clear hd hfz
    have hb4 := below_one (w := w) (.cells #[.int .i64 0, .int .i64 0] 79)
    clear hb
    go_wp2
    refine bodyPost_ret (v := otV gFound m) (by rw [HF.out]; simp [results, Try.results68, go_sem, d0, d1]) rfl ⟨rfl, by (repeat (first | exact Below.refl _ _ | exact (Below.refl _ _).drew | assumption | exact below_one _ | refine Below.chain ?_ (by assumption) | refine Below.drew ?_ | refine Below.alc ?_ _ | refine below_drewN ?_ | (refine Below.setCell ?_ ?_ _) | exact Nat.le_refl _ | (simp; done) | (simp; omega)))⟩
  · have hm := inB_true hc
    obtain ⟨m, rfl⟩ := Int.eq_ofNat_of_zero_le hm.1
    have hm4 : m ≤ 4 := by omega
    have HC := Lib.hid hc
    have HF := Lib.hid (show otV gFound (m : Int) = .tuple #[fracV (otS gFound m (10 ^ m)) (10 ^ m), .bool true] by simp [otV, hc])
    have HP := pw_pos m
    have HQ := pw_le hm4
    clear hc
    go_enter Try.func68, Try.ntmps68
    go_wp2_with fail
    refine (l1In_c (m : Int) 0 4 _).mono ?_
    rintro e w1 ⟨rfl, rfl⟩
    rw [HC.out]
    go_wp2_with fail
    refine (l9Power_c m hm4 _).mono ?_
    rintro e w1 ⟨rfl, rfl⟩
    generalize hN : 10 ^ m = N at *
    clear hN
    generalize hwb : w.alloc (.cells #[.int .i64 0, .int .i64 0] 79) = wb at *
    go_wp2
    go_loopw [4, 6] (fun s j wr => ∃ n : Nat, n ≤ N ∧ j = .int .i64 (n : Int) ∧ s = .int .i64 (otS gFound m n : Nat) ∧ Below wb.heap.size wb wr) (fun _ j _ => N - (intOf j).toNat)
    case atStart => exact ⟨0, by omega, rfl, rfl, Below.refl _ _⟩
    case round =>
     obtain ⟨n, hn, rfl, rfl, hb⟩ := hrel
     have HSl := otS_le gFound_le m n
     by_cases hlt : n < N
     · have hd : decide ((n : Int) < (N : Int)) = true := by simp; omega
       have hS := otS_succ gFound m n
       have hgn := gFound_le (dgs n m)
       have htst := dgs_test n hm4
       generalize otS gFound m n = s at *
       have HS := Lib.hid hS; clear hS
       go_wp2_with fail
       refine (l9Test_c n m (by omega) hm4 _).mono ?_
       rintro e w2 ⟨u, rfl, ho, hb2⟩
       go_wp2_with fail
       refine (l7Found_c u (dgs n m) true _ (Ints.of_own ho) htst).mono ?_
       rintro e w3 ⟨v, rfl, ho3, hb3⟩
       have hb4 := Below.chain hb (Below.chain hb2 hb3)
       have hs4 : (l7F (dgs n m) true 14).length = gFound (dgs n m) := by rw [l7F_found]; rfl
       obtain ⟨a, c, rfl, _⟩ := (Sl.of_own ho3).slice
       rw [hs4]
       clear ho ho3 hs4 hb hb2 hb3
       generalize gFound (dgs n m) = gn at *
       go_wp2
       go_roundw
       case rel => exact ⟨n + 1, by omega, by go_num, by rw [HS.out]; exact int_val (by omega), hb4⟩
       case measure => simp [intOf]; omega
     · obtain rfl : n = N := by omega
       subst hwb
       generalize otS gFound m n = s at *
       obtain ⟨hd, hfz⟩ := box_after hb
       have d0 := hd 0 _ rfl
       have d1 := hd 1 _ rfl
       have z0 := hfz 0
       have z1 := hfz 1
       clear hd hfz
       rename World => w1
       have hb4 : Below w.heap.size w w1 := Below.chain (Below.alc (Below.refl _ _) _) hb
       clear hb
       have HN : n = n := rfl
       go_wp2_with fail
       refine (l9Cut_c s n (by omega) (by omega) (by omega) _).mono ?_
       rintro e w2 ⟨rfl, hb5⟩
       have e0 := cell_later hb5 d0
       have e1 := cell_later hb5 d1
       have f0 := hb5.frozen (p := ⟨w.heap.size, 0, none⟩) (World.block_lt_of_cell? _ _ d0) |>.trans z0
       have f1 := hb5.frozen (p := ⟨w.heap.size, 1, none⟩) (World.block_lt_of_cell? _ _ d1) |>.trans z1
       have hb6 := Below.chain hb4 hb5
       obtain ⟨u0, u1, hb7⟩ := two_set (.int .i64 (fracN s n)) (.int .i64 (fracD s n)) e0 e1 hb6 (Nat.le_refl _)
       clear hb4 hb5 d0 d1 z0 z1 hb6
       unfold fracV at HF ⊢
       go_wp2
       clear e0 e1 f0 f1
       generalize (World.setCell (World.setCell w2 _ _) _ _) = w3 at *
       refine bodyPost_ret (v := otV gFound (m : Int)) (by rw [HF.out]; simp [results, Try.results68, go_sem, u0, u1]) rfl ⟨rfl, hb7⟩
theorem ChanceFull1_c (v : Value) (xs : List Int) (w : World) (hv : Ints w v xs) (ht : testB xs = true) : Calls Try.prog 162 #[v] w fun e w' => e = .returned (.int .i64 (gFull xs : Nat)) ∧ Below w.heap.size w w' := by
  rcases hq : fullB xs with _ | _
  all_goals
    have HG := Lib.hid (show gFull xs = _ by unfold gFull; rw [hq])
    have HQ := Lib.hid hq
    clear hq
    go_enter Try.func162, Try.ntmps162
    go_wp2_with fail
    refine (isFull_c v xs _ hv ht).mono ?_
    rintro e w1 ⟨rfl, hb⟩
    rw [HQ.out]
    go_wp2
    go_ret
    exact ⟨by rw [HG.out]; rfl, hb⟩
theorem ChanceFull_c (m : Int) (w : World) : Calls Try.prog 76 #[.int .i64 m] w fun e w' => e = .returned (otV gFull m) ∧ Below w.heap.size w w' := by
  have hcl : CallsIt 162 := fun bs w => by kernel_rfl
  rcases hc : inB m 0 4 with _ | _
  · have HC := Lib.hid hc
    have HF := Lib.hid (show otV gFull m = .tuple #[.agg #[.int .i64 0, .int .i64 0], .bool false] by simp [otV, hc])
    go_enter Try.func76, Try.ntmps76
    go_wp2_with fail
    refine (overTests_no m _ _ hc).mono ?_
    rintro e w1 ⟨rfl, rfl⟩
    have hb := Below.refl (w.alloc (.cells #[.int .i64 0, .int .i64 0] 79)).heap.size (w.alloc (.cells #[.int .i64 0, .int .i64 0] 79))
    obtain ⟨hd, hfz⟩ := box_after hb
    have d0 := hd 0 _ rfl
    have d1 := hd 1 _ rfl
    have z0 := hfz 0
    have z1 := hfz 1
    clear hd hfz
    have hb4 := below_one (w := w) (.cells #[.int .i64 0, .int .i64 0] 79)
    clear hb hc
    go_wp2
    refine bodyPost_ret (v := otV gFull m) (by rw [HF.out]; simp [results, Try.results76, go_sem, d0, d1]) rfl ⟨rfl, by (repeat (first | exact Below.refl _ _ | exact (Below.refl _ _).drew | assumption | exact below_one _ | refine Below.chain ?_ (by assumption) | refine Below.drew ?_ | refine Below.alc ?_ _ | refine below_drewN ?_ | (refine Below.setCell ?_ ?_ _) | exact Nat.le_refl _ | (simp; done) | (simp; omega)))⟩
  · have hm := inB_true hc
    obtain ⟨m, rfl⟩ := Int.eq_ofNat_of_zero_le hm.1
    have hm4 : m ≤ 4 := by omega
    have HF := Lib.hid (show otV gFull (m : Int) = .tuple #[fracV (otS gFull m (10 ^ m)) (10 ^ m), .bool true] by simp [otV, hc])
    have HP := pw_pos m
    have HQ := pw_le hm4
    have HS := otS_le gFull_le m (10 ^ m)
    clear hc
    go_enter Try.func76, Try.ntmps76
    go_wp2_with fail
    refine (overTests_c m hm4 _ gFull _ gFull_le hcl (fun v xs w' h1 h2 => ChanceFull1_c v xs w' h1 h2)).mono ?_
    rintro e w1 ⟨rfl, hb⟩
    obtain ⟨hd, hfz⟩ := box_after hb
    have d0 := hd 0 _ rfl
    have d1 := hd 1 _ rfl
    have z0 := hfz 0
    have z1 := hfz 1
    clear hd hfz
    have hb4 : Below w.heap.size w w1 := Below.chain (Below.alc (Below.refl _ _) _) hb
    clear hb
    generalize otS gFull m (10 ^ m) = s at *
    generalize 10 ^ m = N at *
    go_wp2_with fail
    refine (fraction_c s N (by omega) (by omega) (by omega) _).mono ?_
    rintro e w2 ⟨rfl, hb5⟩
    have e0 := cell_later hb5 d0
    have e1 := cell_later hb5 d1
    have f0 := hb5.frozen (p := ⟨w.heap.size, 0, none⟩) (World.block_lt_of_cell? _ _ d0) |>.trans z0
    have f1 := hb5.frozen (p := ⟨w.heap.size, 1, none⟩) (World.block_lt_of_cell? _ _ d1) |>.trans z1
    have hb6 := Below.chain hb4 hb5
    obtain ⟨u0, u1, hb7⟩ := two_set (.int .i64 (fracN s N)) (.int .i64 (fracD s N)) e0 e1 hb6 (Nat.le_refl _)
    clear hb4 hb5 d0 d1 z0 z1 hb6
    unfold fracV at HF ⊢
    go_wp2
    clear e0 e1 f0 f1
    generalize (World.setCell (World.setCell w2 _ _) _ _) = w3 at *
    refine bodyPost_ret (v := otV gFull (m : Int)) (by rw [HF.out]; simp [results, Try.results76, go_sem, u0, u1]) rfl ⟨rfl, hb7⟩
theorem sChanceFull_c (m : Int) (w : World) : Calls Try.prog 75 #[.int .i64 m] w fun e w' => e = .returned (otV gFull m) ∧ Below w.heap.size w w' := by
  rcases hc : inB m 0 4 with _ | _
  · have HC := Lib.hid hc
    have HF := Lib.hid (show otV gFull m = .tuple #[.agg #[.int .i64 0, .int .i64 0], .bool false] by simp [otV, hc]); clear hc
    go_enter Try.func75, Try.ntmps75
    go_wp2_with fail
    refine (l1In_c m 0 4 _).mono ?_
    rintro e w1 ⟨rfl, rfl⟩
    rw [HC.out]
    have hb := Below.refl (w.alloc (.cells #[.int .i64 0, .int .i64 0] 79)).heap.size (w.alloc (.cells #[.int .i64 0, .int .i64 0] 79))
    obtain ⟨hd, hfz⟩ := box_after hb
    have d0 := hd 0 _ rfl
    have d1 := hd 1 _ rfl
    have z0 := hfz 0
    have z1 := hfz 1
    clear hd hfz
    have hb4 := below_one (w := w) (.cells #[.int .i64 0, .int .i64 0] 79)
    clear hb
    go_wp2
    refine bodyPost_ret (v := otV gFull m) (by rw [HF.out]; simp [results, Try.results75, go_sem, d0, d1]) rfl ⟨rfl, by (repeat (first | exact Below.refl _ _ | exact (Below.refl _ _).drew | assumption | exact below_one _ | refine Below.chain ?_ (by assumption) | refine Below.drew ?_ | refine Below.alc ?_ _ | refine below_drewN ?_ | (refine Below.setCell ?_ ?_ _) | exact Nat.le_refl _ | (simp; done) | (simp; omega)))⟩
  · have hm := inB_true hc
    obtain ⟨m, rfl⟩ := Int.eq_ofNat_of_zero_le hm.1
    have hm4 : m ≤ 4 := by omega
    have HC := Lib.hid hc
    have HF := Lib.hid (show otV gFull (m : Int) = .tuple #[fracV (otS gFull m (10 ^ m)) (10 ^ m), .bool true] by simp [otV, hc])
    have HP := pw_pos m
    have HQ := pw_le hm4
    clear hc
    go_enter Try.func75, Try.ntmps75
    go_wp2_with fail
    refine (l1In_c (m : Int) 0 4 _).mono ?_
    rintro e w1 ⟨rfl, rfl⟩
    rw [HC.out]
    go_wp2_with fail
    refine (l9Power_c m hm4 _).mono ?_
    rintro e w1 ⟨rfl, rfl⟩
    generalize hN : 10 ^ m = N at *
    clear hN
    generalize hwb : w.alloc (.cells #[.int .i64 0, .int .i64 0] 79) = wb at *
    go_wp2
    go_loopw [4, 6] (fun s j wr => ∃ n : Nat, n ≤ N ∧ j = .int .i64 (n : Int) ∧ s = .int .i64 (otS gFull m n : Nat) ∧ Below wb.heap.size wb wr) (fun _ j _ => N - (intOf j).toNat)
    case atStart => exact ⟨0, by omega, rfl, rfl, Below.refl _ _⟩
    case round =>
     obtain ⟨n, hn, rfl, rfl, hb⟩ := hrel
     have HSl := otS_le gFull_le m n
     by_cases hlt : n < N
     · have hd : decide ((n : Int) < (N : Int)) = true := by simp; omega
       have hS := otS_succ gFull m n
       have hgn := gFull_le (dgs n m)
       have htst := dgs_test n hm4
       generalize otS gFull m n = s at *
       have HS := Lib.hid hS; clear hS
       go_wp2_with fail
       refine (l9Test_c n m (by omega) hm4 _).mono ?_
       rintro e w2 ⟨u, rfl, ho, hb2⟩
       go_wp2_with fail
       refine (l7Full_c u (dgs n m) _ (Ints.of_own ho) htst).mono ?_
       rintro e w3 ⟨rfl, hb3⟩
       have hb4 := Below.chain hb (Below.chain hb2 hb3)
       clear ho hb hb2 hb3
       rcases hq : fullB (dgs n m) with _ | _
       · have HS2 := Lib.hid (show otS gFull m (n + 1) = s by rw [HS.out]; simp [gFull, hq])
         have HQ2 := Lib.hid hq
         clear HS hq hgn
         go_wp2
         go_roundw
         case rel => exact ⟨n + 1, by omega, by go_num, by rw [HS2.out], hb4⟩
         case measure => simp [intOf]; omega
       · have HS2 := Lib.hid (show otS gFull m (n + 1) = s + 1 by rw [HS.out]; simp [gFull, hq])
         have HQ2 := Lib.hid hq
         clear HS hq hgn
         go_wp2
         go_roundw
         case rel => exact ⟨n + 1, by omega, by go_num, by rw [HS2.out]; exact int_val (by omega), hb4⟩
         case measure => simp [intOf]; omega
     · obtain rfl : n = N := by omega
       subst hwb
       generalize otS gFull m n = s at *
       obtain ⟨hd, hfz⟩ := box_after hb
       have d0 := hd 0 _ rfl
       have d1 := hd 1 _ rfl
       have z0 := hfz 0
       have z1 := hfz 1
       clear hd hfz
       rename World => w1
       have hb4 : Below w.heap.size w w1 := Below.chain (Below.alc (Below.refl _ _) _) hb
       clear hb
       have HN : n = n := rfl
       go_wp2_with fail
       refine (l9Cut_c s n (by omega) (by omega) (by omega) _).mono ?_
       rintro e w2 ⟨rfl, hb5⟩
       have e0 := cell_later hb5 d0
       have e1 := cell_later hb5 d1
       have f0 := hb5.frozen (p := ⟨w.heap.size, 0, none⟩) (World.block_lt_of_cell? _ _ d0) |>.trans z0
       have f1 := hb5.frozen (p := ⟨w.heap.size, 1, none⟩) (World.block_lt_of_cell? _ _ d1) |>.trans z1
       have hb6 := Below.chain hb4 hb5
       obtain ⟨u0, u1, hb7⟩ := two_set (.int .i64 (fracN s n)) (.int .i64 (fracD s n)) e0 e1 hb6 (Nat.le_refl _)
       clear hb4 hb5 d0 d1 z0 z1 hb6
       unfold fracV at HF ⊢
       go_wp2
       clear e0 e1 f0 f1
       generalize (World.setCell (World.setCell w2 _ _) _ _) = w3 at *
       refine bodyPost_ret (v := otV gFull (m : Int)) (by rw [HF.out]; simp [results, Try.results75, go_sem, u0, u1]) rfl ⟨rfl, hb7⟩
end Go.Proofs.Ytahpknjligaliaa
