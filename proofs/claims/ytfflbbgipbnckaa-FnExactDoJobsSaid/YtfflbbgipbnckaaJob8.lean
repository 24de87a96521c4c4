/- The walks of the checker's l12Do, of DoJob in both texts. -/
import Derived.Test.YtfflbbgipbnckaaJob6
import Derived.Test.YtfflbbgipbnckaaJob7
import Derived.Test.YtfflbbgipbnckaaCons
namespace Go.Proofs.Ytfflbbgipbnckaa
open Go.RowKit
set_option linter.unusedVariables false
set_option maxRecDepth 100000
theorem l12Make_c (b : List Int) (k a v : Int) (w : World) (hb : b.length = 19) (hg : goodB b = true) :
    Calls Try.prog 71 #[aggI b, jobV k a v] w (MkPost w b k a v) := by
  rcases ha : inB a 0 5 with _ | _
  · exact make_a b k a v w hb hg ha
  have h2 := inB_true ha
  obtain ⟨an, rfl⟩ := Int.eq_ofNat_of_zero_le h2.1
  have han : an < 6 := by omega
  by_cases k1 : k = 1
  · subst k1
    rcases hv : inB v 0 9 with _ | _
    · exact make_1n b an v w hb hg han hv
    · have h3 := inB_true hv
      obtain ⟨vn, rfl⟩ := Int.eq_ofNat_of_zero_le h3.1
      exact make_1y b an vn w hb hg han (by omega)
  by_cases k2 : k = 2
  · subst k2; exact make_2 b an v w hb hg han
  by_cases k3 : k = 3
  · subst k3
    rcases hv : inB v 0 6 with _ | _
    · exact make_3n b an v w hb hg han hv
    · have h3 := inB_true hv
      obtain ⟨vn, rfl⟩ := Int.eq_ofNat_of_zero_le h3.1
      exact make_3y b an vn w hb hg han (by omega)
  by_cases k4 : k = 4
  · subst k4
    rcases hv : inB v 0 6 with _ | _
    · exact make_4n b an v w hb hg han hv
    · have h3 := inB_true hv
      obtain ⟨vn, rfl⟩ := Int.eq_ofNat_of_zero_le h3.1
      exact make_4y b an vn w hb hg han (by omega)
  by_cases k5 : k = 5
  · subst k5
    rcases hz : ((bg b (6 + an) == 0) && (bg b (12 + an) == 0)) with _ | _
    · exact make_5y b an v w hb hg han hz
    · exact make_5n b an v w hb hg han hz
  by_cases k6 : k = 6
  · subst k6
    by_cases h0 : an = 0
    · subst h0; exact make_6y b v w hb hg
    · exact make_6n b an v w hb hg han (by omega)
  by_cases k7 : k = 7
  · subst k7
    by_cases h0 : an = 0
    · subst h0; exact make_7y b v w hb hg
    · exact make_7n b an v w hb hg han (by omega)
  exact make_o b k an v w hb hg han k1 k2 k3 k4 k5 k6 k7
/-- the Bench behind a Job, or a new one -/
def jobB (b : List Int) (k a v : Int) : List Int := if possB b k a v then doB b k a v else zeroI
theorem jobB_len {b : List Int} (hb : b.length = 19) (hg : goodB b = true) (k a v : Int) : (jobB b k a v).length = 19 := by
  unfold jobB
  split
  · rename_i h
    unfold possB at h
    simp only [Bool.and_eq_true] at h
    exact (cnt_good hb hg h.2).2.1
  · simp [zeroI]
def jobsV (b : List Int) (k a v : Int) : Value := mkV (jobB b k a v) (possB b k a v)
theorem zB_eq : zBA = (ints zeroI).toArray := rfl
set_option maxHeartbeats 2000000 in
theorem l12Do_c (b : List Int) (k a v : Int) (w : World) (hb : b.length = 19) (hg : goodB b = true) :
    Calls Try.prog 48 #[aggI b, jobV k a v] w fun e w' => e = .returned (jobsV b k a v) ∧ Below w.heap.size w w' := by
  have r0 := World.rangeAt_alloc (World.rangeAt_alloc (range_new w (ints b) 41) (.cells #[.int .i64 k, .int .i64 a, .int .i64 v] 45)) zB
  have t1 := there_new ((w.alloc (.cells (ints b).toArray 41)).alloc (.cells #[.int .i64 k, .int .i64 a, .int .i64 v] 45)) _ 41 (n := 19) (show 19 ≤ (zBA : Array Value).size by decide)
  have hb0 : Below w.heap.size w (((w.alloc (.cells (ints b).toArray 41)).alloc (.cells #[.int .i64 k, .int .i64 a, .int .i64 v] 45)).alloc zB) := by (repeat (first | exact Below.refl _ _ | exact (Below.refl _ _).drew | assumption | exact below_one _ | refine Below.chain ?_ (by assumption) | refine Below.drew ?_ | refine Below.alc ?_ _ | refine below_drewN ?_ | (refine Below.setCell ?_ ?_ _) | exact Nat.le_refl _ | (simp; done) | (simp; omega)))
  simp only [World.size_alloc] at t1
  have hsz : w.heap.size + 1 + 1 < (((w.alloc (.cells (ints b).toArray 41)).alloc (.cells #[.int .i64 k, .int .i64 a, .int .i64 v] 45)).alloc zB).heap.size := by simp
  have gc := inB_true (goodB_all.1 hg).2
  have HM := Lib.hid (fun w => l12Make_c b k a v w hb hg)
  unfold aggI jobV at *
  unfold zBA zB at *
  go_enter Try.func48, Try.ntmps48
  go_wp2_with (refine wpList_loadB rfl _ rfl _ rfl b r0 hb ?_)
  refine (HM.out _).mono ?_
  rintro e w1 ⟨X, rfl, hX, hXm, hb1⟩
  have r1 := range_below r0 hb1
  have u1 := there_below t1 hb1
  have b1 := Below.chain hb0 hb1
  have z1 := Nat.lt_of_lt_of_le hsz hb1.size
  have r2 := World.rangeAt_alloc r1 zB
  have u2 := World.there_alloc u1 zB
  have b2 := Below.alc b1 zB
  have t2 := there_new w1 zBA 41 (n := 19) (by decide)
  have r3 := World.rangeAt_setCells_apart r2 w1.heap.size 0 (ints X) (.inl (by omega))
  have u3 := World.there_setCells u2 w1.heap.size 0 (ints X)
  have t3 := World.there_setCells t2 w1.heap.size 0 (ints X)
  have c3 := World.rangeAt_setCells_same (w1.alloc zB) w1.heap.size 0 (ints X) (by rw [show (ints X).length = 19 by simp [ints, hX]]; exact t2)
  have b3 := below_cells (ints X) (w1.alloc zB) w1.heap.size 0 b2 (by omega)
  have g18 := cell18 r3 (j := 18) (by omega)
  have g18o := cell18 c3 (j := 18) (by omega)
  have f18o := there_froz t3 (j := 18) (by omega)
  have c4 := range_set c3 (j := 18) (bg b 18 + 1) (by omega)
  have u4 := there_set u3 w1.heap.size 18 (.int .i64 (bg b 18 + 1))
  have b4 := b3.setCell (p := ⟨w1.heap.size, 18, none⟩) (by simp; omega) (.int .i64 (bg b 18 + 1))
  have hY : (X.set 18 (bg b 18 + 1)).length = 19 := by rw [List.length_set, hX]
  clear r0 t1 hb0 hb1 r1 u1 b1 hsz r2 u2 b2 r3 u3 t3 c3 b3
  rcases hm : makeB b k a v with _ | _
  · have hF : Hid (jobsV b k a v = mkV zeroI false) := by
      have hp : possB b k a v = false := by unfold possB; rw [hm]; simp
      show _ = _
      unfold jobsV jobB; rw [hp]; rfl
    have hz : zeroI.length = 19 := by simp [zeroI]
    have K5 := loadVarB (World.rangeAt_setCells_same _ (w.heap.size + 1 + 1) 0 (ints zeroI) (by simpa [hz] using u4)) hz
    have K6 := below_cells (ints zeroI) _ (w.heap.size + 1 + 1) 0 b4 (by omega)
    have HM2 := Lib.hid hm
    unfold mkV aggI zB zBA at *
    clear c4 hm
    go_wp2_with (first | (refine wpList_storeB rfl _ _ rfl _ X rfl rfl t2 hX ?_) | (refine wpList_storeB rfl _ _ rfl _ zeroI rfl rfl u4 hz ?_))
    exact bodyPost_ret (v := mkV zeroI false) (res_cell2 Try.results48 rfl K5) rfl ⟨by rw [hF.out]; rfl, K6⟩
  · obtain ⟨hG, hL, hE⟩ := cnt_good hb hg hm
    have hXe := hXm hm
    subst hXe
    rw [← hE] at c4 hY
    have HE := Lib.hid hE
    rcases hq : goodB (doB b k a v) with _ | _
    · have hF : Hid (jobsV b k a v = mkV zeroI false) := by
        have hp : possB b k a v = false := by unfold possB; rw [← hG, hq]; rfl
        show _ = _
        unfold jobsV jobB; rw [hp]; rfl
      have HG := Lib.hid hq
      have hz : zeroI.length = 19 := by simp [zeroI]
      have HGC := Lib.hid (fun w => l12Good_c (doB b k a v) w hL)
      clear hE hG hq hXm
      generalize doB b k a v = Y at *
      generalize madeB b k a.toNat v = X at *
      unfold mkV aggI zB zBA at *
      clear hm
      go_wp2_with (first | (refine wpList_storeB rfl _ _ rfl _ X rfl rfl t2 hX ?_) | (refine wpList_loadB rfl _ rfl _ rfl _ c4 hL ?_))
      refine (HGC.out _).mono ?_
      rintro e w5 ⟨rfl, hb5⟩
      rw [HG.out]
      have u5 := there_below u4 hb5
      have b5 := Below.chain b4 hb5
      have K5 := loadVarB (World.rangeAt_setCells_same _ (w.heap.size + 1 + 1) 0 (ints zeroI) (by simpa [hz] using u5)) hz
      have K6 := below_cells (ints zeroI) _ (w.heap.size + 1 + 1) 0 b5 (by omega)
      clear u4 b4 c4
      go_wp2_with (refine wpList_storeB rfl _ _ rfl _ zeroI rfl rfl u5 hz ?_)
      exact bodyPost_ret (v := mkV zeroI false) (res_cell2 Try.results48 rfl K5) rfl ⟨by rw [hF.out]; rfl, K6⟩
    · have hF : Hid (jobsV b k a v = mkV (doB b k a v) true) := by
        have hp : possB b k a v = true := by unfold possB; rw [← hG, hq, hm]; rfl
        show _ = _
        unfold jobsV jobB; rw [hp]; rfl
      have HG := Lib.hid hq
      have HGC := Lib.hid (fun w => l12Good_c (doB b k a v) w hL)
      clear hE hG hq hXm
      generalize doB b k a v = Y at *
      generalize madeB b k a.toNat v = X at *
      unfold mkV aggI zB zBA at *
      clear hm
      go_wp2_with (first | (refine wpList_storeB rfl _ _ rfl _ X rfl rfl t2 hX ?_) | (refine wpList_loadB rfl _ rfl _ rfl _ c4 hL ?_))
      refine (HGC.out _).mono ?_
      rintro e w5 ⟨rfl, hb5⟩
      rw [HG.out]
      have u5 := there_below u4 hb5
      have b5 := Below.chain b4 hb5
      have c5 := range_below c4 hb5
      have K5 := loadVarB (World.rangeAt_setCells_same _ (w.heap.size + 1 + 1) 0 (ints Y) (by simpa [hL] using u5)) hL
      have K6 := below_cells (ints Y) _ (w.heap.size + 1 + 1) 0 b5 (by omega)
      clear u4 b4 c4
      go_wp2_with (first | (refine wpList_loadB rfl _ rfl _ rfl _ c5 hL ?_) | (refine wpList_storeB rfl _ _ rfl _ Y rfl rfl u5 hL ?_))
      exact bodyPost_ret (v := mkV Y true) (res_cell2 Try.results48 rfl K5) rfl ⟨by rw [hF.out]; rfl, K6⟩
/-- what DoJob hands back -/
def djV (b : List Int) (k a v : Int) : Value := if goodB b then jobsV b k a v else mkV zeroI false
set_option maxHeartbeats 2000000 in
theorem sDoJob_c (b : List Int) (k a v : Int) (w : World) (hb : b.length = 19) :
    Calls Try.prog 21 #[aggI b, jobV k a v] w fun e w' => e = .returned (djV b k a v) ∧ Below w.heap.size w w' := by
  have r0 := World.rangeAt_alloc (World.rangeAt_alloc (range_new w (ints b) 41) (.cells #[.int .i64 k, .int .i64 a, .int .i64 v] 45)) zB
  have t1 := there_new ((w.alloc (.cells (ints b).toArray 41)).alloc (.cells #[.int .i64 k, .int .i64 a, .int .i64 v] 45)) _ 41 (n := 19) (show 19 ≤ (zBA : Array Value).size by decide)
  have hb0 : Below w.heap.size w (((w.alloc (.cells (ints b).toArray 41)).alloc (.cells #[.int .i64 k, .int .i64 a, .int .i64 v] 45)).alloc zB) := by (repeat (first | exact Below.refl _ _ | exact (Below.refl _ _).drew | assumption | exact below_one _ | refine Below.chain ?_ (by assumption) | refine Below.drew ?_ | refine Below.alc ?_ _ | refine below_drewN ?_ | (refine Below.setCell ?_ ?_ _) | exact Nat.le_refl _ | (simp; done) | (simp; omega)))
  simp only [World.size_alloc] at t1
  have q0 : (((w.alloc (.cells (ints b).toArray 41)).alloc (.cells #[.int .i64 k, .int .i64 a, .int .i64 v] 45)).alloc zB).cell? ⟨w.heap.size + 1, 0, none⟩ = some (.int .i64 k) := cell_later (below_one _) (by rw [World.cell?_alloc_at _ _ _ _ (by simp)]; rfl)
  have q1 : (((w.alloc (.cells (ints b).toArray 41)).alloc (.cells #[.int .i64 k, .int .i64 a, .int .i64 v] 45)).alloc zB).cell? ⟨w.heap.size + 1, 1, none⟩ = some (.int .i64 a) := cell_later (below_one _) (by rw [World.cell?_alloc_at _ _ _ _ (by simp)]; rfl)
  have q2 : (((w.alloc (.cells (ints b).toArray 41)).alloc (.cells #[.int .i64 k, .int .i64 a, .int .i64 v] 45)).alloc zB).cell? ⟨w.heap.size + 1, 2, none⟩ = some (.int .i64 v) := cell_later (below_one _) (by rw [World.cell?_alloc_at _ _ _ _ (by simp)]; rfl)
  have hz : zeroI.length = 19 := by simp [zeroI]
  rcases hg : goodB b with _ | _
  · have HF : Hid (djV b k a v = mkV zeroI false) := by show _ = _; unfold djV; rw [hg]; rfl
    have HQ := Lib.hid hg; clear hg q0 q1 q2
    unfold mkV aggI jobV at *
    unfold zBA zB at *
    go_enter Try.func21, Try.ntmps21
    go_wp2_with (refine wpList_loadB rfl _ rfl _ rfl b r0 hb ?_)
    refine (l12Good_c b _ hb).mono ?_
    rintro e w1 ⟨rfl, hb1⟩
    rw [HQ.out]
    have u1 := there_below t1 hb1
    have b1 := Below.chain hb0 hb1
    have K5 := loadVarB (World.rangeAt_setCells_same _ (w.heap.size + 1 + 1) 0 (ints zeroI) (by simpa [hz] using u1)) hz
    have K6 := below_cells (ints zeroI) _ (w.heap.size + 1 + 1) 0 b1 (by omega)
    clear r0 t1 hb0 hb1 b1
    go_wp2_with (refine wpList_storeB rfl _ _ rfl _ zeroI rfl rfl u1 hz ?_)
    exact bodyPost_ret (v := mkV zeroI false) (res_cell2 Try.results21 rfl K5) rfl ⟨by rw [HF.out]; rfl, K6⟩
  · have HF : Hid (djV b k a v = jobsV b k a v) := by show _ = _; unfold djV; rw [hg]; rfl
    have hl := jobB_len hb hg k a v
    have HD := Lib.hid (fun w => l12Do_c b k a v w hb hg)
    have HQ := Lib.hid hg; clear hg q0 q1 q2
    unfold jobsV at *
    generalize jobB b k a v = Y at *
    generalize possB b k a v = ok at *
    unfold mkV aggI jobV at *
    unfold zBA zB at *
    go_enter Try.func21, Try.ntmps21
    go_wp2_with (refine wpList_loadB rfl _ rfl _ rfl b r0 hb ?_)
    refine (l12Good_c b _ hb).mono ?_
    rintro e w1 ⟨rfl, hb1⟩
    rw [HQ.out]
    have u1 := there_below t1 hb1
    have b1 := Below.chain hb0 hb1
    have r1 := range_below r0 hb1
    have p0 := (show w1.cell? ⟨w.heap.size + 1, 0, none⟩ = some (.int .i64 k) from cell_later hb1 (cell_later (below_one _) (by rw [World.cell?_alloc_at _ _ _ _ (by simp)]; rfl)))
    have p1 := (show w1.cell? ⟨w.heap.size + 1, 1, none⟩ = some (.int .i64 a) from cell_later hb1 (cell_later (below_one _) (by rw [World.cell?_alloc_at _ _ _ _ (by simp)]; rfl)))
    have p2 := (show w1.cell? ⟨w.heap.size + 1, 2, none⟩ = some (.int .i64 v) from cell_later hb1 (cell_later (below_one _) (by rw [World.cell?_alloc_at _ _ _ _ (by simp)]; rfl)))
    clear r0 t1 hb0 hb1
    go_wp2_with (refine wpList_loadB rfl _ rfl _ rfl b r1 hb ?_)
    refine (HD.out _).mono ?_
    rintro e w2 ⟨rfl, hb2⟩
    have u2 := there_below u1 hb2
    have b2 := Below.chain b1 hb2
    have K5 := loadVarB (World.rangeAt_setCells_same _ (w.heap.size + 1 + 1) 0 (ints Y) (by simpa [hl] using u2)) hl
    have K6 := below_cells (ints Y) _ (w.heap.size + 1 + 1) 0 b2 (by omega)
    clear u1 b1 hb2 r1 p0 p1 p2
    go_wp2_with (refine wpList_storeB rfl _ _ rfl _ Y rfl rfl u2 hl ?_)
    exact bodyPost_ret (v := mkV Y ok) (res_cell2 Try.results21 rfl K5) rfl ⟨by rw [HF.out]; rfl, K6⟩
set_option maxHeartbeats 2000000 in
theorem DoJob_c (b : List Int) (k a v : Int) (w : World) (hb : b.length = 19) :
    Calls Try.prog 24 #[aggI b, jobV k a v] w fun e w' => e = .returned (djV b k a v) ∧ Below w.heap.size w w' := by
  have r0 := World.rangeAt_alloc (World.rangeAt_alloc (range_new w (ints b) 41) (.cells #[.int .i64 k, .int .i64 a, .int .i64 v] 45)) zB
  have t1 := there_new ((w.alloc (.cells (ints b).toArray 41)).alloc (.cells #[.int .i64 k, .int .i64 a, .int .i64 v] 45)) _ 41 (n := 19) (show 19 ≤ (zBA : Array Value).size by decide)
  have hb0 : Below w.heap.size w (((w.alloc (.cells (ints b).toArray 41)).alloc (.cells #[.int .i64 k, .int .i64 a, .int .i64 v] 45)).alloc zB) := by (repeat (first | exact Below.refl _ _ | exact (Below.refl _ _).drew | assumption | exact below_one _ | refine Below.chain ?_ (by assumption) | refine Below.drew ?_ | refine Below.alc ?_ _ | refine below_drewN ?_ | (refine Below.setCell ?_ ?_ _) | exact Nat.le_refl _ | (simp; done) | (simp; omega)))
  simp only [World.size_alloc] at t1
  have q0 : (((w.alloc (.cells (ints b).toArray 41)).alloc (.cells #[.int .i64 k, .int .i64 a, .int .i64 v] 45)).alloc zB).cell? ⟨w.heap.size + 1, 0, none⟩ = some (.int .i64 k) := cell_later (below_one _) (by rw [World.cell?_alloc_at _ _ _ _ (by simp)]; rfl)
  have q1 : (((w.alloc (.cells (ints b).toArray 41)).alloc (.cells #[.int .i64 k, .int .i64 a, .int .i64 v] 45)).alloc zB).cell? ⟨w.heap.size + 1, 1, none⟩ = some (.int .i64 a) := cell_later (below_one _) (by rw [World.cell?_alloc_at _ _ _ _ (by simp)]; rfl)
  have q2 : (((w.alloc (.cells (ints b).toArray 41)).alloc (.cells #[.int .i64 k, .int .i64 a, .int .i64 v] 45)).alloc zB).cell? ⟨w.heap.size + 1, 2, none⟩ = some (.int .i64 v) := cell_later (below_one _) (by rw [World.cell?_alloc_at _ _ _ _ (by simp)]; rfl)
  have hz : zeroI.length = 19 := by simp [zeroI]
  rcases hg : goodB b with _ | _
  · have HF : Hid (djV b k a v = mkV zeroI false) := by show _ = _; unfold djV; rw [hg]; rfl
    have HQ := Lib.hid hg; clear hg q0 q1 q2
    unfold mkV aggI jobV at *
    unfold zBA zB at *
    go_enter Try.func24, Try.ntmps24
    go_wp2_with (refine wpList_loadB rfl _ rfl _ rfl b r0 hb ?_)
    refine (IsBench_c b _ hb).mono ?_
    rintro e w1 ⟨rfl, hb1⟩
    rw [HQ.out]
    have u1 := there_below t1 hb1
    have b1 := Below.chain hb0 hb1
    have K5 := loadVarB (World.rangeAt_setCells_same _ (w.heap.size + 1 + 1) 0 (ints zeroI) (by simpa [hz] using u1)) hz
    have K6 := below_cells (ints zeroI) _ (w.heap.size + 1 + 1) 0 b1 (by omega)
    clear r0 t1 hb0 hb1 b1
    go_wp2_with (refine wpList_storeB rfl _ _ rfl _ zeroI rfl rfl u1 hz ?_)
    exact bodyPost_ret (v := mkV zeroI false) (res_cell2 Try.results24 rfl K5) rfl ⟨by rw [HF.out]; rfl, K6⟩
  · have HF : Hid (djV b k a v = jobsV b k a v) := by show _ = _; unfold djV; rw [hg]; rfl
    have HP := Lib.hid (fun w => isPossible_c b k a v w hb hg)
    have HQ := Lib.hid hg
    rcases hp : possB b k a v with _ | _
    · have HF2 : Hid (djV b k a v = mkV zeroI false) := by show _ = _; rw [HF.out]; unfold jobsV jobB; rw [hp]; rfl
      have HPQ := Lib.hid hp
      clear hg hp HF q0 q1 q2
      unfold mkV aggI jobV at *
      unfold zBA zB at *
      go_enter Try.func24, Try.ntmps24
      go_wp2_with (refine wpList_loadB rfl _ rfl _ rfl b r0 hb ?_)
      refine (IsBench_c b _ hb).mono ?_
      rintro e w1 ⟨rfl, hb1⟩
      rw [HQ.out]
      have u1 := there_below t1 hb1
      have b1 := Below.chain hb0 hb1
      have r1 := range_below r0 hb1
      have p0 := (show w1.cell? ⟨w.heap.size + 1, 0, none⟩ = some (.int .i64 k) from cell_later hb1 (cell_later (below_one _) (by rw [World.cell?_alloc_at _ _ _ _ (by simp)]; rfl)))
      have p1 := (show w1.cell? ⟨w.heap.size + 1, 1, none⟩ = some (.int .i64 a) from cell_later hb1 (cell_later (below_one _) (by rw [World.cell?_alloc_at _ _ _ _ (by simp)]; rfl)))
      have p2 := (show w1.cell? ⟨w.heap.size + 1, 2, none⟩ = some (.int .i64 v) from cell_later hb1 (cell_later (below_one _) (by rw [World.cell?_alloc_at _ _ _ _ (by simp)]; rfl)))
      clear r0 t1 hb0 hb1
      go_wp2_with (refine wpList_loadB rfl _ rfl _ rfl b r1 hb ?_)
      refine (HP.out _).mono ?_
      rintro e w2 ⟨rfl, hb2⟩
      rw [HPQ.out]
      have u2 := there_below u1 hb2
      have b2 := Below.chain b1 hb2
      have K5 := loadVarB (World.rangeAt_setCells_same _ (w.heap.size + 1 + 1) 0 (ints zeroI) (by simpa [hz] using u2)) hz
      have K6 := below_cells (ints zeroI) _ (w.heap.size + 1 + 1) 0 b2 (by omega)
      clear u1 b1 hb2 r1 p0 p1 p2
      go_wp2_with (refine wpList_storeB rfl _ _ rfl _ zeroI rfl rfl u2 hz ?_)
      exact bodyPost_ret (v := mkV zeroI false) (res_cell2 Try.results24 rfl K5) rfl ⟨by rw [HF2.out]; rfl, K6⟩
    · have hm : makeB b k a v = true := by unfold possB at hp; simp only [Bool.and_eq_true] at hp; exact hp.2
      have HF2 : Hid (djV b k a v = mkV (doB b k a v) true) := by show _ = _; rw [HF.out]; unfold jobsV jobB; rw [hp]; rfl
      have hl := (cnt_good hb hg hm).2.1
      have HD := Lib.hid (fun w => do_c b k a v w hb hg hm)
      have HPQ := Lib.hid hp
      clear hg hp hm HF q0 q1 q2
      generalize doB b k a v = Y at *
      unfold mkV aggI jobV at *
      unfold zBA zB at *
      go_enter Try.func24, Try.ntmps24
      go_wp2_with (refine wpList_loadB rfl _ rfl _ rfl b r0 hb ?_)
      refine (IsBench_c b _ hb).mono ?_
      rintro e w1 ⟨rfl, hb1⟩
      rw [HQ.out]
      have u1 := there_below t1 hb1
      have b1 := Below.chain hb0 hb1
      have r1 := range_below r0 hb1
      have p0 := (show w1.cell? ⟨w.heap.size + 1, 0, none⟩ = some (.int .i64 k) from cell_later hb1 (cell_later (below_one _) (by rw [World.cell?_alloc_at _ _ _ _ (by simp)]; rfl)))
      have p1 := (show w1.cell? ⟨w.heap.size + 1, 1, none⟩ = some (.int .i64 a) from cell_later hb1 (cell_later (below_one _) (by rw [World.cell?_alloc_at _ _ _ _ (by simp)]; rfl)))
      have p2 := (show w1.cell? ⟨w.heap.size + 1, 2, none⟩ = some (.int .i64 v) from cell_later hb1 (cell_later (below_one _) (by rw [World.cell?_alloc_at _ _ _ _ (by simp)]; rfl)))
      clear r0 t1 hb0 hb1
      go_wp2_with (refine wpList_loadB rfl _ rfl _ rfl b r1 hb ?_)
      refine (HP.out _).mono ?_
      rintro e w2 ⟨rfl, hb2⟩
      rw [HPQ.out]
      have u2 := there_below u1 hb2
      have b2 := Below.chain b1 hb2
      have r2 := range_below r1 hb2
      have s0 := cell_later hb2 p0
      have s1 := cell_later hb2 p1
      have s2 := cell_later hb2 p2
      clear u1 b1 hb2 r1 p0 p1 p2
      go_wp2_with (refine wpList_loadB rfl _ rfl _ rfl b r2 hb ?_)
      refine (HD.out _).mono ?_
      rintro e w3 ⟨rfl, hb3⟩
      have u3 := there_below u2 hb3
      have b3 := Below.chain b2 hb3
      have K5 := loadVarB (World.rangeAt_setCells_same _ (w.heap.size + 1 + 1) 0 (ints Y) (by simpa [hl] using u3)) hl
      have K6 := below_cells (ints Y) _ (w.heap.size + 1 + 1) 0 b3 (by omega)
      clear u2 b2 hb3 r2 s0 s1 s2
      go_wp2_with (refine wpList_storeB rfl _ _ rfl _ Y rfl rfl u3 hl ?_)
      exact bodyPost_ret (v := mkV Y true) (res_cell2 Try.results24 rfl K5) rfl ⟨by rw [HF2.out]; rfl, K6⟩
end Go.Proofs.Ytfflbbgipbnckaa
