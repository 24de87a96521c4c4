/- The walk of the law DoJobs: for every Bench and list of Jobs it returns true and turns nothing that was there. -/
import Derived.Test.YtfflbbgipbnckaaJobs
import Derived.Test.YtfflbbgipbnckaaBench4
namespace Go.Proofs.Ytfflbbgipbnckaa
open Go.RowKit
set_option linter.unusedVariables false
set_option maxRecDepth 100000
set_option maxHeartbeats 2000000 in
theorem FnExactDoJobs_walk (v0 : Value) (b : List Int) (v1 : Value) (js : List J3) (w : World) (hv0 : v0 = aggI b ∧ b.length = 19) (hv1 : Trips w v1 js) : Calls Try.prog 7 #[v0, v1] w fun e w' => e = .returned (.bool true) ∧ Below w.heap.size w w' := by
  obtain ⟨rfl, hb⟩ := hv0
  have r0 := range_new w (ints b) 38
  have hb0 := below_one (w := w) (.cells (ints b).toArray 38)
  have hv2 := hv1.below hb0
  obtain ⟨va, vc, rfl, _, _, _⟩ := hv1.parts
  by_cases hn : 1048576 < js.length
  · have HZ := Lib.hid (fun w h => szJobS_no (.slice va js.length vc) js 1048576 w h (by omega) (by omega) (by omega))
    have HV := Lib.hid hv2; clear hv1 hv2
    unfold aggI
    go_enter Try.func7, Try.ntmps7
    go_wp2_with fail
    refine (HZ.out _ HV.out).mono ?_
    rintro e w1 ⟨rfl, rfl⟩
    go_wp2
    go_ret
    exact ⟨rfl, hb0⟩
  · have HZ := Lib.hid (fun w h => szJobS_yes (.slice va js.length vc) js 1048576 w h (by omega) (by omega) (by omega))
    have HTS := Lib.hid (fun w h => toJobS_c (.slice va js.length vc) js w h (by omega))
    have hge : ¬ (1048576 - (js.length : Int) < 0) := by omega
    have HT := Lib.hid (fun w => toBench_c b w hb)
    obtain ⟨Y, n, ok, hE, hY⟩ := djsV_form hb js
    have HS0 := fun v w (h : Trips w v js) => sDoJobs_c b v js w hb h
    have HI0 := fun v w (h : Trips w v js) => DoJobs_c b v js w hb h
    rw [hE] at HS0 HI0
    have HS := Lib.hid HS0; have HI := Lib.hid HI0
    have HEB := Lib.hid (fun w => eqBench_c Y w hY)
    have HV := Lib.hid hv1
    clear HS0 HI0 hE hv1 hv2
    unfold trV aggI at *
    go_enter Try.func7, Try.ntmps7
    go_wp2_with fail
    refine (HZ.out _ (HV.out.below hb0)).mono ?_
    rintro e w1 ⟨rfl, rfl⟩
    go_wp2_with (refine wpList_loadBL rfl _ rfl _ rfl b r0 hb ?_)
    refine (HT.out _).mono ?_
    rintro e w1 ⟨rfl, hb1⟩
    have r1 := range_below r0 hb1
    have B1 := Below.chain hb0 hb1
    clear r0 hb0 hb1
    go_wp2_with fail
    refine (HTS.out _ (HV.out.below B1)).mono ?_
    rintro e w2 ⟨u, rfl, hou, hb2⟩
    have r2 := range_below r1 hb2
    have B2 := Below.chain B1 hb2
    have hul := hou.lt
    have huT := Trips.of_own hou
    clear r1 B1 hb2 hou
    go_wp2_with fail
    refine (HS.out _ _ huT).mono ?_
    rintro e w3 ⟨rfl, hb3⟩
    have r3 := World.rangeAt_alloc (range_below r2 hb3) (.cells zBA 41)
    have z3 : w.heap.size < w3.heap.size := Nat.lt_of_lt_of_le (World.block_lt_of_cell? _ _ (cell18 r2 (j := 0) (by omega))) hb3.size
    have B3 := Below.alc (Below.chain B2 hb3) (.cells zBA 41)
    have tn := there_new w3 zBA 41 (n := 19) (by decide)
    have Y3 := World.rangeAt_setCells_same (w3.alloc (.cells zBA 41)) w3.heap.size 0 (ints Y) (by rw [show (ints Y).length = 19 by simp [ints, hY]]; exact tn)
    have r4 := World.rangeAt_setCells_apart r3 w3.heap.size 0 (ints Y) (.inl (by omega))
    have B4 := below_cells (ints Y) (w3.alloc (.cells zBA 41)) w3.heap.size 0 B3 (by omega)
    unfold zBA at *
    clear r2 B2 hb3 r3 B3 huT hul
    go_wp2_with (first | (refine wpList_storeB rfl _ _ rfl _ Y rfl rfl tn hY ?_))
    generalize World.setCells _ _ _ _ = w4 at *
    have zg := World.block_lt_of_cell? _ _ (cell18 Y3 (j := 0) (by omega))
    simp only at zg
    generalize w3.heap.size = g at *
    clear tn
    refine (HTS.out _ (HV.out.below B4)).mono ?_
    rintro e w5 ⟨u1, rfl, hou, hb5⟩
    have r5 := range_below r4 hb5
    have Y5 := range_below Y3 hb5
    have B5 := Below.chain B4 hb5
    have z5 := Nat.lt_of_lt_of_le zg hb5.size
    have huT := Lib.hid (Trips.of_own hou)
    clear r4 B4 hb5 hou Y3 zg
    go_wp2_with (refine wpList_loadBL rfl _ rfl _ rfl b r5 hb ?_)
    refine (HT.out _).mono ?_
    rintro e w6 ⟨rfl, hb6⟩
    have Y6 := range_below Y5 hb6
    have B6 := Below.chain B5 hb6
    have z6 := Nat.lt_of_lt_of_le z5 hb6.size
    have hu6 := Lib.hid (huT.out.below hb6)
    clear r5 B5 hb6 Y5 z5 huT
    go_wp2_with fail
    refine (HI.out _ _ hu6.out).mono ?_
    rintro e w7 ⟨rfl, hb7⟩
    have Y7 := World.rangeAt_alloc (range_below Y6 hb7) (.cells zBA 41)
    have z7 := Nat.lt_of_lt_of_le z6 hb7.size
    have B7 := Below.alc (Below.chain B6 hb7) (.cells zBA 41)
    have hu7 := (hu6.out.below hb7).below (below_one (.cells zBA 41))
    have tn := there_new w7 zBA 41 (n := 19) (by decide)
    have X8 := World.rangeAt_setCells_same (w7.alloc (.cells zBA 41)) w7.heap.size 0 (ints Y) (by rw [show (ints Y).length = 19 by simp [ints, hY]]; exact tn)
    have Y8 := World.rangeAt_setCells_apart Y7 w7.heap.size 0 (ints Y) (.inl (by omega))
    have zw : w.heap.size ≤ w7.heap.size := by have := B7.size; have := B6.size; have := hb7.size; omega
    have B8 := below_cells (ints Y) (w7.alloc (.cells zBA 41)) w7.heap.size 0 B7 zw
    have hu8 : Hid (Trips ((w7.alloc (.cells zBA 41)).setCells w7.heap.size 0 (ints Y)) u1 js) :=
      Sl.keep (show Sl w7 3 u1 js.length (flat3 js) from hu6.out.below hb7) (fun b o h => by
        rw [World.cell?_setCells_out _ _ _ _ ⟨b, o, none⟩ (fun h1 _ => by simp at h1; omega)]
        exact (below_one (w := w7) (.cells zBA 41)).cell (p := ⟨b, o, none⟩) h)
    unfold zBA at *
    clear Y6 B6 hb7 Y7 B7 hu6 hu7 z6
    go_wp2_with (first | (refine wpList_storeB rfl _ _ rfl _ Y rfl rfl tn hY ?_) | (refine wpList_loadB rfl _ rfl _ rfl Y X8 hY ?_) | (refine wpList_loadB rfl _ rfl _ rfl Y Y8 hY ?_))
    generalize World.setCells _ _ _ _ = w8 at *
    refine (HEB.out _).mono ?_
    rintro e w9 ⟨rfl, hb9⟩
    have B9 := Below.chain B8 hb9
    have hu9 := Lib.hid (hu8.out.below hb9)
    have hq1 : ((n : Int) != (n : Int)) = false := by simp
    have hq2 : (ok != ok) = false := by simp
    clear X8 Y8 tn B8 hb9 hu8
    go_wp2_with fail
    refine (HTS.out _ (HV.out.below B9)).mono ?_
    rintro e w10 ⟨u2, rfl, hou, hb10⟩
    have B10 := Below.chain B9 hb10
    have hu10 := Lib.hid (hu9.out.below hb10)
    have hu11 := Lib.hid (Trips.of_own hou)
    clear B9 hb10 hu9 hou
    go_wp2_with fail
    refine (eqJobS_c _ _ js _ hu10.out hu11.out).mono ?_
    rintro e w11 ⟨rfl, hb11⟩
    have B11 := Below.chain B10 hb11
    go_wp2
    go_ret
    exact ⟨rfl, B11⟩
end Go.Proofs.Ytfflbbgipbnckaa
