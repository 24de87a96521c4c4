/- The walk of the law BenchRow: it returns true and turns nothing that was there. -/
import Derived.Test.YtahpknjligaliaaBench4
import Derived.Test.YtahpknjligaliaaHelp
namespace Go.Proofs.Ytahpknjligaliaa
open Go.RowKit
set_option linter.unusedVariables false
set_option maxRecDepth 100000
theorem FnExactBenchRow_walk (v : Value) (b : List Int) (w : World) (hv : v = aggI b ∧ b.length = 19) :
    Calls Try.prog 5 #[v] w fun e w' => e = .returned (.bool true) ∧ Below w.heap.size w w' := by
  obtain ⟨rfl, hb⟩ := hv
  have hLle : (brL b true).length ≤ 1048576 := by have := brL_le b true; omega
  have r0 := (range_new w (ints b) 24)
  have B0 := below_one (w := w) (.cells (ints b).toArray 24)
  unfold aggI
  go_enter Try.func5, Try.ntmps5
  go_wp2_with (refine wpList_loadBL rfl _ rfl _ rfl b r0 hb ?_)
  refine (toBench_c b _ hb).mono ?_
  rintro e w1 ⟨rfl, hb1⟩
  have z1 : w.heap.size + 1 ≤ w1.heap.size := Nat.le_trans (by simp) hb1.size
  have B1 := Below.chain B0 hb1
  have r1 := range_below r0 hb1
  clear B0 r0
  go_wp2_with fail
  refine (sBenchRow_c b _ hb).mono ?_
  rintro e w2 ⟨uW, rfl, ho2, hb2⟩
  have z2 : w1.heap.size ≤ w2.heap.size := hb2.size
  have B2 := Below.chain B1 hb2
  have r2 := range_below r1 hb2
  clear B1 r1
  have lW := ho2.lt
  go_wp2_with (refine wpList_loadBL rfl _ rfl _ rfl b r2 hb ?_)
  refine (toBench_c b _ hb).mono ?_
  rintro e w3 ⟨rfl, hb3⟩
  have z3 : w2.heap.size ≤ w3.heap.size := hb3.size
  have B3 := Below.chain B2 hb3
  have oW_3 := own_keep ho2 hb3
  clear ho2
  have r3 := range_below r2 hb3
  clear B2 r2
  go_wp2_with fail
  refine (BenchRow_c b _ hb).mono ?_
  rintro e w4 ⟨uG, rfl, ho4, hb4⟩
  have z4 : w3.heap.size ≤ w4.heap.size := hb4.size
  have B4 := Below.chain B3 hb4
  have oW_4 := own_keep oW_3 hb4
  clear oW_3
  have r4 := range_below r3 hb4
  clear B3 r3
  have lG := ho4.lt
  go_wp2_with fail
  refine (eqIntS_c _ _ (brL b true) (brL b true) _ (Ints.of_own ho4) (Ints.of_own oW_4)).mono ?_
  rintro e w5 ⟨rfl, hb5⟩
  have z5 : w4.heap.size ≤ w5.heap.size := hb5.size
  have B5 := Below.chain B4 hb5
  have oW_5 := own_keep oW_4 hb5
  clear oW_4
  have oG_5 := own_keep ho4 hb5
  clear ho4
  have r5 := range_below r4 hb5
  clear B4 r4
  go_wp2_with fail
  refine (markIntS_c _ (brL b true) 1 _ _ _ oG_5 (by omega) (by omega)).mono ?_
  rintro e w6 ⟨rfl, ho6, hg6⟩
  have z6 : w5.heap.size ≤ w6.heap.size := hg6.size
  have B6 : Below w.heap.size w w6 := below_mark B5 (lt_mono lG (by omega)) (by omega) hg6
  have oW_6 := oW_5.kept hg6 (ne_of lG lW (by omega))
  clear oW_5
  have r6 := range_grown r5 hg6 (fun e => by have := (lG _ e.symm).1; omega)
  clear B5 r5
  have hqm : ((1 + ((brL b true).length : Int)) != (1 + ((brL b true).length : Int))) = false := by simp
  go_wp2_with fail
  refine (heldIntS_c _ (brL b true).length 1 _ (Ints.of_own (ownsRow_cast ho6 (by simp [seqI_length]) rfl)) (by omega) (by omega)).mono ?_
  rintro e w7 ⟨rfl, hb7⟩
  have z7 : w6.heap.size ≤ w7.heap.size := hb7.size
  have B7 := Below.chain B6 hb7
  have oW_7 := own_keep oW_6 hb7
  clear oW_6
  have oG_7 := own_keep ho6 hb7
  clear ho6
  have r7 := range_below r6 hb7
  clear B6 r6
  go_wp2_with (refine wpList_loadBL rfl _ rfl _ rfl b r7 hb ?_)
  refine (toBench_c b _ hb).mono ?_
  rintro e w8 ⟨rfl, hb8⟩
  have z8 : w7.heap.size ≤ w8.heap.size := hb8.size
  have B8 := Below.chain B7 hb8
  have oW_8 := own_keep oW_7 hb8
  clear oW_7
  have oG_8 := own_keep oG_7 hb8
  clear oG_7
  have r8 := range_below r7 hb8
  clear B7 r7
  go_wp2_with fail
  refine (BenchRow_c b _ hb).mono ?_
  rintro e w9 ⟨uH, rfl, ho9, hb9⟩
  have z9 : w8.heap.size ≤ w9.heap.size := hb9.size
  have B9 := Below.chain B8 hb9
  have oW_9 := own_keep oW_8 hb9
  clear oW_8
  have oG_9 := own_keep oG_8 hb9
  clear oG_8
  have r9 := range_below r8 hb9
  clear B8 r8
  have lH := ho9.lt
  go_wp2_with fail
  refine (eqIntS_c _ _ (brL b true) (brL b true) _ (Ints.of_own ho9) (Ints.of_own oW_9)).mono ?_
  rintro e w10 ⟨rfl, hb10⟩
  have z10 : w9.heap.size ≤ w10.heap.size := hb10.size
  have B10 := Below.chain B9 hb10
  have oW_10 := own_keep oW_9 hb10
  clear oW_9
  have oG_10 := own_keep oG_9 hb10
  clear oG_9
  have oH_10 := own_keep ho9 hb10
  clear ho9
  have r10 := range_below r9 hb10
  clear B9 r9
  go_wp2_with fail
  refine (heldIntS_c _ (brL b true).length 1 _ (Ints.of_own (ownsRow_cast oG_10 (by simp [seqI_length]) rfl)) (by omega) (by omega)).mono ?_
  rintro e w11 ⟨rfl, hb11⟩
  have z11 : w10.heap.size ≤ w11.heap.size := hb11.size
  have B11 := Below.chain B10 hb11
  have oW_11 := own_keep oW_10 hb11
  clear oW_10
  have oG_11 := own_keep oG_10 hb11
  clear oG_10
  have oH_11 := own_keep oH_10 hb11
  clear oH_10
  have r11 := range_below r10 hb11
  clear B10 r10
  go_wp2
  go_ret
  exact ⟨rfl, B11⟩
end Go.Proofs.Ytahpknjligaliaa
