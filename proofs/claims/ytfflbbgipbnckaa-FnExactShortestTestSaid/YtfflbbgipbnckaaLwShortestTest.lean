/- The walk of the law ShortestTest: it returns true and turns nothing that was there. -/
import Derived.Test.YtfflbbgipbnckaaShort4
import Derived.Test.YtfflbbgipbnckaaHelp
namespace Go.Proofs.Ytfflbbgipbnckaa
open Go.RowKit
set_option linter.unusedVariables false
set_option maxRecDepth 100000
theorem FnExactShortestTest_walk (v0 : Value) (xs0 : List Int) (w : World) (hv0 : Ints w v0 xs0) :
    Calls Try.prog 4 #[v0] w fun e w' => e = .returned (.bool true) ∧ Below w.heap.size w w' := by
  obtain ⟨a0, c0, hvv0, _, _, _⟩ := hv0.parts
  subst hvv0
  by_cases hl0 : 1048576 < xs0.length
  · go_enter Try.func4, Try.ntmps4
    go_wp2_with fail
    go_ret
    exact ⟨rfl, by (repeat (first | exact Below.refl _ _ | exact (Below.refl _ _).drew | assumption | exact below_one _ | refine Below.chain ?_ (by assumption) | refine Below.drew ?_ | refine Below.alc ?_ _ | refine below_drewN ?_ | (refine Below.setCell ?_ ?_ _) | exact Nat.le_refl _ | (simp; done) | (simp; omega)))⟩
  · skip
    have hLle : (shL xs0).length ≤ 1048576 := by have := shL_le xs0; omega
    go_enter Try.func4, Try.ntmps4
    go_wp2_with fail
    refine (toIntS_c _ xs0 _ (Ints.below hv0 (Below.refl _ _)) (by omega)).mono ?_
    rintro e w1 ⟨us0, rfl, ho1, hb1⟩
    have z1 : w.heap.size ≤ w1.heap.size := hb1.size
    have B1 : Below w.heap.size w w1 := hb1
    have ls0 := ho1.lt
    go_wp2_with fail
    refine (sShortestTest_c _ xs0 _ (Ints.of_own ho1)).mono ?_
    rintro e w2 ⟨uW, rfl, ho2, hb2⟩
    have z2 : w1.heap.size ≤ w2.heap.size := hb2.size
    have B2 : Below w.heap.size w w2 := Below.chain B1 hb2
    have os0_2 := own_keep ho1 hb2
    clear ho1
    clear B1
    have lW := ho2.lt
    clear os0_2
    go_wp2_with fail
    refine (toIntS_c _ xs0 _ (Ints.below hv0 B2) (by omega)).mono ?_
    rintro e w3 ⟨ux0, rfl, ho3, hb3⟩
    have z3 : w2.heap.size ≤ w3.heap.size := hb3.size
    have B3 : Below w.heap.size w w3 := Below.chain B2 hb3
    have oW_3 := own_keep ho2 hb3
    clear ho2
    clear B2
    have lx0 := ho3.lt
    go_wp2_with fail
    refine (ShortestTest_c _ xs0 _ (Ints.of_own ho3)).mono ?_
    rintro e w4 ⟨uG, rfl, ho4, hb4⟩
    have z4 : w3.heap.size ≤ w4.heap.size := hb4.size
    have B4 : Below w.heap.size w w4 := Below.chain B3 hb4
    have oW_4 := own_keep oW_3 hb4
    clear oW_3
    have ox0_4 := own_keep ho3 hb4
    clear ho3
    clear B3
    have lG := ho4.lt
    go_wp2_with fail
    refine (eqIntS_c _ _ (shL xs0) (shL xs0) _ (Ints.of_own ho4) (Ints.of_own oW_4)).mono ?_
    rintro e w5 ⟨rfl, hb5⟩
    have z5 : w4.heap.size ≤ w5.heap.size := hb5.size
    have B5 : Below w.heap.size w w5 := Below.chain B4 hb5
    have oW_5 := own_keep oW_4 hb5
    clear oW_4
    have ox0_5 := own_keep ox0_4 hb5
    clear ox0_4
    have oG_5 := own_keep ho4 hb5
    clear ho4
    clear B4
    go_wp2_with fail
    refine (toIntS_c _ xs0 _ (Ints.below hv0 B5) (by omega)).mono ?_
    rintro e w6 ⟨ut0, rfl, ho6, hb6⟩
    have z6 : w5.heap.size ≤ w6.heap.size := hb6.size
    have B6 : Below w.heap.size w w6 := Below.chain B5 hb6
    have oW_6 := own_keep oW_5 hb6
    clear oW_5
    have ox0_6 := own_keep ox0_5 hb6
    clear ox0_5
    have oG_6 := own_keep oG_5 hb6
    clear oG_5
    clear B5
    have lt0 := ho6.lt
    go_wp2_with fail
    refine (eqIntS_c _ _ xs0 xs0 _ (Ints.of_own ox0_6) (Ints.of_own ho6)).mono ?_
    rintro e w7 ⟨rfl, hb7⟩
    have z7 : w6.heap.size ≤ w7.heap.size := hb7.size
    have B7 : Below w.heap.size w w7 := Below.chain B6 hb7
    have oW_7 := own_keep oW_6 hb7
    clear oW_6
    have ox0_7 := own_keep ox0_6 hb7
    clear ox0_6
    have oG_7 := own_keep oG_6 hb7
    clear oG_6
    have ot0_7 := own_keep ho6 hb7
    clear ho6
    clear B6
    clear ot0_7
    go_wp2_with fail
    refine (markIntS_c _ xs0 _ _ _ _ ox0_7 (by omega) (by omega)).mono ?_
    rintro e w8 ⟨rfl, ho8, hg8⟩
    have z8 : w7.heap.size ≤ w8.heap.size := hg8.size
    have B8 : Below w.heap.size w w8 := below_mark B7 (lt_mono lx0 (by omega)) (by omega) hg8
    have oW_8 := oW_7.kept hg8 (ne_of lx0 lW (by omega))
    clear oW_7
    have oG_8 := oG_7.kept hg8 (ne_of lx0 lG (by omega))
    clear oG_7
    clear B7
    clear ho8
    go_wp2_with fail
    refine (eqIntS_c _ _ (shL xs0) (shL xs0) _ (Ints.of_own oG_8) (Ints.of_own oW_8)).mono ?_
    rintro e w9 ⟨rfl, hb9⟩
    have z9 : w8.heap.size ≤ w9.heap.size := hb9.size
    have B9 : Below w.heap.size w w9 := Below.chain B8 hb9
    have oW_9 := own_keep oW_8 hb9
    clear oW_8
    have oG_9 := own_keep oG_8 hb9
    clear oG_8
    clear B8
    go_wp2_with fail
    refine (markIntS_c _ (shL xs0) 1 _ _ _ oG_9 (by omega) (by omega)).mono ?_
    rintro e w10 ⟨rfl, ho10, hg10⟩
    have z10 : w9.heap.size ≤ w10.heap.size := hg10.size
    have B10 : Below w.heap.size w w10 := below_mark B9 (lt_mono lG (by omega)) (by omega) hg10
    have oW_10 := oW_9.kept hg10 (ne_of lG lW (by omega))
    clear oW_9
    clear B9
    have hqm : ((1 + ((shL xs0).length : Int)) != (1 + ((shL xs0).length : Int))) = false := by simp
    go_wp2_with fail
    refine (heldIntS_c _ (shL xs0).length 1 _ (Ints.of_own (ownsRow_cast ho10 (by simp [seqI_length]) rfl)) (by omega) (by omega)).mono ?_
    rintro e w11 ⟨rfl, hb11⟩
    have z11 : w10.heap.size ≤ w11.heap.size := hb11.size
    have B11 : Below w.heap.size w w11 := Below.chain B10 hb11
    have oW_11 := own_keep oW_10 hb11
    clear oW_10
    have oG_11 := own_keep ho10 hb11
    clear ho10
    clear B10
    go_wp2_with fail
    refine (toIntS_c _ xs0 _ (Ints.below hv0 B11) (by omega)).mono ?_
    rintro e w12 ⟨uy0, rfl, ho12, hb12⟩
    have z12 : w11.heap.size ≤ w12.heap.size := hb12.size
    have B12 : Below w.heap.size w w12 := Below.chain B11 hb12
    have oW_12 := own_keep oW_11 hb12
    clear oW_11
    have oG_12 := own_keep oG_11 hb12
    clear oG_11
    clear B11
    have ly0 := ho12.lt
    go_wp2_with fail
    refine (ShortestTest_c _ xs0 _ (Ints.of_own ho12)).mono ?_
    rintro e w13 ⟨uH, rfl, ho13, hb13⟩
    have z13 : w12.heap.size ≤ w13.heap.size := hb13.size
    have B13 : Below w.heap.size w w13 := Below.chain B12 hb13
    have oW_13 := own_keep oW_12 hb13
    clear oW_12
    have oG_13 := own_keep oG_12 hb13
    clear oG_12
    have oy0_13 := own_keep ho12 hb13
    clear ho12
    clear B12
    have lH := ho13.lt
    go_wp2_with fail
    refine (eqIntS_c _ _ (shL xs0) (shL xs0) _ (Ints.of_own ho13) (Ints.of_own oW_13)).mono ?_
    rintro e w14 ⟨rfl, hb14⟩
    have z14 : w13.heap.size ≤ w14.heap.size := hb14.size
    have B14 : Below w.heap.size w w14 := Below.chain B13 hb14
    have oW_14 := own_keep oW_13 hb14
    clear oW_13
    have oG_14 := own_keep oG_13 hb14
    clear oG_13
    have oy0_14 := own_keep oy0_13 hb14
    clear oy0_13
    have oH_14 := own_keep ho13 hb14
    clear ho13
    clear B13
    go_wp2_with fail
    refine (heldIntS_c _ (shL xs0).length 1 _ (Ints.of_own (ownsRow_cast oG_14 (by simp [seqI_length]) rfl)) (by omega) (by omega)).mono ?_
    rintro e w15 ⟨rfl, hb15⟩
    have z15 : w14.heap.size ≤ w15.heap.size := hb15.size
    have B15 : Below w.heap.size w w15 := Below.chain B14 hb15
    have oW_15 := own_keep oW_14 hb15
    clear oW_14
    have oG_15 := own_keep oG_14 hb15
    clear oG_14
    have oy0_15 := own_keep oy0_14 hb15
    clear oy0_14
    have oH_15 := own_keep oH_14 hb15
    clear oH_14
    clear B14
    go_wp2
    go_ret
    exact ⟨rfl, B15⟩
end Go.Proofs.Ytfflbbgipbnckaa
