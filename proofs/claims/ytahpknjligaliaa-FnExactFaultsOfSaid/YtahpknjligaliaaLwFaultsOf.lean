/- The walk of the law FaultsOf: it returns true and turns nothing that was there. -/
import Derived.Test.YtahpknjligaliaaFo2
import Derived.Test.YtahpknjligaliaaHelpFault
import Derived.Test.YtahpknjligaliaaHelp
namespace Go.Proofs.Ytahpknjligaliaa
open Go.RowKit
set_option linter.unusedVariables false
set_option maxRecDepth 100000
theorem FnExactFaultsOf_walk (v0 : Value) (xs0 : List Int) (v1 : Value) (xs1 : List Int) (w : World) (hv0 : Ints w v0 xs0) (hv1 : Ints w v1 xs1) :
    Calls Try.prog 16 #[v0, v1] w fun e w' => e = .returned (.bool true) ∧ Below w.heap.size w w' := by
  obtain ⟨a0, c0, hvv0, _, _, _⟩ := hv0.parts
  obtain ⟨a1, c1, hvv1, _, _, _⟩ := hv1.parts
  subst hvv0 hvv1
  by_cases hl0 : 1048576 < xs0.length
  · go_enter Try.func16, Try.ntmps16
    go_wp2_with fail
    go_ret
    exact ⟨rfl, by (repeat (first | exact Below.refl _ _ | exact (Below.refl _ _).drew | assumption | exact below_one _ | refine Below.chain ?_ (by assumption) | refine Below.drew ?_ | refine Below.alc ?_ _ | refine below_drewN ?_ | (refine Below.setCell ?_ ?_ _) | exact Nat.le_refl _ | (simp; done) | (simp; omega)))⟩
  · skip
    by_cases hl1 : 1048576 < xs1.length
    · go_enter Try.func16, Try.ntmps16
      go_wp2_with fail
      go_ret
      exact ⟨rfl, by (repeat (first | exact Below.refl _ _ | exact (Below.refl _ _).drew | assumption | exact below_one _ | refine Below.chain ?_ (by assumption) | refine Below.drew ?_ | refine Below.alc ?_ _ | refine below_drewN ?_ | (refine Below.setCell ?_ ?_ _) | exact Nat.le_refl _ | (simp; done) | (simp; omega)))⟩
    · skip
      have hLle : (foL xs0 xs1).length ≤ 1048576 := by have := foL_le xs0 xs1; omega
      go_enter Try.func16, Try.ntmps16
      go_wp2_with fail
      refine (toIntS_c _ xs0 _ (Ints.below hv0 (Below.refl _ _)) (by omega)).mono ?_
      rintro e w1 ⟨us0, rfl, ho1, hb1⟩
      have z1 : w.heap.size ≤ w1.heap.size := hb1.size
      have B1 : Below w.heap.size w w1 := hb1
      have ls0 := ho1.lt
      go_wp2_with fail
      refine (toIntS_c _ xs1 _ (Ints.below hv1 B1) (by omega)).mono ?_
      rintro e w2 ⟨us1, rfl, ho2, hb2⟩
      have z2 : w1.heap.size ≤ w2.heap.size := hb2.size
      have B2 : Below w.heap.size w w2 := Below.chain B1 hb2
      have os0_2 := own_keep ho1 hb2
      clear ho1
      clear B1
      have ls1 := ho2.lt
      go_wp2_with fail
      refine (sFaultsOf_c _ _ xs0 xs1 _ (Ints.of_own os0_2) (Ints.of_own ho2)).mono ?_
      rintro e w3 ⟨uW, rfl, ho3, hb3⟩
      have z3 : w2.heap.size ≤ w3.heap.size := hb3.size
      have B3 : Below w.heap.size w w3 := Below.chain B2 hb3
      have os0_3 := own_keep os0_2 hb3
      clear os0_2
      have os1_3 := own_keep ho2 hb3
      clear ho2
      clear B2
      have lW := ho3.lt
      clear os0_3
      clear os1_3
      go_wp2_with fail
      refine (toIntS_c _ xs0 _ (Ints.below hv0 B3) (by omega)).mono ?_
      rintro e w4 ⟨ux0, rfl, ho4, hb4⟩
      have z4 : w3.heap.size ≤ w4.heap.size := hb4.size
      have B4 : Below w.heap.size w w4 := Below.chain B3 hb4
      have oW_4 := own_keep ho3 hb4
      clear ho3
      clear B3
      have lx0 := ho4.lt
      go_wp2_with fail
      refine (toIntS_c _ xs1 _ (Ints.below hv1 B4) (by omega)).mono ?_
      rintro e w5 ⟨ux1, rfl, ho5, hb5⟩
      have z5 : w4.heap.size ≤ w5.heap.size := hb5.size
      have B5 : Below w.heap.size w w5 := Below.chain B4 hb5
      have oW_5 := own_keep oW_4 hb5
      clear oW_4
      have ox0_5 := own_keep ho4 hb5
      clear ho4
      clear B4
      have lx1 := ho5.lt
      go_wp2_with fail
      refine (FaultsOf_c _ _ xs0 xs1 _ (Ints.of_own ox0_5) (Ints.of_own ho5)).mono ?_
      rintro e w6 ⟨uG, rfl, ho6, hb6⟩
      have z6 : w5.heap.size ≤ w6.heap.size := hb6.size
      have B6 : Below w.heap.size w w6 := Below.chain B5 hb6
      have oW_6 := own_keep oW_5 hb6
      clear oW_5
      have ox0_6 := own_keep ox0_5 hb6
      clear ox0_5
      have ox1_6 := own_keep ho5 hb6
      clear ho5
      clear B5
      have lG := ho6.lt
      go_wp2_with fail
      refine (eqFaultS_c _ _ (foL xs0 xs1) (foL xs0 xs1) _ (Pairs.of_own ho6) (Pairs.of_own oW_6)).mono ?_
      rintro e w7 ⟨rfl, hb7⟩
      have z7 : w6.heap.size ≤ w7.heap.size := hb7.size
      have B7 : Below w.heap.size w w7 := Below.chain B6 hb7
      have oW_7 := own_keep oW_6 hb7
      clear oW_6
      have ox0_7 := own_keep ox0_6 hb7
      clear ox0_6
      have ox1_7 := own_keep ox1_6 hb7
      clear ox1_6
      have oG_7 := own_keep ho6 hb7
      clear ho6
      clear B6
      go_wp2_with fail
      refine (toIntS_c _ xs0 _ (Ints.below hv0 B7) (by omega)).mono ?_
      rintro e w8 ⟨ut0, rfl, ho8, hb8⟩
      have z8 : w7.heap.size ≤ w8.heap.size := hb8.size
      have B8 : Below w.heap.size w w8 := Below.chain B7 hb8
      have oW_8 := own_keep oW_7 hb8
      clear oW_7
      have ox0_8 := own_keep ox0_7 hb8
      clear ox0_7
      have ox1_8 := own_keep ox1_7 hb8
      clear ox1_7
      have oG_8 := own_keep oG_7 hb8
      clear oG_7
      clear B7
      have lt0 := ho8.lt
      go_wp2_with fail
      refine (eqIntS_c _ _ xs0 xs0 _ (Ints.of_own ox0_8) (Ints.of_own ho8)).mono ?_
      rintro e w9 ⟨rfl, hb9⟩
      have z9 : w8.heap.size ≤ w9.heap.size := hb9.size
      have B9 : Below w.heap.size w w9 := Below.chain B8 hb9
      have oW_9 := own_keep oW_8 hb9
      clear oW_8
      have ox0_9 := own_keep ox0_8 hb9
      clear ox0_8
      have ox1_9 := own_keep ox1_8 hb9
      clear ox1_8
      have oG_9 := own_keep oG_8 hb9
      clear oG_8
      have ot0_9 := own_keep ho8 hb9
      clear ho8
      clear B8
      clear ot0_9
      go_wp2_with fail
      refine (toIntS_c _ xs1 _ (Ints.below hv1 B9) (by omega)).mono ?_
      rintro e w10 ⟨ut1, rfl, ho10, hb10⟩
      have z10 : w9.heap.size ≤ w10.heap.size := hb10.size
      have B10 : Below w.heap.size w w10 := Below.chain B9 hb10
      have oW_10 := own_keep oW_9 hb10
      clear oW_9
      have ox0_10 := own_keep ox0_9 hb10
      clear ox0_9
      have ox1_10 := own_keep ox1_9 hb10
      clear ox1_9
      have oG_10 := own_keep oG_9 hb10
      clear oG_9
      clear B9
      have lt1 := ho10.lt
      go_wp2_with fail
      refine (eqIntS_c _ _ xs1 xs1 _ (Ints.of_own ox1_10) (Ints.of_own ho10)).mono ?_
      rintro e w11 ⟨rfl, hb11⟩
      have z11 : w10.heap.size ≤ w11.heap.size := hb11.size
      have B11 : Below w.heap.size w w11 := Below.chain B10 hb11
      have oW_11 := own_keep oW_10 hb11
      clear oW_10
      have ox0_11 := own_keep ox0_10 hb11
      clear ox0_10
      have ox1_11 := own_keep ox1_10 hb11
      clear ox1_10
      have oG_11 := own_keep oG_10 hb11
      clear oG_10
      have ot1_11 := own_keep ho10 hb11
      clear ho10
      clear B10
      clear ot1_11
      go_wp2_with fail
      refine (markIntS_c _ xs0 _ _ _ _ ox0_11 (by omega) (by omega)).mono ?_
      rintro e w12 ⟨rfl, ho12, hg12⟩
      have z12 : w11.heap.size ≤ w12.heap.size := hg12.size
      have B12 : Below w.heap.size w w12 := below_mark B11 (lt_mono lx0 (by omega)) (by omega) hg12
      have oW_12 := oW_11.kept hg12 (ne_of lx0 lW (by omega))
      clear oW_11
      have ox1_12 := ox1_11.kept hg12 (ne_of lx0 lx1 (by omega))
      clear ox1_11
      have oG_12 := oG_11.kept hg12 (ne_of lx0 lG (by omega))
      clear oG_11
      clear B11
      go_wp2_with fail
      refine (markIntS_c _ xs1 _ _ _ _ ox1_12 (by omega) (by omega)).mono ?_
      rintro e w13 ⟨rfl, ho13, hg13⟩
      have z13 : w12.heap.size ≤ w13.heap.size := hg13.size
      have B13 : Below w.heap.size w w13 := below_mark B12 (lt_mono lx1 (by omega)) (by omega) hg13
      have oW_13 := oW_12.kept hg13 (ne_of lx1 lW (by omega))
      clear oW_12
      have ox0_13 := ho12.kept hg13 (ne_of lx1 lx0 (by omega))
      clear ho12
      have oG_13 := oG_12.kept hg13 (ne_of lx1 lG (by omega))
      clear oG_12
      clear B12
      clear ox0_13
      clear ho13
      go_wp2_with fail
      refine (eqFaultS_c _ _ (foL xs0 xs1) (foL xs0 xs1) _ (Pairs.of_own oG_13) (Pairs.of_own oW_13)).mono ?_
      rintro e w14 ⟨rfl, hb14⟩
      have z14 : w13.heap.size ≤ w14.heap.size := hb14.size
      have B14 : Below w.heap.size w w14 := Below.chain B13 hb14
      have oW_14 := own_keep oW_13 hb14
      clear oW_13
      have oG_14 := own_keep oG_13 hb14
      clear oG_13
      clear B13
      go_wp2_with fail
      refine (markFaultS_c _ (foL xs0 xs1) 1 _ _ _ oG_14 (by omega) (by omega)).mono ?_
      rintro e w15 ⟨rfl, ho15, hg15⟩
      have z15 : w14.heap.size ≤ w15.heap.size := hg15.size
      have B15 : Below w.heap.size w w15 := below_mark B14 (lt_mono lG (by omega)) (by omega) hg15
      have oW_15 := oW_14.kept hg15 (ne_of lG lW (by omega))
      clear oW_14
      clear B14
      have hqm : ((1 + 2 * ((foL xs0 xs1).length : Int)) != (1 + 2 * ((foL xs0 xs1).length : Int))) = false := by simp
      go_wp2_with fail
      refine (heldFaultS_c _ (foL xs0 xs1).length 1 _ (Pairs.of_own (ownsRow_cast ho15 (by simp [seqP_length]) rfl)) (by omega) (by omega)).mono ?_
      rintro e w16 ⟨rfl, hb16⟩
      have z16 : w15.heap.size ≤ w16.heap.size := hb16.size
      have B16 : Below w.heap.size w w16 := Below.chain B15 hb16
      have oW_16 := own_keep oW_15 hb16
      clear oW_15
      have oG_16 := own_keep ho15 hb16
      clear ho15
      clear B15
      go_wp2_with fail
      refine (toIntS_c _ xs0 _ (Ints.below hv0 B16) (by omega)).mono ?_
      rintro e w17 ⟨uy0, rfl, ho17, hb17⟩
      have z17 : w16.heap.size ≤ w17.heap.size := hb17.size
      have B17 : Below w.heap.size w w17 := Below.chain B16 hb17
      have oW_17 := own_keep oW_16 hb17
      clear oW_16
      have oG_17 := own_keep oG_16 hb17
      clear oG_16
      clear B16
      have ly0 := ho17.lt
      go_wp2_with fail
      refine (toIntS_c _ xs1 _ (Ints.below hv1 B17) (by omega)).mono ?_
      rintro e w18 ⟨uy1, rfl, ho18, hb18⟩
      have z18 : w17.heap.size ≤ w18.heap.size := hb18.size
      have B18 : Below w.heap.size w w18 := Below.chain B17 hb18
      have oW_18 := own_keep oW_17 hb18
      clear oW_17
      have oG_18 := own_keep oG_17 hb18
      clear oG_17
      have oy0_18 := own_keep ho17 hb18
      clear ho17
      clear B17
      have ly1 := ho18.lt
      go_wp2_with fail
      refine (FaultsOf_c _ _ xs0 xs1 _ (Ints.of_own oy0_18) (Ints.of_own ho18)).mono ?_
      rintro e w19 ⟨uH, rfl, ho19, hb19⟩
      have z19 : w18.heap.size ≤ w19.heap.size := hb19.size
      have B19 : Below w.heap.size w w19 := Below.chain B18 hb19
      have oW_19 := own_keep oW_18 hb19
      clear oW_18
      have oG_19 := own_keep oG_18 hb19
      clear oG_18
      have oy0_19 := own_keep oy0_18 hb19
      clear oy0_18
      have oy1_19 := own_keep ho18 hb19
      clear ho18
      clear B18
      have lH := ho19.lt
      go_wp2_with fail
      refine (eqFaultS_c _ _ (foL xs0 xs1) (foL xs0 xs1) _ (Pairs.of_own ho19) (Pairs.of_own oW_19)).mono ?_
      rintro e w20 ⟨rfl, hb20⟩
      have z20 : w19.heap.size ≤ w20.heap.size := hb20.size
      have B20 : Below w.heap.size w w20 := Below.chain B19 hb20
      have oW_20 := own_keep oW_19 hb20
      clear oW_19
      have oG_20 := own_keep oG_19 hb20
      clear oG_19
      have oy0_20 := own_keep oy0_19 hb20
      clear oy0_19
      have oy1_20 := own_keep oy1_19 hb20
      clear oy1_19
      have oH_20 := own_keep ho19 hb20
      clear ho19
      clear B19
      go_wp2_with fail
      refine (heldFaultS_c _ (foL xs0 xs1).length 1 _ (Pairs.of_own (ownsRow_cast oG_20 (by simp [seqP_length]) rfl)) (by omega) (by omega)).mono ?_
      rintro e w21 ⟨rfl, hb21⟩
      have z21 : w20.heap.size ≤ w21.heap.size := hb21.size
      have B21 : Below w.heap.size w w21 := Below.chain B20 hb21
      have oW_21 := own_keep oW_20 hb21
      clear oW_20
      have oG_21 := own_keep oG_20 hb21
      clear oG_20
      have oy0_21 := own_keep oy0_20 hb21
      clear oy0_20
      have oy1_21 := own_keep oy1_20 hb21
      clear oy1_20
      have oH_21 := own_keep oH_20 hb21
      clear oH_20
      clear B20
      go_wp2
      go_ret
      exact ⟨rfl, B21⟩
end Go.Proofs.Ytahpknjligaliaa
