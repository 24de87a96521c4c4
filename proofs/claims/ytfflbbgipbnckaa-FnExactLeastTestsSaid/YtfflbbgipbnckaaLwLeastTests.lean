/- The walk of the law LeastTests: it returns true and turns nothing that was there. -/
import Derived.Test.YtfflbbgipbnckaaLts2
import Derived.Test.YtfflbbgipbnckaaLts3
namespace Go.Proofs.Ytfflbbgipbnckaa
open Go.RowKit
set_option linter.unusedVariables false
set_option maxRecDepth 100000
attribute [local irreducible] ltA
set_option maxHeartbeats 1000000 in
theorem FnExactLeastTests_walk (w : World) : Calls Try.prog 5 #[] w fun e w' => e = .returned (.bool true) ∧ Below w.heap.size w w' := by
  have hLle := ltA_tot
  go_enter Try.func5, Try.ntmps5
  go_wp2_with fail
  refine (sLeastTests_c _).mono ?_
  rintro e w2 ⟨u1, rfl, ho1, hb2⟩
  have B2 := hb2
  have z2 := hb2.size
  have R1 := ho1.rd
  clear hb2 ho1
  go_wp2_with fail
  refine (LeastTests_c _).mono ?_
  rintro e w4 ⟨u2, rfl, ho2, hb4⟩
  have B4 := Below.chain B2 hb4
  have z4 := hb4.size
  have R1 := R1.keep hb4 (Nat.le_refl _)
  clear B2 hb4
  generalize hL : ltA = L at *
  go_wp2_with fail
  refine (eqIntSS_c _ _ L _ _ _ ho2.rd R1).mono ?_
  rintro e w5 ⟨rfl, hb5⟩
  have B5 := Below.chain B4 hb5
  have z5 := hb5.size
  have R1 := R1.keep hb5 (by omega)
  have ho5 : OwnSS w5 w2.heap.size u2 L := by obtain ⟨vs, h1, h2⟩ := ho2; exact ⟨vs, own_keep h1 hb5, h2.keep hb5⟩
  clear B4 hb5 ho2
  go_wp2_with fail
  refine (markIntSS_c _ L 1 w2.heap.size _ ho5 (by omega) (by omega) (by omega)).mono ?_
  rintro e w6 ⟨rfl, ho6, hb6⟩
  have B6 : Below w.heap.size w w6 := B5.trans (hb6.mono (by omega))
  have z6 := hb6.size
  have R1 := R1.keep hb6 (Nat.le_refl _)
  have R2 := ho6.rd
  clear B5 hb6 ho5 ho6
  have hqm : ((1 + (totSS L : Int)) != (1 + (totSS L : Int))) = false := by simp
  go_wp2_with fail
  refine (heldIntSS_c _ L 1 _ _ R2 (by omega) (by omega)).mono ?_
  rintro e w7 ⟨rfl, hb7⟩
  have B7 := Below.chain B6 hb7
  have z7 := hb7.size
  have R1 := R1.keep hb7 (by omega)
  have R2 := R2.keep hb7 (Nat.le_refl _)
  clear B6 hb7
  go_wp2_with fail
  refine (LeastTests_c _).mono ?_
  rintro e w9 ⟨u3, rfl, ho9, hb9⟩
  rw [hL] at ho9
  have B9 := Below.chain B7 hb9
  have z9 := hb9.size
  have R1 := R1.keep hb9 (by omega)
  have R2 := R2.keep hb9 (by omega)
  clear B7 hb9
  go_wp2_with fail
  refine (eqIntSS_c _ _ L _ _ _ ho9.rd R1).mono ?_
  rintro e w10 ⟨rfl, hb10⟩
  have B10 := Below.chain B9 hb10
  have R2 := R2.keep hb10 (by omega)
  clear B9 hb10
  go_wp2_with fail
  refine (heldIntSS_c _ L 1 _ _ R2 (by omega) (by omega)).mono ?_
  rintro e w11 ⟨rfl, hb11⟩
  have B11 := Below.chain B10 hb11
  go_wp2
  go_ret
  exact ⟨rfl, B11⟩
end Go.Proofs.Ytfflbbgipbnckaa
