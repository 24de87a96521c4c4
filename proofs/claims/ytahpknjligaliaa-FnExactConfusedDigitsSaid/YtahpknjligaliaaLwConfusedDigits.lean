/- The walk of the law ConfusedDigits: for every Fault it returns true and turns nothing that was there. -/
import Derived.Test.YtahpknjligaliaaConf
import Derived.Test.YtahpknjligaliaaToFaults
namespace Go.Proofs.Ytahpknjligaliaa
open Go.RowKit
set_option linter.unusedVariables false
set_option maxRecDepth 100000
theorem cell_lo {w w' : World} {B : Nat} {p : Addr} {v : Value} (h : w.cell? p = some v) (hb : Below B w w') (hp : p.block < B) : w'.cell? p = some v := by
  rw [hb.cell hp]; exact h
theorem FnExactConfusedDigits_walk (d l : Int) (w : World) : Calls Try.prog 11 #[.agg #[.int .i64 d, .int .i64 l]] w fun e w' => e = .returned (.bool true) ∧ Below w.heap.size w w' := by
  have hb0 := below_one (w := w) (.cells #[.int .i64 d, .int .i64 l] 61)
  have hLle := cfL_le d l
  go_enter Try.func11, Try.ntmps11
  go_wp2_with fail
  refine (toFault_c d l _).mono ?_
  rintro e w1 ⟨rfl, hb1⟩
  have q0 := (box_after hb1).1 0 _ rfl
  have q1 := (box_after hb1).1 1 _ rfl
  have B1 := Below.chain hb0 hb1
  have z1 : w.heap.size + 1 ≤ w1.heap.size := Nat.le_trans (by simp) hb1.size
  clear hb0 hb1
  go_wp2_with fail
  refine (sConfusedDigits_c d l _).mono ?_
  rintro e w2 ⟨u1, rfl, ho1, hb2⟩
  have r0 := cell_later hb2 q0
  have r1 := cell_later hb2 q1
  have B2 := Below.chain B1 hb2
  have z2 := hb2.size
  have R1 := ho1.rd
  clear B1 hb2 q0 q1 ho1
  go_wp2_with fail
  refine (toFault_c d l _).mono ?_
  rintro e w3 ⟨rfl, hb3⟩
  have q0 := cell_later hb3 r0
  have q1 := cell_later hb3 r1
  have B3 := Below.chain B2 hb3
  have z3 := hb3.size
  have R1 := R1.keep hb3 (Nat.le_refl _)
  clear B2 hb3 r0 r1
  go_wp2_with fail
  refine (ConfusedDigits_c d l _).mono ?_
  rintro e w4 ⟨u2, rfl, ho2, hb4⟩
  have r0 := cell_later hb4 q0
  have r1 := cell_later hb4 q1
  have B4 := Below.chain B3 hb4
  have z4 := hb4.size
  have R1 := R1.keep hb4 z3
  clear B3 hb4 q0 q1
  have hqq : (faultB d l != faultB d l) = false := by simp
  generalize hL : cfL d l = L at *
  go_wp2_with fail
  refine (eqIntSS_c _ _ L _ _ _ ho2.rd R1).mono ?_
  rintro e w5 ⟨rfl, hb5⟩
  have q0 := cell_later hb5 r0
  have q1 := cell_later hb5 r1
  have B5 := Below.chain B4 hb5
  have z5 := hb5.size
  have R1 := R1.keep hb5 (by omega)
  have ho5 : OwnSS w5 w3.heap.size u2 L := by obtain ⟨vs, h1, h2⟩ := ho2; exact ⟨vs, own_keep h1 hb5, h2.keep hb5⟩
  clear B4 hb5 r0 r1 ho2
  go_wp2_with fail
  refine (markIntSS_c _ L 1 w3.heap.size _ ho5 (by omega) (by omega) (by omega)).mono ?_
  rintro e w6 ⟨rfl, ho6, hb6⟩
  have r0 := cell_lo q0 hb6 (by show w.heap.size < _; omega)
  have r1 := cell_lo q1 hb6 (by show w.heap.size < _; omega)
  have B6 : Below w.heap.size w w6 := B5.trans (hb6.mono (by omega))
  have z6 := hb6.size
  have R1 := R1.keep hb6 z3
  have R2 := ho6.rd
  clear B5 hb6 q0 q1 ho5 ho6
  have hqm : ((1 + (totSS L : Int)) != (1 + (totSS L : Int))) = false := by simp
  go_wp2_with fail
  refine (heldIntSS_c _ L 1 _ _ R2 (by omega) (by omega)).mono ?_
  rintro e w7 ⟨rfl, hb7⟩
  have q0 := cell_later hb7 r0
  have q1 := cell_later hb7 r1
  have B7 := Below.chain B6 hb7
  have z7 := hb7.size
  have R1 := R1.keep hb7 (by omega)
  have R2 := R2.keep hb7 (Nat.le_refl _)
  clear B6 hb7 r0 r1
  go_wp2_with fail
  refine (toFault_c d l _).mono ?_
  rintro e w8 ⟨rfl, hb8⟩
  have B8 := Below.chain B7 hb8
  have z8 := hb8.size
  have R1 := R1.keep hb8 (by omega)
  have R2 := R2.keep hb8 (by omega)
  clear B7 hb8 q0 q1
  go_wp2_with fail
  refine (ConfusedDigits_c d l _).mono ?_
  rintro e w9 ⟨u3, rfl, ho9, hb9⟩
  rw [hL] at ho9
  have B9 := Below.chain B8 hb9
  have z9 := hb9.size
  have R1 := R1.keep hb9 (by omega)
  have R2 := R2.keep hb9 (by omega)
  clear B8 hb9
  go_wp2_with fail
  refine (eqIntSS_c _ _ L _ _ _ ho9.rd R1).mono ?_
  rintro e w10 ⟨rfl, hb10⟩
  have B10 := Below.chain B9 hb10
  have R2 := R2.keep hb10 (by omega)
  clear B9 hb10
  go_wp2_with fail
  refine (heldIntSS_c _ L 1 _ _ R2 (by omega) (by omega)).mono ?_
  rintro e w11 ⟨rfl, hb11⟩
  have B11 := Below.chain B10 hb11
  go_wp2
  go_ret
  exact ⟨rfl, B11⟩
end Go.Proofs.Ytahpknjligaliaa
