/- The walk of the law SyncLog: for every log it returns true and turns nothing that was there. -/
import Derived.Test.YtfflbbgipbnckaaDoorLwIsValidLog
namespace Go.Proofs.YtfflbbgipbnckaaDoor
open Go.RowKit
set_option linter.unusedVariables false
set_option linter.unusedSimpArgs false
set_option maxRecDepth 100000
set_option maxHeartbeats 1000000 in
theorem FnExactSyncLog_walk (d p : ByteArray) (n : Int) (w : World) (hd : d.size ≤ 9223372036854775807) (hp : p.size ≤ 9223372036854775807) (ht : Tab w) : Calls Tryd.prog 7 #[logV d p n] w fun e w' => e = .returned (.bool true) ∧ Below w.heap.size w w' := by
  have hb0 := Lib.hid (below_one (w := w) (.cells #[.string d, .string p, .int .i64 n] 36))
  have B0 := Lib.hid (Bk.new w 36 #[.string d, .string p, .int .i64 n])
  have HZ := Lib.hid (fun w' => szLog_c d p n 1048576 w' (by omega) (by omega) hd hp)
  have HT := Lib.hid (fun w' => toLog_c d p n w')
  have HTB := Lib.hid ht
  clear ht
  by_cases hs : szL d p 1048576 < 0
  · unfold logV at *
    go_enter Tryd.func7, Tryd.ntmps7
    go_wp2_with fail
    refine (HZ.out _).mono ?_
    rintro e w1 ⟨rfl, hb1⟩
    go_wp2
    go_ret
    exact ⟨rfl, Below.chain hb0.out hb1⟩
  · have hcr := szL_le hs
    have H1 := Lib.hid (fun w' => SyncLogS_c d p n w' hcr.1 hcr.2)
    have H2 := Lib.hid (fun w' => SyncLog_c d p n w' hcr.1 hcr.2)
    unfold logV at *
    go_enter Tryd.func7, Tryd.ntmps7
    go_wp2_with fail
    refine (HZ.out _).mono ?_
    rintro e w1 ⟨rfl, hb1⟩
    have B1 := B0.out.below hb1
    have q0 : w1.cell? ⟨w.heap.size, 0, none⟩ = some (.string d) := B1.cell 0
    have q1 : w1.cell? ⟨w.heap.size, 1, none⟩ = some (.string p) := B1.cell 1
    have q2 : w1.cell? ⟨w.heap.size, 2, none⟩ = some (.int .i64 n) := B1.cell 2
    have HB := Lib.hid (Below.chain hb0.out hb1)
    clear hb1 B1
    go_wp2_with fail
    refine (HT.out _).mono ?_
    rintro e w2 ⟨rfl, hb3⟩
    have r0 := cell_later hb3 q0
    have r1 := cell_later hb3 q1
    have r2 := cell_later hb3 q2
    have HB2 := Lib.hid (Below.chain HB.out hb3)
    clear hb3 q0 q1 q2 HB
    go_wp2_with fail
    refine (H1.out _).mono ?_
    rintro e w3 ⟨ok1, rfl, hi1, hb3⟩
    have q0 := cell_later hb3 r0
    have q1 := cell_later hb3 r1
    have q2 := cell_later hb3 r2
    have HB := Lib.hid (Below.chain HB2.out hb3)
    have HI1 := Lib.hid hi1
    have HE := Lib.hid (fun a b c w => eqLog_c a b c w)
    have hlt1 : w.heap.size < w3.heap.size := World.block_lt_of_cell? _ _ q0
    clear hb3 r0 r1 r2 HB2 hi1
    cases ok1 with
    | false =>
      unfold syncV logV
      unfold logV at HE
      simp only [Bool.false_eq_true, if_false, if_true]
      go_wp2_with fail
      refine (HT.out _).mono ?_
      rintro e w4 ⟨rfl, hb3⟩
      have s0 := cell_later hb3 (new_cell w3 #[.string ⟨#[]⟩, .string ⟨#[]⟩, .int .i64 0] 31 0 _ rfl)
      have s1 := cell_later hb3 (new_cell w3 #[.string ⟨#[]⟩, .string ⟨#[]⟩, .int .i64 0] 31 1 _ rfl)
      have s2 := cell_later hb3 (new_cell w3 #[.string ⟨#[]⟩, .string ⟨#[]⟩, .int .i64 0] 31 2 _ rfl)
      have HB2 := Lib.hid (Below.chain (Below.alc HB.out _) hb3)
      clear hb3 q0 q1 q2 HB
      go_wp2_with fail
      refine (H2.out _ (HTB.out.on HB2.out)).mono ?_
      rintro e w5 ⟨ok2, rfl, hi2, hb3⟩
      obtain rfl : false = ok2 := ok_same HI1.out hi2
      have r0 := cell_later hb3 s0
      have r1 := cell_later hb3 s1
      have r2 := cell_later hb3 s2
      have hlt2 : w3.heap.size < w5.heap.size := World.block_lt_of_cell? _ _ r0
      have HB := Lib.hid (Below.chain HB2.out hb3)
      clear hb3 HB2 hi2 HI1 s0 s1 s2
      unfold syncV logV
      simp only [Bool.false_eq_true, if_false, if_true]
      go_wp2_with fail
      refine (HE.out _ _ _ _).mono ?_
      rintro e w6 ⟨rfl, hb3⟩
      go_wp2
      go_ret
      exact ⟨rfl, by have hb := HB.out; (repeat (first | exact Below.refl _ _ | exact (Below.refl _ _).drew | assumption | exact below_one _ | refine Below.chain ?_ (by assumption) | refine Below.drew ?_ | refine Below.alc ?_ _ | refine below_drewN ?_ | (refine Below.setCell ?_ ?_ _) | exact Nat.le_refl _ | (simp; done) | (simp; omega)))⟩
    | true =>
      unfold syncV logV
      unfold logV at HE
      simp only [Bool.false_eq_true, if_false, if_true]
      go_wp2_with fail
      refine (HT.out _).mono ?_
      rintro e w4 ⟨rfl, hb3⟩
      have s0 := cell_later hb3 (new_cell w3 #[.string (d ++ p), .string ⟨#[]⟩, .int .i64 n] 31 0 _ rfl)
      have s1 := cell_later hb3 (new_cell w3 #[.string (d ++ p), .string ⟨#[]⟩, .int .i64 n] 31 1 _ rfl)
      have s2 := cell_later hb3 (new_cell w3 #[.string (d ++ p), .string ⟨#[]⟩, .int .i64 n] 31 2 _ rfl)
      have HB2 := Lib.hid (Below.chain (Below.alc HB.out _) hb3)
      clear hb3 q0 q1 q2 HB
      go_wp2_with fail
      refine (H2.out _ (HTB.out.on HB2.out)).mono ?_
      rintro e w5 ⟨ok2, rfl, hi2, hb3⟩
      obtain rfl : true = ok2 := (hi2.2 (HI1.out.1 trivial)).symm
      have r0 := cell_later hb3 s0
      have r1 := cell_later hb3 s1
      have r2 := cell_later hb3 s2
      have hlt2 : w3.heap.size < w5.heap.size := World.block_lt_of_cell? _ _ r0
      have HB := Lib.hid (Below.chain HB2.out hb3)
      clear hb3 HB2 hi2 HI1 s0 s1 s2
      unfold syncV logV
      simp only [Bool.false_eq_true, if_false, if_true]
      go_wp2_with fail
      refine (HE.out _ _ _ _).mono ?_
      rintro e w6 ⟨rfl, hb3⟩
      go_wp2
      go_ret
      exact ⟨rfl, by have hb := HB.out; (repeat (first | exact Below.refl _ _ | exact (Below.refl _ _).drew | assumption | exact below_one _ | refine Below.chain ?_ (by assumption) | refine Below.drew ?_ | refine Below.alc ?_ _ | refine below_drewN ?_ | (refine Below.setCell ?_ ?_ _) | exact Nat.le_refl _ | (simp; done) | (simp; omega)))⟩
end Go.Proofs.YtfflbbgipbnckaaDoor
