/- The walk of the law IsValidLog: for every log it returns true and turns nothing that was there. -/
import Derived.Test.YtfflbbgipbnckaaDoorLogL
namespace Go.Proofs.YtfflbbgipbnckaaDoor
open Go.RowKit
set_option linter.unusedVariables false
set_option maxRecDepth 100000
theorem ok_same {a b : Bool} {q : Prop} (h1 : a = true ↔ q) (h2 : b = true ↔ q) : a = b := by
  rw [Bool.eq_iff_iff, h1, h2]
set_option maxHeartbeats 1000000 in
theorem FnExactIsValidLog_walk (d p : ByteArray) (n : Int) (w : World) (hd : d.size ≤ 9223372036854775807) (hp : p.size ≤ 9223372036854775807) (ht : Tab w) : Calls Tryd.prog 5 #[logV d p n] w fun e w' => e = .returned (.bool true) ∧ Below w.heap.size w w' := by
  have hb0 := Lib.hid (below_one (w := w) (.cells #[.string d, .string p, .int .i64 n] 36))
  have B0 := Lib.hid (Bk.new w 36 #[.string d, .string p, .int .i64 n])
  have HZ := Lib.hid (fun w' => szLog_c d p n 1048576 w' (by omega) (by omega) hd hp)
  have HT := Lib.hid (fun w' => toLog_c d p n w')
  have HTB := Lib.hid ht
  clear ht
  by_cases hs : szL d p 1048576 < 0
  · unfold logV at *
    go_enter Tryd.func5, Tryd.ntmps5
    go_wp2_with fail
    refine (HZ.out _).mono ?_
    rintro e w1 ⟨rfl, hb1⟩
    go_wp2
    go_ret
    exact ⟨rfl, Below.chain hb0.out hb1⟩
  · have hcr := szL_le hs
    have H1 := Lib.hid (fun w' => IsValidLogS_c d p n w' hcr.1 hcr.2)
    have H2 := Lib.hid (fun w' => IsValidLog_c d p n w' hcr.1 hcr.2)
    unfold logV at *
    go_enter Tryd.func5, Tryd.ntmps5
    go_wp2_with fail
    refine (HZ.out _).mono ?_
    rintro e w1 ⟨rfl, hb1⟩
    have B1 := B0.out.below hb1
    have q0 : w1.cell? ⟨w.heap.size, 0, none⟩ = some (.string d) := B1.cell 0
    have q1 : w1.cell? ⟨w.heap.size, 1, none⟩ = some (.string p) := B1.cell 1
    have q2 : w1.cell? ⟨w.heap.size, 2, none⟩ = some (.int .i64 n) := B1.cell 2
    have HB := Lib.hid (Below.chain hb0.out hb1)
    clear hb1 B1
    go_wp2_with fail
    refine (HT.out _).mono ?_
    rintro e w2 ⟨rfl, hb3⟩
    have r0 := cell_later hb3 q0
    have r1 := cell_later hb3 q1
    have r2 := cell_later hb3 q2
    have HB2 := Lib.hid (Below.chain HB.out hb3)
    clear hb3 q0 q1 q2 HB
    go_wp2_with fail
    refine (H1.out _).mono ?_
    rintro e w3 ⟨ok1, rfl, hi1, hb3⟩
    have q0 := cell_later hb3 r0
    have q1 := cell_later hb3 r1
    have q2 := cell_later hb3 r2
    have HB := Lib.hid (Below.chain HB2.out hb3)
    have HI1 := Lib.hid hi1
    clear hb3 r0 r1 r2 HB2 hi1
    go_wp2_with fail
    refine (HT.out _).mono ?_
    rintro e w4 ⟨rfl, hb3⟩
    have HB2 := Lib.hid (Below.chain HB.out hb3)
    clear hb3 q0 q1 q2 HB
    go_wp2_with fail
    refine (H2.out _ (HTB.out.on HB2.out)).mono ?_
    rintro e w5 ⟨ok2, rfl, hi2, hb3⟩
    obtain rfl := ok_same hi2 HI1.out
    have HB := Lib.hid (Below.chain HB2.out hb3)
    clear hb3 HB2 hi2 HI1
    have hqq : (ok2 != ok2) = false := by simp
    go_wp2
    go_ret
    exact ⟨rfl, HB.out⟩
end Go.Proofs.YtfflbbgipbnckaaDoor
