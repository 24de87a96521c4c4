/- The walk of the law IsValidRecord: for every record it returns true and turns nothing that was there. -/
import Derived.Test.YtahpknjligaliaaRec
namespace Go.Proofs.Ytahpknjligaliaa
open Go.RowKit
set_option linter.unusedVariables false
set_option maxRecDepth 100000
theorem FnExactIsValidRecord_walk (c r : ByteArray) (w : World) (hc : c.size ≤ 9223372036854775807) (hr : r.size ≤ 9223372036854775807) : Calls Try.prog 13 #[recV c r] w fun e w' => e = .returned (.bool true) ∧ Below w.heap.size w w' := by
  have hb0 := below_one (w := w) (.cells #[.string c, .string r] 73)
  have HZ := fun w' => szLogRecord_c c r 1048576 w' (by omega) (by omega) hc hr
  have HT := fun w' => toLogRecord_c c r w'
  by_cases hs : szR c r 1048576 < 0
  · unfold recV at *
    have HS := Lib.hid hs
    go_enter Try.func13, Try.ntmps13
    go_wp2_with fail
    refine (HZ _).mono ?_
    rintro e w1 ⟨rfl, hb1⟩
    have hb2 := Below.chain hb0 hb1
    go_wp2
    go_ret
    exact ⟨rfl, hb2⟩
  · have hcr : c.size ≤ 1073741824 ∧ r.size ≤ 1073741824 := by
      unfold szR at hs; split at hs
      · omega
      · split at hs <;> omega
    have H1 := fun w' => sIsValidRecord_c c r w' hcr.1 hcr.2
    have H2 := fun w' => IsValidRecord_c c r w' hcr.1 hcr.2
    unfold recV at *
    go_enter Try.func13, Try.ntmps13
    go_wp2_with fail
    refine (HZ _).mono ?_
    rintro e w1 ⟨rfl, hb1⟩
    have q0 := (box_after hb1).1 0 _ rfl
    have q1 := (box_after hb1).1 1 _ rfl
    have hb2 := Below.chain hb0 hb1
    clear hb0 hb1
    go_wp2_with fail
    refine (HT _).mono ?_
    rintro e w2 ⟨rfl, hb3⟩
    have r0 := cell_later hb3 q0
    have r1 := cell_later hb3 q1
    have hb4 := Below.chain hb2 hb3
    clear hb2 hb3 q0 q1
    go_wp2_with fail
    refine (H1 _).mono ?_
    rintro e w3 ⟨rfl, hb3⟩
    have q0 := cell_later hb3 r0
    have q1 := cell_later hb3 r1
    have hb5 := Below.chain hb4 hb3
    clear hb4 hb3 r0 r1
    go_wp2_with fail
    refine (HT _).mono ?_
    rintro e w4 ⟨rfl, hb3⟩
    have hb6 := Below.chain hb5 hb3
    clear hb5 hb3 q0 q1
    go_wp2_with fail
    refine (H2 _).mono ?_
    rintro e w5 ⟨rfl, hb3⟩
    have hb7 := Below.chain hb6 hb3
    have hqq : (recB c r != recB c r) = false := by simp
    go_wp2
    go_ret
    exact ⟨rfl, hb7⟩
end Go.Proofs.Ytahpknjligaliaa
