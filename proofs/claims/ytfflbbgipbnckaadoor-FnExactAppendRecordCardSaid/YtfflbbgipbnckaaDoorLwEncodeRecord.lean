/- The walk of the law EncodeRecord: for every number and record it returns true and turns nothing that was there. -/
import Derived.Test.YtfflbbgipbnckaaDoorSeal
namespace Go.Proofs.YtfflbbgipbnckaaDoor
open Go.RowKit
set_option linter.unusedVariables false
set_option maxRecDepth 100000
theorem szR_le {c r : ByteArray} (hs : ¬ szR c r 1048576 < 0) : c.size ≤ 1048576 ∧ r.size ≤ 1048576 := by
  unfold szR at hs; split at hs
  · omega
  · split at hs <;> omega
set_option maxHeartbeats 1000000 in
theorem FnExactEncodeRecord_walk (k : Int) (c r : ByteArray) (w : World) (hc : c.size ≤ 9223372036854775807) (hr : r.size ≤ 9223372036854775807) (ht : Tab w) : Calls Tryd.prog 3 #[.int .i64 k, recV c r] w fun e w' => e = .returned (.bool true) ∧ Below w.heap.size w w' := by
  have hb0 := below_one (w := w) (.cells #[.string c, .string r] 23)
  have HZ := fun w' => szLogRecord_c c r 1048576 w' (by omega) (by omega) hc hr
  have HT := fun w' => toLogRecord_c c r w'
  by_cases hs : szR c r 1048576 < 0
  · unfold recV at *
    have HS := Lib.hid hs
    clear ht
    go_enter Tryd.func3, Tryd.ntmps3
    go_wp2_with fail
    refine (HZ _).mono ?_
    rintro e w1 ⟨rfl, hb1⟩
    have hb2 := Below.chain hb0 hb1
    go_wp2
    go_ret
    exact ⟨rfl, hb2⟩
  · have hcr := szR_le hs
    have H1 := Lib.hid (fun w' => EncodeRecordS_c k c r w' hcr.1 hcr.2)
    have H2 := Lib.hid (fun w' => EncodeRecord_c k c r w' hcr.1 hcr.2)
    have HTB := Lib.hid ht
    clear ht
    unfold recV at *
    go_enter Tryd.func3, Tryd.ntmps3
    go_wp2_with fail
    refine (HZ _).mono ?_
    rintro e w1 ⟨rfl, hb1⟩
    have q0 := (box_after hb1).1 0 _ rfl
    have q1 := (box_after hb1).1 1 _ rfl
    have hb2 := Below.chain hb0 hb1
    clear hb0 hb1
    go_wp2_with fail
    refine (HT _).mono ?_
    rintro e w2 ⟨rfl, hb3⟩
    have r0 := cell_later hb3 q0
    have r1 := cell_later hb3 q1
    have hb4 := Below.chain hb2 hb3
    clear hb2 hb3 q0 q1
    go_wp2_with fail
    refine (H1.out _).mono ?_
    rintro e w3 ⟨rfl, hb3⟩
    have q0 := cell_later hb3 r0
    have q1 := cell_later hb3 r1
    have hb5 := Below.chain hb4 hb3
    clear hb4 hb3 r0 r1
    go_wp2_with fail
    refine (HT _).mono ?_
    rintro e w4 ⟨rfl, hb3⟩
    have hb6 := Below.chain hb5 hb3
    clear hb5 hb3 q0 q1
    go_wp2_with fail
    refine (H2.out _ (HTB.out.on hb6)).mono ?_
    rintro e w5 ⟨rfl, hb3⟩
    have hb7 := Below.chain hb6 hb3
    generalize bs (encR k c r).1 = X
    generalize (encR k c r).2 = b
    have hqq : (b != b) = false := by simp
    go_wp2
    go_ret
    exact ⟨rfl, hb7⟩
end Go.Proofs.YtfflbbgipbnckaaDoor
