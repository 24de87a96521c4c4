/- The walk of the law CrashLog: for every log, number and mark it returns true and turns nothing that was there. -/
import Derived.Test.YtlipkplomndjcaaDoorCrash
namespace Go.Proofs.YtlipkplomndjcaaDoor
open Go.RowKit
set_option linter.unusedVariables false
set_option linter.unusedSimpArgs false
set_option maxRecDepth 100000
set_option maxHeartbeats 1000000 in
theorem FnExactCrashLog_walk (d p : ByteArray) (n keep : Int) (torn : Bool) (w : World) (hd : d.size ≤ 9223372036854775807) (hp : p.size ≤ 9223372036854775807) (ht : Tab w) : Calls Tryd.prog 3 #[logV d p n, .int .i64 keep, .bool torn] w fun e w' => e = .returned (.bool true) ∧ Below w.heap.size w w' := by
  have hb0 := Lib.hid (below_one (w := w) (.cells #[.string d, .string p, .int .i64 n] 23))
  have B0 := Lib.hid (Bk.new w 23 #[.string d, .string p, .int .i64 n])
  have HZ := Lib.hid (fun w' => szLog_c d p n 1048576 w' (by omega) (by omega) hd hp)
  have HT := Lib.hid (fun w' => toLog_c d p n w')
  have HTB := Lib.hid ht
  clear ht
  by_cases hs : szL d p 1048576 < 0
  · unfold logV at *
    go_enter Tryd.func3, Tryd.ntmps3
    go_wp2_with fail
    refine (HZ.out _).mono ?_
    rintro e w1 ⟨rfl, hb1⟩
    go_wp2
    go_ret
    exact ⟨rfl, Below.chain hb0.out hb1⟩
  · have hcr := szL_le hs
    have H1 := Lib.hid (fun w' => CrashLogS_c d p n keep torn w' hcr.1 hcr.2)
    have H2 := Lib.hid (fun w' => CrashLog_c d p n keep torn w' hcr.1 hcr.2)
    unfold logV at *
    go_enter Tryd.func3, Tryd.ntmps3
    go_wp2_with fail
    refine (HZ.out _).mono ?_
    rintro e w1 ⟨rfl, hb1⟩
    have B1 := B0.out.below hb1
    have q0 : w1.cell? ⟨w.heap.size, 0, none⟩ = some (.string d) := B1.cell 0
    have q1 : w1.cell? ⟨w.heap.size, 1, none⟩ = some (.string p) := B1.cell 1
    have q2 : w1.cell? ⟨w.heap.size, 2, none⟩ = some (.int .i64 n) := B1.cell 2
    have HB := Lib.hid (Below.chain hb0.out hb1)
    clear hb1 B1
    go_wp2_with fail
    refine (HT.out _).mono ?_
    rintro e w2 ⟨rfl, hb3⟩
    have r0 := cell_later hb3 q0
    have r1 := cell_later hb3 q1
    have r2 := cell_later hb3 q2
    have HB2 := Lib.hid (Below.chain HB.out hb3)
    clear hb3 q0 q1 q2 HB
    go_wp2_with fail
    refine (H1.out _).mono ?_
    rintro e w3 ⟨ok1, rfl, hi1, hb3⟩
    have q0 := cell_later hb3 r0
    have q1 := cell_later hb3 r1
    have q2 := cell_later hb3 r2
    have HB := Lib.hid (Below.chain HB2.out hb3)
    have HI1 := Lib.hid hi1
    clear hb3 r0 r1 r2 HB2 hi1
    obtain ⟨t, hte⟩ : ∃ t, t = (if ok1 = true then crashT d p keep.toNat torn else ⟨#[]⟩) := ⟨_, rfl⟩
    rw [← hte]
    have HTE := Lib.hid hte
    clear hte
    have hst := str_eq (rfl : t = t)
    go_wp2_with fail
    refine (HT.out _).mono ?_
    rintro e w4 ⟨rfl, hb3⟩
    have HB2 := Lib.hid (Below.chain HB.out hb3)
    clear hb3 q0 q1 q2 HB
    go_wp2_with fail
    refine (H2.out _ (HTB.out.on HB2.out)).mono ?_
    rintro e w5 ⟨ok2, rfl, hi2, hb3⟩
    obtain rfl : ok1 = ok2 := ok_same HI1.out hi2
    rw [← HTE.out]
    clear HTE
    have HB := Lib.hid (Below.chain HB2.out hb3)
    clear hb3 HB2 hi2 HI1
    cases ok1 with
    | false =>
      go_wp2
      go_ret
      exact ⟨rfl, HB.out⟩
    | true =>
      go_wp2
      go_ret
      exact ⟨rfl, HB.out⟩
end Go.Proofs.YtlipkplomndjcaaDoor
