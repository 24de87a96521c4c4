/- The walk of the law IsValidConsole: for every Console it returns true and turns nothing that was there. -/
import Derived.Test.YtfflbbgipbnckaaDoorConsV
import Derived.Test.YtfflbbgipbnckaaDoorLwIsValidLog
namespace Go.Proofs.YtfflbbgipbnckaaDoor
open Go.RowKit
set_option linter.unusedVariables false
set_option linter.unusedSimpArgs false
set_option maxRecDepth 100000
set_option maxHeartbeats 2000000 in
theorem FnExactIsValidConsole_walk (b : List Int) (d p : ByteArray) (n : Int) (w : World) (hb : b.length = 19) (hd : d.size ≤ 9223372036854775807) (hp : p.size ≤ 9223372036854775807) (ht : Tab w) : Calls Tryd.prog 10 #[consV b d p n] w fun e w' => e = .returned (.bool true) ∧ Below w.heap.size w w' := by
  have r0 := range_new w (csC b d p n) 57
  have hb0 := Lib.hid (below_one (w := w) (.cells (csC b d p n).toArray 57))
  have HZ := Lib.hid (fun w' => szConsole_c b d p n w' hb hd hp)
  have HT := Lib.hid (fun w' => toConsole_c b d p n w' hb)
  have HTB := Lib.hid ht
  clear ht
  by_cases hs : szL d p 1048576 < 0
  · unfold consV at *
    go_enter Tryd.func10, Tryd.ntmps10
    go_wp2_with (refine wpList_loadCL rfl _ rfl _ rfl b d p n r0 hb ?_)
    refine (HZ.out _).mono ?_
    rintro e w1 ⟨rfl, hb1⟩
    go_wp2
    go_ret
    exact ⟨rfl, Below.chain hb0.out hb1⟩
  · have hcr := szL_le hs
    have H1 := Lib.hid (fun w' => IsValidConsoleS_c b d p n w' hb hcr.1 hcr.2)
    have H2 := Lib.hid (fun w' => IsValidConsole_c b d p n w' hb hcr.1 hcr.2)
    unfold consV at *
    go_enter Tryd.func10, Tryd.ntmps10
    go_wp2_with (refine wpList_loadCL rfl _ rfl _ rfl b d p n r0 hb ?_)
    refine (HZ.out _).mono ?_
    rintro e w1 ⟨rfl, hb1⟩
    have r1 := range_below r0 hb1
    have HB1 := Lib.hid (Below.chain hb0.out hb1)
    clear hb1 r0 hb0
    go_wp2_with (refine wpList_loadCL rfl _ rfl _ rfl b d p n r1 hb ?_)
    refine (HT.out _).mono ?_
    rintro e w2 ⟨rfl, hb1⟩
    have r2 := range_below r1 hb1
    have HB2 := Lib.hid (Below.chain HB1.out hb1)
    clear hb1 r1 HB1
    go_wp2_with fail
    refine (H1.out _).mono ?_
    rintro e w3 ⟨ok1, rfl, hi1, hb1⟩
    have r3 := range_below r2 hb1
    have HB3 := Lib.hid (Below.chain HB2.out hb1)
    have HI1 := Lib.hid hi1
    clear hb1 r2 HB2 hi1
    go_wp2_with (refine wpList_loadCL rfl _ rfl _ rfl b d p n r3 hb ?_)
    refine (HT.out _).mono ?_
    rintro e w4 ⟨rfl, hb1⟩
    have HB4 := Lib.hid (Below.chain HB3.out hb1)
    clear hb1 r3 HB3
    go_wp2_with fail
    refine (H2.out _ (HTB.out.on HB4.out)).mono ?_
    rintro e w5 ⟨ok2, rfl, hi2, hb1⟩
    obtain rfl := ok_same hi2 HI1.out
    have HB5 := Lib.hid (Below.chain HB4.out hb1)
    clear hb1 HB4 hi2 HI1
    have hqq : (ok2 != ok2) = false := by simp
    go_wp2
    go_ret
    exact ⟨rfl, HB5.out⟩
end Go.Proofs.YtfflbbgipbnckaaDoor
