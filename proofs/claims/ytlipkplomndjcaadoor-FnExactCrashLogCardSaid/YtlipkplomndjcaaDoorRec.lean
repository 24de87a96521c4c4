/- Walks of IsValidRecord, both texts, and of the laws' copies of a record. -/
import Derived.Test.YtlipkplomndjcaaDoorStr
namespace Go.Proofs.YtlipkplomndjcaaDoor
open Go.RowKit
set_option linter.unusedVariables false
set_option maxRecDepth 100000
theorem empty_size (c : ByteArray) : c.toList.isEmpty = decide (c.size = 0) := by
  rw [Lib.toList_data, Lib.size_eq]
  cases c.data.toList <;> simp
def recV (c r : ByteArray) : Value := .agg #[.string c, .string r]
theorem IsValidRecord_c (c r : ByteArray) (w : World) (hc : c.size ≤ 1073741824) (hr : r.size ≤ 1073741824) : Calls Tryd.prog 20 #[recV c r] w fun e w' => e = .returned (.bool (recB c r)) ∧ Below w.heap.size w w' := by
  unfold recV
  rcases h1 : cmdB c with _ | _
  · have H1 := Lib.hid h1
    have HF := Lib.hid (show recB c r = false by unfold recB; rw [h1]; rfl); clear h1
    go_enter Tryd.func20, Tryd.ntmps20
    go_wp2_with fail
    refine (isCommand_c _ _ hc).mono ?_
    rintro e w2 ⟨rfl, rfl⟩
    rw [H1.out]
    go_wp2
    go_ret
    exact ⟨by rw [HF.out]; rfl, by (repeat (first | exact Below.refl _ _ | exact (Below.refl _ _).drew | assumption | exact below_one _ | refine Below.chain ?_ (by assumption) | refine Below.drew ?_ | refine Below.alc ?_ _ | refine below_drewN ?_ | (refine Below.setCell ?_ ?_ _) | exact Nat.le_refl _ | (simp; done) | (simp; omega)))⟩
  · rcases h2 : decide ((r.size : Int) ≤ 250) with _ | _
    · have H1 := Lib.hid h1
      have HF := Lib.hid (show recB c r = false by unfold recB; rw [h1, h2]; rfl); clear h1
      go_enter Tryd.func20, Tryd.ntmps20
      go_wp2_with fail
      refine (isCommand_c _ _ hc).mono ?_
      rintro e w2 ⟨rfl, rfl⟩
      rw [H1.out]
      go_wp2
      go_ret
      exact ⟨by rw [HF.out]; rfl, by (repeat (first | exact Below.refl _ _ | exact (Below.refl _ _).drew | assumption | exact below_one _ | refine Below.chain ?_ (by assumption) | refine Below.drew ?_ | refine Below.alc ?_ _ | refine below_drewN ?_ | (refine Below.setCell ?_ ?_ _) | exact Nat.le_refl _ | (simp; done) | (simp; omega)))⟩
    · have H1 := Lib.hid h1
      have HF := Lib.hid (show recB c r = printB r by unfold recB; rw [h1, h2]; rfl); clear h1
      go_enter Tryd.func20, Tryd.ntmps20
      go_wp2_with fail
      refine (isCommand_c _ _ hc).mono ?_
      rintro e w2 ⟨rfl, rfl⟩
      rw [H1.out]
      go_wp2_with fail
      refine (isPrinted_c _ _ hr).mono ?_
      rintro e w2 ⟨rfl, rfl⟩
      go_wp2
      go_ret
      exact ⟨by rw [HF.out]; rfl, by (repeat (first | exact Below.refl _ _ | exact (Below.refl _ _).drew | assumption | exact below_one _ | refine Below.chain ?_ (by assumption) | refine Below.drew ?_ | refine Below.alc ?_ _ | refine below_drewN ?_ | (refine Below.setCell ?_ ?_ _) | exact Nat.le_refl _ | (simp; done) | (simp; omega)))⟩
theorem l12Record_c (c r : ByteArray) (w : World) (hc : c.size ≤ 1073741824) (hr : r.size ≤ 1073741824) : Calls Tryd.prog 40 #[recV c r] w fun e w' => e = .returned (.bool (recB c r)) ∧ Below w.heap.size w w' := by
  unfold recV
  rcases h0 : decide (c.size = 0) with _ | _
  · have he : c.toList.isEmpty = false := by rw [empty_size, h0]
    have hsz : 1 ≤ c.size := by have := of_decide_eq_false h0; omega
    have hcb : cmdB c = ((printB c && decide ((c.size : Int) ≤ 160)) && !standsB c 64) := by
      unfold cmdB inB
      rw [decide_eq_true (show (1 : Int) ≤ (c.size : Int) by omega)]
      cases decide ((c.size : Int) ≤ 160) <;> cases printB c <;> cases standsB c 64 <;> rfl
    clear h0
    rcases h1 : (printB c && decide ((c.size : Int) ≤ 160)) with _ | _
    · have H1 := Lib.hid h1
      have HF := Lib.hid (show recB c r = false by unfold recB; rw [hcb, h1]; rfl); clear h1 hcb
      go_enter Tryd.func40, Tryd.ntmps40
      go_wp2_with fail
      refine (l12Bytes_c _ _ _ hc).mono ?_
      rintro e w2 ⟨rfl, rfl⟩
      rw [H1.out]
      go_wp2
      go_ret
      exact ⟨by rw [HF.out]; rfl, by (repeat (first | exact Below.refl _ _ | exact (Below.refl _ _).drew | assumption | exact below_one _ | refine Below.chain ?_ (by assumption) | refine Below.drew ?_ | refine Below.alc ?_ _ | refine below_drewN ?_ | (refine Below.setCell ?_ ?_ _) | exact Nat.le_refl _ | (simp; done) | (simp; omega)))⟩
    · rcases h2 : standsB c 64 with _ | _
      · have H1 := Lib.hid h1; have H2 := Lib.hid h2
        have HF := Lib.hid (show recB c r = (printB r && decide ((r.size : Int) ≤ 250)) by unfold recB; rw [hcb, h1, h2]; cases decide ((r.size : Int) ≤ 250) <;> cases printB r <;> rfl); clear h1 h2 hcb
        go_enter Tryd.func40, Tryd.ntmps40
        go_wp2_with fail
        refine (l12Bytes_c _ _ _ hc).mono ?_
        rintro e w2 ⟨rfl, rfl⟩
        rw [H1.out]
        go_wp2_with fail
        refine (l1Stands_c _ 64 _ hc).mono ?_
        rintro e w2 ⟨rfl, rfl⟩
        rw [H2.out]
        go_wp2_with fail
        refine (l12Bytes_c _ _ _ hr).mono ?_
        rintro e w2 ⟨rfl, rfl⟩
        go_wp2
        go_ret
        exact ⟨by rw [HF.out]; rfl, by (repeat (first | exact Below.refl _ _ | exact (Below.refl _ _).drew | assumption | exact below_one _ | refine Below.chain ?_ (by assumption) | refine Below.drew ?_ | refine Below.alc ?_ _ | refine below_drewN ?_ | (refine Below.setCell ?_ ?_ _) | exact Nat.le_refl _ | (simp; done) | (simp; omega)))⟩
      · have H1 := Lib.hid h1; have H2 := Lib.hid h2
        have HF := Lib.hid (show recB c r = false by unfold recB; rw [hcb, h1, h2]; rfl); clear h1 h2 hcb
        go_enter Tryd.func40, Tryd.ntmps40
        go_wp2_with fail
        refine (l12Bytes_c _ _ _ hc).mono ?_
        rintro e w2 ⟨rfl, rfl⟩
        rw [H1.out]
        go_wp2_with fail
        refine (l1Stands_c _ 64 _ hc).mono ?_
        rintro e w2 ⟨rfl, rfl⟩
        rw [H2.out]
        go_wp2
        go_ret
        exact ⟨by rw [HF.out]; rfl, by (repeat (first | exact Below.refl _ _ | exact (Below.refl _ _).drew | assumption | exact below_one _ | refine Below.chain ?_ (by assumption) | refine Below.drew ?_ | refine Below.alc ?_ _ | refine below_drewN ?_ | (refine Below.setCell ?_ ?_ _) | exact Nat.le_refl _ | (simp; done) | (simp; omega)))⟩
  · have he : c.toList.isEmpty = true := by rw [empty_size, h0]
    have hsz : c.size = 0 := of_decide_eq_true h0
    have HF := Lib.hid (show recB c r = false by unfold recB cmdB inB; rw [hsz]; rfl)
    clear h0 hsz
    go_enter Tryd.func40, Tryd.ntmps40
    go_wp2
    go_ret
    exact ⟨by rw [HF.out]; rfl, by (repeat (first | exact Below.refl _ _ | exact (Below.refl _ _).drew | assumption | exact below_one _ | refine Below.chain ?_ (by assumption) | refine Below.drew ?_ | refine Below.alc ?_ _ | refine below_drewN ?_ | (refine Below.setCell ?_ ?_ _) | exact Nat.le_refl _ | (simp; done) | (simp; omega)))⟩
theorem sIsValidRecord_c (c r : ByteArray) (w : World) (hc : c.size ≤ 1073741824) (hr : r.size ≤ 1073741824) : Calls Tryd.prog 21 #[recV c r] w fun e w' => e = .returned (.bool (recB c r)) ∧ Below w.heap.size w w' := by
  have HR := Lib.hid (l12Record_c c r (w.alloc (.cells #[.string c, .string r] 33)) hc hr)
  unfold recV at *
  go_enter Tryd.func21, Tryd.ntmps21
  go_wp2_with fail
  refine HR.out.mono ?_
  rintro e w2 ⟨rfl, hb⟩
  go_wp2
  go_ret
  exact ⟨rfl, by (repeat (first | exact Below.refl _ _ | exact (Below.refl _ _).drew | assumption | exact below_one _ | refine Below.chain ?_ (by assumption) | refine Below.drew ?_ | refine Below.alc ?_ _ | refine below_drewN ?_ | (refine Below.setCell ?_ ?_ _) | exact Nat.le_refl _ | (simp; done) | (simp; omega)))⟩
/-- how much is left behind a record -/
def szR (c r : ByteArray) (k : Int) : Int := if k - c.size < 0 then -1 else if k - c.size - r.size < 0 then -1 else k - c.size - r.size
end Go.Proofs.YtlipkplomndjcaaDoor
