/- Walks of the functions on the bytes of a record. -/
import Derived.Test.YtlipkplomndjcaaDoorBase
import Derived.Test.YtlipkplomndjcaaDoorBox
import Derived.Test.YtlipkplomndjcaaDoorShelf
import Derived.Lib.IndexAny
namespace Go.Proofs.YtlipkplomndjcaaDoor
open Go.RowKit
set_option linter.unusedVariables false
set_option maxRecDepth 100000
/-- a byte that may stand in a record -/
def prB (c : UInt8) : Bool := inB (c.toNat : Int) 32 126 && !(c.toNat == 35)
def printB (s : ByteArray) : Bool := s.data.toList.all prB
theorem printB_bad {s : ByteArray} {k : Nat} (hk : k < s.size) (h : prB s[k] = false) : printB s = false := by
  unfold printB
  rw [Bool.eq_false_iff]; intro h2
  rw [List.all_eq_true] at h2
  have := h2 s[k] (by
    have : s.data.toList[k]? = some s[k] := by simp [hk]; rfl
    exact List.mem_of_getElem? this)
  rw [this] at h; cases h
theorem printB_ok {s : ByteArray} (h : ∀ j (hj : j < s.size), prB s[j] = true) : printB s = true := by
  unfold printB
  rw [List.all_eq_true]
  intro c hc
  obtain ⟨j, hj, rfl⟩ := List.getElem_of_mem hc
  exact h j (by simpa using hj)
theorem byte_lt (c : UInt8) : c.toNat < 256 := c.toNat_lt
theorem isPrinted_c (s : ByteArray) (w : World) (hs : s.size ≤ 1073741824) : Calls Tryd.prog 46 #[.string s] w fun e w' => e = .returned (.bool (printB s)) ∧ w = w' := by
  go_enter Tryd.func46, Tryd.ntmps46
  go_wp2
  go_loopw [6] (fun j wr => ∃ k : Nat, k ≤ s.size ∧ j = .int .i64 (k : Int) ∧ Hid (∀ j (hj : j < s.size), j < k → prB s[j] = true) ∧ w = wr) (fun j _ => s.size - (intOf j).toNat)
  case atStart => exact ⟨0, by omega, rfl, fun j hj h => by omega, rfl⟩
  case round =>
    obtain ⟨k, hk, rfl, hbef, rfl⟩ := hrel
    by_cases hlt : k < s.size
    · have hd : decide ((k : Int) < (s.size : Int)) = true := by simp; omega
      have hbl := byte_lt s[k]
      have hw : wrap64 ((s[k].toNat : Nat) : Int) = ((s[k].toNat : Nat) : Int) := by simp only [wrap64]; omega
      have hpr : prB s[k] = (inB (s[k].toNat : Int) 32 126 && !(s[k].toNat == 35)) := rfl
      have HB := Lib.hid (fun h => printB_bad (s := s) hlt h)
      have HE : Hid (prB s[k] = true → ∀ j (hj : j < s.size), j < k + 1 → prB s[j] = true) := fun h j hj hjk => by
        by_cases hj2 : j < k
        · exact hbef.out j hj hj2
        · obtain rfl : j = k := by omega
          exact h
      clear hbef
      generalize hc : s[k] = c at *
      generalize hn : c.toNat = n at *
      go_wp2_with fail
      refine (within_c _ _ _ _).mono ?_
      rintro e w2 ⟨rfl, rfl⟩
      rcases hq : inB (n : Int) 32 126 with _ | _
      · have HF := Lib.hid (HB.out (by rw [hpr, hq]; rfl))
        clear HB HE hpr
        go_wp2
        go_ret
        exact ⟨by rw [HF.out]; rfl, rfl⟩
      · rcases hq2 : n == 35 with _ | _
        · have HF := Lib.hid (HE.out (by rw [hpr, hq, hq2]; rfl))
          have h35 : ((n : Int) == 35) = false := by simp at hq2 ⊢; omega
          clear HB HE hpr
          go_wp2
          go_roundw
          case rel => exact ⟨k + 1, by omega, by go_num, HF.out, by trivial⟩
          case measure => simp [intOf]; omega
        · have HF := Lib.hid (HB.out (by rw [hpr, hq, hq2]; rfl))
          have h35 : ((n : Int) == 35) = true := by simp at hq2 ⊢; omega
          clear HB HE hpr
          go_wp2
          go_ret
          exact ⟨by rw [HF.out]; rfl, rfl⟩
    · obtain rfl : k = s.size := by omega
      go_wp2
      go_ret
      exact ⟨bool_ret (printB_ok fun j hj => hbef.out j hj hj).symm, rfl⟩
theorem l12Bytes_c (s : ByteArray) (m : Int) (w : World) (hs : s.size ≤ 1073741824) : Calls Tryd.prog 56 #[.string s, .int .i64 m] w fun e w' => e = .returned (.bool (printB s && decide ((s.size : Int) ≤ m))) ∧ w = w' := by
  go_enter Tryd.func56, Tryd.ntmps56
  go_wp2
  go_loopw [5] (fun j wr => ∃ k : Nat, k ≤ s.size ∧ j = .int .i64 (k : Int) ∧ Hid (∀ j (hj : j < s.size), j < k → prB s[j] = true) ∧ w = wr) (fun j _ => s.size - (intOf j).toNat)
  case atStart => exact ⟨0, by omega, rfl, fun j hj h => by omega, rfl⟩
  case round =>
    obtain ⟨k, hk, rfl, hbef, rfl⟩ := hrel
    by_cases hlt : k < s.size
    · have hd : decide ((k : Int) < (s.size : Int)) = true := by simp; omega
      have hbl := byte_lt s[k]
      have hw : wrap64 ((s[k].toNat : Nat) : Int) = ((s[k].toNat : Nat) : Int) := by simp only [wrap64]; omega
      have hpr : prB s[k] = (inB (s[k].toNat : Int) 32 126 && !(s[k].toNat == 35)) := rfl
      have HB := Lib.hid (fun h => printB_bad (s := s) hlt h)
      have HE : Hid (prB s[k] = true → ∀ j (hj : j < s.size), j < k + 1 → prB s[j] = true) := fun h j hj hjk => by
        by_cases hj2 : j < k
        · exact hbef.out j hj hj2
        · obtain rfl : j = k := by omega
          exact h
      clear hbef
      generalize hc : s[k] = c at *
      generalize hn : c.toNat = n at *
      go_wp2_with fail
      refine (l1In_c _ _ _ _).mono ?_
      rintro e w2 ⟨rfl, rfl⟩
      rcases hq : inB (n : Int) 32 126 with _ | _
      · have HF := Lib.hid (HB.out (by rw [hpr, hq]; rfl))
        clear HB HE hpr
        go_wp2
        go_ret
        exact ⟨by rw [HF.out]; rfl, rfl⟩
      · rcases hq2 : n == 35 with _ | _
        · have HF := Lib.hid (HE.out (by rw [hpr, hq, hq2]; rfl))
          have h35 : ((n : Int) == 35) = false := by simp at hq2 ⊢; omega
          clear HB HE hpr
          go_wp2
          go_roundw
          case rel => exact ⟨k + 1, by omega, by go_num, HF.out, by trivial⟩
          case measure => simp [intOf]; omega
        · have HF := Lib.hid (HB.out (by rw [hpr, hq, hq2]; rfl))
          have h35 : ((n : Int) == 35) = true := by simp at hq2 ⊢; omega
          clear HB HE hpr
          go_wp2
          go_ret
          exact ⟨by rw [HF.out]; rfl, rfl⟩
    · obtain rfl : k = s.size := by omega
      go_wp2
      go_ret
      exact ⟨by rw [printB_ok fun j hj => hbef.out j hj hj]; rfl, rfl⟩
/-- a byte stands in a text -/
def standsB (s : ByteArray) (c : UInt8) : Bool := s.data.toList.contains c
theorem l1Stands_c (s : ByteArray) (c : UInt8) (w : World) (hs : s.size ≤ 1073741824) : Calls Tryd.prog 57 #[.string s, .int .u8 (c.toNat : Int)] w fun e w' => e = .returned (.bool (standsB s c)) ∧ w = w' := by
  go_enter Tryd.func57, Tryd.ntmps57
  go_wp2
  go_loopw [5] (fun j wr => ∃ k : Nat, k ≤ s.size ∧ j = .int .i64 (k : Int) ∧ Hid (∀ j (hj : j < s.size), j < k → s[j] ≠ c) ∧ w = wr) (fun j _ => s.size - (intOf j).toNat)
  case atStart => exact ⟨0, by omega, rfl, fun j hj h => by omega, rfl⟩
  case round =>
    obtain ⟨k, hk, rfl, hbef, rfl⟩ := hrel
    by_cases hlt : k < s.size
    · have hd : decide ((k : Int) < (s.size : Int)) = true := by simp; omega
      by_cases hq : s[k] = c
      · have h1 : decide (((s[k].toNat : Nat) : Int) = ((c.toNat : Nat) : Int)) = true := by rw [hq]; simp
        have h2 : (((s[k].toNat : Nat) : Int) == ((c.toNat : Nat) : Int)) = true := by rw [hq]; simp
        have hF : standsB s c = true := by
          unfold standsB
          rw [List.contains_iff_mem, ← hq]
          have : s.data.toList[k]? = some s[k] := by simp [hlt]; rfl
          exact List.mem_of_getElem? this
        have HF := Lib.hid hF; have HQ := Lib.hid hq; clear hF hq
        go_wp2
        go_ret
        exact ⟨by rw [HF.out]; rfl, rfl⟩
      · have hne : s[k].toNat ≠ c.toNat := fun h => hq (UInt8.toNat_inj.1 h)
        have h1 : decide (((s[k].toNat : Nat) : Int) = ((c.toNat : Nat) : Int)) = false := by simp; omega
        have h2 : (((s[k].toNat : Nat) : Int) == ((c.toNat : Nat) : Int)) = false := by simp; omega
        have HN : Hid (∀ j (hj : j < s.size), j < k + 1 → s[j] ≠ c) := fun j hj hjk => by
          by_cases hj2 : j < k
          · exact hbef.out j hj hj2
          · obtain rfl : j = k := by omega
            exact hq
        clear hq hbef hne
        go_wp2
        go_roundw
        case rel => exact ⟨k + 1, by omega, by go_num, HN, by trivial⟩
        case measure => simp [intOf]; omega
    · obtain rfl : k = s.size := by omega
      have hF : standsB s c = false := by
        unfold standsB
        rw [Bool.eq_false_iff]; intro h
        rw [List.contains_iff_mem] at h
        obtain ⟨j, hj, e⟩ := List.getElem_of_mem h
        exact hbef.out j (by simpa using hj) (by simpa using hj) e
      have HF := Lib.hid hF; clear hF
      go_wp2
      go_ret
      exact ⟨by rw [HF.out]; rfl, rfl⟩
def cmdB (c : ByteArray) : Bool := inB (c.size : Int) 1 160 && (printB c && !standsB c 64)
def recB (c r : ByteArray) : Bool := cmdB c && (decide ((r.size : Int) ≤ 250) && printB r)
theorem Contains_c (s : ByteArray) (c : UInt8) (w : World) : Calls Tryd.prog 53 #[.string s, .string ⟨#[c]⟩] w fun e w' => e = .returned (.bool (standsB s c)) ∧ w = w' :=
  (Tryd.strings_Contains_one s c w).mono fun e w' h => ⟨by rw [h.1]; unfold standsB; rw [Lib.contains_iff_indexByte], h.2.symm⟩
theorem isCommand_c (s : ByteArray) (w : World) (hs : s.size ≤ 1073741824) : Calls Tryd.prog 45 #[.string s] w fun e w' => e = .returned (.bool (cmdB s)) ∧ w = w' := by
  rcases h1 : inB (s.size : Int) 1 160 with _ | _
  · have H1 := Lib.hid h1
    have HF := Lib.hid (show cmdB s = false by unfold cmdB; rw [h1]; rfl); clear h1
    go_enter Tryd.func45, Tryd.ntmps45
    go_wp2_with fail
    refine (within_c _ _ _ _).mono ?_
    rintro e w2 ⟨rfl, rfl⟩
    rw [H1.out]
    go_wp2
    go_ret
    exact ⟨by rw [HF.out]; rfl, rfl⟩
  · rcases h2 : printB s with _ | _
    · have H1 := Lib.hid h1; have H2 := Lib.hid h2
      have HF := Lib.hid (show cmdB s = false by unfold cmdB; rw [h1, h2]; rfl); clear h1 h2
      go_enter Tryd.func45, Tryd.ntmps45
      go_wp2_with fail
      refine (within_c _ _ _ _).mono ?_
      rintro e w2 ⟨rfl, rfl⟩
      rw [H1.out]
      go_wp2_with fail
      refine (isPrinted_c s _ hs).mono ?_
      rintro e w2 ⟨rfl, rfl⟩
      rw [H2.out]
      go_wp2
      go_ret
      exact ⟨by rw [HF.out]; rfl, rfl⟩
    · have H1 := Lib.hid h1; have H2 := Lib.hid h2
      have HF := Lib.hid (show cmdB s = !standsB s 64 by unfold cmdB; rw [h1, h2]; rfl); clear h1 h2
      go_enter Tryd.func45, Tryd.ntmps45
      go_wp2_with fail
      refine (within_c _ _ _ _).mono ?_
      rintro e w2 ⟨rfl, rfl⟩
      rw [H1.out]
      go_wp2_with fail
      refine (isPrinted_c s _ hs).mono ?_
      rintro e w2 ⟨rfl, rfl⟩
      rw [H2.out]
      go_wp2_with fail
      refine (Contains_c s 64 _).mono ?_
      rintro e w2 ⟨rfl, rfl⟩
      go_wp2
      go_ret
      exact ⟨by rw [HF.out]; rfl, rfl⟩
end Go.Proofs.YtlipkplomndjcaaDoor
