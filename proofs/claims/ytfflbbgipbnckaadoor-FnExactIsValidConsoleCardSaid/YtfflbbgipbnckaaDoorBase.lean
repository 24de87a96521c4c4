/- Walks of the small functions on cells, digits and faults: each returns what its plain function says. -/
import Derived.Test.YtfflbbgipbnckaaDoorProg
import Derived.Test.YtfflbbgipbnckaaDoorLib
import Derived.Test.YtfflbbgipbnckaaDoorPure
namespace Go.Proofs.YtfflbbgipbnckaaDoor
open Go.RowKit
set_option linter.unusedVariables false

theorem within_c (n lo hi : Int) (w : World) : Calls Tryd.prog 40 #[.int .i64 n, .int .i64 lo, .int .i64 hi] w fun e w' => e = .returned (.bool (inB n lo hi)) ∧ w = w' := by
  go_enter Tryd.func40, Tryd.ntmps40
  go_wp2
  all_goals (go_ret; exact ⟨bool_ret (by simp [inB, *]; try omega), rfl⟩)
theorem l1In_c (n lo hi : Int) (w : World) : Calls Tryd.prog 37 #[.int .i64 n, .int .i64 lo, .int .i64 hi] w fun e w' => e = .returned (.bool (inB n lo hi)) ∧ w = w' := by
  go_enter Tryd.func37, Tryd.ntmps37
  go_wp2
  all_goals (go_ret; exact ⟨bool_ret (by simp [inB, *]; try omega), rfl⟩)
theorem IsCell_c (c : Int) (w : World) : Calls Tryd.prog 85 #[.int .i64 c] w fun e w' => e = .returned (.bool (cellB c)) ∧ w = w' := by
  go_enter Tryd.func85, Tryd.ntmps85
  go_wp2_with (go_at_call 40; refine (within_c _ _ _ _).mono ?_; rintro e w' ⟨rfl, rfl⟩)
  go_ret; exact ⟨rfl, rfl⟩
theorem l2Cell_c (c : Int) (w : World) : Calls Tryd.prog 67 #[.int .i64 c] w fun e w' => e = .returned (.bool (cellB c)) ∧ w = w' := by
  go_enter Tryd.func67, Tryd.ntmps67
  go_wp2_with (go_at_call 37; refine (l1In_c _ _ _ _).mono ?_; rintro e w' ⟨rfl, rfl⟩)
  go_ret; exact ⟨rfl, rfl⟩

/-- the ten cells as a value -/
def digA : Value := .agg #[.int .i64 63, .int .i64 6, .int .i64 91, .int .i64 79, .int .i64 102, .int .i64 109, .int .i64 125, .int .i64 7, .int .i64 127, .int .i64 111]
theorem IsFault_c (d l : Int) (w : World) : Calls Tryd.prog 74 #[.agg #[.int .i64 d, .int .i64 l]] w fun e w' => e = .returned (.bool (faultB d l)) ∧ Below w.heap.size w w' := by
  by_cases hd : cellB d = true
  · by_cases hl : cellB l = true
    · have hd2 := cellB_true hd; have hl2 := cellB_true hl
      have HA := Lib.hid (andC_i64 hd2.1 hd2.2 hl2.1 hl2.2)
      go_enter Tryd.func74, Tryd.ntmps74
      go_wp2_with (go_at_call 85; refine (IsCell_c _ _).mono ?_; rintro e w' ⟨rfl, rfl⟩)
      go_ret
      exact ⟨bool_ret (by rw [HA.out]; simp [faultB, hd, hl]), below_one _⟩
    · have hl : cellB l = false := by simpa using hl
      go_enter Tryd.func74, Tryd.ntmps74
      go_wp2_with (go_at_call 85; refine (IsCell_c _ _).mono ?_; rintro e w' ⟨rfl, rfl⟩)
      go_ret
      exact ⟨bool_ret (by simp [faultB, hl]), below_one _⟩
  · have hd : cellB d = false := by simpa using hd
    go_enter Tryd.func74, Tryd.ntmps74
    go_wp2_with (go_at_call 85; refine (IsCell_c _ _).mono ?_; rintro e w' ⟨rfl, rfl⟩)
    go_ret
    exact ⟨bool_ret (by simp [faultB, hd]), below_one _⟩
theorem l3Fault_c (d l : Int) (w : World) : Calls Tryd.prog 68 #[.agg #[.int .i64 d, .int .i64 l]] w fun e w' => e = .returned (.bool (faultB d l)) ∧ Below w.heap.size w w' := by
  by_cases hd : cellB d = true
  · by_cases hl : cellB l = true
    · have hd2 := cellB_true hd; have hl2 := cellB_true hl
      have HA := Lib.hid (andC_i64 hd2.1 hd2.2 hl2.1 hl2.2)
      go_enter Tryd.func68, Tryd.ntmps68
      go_wp2_with (go_at_call 67; refine (l2Cell_c _ _).mono ?_; rintro e w' ⟨rfl, rfl⟩)
      go_ret
      exact ⟨bool_ret (by rw [HA.out]; simp [faultB, hd, hl]), below_one _⟩
    · have hl : cellB l = false := by simpa using hl
      go_enter Tryd.func68, Tryd.ntmps68
      go_wp2_with (go_at_call 67; refine (l2Cell_c _ _).mono ?_; rintro e w' ⟨rfl, rfl⟩)
      go_ret
      exact ⟨bool_ret (by simp [faultB, hl]), below_one _⟩
  · have hd : cellB d = false := by simpa using hd
    go_enter Tryd.func68, Tryd.ntmps68
    go_wp2_with (go_at_call 67; refine (l2Cell_c _ _).mono ?_; rintro e w' ⟨rfl, rfl⟩)
    go_ret
    exact ⟨bool_ret (by simp [faultB, hd]), below_one _⟩
end Go.Proofs.YtfflbbgipbnckaaDoor
