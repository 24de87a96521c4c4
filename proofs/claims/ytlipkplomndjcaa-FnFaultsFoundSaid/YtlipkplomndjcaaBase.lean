/- Walks of the small functions on cells, digits and faults: each returns what its plain function says. -/
import Derived.Test.YtlipkplomndjcaaProg
import Derived.Test.YtlipkplomndjcaaLib
import Derived.Test.YtlipkplomndjcaaPure
namespace Go.Proofs.Ytlipkplomndjcaa
open Go.RowKit
set_option linter.unusedVariables false

theorem within_c (n lo hi : Int) (w : World) : Calls Try.prog 84 #[.int .i64 n, .int .i64 lo, .int .i64 hi] w fun e w' => e = .returned (.bool (inB n lo hi)) ∧ w = w' := by
  go_enter Try.func84, Try.ntmps84
  go_wp2
  all_goals (go_ret; exact ⟨bool_ret (by simp [inB, *]; try omega), rfl⟩)
theorem l1In_c (n lo hi : Int) (w : World) : Calls Try.prog 112 #[.int .i64 n, .int .i64 lo, .int .i64 hi] w fun e w' => e = .returned (.bool (inB n lo hi)) ∧ w = w' := by
  go_enter Try.func112, Try.ntmps112
  go_wp2
  all_goals (go_ret; exact ⟨bool_ret (by simp [inB, *]; try omega), rfl⟩)
theorem IsCell_c (c : Int) (w : World) : Calls Try.prog 34 #[.int .i64 c] w fun e w' => e = .returned (.bool (cellB c)) ∧ w = w' := by
  go_enter Try.func34, Try.ntmps34
  go_wp2_with (go_at_call 84; refine (within_c _ _ _ _).mono ?_; rintro e w' ⟨rfl, rfl⟩)
  go_ret; exact ⟨rfl, rfl⟩
theorem l2Cell_c (c : Int) (w : World) : Calls Try.prog 102 #[.int .i64 c] w fun e w' => e = .returned (.bool (cellB c)) ∧ w = w' := by
  go_enter Try.func102, Try.ntmps102
  go_wp2_with (go_at_call 112; refine (l1In_c _ _ _ _).mono ?_; rintro e w' ⟨rfl, rfl⟩)
  go_ret; exact ⟨rfl, rfl⟩
theorem isDigit_c (c : Int) (w : World) : Calls Try.prog 86 #[.int .i64 c] w fun e w' => e = .returned (.bool (digitB c)) ∧ w = w' := by
  go_enter Try.func86, Try.ntmps86
  go_wp2_with (go_at_call 84; refine (within_c _ _ _ _).mono ?_; rintro e w' ⟨rfl, rfl⟩)
  go_ret; exact ⟨rfl, rfl⟩

/-- the ten cells as a value -/
def digA : Value := .agg #[.int .i64 63, .int .i64 6, .int .i64 91, .int .i64 79, .int .i64 102, .int .i64 109, .int .i64 125, .int .i64 7, .int .i64 127, .int .i64 111]
theorem digitCells_c (w : World) : Calls Try.prog 87 #[] w fun e w' => e = .returned digA ∧ Below w.heap.size w w' := by
  go_enter Try.func87, Try.ntmps87
  go_wp2
  exact bodyPost_ret (v := digA) (by simp [results, Try.results87, go_sem, digA]) rfl ⟨rfl, below_one _⟩
theorem index_dig0 (w : World) : (Instr.index 96 digA (.int .i64 0)).run Try.prog w = .ok (.int .i64 63) w := by kernel_rfl
theorem index_dig1 (w : World) : (Instr.index 96 digA (.int .i64 1)).run Try.prog w = .ok (.int .i64 6) w := by kernel_rfl
theorem index_dig2 (w : World) : (Instr.index 96 digA (.int .i64 2)).run Try.prog w = .ok (.int .i64 91) w := by kernel_rfl
theorem index_dig3 (w : World) : (Instr.index 96 digA (.int .i64 3)).run Try.prog w = .ok (.int .i64 79) w := by kernel_rfl
theorem index_dig4 (w : World) : (Instr.index 96 digA (.int .i64 4)).run Try.prog w = .ok (.int .i64 102) w := by kernel_rfl
theorem index_dig5 (w : World) : (Instr.index 96 digA (.int .i64 5)).run Try.prog w = .ok (.int .i64 109) w := by kernel_rfl
theorem index_dig6 (w : World) : (Instr.index 96 digA (.int .i64 6)).run Try.prog w = .ok (.int .i64 125) w := by kernel_rfl
theorem index_dig7 (w : World) : (Instr.index 96 digA (.int .i64 7)).run Try.prog w = .ok (.int .i64 7) w := by kernel_rfl
theorem index_dig8 (w : World) : (Instr.index 96 digA (.int .i64 8)).run Try.prog w = .ok (.int .i64 127) w := by kernel_rfl
theorem index_dig9 (w : World) : (Instr.index 96 digA (.int .i64 9)).run Try.prog w = .ok (.int .i64 111) w := by kernel_rfl
theorem index_dig (d : Int) (h0 : 0 ≤ d) (h1 : d ≤ 9) (w : World) : (Instr.index 96 digA (.int .i64 d)).run Try.prog w = .ok (.int .i64 (dg d)) w := by
  have h : d = 0 ∨ d = 1 ∨ d = 2 ∨ d = 3 ∨ d = 4 ∨ d = 5 ∨ d = 6 ∨ d = 7 ∨ d = 8 ∨ d = 9 := by omega
  rcases h with rfl | rfl | rfl | rfl | rfl | rfl | rfl | rfl | rfl | rfl
  · exact index_dig0 w
  · exact index_dig1 w
  · exact index_dig2 w
  · exact index_dig3 w
  · exact index_dig4 w
  · exact index_dig5 w
  · exact index_dig6 w
  · exact index_dig7 w
  · exact index_dig8 w
  · exact index_dig9 w
theorem l2Digit_c (d : Int) (h0 : 0 ≤ d) (h1 : d ≤ 9) (w : World) : Calls Try.prog 82 #[.int .i64 d] w fun e w' => e = .returned (.int .i64 (dg d)) ∧ Below w.heap.size w w' := by
  have hc : (w.alloc (.cells (dig.map (Value.int .i64)).toArray 3)).cell? ⟨w.heap.size, d.toNat, none⟩ = some (.int .i64 (dg d)) := by
    rw [World.cell?_alloc_at _ _ _ _ rfl]
    have : d.toNat < dig.length := by simp [dig]; omega
    simp [dg, this]
  simp only [dig, List.map_cons, List.map_nil] at hc
  go_enter Try.func82, Try.ntmps82
  go_wp2
  go_ret
  exact ⟨rfl, below_one _⟩
theorem shown_c (d l c : Int) (d0 : 0 ≤ d) (d1 : d ≤ 127) (l0 : 0 ≤ l) (l1 : l ≤ 127) (c0 : 0 ≤ c) (c1 : c ≤ 127) (w : World) :
    Calls Try.prog 91 #[.agg #[.int .i64 d, .int .i64 l], .int .i64 c] w fun e w' => e = .returned (.int .i64 (shC d l c)) ∧ Below w.heap.size w w' := by
  go_enter Try.func91, Try.ntmps91
  go_wp2
  go_ret
  exact ⟨int_ret (shC_impl d0 d1 l0 l1 c0 c1), below_one _⟩
theorem l3Shown_c (d l c : Int) (d0 : 0 ≤ d) (d1 : d ≤ 127) (l0 : 0 ≤ l) (l1 : l ≤ 127) (c0 : 0 ≤ c) (c1 : c ≤ 127) (w : World) :
    Calls Try.prog 81 #[.agg #[.int .i64 d, .int .i64 l], .int .i64 c] w fun e w' => e = .returned (.int .i64 (shC d l c)) ∧ Below w.heap.size w w' := by
  go_enter Try.func81, Try.ntmps81
  go_wp2
  go_ret
  exact ⟨int_ret (shC_spec d0 d1 l0 l1 c0 c1), below_one _⟩
theorem IsFault_c (d l : Int) (w : World) : Calls Try.prog 32 #[.agg #[.int .i64 d, .int .i64 l]] w fun e w' => e = .returned (.bool (faultB d l)) ∧ Below w.heap.size w w' := by
  by_cases hd : cellB d = true
  · by_cases hl : cellB l = true
    · have hd2 := cellB_true hd; have hl2 := cellB_true hl
      have HA := Lib.hid (andC_i64 hd2.1 hd2.2 hl2.1 hl2.2)
      go_enter Try.func32, Try.ntmps32
      go_wp2_with (go_at_call 34; refine (IsCell_c _ _).mono ?_; rintro e w' ⟨rfl, rfl⟩)
      go_ret
      exact ⟨bool_ret (by rw [HA.out]; simp [faultB, hd, hl]), below_one _⟩
    · have hl : cellB l = false := by simpa using hl
      go_enter Try.func32, Try.ntmps32
      go_wp2_with (go_at_call 34; refine (IsCell_c _ _).mono ?_; rintro e w' ⟨rfl, rfl⟩)
      go_ret
      exact ⟨bool_ret (by simp [faultB, hl]), below_one _⟩
  · have hd : cellB d = false := by simpa using hd
    go_enter Try.func32, Try.ntmps32
    go_wp2_with (go_at_call 34; refine (IsCell_c _ _).mono ?_; rintro e w' ⟨rfl, rfl⟩)
    go_ret
    exact ⟨bool_ret (by simp [faultB, hd]), below_one _⟩
theorem l3Fault_c (d l : Int) (w : World) : Calls Try.prog 93 #[.agg #[.int .i64 d, .int .i64 l]] w fun e w' => e = .returned (.bool (faultB d l)) ∧ Below w.heap.size w w' := by
  by_cases hd : cellB d = true
  · by_cases hl : cellB l = true
    · have hd2 := cellB_true hd; have hl2 := cellB_true hl
      have HA := Lib.hid (andC_i64 hd2.1 hd2.2 hl2.1 hl2.2)
      go_enter Try.func93, Try.ntmps93
      go_wp2_with (go_at_call 102; refine (l2Cell_c _ _).mono ?_; rintro e w' ⟨rfl, rfl⟩)
      go_ret
      exact ⟨bool_ret (by rw [HA.out]; simp [faultB, hd, hl]), below_one _⟩
    · have hl : cellB l = false := by simpa using hl
      go_enter Try.func93, Try.ntmps93
      go_wp2_with (go_at_call 102; refine (l2Cell_c _ _).mono ?_; rintro e w' ⟨rfl, rfl⟩)
      go_ret
      exact ⟨bool_ret (by simp [faultB, hl]), below_one _⟩
  · have hd : cellB d = false := by simpa using hd
    go_enter Try.func93, Try.ntmps93
    go_wp2_with (go_at_call 102; refine (l2Cell_c _ _).mono ?_; rintro e w' ⟨rfl, rfl⟩)
    go_ret
    exact ⟨bool_ret (by simp [faultB, hd]), below_one _⟩
end Go.Proofs.Ytlipkplomndjcaa
