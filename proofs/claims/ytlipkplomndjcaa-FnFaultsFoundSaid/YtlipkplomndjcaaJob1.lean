/- Cells turned and mirrored: the plain function, and the walks of both texts. -/
import Derived.Test.YtlipkplomndjcaaBench3
namespace Go.Proofs.Ytlipkplomndjcaa
open Go.RowKit
set_option linter.unusedVariables false
set_option maxRecDepth 100000
/-- a cell whose bars stand elsewhere -/
def permC (p : List Nat) (c : Int) : Int := (((List.range 7).foldl (fun o k => o + c.toNat / 2 ^ (p.getD k 0) % 2 * 2 ^ k) 0 : Nat) : Int)
def mvC (t : Bool) (c : Int) : Int := permC (if t then [3, 4, 5, 0, 1, 2, 6] else [0, 5, 4, 3, 2, 1, 6]) c
theorem mvC_all : ∀ n : Fin 128, ∀ t : Bool, 0 ≤ mvC t (n.1 : Int) ∧ mvC t (n.1 : Int) ≤ 127 := by decide +kernel
theorem mvC_bd {c : Int} (t : Bool) (h0 : 0 ≤ c) (h1 : c ≤ 127) : 0 ≤ mvC t c ∧ mvC t c ≤ 127 := by
  obtain ⟨n, rfl⟩ := Int.eq_ofNat_of_zero_le h0
  exact mvC_all ⟨n, by omega⟩ t
theorem index7_0 (x0 x1 x2 x3 x4 x5 x6 : Int) (w : World) : (Instr.index 124 (.agg #[.int .i64 x0, .int .i64 x1, .int .i64 x2, .int .i64 x3, .int .i64 x4, .int .i64 x5, .int .i64 x6]) (.int .i64 0)).run Try.prog w = .ok (.int .i64 x0) w := by kernel_rfl
theorem index7_1 (x0 x1 x2 x3 x4 x5 x6 : Int) (w : World) : (Instr.index 124 (.agg #[.int .i64 x0, .int .i64 x1, .int .i64 x2, .int .i64 x3, .int .i64 x4, .int .i64 x5, .int .i64 x6]) (.int .i64 1)).run Try.prog w = .ok (.int .i64 x1) w := by kernel_rfl
theorem index7_2 (x0 x1 x2 x3 x4 x5 x6 : Int) (w : World) : (Instr.index 124 (.agg #[.int .i64 x0, .int .i64 x1, .int .i64 x2, .int .i64 x3, .int .i64 x4, .int .i64 x5, .int .i64 x6]) (.int .i64 2)).run Try.prog w = .ok (.int .i64 x2) w := by kernel_rfl
theorem index7_3 (x0 x1 x2 x3 x4 x5 x6 : Int) (w : World) : (Instr.index 124 (.agg #[.int .i64 x0, .int .i64 x1, .int .i64 x2, .int .i64 x3, .int .i64 x4, .int .i64 x5, .int .i64 x6]) (.int .i64 3)).run Try.prog w = .ok (.int .i64 x3) w := by kernel_rfl
theorem index7_4 (x0 x1 x2 x3 x4 x5 x6 : Int) (w : World) : (Instr.index 124 (.agg #[.int .i64 x0, .int .i64 x1, .int .i64 x2, .int .i64 x3, .int .i64 x4, .int .i64 x5, .int .i64 x6]) (.int .i64 4)).run Try.prog w = .ok (.int .i64 x4) w := by kernel_rfl
theorem index7_5 (x0 x1 x2 x3 x4 x5 x6 : Int) (w : World) : (Instr.index 124 (.agg #[.int .i64 x0, .int .i64 x1, .int .i64 x2, .int .i64 x3, .int .i64 x4, .int .i64 x5, .int .i64 x6]) (.int .i64 5)).run Try.prog w = .ok (.int .i64 x5) w := by kernel_rfl
theorem index7_6 (x0 x1 x2 x3 x4 x5 x6 : Int) (w : World) : (Instr.index 124 (.agg #[.int .i64 x0, .int .i64 x1, .int .i64 x2, .int .i64 x3, .int .i64 x4, .int .i64 x5, .int .i64 x6]) (.int .i64 6)).run Try.prog w = .ok (.int .i64 x6) w := by kernel_rfl
theorem mvT_i : ∀ n : Nat, n < 128 → (bits BinOp.or IntKind.i64 (bits BinOp.or IntKind.i64 (bits BinOp.or IntKind.i64 (bits BinOp.or IntKind.i64 (bits BinOp.or IntKind.i64 (bits BinOp.or IntKind.i64 (bits BinOp.or IntKind.i64 0 (wrap64 (bits BinOp.and IntKind.i64 (n : Int) 1 * 8))) (wrap64 (bits BinOp.and IntKind.i64 ((n : Int) / 2) 1 * 16))) (wrap64 (bits BinOp.and IntKind.i64 ((n : Int) / 4) 1 * 32))) (wrap64 (bits BinOp.and IntKind.i64 ((n : Int) / 8) 1))) (wrap64 (bits BinOp.and IntKind.i64 ((n : Int) / 16) 1 * 2))) (wrap64 (bits BinOp.and IntKind.i64 ((n : Int) / 32) 1 * 4))) (wrap64 (bits BinOp.and IntKind.i64 ((n : Int) / 64) 1 * 64))) = mvC true (n : Int) := by decide +kernel
theorem mvM_i : ∀ n : Nat, n < 128 → (bits BinOp.or IntKind.i64 (bits BinOp.or IntKind.i64 (bits BinOp.or IntKind.i64 (bits BinOp.or IntKind.i64 (bits BinOp.or IntKind.i64 (bits BinOp.or IntKind.i64 (bits BinOp.or IntKind.i64 0 (wrap64 (bits BinOp.and IntKind.i64 (n : Int) 1))) (wrap64 (bits BinOp.and IntKind.i64 ((n : Int) / 2) 1 * 32))) (wrap64 (bits BinOp.and IntKind.i64 ((n : Int) / 4) 1 * 16))) (wrap64 (bits BinOp.and IntKind.i64 ((n : Int) / 8) 1 * 8))) (wrap64 (bits BinOp.and IntKind.i64 ((n : Int) / 16) 1 * 4))) (wrap64 (bits BinOp.and IntKind.i64 ((n : Int) / 32) 1 * 2))) (wrap64 (bits BinOp.and IntKind.i64 ((n : Int) / 64) 1 * 64))) = mvC false (n : Int) := by decide +kernel
theorem mvT_s : ∀ n : Nat, n < 128 → (bits BinOp.or IntKind.i64 (bits BinOp.or IntKind.i64 (bits BinOp.or IntKind.i64 (bits BinOp.or IntKind.i64 (bits BinOp.or IntKind.i64 (bits BinOp.or IntKind.i64 (bits BinOp.or IntKind.i64 0 (wrap64 (bits BinOp.and IntKind.i64 ((n : Int) / 8) 1))) (wrap64 (bits BinOp.and IntKind.i64 ((n : Int) / 16) 1 * 2))) (wrap64 (bits BinOp.and IntKind.i64 ((n : Int) / 32) 1 * 4))) (wrap64 (bits BinOp.and IntKind.i64 (n : Int) 1 * 8))) (wrap64 (bits BinOp.and IntKind.i64 ((n : Int) / 2) 1 * 16))) (wrap64 (bits BinOp.and IntKind.i64 ((n : Int) / 4) 1 * 32))) (wrap64 (bits BinOp.and IntKind.i64 ((n : Int) / 64) 1 * 64))) = mvC true (n : Int) := by decide +kernel
theorem mvM_s : ∀ n : Nat, n < 128 → (bits BinOp.or IntKind.i64 (bits BinOp.or IntKind.i64 (bits BinOp.or IntKind.i64 (bits BinOp.or IntKind.i64 (bits BinOp.or IntKind.i64 (bits BinOp.or IntKind.i64 (bits BinOp.or IntKind.i64 0 (wrap64 (bits BinOp.and IntKind.i64 (n : Int) 1))) (wrap64 (bits BinOp.and IntKind.i64 ((n : Int) / 32) 1 * 2))) (wrap64 (bits BinOp.and IntKind.i64 ((n : Int) / 16) 1 * 4))) (wrap64 (bits BinOp.and IntKind.i64 ((n : Int) / 8) 1 * 8))) (wrap64 (bits BinOp.and IntKind.i64 ((n : Int) / 4) 1 * 16))) (wrap64 (bits BinOp.and IntKind.i64 ((n : Int) / 2) 1 * 32))) (wrap64 (bits BinOp.and IntKind.i64 ((n : Int) / 64) 1 * 64))) = mvC false (n : Int) := by decide +kernel
theorem movedT_c (c : Int) (w : World) (h0 : 0 ≤ c) (h1 : c ≤ 127) : Calls Try.prog 147 #[.int .i64 c, .agg #[.int .i64 3, .int .i64 4, .int .i64 5, .int .i64 0, .int .i64 1, .int .i64 2, .int .i64 6]] w fun e w' => e = .returned (.int .i64 (mvC true c)) ∧ Below w.heap.size w w' := by
  obtain ⟨n, rfl⟩ := Int.eq_ofNat_of_zero_le h0
  have hn : n < 128 := by omega
  have i0 := index7_0 3 4 5 0 1 2 6
  have i1 := index7_1 3 4 5 0 1 2 6
  have i2 := index7_2 3 4 5 0 1 2 6
  have i3 := index7_3 3 4 5 0 1 2 6
  have i4 := index7_4 3 4 5 0 1 2 6
  have i5 := index7_5 3 4 5 0 1 2 6
  have i6 := index7_6 3 4 5 0 1 2 6
  go_enter Try.func147, Try.ntmps147
  go_wp2
  refine wp_loop_rounds 8 ?_
  rw [rounds_succ]
  go_wp2
  rw [rounds_succ]
  go_wp2
  rw [rounds_succ]
  go_wp2
  rw [rounds_succ]
  go_wp2
  rw [rounds_succ]
  go_wp2
  rw [rounds_succ]
  go_wp2
  rw [rounds_succ]
  go_wp2
  rw [rounds_succ]
  go_wp2
  go_ret
  exact ⟨int_ret (mvT_i n hn), by (repeat (first | exact Below.refl _ _ | exact (Below.refl _ _).drew | assumption | exact below_one _ | refine Below.chain ?_ (by assumption) | refine Below.drew ?_ | refine Below.alc ?_ _ | refine below_drewN ?_ | (refine Below.setCell ?_ ?_ _) | exact Nat.le_refl _ | (simp; done) | (simp; omega)))⟩
theorem movedM_c (c : Int) (w : World) (h0 : 0 ≤ c) (h1 : c ≤ 127) : Calls Try.prog 147 #[.int .i64 c, .agg #[.int .i64 0, .int .i64 5, .int .i64 4, .int .i64 3, .int .i64 2, .int .i64 1, .int .i64 6]] w fun e w' => e = .returned (.int .i64 (mvC false c)) ∧ Below w.heap.size w w' := by
  obtain ⟨n, rfl⟩ := Int.eq_ofNat_of_zero_le h0
  have hn : n < 128 := by omega
  have i0 := index7_0 0 5 4 3 2 1 6
  have i1 := index7_1 0 5 4 3 2 1 6
  have i2 := index7_2 0 5 4 3 2 1 6
  have i3 := index7_3 0 5 4 3 2 1 6
  have i4 := index7_4 0 5 4 3 2 1 6
  have i5 := index7_5 0 5 4 3 2 1 6
  have i6 := index7_6 0 5 4 3 2 1 6
  go_enter Try.func147, Try.ntmps147
  go_wp2
  refine wp_loop_rounds 8 ?_
  rw [rounds_succ]
  go_wp2
  rw [rounds_succ]
  go_wp2
  rw [rounds_succ]
  go_wp2
  rw [rounds_succ]
  go_wp2
  rw [rounds_succ]
  go_wp2
  rw [rounds_succ]
  go_wp2
  rw [rounds_succ]
  go_wp2
  rw [rounds_succ]
  go_wp2
  go_ret
  exact ⟨int_ret (mvM_i n hn), by (repeat (first | exact Below.refl _ _ | exact (Below.refl _ _).drew | assumption | exact below_one _ | refine Below.chain ?_ (by assumption) | refine Below.drew ?_ | refine Below.alc ?_ _ | refine below_drewN ?_ | (refine Below.setCell ?_ ?_ _) | exact Nat.le_refl _ | (simp; done) | (simp; omega)))⟩
theorem turned_c (c : Int) (w : World) (h0 : 0 ≤ c) (h1 : c ≤ 127) : Calls Try.prog 103 #[.int .i64 c] w fun e w' => e = .returned (.int .i64 (mvC true c)) ∧ Below w.heap.size w w' := by
  go_enter Try.func103, Try.ntmps103
  go_wp2_with fail
  refine (movedT_c c _ h0 h1).mono ?_
  rintro e w1 ⟨rfl, hb1⟩
  go_wp2
  go_ret
  exact ⟨rfl, hb1⟩
theorem mirrored_c (c : Int) (w : World) (h0 : 0 ≤ c) (h1 : c ≤ 127) : Calls Try.prog 129 #[.int .i64 c] w fun e w' => e = .returned (.int .i64 (mvC false c)) ∧ Below w.heap.size w w' := by
  go_enter Try.func129, Try.ntmps129
  go_wp2_with fail
  refine (movedM_c c _ h0 h1).mono ?_
  rintro e w1 ⟨rfl, hb1⟩
  go_wp2
  go_ret
  exact ⟨rfl, hb1⟩
theorem l2Turn_c (c : Int) (w : World) (h0 : 0 ≤ c) (h1 : c ≤ 127) : Calls Try.prog 104 #[.int .i64 c] w fun e w' => e = .returned (.int .i64 (mvC true c)) ∧ Below w.heap.size w w' := by
  obtain ⟨n, rfl⟩ := Int.eq_ofNat_of_zero_le h0
  have hn : n < 128 := by omega
  go_enter Try.func104, Try.ntmps104
  go_wp2
  refine wp_loop_rounds 8 ?_
  rw [rounds_succ]
  go_wp2
  rw [rounds_succ]
  go_wp2
  rw [rounds_succ]
  go_wp2
  rw [rounds_succ]
  go_wp2
  rw [rounds_succ]
  go_wp2
  rw [rounds_succ]
  go_wp2
  rw [rounds_succ]
  go_wp2
  rw [rounds_succ]
  go_wp2
  go_ret
  exact ⟨int_ret (mvT_s n hn), by (repeat (first | exact Below.refl _ _ | exact (Below.refl _ _).drew | assumption | exact below_one _ | refine Below.chain ?_ (by assumption) | refine Below.drew ?_ | refine Below.alc ?_ _ | refine below_drewN ?_ | (refine Below.setCell ?_ ?_ _) | exact Nat.le_refl _ | (simp; done) | (simp; omega)))⟩
theorem l2Mirror_c (c : Int) (w : World) (h0 : 0 ≤ c) (h1 : c ≤ 127) : Calls Try.prog 179 #[.int .i64 c] w fun e w' => e = .returned (.int .i64 (mvC false c)) ∧ Below w.heap.size w w' := by
  obtain ⟨n, rfl⟩ := Int.eq_ofNat_of_zero_le h0
  have hn : n < 128 := by omega
  go_enter Try.func179, Try.ntmps179
  go_wp2
  refine wp_loop_rounds 8 ?_
  rw [rounds_succ]
  go_wp2
  rw [rounds_succ]
  go_wp2
  rw [rounds_succ]
  go_wp2
  rw [rounds_succ]
  go_wp2
  rw [rounds_succ]
  go_wp2
  rw [rounds_succ]
  go_wp2
  rw [rounds_succ]
  go_wp2
  rw [rounds_succ]
  go_wp2
  go_ret
  exact ⟨int_ret (mvM_s n hn), by (repeat (first | exact Below.refl _ _ | exact (Below.refl _ _).drew | assumption | exact below_one _ | refine Below.chain ?_ (by assumption) | refine Below.drew ?_ | refine Below.alc ?_ _ | refine below_drewN ?_ | (refine Below.setCell ?_ ?_ _) | exact Nat.le_refl _ | (simp; done) | (simp; omega)))⟩
end Go.Proofs.Ytlipkplomndjcaa
