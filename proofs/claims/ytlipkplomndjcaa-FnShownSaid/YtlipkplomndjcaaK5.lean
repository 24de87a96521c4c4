/- Texts of this claim, gathered: Job1, Shows, Draw. -/
import Derived.Test.YtlipkplomndjcaaK4
namespace Go.Proofs.Ytlipkplomndjcaa
open Go.RowKit
set_option linter.unusedVariables false
set_option maxRecDepth 100000
/-- a cell whose bars stand elsewhere -/
def permC (p : List Nat) (c : Int) : Int := (((List.range 7).foldl (fun o k => o + c.toNat / 2 ^ (p.getD k 0) % 2 * 2 ^ k) 0 : Nat) : Int)
def mvC (t : Bool) (c : Int) : Int := permC (if t then [3, 4, 5, 0, 1, 2, 6] else [0, 5, 4, 3, 2, 1, 6]) c
theorem mvC_all : ∀ n : Fin 128, ∀ t : Bool, 0 ≤ mvC t (n.1 : Int) ∧ mvC t (n.1 : Int) ≤ 127 := by decide +kernel
theorem mvC_bd {c : Int} (t : Bool) (h0 : 0 ≤ c) (h1 : c ≤ 127) : 0 ≤ mvC t c ∧ mvC t c ≤ 127 := by
  obtain ⟨n, rfl⟩ := Int.eq_ofNat_of_zero_le h0
  exact mvC_all ⟨n, by omega⟩ t
theorem index7_0 (x0 x1 x2 x3 x4 x5 x6 : Int) (w : World) : (Instr.index 124 (.agg #[.int .i64 x0, .int .i64 x1, .int .i64 x2, .int .i64 x3, .int .i64 x4, .int .i64 x5, .int .i64 x6]) (.int .i64 0)).run Try.prog w = .ok (.int .i64 x0) w := by kernel_rfl
theorem index7_1 (x0 x1 x2 x3 x4 x5 x6 : Int) (w : World) : (Instr.index 124 (.agg #[.int .i64 x0, .int .i64 x1, .int .i64 x2, .int .i64 x3, .int .i64 x4, .int .i64 x5, .int .i64 x6]) (.int .i64 1)).run Try.prog w = .ok (.int .i64 x1) w := by kernel_rfl
theorem index7_2 (x0 x1 x2 x3 x4 x5 x6 : Int) (w : World) : (Instr.index 124 (.agg #[.int .i64 x0, .int .i64 x1, .int .i64 x2, .int .i64 x3, .int .i64 x4, .int .i64 x5, .int .i64 x6]) (.int .i64 2)).run Try.prog w = .ok (.int .i64 x2) w := by kernel_rfl
theorem index7_3 (x0 x1 x2 x3 x4 x5 x6 : Int) (w : World) : (Instr.index 124 (.agg #[.int .i64 x0, .int .i64 x1, .int .i64 x2, .int .i64 x3, .int .i64 x4, .int .i64 x5, .int .i64 x6]) (.int .i64 3)).run Try.prog w = .ok (.int .i64 x3) w := by kernel_rfl
theorem index7_4 (x0 x1 x2 x3 x4 x5 x6 : Int) (w : World) : (Instr.index 124 (.agg #[.int .i64 x0, .int .i64 x1, .int .i64 x2, .int .i64 x3, .int .i64 x4, .int .i64 x5, .int .i64 x6]) (.int .i64 4)).run Try.prog w = .ok (.int .i64 x4) w := by kernel_rfl
theorem index7_5 (x0 x1 x2 x3 x4 x5 x6 : Int) (w : World) : (Instr.index 124 (.agg #[.int .i64 x0, .int .i64 x1, .int .i64 x2, .int .i64 x3, .int .i64 x4, .int .i64 x5, .int .i64 x6]) (.int .i64 5)).run Try.prog w = .ok (.int .i64 x5) w := by kernel_rfl
theorem index7_6 (x0 x1 x2 x3 x4 x5 x6 : Int) (w : World) : (Instr.index 124 (.agg #[.int .i64 x0, .int .i64 x1, .int .i64 x2, .int .i64 x3, .int .i64 x4, .int .i64 x5, .int .i64 x6]) (.int .i64 6)).run Try.prog w = .ok (.int .i64 x6) w := by kernel_rfl
theorem mvT_i : ∀ n : Nat, n < 128 → (bits BinOp.or IntKind.i64 (bits BinOp.or IntKind.i64 (bits BinOp.or IntKind.i64 (bits BinOp.or IntKind.i64 (bits BinOp.or IntKind.i64 (bits BinOp.or IntKind.i64 (bits BinOp.or IntKind.i64 0 (wrap64 (bits BinOp.and IntKind.i64 (n : Int) 1 * 8))) (wrap64 (bits BinOp.and IntKind.i64 ((n : Int) / 2) 1 * 16))) (wrap64 (bits BinOp.and IntKind.i64 ((n : Int) / 4) 1 * 32))) (wrap64 (bits BinOp.and IntKind.i64 ((n : Int) / 8) 1))) (wrap64 (bits BinOp.and IntKind.i64 ((n : Int) / 16) 1 * 2))) (wrap64 (bits BinOp.and IntKind.i64 ((n : Int) / 32) 1 * 4))) (wrap64 (bits BinOp.and IntKind.i64 ((n : Int) / 64) 1 * 64))) = mvC true (n : Int) := by decide +kernel
theorem mvM_i : ∀ n : Nat, n < 128 → (bits BinOp.or IntKind.i64 (bits BinOp.or IntKind.i64 (bits BinOp.or IntKind.i64 (bits BinOp.or IntKind.i64 (bits BinOp.or IntKind.i64 (bits BinOp.or IntKind.i64 (bits BinOp.or IntKind.i64 0 (wrap64 (bits BinOp.and IntKind.i64 (n : Int) 1))) (wrap64 (bits BinOp.and IntKind.i64 ((n : Int) / 2) 1 * 32))) (wrap64 (bits BinOp.and IntKind.i64 ((n : Int) / 4) 1 * 16))) (wrap64 (bits BinOp.and IntKind.i64 ((n : Int) / 8) 1 * 8))) (wrap64 (bits BinOp.and IntKind.i64 ((n : Int) / 16) 1 * 4))) (wrap64 (bits BinOp.and IntKind.i64 ((n : Int) / 32) 1 * 2))) (wrap64 (bits BinOp.and IntKind.i64 ((n : Int) / 64) 1 * 64))) = mvC false (n : Int) := by decide +kernel
theorem mvT_s : ∀ n : Nat, n < 128 → (bits BinOp.or IntKind.i64 (bits BinOp.or IntKind.i64 (bits BinOp.or IntKind.i64 (bits BinOp.or IntKind.i64 (bits BinOp.or IntKind.i64 (bits BinOp.or IntKind.i64 (bits BinOp.or IntKind.i64 0 (wrap64 (bits BinOp.and IntKind.i64 ((n : Int) / 8) 1))) (wrap64 (bits BinOp.and IntKind.i64 ((n : Int) / 16) 1 * 2))) (wrap64 (bits BinOp.and IntKind.i64 ((n : Int) / 32) 1 * 4))) (wrap64 (bits BinOp.and IntKind.i64 (n : Int) 1 * 8))) (wrap64 (bits BinOp.and IntKind.i64 ((n : Int) / 2) 1 * 16))) (wrap64 (bits BinOp.and IntKind.i64 ((n : Int) / 4) 1 * 32))) (wrap64 (bits BinOp.and IntKind.i64 ((n : Int) / 64) 1 * 64))) = mvC true (n : Int) := by decide +kernel
theorem mvM_s : ∀ n : Nat, n < 128 → (bits BinOp.or IntKind.i64 (bits BinOp.or IntKind.i64 (bits BinOp.or IntKind.i64 (bits BinOp.or IntKind.i64 (bits BinOp.or IntKind.i64 (bits BinOp.or IntKind.i64 (bits BinOp.or IntKind.i64 0 (wrap64 (bits BinOp.and IntKind.i64 (n : Int) 1))) (wrap64 (bits BinOp.and IntKind.i64 ((n : Int) / 32) 1 * 2))) (wrap64 (bits BinOp.and IntKind.i64 ((n : Int) / 16) 1 * 4))) (wrap64 (bits BinOp.and IntKind.i64 ((n : Int) / 8) 1 * 8))) (wrap64 (bits BinOp.and IntKind.i64 ((n : Int) / 4) 1 * 16))) (wrap64 (bits BinOp.and IntKind.i64 ((n : Int) / 2) 1 * 32))) (wrap64 (bits BinOp.and IntKind.i64 ((n : Int) / 64) 1 * 64))) = mvC false (n : Int) := by decide +kernel
theorem movedT_c (c : Int) (w : World) (h0 : 0 ≤ c) (h1 : c ≤ 127) : Calls Try.prog 147 #[.int .i64 c, .agg #[.int .i64 3, .int .i64 4, .int .i64 5, .int .i64 0, .int .i64 1, .int .i64 2, .int .i64 6]] w fun e w' => e = .returned (.int .i64 (mvC true c)) ∧ Below w.heap.size w w' := by
  obtain ⟨n, rfl⟩ := Int.eq_ofNat_of_zero_le h0
  have hn : n < 128 := by omega
  have i0 := index7_0 3 4 5 0 1 2 6
  have i1 := index7_1 3 4 5 0 1 2 6
  have i2 := index7_2 3 4 5 0 1 2 6
  have i3 := index7_3 3 4 5 0 1 2 6
  have i4 := index7_4 3 4 5 0 1 2 6
  have i5 := index7_5 3 4 5 0 1 2 6
  have i6 := index7_6 3 4 5 0 1 2 6
  go_enter Try.func147, Try.ntmps147
  go_wp2
  refine wp_loop_rounds 8 ?_
  rw [rounds_succ]
  go_wp2
  rw [rounds_succ]
  go_wp2
  rw [rounds_succ]
  go_wp2
  rw [rounds_succ]
  go_wp2
  rw [rounds_succ]
  go_wp2
  rw [rounds_succ]
  go_wp2
  rw [rounds_succ]
  go_wp2
  rw [rounds_succ]
  go_wp2
  go_ret
  exact ⟨int_ret (mvT_i n hn), by (repeat (first | exact Below.refl _ _ | exact (Below.refl _ _).drew | assumption | exact below_one _ | refine Below.chain ?_ (by assumption) | refine Below.drew ?_ | refine Below.alc ?_ _ | refine below_drewN ?_ | (refine Below.setCell ?_ ?_ _) | exact Nat.le_refl _ | (simp; done) | (simp; omega)))⟩
theorem movedM_c (c : Int) (w : World) (h0 : 0 ≤ c) (h1 : c ≤ 127) : Calls Try.prog 147 #[.int .i64 c, .agg #[.int .i64 0, .int .i64 5, .int .i64 4, .int .i64 3, .int .i64 2, .int .i64 1, .int .i64 6]] w fun e w' => e = .returned (.int .i64 (mvC false c)) ∧ Below w.heap.size w w' := by
  obtain ⟨n, rfl⟩ := Int.eq_ofNat_of_zero_le h0
  have hn : n < 128 := by omega
  have i0 := index7_0 0 5 4 3 2 1 6
  have i1 := index7_1 0 5 4 3 2 1 6
  have i2 := index7_2 0 5 4 3 2 1 6
  have i3 := index7_3 0 5 4 3 2 1 6
  have i4 := index7_4 0 5 4 3 2 1 6
  have i5 := index7_5 0 5 4 3 2 1 6
  have i6 := index7_6 0 5 4 3 2 1 6
  go_enter Try.func147, Try.ntmps147
  go_wp2
  refine wp_loop_rounds 8 ?_
  rw [rounds_succ]
  go_wp2
  rw [rounds_succ]
  go_wp2
  rw [rounds_succ]
  go_wp2
  rw [rounds_succ]
  go_wp2
  rw [rounds_succ]
  go_wp2
  rw [rounds_succ]
  go_wp2
  rw [rounds_succ]
  go_wp2
  rw [rounds_succ]
  go_wp2
  go_ret
  exact ⟨int_ret (mvM_i n hn), by (repeat (first | exact Below.refl _ _ | exact (Below.refl _ _).drew | assumption | exact below_one _ | refine Below.chain ?_ (by assumption) | refine Below.drew ?_ | refine Below.alc ?_ _ | refine below_drewN ?_ | (refine Below.setCell ?_ ?_ _) | exact Nat.le_refl _ | (simp; done) | (simp; omega)))⟩
theorem turned_c (c : Int) (w : World) (h0 : 0 ≤ c) (h1 : c ≤ 127) : Calls Try.prog 103 #[.int .i64 c] w fun e w' => e = .returned (.int .i64 (mvC true c)) ∧ Below w.heap.size w w' := by
  go_enter Try.func103, Try.ntmps103
  go_wp2_with fail
  refine (movedT_c c _ h0 h1).mono ?_
  rintro e w1 ⟨rfl, hb1⟩
  go_wp2
  go_ret
  exact ⟨rfl, hb1⟩
theorem mirrored_c (c : Int) (w : World) (h0 : 0 ≤ c) (h1 : c ≤ 127) : Calls Try.prog 129 #[.int .i64 c] w fun e w' => e = .returned (.int .i64 (mvC false c)) ∧ Below w.heap.size w w' := by
  go_enter Try.func129, Try.ntmps129
  go_wp2_with fail
  refine (movedM_c c _ h0 h1).mono ?_
  rintro e w1 ⟨rfl, hb1⟩
  go_wp2
  go_ret
  exact ⟨rfl, hb1⟩
theorem l2Turn_c (c : Int) (w : World) (h0 : 0 ≤ c) (h1 : c ≤ 127) : Calls Try.prog 104 #[.int .i64 c] w fun e w' => e = .returned (.int .i64 (mvC true c)) ∧ Below w.heap.size w w' := by
  obtain ⟨n, rfl⟩ := Int.eq_ofNat_of_zero_le h0
  have hn : n < 128 := by omega
  go_enter Try.func104, Try.ntmps104
  go_wp2
  refine wp_loop_rounds 8 ?_
  rw [rounds_succ]
  go_wp2
  rw [rounds_succ]
  go_wp2
  rw [rounds_succ]
  go_wp2
  rw [rounds_succ]
  go_wp2
  rw [rounds_succ]
  go_wp2
  rw [rounds_succ]
  go_wp2
  rw [rounds_succ]
  go_wp2
  rw [rounds_succ]
  go_wp2
  go_ret
  exact ⟨int_ret (mvT_s n hn), by (repeat (first | exact Below.refl _ _ | exact (Below.refl _ _).drew | assumption | exact below_one _ | refine Below.chain ?_ (by assumption) | refine Below.drew ?_ | refine Below.alc ?_ _ | refine below_drewN ?_ | (refine Below.setCell ?_ ?_ _) | exact Nat.le_refl _ | (simp; done) | (simp; omega)))⟩
theorem l2Mirror_c (c : Int) (w : World) (h0 : 0 ≤ c) (h1 : c ≤ 127) : Calls Try.prog 179 #[.int .i64 c] w fun e w' => e = .returned (.int .i64 (mvC false c)) ∧ Below w.heap.size w w' := by
  obtain ⟨n, rfl⟩ := Int.eq_ofNat_of_zero_le h0
  have hn : n < 128 := by omega
  go_enter Try.func179, Try.ntmps179
  go_wp2
  refine wp_loop_rounds 8 ?_
  rw [rounds_succ]
  go_wp2
  rw [rounds_succ]
  go_wp2
  rw [rounds_succ]
  go_wp2
  rw [rounds_succ]
  go_wp2
  rw [rounds_succ]
  go_wp2
  rw [rounds_succ]
  go_wp2
  rw [rounds_succ]
  go_wp2
  rw [rounds_succ]
  go_wp2
  go_ret
  exact ⟨int_ret (mvM_s n hn), by (repeat (first | exact Below.refl _ _ | exact (Below.refl _ _).drew | assumption | exact below_one _ | refine Below.chain ?_ (by assumption) | refine Below.drew ?_ | refine Below.alc ?_ _ | refine below_drewN ?_ | (refine Below.setCell ?_ ?_ _) | exact Nat.le_refl _ | (simp; done) | (simp; omega)))⟩
end Go.Proofs.Ytlipkplomndjcaa
namespace Go.Proofs.Ytlipkplomndjcaa
open Go.RowKit
set_option linter.unusedVariables false
set_option linter.unusedSimpArgs false
set_option maxRecDepth 100000
def coV (d : Int) : Value := .tuple #[.int .i64 (if digitB d then dg d else 0), .bool (digitB d)]
theorem CellOf_c (d : Int) (w : World) : Calls Try.prog 20 #[.int .i64 d] w fun e w' => e = .returned (coV d) ∧ Below w.heap.size w w' := by
  rcases hq : digitB d with _ | _
  · have HF := Lib.hid (show coV d = .tuple #[.int .i64 0, .bool false] by simp [coV, hq])
    have HQ := Lib.hid hq; clear hq
    go_enter Try.func20, Try.ntmps20
    go_wp2_with fail
    refine (isDigit_c d _).mono ?_
    rintro e w1 ⟨rfl, rfl⟩
    rw [HQ.out]
    go_wp2
    go_ret2
    exact ⟨by rw [HF.out]; rfl, by (repeat (first | exact Below.refl _ _ | exact (Below.refl _ _).drew | assumption | exact below_one _ | refine Below.chain ?_ (by assumption) | refine Below.drew ?_ | refine Below.alc ?_ _ | refine below_drewN ?_ | (refine Below.setCell ?_ ?_ _) | exact Nat.le_refl _ | (simp; done) | (simp; omega)))⟩
  · have HF := Lib.hid (show coV d = .tuple #[.int .i64 (dg d), .bool true] by simp [coV, hq])
    have hd := digitB_true hq
    have h0 := hd.1; have h1 := hd.2
    have hix := fun w => index_dig d h0 h1 w
    have HQ := Lib.hid hq; clear hq
    go_enter Try.func20, Try.ntmps20
    go_wp2_with fail
    refine (isDigit_c d _).mono ?_
    rintro e w1 ⟨rfl, rfl⟩
    rw [HQ.out]
    go_wp2_with fail
    refine (digitCells_c _).mono ?_
    rintro e w2 ⟨rfl, hb2⟩
    go_wp2
    go_ret2
    exact ⟨by rw [HF.out]; rfl, by (repeat (first | exact Below.refl _ _ | exact (Below.refl _ _).drew | assumption | exact below_one _ | refine Below.chain ?_ (by assumption) | refine Below.drew ?_ | refine Below.alc ?_ _ | refine below_drewN ?_ | (refine Below.setCell ?_ ?_ _) | exact Nat.le_refl _ | (simp; done) | (simp; omega)))⟩
def scOk (d l c : Int) : Bool := faultB d l && cellB c
def scV (d l c : Int) : Value := .tuple #[.int .i64 (if scOk d l c then shC d l c else 0), .bool (scOk d l c)]
theorem ShownCell_c (d l c : Int) (w : World) : Calls Try.prog 21 #[.agg #[.int .i64 d, .int .i64 l], .int .i64 c] w fun e w' => e = .returned (scV d l c) ∧ Below w.heap.size w w' := by
  rcases hq : faultB d l with _ | _
  · have HF := Lib.hid (show scV d l c = .tuple #[.int .i64 0, .bool false] by simp [scV, scOk, hq])
    have HQ := Lib.hid hq; clear hq
    go_enter Try.func21, Try.ntmps21
    go_wp2_with fail
    refine (IsFault_c d l _).mono ?_
    rintro e w1 ⟨rfl, hb1⟩
    rw [HQ.out]
    have q0 := (box_after hb1).1 0 _ rfl
    have q1 := (box_after hb1).1 1 _ rfl
    have hb2 := Below.chain (below_one _) hb1
    clear hb1
    go_wp2
    go_ret2
    exact ⟨by rw [HF.out]; rfl, by (repeat (first | exact Below.refl _ _ | exact (Below.refl _ _).drew | assumption | exact below_one _ | refine Below.chain ?_ (by assumption) | refine Below.drew ?_ | refine Below.alc ?_ _ | refine below_drewN ?_ | (refine Below.setCell ?_ ?_ _) | exact Nat.le_refl _ | (simp; done) | (simp; omega)))⟩
  · rcases hc : cellB c with _ | _
    · have HF := Lib.hid (show scV d l c = .tuple #[.int .i64 0, .bool false] by simp [scV, scOk, hc])
      have HQ := Lib.hid hq; clear hq
      have HC := Lib.hid hc; clear hc
      go_enter Try.func21, Try.ntmps21
      go_wp2_with fail
      refine (IsFault_c d l _).mono ?_
      rintro e w1 ⟨rfl, hb1⟩
      rw [HQ.out]
      have q0 := (box_after hb1).1 0 _ rfl
      have q1 := (box_after hb1).1 1 _ rfl
      have hb2 := Below.chain (below_one _) hb1
      clear hb1
      go_wp2_with fail
      refine (IsCell_c c _).mono ?_
      rintro e w1 ⟨rfl, rfl⟩
      rw [HC.out]
      go_wp2
      go_ret2
      exact ⟨by rw [HF.out]; rfl, by (repeat (first | exact Below.refl _ _ | exact (Below.refl _ _).drew | assumption | exact below_one _ | refine Below.chain ?_ (by assumption) | refine Below.drew ?_ | refine Below.alc ?_ _ | refine below_drewN ?_ | (refine Below.setCell ?_ ?_ _) | exact Nat.le_refl _ | (simp; done) | (simp; omega)))⟩
    · have HF := Lib.hid (show scV d l c = .tuple #[.int .i64 (shC d l c), .bool true] by simp [scV, scOk, hc, hq])
      have bd := faultB_true hq
      have bc := cellB_true hc
      have HQ := Lib.hid hq; clear hq
      have HC := Lib.hid hc; clear hc
      go_enter Try.func21, Try.ntmps21
      go_wp2_with fail
      refine (IsFault_c d l _).mono ?_
      rintro e w1 ⟨rfl, hb1⟩
      rw [HQ.out]
      have q0 := (box_after hb1).1 0 _ rfl
      have q1 := (box_after hb1).1 1 _ rfl
      have hb2 := Below.chain (below_one _) hb1
      clear hb1
      go_wp2_with fail
      refine (IsCell_c c _).mono ?_
      rintro e w1 ⟨rfl, rfl⟩
      rw [HC.out]
      go_wp2_with fail
      refine (shown_c d l c bd.1 bd.2.1 bd.2.2.1 bd.2.2.2.1 bc.1 bc.2 _).mono ?_
      rintro e w3 ⟨rfl, hb3⟩
      have hb4 := Below.chain hb2 hb3
      go_wp2
      go_ret2
      exact ⟨by rw [HF.out]; rfl, by (repeat (first | exact Below.refl _ _ | exact (Below.refl _ _).drew | assumption | exact below_one _ | refine Below.chain ?_ (by assumption) | refine Below.drew ?_ | refine Below.alc ?_ _ | refine below_drewN ?_ | (refine Below.setCell ?_ ?_ _) | exact Nat.le_refl _ | (simp; done) | (simp; omega)))⟩
theorem sShownCell_c (d l c : Int) (w : World) : Calls Try.prog 24 #[.agg #[.int .i64 d, .int .i64 l], .int .i64 c] w fun e w' => e = .returned (scV d l c) ∧ Below w.heap.size w w' := by
  rcases hq : faultB d l with _ | _
  · have HF := Lib.hid (show scV d l c = .tuple #[.int .i64 0, .bool false] by simp [scV, scOk, hq])
    have HQ := Lib.hid hq; clear hq
    go_enter Try.func24, Try.ntmps24
    go_wp2_with fail
    refine (l3Fault_c d l _).mono ?_
    rintro e w1 ⟨rfl, hb1⟩
    rw [HQ.out]
    have q0 := (box_after hb1).1 0 _ rfl
    have q1 := (box_after hb1).1 1 _ rfl
    have hb2 := Below.chain (below_one _) hb1
    clear hb1
    go_wp2
    go_ret2
    exact ⟨by rw [HF.out]; rfl, by (repeat (first | exact Below.refl _ _ | exact (Below.refl _ _).drew | assumption | exact below_one _ | refine Below.chain ?_ (by assumption) | refine Below.drew ?_ | refine Below.alc ?_ _ | refine below_drewN ?_ | (refine Below.setCell ?_ ?_ _) | exact Nat.le_refl _ | (simp; done) | (simp; omega)))⟩
  · rcases hc : cellB c with _ | _
    · have HF := Lib.hid (show scV d l c = .tuple #[.int .i64 0, .bool false] by simp [scV, scOk, hc])
      have HQ := Lib.hid hq; clear hq
      have HC := Lib.hid hc; clear hc
      go_enter Try.func24, Try.ntmps24
      go_wp2_with fail
      refine (l3Fault_c d l _).mono ?_
      rintro e w1 ⟨rfl, hb1⟩
      rw [HQ.out]
      have q0 := (box_after hb1).1 0 _ rfl
      have q1 := (box_after hb1).1 1 _ rfl
      have hb2 := Below.chain (below_one _) hb1
      clear hb1
      go_wp2_with fail
      refine (l2Cell_c c _).mono ?_
      rintro e w1 ⟨rfl, rfl⟩
      rw [HC.out]
      go_wp2
      go_ret2
      exact ⟨by rw [HF.out]; rfl, by (repeat (first | exact Below.refl _ _ | exact (Below.refl _ _).drew | assumption | exact below_one _ | refine Below.chain ?_ (by assumption) | refine Below.drew ?_ | refine Below.alc ?_ _ | refine below_drewN ?_ | (refine Below.setCell ?_ ?_ _) | exact Nat.le_refl _ | (simp; done) | (simp; omega)))⟩
    · have HF := Lib.hid (show scV d l c = .tuple #[.int .i64 (shC d l c), .bool true] by simp [scV, scOk, hc, hq])
      have bd := faultB_true hq
      have bc := cellB_true hc
      have HQ := Lib.hid hq; clear hq
      have HC := Lib.hid hc; clear hc
      go_enter Try.func24, Try.ntmps24
      go_wp2_with fail
      refine (l3Fault_c d l _).mono ?_
      rintro e w1 ⟨rfl, hb1⟩
      rw [HQ.out]
      have q0 := (box_after hb1).1 0 _ rfl
      have q1 := (box_after hb1).1 1 _ rfl
      have hb2 := Below.chain (below_one _) hb1
      clear hb1
      go_wp2_with fail
      refine (l2Cell_c c _).mono ?_
      rintro e w1 ⟨rfl, rfl⟩
      rw [HC.out]
      go_wp2_with fail
      refine (l3Shown_c d l c bd.1 bd.2.1 bd.2.2.1 bd.2.2.2.1 bc.1 bc.2 _).mono ?_
      rintro e w3 ⟨rfl, hb3⟩
      have hb4 := Below.chain hb2 hb3
      go_wp2
      go_ret2
      exact ⟨by rw [HF.out]; rfl, by (repeat (first | exact Below.refl _ _ | exact (Below.refl _ _).drew | assumption | exact below_one _ | refine Below.chain ?_ (by assumption) | refine Below.drew ?_ | refine Below.alc ?_ _ | refine below_drewN ?_ | (refine Below.setCell ?_ ?_ _) | exact Nat.le_refl _ | (simp; done) | (simp; omega)))⟩
def dsL (d l c : Int) : List Int := if scOk d l c then digL d l c else []
theorem dsL_le (d l c : Int) : (dsL d l c).length ≤ 10 := by
  unfold dsL; split
  · exact digL_le _ _ _
  · simp
theorem DigitsShown_c (d l c : Int) (w : World) : Calls Try.prog 46 #[.agg #[.int .i64 d, .int .i64 l], .int .i64 c] w (IntsPost w (dsL d l c) (scOk d l c)) := by
  rcases hq : faultB d l with _ | _
  · have HL := Lib.hid (show dsL d l c = [] by simp [dsL, scOk, hq])
    have HB := Lib.hid (show scOk d l c = false by simp [scOk, hq])
    have HQ := Lib.hid hq; clear hq
    go_enter Try.func46, Try.ntmps46
    go_wp2_with fail
    refine (IsFault_c d l _).mono ?_
    rintro e w1 ⟨rfl, hb1⟩
    rw [HQ.out]
    have hb2 := Below.chain (below_one _) hb1
    clear hb1
    go_wp2
    go_ret2
    exact IntsPost.mk' HL.out HB.out (World.ownsRow_nil _ _ _ _) (by (repeat (first | exact Below.refl _ _ | exact (Below.refl _ _).drew | assumption | exact below_one _ | refine Below.chain ?_ (by assumption) | refine Below.drew ?_ | refine Below.alc ?_ _ | refine below_drewN ?_ | (refine Below.setCell ?_ ?_ _) | exact Nat.le_refl _ | (simp; done) | (simp; omega))))
  · rcases hc : cellB c with _ | _
    · have HL := Lib.hid (show dsL d l c = [] by simp [dsL, scOk, hc])
      have HB := Lib.hid (show scOk d l c = false by simp [scOk, hc])
      have HQ := Lib.hid hq; clear hq
      have HC := Lib.hid hc; clear hc
      go_enter Try.func46, Try.ntmps46
      go_wp2_with fail
      refine (IsFault_c d l _).mono ?_
      rintro e w1 ⟨rfl, hb1⟩
      rw [HQ.out]
      have hb2 := Below.chain (below_one _) hb1
      clear hb1
      go_wp2_with fail
      refine (IsCell_c c _).mono ?_
      rintro e w1 ⟨rfl, rfl⟩
      rw [HC.out]
      go_wp2
      go_ret2
      exact IntsPost.mk' HL.out HB.out (World.ownsRow_nil _ _ _ _) (by (repeat (first | exact Below.refl _ _ | exact (Below.refl _ _).drew | assumption | exact below_one _ | refine Below.chain ?_ (by assumption) | refine Below.drew ?_ | refine Below.alc ?_ _ | refine below_drewN ?_ | (refine Below.setCell ?_ ?_ _) | exact Nat.le_refl _ | (simp; done) | (simp; omega))))
    · have HL := Lib.hid (show dsL d l c = digL d l c by simp [dsL, scOk, hc, hq])
      have HB := Lib.hid (show scOk d l c = true by simp [scOk, hc, hq])
      have bd := faultB_true hq
      have HQ := Lib.hid hq; clear hq
      have HC := Lib.hid hc; clear hc
      go_enter Try.func46, Try.ntmps46
      go_wp2_with fail
      refine (IsFault_c d l _).mono ?_
      rintro e w1 ⟨rfl, hb1⟩
      rw [HQ.out]
      have q0 := (box_after hb1).1 0 _ rfl
      have q1 := (box_after hb1).1 1 _ rfl
      have hb2 := Below.chain (below_one _) hb1
      clear hb1
      go_wp2_with fail
      refine (IsCell_c c _).mono ?_
      rintro e w1 ⟨rfl, rfl⟩
      rw [HC.out]
      go_wp2_with fail
      refine (digits_c d l c _ bd.1 bd.2.1 bd.2.2.1 bd.2.2.2.1).mono ?_
      rintro e w3 ⟨u, rfl, ho, hb3⟩
      have hb4 := Below.chain hb2 hb3
      have ho2 := own_lo ho hb2.size
      clear ho hb3
      go_wp2
      go_ret2
      exact IntsPost.mk' HL.out HB.out ho2 hb4
theorem sDigitsShown_c (d l c : Int) (w : World) : Calls Try.prog 47 #[.agg #[.int .i64 d, .int .i64 l], .int .i64 c] w (IntsPost w (dsL d l c) (scOk d l c)) := by
  rcases hq : faultB d l with _ | _
  · have HL := Lib.hid (show dsL d l c = [] by simp [dsL, scOk, hq])
    have HB := Lib.hid (show scOk d l c = false by simp [scOk, hq])
    have HQ := Lib.hid hq; clear hq
    go_enter Try.func47, Try.ntmps47
    go_wp2_with fail
    refine (l3Fault_c d l _).mono ?_
    rintro e w1 ⟨rfl, hb1⟩
    rw [HQ.out]
    have hb2 := Below.chain (below_one _) hb1
    clear hb1
    go_wp2
    go_ret2
    exact IntsPost.mk' HL.out HB.out (own_lo (World.ownsRow_lit (e := 3) (size := 1) (base := w1.heap.size) w1 #[] 0 (Nat.le_refl _) (by decide) rfl) hb2.size) (by (repeat (first | exact Below.refl _ _ | exact (Below.refl _ _).drew | assumption | exact below_one _ | refine Below.chain ?_ (by assumption) | refine Below.drew ?_ | refine Below.alc ?_ _ | refine below_drewN ?_ | (refine Below.setCell ?_ ?_ _) | exact Nat.le_refl _ | (simp; done) | (simp; omega))))
  · rcases hc : cellB c with _ | _
    · have HL := Lib.hid (show dsL d l c = [] by simp [dsL, scOk, hc])
      have HB := Lib.hid (show scOk d l c = false by simp [scOk, hc])
      have HQ := Lib.hid hq; clear hq
      have HC := Lib.hid hc; clear hc
      go_enter Try.func47, Try.ntmps47
      go_wp2_with fail
      refine (l3Fault_c d l _).mono ?_
      rintro e w1 ⟨rfl, hb1⟩
      rw [HQ.out]
      have hb2 := Below.chain (below_one _) hb1
      clear hb1
      go_wp2_with fail
      refine (l2Cell_c c _).mono ?_
      rintro e w1 ⟨rfl, rfl⟩
      rw [HC.out]
      go_wp2
      go_ret2
      exact IntsPost.mk' HL.out HB.out (own_lo (World.ownsRow_lit (e := 3) (size := 1) (base := w1.heap.size) w1 #[] 0 (Nat.le_refl _) (by decide) rfl) hb2.size) (by (repeat (first | exact Below.refl _ _ | exact (Below.refl _ _).drew | assumption | exact below_one _ | refine Below.chain ?_ (by assumption) | refine Below.drew ?_ | refine Below.alc ?_ _ | refine below_drewN ?_ | (refine Below.setCell ?_ ?_ _) | exact Nat.le_refl _ | (simp; done) | (simp; omega))))
    · have HL := Lib.hid (show dsL d l c = digL d l c by simp [dsL, scOk, hc, hq])
      have HB := Lib.hid (show scOk d l c = true by simp [scOk, hc, hq])
      have bd := faultB_true hq
      have HQ := Lib.hid hq; clear hq
      have HC := Lib.hid hc; clear hc
      go_enter Try.func47, Try.ntmps47
      go_wp2_with fail
      refine (l3Fault_c d l _).mono ?_
      rintro e w1 ⟨rfl, hb1⟩
      rw [HQ.out]
      have q0 := (box_after hb1).1 0 _ rfl
      have q1 := (box_after hb1).1 1 _ rfl
      have hb2 := Below.chain (below_one _) hb1
      clear hb1
      go_wp2_with fail
      refine (l2Cell_c c _).mono ?_
      rintro e w1 ⟨rfl, rfl⟩
      rw [HC.out]
      go_wp2_with fail
      refine (l3Digits_c d l c _ bd.1 bd.2.1 bd.2.2.1 bd.2.2.2.1).mono ?_
      rintro e w3 ⟨u, rfl, ho, hb3⟩
      have hb4 := Below.chain hb2 hb3
      have ho2 := own_lo ho hb2.size
      clear ho hb3
      go_wp2
      go_ret2
      exact IntsPost.mk' HL.out HB.out ho2 hb4
def ciV (d l : Int) : Value := .tuple #[.int .i64 (if faultB d l then ((grpL d l).length : Int) else 0), .bool (faultB d l)]
def ihV (d l : Int) : Value := .tuple #[.bool (faultB d l && decide ((grpL d l).length = 10)), .bool (faultB d l)]
theorem CountImages_c (d l : Int) (w : World) : Calls Try.prog 41 #[.agg #[.int .i64 d, .int .i64 l]] w fun e w' => e = .returned (ciV d l) ∧ Below w.heap.size w w' := by
  rcases hq : faultB d l with _ | _
  · have HF := Lib.hid (show ciV d l = .tuple #[.int .i64 0, .bool false] by simp [ciV, hq])
    have HQ := Lib.hid hq; clear hq
    go_enter Try.func41, Try.ntmps41
    go_wp2_with fail
    refine (IsFault_c d l _).mono ?_
    rintro e w1 ⟨rfl, hb1⟩
    rw [HQ.out]
    have hb2 := Below.chain (below_one _) hb1
    clear hb1
    go_wp2
    go_ret2
    exact ⟨by rw [HF.out]; rfl, by (repeat (first | exact Below.refl _ _ | exact (Below.refl _ _).drew | assumption | exact below_one _ | refine Below.chain ?_ (by assumption) | refine Below.drew ?_ | refine Below.alc ?_ _ | refine below_drewN ?_ | (refine Below.setCell ?_ ?_ _) | exact Nat.le_refl _ | (simp; done) | (simp; omega)))⟩
  · have HF := Lib.hid (show ciV d l = .tuple #[.int .i64 (grpL d l).length, .bool true] by simp [ciV, hq])
    have bd := faultB_true hq
    have HQ := Lib.hid hq; clear hq
    go_enter Try.func41, Try.ntmps41
    go_wp2_with fail
    refine (IsFault_c d l _).mono ?_
    rintro e w1 ⟨rfl, hb1⟩
    rw [HQ.out]
    have q0 := (box_after hb1).1 0 _ rfl
    have q1 := (box_after hb1).1 1 _ rfl
    have hb2 := Below.chain (below_one _) hb1
    clear hb1
    go_wp2_with fail
    refine (groups_c d l _ bd.1 bd.2.1 bd.2.2.1 bd.2.2.2.1).mono ?_
    rintro e w3 ⟨u, rfl, ho, hb3⟩
    have hb4 := Below.chain hb2 hb3
    obtain ⟨vs, hov, hin⟩ := ho
    have hl := hin.1
    obtain ⟨a, c, rfl, hmx⟩ := (Sl.of_own hov).slice
    clear hin hov hb3
    go_wp2
    go_ret2
    exact ⟨by rw [HF.out]; rfl, by (repeat (first | exact Below.refl _ _ | exact (Below.refl _ _).drew | assumption | exact below_one _ | refine Below.chain ?_ (by assumption) | refine Below.drew ?_ | refine Below.alc ?_ _ | refine below_drewN ?_ | (refine Below.setCell ?_ ?_ _) | exact Nat.le_refl _ | (simp; done) | (simp; omega)))⟩
theorem CountImagesH_c (d l : Int) (w : World) : Calls Try.prog 43 #[.agg #[.int .i64 d, .int .i64 l]] w fun e w' => e = .returned (ihV d l) ∧ Below w.heap.size w w' := by
  rcases hq : faultB d l with _ | _
  · have HF := Lib.hid (show ihV d l = .tuple #[.bool false, .bool false] by simp [ihV, hq])
    have HQ := Lib.hid hq; clear hq
    go_enter Try.func43, Try.ntmps43
    go_wp2_with fail
    refine (IsFault_c d l _).mono ?_
    rintro e w1 ⟨rfl, hb1⟩
    rw [HQ.out]
    have hb2 := Below.chain (below_one _) hb1
    clear hb1
    go_wp2
    go_ret2
    exact ⟨by rw [HF.out]; rfl, by (repeat (first | exact Below.refl _ _ | exact (Below.refl _ _).drew | assumption | exact below_one _ | refine Below.chain ?_ (by assumption) | refine Below.drew ?_ | refine Below.alc ?_ _ | refine below_drewN ?_ | (refine Below.setCell ?_ ?_ _) | exact Nat.le_refl _ | (simp; done) | (simp; omega)))⟩
  · have HF := Lib.hid (show ihV d l = .tuple #[.bool (decide ((grpL d l).length = 10)), .bool true] by simp [ihV, hq])
    have bd := faultB_true hq
    have HQ := Lib.hid hq; clear hq
    go_enter Try.func43, Try.ntmps43
    go_wp2_with fail
    refine (IsFault_c d l _).mono ?_
    rintro e w1 ⟨rfl, hb1⟩
    rw [HQ.out]
    have q0 := (box_after hb1).1 0 _ rfl
    have q1 := (box_after hb1).1 1 _ rfl
    have hb2 := Below.chain (below_one _) hb1
    clear hb1
    go_wp2_with fail
    refine (isHarmless_c d l _ bd.1 bd.2.1 bd.2.2.1 bd.2.2.2.1).mono ?_
    rintro e w3 ⟨rfl, hb3⟩
    have hb4 := Below.chain hb2 hb3
    go_wp2
    go_ret2
    exact ⟨by rw [HF.out]; rfl, by (repeat (first | exact Below.refl _ _ | exact (Below.refl _ _).drew | assumption | exact below_one _ | refine Below.chain ?_ (by assumption) | refine Below.drew ?_ | refine Below.alc ?_ _ | refine below_drewN ?_ | (refine Below.setCell ?_ ?_ _) | exact Nat.le_refl _ | (simp; done) | (simp; omega)))⟩
theorem sCountImages_c (d l : Int) (w : World) : Calls Try.prog 42 #[.agg #[.int .i64 d, .int .i64 l]] w fun e w' => e = .returned (ciV d l) ∧ Below w.heap.size w w' := by
  rcases hq : faultB d l with _ | _
  · have HF := Lib.hid (show ciV d l = .tuple #[.int .i64 0, .bool false] by simp [ciV, hq])
    have HQ := Lib.hid hq; clear hq
    go_enter Try.func42, Try.ntmps42
    go_wp2_with fail
    refine (l3Fault_c d l _).mono ?_
    rintro e w1 ⟨rfl, hb1⟩
    rw [HQ.out]
    have hb2 := Below.chain (below_one _) hb1
    clear hb1
    go_wp2
    go_ret2
    exact ⟨by rw [HF.out]; rfl, by (repeat (first | exact Below.refl _ _ | exact (Below.refl _ _).drew | assumption | exact below_one _ | refine Below.chain ?_ (by assumption) | refine Below.drew ?_ | refine Below.alc ?_ _ | refine below_drewN ?_ | (refine Below.setCell ?_ ?_ _) | exact Nat.le_refl _ | (simp; done) | (simp; omega)))⟩
  · have HF := Lib.hid (show ciV d l = .tuple #[.int .i64 (grpL d l).length, .bool true] by simp [ciV, hq])
    have bd := faultB_true hq
    have HQ := Lib.hid hq; clear hq
    go_enter Try.func42, Try.ntmps42
    go_wp2_with fail
    refine (l3Fault_c d l _).mono ?_
    rintro e w1 ⟨rfl, hb1⟩
    rw [HQ.out]
    have q0 := (box_after hb1).1 0 _ rfl
    have q1 := (box_after hb1).1 1 _ rfl
    have hb2 := Below.chain (below_one _) hb1
    clear hb1
    go_wp2_with fail
    refine (l3Groups_c d l _ bd.1 bd.2.1 bd.2.2.1 bd.2.2.2.1).mono ?_
    rintro e w3 ⟨u, rfl, ho, hb3⟩
    have hb4 := Below.chain hb2 hb3
    obtain ⟨vs, hov, hin⟩ := ho
    have hl := hin.1
    obtain ⟨a, c, rfl, hmx⟩ := (Sl.of_own hov).slice
    clear hin hov hb3
    go_wp2
    go_ret2
    exact ⟨by rw [HF.out]; rfl, by (repeat (first | exact Below.refl _ _ | exact (Below.refl _ _).drew | assumption | exact below_one _ | refine Below.chain ?_ (by assumption) | refine Below.drew ?_ | refine Below.alc ?_ _ | refine below_drewN ?_ | (refine Below.setCell ?_ ?_ _) | exact Nat.le_refl _ | (simp; done) | (simp; omega)))⟩
theorem sCountImagesH_c (d l : Int) (w : World) : Calls Try.prog 44 #[.agg #[.int .i64 d, .int .i64 l]] w fun e w' => e = .returned (ihV d l) ∧ Below w.heap.size w w' := by
  rcases hq : faultB d l with _ | _
  · have HF := Lib.hid (show ihV d l = .tuple #[.bool false, .bool false] by simp [ihV, hq])
    have HQ := Lib.hid hq; clear hq
    go_enter Try.func44, Try.ntmps44
    go_wp2_with fail
    refine (l3Fault_c d l _).mono ?_
    rintro e w1 ⟨rfl, hb1⟩
    rw [HQ.out]
    have hb2 := Below.chain (below_one _) hb1
    clear hb1
    go_wp2
    go_ret2
    exact ⟨by rw [HF.out]; rfl, by (repeat (first | exact Below.refl _ _ | exact (Below.refl _ _).drew | assumption | exact below_one _ | refine Below.chain ?_ (by assumption) | refine Below.drew ?_ | refine Below.alc ?_ _ | refine below_drewN ?_ | (refine Below.setCell ?_ ?_ _) | exact Nat.le_refl _ | (simp; done) | (simp; omega)))⟩
  · have HF := Lib.hid (show ihV d l = .tuple #[.bool (decide ((grpL d l).length = 10)), .bool true] by simp [ihV, hq])
    have bd := faultB_true hq
    have HQ := Lib.hid hq; clear hq
    go_enter Try.func44, Try.ntmps44
    go_wp2_with fail
    refine (l3Fault_c d l _).mono ?_
    rintro e w1 ⟨rfl, hb1⟩
    rw [HQ.out]
    have q0 := (box_after hb1).1 0 _ rfl
    have q1 := (box_after hb1).1 1 _ rfl
    have hb2 := Below.chain (below_one _) hb1
    clear hb1
    go_wp2_with fail
    refine (l3Groups_c d l _ bd.1 bd.2.1 bd.2.2.1 bd.2.2.2.1).mono ?_
    rintro e w3 ⟨u, rfl, ho, hb3⟩
    have hb4 := Below.chain hb2 hb3
    obtain ⟨vs, hov, hin⟩ := ho
    have hl := hin.1
    obtain ⟨a, c, rfl, hmx⟩ := (Sl.of_own hov).slice
    clear hin hov hb3
    go_wp2
    go_ret2
    exact ⟨by rw [HF.out]; exact congrArg (fun b => Ending.returned (.tuple #[.bool b, .bool true])) (by rw [Bool.eq_iff_iff]; simp; omega), by (repeat (first | exact Below.refl _ _ | exact (Below.refl _ _).drew | assumption | exact below_one _ | refine Below.chain ?_ (by assumption) | refine Below.drew ?_ | refine Below.alc ?_ _ | refine below_drewN ?_ | (refine Below.setCell ?_ ?_ _) | exact Nat.le_refl _ | (simp; done) | (simp; omega)))⟩
theorem TurnCell_c (c : Int) (w : World) : Calls Try.prog 35 #[.int .i64 c] w fun e w' => e = .returned (.tuple #[.int .i64 (if cellB c then mvC true c else 0), .bool (cellB c)]) ∧ Below w.heap.size w w' := by
  rcases hc : cellB c with _ | _
  · have HC := Lib.hid hc; clear hc
    go_enter Try.func35, Try.ntmps35
    go_wp2_with fail
    refine (IsCell_c c _).mono ?_
    rintro e w1 ⟨rfl, rfl⟩
    rw [HC.out]
    go_wp2
    go_ret2
    exact ⟨rfl, by (repeat (first | exact Below.refl _ _ | exact (Below.refl _ _).drew | assumption | exact below_one _ | refine Below.chain ?_ (by assumption) | refine Below.drew ?_ | refine Below.alc ?_ _ | refine below_drewN ?_ | (refine Below.setCell ?_ ?_ _) | exact Nat.le_refl _ | (simp; done) | (simp; omega)))⟩
  · have bc := cellB_true hc
    have HC := Lib.hid hc; clear hc
    go_enter Try.func35, Try.ntmps35
    go_wp2_with fail
    refine (IsCell_c c _).mono ?_
    rintro e w1 ⟨rfl, rfl⟩
    rw [HC.out]
    go_wp2_with fail
    refine (turned_c c _ bc.1 bc.2).mono ?_
    rintro e w2 ⟨rfl, hb2⟩
    go_wp2
    go_ret2
    exact ⟨rfl, by (repeat (first | exact Below.refl _ _ | exact (Below.refl _ _).drew | assumption | exact below_one _ | refine Below.chain ?_ (by assumption) | refine Below.drew ?_ | refine Below.alc ?_ _ | refine below_drewN ?_ | (refine Below.setCell ?_ ?_ _) | exact Nat.le_refl _ | (simp; done) | (simp; omega)))⟩
theorem sIsFault_c (d l : Int) (w : World) : Calls Try.prog 33 #[.agg #[.int .i64 d, .int .i64 l]] w fun e w' => e = .returned (.bool (faultB d l)) ∧ Below w.heap.size w w' := by
  go_enter Try.func33, Try.ntmps33
  go_wp2_with fail
  refine (l3Fault_c d l _).mono ?_
  rintro e w1 ⟨rfl, hb1⟩
  go_wp2
  go_ret
  exact ⟨rfl, by (repeat (first | exact Below.refl _ _ | exact (Below.refl _ _).drew | assumption | exact below_one _ | refine Below.chain ?_ (by assumption) | refine Below.drew ?_ | refine Below.alc ?_ _ | refine below_drewN ?_ | (refine Below.setCell ?_ ?_ _) | exact Nat.le_refl _ | (simp; done) | (simp; omega)))⟩
end Go.Proofs.Ytlipkplomndjcaa
namespace Go.Proofs.Ytlipkplomndjcaa
open Go.RowKit
set_option linter.unusedVariables false
set_option linter.unusedSimpArgs false
set_option maxRecDepth 100000

theorem cell_c (g m : Nat) (w : World) (h : CurAt w g m) (hm : m + 20 < 4611686018427387904) :
    Calls Try.prog 83 #[.pointer (some ⟨g, 0, none⟩)] w (DrawI w g (m + 20) fun _ => True) := by
  have HC := Lib.hid h
  clear h
  go_enter Try.func83, Try.ntmps83
  go_wp2_with fail
  refine (pick_c 40 g m _ HC.out (by omega)).mono ?_
  rintro e w1 ⟨x, rfl, hx, hs⟩
  have HS := Lib.hid hs
  clear hs hx
  have A1 := Lib.hid (fun xs hp hl => amongL_c xs g (m + 2) w1 _ rfl HS.out.cur (by omega) hp hl)
  have O1 := Lib.hid (fun n => one_c n g (m + 2) w1 HS.out.cur (by omega))
  by_cases e0 : x = 0
  · subst e0
    go_wp2_with fail
    refine (A1.out [-1, 128, 4611686018427387904] (by decide) (by decide)).mono ?_
    rintro e w2 ⟨y, rfl, hy, hs⟩
    have HS2 := Lib.hid (HS.out.trans hs)
    clear hs hy
    go_wp2
    go_ret
    exact ⟨_, rfl, trivial, HS2.out.mono (by omega)⟩
  · by_cases e1 : x = 1 ∨ x = 2 ∨ x = 3
    · rcases e1 with rfl | rfl | rfl <;>
      · go_wp2_with fail
        refine (A1.out [0, 127, 64] (by decide) (by decide)).mono ?_
        rintro e w2 ⟨y, rfl, hy, hs⟩
        have HS2 := Lib.hid (HS.out.trans hs)
        clear hs hy
        go_wp2
        go_ret
        exact ⟨_, rfl, trivial, HS2.out.mono (by omega)⟩
    · have e1' : ¬ x = 1 := fun h => e1 (.inl h)
      have e2' : ¬ x = 2 := fun h => e1 (.inr (.inl h))
      have e3' : ¬ x = 3 := fun h => e1 (.inr (.inr h))
      clear e1
      go_wp2_with fail
      refine (O1.out 3).mono ?_
      rintro e w2 ⟨b, rfl, hs⟩
      have HS2 := Lib.hid (HS.out.trans hs)
      clear hs
      cases b with
      | true =>
        go_wp2_with fail
        refine (pick_c 128 g (m + 4) _ HS2.out.cur (by omega)).mono ?_
        rintro e w3 ⟨y, rfl, hy, hs⟩
        have HS3 := Lib.hid (HS2.out.trans hs)
        clear hs hy
        go_wp2
        go_ret
        exact ⟨_, rfl, trivial, HS3.out.mono (by omega)⟩
      | false =>
        go_wp2_with fail
        refine (pick_c 10 g (m + 4) _ HS2.out.cur (by omega)).mono ?_
        rintro e w3 ⟨y, rfl, hy, hs⟩
        have HS3 := Lib.hid (HS2.out.trans hs)
        have y0 := hy.1
        have y1 := hy.2 (by omega)
        clear hs hy
        go_wp2_with fail
        refine (l2Digit_c y y0 (by omega) _).mono ?_
        rintro e w4 ⟨rfl, hb⟩
        have HS4 := Lib.hid (HS3.out.below hb)
        clear hb
        go_wp2_with fail
        refine (one_c 5 g (m + 6) _ HS4.out.cur (by omega)).mono ?_
        rintro e w5 ⟨b, rfl, hs⟩
        have HS5 := Lib.hid (HS4.out.trans hs)
        clear hs
        cases b with
        | false =>
          go_wp2
          go_ret
          exact ⟨_, rfl, trivial, HS5.out.mono (by omega)⟩
        | true =>
          go_wp2_with fail
          refine (pick_c 7 g (m + 8) _ HS5.out.cur (by omega)).mono ?_
          rintro e w6 ⟨z, rfl, hz, hs⟩
          have HS6 := Lib.hid (HS5.out.trans hs)
          obtain ⟨k, rfl⟩ := Int.eq_ofNat_of_zero_le hz.1
          have z1 : k < 7 := by have := hz.2 (by omega); omega
          clear hs hz
          go_wp2
          go_ret
          exact ⟨_, rfl, trivial, HS6.out.mono (by omega)⟩

/-- What a draw of a slice of ints gives. -/
def DrawS (w : World) (g m n : Nat) (e : Ending) (w' : World) : Prop :=
  ∃ (v : Value) (xs : List Int), e = .returned v ∧ xs.length ≤ n ∧ w'.ownsRow w.heap.size 3 1 v xs.length (xs.map (Value.int .i64)) ∧ CStep w w' g m
theorem DrawS.mono {w : World} {g m m' n n' : Nat} {e : Ending} {w' : World} (h : DrawS w g m n e w') (hm : m ≤ m') (hn : n ≤ n') : DrawS w g m' n' e w' := by
  obtain ⟨v, xs, h1, h2, h3, h4⟩ := h
  exact ⟨v, xs, h1, by omega, h3, h4.mono hm⟩
/-- behind an append to a row of the call's own -/
theorem CStep.grown {a b c : World} {g m : Nat} {r : Option Nat} (h : CStep a b g m) (hg : b.grownBy c r) (hga : g < a.heap.size) (hr : ∀ k, r = some k → a.heap.size ≤ k) : CStep a c g m :=
  ⟨⟨hg.os.trans h.gr.os, hg.tape.trans h.gr.tape, hg.output.trans h.gr.output, Nat.le_trans h.gr.size hg.size, fun i hi hne => (hg.block i (Nat.lt_of_lt_of_le hi h.gr.size) (fun e => by
    have := hr i e.symm; omega)).trans (h.gr.block i hi hne)⟩, h.cur.grown hg (fun k hk => by have := hr k hk; omega)⟩
theorem row_start (w : World) (lo : Nat) (h : lo ≤ w.heap.size) : (w.alloc (.cells #[] 3)).ownsRow lo 3 1 (.slice (some ⟨w.heap.size, 0, none⟩) 0 0) ([] : List Int).length (([] : List Int).map (Value.int .i64)) :=
  World.ownsRow_lit (e := 3) (size := 1) (base := lo) w #[] 0 h (by decide) rfl
set_option maxHeartbeats 1000000 in
theorem row_c (g m : Nat) (w : World) (h : CurAt w g m) (hm : m + 150 < 4611686018427387904) :
    Calls Try.prog 114 #[.pointer (some ⟨g, 0, none⟩)] w (DrawS w g (m + 150) 7) := by
  have HC := Lib.hid h
  have hga := h.lt
  obtain ⟨i, hi, hz0, hz1, hz2⟩ := info_parts info_int
  have HO := Lib.hid (row_start w w.heap.size (Nat.le_refl _))
  clear h
  go_enter Try.func114, Try.ntmps114
  go_wp2_with fail
  refine (amongL_c [2, 3, 1, 4, 6, 0, 5, 2, 3] g m _ _ (by simp) (HC.out.alloc (.cells #[] 3)) (by omega) (by decide) (by decide)).mono ?_
  rintro e w1 ⟨x, rfl, hx, hs⟩
  have HS := Lib.hid ((((CStep.refl HC.out).alloc (.cells #[] 3)).trans hs))
  have ho := hs.row HO.out hga
  obtain ⟨x0, x1⟩ : 0 ≤ x ∧ x ≤ 6 := by
    simp only [List.mem_cons, List.not_mem_nil, or_false] at hx; omega
  obtain ⟨k, rfl⟩ := Int.eq_ofNat_of_zero_le x0
  have hk : k ≤ 6 := by omega
  clear hs hx x0 x1 HO
  go_wp2
  go_loopw [3, 4] (fun o j wr => ∃ (k : Nat) (xs : List Int), k ≤ 6 ∧ j = .int .i64 (k : Int) ∧ xs.length + k ≤ 6 ∧ wr.ownsRow w.heap.size 3 1 o xs.length (xs.map (Value.int .i64)) ∧ CStep w wr g (m + 2 + 20 * (6 - k))) (fun _ j _ => (intOf j).toNat)
  case atStart => exact ⟨k, [], hk, rfl, by simpa using hk, ho, HS.out.mono (by omega)⟩
  case round =>
    obtain ⟨k, xs, hk, rfl, hl, ho, hs⟩ := hrel
    have HS := Lib.hid hs
    have HO := Lib.hid ho
    clear hs ho
    by_cases hk0 : 0 < k
    · have hd : decide (0 < (k : Int)) = true := by simp; omega
      go_wp2_with fail
      refine (cell_c g _ _ HS.out.cur (by omega)).mono ?_
      rintro e w2 ⟨x, rfl, _, hs⟩
      have HS2 := Lib.hid (HS.out.trans hs)
      have HO2 := Lib.hid (hs.row HO.out hga)
      clear hs
      go_wp2_with (at_builtin; refine wpList_append_own_at _ rfl _ _ 24 rfl w.heap.size 3 i (.int .i64 0) 1 8 Try.underlying24 hi hz0 hz1 hz2 rfl (by decide) _ xs.length (xs.map (Value.int .i64)) rfl (HO2.out.alloc _) ⟨w2.heap.size, 0, none⟩ 1 1 [.int .i64 x] rfl rfl (news_new _ [.int .i64 x] _) (by simp [Value.oneCell']) (by unfold maxLen; omega) (by omega) (by have := HS2.out.gr.size; simp; omega) ?_)
      intro v' w3 ho5 hg5 _ _
      have HS3 := Lib.hid ((HS2.out.alloc _).grown hg5 hga (fun k hk => ((HO2.out.alloc (.cells #[.int .i64 x] 3)).lt k hk).1))
      have HO3 := Lib.hid ho5
      clear ho5 hg5
      go_wp2
      go_roundw
      case rel => exact ⟨k - 1, xs ++ [x], by omega, by go_num, by simp; omega, ownsRow_cast HO3.out (by simp) (ints_snoc _ _).symm, HS3.out.mono (by omega)⟩
      case measure => simp [intOf]; omega
    · obtain rfl : k = 0 := by omega
      clear hk0
      go_wp2_with fail
      refine (one_c 40 g _ _ HS.out.cur (by omega)).mono ?_
      rintro e w2 ⟨b, rfl, hs⟩
      have HS2 := Lib.hid (HS.out.trans hs)
      have HO2 := Lib.hid (hs.row HO.out hga)
      clear hs
      cases b with
      | false =>
        go_wp2
        go_ret
        exact ⟨_, xs, rfl, by omega, HO2.out, HS2.out.mono (by omega)⟩
      | true =>
        go_wp2
        go_ret
        exact ⟨_, [6, 6, 6, 6, 6, 6, 6], rfl, by decide, World.ownsRow_lit (e := 3) (size := 1) (base := w.heap.size) w2 #[.int .i64 6, .int .i64 6, .int .i64 6, .int .i64 6, .int .i64 6, .int .i64 6, .int .i64 6] 7 HS2.out.gr.size (by decide) rfl, (HS2.out.alloc _).mono (by omega)⟩
set_option maxHeartbeats 1000000 in
theorem digits_d (g m : Nat) (w : World) (h : CurAt w g m) (hm : m + 200 < 4611686018427387904) :
    Calls Try.prog 95 #[.pointer (some ⟨g, 0, none⟩)] w (DrawS w g (m + 200) 7) := by
  have HC := Lib.hid h
  have hga := h.lt
  obtain ⟨i, hi, hz0, hz1, hz2⟩ := info_parts info_int
  clear h
  go_enter Try.func95, Try.ntmps95
  go_wp2_with fail
  refine (one_c 6 g m _ HC.out (by omega)).mono ?_
  rintro e w1 ⟨b, rfl, hs⟩
  have HS := Lib.hid hs
  clear hs
  cases b with
  | true =>
    go_wp2_with fail
    refine (row_c g (m + 2) _ HS.out.cur (by omega)).mono ?_
    rintro e w2 ⟨v, xs, rfl, hl, ho, hs⟩
    have HS2 := Lib.hid (HS.out.trans hs)
    have HO2 := Lib.hid (own_lo ho HS.out.gr.size)
    clear hs ho
    go_wp2
    go_ret
    exact ⟨_, xs, rfl, hl, HO2.out, HS2.out.mono (by omega)⟩
  | false =>
    have HO := Lib.hid (row_start w1 w.heap.size HS.out.gr.size)
    have HS1 := Lib.hid (HS.out.alloc (.cells #[] 3))
    go_wp2_with fail
    refine (amongL_c [2, 3, 1, 4, 6] g (m + 2) _ _ (by simp) HS1.out.cur (by omega) (by decide) (by decide)).mono ?_
    rintro e w2 ⟨x, rfl, hx, hs⟩
    have HS2 := Lib.hid (HS1.out.trans hs)
    have ho := hs.row HO.out hga
    obtain ⟨x0, x1⟩ : 0 ≤ x ∧ x ≤ 6 := by
      simp only [List.mem_cons, List.not_mem_nil, or_false] at hx; omega
    obtain ⟨k, rfl⟩ := Int.eq_ofNat_of_zero_le x0
    have hk : k ≤ 6 := by omega
    clear hs hx x0 x1 HO HS1 HS
    go_wp2
    go_loopw [3, 4] (fun o j wr => ∃ (k : Nat) (xs : List Int), k ≤ 6 ∧ j = .int .i64 (k : Int) ∧ xs.length + k ≤ 6 ∧ wr.ownsRow w.heap.size 3 1 o xs.length (xs.map (Value.int .i64)) ∧ CStep w wr g (m + 4 + 20 * (6 - k))) (fun _ j _ => (intOf j).toNat)
    case atStart => exact ⟨k, [], hk, rfl, by simpa using hk, ho, HS2.out.mono (by omega)⟩
    case round =>
      obtain ⟨k, xs, hk, rfl, hl, ho, hs⟩ := hrel
      have HS := Lib.hid hs
      have HO := Lib.hid ho
      clear hs ho
      by_cases hk0 : 0 < k
      · have hd : decide (0 < (k : Int)) = true := by simp; omega
        go_wp2_with fail
        refine (amongL_c [0, 1, 2, 5, 6, 8, 9, 3, 4, 7] g _ _ _ (by simp) HS.out.cur (by omega) (by decide) (by decide)).mono ?_
        rintro e w2 ⟨x, rfl, hx, hs⟩
        obtain ⟨x0, x1⟩ : 0 ≤ x ∧ x ≤ 9 := by
          simp only [List.mem_cons, List.not_mem_nil, or_false] at hx; omega
        have HS2 := Lib.hid (HS.out.trans hs)
        have HO2 := Lib.hid (hs.row HO.out hga)
        clear hs hx
        go_wp2_with fail
        refine (l2Digit_c x x0 x1 _).mono ?_
        rintro e w3 ⟨rfl, hb⟩
        have HS3 := Lib.hid (HS2.out.below hb)
        have HO3 := Lib.hid (own_keep HO2.out hb)
        clear hb
        go_wp2_with (at_builtin; refine wpList_append_own_at _ rfl _ _ 24 rfl w.heap.size 3 i (.int .i64 0) 1 8 Try.underlying24 hi hz0 hz1 hz2 rfl (by decide) _ xs.length (xs.map (Value.int .i64)) rfl (HO3.out.alloc _) ⟨w3.heap.size, 0, none⟩ 1 1 [.int .i64 (dg x)] rfl rfl (news_new _ [.int .i64 (dg x)] _) (by simp [Value.oneCell']) (by unfold maxLen; omega) (by omega) (by have := HS3.out.gr.size; simp; omega) ?_)
        intro v' w4 ho5 hg5 _ _
        have HS4 := Lib.hid ((HS3.out.alloc _).grown hg5 hga (fun k hk => ((HO3.out.alloc (.cells #[.int .i64 (dg x)] 3)).lt k hk).1))
        have HO4 := Lib.hid ho5
        clear ho5 hg5
        go_wp2
        go_roundw
        case rel => exact ⟨k - 1, xs ++ [dg x], by omega, by go_num, by simp; omega, ownsRow_cast HO4.out (by simp) (ints_snoc _ _).symm, HS4.out.mono (by omega)⟩
        case measure => simp [intOf]; omega
      · obtain rfl : k = 0 := by omega
        clear hk0
        go_wp2
        go_ret
        exact ⟨_, xs, rfl, by omega, HO.out, HS.out.mono (by omega)⟩
/-- What a draw of a Fault gives. -/
def DrawF (w : World) (g m : Nat) (e : Ending) (w' : World) : Prop := ∃ d l : Int, e = .returned (.agg #[.int .i64 d, .int .i64 l]) ∧ CStep w w' g m
theorem CStep.store {a b : World} {g m : Nat} (h : CStep a b g m) (hga : g < a.heap.size) {p : Addr} (hp : a.heap.size ≤ p.block) (v : Value) : CStep a (b.setCell p v) g m :=
  ⟨⟨h.gr.os, h.gr.tape, h.gr.output, by have := h.gr.size; simp [World.setCell]; exact this, fun k hk hne => (Below.heap_setCell _ _ _ _ (by omega)).trans (h.gr.block k hk hne)⟩, h.cur.blocks fun k hk => Below.heap_setCell _ _ _ _ (by omega)⟩
theorem Bk.step {a b : World} {g m k t : Nat} {cs : Array Value} (h : Bk a k t cs) (hs : CStep a b g m) (hk : k ≠ g) : Bk b k t cs := h.keep (hs.gr.block k h.lt (fun e => hk (by cases e; rfl)))
theorem two_res {W : World} {b t : Nat} {a c : Value} (h : Bk W b t #[a, c]) (X Y : Value) :
    ((W.setCell ⟨b, 0, none⟩ X).setCell ⟨b, 1, none⟩ Y).cell? ⟨b, 0, none⟩ = some X ∧ ((W.setCell ⟨b, 0, none⟩ X).setCell ⟨b, 1, none⟩ Y).cell? ⟨b, 1, none⟩ = some Y := by
  have h2 := (h.set 0 X).set 1 Y
  exact ⟨h2.cell 0, h2.cell 1⟩
set_option maxHeartbeats 1000000 in
theorem fault3_c (g m : Nat) (w : World) (h : CurAt w g m) (hm : m + 30 < 4611686018427387904) :
    Calls Try.prog 78 #[.pointer (some ⟨g, 0, none⟩)] w (DrawF w g (m + 30)) := by
  have hga := h.lt
  have B0 := Lib.hid (Bk.new w 42 #[.int .i64 0, .int .i64 0])
  have B1 := Lib.hid (Bk.new (w.alloc (.cells #[.int .i64 0, .int .i64 0] 42)) 42 #[.int .i64 0, .int .i64 0])
  have HC := Lib.hid ((((CStep.refl h).alloc (.cells #[.int .i64 0, .int .i64 0] 42)).alloc (.cells #[.int .i64 0, .int .i64 0] 42)))
  clear h
  go_enter Try.func78, Try.ntmps78
  go_wp2_with fail
  refine (amongL_c [1, 2, 0, 3, 1, 5] g m _ _ (by simp) HC.out.cur (by omega) (by decide) (by decide)).mono ?_
  rintro e w1 ⟨x, rfl, hx, hs⟩
  have HS := Lib.hid (HC.out.trans hs)
  have b0 : Bk w1 w.heap.size 42 #[.int .i64 0, .int .i64 0] := (B0.out.alloc _).step hs (by omega)
  have b1 := B1.out.step hs (by simp; omega)
  rw [World.size_alloc] at b1
  obtain ⟨x0, x1⟩ : 0 ≤ x ∧ x ≤ 5 := by
    simp only [List.mem_cons, List.not_mem_nil, or_false] at hx; omega
  obtain ⟨k, rfl⟩ := Int.eq_ofNat_of_zero_le x0
  have hk : k ≤ 5 := by omega
  clear hs hx x0 x1 HC B0 B1
  go_wp2
  go_loopw [4] (fun j wr => ∃ (k : Nat) (d l : Int), k ≤ 5 ∧ j = .int .i64 (k : Int) ∧ Bk wr (w.heap.size + 1) 42 #[.int .i64 d, .int .i64 l] ∧ Bk wr w.heap.size 42 #[.int .i64 0, .int .i64 0] ∧ CStep w wr g (m + 2 + 4 * (5 - k))) (fun j _ => (intOf j).toNat)
  case atStart => exact ⟨k, 0, 0, hk, rfl, b1, b0, HS.out.mono (by omega)⟩
  case round =>
    obtain ⟨k, d, l, hk, rfl, b1, b0, hs⟩ := hrel
    have HS := Lib.hid hs
    have B0 := Lib.hid b0
    have B1 := Lib.hid b1
    clear hs b0 b1
    by_cases hk0 : 0 < k
    · have hd : decide (0 < (k : Int)) = true := by simp; omega
      go_wp2_with fail
      refine (pick_c 7 g _ _ HS.out.cur (by omega)).mono ?_
      rintro e w2 ⟨x, rfl, hx, hs⟩
      obtain ⟨b, rfl⟩ := Int.eq_ofNat_of_zero_le hx.1
      have z1 : b < 7 := by have := hx.2 (by omega); omega
      have HS2 := Lib.hid (HS.out.trans hs)
      have B02 := Lib.hid (B0.out.step hs (by omega))
      have B12 := Lib.hid (B1.out.step hs (by omega))
      have r0 : w2.cell? ⟨w.heap.size + 1, 0, none⟩ = some (.int .i64 d) := B12.out.cell 0
      have r1 : w2.cell? ⟨w.heap.size + 1, 1, none⟩ = some (.int .i64 l) := B12.out.cell 1
      clear hs hx B0 B1 HS
      rcases hq : (bits BinOp.and IntKind.i64 (bits BinOp.or IntKind.i64 d l) (wrap64 (2 ^ b)) != 0) with _ | _
      · go_wp2_with fail
        refine (one_c 3 g _ _ HS2.out.cur (by omega)).mono ?_
        rintro e w3 ⟨t, rfl, hs⟩
        have HS3 := Lib.hid (HS2.out.trans hs)
        have B03 := Lib.hid (B02.out.step hs (by omega))
        have B13 := Lib.hid (B12.out.step hs (by omega))
        have r0 : w3.cell? ⟨w.heap.size + 1, 0, none⟩ = some (.int .i64 d) := B13.out.cell 0
        have r1 : w3.cell? ⟨w.heap.size + 1, 1, none⟩ = some (.int .i64 l) := B13.out.cell 1
        have f0 : w3.frozen? ⟨w.heap.size + 1, 0, none⟩ = false := B13.out.frozen 0
        have f1 : w3.frozen? ⟨w.heap.size + 1, 1, none⟩ = false := B13.out.frozen 1
        clear hs B02 B12
        cases t with
        | true =>
          go_wp2
          go_roundw
          case rel => exact ⟨k - 1, _, _, by omega, by go_num, B13.out.set 1 _, B03.out.other (by simp) _, (HS3.out.store hga (by simp) _).mono (by omega)⟩
          case measure => simp [intOf]; omega
        | false =>
          go_wp2
          go_roundw
          case rel => exact ⟨k - 1, _, _, by omega, by go_num, B13.out.set 0 _, B03.out.other (by simp) _, (HS3.out.store hga (by simp) _).mono (by omega)⟩
          case measure => simp [intOf]; omega
      · go_wp2
        go_roundw
        case rel => exact ⟨k - 1, _, _, by omega, by go_num, B12.out, B02.out, HS2.out.mono (by omega)⟩
        case measure => simp [intOf]; omega
    · obtain rfl : k = 0 := by omega
      clear hk0
      go_wp2_with fail
      refine (pick_c 50 g _ _ HS.out.cur (by omega)).mono ?_
      rintro e w2 ⟨x, rfl, hx, hs⟩
      have HS2 := Lib.hid (HS.out.trans hs)
      have B02 := Lib.hid (B0.out.step hs (by omega))
      have B12 := Lib.hid (B1.out.step hs (by omega))
      clear hs hx B0 B1 HS
      by_cases e0 : x = 0
      · subst e0
        go_wp2_with fail
        refine (amongL_c [-1, 128, 127] g _ _ _ (by simp) HS2.out.cur (by omega) (by decide) (by decide)).mono ?_
        rintro e w3 ⟨y, rfl, hy, hs⟩
        have HS3 := Lib.hid (HS2.out.trans hs)
        have B03 := Lib.hid (B02.out.step hs (by omega))
        have B13 := Lib.hid (B12.out.step hs (by omega))
        have q0 : w3.cell? ⟨w.heap.size, 0, none⟩ = some (.int .i64 0) := B03.out.cell 0
        have q1 : w3.cell? ⟨w.heap.size, 1, none⟩ = some (.int .i64 0) := B03.out.cell 1
        have r0 : w3.cell? ⟨w.heap.size + 1, 0, none⟩ = some (.int .i64 d) := B13.out.cell 0
        have r1 : w3.cell? ⟨w.heap.size + 1, 1, none⟩ = some (.int .i64 l) := B13.out.cell 1
        have f0 : w3.frozen? ⟨w.heap.size + 1, 0, none⟩ = false := B13.out.frozen 0
        have g0 : w3.frozen? ⟨w.heap.size, 0, none⟩ = false := B03.out.frozen 0
        have g1 : w3.frozen? ⟨w.heap.size, 1, none⟩ = false := B03.out.frozen 1
        clear hs hy B02 B12
        go_wp2
        have CS : CStep w (w3.setCell ⟨w.heap.size + 1, 0, none⟩ (.int .i64 y)) g (m + 30) := (HS3.out.store hga (by simp) _).mono (by omega)
        obtain ⟨z0, z1⟩ := two_res (B03.out.other (p := ⟨w.heap.size + 1, 0, none⟩) (by simp) (.int .i64 y)) (.int .i64 y) (.int .i64 l)
        exact bodyPost_ret (v := .agg #[(.int .i64 y), (.int .i64 l)]) (by simp [results, Try.results78, go_sem, z0, z1]) rfl ⟨_, _, rfl, (CS.store hga (by simp) _).store hga (by simp) _⟩
      · by_cases e1 : x = 1
        · subst e1
          go_wp2_with fail
          refine (amongL_c [-1, 128, 127] g _ _ _ (by simp) HS2.out.cur (by omega) (by decide) (by decide)).mono ?_
          rintro e w3 ⟨y, rfl, hy, hs⟩
          have HS3 := Lib.hid (HS2.out.trans hs)
          have B03 := Lib.hid (B02.out.step hs (by omega))
          have B13 := Lib.hid (B12.out.step hs (by omega))
          have q0 : w3.cell? ⟨w.heap.size, 0, none⟩ = some (.int .i64 0) := B03.out.cell 0
          have q1 : w3.cell? ⟨w.heap.size, 1, none⟩ = some (.int .i64 0) := B03.out.cell 1
          have r0 : w3.cell? ⟨w.heap.size + 1, 0, none⟩ = some (.int .i64 d) := B13.out.cell 0
          have r1 : w3.cell? ⟨w.heap.size + 1, 1, none⟩ = some (.int .i64 l) := B13.out.cell 1
          have f1 : w3.frozen? ⟨w.heap.size + 1, 1, none⟩ = false := B13.out.frozen 1
          have g0 : w3.frozen? ⟨w.heap.size, 0, none⟩ = false := B03.out.frozen 0
          have g1 : w3.frozen? ⟨w.heap.size, 1, none⟩ = false := B03.out.frozen 1
          clear hs hy B02 B12
          go_wp2
          have CS : CStep w (w3.setCell ⟨w.heap.size + 1, 1, none⟩ (.int .i64 y)) g (m + 30) := (HS3.out.store hga (by simp) _).mono (by omega)
          obtain ⟨z0, z1⟩ := two_res (B03.out.other (p := ⟨w.heap.size + 1, 1, none⟩) (by simp) (.int .i64 y)) (.int .i64 d) (.int .i64 y)
          exact bodyPost_ret (v := .agg #[(.int .i64 d), (.int .i64 y)]) (by simp [results, Try.results78, go_sem, z0, z1]) rfl ⟨_, _, rfl, (CS.store hga (by simp) _).store hga (by simp) _⟩
        · have q0 : w2.cell? ⟨w.heap.size, 0, none⟩ = some (.int .i64 0) := B02.out.cell 0
          have q1 : w2.cell? ⟨w.heap.size, 1, none⟩ = some (.int .i64 0) := B02.out.cell 1
          have r0 : w2.cell? ⟨w.heap.size + 1, 0, none⟩ = some (.int .i64 d) := B12.out.cell 0
          have r1 : w2.cell? ⟨w.heap.size + 1, 1, none⟩ = some (.int .i64 l) := B12.out.cell 1
          have g0 : w2.frozen? ⟨w.heap.size, 0, none⟩ = false := B02.out.frozen 0
          have g1 : w2.frozen? ⟨w.heap.size, 1, none⟩ = false := B02.out.frozen 1
          go_wp2
          have CS : CStep w w2 g (m + 30) := HS2.out.mono (by omega)
          obtain ⟨z0, z1⟩ := two_res (B02.out) (.int .i64 d) (.int .i64 l)
          exact bodyPost_ret (v := .agg #[(.int .i64 d), (.int .i64 l)]) (by simp [results, Try.results78, go_sem, z0, z1]) rfl ⟨_, _, rfl, (CS.store hga (by simp) _).store hga (by simp) _⟩
end Go.Proofs.Ytlipkplomndjcaa
