/- Texts of this claim, gathered: Mc, Del, DelV, SS, Conf, AllFaults, Harm, DelF, Read, Fo, Fo2, Count. -/
import Derived.Test.YtbobiiodbbcodaaGreatDoorK6
namespace Go.Proofs.YtbobiiodbbcodaaGreatDoor
open Go.RowKit
set_option linter.unusedVariables false
set_option linter.unusedSimpArgs false
set_option maxRecDepth 100000
def rowT (k : Nat) : List Int := (List.range 10).map fun m : Nat => frI (k : Int) (m : Int)
theorem rowT_len (k : Nat) : (rowT k).length = 10 := by simp [rowT]
theorem rowT_bg {k m : Nat} (hm : m < 10) : bg (rowT k) m = frI (k : Int) (m : Int) := by
  unfold bg rowT
  rw [List.getD_eq_getElem?_getD, List.getElem?_map, List.getElem?_range hm]; rfl
theorem tabI_0 (w : World) : (Instr.index 68 (.agg (ints (tabTo 100)).toArray) (.int .i64 0)).run Tryz.prog w = .ok (.agg (ints (rowT 0)).toArray) w := by kernel_rfl
theorem tabI_1 (w : World) : (Instr.index 68 (.agg (ints (tabTo 100)).toArray) (.int .i64 1)).run Tryz.prog w = .ok (.agg (ints (rowT 1)).toArray) w := by kernel_rfl
theorem tabI_2 (w : World) : (Instr.index 68 (.agg (ints (tabTo 100)).toArray) (.int .i64 2)).run Tryz.prog w = .ok (.agg (ints (rowT 2)).toArray) w := by kernel_rfl
theorem tabI_3 (w : World) : (Instr.index 68 (.agg (ints (tabTo 100)).toArray) (.int .i64 3)).run Tryz.prog w = .ok (.agg (ints (rowT 3)).toArray) w := by kernel_rfl
theorem tabI_4 (w : World) : (Instr.index 68 (.agg (ints (tabTo 100)).toArray) (.int .i64 4)).run Tryz.prog w = .ok (.agg (ints (rowT 4)).toArray) w := by kernel_rfl
theorem tabI_5 (w : World) : (Instr.index 68 (.agg (ints (tabTo 100)).toArray) (.int .i64 5)).run Tryz.prog w = .ok (.agg (ints (rowT 5)).toArray) w := by kernel_rfl
theorem tabI_6 (w : World) : (Instr.index 68 (.agg (ints (tabTo 100)).toArray) (.int .i64 6)).run Tryz.prog w = .ok (.agg (ints (rowT 6)).toArray) w := by kernel_rfl
theorem tabI_7 (w : World) : (Instr.index 68 (.agg (ints (tabTo 100)).toArray) (.int .i64 7)).run Tryz.prog w = .ok (.agg (ints (rowT 7)).toArray) w := by kernel_rfl
theorem tabI_8 (w : World) : (Instr.index 68 (.agg (ints (tabTo 100)).toArray) (.int .i64 8)).run Tryz.prog w = .ok (.agg (ints (rowT 8)).toArray) w := by kernel_rfl
theorem tabI_9 (w : World) : (Instr.index 68 (.agg (ints (tabTo 100)).toArray) (.int .i64 9)).run Tryz.prog w = .ok (.agg (ints (rowT 9)).toArray) w := by kernel_rfl
theorem tabI {k : Nat} (h : k < 10) (w : World) : (Instr.index 68 (.agg (ints (tabTo 100)).toArray) (.int .i64 (k : Int))).run Tryz.prog w = .ok (.agg (ints (rowT k)).toArray) w := by
  have h2 : k = 0 ∨ k = 1 ∨ k = 2 ∨ k = 3 ∨ k = 4 ∨ k = 5 ∨ k = 6 ∨ k = 7 ∨ k = 8 ∨ k = 9 := by omega
  rcases h2 with rfl | rfl | rfl | rfl | rfl | rfl | rfl | rfl | rfl | rfl
  · exact tabI_0 w
  · exact tabI_1 w
  · exact tabI_2 w
  · exact tabI_3 w
  · exact tabI_4 w
  · exact tabI_5 w
  · exact tabI_6 w
  · exact tabI_7 w
  · exact tabI_8 w
  · exact tabI_9 w
theorem index10_0 (x0 x1 x2 x3 x4 x5 x6 x7 x8 x9 : Int) (w : World) : (Instr.index 67 (.agg #[.int .i64 x0, .int .i64 x1, .int .i64 x2, .int .i64 x3, .int .i64 x4, .int .i64 x5, .int .i64 x6, .int .i64 x7, .int .i64 x8, .int .i64 x9]) (.int .i64 0)).run Tryz.prog w = .ok (.int .i64 x0) w := by kernel_rfl
theorem index10_1 (x0 x1 x2 x3 x4 x5 x6 x7 x8 x9 : Int) (w : World) : (Instr.index 67 (.agg #[.int .i64 x0, .int .i64 x1, .int .i64 x2, .int .i64 x3, .int .i64 x4, .int .i64 x5, .int .i64 x6, .int .i64 x7, .int .i64 x8, .int .i64 x9]) (.int .i64 1)).run Tryz.prog w = .ok (.int .i64 x1) w := by kernel_rfl
theorem index10_2 (x0 x1 x2 x3 x4 x5 x6 x7 x8 x9 : Int) (w : World) : (Instr.index 67 (.agg #[.int .i64 x0, .int .i64 x1, .int .i64 x2, .int .i64 x3, .int .i64 x4, .int .i64 x5, .int .i64 x6, .int .i64 x7, .int .i64 x8, .int .i64 x9]) (.int .i64 2)).run Tryz.prog w = .ok (.int .i64 x2) w := by kernel_rfl
theorem index10_3 (x0 x1 x2 x3 x4 x5 x6 x7 x8 x9 : Int) (w : World) : (Instr.index 67 (.agg #[.int .i64 x0, .int .i64 x1, .int .i64 x2, .int .i64 x3, .int .i64 x4, .int .i64 x5, .int .i64 x6, .int .i64 x7, .int .i64 x8, .int .i64 x9]) (.int .i64 3)).run Tryz.prog w = .ok (.int .i64 x3) w := by kernel_rfl
theorem index10_4 (x0 x1 x2 x3 x4 x5 x6 x7 x8 x9 : Int) (w : World) : (Instr.index 67 (.agg #[.int .i64 x0, .int .i64 x1, .int .i64 x2, .int .i64 x3, .int .i64 x4, .int .i64 x5, .int .i64 x6, .int .i64 x7, .int .i64 x8, .int .i64 x9]) (.int .i64 4)).run Tryz.prog w = .ok (.int .i64 x4) w := by kernel_rfl
theorem index10_5 (x0 x1 x2 x3 x4 x5 x6 x7 x8 x9 : Int) (w : World) : (Instr.index 67 (.agg #[.int .i64 x0, .int .i64 x1, .int .i64 x2, .int .i64 x3, .int .i64 x4, .int .i64 x5, .int .i64 x6, .int .i64 x7, .int .i64 x8, .int .i64 x9]) (.int .i64 5)).run Tryz.prog w = .ok (.int .i64 x5) w := by kernel_rfl
theorem index10_6 (x0 x1 x2 x3 x4 x5 x6 x7 x8 x9 : Int) (w : World) : (Instr.index 67 (.agg #[.int .i64 x0, .int .i64 x1, .int .i64 x2, .int .i64 x3, .int .i64 x4, .int .i64 x5, .int .i64 x6, .int .i64 x7, .int .i64 x8, .int .i64 x9]) (.int .i64 6)).run Tryz.prog w = .ok (.int .i64 x6) w := by kernel_rfl
theorem index10_7 (x0 x1 x2 x3 x4 x5 x6 x7 x8 x9 : Int) (w : World) : (Instr.index 67 (.agg #[.int .i64 x0, .int .i64 x1, .int .i64 x2, .int .i64 x3, .int .i64 x4, .int .i64 x5, .int .i64 x6, .int .i64 x7, .int .i64 x8, .int .i64 x9]) (.int .i64 7)).run Tryz.prog w = .ok (.int .i64 x7) w := by kernel_rfl
theorem index10_8 (x0 x1 x2 x3 x4 x5 x6 x7 x8 x9 : Int) (w : World) : (Instr.index 67 (.agg #[.int .i64 x0, .int .i64 x1, .int .i64 x2, .int .i64 x3, .int .i64 x4, .int .i64 x5, .int .i64 x6, .int .i64 x7, .int .i64 x8, .int .i64 x9]) (.int .i64 8)).run Tryz.prog w = .ok (.int .i64 x8) w := by kernel_rfl
theorem index10_9 (x0 x1 x2 x3 x4 x5 x6 x7 x8 x9 : Int) (w : World) : (Instr.index 67 (.agg #[.int .i64 x0, .int .i64 x1, .int .i64 x2, .int .i64 x3, .int .i64 x4, .int .i64 x5, .int .i64 x6, .int .i64 x7, .int .i64 x8, .int .i64 x9]) (.int .i64 9)).run Tryz.prog w = .ok (.int .i64 x9) w := by kernel_rfl
theorem index10 {b : List Int} (hb : b.length = 10) {k : Nat} (hk : k < 10) (w : World) : (Instr.index 67 (.agg (ints b).toArray) (.int .i64 (k : Int))).run Tryz.prog w = .ok (.int .i64 (bg b k)) w := by
  match b, hb with
  | [x0, x1, x2, x3, x4, x5, x6, x7, x8, x9], _ =>
    have h : k = 0 ∨ k = 1 ∨ k = 2 ∨ k = 3 ∨ k = 4 ∨ k = 5 ∨ k = 6 ∨ k = 7 ∨ k = 8 ∨ k = 9 := by omega
    rcases h with rfl | rfl | rfl | rfl | rfl | rfl | rfl | rfl | rfl | rfl
    · exact index10_0 x0 x1 x2 x3 x4 x5 x6 x7 x8 x9 w
    · exact index10_1 x0 x1 x2 x3 x4 x5 x6 x7 x8 x9 w
    · exact index10_2 x0 x1 x2 x3 x4 x5 x6 x7 x8 x9 w
    · exact index10_3 x0 x1 x2 x3 x4 x5 x6 x7 x8 x9 w
    · exact index10_4 x0 x1 x2 x3 x4 x5 x6 x7 x8 x9 w
    · exact index10_5 x0 x1 x2 x3 x4 x5 x6 x7 x8 x9 w
    · exact index10_6 x0 x1 x2 x3 x4 x5 x6 x7 x8 x9 w
    · exact index10_7 x0 x1 x2 x3 x4 x5 x6 x7 x8 x9 w
    · exact index10_8 x0 x1 x2 x3 x4 x5 x6 x7 x8 x9 w
    · exact index10_9 x0 x1 x2 x3 x4 x5 x6 x7 x8 x9 w
theorem wpList_store10 {ops : Array Oper} {rest : List Oper} {op : Oper} {a : Act} {w : World} {Q : Exit → Act → World → Prop} (hw : Region.wanted op (yielded ops a.tmps) = true) (x y : Operand) (ho : op.op = .store 67 x y)
    (g : Nat) (b : List Int) (hx : a.eval x = .pointer (some ⟨g, 0, none⟩)) (hy : a.eval y = .agg (ints b).toArray) (ht : w.there g 0 10) (hb : b.length = 10)
    (h : wpList Tryz.prog ops Q rest (a.put op.dst undef) (w.setCells g 0 (ints b))) : wpList Tryz.prog ops Q (op :: rest) a w :=
  wpList_store_want hw _ x y ho g 0 (ints b) hx hy (by rw [show (ints b).length = 10 by simp [ints, hb]]; exact ht) (by rw [show (ints b).length = 10 by simp [ints, hb]]; kernel_rfl) ints_one h
theorem wpList_load10b {ops : Array Oper} {rest : List Oper} {op : Oper} {a : Act} {w : World} {Q : Exit → Act → World → Prop} (hw : Region.wanted op (yielded ops a.tmps) = true) (x : Operand) (ho : op.op = .load 67 x)
    (g : Nat) (hx : a.eval x = .pointer (some ⟨g, 0, none⟩)) (b : List Int) (hc : w.rangeAt g 0 (ints b)) (hb : b.length = 10)
    (h : wpList Tryz.prog ops Q rest (a.put op.dst (.agg (ints b).toArray)) w) : wpList Tryz.prog ops Q (op :: rest) a w :=
  wpList_load_want hw _ x ho g 0 hx (ints b) _ hc Tryz.underlying67 rfl (by rw [show (ints b).length = 10 by simp [ints, hb]]; kernel_rfl) h
def frN (k m : Nat) : Nat := (frI (k : Int) (m : Int)).toNat
theorem frN_eq {k m : Nat} (hk : k < 10) (hm : m < 10) : frI (k : Int) (m : Int) = (frN k m : Int) ∧ frN k m ≤ 7 := by
  have := fr_bd (x := (k : Int)) (y := (m : Int)) (by omega) (by omega) (by omega) (by omega)
  unfold frN; omega
def mcS (n : Nat) : Nat := ((List.range n).map fun i => frN (i / 10) (i % 10)).sum
theorem mcS_succ {k m : Nat} (hm : m < 10) : mcS (k * 10 + m + 1) = mcS (k * 10 + m) + frN k m := by
  unfold mcS
  rw [List.range_succ, List.map_append, List.sum_append]
  simp [show (k * 10 + m) / 10 = k by omega, show (k * 10 + m) % 10 = m by omega]
theorem mcS_le : ∀ n, n ≤ 100 → mcS n ≤ 7 * n
  | 0, _ => by simp [mcS]
  | n + 1, h => by
    have ih := mcS_le n (by omega)
    have h1 := mcS_succ (k := n / 10) (m := n % 10) (Nat.mod_lt _ (by decide))
    rw [show n / 10 * 10 + n % 10 = n by omega] at h1
    have h2 := (frN_eq (k := n / 10) (m := n % 10) (by omega) (by omega)).2
    omega
def mcV : Value := fracV (mcS 100) 100
set_option maxHeartbeats 4000000 in
theorem sMeanChanges_c (w : World) : Calls Tryz.prog 25 #[] w fun e w' => e = .returned mcV ∧ Below w.heap.size w w' := by
  have B0 := Lib.hid (Bk.new w 25 #[.int .i64 0, .int .i64 0])
  have HB0 := Lib.hid (below_one (w := w) (.cells #[.int .i64 0, .int .i64 0] 25))
  have HF : Hid (mcV = fracV (mcS 100) 100) := rfl
  go_enter Tryz.func25, Tryz.ntmps25
  go_wp2
  go_loopw [1, 2] (fun s j wr => ∃ k : Nat, k ≤ 10 ∧ j = .int .i64 (k : Int) ∧ s = .int .i64 ((mcS (k * 10) : Nat) : Int) ∧ Hid (Bk wr w.heap.size 25 #[.int .i64 0, .int .i64 0]) ∧ Hid (Below w.heap.size w wr)) (fun _ j _ => 10 - (intOf j).toNat)
  case atStart => exact ⟨0, by omega, rfl, rfl, B0, HB0⟩
  case round =>
    obtain ⟨k, hk, rfl, rfl, BB, HB⟩ := hrel
    by_cases hlt : k < 10
    · have hdd : decide ((k : Int) < 10) = true := by simp; omega
      have hddn : decide (k < 10) = true := by simp; omega
      rename World => wo
      go_wp2
      go_loopw [1, 3] (fun s j wr => ∃ m : Nat, m ≤ 10 ∧ j = .int .i64 (m : Int) ∧ s = .int .i64 ((mcS (k * 10 + m) : Nat) : Int) ∧ Hid (Bk wr w.heap.size 25 #[.int .i64 0, .int .i64 0]) ∧ Hid (Below w.heap.size w wr)) (fun _ j _ => 10 - (intOf j).toNat)
      case atStart => exact ⟨0, by omega, rfl, rfl, BB, HB⟩
      case round =>
        obtain ⟨m, hm, rfl, rfl, BBi, HBi⟩ := hrel
        by_cases hlm : m < 10
        · have hdm : decide ((m : Int) < 10) = true := by simp; omega
          have HS := Lib.hid (mcS_succ (k := k) hlm)
          have hsl := mcS_le (k * 10 + m) (by omega)
          obtain ⟨e1, e2⟩ := frN_eq hlt hlm
          have HX := Lib.hid (fun w => l2Digit_c (k : Int) (by omega) (by omega) w)
          have HY := Lib.hid (fun w => l2Digit_c (m : Int) (by omega) (by omega) w)
          have HFa := Lib.hid (fun w => l2Far_c (k : Int) (m : Int) (by omega) (by omega) (by omega) (by omega) w)
          rw [e1] at HFa
          generalize mcS (k * 10 + m) = s at *
          generalize frN k m = fr at *
          clear e1
          go_wp2_with fail
          refine (HX.out _).mono ?_
          rintro e w2 ⟨rfl, hb2⟩
          go_wp2_with fail
          refine (HY.out _).mono ?_
          rintro e w3 ⟨rfl, hb3⟩
          have HB3 := Lib.hid (Below.chain (Below.chain HBi.out hb2) hb3)
          have BB3 := Lib.hid ((BBi.out.below hb2).below hb3)
          clear hb2 hb3
          go_wp2_with fail
          refine (HFa.out _).mono ?_
          rintro e _ ⟨rfl, rfl⟩
          go_wp2
          go_roundw
          case rel => exact ⟨m + 1, by omega, by go_num, by rw [show k * 10 + (m + 1) = k * 10 + m + 1 by omega, HS.out]; first | rfl | simp, BB3, HB3⟩
          case measure => simp [intOf]; omega
        · obtain rfl : m = 10 := by omega
          have hdm : decide (((10 : Nat) : Int) < 10) = false := by simp
          have HE : Hid (mcS (k * 10 + 10) = mcS ((k + 1) * 10)) := by show _ = _; rw [show k * 10 + 10 = (k + 1) * 10 by omega]
          go_wp2
          go_roundw
          case rel => exact ⟨k + 1, by omega, by go_num, by rw [HE.out], BBi, HBi⟩
          case measure => simp [intOf]; omega
    · obtain rfl : k = 10 := by omega
      have hdd : decide (((10 : Nat) : Int) < 10) = false := by simp
      have hsk := mcS_le 100 (by omega)
      rw [show 10 * 10 = 100 by rfl] at *
      generalize mcS 100 = s at *
      have HFR := Lib.hid (l9Cut_c s 100 (by omega) (by omega) (by omega) wr)
      go_wp2_with fail
      refine HFR.out.mono ?_
      rintro e w2 ⟨rfl, hb5⟩
      have BB2 := BB.out.below hb5
      have hb6 := Below.chain HB.out hb5
      have e0 : w2.cell? ⟨w.heap.size, 0, none⟩ = some (.int .i64 0) := BB2.cell 0
      have e1 : w2.cell? ⟨w.heap.size, 1, none⟩ = some (.int .i64 0) := BB2.cell 1
      have f0 := BB2.frozen 0
      have f1 := BB2.frozen 1
      obtain ⟨u0, u1, hb7⟩ := two_set (.int .i64 (fracN s 100)) (.int .i64 (fracD s 100)) e0 e1 hb6 (Nat.le_refl _)
      clear BB2 hb6 hb5 BB HB
      unfold fracV at HF ⊢
      go_wp2
      clear e0 e1 f0 f1
      generalize (World.setCell (World.setCell w2 _ _) _ _) = w3 at *
      refine bodyPost_ret (v := mcV) (by rw [HF.out]; simp [results, Tryz.results25, go_sem, u0, u1]) rfl ⟨rfl, hb7⟩
set_option maxHeartbeats 4000000 in
theorem MeanChanges_c (w : World) : Calls Tryz.prog 24 #[] w fun e w' => e = .returned mcV ∧ Below w.heap.size w w' := by
  have B0 := Lib.hid (Bk.new w 25 #[.int .i64 0, .int .i64 0])
  have HB0 := Lib.hid (below_one (w := w) (.cells #[.int .i64 0, .int .i64 0] 25))
  have HF : Hid (mcV = fracV (mcS 100) 100) := rfl
  have HTI : Hid (∀ k : Nat, k < 10 → ∀ w : World, (Instr.index 68 (.agg (ints (tabTo 100)).toArray) (.int .i64 (k : Int))).run Tryz.prog w = .ok (.agg (ints (rowT k)).toArray) w) := fun k h w => tabI h w
  have HCT := Lib.hid (fun w => ChangeTable_c w)
  unfold aggI at HCT
  generalize tabTo 100 = TT at *
  go_enter Tryz.func24, Tryz.ntmps24
  go_wp2_with fail
  refine (HCT.out _).mono ?_
  rintro e w1 ⟨rfl, hb1⟩
  have B1 := Lib.hid (B0.out.below hb1)
  have HB1 := Lib.hid (Below.chain HB0.out hb1)
  clear B0 HB0 hb1 HCT
  go_wp2
  go_loopw [1, 7] (fun s j wr => ∃ k : Nat, k ≤ 10 ∧ j = .int .i64 (k : Int) ∧ s = .int .i64 ((mcS (k * 10) : Nat) : Int) ∧ Hid (Bk wr w.heap.size 25 #[.int .i64 0, .int .i64 0]) ∧ Hid (Below w.heap.size w wr)) (fun _ j _ => 10 - (intOf j).toNat)
  case atStart => exact ⟨0, by omega, rfl, rfl, B1, HB1⟩
  case round =>
    obtain ⟨k, hk, rfl, rfl, BB, HB⟩ := hrel
    by_cases hlt : k < 10
    · have hdd : decide ((k : Int) < 10) = true := by simp; omega
      have hddn : decide (k < 10) = true := by simp; omega
      have hTI := HTI.out k hlt
      have hRl := rowT_len k
      have HRB := Lib.hid (fun m (h : m < 10) => rowT_bg (k := k) h)
      generalize rowT k = R at *
      have tb := there_new wr (#[.int .i64 0, .int .i64 0, .int .i64 0, .int .i64 0, .int .i64 0, .int .i64 0, .int .i64 0, .int .i64 0, .int .i64 0, .int .i64 0] : Array Value) 67 (n := 10) (by decide)
      have hx := below_cells (ints R) (wr.alloc (.cells #[.int .i64 0, .int .i64 0, .int .i64 0, .int .i64 0, .int .i64 0, .int .i64 0, .int .i64 0, .int .i64 0, .int .i64 0, .int .i64 0] 67)) wr.heap.size 0 (below_one (w := wr) (.cells #[.int .i64 0, .int .i64 0, .int .i64 0, .int .i64 0, .int .i64 0, .int .i64 0, .int .i64 0, .int .i64 0, .int .i64 0, .int .i64 0] 67)) (Nat.le_refl _)
      have TR := World.rangeAt_setCells_same (wr.alloc (.cells #[.int .i64 0, .int .i64 0, .int .i64 0, .int .i64 0, .int .i64 0, .int .i64 0, .int .i64 0, .int .i64 0, .int .i64 0, .int .i64 0] 67)) wr.heap.size 0 (ints R) (by rw [show (ints R).length = 10 by simp [ints, hRl]]; exact tb)
      have BX := Lib.hid (BB.out.below hx)
      have HX := Lib.hid (Below.chain HB.out hx)
      clear hx BB HB
      have hI10 := fun (m : Nat) (hm : m < 10) w => index10 hRl hm w
      go_wp2_with (first | (refine wpList_store10 rfl _ _ rfl _ R rfl rfl ?_ hRl ?_; exact tb) | (refine wpList_load10b rfl _ rfl _ rfl R ?_ hRl ?_; exact TR))
      generalize World.setCells _ _ _ _ = wo at *
      clear tb TR
      go_loopw [1, 11] (fun s j wr => ∃ m : Nat, m ≤ 10 ∧ j = .int .i64 (m : Int) ∧ s = .int .i64 ((mcS (k * 10 + m) : Nat) : Int) ∧ wo = wr) (fun _ j _ => 10 - (intOf j).toNat)
      case atStart => exact ⟨0, by omega, rfl, rfl, rfl⟩
      case round =>
        obtain ⟨m, hm, rfl, rfl, rfl⟩ := hrel
        by_cases hlm : m < 10
        · have hdm : decide ((m : Int) < 10) = true := by simp; omega
          have HS := Lib.hid (mcS_succ (k := k) hlm)
          have hsl := mcS_le (k * 10 + m) (by omega)
          obtain ⟨e1, e2⟩ := frN_eq hlt hlm
          have hi := hI10 m hlm
          rw [HRB.out m hlm, e1] at hi
          generalize mcS (k * 10 + m) = s at *
          generalize frN k m = fr at *
          clear e1 hI10
          go_wp2
          go_roundw
          case rel => exact ⟨m + 1, by omega, by go_num, by rw [show k * 10 + (m + 1) = k * 10 + m + 1 by omega, HS.out]; first | rfl | simp, trivial⟩
          case measure => simp [intOf]; omega
        · obtain rfl : m = 10 := by omega
          have hdm : decide (((10 : Nat) : Int) < 10) = false := by simp
          have HE : Hid (mcS (k * 10 + 10) = mcS ((k + 1) * 10)) := by show _ = _; rw [show k * 10 + 10 = (k + 1) * 10 by omega]
          go_wp2
          go_roundw
          case rel => exact ⟨k + 1, by omega, by go_num, by rw [HE.out], BX, HX⟩
          case measure => simp [intOf]; omega
    · obtain rfl : k = 10 := by omega
      have hdd : decide (((10 : Nat) : Int) < 10) = false := by simp
      have hsk := mcS_le 100 (by omega)
      rw [show 10 * 10 = 100 by rfl] at *
      generalize mcS 100 = s at *
      have HFR := Lib.hid (fraction_c s 100 (by omega) (by omega) (by omega) wr)
      go_wp2_with fail
      refine HFR.out.mono ?_
      rintro e w2 ⟨rfl, hb5⟩
      have BB2 := BB.out.below hb5
      have hb6 := Below.chain HB.out hb5
      have e0 : w2.cell? ⟨w.heap.size, 0, none⟩ = some (.int .i64 0) := BB2.cell 0
      have e1 : w2.cell? ⟨w.heap.size, 1, none⟩ = some (.int .i64 0) := BB2.cell 1
      have f0 := BB2.frozen 0
      have f1 := BB2.frozen 1
      obtain ⟨u0, u1, hb7⟩ := two_set (.int .i64 (fracN s 100)) (.int .i64 (fracD s 100)) e0 e1 hb6 (Nat.le_refl _)
      clear BB2 hb6 hb5 BB HB
      unfold fracV at HF ⊢
      go_wp2
      clear e0 e1 f0 f1
      generalize (World.setCell (World.setCell w2 _ _) _ _) = w3 at *
      refine bodyPost_ret (v := mcV) (by rw [HF.out]; simp [results, Tryz.results24, go_sem, u0, u1]) rfl ⟨rfl, hb7⟩
end Go.Proofs.YtbobiiodbbcodaaGreatDoor
namespace Go.Proofs.YtbobiiodbbcodaaGreatDoor
open Go.RowKit
set_option linter.unusedVariables false
/-- the row while it is gone through: what is kept, what is left over, what is still to come -/
def DInv {α : Type} (p : α → Bool) (es : List α) (j i : Nat) (R : List α) : Prop :=
  ∃ J, R = (es.take j).filter (fun x => !p x) ++ (J ++ es.drop j) ∧ ((es.take j).filter fun x => !p x).length = i ∧ i + J.length = j ∧ i < j ∧ j ≤ es.length
theorem DInv.start {α : Type} {p : α → Bool} {es : List α} {k : Nat} {x : α} (hx : es[k]? = some x) (hp : p x = true) (h : ∀ j y, j < k → es[j]? = some y → p y = false) : DInv p es (k + 1) k es := by
  have hk : k < es.length := (List.getElem?_eq_some_iff.1 hx).1
  have hall : (es.take k).filter (fun x => !p x) = es.take k := by
    rw [List.filter_eq_self]
    intro y hy
    obtain ⟨j, hj, rfl⟩ := List.getElem_of_mem hy
    have hj2 : j < k := by rw [List.length_take] at hj; omega
    have := h j (es.take k)[j] hj2 (by rw [List.getElem_take, List.getElem?_eq_getElem (by omega)])
    rw [this]; rfl
  have hf : (es.take (k + 1)).filter (fun x => !p x) = es.take k := by
    rw [List.take_succ_eq_append_getElem hk, List.filter_append, hall]
    have : es[k] = x := by rw [List.getElem?_eq_getElem hk] at hx; exact Option.some.inj hx
    simp [this, hp]
  refine ⟨[x], ?_, ?_, by simp, by omega, hk⟩
  · rw [hf]
    have e : es[k] = x := by rw [List.getElem?_eq_getElem hk] at hx; exact Option.some.inj hx
    calc es = es.take k ++ es.drop k := (List.take_append_drop k es).symm
      _ = _ := by rw [List.drop_eq_getElem_cons hk, e]; rfl
  · rw [hf, List.length_take]; omega
theorem DInv.len {α : Type} {p : α → Bool} {es R : List α} {i j : Nat} (h : DInv p es j i R) : R.length = es.length := by
  obtain ⟨J, rfl, h1, h2, h3, h4⟩ := h
  simp only [List.length_append, List.length_drop]; omega
theorem DInv.get {α : Type} {p : α → Bool} {es R : List α} {i j : Nat} {x : α} (h : DInv p es j i R) (hx : es[j]? = some x) : R[j]? = some x := by
  obtain ⟨J, rfl, h1, h2, h3, h4⟩ := h
  rw [List.getElem?_append_right (by omega), List.getElem?_append_right (by omega), List.getElem?_drop, ← hx]
  congr 1; omega
theorem DInv.skip {α : Type} {p : α → Bool} {es R : List α} {i j : Nat} {x : α} (h : DInv p es j i R) (hx : es[j]? = some x) (hp : p x = true) : DInv p es (j + 1) i R := by
  obtain ⟨J, rfl, h1, h2, h3, h4⟩ := h
  have hj : j < es.length := (List.getElem?_eq_some_iff.1 hx).1
  have e : es[j] = x := by rw [List.getElem?_eq_getElem hj] at hx; exact Option.some.inj hx
  have hf : (es.take (j + 1)).filter (fun x => !p x) = (es.take j).filter (fun x => !p x) := by
    rw [List.take_succ_eq_append_getElem hj, List.filter_append]; simp [e, hp]
  refine ⟨J ++ [x], ?_, by rw [hf]; exact h1, by simp; omega, by omega, hj⟩
  rw [hf, List.drop_eq_getElem_cons hj, e]; simp
theorem DInv.keep {α : Type} {p : α → Bool} {es R : List α} {i j : Nat} {x : α} (h : DInv p es j i R) (hx : es[j]? = some x) (hp : p x = false) : DInv p es (j + 1) (i + 1) (R.set i x) := by
  obtain ⟨J, rfl, h1, h2, h3, h4⟩ := h
  have hj : j < es.length := (List.getElem?_eq_some_iff.1 hx).1
  have e : es[j] = x := by rw [List.getElem?_eq_getElem hj] at hx; exact Option.some.inj hx
  have hf : (es.take (j + 1)).filter (fun x => !p x) = (es.take j).filter (fun x => !p x) ++ [x] := by
    rw [List.take_succ_eq_append_getElem hj, List.filter_append]; simp [e, hp]
  cases J with
  | nil => simp at h2; omega
  | cons y J' =>
    refine ⟨J' ++ [x], ?_, by rw [hf, List.length_append, h1]; rfl, by simp at h2 ⊢; omega, by omega, hj⟩
    rw [hf, List.drop_eq_getElem_cons hj, e, List.cons_append, set_mid _ _ _ _ h1.symm]
    simp
theorem DInv.done {α : Type} {p : α → Bool} {es R : List α} {i : Nat} (h : DInv p es es.length i R) : R.take i = es.filter (fun x => !p x) ∧ i = (es.filter fun x => !p x).length := by
  obtain ⟨J, rfl, h1, h2, h3, h4⟩ := h
  rw [List.take_length] at h1 ⊢
  exact ⟨by rw [List.take_left' h1], h1.symm⟩
/-- cells stored one after the other into a row -/
theorem own_cells {lo size n cap g : Nat} {e : TypeId} : ∀ (vs : List Value) (o : Nat) (w : World) (xs : List Value), w.ownsRow lo e size (.slice (some ⟨g, 0, none⟩) n cap) n xs →
    ∃ ys, (w.setCells g o vs).ownsRow lo e size (.slice (some ⟨g, 0, none⟩) n cap) n ys ∧ ys.take o = xs.take o ∧ w.grownBy (w.setCells g o vs) (some g)
  | [], o, w, xs, h => ⟨xs, h, rfl, World.grownBy.refl _ _⟩
  | v :: r, o, w, xs, h => by
    have h1 := h.stored o v
    obtain ⟨ys, h2, h3, h4⟩ := own_cells r (o + 1) (w.setCell ⟨g, o, none⟩ v) _ h1.1
    refine ⟨ys, h2, ?_, ?_⟩
    · have : (ys.take (o + 1)).take o = ((xs.set o v).take (o + 1)).take o := by rw [h3]
      rw [List.take_take, List.take_take, Nat.min_eq_left (by omega)] at this
      rw [this, List.take_set_of_le (Nat.le_refl _)]
    · exact ⟨h4.os.trans h1.2.os, h4.tape.trans h1.2.tape, h4.output.trans h1.2.output, Nat.le_trans h1.2.size h4.size, fun k hk hne => (h4.block k (Nat.lt_of_lt_of_le hk h1.2.size) hne).trans (h1.2.block k hk hne)⟩
/-- the head of a row -/
theorem own_cut {w : World} {lo size n m cap g : Nat} {e : TypeId} {xs : List Value} (h : w.ownsRow lo e size (.slice (some ⟨g, 0, none⟩) n cap) n xs) (hm : m ≤ n) :
    w.ownsRow lo e size (.slice (some ⟨g, 0, none⟩) m cap) m (xs.take (m * size)) := by
  have hl := h.1
  refine ⟨?_, ?_⟩
  · rw [List.length_take, hl]; exact Nat.min_eq_left (Nat.mul_le_mul_right _ hm)
  · rcases h.2 with ⟨h', _⟩ | ⟨g', cap', cur, h', hb, hg, hnc, hcm, hcs, ht⟩
    · cases h'
    · injection h' with h1 _ h3
      injection h1 with h1; injection h1 with h1
      subst h1 h3
      exact .inr ⟨g, cap, cur, rfl, hb, hg, by omega, hcm, hcs, by rw [← ht, List.take_take, Nat.min_eq_left (Nat.mul_le_mul_right _ hm)]⟩
theorem run_clear_cells {P : Program} (w : World) (t e ty : TypeId) (z : Value) (ht : P.underlying t = some (.slice e)) (hv : ∀ w, (zeroValue e).run P w = .ok z w) (h1 : ∀ v ∈ z.cells.toList, v.oneCell' = true) (hpos : 0 < z.cells.size) (b o n c : Nat) (hn : 0 < n)
    (hth : w.there b o (n * z.cells.size)) :
    (Builtin.clear_ #[t] ty #[.slice (some ⟨b, o, none⟩) n c]).run P w = .ok (.tuple #[]) (w.setCells b o (Builtin.zeroCells z.cells n).toList) := by
  have hlen : (Builtin.zeroCells z.cells n).toList.length = n * z.cells.size := by simp [Builtin.zeroCells]
  have hst := run_storeCells_cells (P := P) b o (Builtin.zeroCells z.cells n).toList 0 w (by rw [hlen]; exact fun j hj => by simpa using (hth j hj).1) (by rw [hlen]; exact fun j hj => by simpa using (hth j hj).2)
    (by
      intro v hv'
      simp only [Builtin.zeroCells, Array.toList_map, List.mem_map, Array.toList_range, List.mem_range] at hv'
      obtain ⟨i, _, rfl⟩ := hv'
      have hlt := Nat.mod_lt i hpos
      have : z.cells[i % z.cells.size]! = z.cells[i % z.cells.size] := by simp [hlt]
      rw [this]
      exact h1 _ (by simp))
  simp only [Nat.add_zero] at hst
  obtain ⟨m, rfl⟩ : ∃ m, n = m + 1 := ⟨n - 1, by omega⟩
  simp [Builtin.clear_, run_underlying ht, hv, hst]
theorem own_there {w : World} {lo size n cap g : Nat} {e : TypeId} {xs : List Value} (h : w.ownsRow lo e size (.slice (some ⟨g, 0, none⟩) n cap) n xs) : w.there g 0 (n * size) := fun j hj => by
  rw [Nat.zero_add]
  refine ⟨?_, h.frozenAt j⟩
  rw [h.cellAt j hj, List.getElem?_eq_getElem (by rw [h.1]; exact hj)]; rfl
end Go.Proofs.YtbobiiodbbcodaaGreatDoor
namespace Go.Proofs.YtbobiiodbbcodaaGreatDoor
open Go.RowKit
set_option linter.unusedVariables false
set_option maxRecDepth 100000
theorem Sl.partsV {w : World} {v : Value} {xs : List Value} (h : Sl w 1 v xs.length xs) : ∃ a c, v = .slice a xs.length c ∧ xs.length ≤ c ∧ c ≤ 9223372036854775807 ∧
    Hid (∀ k x, xs[k]? = some x → ∃ b off, a = some ⟨b, off, none⟩ ∧ w.cell? ⟨b, off + k, none⟩ = some x) := by
  obtain ⟨a, c, rfl, h1, h2, h3, h4⟩ := h
  refine ⟨a, c, rfl, h1, by unfold maxLen at h2; omega, fun k x hk => ?_⟩
  have hlt : k < xs.length := (List.getElem?_eq_some_iff.1 hk).1
  obtain ⟨b, off, rfl, hc⟩ := h4 (by omega)
  exact ⟨b, off, rfl, by rw [hc k (by omega), hk]⟩
theorem firstAt_cases {α : Type} (p : α → Bool) (xs : List α) : (firstAt p xs = -1 ∧ xs.filter (fun x => !p x) = xs) ∨ ∃ (k : Nat) (x : α), firstAt p xs = (k : Int) ∧ xs[k]? = some x ∧ p x = true ∧ ∀ (j : Nat) (y : α), j < k → xs[j]? = some y → p y = false := by
  unfold firstAt
  cases h : xs.findIdx? p with
  | none =>
    left
    rw [List.findIdx?_eq_none_iff] at h
    exact ⟨rfl, by rw [List.filter_eq_self]; intro x hx; rw [h x hx]; rfl⟩
  | some k =>
    right
    rw [List.findIdx?_eq_some_iff_getElem] at h
    obtain ⟨hk, hp, hb⟩ := h
    refine ⟨k, xs[k], rfl, List.getElem?_eq_getElem hk, hp, fun j y hj hy => ?_⟩
    have hjl : j < xs.length := by omega
    have := hb j hj
    rw [List.getElem?_eq_getElem hjl] at hy
    have e := Option.some.inj hy
    rw [e] at this
    simpa using this
end Go.Proofs.YtbobiiodbbcodaaGreatDoor
namespace Go.Proofs.YtbobiiodbbcodaaGreatDoor
open Go.RowKit
set_option linter.unusedVariables false
set_option maxRecDepth 100000
theorem Sl.keepB {w w' : World} {size n B : Nat} {v : Value} {xs : List Value} (h : Sl w size v n xs) (hb : Below B w w') (hv : ∀ g, v.ownBlock = some g → g < B) : Sl w' size v n xs := by
  obtain ⟨a, c, rfl, h1, h2, h3, h4⟩ := h
  refine ⟨a, c, rfl, h1, h2, h3, fun hn => ?_⟩
  obtain ⟨b, off, rfl, hc⟩ := h4 hn
  refine ⟨b, off, rfl, fun j hj => ?_⟩
  have hlt := hv b rfl
  rw [← hc j hj]
  exact hb.cell (p := ⟨b, off + j, none⟩) hlt
/-- a slice of slices that reads so, all its blocks below B -/
def RdSS (w : World) (B : Nat) (u : Value) (xss : List (List Int)) : Prop :=
  ∃ vs, vs.length = xss.length ∧ Sl w 1 u vs.length vs ∧ (∀ g, u.ownBlock = some g → g < B) ∧
    ∀ (k : Nat) (v : Value) (xs : List Int), vs[k]? = some v → xss[k]? = some xs → Ints w v xs ∧ ∀ g, v.ownBlock = some g → g < B
theorem RdSS.keep {w w' : World} {B B' : Nat} {u : Value} {xss : List (List Int)} (h : RdSS w B u xss) (hb : Below B' w w') (hB : B ≤ B') : RdSS w' B u xss := by
  obtain ⟨vs, h1, h2, h3, h4⟩ := h
  exact ⟨vs, h1, h2.keepB hb (fun g hg => Nat.lt_of_lt_of_le (h3 g hg) hB), h3, fun k v xs hv hx => ⟨Sl.keepB (h4 k v xs hv hx).1 hb (fun g hg => Nat.lt_of_lt_of_le ((h4 k v xs hv hx).2 g hg) hB), (h4 k v xs hv hx).2⟩⟩
theorem OwnSS.rd {w : World} {lo : Nat} {u : Value} {xss : List (List Int)} (h : OwnSS w lo u xss) : RdSS w w.heap.size u xss := by
  obtain ⟨vs, ho, hi⟩ := h
  exact ⟨vs, hi.1, Sl.of_own (ownsRow_cast ho hi.1.symm rfl), fun g hg => (ho.lt g hg).2, fun k v xs hv hx => ⟨Ints.of_own (hi.2.1 k v xs hv hx), fun g hg => ((hi.2.1 k v xs hv hx).lt g hg).2⟩⟩
theorem RdSS.parts {w : World} {B : Nat} {u : Value} {xss : List (List Int)} (h : RdSS w B u xss) : ∃ a c, u = .slice a xss.length c ∧ xss.length ≤ 9223372036854775807 ∧
    Hid (∀ k xs, xss[k]? = some xs → ∃ b off a' c', a = some ⟨b, off, none⟩ ∧ w.cell? ⟨b, off + k, none⟩ = some (.slice a' xs.length c') ∧ Ints w (.slice a' xs.length c') xs) := by
  obtain ⟨vs, h1, h2, h3, h4⟩ := h
  have hle := h2.le
  obtain ⟨a, c, rfl, _, _, HC⟩ := h2.partsV
  refine ⟨a, c, by rw [h1], by omega, fun k xs hk => ?_⟩
  have hlt : k < vs.length := by rw [h1]; exact (List.getElem?_eq_some_iff.1 hk).1
  have hv : vs[k]? = some vs[k] := List.getElem?_eq_getElem hlt
  obtain ⟨b, off, e, hc⟩ := HC.out k _ hv
  have hI := (h4 k _ xs hv hk).1
  obtain ⟨a', c', e2, _⟩ := hI.parts
  exact ⟨b, off, a', c', e, by rw [hc, e2], by rw [← e2]; exact hI⟩
/-! marks -/
def totSS (xss : List (List Int)) : Nat := (xss.map List.length).sum
def seqSS : Int → List (List Int) → List (List Int)
  | _, [] => []
  | k, xs :: t => seqI k xs.length :: seqSS (k + xs.length) t
theorem seqSS_len : ∀ (k : Int) (xss : List (List Int)), (seqSS k xss).length = xss.length
  | _, [] => rfl
  | k, xs :: t => by simp [seqSS, seqSS_len]
theorem seqSS_append : ∀ (k : Int) (a b : List (List Int)), seqSS k (a ++ b) = seqSS k a ++ seqSS (k + totSS a) b
  | k, [], b => by simp [seqSS, totSS]
  | k, xs :: t, b => by
    simp only [List.cons_append, seqSS, seqSS_append]
    congr 3
    simp only [totSS, List.map_cons, List.sum_cons]; omega
theorem totSS_succ {xss : List (List Int)} {i : Nat} {xs : List Int} (h : xss[i]? = some xs) : totSS (xss.take (i + 1)) = totSS (xss.take i) + xs.length := by
  unfold totSS; rw [take_snoc h, List.map_append, List.sum_append]; simp
theorem totSS_le (xss : List (List Int)) (i : Nat) : totSS (xss.take i) ≤ totSS xss := by
  have h : totSS xss = totSS (xss.take i) + totSS (xss.drop i) := by
    unfold totSS
    rw [← List.sum_append, ← List.map_append, List.take_append_drop]
  omega
theorem seqSS_at {k : Int} {xss : List (List Int)} {i : Nat} {xs : List Int} (h : xss[i]? = some xs) : (seqSS k xss)[i]? = some (seqI (k + totSS (xss.take i)) xs.length) := by
  have hi : i < xss.length := (List.getElem?_eq_some_iff.1 h).1
  have e : xss = xss.take i ++ xs :: xss.drop (i + 1) := by
    have hx : xss[i] = xs := (List.getElem?_eq_some_iff.1 h).2
    conv => lhs; rw [← List.take_append_drop i xss, List.drop_eq_getElem_cons hi, hx]
  have hl : (seqSS k (xss.take i)).length = i := by rw [seqSS_len, List.length_take]; omega
  conv => lhs; rw [e]
  rw [seqSS_append, List.getElem?_append_right (by omega), hl, Nat.sub_self]; rfl
/-- marked as far as i -/
def mkSS (k : Int) (xss : List (List Int)) (i : Nat) : List (List Int) := seqSS k (xss.take i) ++ xss.drop i
theorem mkSS_at {k : Int} {xss : List (List Int)} {i : Nat} (hi : i ≤ xss.length) : (mkSS k xss i)[i]? = xss[i]? := by
  unfold mkSS
  have hl : (seqSS k (xss.take i)).length = i := by rw [seqSS_len, List.length_take]; omega
  rw [List.getElem?_append_right (by omega), hl, Nat.sub_self, List.getElem?_drop, Nat.add_zero]
theorem mkSS_succ {k : Int} {xss : List (List Int)} {i : Nat} {xs : List Int} (h : xss[i]? = some xs) : (mkSS k xss i).set i (seqI (k + totSS (xss.take i)) xs.length) = mkSS k xss (i + 1) := by
  have hi : i < xss.length := (List.getElem?_eq_some_iff.1 h).1
  have hx : xss[i] = xs := (List.getElem?_eq_some_iff.1 h).2
  have hl : (seqSS k (xss.take i)).length = i := by rw [seqSS_len, List.length_take]; omega
  unfold mkSS
  rw [List.drop_eq_getElem_cons hi, set_mid _ _ _ _ hl.symm, take_snoc h, seqSS_append]
  simp [seqSS]
theorem mkSS_zero (k : Int) (xss : List (List Int)) : mkSS k xss 0 = xss := rfl
theorem mkSS_all (k : Int) (xss : List (List Int)) : mkSS k xss xss.length = seqSS k xss := by unfold mkSS; rw [List.take_length, List.drop_length, List.append_nil]
theorem mkSS_len {k : Int} {xss : List (List Int)} {i : Nat} (hi : i ≤ xss.length) : (mkSS k xss i).length = xss.length := by
  unfold mkSS; rw [List.length_append, seqSS_len, List.length_take, List.length_drop]; omega
theorem Inn.set {w w' : World} {lo : Nat} {vs : List Value} {xss : List (List Int)} {i : Nat} {v : Value} {ys : List Int} (h : Inn w lo vs xss) (hv : vs[i]? = some v) (hi : i < xss.length)
    (ho : w'.ownsRow lo 3 1 v ys.length (ints ys)) (hg : w.grownBy w' v.ownBlock) : Inn w' lo vs (xss.set i ys) := by
  refine ⟨by rw [List.length_set]; exact h.1, fun k a xs ha hx => ?_, h.2.2⟩
  by_cases hk : k = i
  · subst hk
    rw [List.getElem?_set_self hi] at hx
    rw [hv] at ha
    obtain rfl := Option.some.inj ha
    obtain rfl := Option.some.inj hx
    exact ho
  · rw [List.getElem?_set_ne (by omega)] at hx
    have h1 := h.2.1 k a xs ha hx
    refine h1.kept hg ?_
    by_cases hlt : k < i
    · rcases h.2.2 k i a v hlt ha hv with h2 | h2
      · rw [h2]; cases a.ownBlock <;> simp
      · exact .inr (fun e => h2 e.symm)
    · rcases h.2.2 i k v a (by omega) hv ha with h2 | h2
      · exact .inl h2
      · exact .inr h2
end Go.Proofs.YtbobiiodbbcodaaGreatDoor
namespace Go.Proofs.YtbobiiodbbcodaaGreatDoor
open Go.RowKit
set_option linter.unusedVariables false
set_option maxRecDepth 100000
theorem Inn.tail {w : World} {lo : Nat} {v : Value} {vs : List Value} {xs : List Int} {xss : List (List Int)} (h : Inn w lo (v :: vs) (xs :: xss)) : Inn w lo vs xss :=
  ⟨by have := h.1; simpa using this, fun k a ys ha hy => h.2.1 (k + 1) a ys (by simpa using ha) (by simpa using hy), fun i j a b hij ha hb => h.2.2 (i + 1) (j + 1) a b (by omega) (by simpa using ha) (by simpa using hb)⟩
theorem Inn.head {w : World} {lo : Nat} {v : Value} {vs : List Value} {xs : List Int} {xss : List (List Int)} (h : Inn w lo (v :: vs) (xs :: xss)) : w.ownsRow lo 3 1 v xs.length (ints xs) ∧ ∀ b ∈ vs, b.ownBlock = none ∨ b.ownBlock ≠ v.ownBlock :=
  ⟨h.2.1 0 v xs rfl rfl, fun b hb => by obtain ⟨j, hj, rfl⟩ := List.getElem_of_mem hb; exact h.2.2 0 (j + 1) v vs[j] (by omega) rfl (by simp [hj])⟩
theorem Inn.cons {w : World} {lo : Nat} {v : Value} {vs : List Value} {xs : List Int} {xss : List (List Int)} (h : Inn w lo vs xss) (ho : w.ownsRow lo 3 1 v xs.length (ints xs)) (hd : ∀ b ∈ vs, b.ownBlock = none ∨ b.ownBlock ≠ v.ownBlock) : Inn w lo (v :: vs) (xs :: xss) := by
  refine ⟨by simp [h.1], fun k a ys ha hy => ?_, fun i j a b hij ha hb => ?_⟩
  · cases k with
    | zero => simp at ha hy; subst ha hy; exact ho
    | succ k => exact h.2.1 k a ys (by simpa using ha) (by simpa using hy)
  · cases i with
    | zero =>
      cases j with
      | zero => omega
      | succ j => simp at ha hb; subst ha; exact hd b (List.mem_of_getElem? hb)
    | succ i =>
      cases j with
      | zero => omega
      | succ j => exact h.2.2 i j a b (by omega) (by simpa using ha) (by simpa using hb)
theorem Inn.filter {w : World} {lo : Nat} {q : Value → Bool} {q' : List Int → Bool} : ∀ {vs : List Value} {xss : List (List Int)}, Inn w lo vs xss → (∀ (k : Nat) v xs, vs[k]? = some v → xss[k]? = some xs → q v = q' xs) → Inn w lo (vs.filter q) (xss.filter q')
  | [], [], h, _ => Inn.nil_ _ _
  | [], _ :: _, h, _ => by have := h.1; simp at this
  | _ :: _, [], h, _ => by have := h.1; simp at this
  | v :: vs, xs :: xss, h, hq => by
    have ih := Inn.filter h.tail (fun k a b ha hb => hq (k + 1) a b (by simpa using ha) (by simpa using hb))
    have h0 := hq 0 v xs rfl rfl
    cases hv : q v
    · rw [hv] at h0
      rw [List.filter_cons_of_neg (by simp [hv]), List.filter_cons_of_neg (by simp [← h0])]
      exact ih
    · rw [hv] at h0
      rw [List.filter_cons_of_pos hv, List.filter_cons_of_pos h0.symm]
      exact ih.cons h.head.1 (fun b hb => h.head.2 b (List.mem_filter.1 hb).1)
/-- a slice of one element -/
def oneV : Value → Bool
  | .slice _ n _ => n == 1
  | _ => false
theorem own_oneV {w : World} {lo n size : Nat} {e : TypeId} {v : Value} {xs : List Value} (h : w.ownsRow lo e size v n xs) : oneV v = (n == 1) := by
  rcases h.2 with ⟨rfl, rfl⟩ | ⟨g, c, cur, rfl, _⟩ <;> rfl
def cfF (xs : List Int) : Bool := !(xs.length == 1)
def cfL (d l : Int) : List (List Int) := if faultB d l then (grpL d l).filter cfF else []
theorem totSS_filter (q : List Int → Bool) (xss : List (List Int)) (h : ∀ xs ∈ xss, xs.length ≤ 10) : totSS (xss.filter q) ≤ 10 * xss.length := by
  induction xss with
  | nil => simp [totSS]
  | cons a t ih =>
    have h1 := ih (fun xs hx => h xs (List.mem_cons_of_mem _ hx))
    have h2 := h a List.mem_cons_self
    rw [List.filter_cons]
    split
    · simp only [totSS, List.map_cons, List.sum_cons, List.length_cons] at h1 ⊢; omega
    · simp only [List.length_cons]; omega
theorem cfL_le (d l : Int) : totSS (cfL d l) ≤ 100 := by
  unfold cfL
  split
  · have h1 := totSS_filter cfF (grpL d l) (fun xs hx => by
      unfold grpL grpTo at hx
      simp only [List.mem_map] at hx
      obtain ⟨x, _, rfl⟩ := hx
      exact digL_le _ _ _)
    have h2 : (grpL d l).length ≤ 10 := grpTo_le _ _ _
    omega
  · simp [totSS]
/-- the post of a text that returns a slice of slices of the call's own and a bool -/
def SSPost (w : World) (L : List (List Int)) (b : Bool) (e : Ending) (w' : World) : Prop :=
  ∃ u, e = .returned (.tuple #[u, .bool b]) ∧ OwnSS w' w.heap.size u L ∧ Below w.heap.size w w'
theorem SSPost.mk' {w w' : World} {L L' : List (List Int)} {b b' : Bool} {u : Value} (hL : L = L') (hbb : b = b') (ho : OwnSS w' w.heap.size u L') (hb : Below w.heap.size w w') : SSPost w L b (.returned (.tuple #[u, .bool b'])) w' := by
  subst hL hbb; exact ⟨u, rfl, ho, hb⟩
theorem OwnSS.nil_ (w : World) (lo : Nat) : OwnSS w lo (.slice none 0 0) [] := ⟨[], World.ownsRow_nil _ _ _ _, Inn.nil_ _ _⟩
theorem Inn.lo' {w : World} {lo lo' : Nat} {vs : List Value} {xss : List (List Int)} (h : Inn w lo vs xss) (hl : lo' ≤ lo) : Inn w lo' vs xss := ⟨h.1, fun k v xs h1 h2 => own_lo (h.2.1 k v xs h1 h2) hl, h.2.2⟩
theorem Inn.slices {w : World} {lo : Nat} {vs : List Value} {xss : List (List Int)} (h : Inn w lo vs xss) : ∀ x ∈ vs, ∃ a n c, x = Value.slice a n c := by
  intro x hx
  obtain ⟨k, hk, rfl⟩ := List.getElem_of_mem hx
  obtain ⟨a, c, e, _⟩ := (Sl.of_own (h.2.1 k vs[k] (xss[k]'(by rw [← h.1]; exact hk)) (List.getElem?_eq_getElem hk) (List.getElem?_eq_getElem (by rw [← h.1]; exact hk)))).slice
  exact ⟨a, _, c, e⟩
theorem filter_succ {vs : List Value} {q : Value → Bool} {k : Nat} {v : Value} (h : vs[k]? = some v) : (vs.take (k + 1)).filter q = (vs.take k).filter q ++ if q v then [v] else [] := by
  rw [take_snoc h, List.filter_append]
  cases hq : q v <;> simp [hq]
end Go.Proofs.YtbobiiodbbcodaaGreatDoor
namespace Go.Proofs.YtbobiiodbbcodaaGreatDoor
open Go.RowKit
set_option linter.unusedVariables false
set_option maxRecDepth 100000
def freeB (d l : Nat) : Bool := (d &&& l) == 0
/-- the faults of the dark bars d and lit bars below n that are as q tells -/
def rowF (q : Int × Int → Bool) (d n : Nat) : List (Int × Int) := ((List.range n).filter fun (l : Nat) => freeB d l && q ((d : Int), (l : Int))).map fun (l : Nat) => ((d : Int), (l : Int))
def colF (q : Int × Int → Bool) (d : Nat) : List (Int × Int) := (List.range d).flatMap fun e => rowF q e 128
def faultsTo (q : Int × Int → Bool) (d n : Nat) : List (Int × Int) := colF q d ++ rowF q d n
def allF (q : Int × Int → Bool) : List (Int × Int) := colF q 128
theorem rowF_succ (q : Int × Int → Bool) (d n : Nat) : rowF q d (n + 1) = rowF q d n ++ if freeB d n && q ((d : Int), (n : Int)) then [((d : Int), (n : Int))] else [] := by
  unfold rowF
  rw [List.range_succ, List.filter_append, List.map_append]
  cases h : (freeB d n && q ((d : Int), (n : Int))) <;> simp [h]
theorem rowF_le (q : Int × Int → Bool) (d n : Nat) : (rowF q d n).length ≤ n := by
  unfold rowF
  rw [List.length_map]
  exact Nat.le_trans (List.length_filter_le _ _) (by simp)
theorem colF_succ (q : Int × Int → Bool) (d : Nat) : colF q (d + 1) = colF q d ++ rowF q d 128 := by
  unfold colF; rw [List.range_succ, List.flatMap_append]; simp
theorem colF_le (q : Int × Int → Bool) (d : Nat) : (colF q d).length ≤ d * 128 := by
  induction d with
  | zero => simp [colF]
  | succ d ih => rw [colF_succ, List.length_append]; have := rowF_le q d 128; omega
theorem faultsTo_zero (q : Int × Int → Bool) (d : Nat) : faultsTo q d 0 = colF q d := by simp [faultsTo, rowF]
theorem faultsTo_full (q : Int × Int → Bool) (d : Nat) : faultsTo q d 128 = colF q (d + 1) := by rw [colF_succ]; rfl
theorem faultsTo_succ (q : Int × Int → Bool) (d n : Nat) : faultsTo q d (n + 1) = faultsTo q d n ++ if freeB d n && q ((d : Int), (n : Int)) then [((d : Int), (n : Int))] else [] := by
  unfold faultsTo; rw [rowF_succ, List.append_assoc]
theorem faultsTo_le (q : Int × Int → Bool) {d n : Nat} (hd : d ≤ 127) (hn : n ≤ 128) : (faultsTo q d n).length ≤ 16384 := by
  unfold faultsTo; rw [List.length_append]; have := colF_le q d; have := rowF_le q d n; omega
theorem allF_le (q : Int × Int → Bool) : (allF q).length ≤ 16384 := colF_le q 128
theorem free_bits {d l : Nat} (hd : d ≤ 127) (hl : l ≤ 127) : (bits .and .i64 (d : Int) (l : Int) == 0) = freeB d l := by
  rw [i64_and_nat d l (by omega) (by omega)]
  unfold freeB
  rw [Bool.eq_iff_iff]; simp
end Go.Proofs.YtbobiiodbbcodaaGreatDoor
namespace Go.Proofs.YtbobiiodbbcodaaGreatDoor
open Go.RowKit
set_option linter.unusedVariables false
set_option maxRecDepth 100000
def harmB (f : Int × Int) : Bool := decide ((grpL f.1 f.2).length = 10)
def qH (size : Int) (f : Int × Int) : Bool := (cnt f.1 + cnt f.2 == size) && harmB f
def orC (d l : Int) : Int := ((d.toNat ||| l.toNat : Nat) : Int)
theorem orC_i64 {d l : Int} (d0 : 0 ≤ d) (d1 : d ≤ 127) (l0 : 0 ≤ l) (l1 : l ≤ 127) : bits .or .i64 d l = orC d l ∧ 0 ≤ orC d l ∧ orC d l ≤ 127 := by
  obtain ⟨d, rfl⟩ := Int.eq_ofNat_of_zero_le d0
  obtain ⟨l, rfl⟩ := Int.eq_ofNat_of_zero_le l0
  have h : d ||| l < 2 ^ 7 := Nat.or_lt_two_pow (by omega) (by omega)
  refine ⟨i64_or_nat d l (by omega) (by omega), ?_, ?_⟩ <;> simp only [orC, Int.toNat_natCast] <;> omega
theorem cnt_or_all : ∀ d l : Fin 128, (d.1 &&& l.1 == 0) = true → cnt (((d.1 ||| l.1 : Nat)) : Int) = cnt (d.1 : Int) + cnt (l.1 : Int) := by decide +kernel
theorem mem_allF {q : Int × Int → Bool} {f : Int × Int} (h : f ∈ allF q) : ∃ d l : Nat, f = ((d : Int), (l : Int)) ∧ d < 128 ∧ l < 128 ∧ freeB d l = true ∧ q f = true := by
  unfold allF colF rowF at h
  simp only [List.mem_flatMap, List.mem_range, List.mem_map, List.mem_filter, Bool.and_eq_true] at h
  obtain ⟨d, hd, l, ⟨hl, hf, hq⟩, rfl⟩ := h
  exact ⟨d, l, rfl, hd, hl, hf, hq⟩
theorem allF_filter (q : Int × Int → Bool) : allF q = (allF fun _ => true).filter q := by
  unfold allF colF
  rw [List.filter_flatMap]
  congr 1; funext d
  unfold rowF
  rw [List.filter_map, List.filter_filter]
  congr 1
  apply List.filter_congr
  intro l _
  simp [Function.comp]
  cases freeB d l <;> cases q ((d : Int), (l : Int)) <;> rfl
def chOk (size : Int) : Bool := inB size 0 7
def chN (size : Int) : Int := if chOk size then ((allF (qH size)).length : Int) else 0
def chV (size : Int) : Value := .tuple #[.int .i64 (chN size), .bool (chOk size)]
def hTo (size : Int) (k : Nat) : Nat := (((allF fun _ => true).take k).filter (qH size)).length
theorem hTo_succ {size : Int} {k : Nat} {f : Int × Int} (h : (allF fun _ => true)[k]? = some f) : hTo size (k + 1) = hTo size k + if qH size f then 1 else 0 := by
  unfold hTo
  rw [take_snoc h, List.filter_append, List.length_append]
  cases hq : qH size f <;> simp [hq]
theorem hTo_le (size : Int) (k : Nat) : hTo size k ≤ 16384 :=
  Nat.le_trans (List.length_filter_le _ _) (Nat.le_trans (List.length_take_le' _ _) (allF_le _))
theorem hTo_all (size : Int) : hTo size (allF fun _ => true).length = (allF (qH size)).length := by
  unfold hTo; rw [List.take_length, ← allF_filter]
theorem fault_free {d l : Nat} (hd : d < 128) (hl : l < 128) : faultB (d : Int) (l : Int) = freeB d l := by
  unfold faultB cellB
  rw [inB_mk (by omega) (by omega), inB_mk (by omega) (by omega)]
  unfold andC freeB
  rw [Bool.eq_iff_iff]; simp
end Go.Proofs.YtbobiiodbbcodaaGreatDoor
namespace Go.Proofs.YtbobiiodbbcodaaGreatDoor
open Go.RowKit
set_option linter.unusedVariables false
set_option maxRecDepth 100000
theorem flat2_take : ∀ (R : List (Int × Int)) (i : Nat), (flat2 R).take (i * 2) = flat2 (R.take i)
  | [], i => by simp [flat2]
  | x :: R, 0 => by simp [flat2]
  | x :: R, i + 1 => by
    have ih := flat2_take R i
    have e : (i + 1) * 2 = i * 2 + 2 := by omega
    rw [e]
    show (_ :: _ :: flat2 R).take (i * 2 + 2) = _ :: _ :: flat2 (R.take i)
    simp [ih]
theorem flat2_set {R : List (Int × Int)} {i : Nat} (hi : i < R.length) (a b : Int) : ((flat2 R).set (i * 2) (.int .i64 a)).set (i * 2 + 1) (.int .i64 b) = flat2 (R.set i (a, b)) := by
  have e : R = R.take i ++ R[i] :: R.drop (i + 1) := by rw [← List.drop_eq_getElem_cons hi, List.take_append_drop]
  have hl : (R.take i).length = i := by rw [List.length_take]; omega
  conv => lhs; rw [e]
  conv => rhs; rw [e]
  rw [flat2_append, set_mid _ _ _ _ hl.symm, flat2_append]
  have e3 : ∀ (p : Int × Int) (t : List (Int × Int)), flat2 (p :: t) = .int .i64 p.1 :: .int .i64 p.2 :: flat2 t := fun _ _ => rfl
  rw [e3, e3, set_two _ _ _ _ _ _ (by rw [flat2_length, hl])]
theorem pair_set {w : World} {lo g cap n : Nat} {e : TypeId} {R : List (Int × Int)} {i : Nat} {a b : Int} (ho : w.ownsRow lo e 2 (.slice (some ⟨g, 0, none⟩) n cap) n (flat2 R)) (hR : R.length = n) (hi : i < n) :
    (∃ u, w.cell? ⟨g, i * 2, none⟩ = some (.int .i64 u)) ∧ (∃ u, (w.setCell ⟨g, i * 2, none⟩ (.int .i64 a)).cell? ⟨g, i * 2 + 1, none⟩ = some (.int .i64 u)) ∧ (∃ u, w.cell? ⟨g, i * 2 + 1, none⟩ = some (.int .i64 u)) ∧
    w.frozen? ⟨g, i * 2, none⟩ = false ∧ (w.setCell ⟨g, i * 2, none⟩ (.int .i64 a)).frozen? ⟨g, i * 2 + 1, none⟩ = false ∧ w.frozen? ⟨g, i * 2 + 1, none⟩ = false ∧
      ((w.setCell ⟨g, i * 2, none⟩ (.int .i64 a)).setCell ⟨g, i * 2 + 1, none⟩ (.int .i64 b)).ownsRow lo e 2 (.slice (some ⟨g, 0, none⟩) n cap) n (flat2 (R.set i (a, b))) ∧
      w.grownBy ((w.setCell ⟨g, i * 2, none⟩ (.int .i64 a)).setCell ⟨g, i * 2 + 1, none⟩ (.int .i64 b)) (some g) := by
  have h1 := ho.stored (i * 2) (.int .i64 a)
  have h2 := h1.1.stored (i * 2 + 1) (.int .i64 b)
  have hf := flat2_at (List.getElem?_eq_getElem (show i < R.length by omega))
  refine ⟨⟨_, (ho.cellAt _ (by omega)).trans hf.1⟩, ⟨R[i].2, ?_⟩, ⟨_, (ho.cellAt _ (by omega)).trans hf.2⟩, ho.frozenAt _, h1.1.frozenAt _, ho.frozenAt _, ?_, h1.2.trans h2.2⟩
  · rw [h1.1.cellAt _ (by omega), List.getElem?_set_ne (by omega)]; exact hf.2
  · rw [← flat2_set (by omega)]; exact h2.1
end Go.Proofs.YtbobiiodbbcodaaGreatDoor
namespace Go.Proofs.YtbobiiodbbcodaaGreatDoor
open Go.RowKit
set_option linter.unusedVariables false
set_option maxRecDepth 100000
/-- the first k digits show the first k cells -/
def fitsTo (d l : Int) (ds cs : List Int) (k : Nat) : Bool := ((ds.zip cs).take k).all fun p => shC d l (dg p.1) == p.2
def fitsB (d l : Int) (ds cs : List Int) : Bool := fitsTo d l ds cs ds.length
theorem fitsTo_zero (d l : Int) (ds cs : List Int) : fitsTo d l ds cs 0 = true := rfl
theorem fitsTo_succ {d l : Int} {ds cs : List Int} {k : Nat} {x c : Int} (hx : ds[k]? = some x) (hc : cs[k]? = some c) : fitsTo d l ds cs (k + 1) = (fitsTo d l ds cs k && (shC d l (dg x) == c)) := by
  have h : (ds.zip cs)[k]? = some (x, c) := by rw [List.getElem?_zip_eq_some]; exact ⟨hx, hc⟩
  unfold fitsTo
  rw [take_snoc h, List.all_append]; simp
theorem fitsB_false {d l : Int} {ds cs : List Int} {k : Nat} {x c : Int} (hx : ds[k]? = some x) (hc : cs[k]? = some c) (h : (shC d l (dg x) == c) = false) : fitsB d l ds cs = false := by
  unfold fitsB fitsTo
  rw [List.all_eq_false]
  have h2 : (ds.zip cs)[k]? = some (x, c) := by rw [List.getElem?_zip_eq_some]; exact ⟨hx, hc⟩
  have hl := (List.getElem?_eq_some_iff.1 hx).1
  refine ⟨(x, c), ?_, by simpa using h⟩
  apply List.mem_of_getElem? (i := k)
  rw [List.getElem?_take, if_pos hl]; exact h2
theorem bne_of_beq {a b : Int} {r : Bool} (h : (a == b) = r) : (a != b) = !r := by rw [bne, h]
/-- all digits -/
def digitsB (ds : List Int) : Bool := ds.all digitB
theorem digits_at {ds : List Int} (h : digitsB ds = true) {k : Nat} {x : Int} (hx : ds[k]? = some x) : 0 ≤ x ∧ x ≤ 9 :=
  digitB_true (List.all_eq_true.1 h x (List.mem_of_getElem? hx))
theorem testB_digits {xs : List Int} (h : testB xs = true) : digitsB xs = true := by
  simp only [testB, Bool.and_eq_true] at h; exact h.2


/-- the states under which a test shows cells -/
def readSt (ds cs : List Int) : List (Int × Int) := allSt.filter fun s => fitsB (stD s.1 s.2) (stL s.1 s.2) ds cs
def readOk (ds cs : List Int) : Bool := testB ds && (decide (cs.length = ds.length) && cs.all cellB)
def readL (ds cs : List Int) : List (Int × Int) := if readOk ds cs then readSt ds cs else []
theorem readL_le (ds cs : List Int) : (readL ds cs).length ≤ 15 := by
  unfold readL; split
  · exact Nat.le_trans (List.length_filter_le _ _) (by decide)
  · simp
def RdPost (w : World) (ds cs : List Int) (e : Ending) (w' : World) : Prop :=
  ∃ u, e = .returned (.tuple #[u, .bool (readOk ds cs)]) ∧ w'.ownsRow w.heap.size 75 2 u (readL ds cs).length (flat2 (readL ds cs)) ∧ Below w.heap.size w w'
theorem RdPost.no {w w' : World} {ds cs : List Int} {u : Value} (ht : readOk ds cs = false) (ho : w'.ownsRow w.heap.size 75 2 u 0 []) (hb : Below w.heap.size w w') : RdPost w ds cs (.returned (.tuple #[u, .bool false])) w' := by
  refine ⟨u, by rw [ht], ?_, hb⟩
  simpa [readL, ht, flat2_nil] using ho
theorem RdPost.yes {w w' : World} {ds cs : List Int} {u : Value} (ht : readOk ds cs = true) (ho : w'.ownsRow w.heap.size 75 2 u (readSt ds cs).length (flat2 (readSt ds cs))) (hb : Below w.heap.size w w') : RdPost w ds cs (.returned (.tuple #[u, .bool true])) w' := by
  refine ⟨u, by rw [ht], ?_, hb⟩
  simpa [readL, ht] using ho
end Go.Proofs.YtbobiiodbbcodaaGreatDoor
namespace Go.Proofs.YtbobiiodbbcodaaGreatDoor
open Go.RowKit
set_option linter.unusedVariables false
set_option maxRecDepth 100000
def foOk (ds cs : List Int) : Bool := inB (ds.length : Int) 1 10 && (decide (cs.length = ds.length) && (digitsB ds && cs.all cellB))
def foQ (ds cs : List Int) (f : Int × Int) : Bool := fitsB f.1 f.2 ds cs
def foL (ds cs : List Int) : List (Int × Int) := if foOk ds cs then allF (foQ ds cs) else []
theorem foL_le (ds cs : List Int) : (foL ds cs).length ≤ 16384 := by
  unfold foL; split
  · exact allF_le _
  · simp
def FsPost (w : World) (L : List (Int × Int)) (b : Bool) (e : Ending) (w' : World) : Prop :=
  ∃ u, e = .returned (.tuple #[u, .bool b]) ∧ w'.ownsRow w.heap.size 30 2 u L.length (flat2 L) ∧ Below w.heap.size w w'
theorem FsPost.mk' {w w' : World} {L L' : List (Int × Int)} {b b' : Bool} {u : Value} (hL : L = L') (hbb : b = b') (ho : w'.ownsRow w.heap.size 30 2 u L'.length (flat2 L')) (hb : Below w.heap.size w w') : FsPost w L b (.returned (.tuple #[u, .bool b'])) w' := by
  subst hL hbb; exact ⟨u, rfl, ho, hb⟩
theorem dig10 : ∀ j : Fin 10, (#[.int .i64 63, .int .i64 6, .int .i64 91, .int .i64 79, .int .i64 102, .int .i64 109, .int .i64 125, .int .i64 7, .int .i64 127, .int .i64 111] : Array Value)[j.1]? = some (.int .i64 (dg (j.1 : Int)))
  | ⟨0, _⟩ => rfl
  | ⟨1, _⟩ => rfl
  | ⟨2, _⟩ => rfl
  | ⟨3, _⟩ => rfl
  | ⟨4, _⟩ => rfl
  | ⟨5, _⟩ => rfl
  | ⟨6, _⟩ => rfl
  | ⟨7, _⟩ => rfl
  | ⟨8, _⟩ => rfl
  | ⟨9, _⟩ => rfl
theorem Ints.block_lt {w : World} {v : Value} {xs : List Int} (h : Ints w v xs) (hp : 0 < xs.length) : ∀ b, v.ownBlock = some b → b < w.heap.size := by
  obtain ⟨a, c, rfl, _, _, HC⟩ := h.parts
  intro b hb
  obtain ⟨b', off, e, hc⟩ := HC.out 0 xs[0] (List.getElem?_eq_getElem hp)
  subst e
  simp only [Value.ownBlock, Option.some.injEq] at hb
  subst hb
  exact World.block_lt_of_cell? _ _ hc
end Go.Proofs.YtbobiiodbbcodaaGreatDoor
namespace Go.Proofs.YtbobiiodbbcodaaGreatDoor
open Go.RowKit
set_option linter.unusedVariables false
set_option maxRecDepth 100000
theorem all_at {α : Type} {p : α → Bool} {xs : List α} {k : Nat} {x : α} (hx : xs[k]? = some x) (h : p x = false) : xs.all p = false := by
  rw [Bool.eq_false_iff]; intro h2
  rw [List.all_eq_true] at h2
  rw [h2 x (List.mem_of_getElem? hx)] at h; cases h
theorem all_to {α : Type} {p : α → Bool} {xs : List α} {k : Nat} (hk : xs.length ≤ k) (h : ∀ j x, j < k → xs[j]? = some x → p x = true) : xs.all p = true := by
  rw [List.all_eq_true]
  intro x hx
  obtain ⟨j, hj, rfl⟩ := List.getElem_of_mem hx
  exact h j _ (by omega) (List.getElem?_eq_getElem hj)
end Go.Proofs.YtbobiiodbbcodaaGreatDoor
namespace Go.Proofs.YtbobiiodbbcodaaGreatDoor
open Go.RowKit
set_option linter.unusedVariables false
set_option maxRecDepth 100000
def nDig (f : Int × Int) (c : Int) : Nat := (digL f.1 f.2 c).length
theorem nDig_le (f : Int × Int) (c : Int) : nDig f c ≤ 10 := digL_le _ _ _
def prodTo (fs : List (Int × Int)) (r : List Int) (k : Nat) : Nat := ((fs.zip r).take k).foldl (fun m p => m * nDig p.1 p.2) 1
theorem prodTo_zero (fs : List (Int × Int)) (r : List Int) : prodTo fs r 0 = 1 := rfl
theorem prodTo_succ {fs : List (Int × Int)} {r : List Int} {k : Nat} {f : Int × Int} {c : Int} (hf : fs[k]? = some f) (hc : r[k]? = some c) : prodTo fs r (k + 1) = prodTo fs r k * nDig f c := by
  have h : (fs.zip r)[k]? = some (f, c) := by rw [List.getElem?_zip_eq_some]; exact ⟨hf, hc⟩
  unfold prodTo
  rw [take_snoc h, List.foldl_append]; rfl
theorem prodTo_le (fs : List (Int × Int)) (r : List Int) (k : Nat) : prodTo fs r k ≤ 10 ^ k := by
  induction k with
  | zero => simp [prodTo_zero]
  | succ k ih =>
    cases h : (fs.zip r)[k]? with
    | none =>
      have : prodTo fs r (k + 1) = prodTo fs r k := by
        unfold prodTo
        have hl := List.getElem?_eq_none_iff.1 h
        rw [List.take_of_length_le (by omega), List.take_of_length_le hl]
      rw [this]; exact Nat.le_trans ih (Nat.pow_le_pow_right (by omega) (by omega))
    | some p =>
      obtain ⟨f, c⟩ := p
      rw [List.getElem?_zip_eq_some] at h
      rw [prodTo_succ h.1 h.2, Nat.pow_succ]
      exact Nat.mul_le_mul ih (nDig_le _ _)
def cnOk (fs : List (Int × Int)) (r : List Int) : Bool := areB fs r && !decide (r.length = 0)
def cnN (fs : List (Int × Int)) (r : List Int) : Int := if cnOk fs r then (prodTo fs r r.length : Int) else 0
def cnV (fs : List (Int × Int)) (r : List Int) : Value := .tuple #[.int .i64 (cnN fs r), .bool (cnOk fs r)]
theorem wrap_mul {a b : Nat} (ha : a ≤ 100000) (hb : b ≤ 10) : wrap64 ((a : Int) * (b : Int)) = ((a * b : Nat) : Int) ∧ IntKind.i64.wrap ((a : Int) * (b : Int)) = ((a * b : Nat) : Int) := by
  have h : a * b ≤ 100000 * 10 := Nat.mul_le_mul ha hb
  have e : (a : Int) * (b : Int) = ((a * b : Nat) : Int) := by simp
  rw [e]
  exact ⟨by simp only [wrap64]; omega, wrap_i64_small _ (by omega)⟩
theorem pow_le_five {k : Nat} (hk : k ≤ 5) : 10 ^ k ≤ 100000 := Nat.le_trans (Nat.pow_le_pow_right (by omega) hk) (by decide)

end Go.Proofs.YtbobiiodbbcodaaGreatDoor
