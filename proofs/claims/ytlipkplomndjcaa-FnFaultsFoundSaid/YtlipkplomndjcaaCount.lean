/- Walks of CountNumbers, both texts, and of the laws' copies of lists of faults. -/
import Derived.Test.YtlipkplomndjcaaRowsOf
import Derived.Test.YtlipkplomndjcaaFaults
namespace Go.Proofs.Ytlipkplomndjcaa
open Go.RowKit
set_option linter.unusedVariables false
set_option maxRecDepth 100000
def nDig (f : Int × Int) (c : Int) : Nat := (digL f.1 f.2 c).length
theorem nDig_le (f : Int × Int) (c : Int) : nDig f c ≤ 10 := digL_le _ _ _
def prodTo (fs : List (Int × Int)) (r : List Int) (k : Nat) : Nat := ((fs.zip r).take k).foldl (fun m p => m * nDig p.1 p.2) 1
theorem prodTo_zero (fs : List (Int × Int)) (r : List Int) : prodTo fs r 0 = 1 := rfl
theorem prodTo_succ {fs : List (Int × Int)} {r : List Int} {k : Nat} {f : Int × Int} {c : Int} (hf : fs[k]? = some f) (hc : r[k]? = some c) : prodTo fs r (k + 1) = prodTo fs r k * nDig f c := by
  have h : (fs.zip r)[k]? = some (f, c) := by rw [List.getElem?_zip_eq_some]; exact ⟨hf, hc⟩
  unfold prodTo
  rw [take_snoc h, List.foldl_append]; rfl
theorem prodTo_le (fs : List (Int × Int)) (r : List Int) (k : Nat) : prodTo fs r k ≤ 10 ^ k := by
  induction k with
  | zero => simp [prodTo_zero]
  | succ k ih =>
    cases h : (fs.zip r)[k]? with
    | none =>
      have : prodTo fs r (k + 1) = prodTo fs r k := by
        unfold prodTo
        have hl := List.getElem?_eq_none_iff.1 h
        rw [List.take_of_length_le (by omega), List.take_of_length_le hl]
      rw [this]; exact Nat.le_trans ih (Nat.pow_le_pow_right (by omega) (by omega))
    | some p =>
      obtain ⟨f, c⟩ := p
      rw [List.getElem?_zip_eq_some] at h
      rw [prodTo_succ h.1 h.2, Nat.pow_succ]
      exact Nat.mul_le_mul ih (nDig_le _ _)
def cnOk (fs : List (Int × Int)) (r : List Int) : Bool := areB fs r && !decide (r.length = 0)
def cnN (fs : List (Int × Int)) (r : List Int) : Int := if cnOk fs r then (prodTo fs r r.length : Int) else 0
def cnV (fs : List (Int × Int)) (r : List Int) : Value := .tuple #[.int .i64 (cnN fs r), .bool (cnOk fs r)]
theorem wrap_mul {a b : Nat} (ha : a ≤ 100000) (hb : b ≤ 10) : wrap64 ((a : Int) * (b : Int)) = ((a * b : Nat) : Int) ∧ IntKind.i64.wrap ((a : Int) * (b : Int)) = ((a * b : Nat) : Int) := by
  have h : a * b ≤ 100000 * 10 := Nat.mul_le_mul ha hb
  have e : (a : Int) * (b : Int) = ((a * b : Nat) : Int) := by simp
  rw [e]
  exact ⟨by simp only [wrap64]; omega, wrap_i64_small _ (by omega)⟩
theorem pow_le_five {k : Nat} (hk : k ≤ 5) : 10 ^ k ≤ 100000 := Nat.le_trans (Nat.pow_le_pow_right (by omega) hk) (by decide)

theorem CountNumbers_c (v1 v2 : Value) (fs : List (Int × Int)) (r : List Int) (w : World) (h1 : Pairs w v1 fs) (h2 : Ints w v2 r) :
    Calls Try.prog 14 #[v1, v2] w fun e w' => e = .returned (cnV fs r) ∧ Below w.heap.size w w' := by
  obtain ⟨a1, c1, rfl, _, _, H1⟩ := h1.parts
  obtain ⟨a2, c2, rfl, _, _, H2⟩ := h2.parts
  rcases ha : areB fs r with _ | _
  · have HF0 : cnV fs r = .tuple #[.int .i64 0, .bool false] := by simp [cnV, cnN, cnOk, ha]
    have HF := Lib.hid HF0; clear HF0; have HA := Lib.hid ha; clear ha
    go_enter Try.func14, Try.ntmps14
    go_wp2_with fail
    refine (areFaults_c _ _ fs r _ h1 h2).mono ?_
    rintro e w1 ⟨rfl, hb1⟩
    rw [HA.out]
    go_wp2
    go_ret2
    exact ⟨by rw [HF.out]; rfl, hb1⟩
  · have hr6 := rowB_le (areB_row ha)
    by_cases hz : r.length = 0
    · have HF0 : cnV fs r = .tuple #[.int .i64 0, .bool false] := by simp [cnV, cnN, cnOk, hz]
      have hzb : ((r.length : Int) == 0) = true := by simp [hz]
      have HF := Lib.hid HF0; have HZ := Lib.hid hz; clear HF0 hz; have HA := Lib.hid ha; clear ha
      go_enter Try.func14, Try.ntmps14
      go_wp2_with fail
      refine (areFaults_c _ _ fs r _ h1 h2).mono ?_
      rintro e w1 ⟨rfl, hb1⟩
      rw [HA.out]
      go_wp2
      go_ret2
      exact ⟨by rw [HF.out]; rfl, hb1⟩
    · have HF0 : cnV fs r = .tuple #[.int .i64 (prodTo fs r r.length : Int), .bool true] := by simp [cnV, cnN, cnOk, hz, ha]
      have hzb : ((r.length : Int) == 0) = false := by simp [hz]
      have HF := Lib.hid HF0; have HZ := Lib.hid hz; clear HF0 hz; have HA := Lib.hid ha; clear ha
      go_enter Try.func14, Try.ntmps14
      go_wp2_with fail
      refine (areFaults_c _ _ fs r _ h1 h2).mono ?_
      rintro e w1 ⟨rfl, hb1⟩
      rw [HA.out]
      clear h1 h2
      go_wp2
      go_loopw [6, 7, 8, 20] (fun m _ _ j wr => ∃ k : Nat, k ≤ r.length ∧ j = .int .i64 (k : Int) ∧ m = .int .i64 (prodTo fs r k : Int) ∧ Below w.heap.size w wr) (fun _ _ _ j _ => r.length - (intOf j).toNat)
      case atStart => exact ⟨0, by omega, rfl, rfl, hb1⟩
      case round =>
        obtain ⟨k, hk, rfl, rfl, hb⟩ := hrel
        clear hb1
        by_cases hlt : k < r.length
        · have hd : decide ((k : Int) < (r.length : Int)) = true := by simp; omega
          have hlf : k < fs.length := by rw [areB_len HA.out]; exact hlt
          obtain ⟨f, hf⟩ := elem_at hlf
          obtain ⟨c, hc⟩ := elem_at hlt
          obtain ⟨b1, o1, rfl, f0, f1⟩ := H1.out k _ hf.out
          obtain ⟨b2, o2, rfl, f2⟩ := H2.out k _ hc.out
          have g0 := cell_later hb f0
          have g1 := cell_later hb f1
          have g2 := cell_later hb f2
          have bd := areB_fault HA.out hf.out
          have hS := prodTo_succ hf.out hc.out
          have hle := Nat.le_trans (prodTo_le fs r k) (pow_le_five (by omega))
          have hnd := nDig_le f c
          have hwm := wrap_mul hle hnd
          have hw1 := hwm.1
          generalize prodTo fs r k = P at *
          have HS := Lib.hid hS; clear hS f0 f1 f2 hwm
          go_wp2_with fail
          refine (digits_c f.1 f.2 c _ bd.1 bd.2.1 bd.2.2.1 bd.2.2.2).mono ?_
          rintro e w2 ⟨u, rfl, ho, hb2⟩
          obtain ⟨a3, c3, rfl, _⟩ := (Sl.of_own ho).slice
          have hb3 := Below.chain hb hb2
          rw [show (digL f.1 f.2 c).length = nDig f c from rfl] at *
          clear ho hb hb2 g0 g1 g2
          go_wp2
          go_roundw
          case rel => exact ⟨k + 1, by omega, by go_num, by rw [HS.out]; exact int_val (by first | exact hw1 | simp), hb3⟩
          case measure => simp [intOf]; omega
        · obtain rfl : k = r.length := by omega
          go_wp2
          go_ret2
          exact ⟨by rw [HF.out]; rfl, hb⟩
theorem sCountNumbers_c (v1 v2 : Value) (fs : List (Int × Int)) (r : List Int) (w : World) (h1 : Pairs w v1 fs) (h2 : Ints w v2 r) :
    Calls Try.prog 15 #[v1, v2] w fun e w' => e = .returned (cnV fs r) ∧ Below w.heap.size w w' := by
  obtain ⟨a1, c1, rfl, _, _, H1⟩ := h1.parts
  obtain ⟨a2, c2, rfl, _, _, H2⟩ := h2.parts
  rcases ha : areB fs r with _ | _
  · have HF0 : cnV fs r = .tuple #[.int .i64 0, .bool false] := by simp [cnV, cnN, cnOk, ha]
    have HF := Lib.hid HF0; clear HF0; have HA := Lib.hid ha; clear ha
    go_enter Try.func15, Try.ntmps15
    go_wp2_with fail
    refine (l3Faults_c _ _ fs r _ h1 h2).mono ?_
    rintro e w1 ⟨rfl, hb1⟩
    rw [HA.out]
    go_wp2
    go_ret2
    exact ⟨by rw [HF.out]; rfl, hb1⟩
  · have hr6 := rowB_le (areB_row ha)
    by_cases hz : r.length = 0
    · have HF0 : cnV fs r = .tuple #[.int .i64 0, .bool false] := by simp [cnV, cnN, cnOk, hz]
      have hzb : ((r.length : Int) == 0) = true := by simp [hz]
      have HF := Lib.hid HF0; have HZ := Lib.hid hz; clear HF0 hz; have HA := Lib.hid ha; clear ha
      go_enter Try.func15, Try.ntmps15
      go_wp2_with fail
      refine (l3Faults_c _ _ fs r _ h1 h2).mono ?_
      rintro e w1 ⟨rfl, hb1⟩
      rw [HA.out]
      go_wp2
      go_ret2
      exact ⟨by rw [HF.out]; rfl, hb1⟩
    · have HF0 : cnV fs r = .tuple #[.int .i64 (prodTo fs r r.length : Int), .bool true] := by simp [cnV, cnN, cnOk, hz, ha]
      have hzb : ((r.length : Int) == 0) = false := by simp [hz]
      have HF := Lib.hid HF0; have HZ := Lib.hid hz; clear HF0 hz; have HA := Lib.hid ha; clear ha
      go_enter Try.func15, Try.ntmps15
      go_wp2_with fail
      refine (l3Faults_c _ _ fs r _ h1 h2).mono ?_
      rintro e w1 ⟨rfl, hb1⟩
      rw [HA.out]
      clear h1 h2
      go_wp2
      go_loopw [6, 7] (fun m j wr => ∃ k : Nat, k ≤ r.length ∧ j = .int .i64 (k : Int) ∧ m = .int .i64 (prodTo fs r k : Int) ∧ Below w.heap.size w wr) (fun _ j _ => r.length - (intOf j).toNat)
      case atStart => exact ⟨0, by omega, rfl, rfl, hb1⟩
      case round =>
        obtain ⟨k, hk, rfl, rfl, hb⟩ := hrel
        clear hb1
        by_cases hlt : k < r.length
        · have hd : decide ((k : Int) < (r.length : Int)) = true := by simp; omega
          have hlf : k < fs.length := by rw [areB_len HA.out]; exact hlt
          obtain ⟨f, hf⟩ := elem_at hlf
          obtain ⟨c, hc⟩ := elem_at hlt
          obtain ⟨b1, o1, rfl, f0, f1⟩ := H1.out k _ hf.out
          obtain ⟨b2, o2, rfl, f2⟩ := H2.out k _ hc.out
          have g0 := cell_later hb f0
          have g1 := cell_later hb f1
          have g2 := cell_later hb f2
          have bd := areB_fault HA.out hf.out
          have hS := prodTo_succ hf.out hc.out
          have hle := Nat.le_trans (prodTo_le fs r k) (pow_le_five (by omega))
          have hnd := nDig_le f c
          have hwm := wrap_mul hle hnd
          have hw1 := hwm.1; have hw2 := hwm.2
          have hflf : (k : Int) < (fs.length : Int) := by omega
          generalize prodTo fs r k = P at *
          have HS := Lib.hid hS; clear hS f0 f1 f2 hwm
          go_wp2_with fail
          go_region_held3 (fun w' => w'.cell? ⟨b1, o1 + k * 2, none⟩ = some (.int .i64 f.1) ∧ w'.cell? ⟨b1, o1 + k * 2 + 1, none⟩ = some (.int .i64 f.2) ∧ w'.cell? ⟨b2, o2 + k, none⟩ = some (.int .i64 c))
            (first | go_keep | (go_split_ands; exact ⟨cell_later (by assumption) (by assumption), cell_later (by assumption) (by assumption), cell_later (by assumption) (by assumption)⟩))
            (first | (go_at_call 101; refine (l3Digits_c f.1 f.2 c _ bd.1 bd.2.1 bd.2.2.1 bd.2.2.2).mono ?_; rintro e w' ⟨u, rfl, ho, hb2⟩; obtain ⟨a3, c3, rfl, _⟩ := (Sl.of_own ho).slice; rw [show (digL f.1 f.2 c).length = nDig f c from rfl] at *))
          have hb3 := Below.chain hb.drew hb2
          clear ho hb hb2 g0 g1 g2
          go_wp2
          go_roundw
          case rel => exact ⟨k + 1, by omega, by go_num, by rw [HS.out]; exact int_val (by first | exact hw1 | simp), hb3⟩
          case measure => simp [intOf]; omega
        · obtain rfl : k = r.length := by omega
          go_wp2
          go_ret2
          exact ⟨by rw [HF.out]; rfl, hb⟩
end Go.Proofs.Ytlipkplomndjcaa
