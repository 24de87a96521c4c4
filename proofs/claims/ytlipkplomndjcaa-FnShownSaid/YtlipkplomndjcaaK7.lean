/- Texts of this claim, gathered: Count, DrawF, Del. -/
import Derived.Test.YtlipkplomndjcaaK6
namespace Go.Proofs.Ytlipkplomndjcaa
open Go.RowKit
set_option linter.unusedVariables false
set_option maxRecDepth 100000
def nDig (f : Int × Int) (c : Int) : Nat := (digL f.1 f.2 c).length
theorem nDig_le (f : Int × Int) (c : Int) : nDig f c ≤ 10 := digL_le _ _ _
def prodTo (fs : List (Int × Int)) (r : List Int) (k : Nat) : Nat := ((fs.zip r).take k).foldl (fun m p => m * nDig p.1 p.2) 1
theorem prodTo_zero (fs : List (Int × Int)) (r : List Int) : prodTo fs r 0 = 1 := rfl
theorem prodTo_succ {fs : List (Int × Int)} {r : List Int} {k : Nat} {f : Int × Int} {c : Int} (hf : fs[k]? = some f) (hc : r[k]? = some c) : prodTo fs r (k + 1) = prodTo fs r k * nDig f c := by
  have h : (fs.zip r)[k]? = some (f, c) := by rw [List.getElem?_zip_eq_some]; exact ⟨hf, hc⟩
  unfold prodTo
  rw [take_snoc h, List.foldl_append]; rfl
theorem prodTo_le (fs : List (Int × Int)) (r : List Int) (k : Nat) : prodTo fs r k ≤ 10 ^ k := by
  induction k with
  | zero => simp [prodTo_zero]
  | succ k ih =>
    cases h : (fs.zip r)[k]? with
    | none =>
      have : prodTo fs r (k + 1) = prodTo fs r k := by
        unfold prodTo
        have hl := List.getElem?_eq_none_iff.1 h
        rw [List.take_of_length_le (by omega), List.take_of_length_le hl]
      rw [this]; exact Nat.le_trans ih (Nat.pow_le_pow_right (by omega) (by omega))
    | some p =>
      obtain ⟨f, c⟩ := p
      rw [List.getElem?_zip_eq_some] at h
      rw [prodTo_succ h.1 h.2, Nat.pow_succ]
      exact Nat.mul_le_mul ih (nDig_le _ _)
def cnOk (fs : List (Int × Int)) (r : List Int) : Bool := areB fs r && !decide (r.length = 0)
def cnN (fs : List (Int × Int)) (r : List Int) : Int := if cnOk fs r then (prodTo fs r r.length : Int) else 0
def cnV (fs : List (Int × Int)) (r : List Int) : Value := .tuple #[.int .i64 (cnN fs r), .bool (cnOk fs r)]
theorem wrap_mul {a b : Nat} (ha : a ≤ 100000) (hb : b ≤ 10) : wrap64 ((a : Int) * (b : Int)) = ((a * b : Nat) : Int) ∧ IntKind.i64.wrap ((a : Int) * (b : Int)) = ((a * b : Nat) : Int) := by
  have h : a * b ≤ 100000 * 10 := Nat.mul_le_mul ha hb
  have e : (a : Int) * (b : Int) = ((a * b : Nat) : Int) := by simp
  rw [e]
  exact ⟨by simp only [wrap64]; omega, wrap_i64_small _ (by omega)⟩
theorem pow_le_five {k : Nat} (hk : k ≤ 5) : 10 ^ k ≤ 100000 := Nat.le_trans (Nat.pow_le_pow_right (by omega) hk) (by decide)

theorem CountNumbers_c (v1 v2 : Value) (fs : List (Int × Int)) (r : List Int) (w : World) (h1 : Pairs w v1 fs) (h2 : Ints w v2 r) :
    Calls Try.prog 14 #[v1, v2] w fun e w' => e = .returned (cnV fs r) ∧ Below w.heap.size w w' := by
  obtain ⟨a1, c1, rfl, _, _, H1⟩ := h1.parts
  obtain ⟨a2, c2, rfl, _, _, H2⟩ := h2.parts
  rcases ha : areB fs r with _ | _
  · have HF0 : cnV fs r = .tuple #[.int .i64 0, .bool false] := by simp [cnV, cnN, cnOk, ha]
    have HF := Lib.hid HF0; clear HF0; have HA := Lib.hid ha; clear ha
    go_enter Try.func14, Try.ntmps14
    go_wp2_with fail
    refine (areFaults_c _ _ fs r _ h1 h2).mono ?_
    rintro e w1 ⟨rfl, hb1⟩
    rw [HA.out]
    go_wp2
    go_ret2
    exact ⟨by rw [HF.out]; rfl, hb1⟩
  · have hr6 := rowB_le (areB_row ha)
    by_cases hz : r.length = 0
    · have HF0 : cnV fs r = .tuple #[.int .i64 0, .bool false] := by simp [cnV, cnN, cnOk, hz]
      have hzb : ((r.length : Int) == 0) = true := by simp [hz]
      have HF := Lib.hid HF0; have HZ := Lib.hid hz; clear HF0 hz; have HA := Lib.hid ha; clear ha
      go_enter Try.func14, Try.ntmps14
      go_wp2_with fail
      refine (areFaults_c _ _ fs r _ h1 h2).mono ?_
      rintro e w1 ⟨rfl, hb1⟩
      rw [HA.out]
      go_wp2
      go_ret2
      exact ⟨by rw [HF.out]; rfl, hb1⟩
    · have HF0 : cnV fs r = .tuple #[.int .i64 (prodTo fs r r.length : Int), .bool true] := by simp [cnV, cnN, cnOk, hz, ha]
      have hzb : ((r.length : Int) == 0) = false := by simp [hz]
      have HF := Lib.hid HF0; have HZ := Lib.hid hz; clear HF0 hz; have HA := Lib.hid ha; clear ha
      go_enter Try.func14, Try.ntmps14
      go_wp2_with fail
      refine (areFaults_c _ _ fs r _ h1 h2).mono ?_
      rintro e w1 ⟨rfl, hb1⟩
      rw [HA.out]
      clear h1 h2
      go_wp2
      go_loopw [6, 7, 8, 20] (fun m _ _ j wr => ∃ k : Nat, k ≤ r.length ∧ j = .int .i64 (k : Int) ∧ m = .int .i64 (prodTo fs r k : Int) ∧ Below w.heap.size w wr) (fun _ _ _ j _ => r.length - (intOf j).toNat)
      case atStart => exact ⟨0, by omega, rfl, rfl, hb1⟩
      case round =>
        obtain ⟨k, hk, rfl, rfl, hb⟩ := hrel
        clear hb1
        by_cases hlt : k < r.length
        · have hd : decide ((k : Int) < (r.length : Int)) = true := by simp; omega
          have hlf : k < fs.length := by rw [areB_len HA.out]; exact hlt
          obtain ⟨f, hf⟩ := elem_at hlf
          obtain ⟨c, hc⟩ := elem_at hlt
          obtain ⟨b1, o1, rfl, f0, f1⟩ := H1.out k _ hf.out
          obtain ⟨b2, o2, rfl, f2⟩ := H2.out k _ hc.out
          have g0 := cell_later hb f0
          have g1 := cell_later hb f1
          have g2 := cell_later hb f2
          have bd := areB_fault HA.out hf.out
          have hS := prodTo_succ hf.out hc.out
          have hle := Nat.le_trans (prodTo_le fs r k) (pow_le_five (by omega))
          have hnd := nDig_le f c
          have hwm := wrap_mul hle hnd
          have hw1 := hwm.1
          generalize prodTo fs r k = P at *
          have HS := Lib.hid hS; clear hS f0 f1 f2 hwm
          go_wp2_with fail
          refine (digits_c f.1 f.2 c _ bd.1 bd.2.1 bd.2.2.1 bd.2.2.2).mono ?_
          rintro e w2 ⟨u, rfl, ho, hb2⟩
          obtain ⟨a3, c3, rfl, _⟩ := (Sl.of_own ho).slice
          have hb3 := Below.chain hb hb2
          rw [show (digL f.1 f.2 c).length = nDig f c from rfl] at *
          clear ho hb hb2 g0 g1 g2
          go_wp2
          go_roundw
          case rel => exact ⟨k + 1, by omega, by go_num, by rw [HS.out]; exact int_val (by first | exact hw1 | simp), hb3⟩
          case measure => simp [intOf]; omega
        · obtain rfl : k = r.length := by omega
          go_wp2
          go_ret2
          exact ⟨by rw [HF.out]; rfl, hb⟩
theorem sCountNumbers_c (v1 v2 : Value) (fs : List (Int × Int)) (r : List Int) (w : World) (h1 : Pairs w v1 fs) (h2 : Ints w v2 r) :
    Calls Try.prog 15 #[v1, v2] w fun e w' => e = .returned (cnV fs r) ∧ Below w.heap.size w w' := by
  obtain ⟨a1, c1, rfl, _, _, H1⟩ := h1.parts
  obtain ⟨a2, c2, rfl, _, _, H2⟩ := h2.parts
  rcases ha : areB fs r with _ | _
  · have HF0 : cnV fs r = .tuple #[.int .i64 0, .bool false] := by simp [cnV, cnN, cnOk, ha]
    have HF := Lib.hid HF0; clear HF0; have HA := Lib.hid ha; clear ha
    go_enter Try.func15, Try.ntmps15
    go_wp2_with fail
    refine (l3Faults_c _ _ fs r _ h1 h2).mono ?_
    rintro e w1 ⟨rfl, hb1⟩
    rw [HA.out]
    go_wp2
    go_ret2
    exact ⟨by rw [HF.out]; rfl, hb1⟩
  · have hr6 := rowB_le (areB_row ha)
    by_cases hz : r.length = 0
    · have HF0 : cnV fs r = .tuple #[.int .i64 0, .bool false] := by simp [cnV, cnN, cnOk, hz]
      have hzb : ((r.length : Int) == 0) = true := by simp [hz]
      have HF := Lib.hid HF0; have HZ := Lib.hid hz; clear HF0 hz; have HA := Lib.hid ha; clear ha
      go_enter Try.func15, Try.ntmps15
      go_wp2_with fail
      refine (l3Faults_c _ _ fs r _ h1 h2).mono ?_
      rintro e w1 ⟨rfl, hb1⟩
      rw [HA.out]
      go_wp2
      go_ret2
      exact ⟨by rw [HF.out]; rfl, hb1⟩
    · have HF0 : cnV fs r = .tuple #[.int .i64 (prodTo fs r r.length : Int), .bool true] := by simp [cnV, cnN, cnOk, hz, ha]
      have hzb : ((r.length : Int) == 0) = false := by simp [hz]
      have HF := Lib.hid HF0; have HZ := Lib.hid hz; clear HF0 hz; have HA := Lib.hid ha; clear ha
      go_enter Try.func15, Try.ntmps15
      go_wp2_with fail
      refine (l3Faults_c _ _ fs r _ h1 h2).mono ?_
      rintro e w1 ⟨rfl, hb1⟩
      rw [HA.out]
      clear h1 h2
      go_wp2
      go_loopw [6, 7] (fun m j wr => ∃ k : Nat, k ≤ r.length ∧ j = .int .i64 (k : Int) ∧ m = .int .i64 (prodTo fs r k : Int) ∧ Below w.heap.size w wr) (fun _ j _ => r.length - (intOf j).toNat)
      case atStart => exact ⟨0, by omega, rfl, rfl, hb1⟩
      case round =>
        obtain ⟨k, hk, rfl, rfl, hb⟩ := hrel
        clear hb1
        by_cases hlt : k < r.length
        · have hd : decide ((k : Int) < (r.length : Int)) = true := by simp; omega
          have hlf : k < fs.length := by rw [areB_len HA.out]; exact hlt
          obtain ⟨f, hf⟩ := elem_at hlf
          obtain ⟨c, hc⟩ := elem_at hlt
          obtain ⟨b1, o1, rfl, f0, f1⟩ := H1.out k _ hf.out
          obtain ⟨b2, o2, rfl, f2⟩ := H2.out k _ hc.out
          have g0 := cell_later hb f0
          have g1 := cell_later hb f1
          have g2 := cell_later hb f2
          have bd := areB_fault HA.out hf.out
          have hS := prodTo_succ hf.out hc.out
          have hle := Nat.le_trans (prodTo_le fs r k) (pow_le_five (by omega))
          have hnd := nDig_le f c
          have hwm := wrap_mul hle hnd
          have hw1 := hwm.1; have hw2 := hwm.2
          have hflf : (k : Int) < (fs.length : Int) := by omega
          generalize prodTo fs r k = P at *
          have HS := Lib.hid hS; clear hS f0 f1 f2 hwm
          go_wp2_with fail
          go_region_held3 (fun w' => w'.cell? ⟨b1, o1 + k * 2, none⟩ = some (.int .i64 f.1) ∧ w'.cell? ⟨b1, o1 + k * 2 + 1, none⟩ = some (.int .i64 f.2) ∧ w'.cell? ⟨b2, o2 + k, none⟩ = some (.int .i64 c))
            (first | go_keep | (go_split_ands; exact ⟨cell_later (by assumption) (by assumption), cell_later (by assumption) (by assumption), cell_later (by assumption) (by assumption)⟩))
            (first | (go_at_call 101; refine (l3Digits_c f.1 f.2 c _ bd.1 bd.2.1 bd.2.2.1 bd.2.2.2).mono ?_; rintro e w' ⟨u, rfl, ho, hb2⟩; obtain ⟨a3, c3, rfl, _⟩ := (Sl.of_own ho).slice; rw [show (digL f.1 f.2 c).length = nDig f c from rfl] at *))
          have hb3 := Below.chain hb.drew hb2
          clear ho hb hb2 g0 g1 g2
          go_wp2
          go_roundw
          case rel => exact ⟨k + 1, by omega, by go_num, by rw [HS.out]; exact int_val (by first | exact hw1 | simp), hb3⟩
          case measure => simp [intOf]; omega
        · obtain rfl : k = r.length := by omega
          go_wp2
          go_ret2
          exact ⟨by rw [HF.out]; rfl, hb⟩
end Go.Proofs.Ytlipkplomndjcaa
namespace Go.Proofs.Ytlipkplomndjcaa
open Go.RowKit
set_option linter.unusedVariables false
set_option linter.unusedSimpArgs false
set_option maxRecDepth 100000
theorem Bk.ne_own {w : World} {g t : Nat} {cs : Array Value} {lo size n : Nat} {e : TypeId} {v : Value} {xs : List Value} (h : Bk w g t cs) (ho : w.ownsRow lo e size v n xs) (hne : t ≠ e) : v.ownBlock ≠ some g := by
  rcases ho.2 with ⟨rfl, _⟩ | ⟨k, cap, cur, rfl, _, hg, _⟩
  · simp [Value.ownBlock]
  · intro e2
    simp only [Value.ownBlock, Option.some.injEq] at e2
    subst e2
    unfold Bk at h
    rw [hg] at h
    simp only [Option.some.injEq, Obj.cells.injEq] at h
    exact hne h.2.1.symm
theorem cell_two {W : World} {b g o : Nat} {v : Value} (h : g ≠ b) (X Y : Value) (hv : W.cell? ⟨g, o, none⟩ = some v) : ((W.setCell ⟨b, 0, none⟩ X).setCell ⟨b, 1, none⟩ Y).cell? ⟨g, o, none⟩ = some v := by
  rw [World.cell?_setCell_other _ _ _ _ (by simp [h]), World.cell?_setCell_other _ _ _ _ (by simp [h])]; exact hv
/-- what a cell shows, whatever the fault -/
theorem l3ShownAny_c (d l c : Int) (w : World) : Calls Try.prog 81 #[.agg #[.int .i64 d, .int .i64 l], .int .i64 c] w fun e w' => ∃ x : Int, e = .returned (.int .i64 x) ∧ Below w.heap.size w w' := by
  go_enter Try.func81, Try.ntmps81
  go_wp2
  go_ret
  exact ⟨_, rfl, below_one _⟩
theorem DrawIsFault_c (v : Value) (xs : List Nat) (w : World) (h : Code w v xs) :
    Calls Try.prog 105 #[v] w fun e w' => ∃ d l : Int, e = .returned (.agg #[.int .i64 d, .int .i64 l]) ∧ Below w.heap.size w w' := by
  have HK := Lib.hid (cur_new (h.below (below_one (.cells #[.int .i64 0, .int .i64 0] 42))))
  have B0 := Lib.hid ((Bk.new w 42 #[.int .i64 0, .int .i64 0]).alloc (.cells #[v, .int .i64 0, .int .u64 0] 88))
  obtain ⟨a, c, rfl, _⟩ := h
  rw [World.size_alloc] at HK
  go_enter Try.func105, Try.ntmps105
  go_wp2_with fail
  refine (fault3_c (w.heap.size + 1) 0 _ HK.out (by omega)).mono ?_
  rintro e w1 ⟨d, l, rfl, hs⟩
  have HS2 := Lib.hid hs
  have B2 := Lib.hid (B0.out.step hs (by omega))
  have q0 : w1.cell? ⟨w.heap.size, 0, none⟩ = some (.int .i64 0) := B2.out.cell 0
  have q1 : w1.cell? ⟨w.heap.size, 1, none⟩ = some (.int .i64 0) := B2.out.cell 1
  have f0 : w1.frozen? ⟨w.heap.size, 0, none⟩ = false := B2.out.frozen 0
  have f1 : w1.frozen? ⟨w.heap.size, 1, none⟩ = false := B2.out.frozen 1
  clear hs B0
  go_wp2
  obtain ⟨z0, z1⟩ := two_res B2.out (.int .i64 d) (.int .i64 l)
  have hb : Below w.heap.size w w1 := ((Below.refl _ _).alloc (Nat.le_refl _) _).trans (((Below.refl _ _).alloc (by simp) _).trans (HS2.out.low (by omega) (by simp; omega)))
  exact bodyPost_ret (v := .agg #[.int .i64 d, .int .i64 l]) (by simp [results, Try.results105, go_sem, z0, z1]) rfl ⟨d, l, rfl, (hb.setCell (p := ⟨w.heap.size, 0, none⟩) (Nat.le_refl _) _).setCell (p := ⟨w.heap.size, 1, none⟩) (Nat.le_refl _) _⟩
theorem DrawToldDigits_c (v : Value) (xs : List Nat) (w : World) (h : Code w v xs) :
    Calls Try.prog 36 #[v] w fun e w' => ∃ d l : Int, e = .returned (.agg #[.int .i64 d, .int .i64 l]) ∧ Below w.heap.size w w' := by
  have HK := Lib.hid (h.below (below_one (.cells #[.int .i64 0, .int .i64 0] 42)))
  have B0 := Lib.hid (Bk.new w 42 #[.int .i64 0, .int .i64 0])
  obtain ⟨a, c, rfl, _⟩ := h
  go_enter Try.func36, Try.ntmps36
  go_wp2_with fail
  refine (DrawIsFault_c _ xs _ HK.out).mono ?_
  rintro e w1 ⟨d, l, rfl, hb⟩
  have B2 := Lib.hid (B0.out.below hb)
  have q0 : w1.cell? ⟨w.heap.size, 0, none⟩ = some (.int .i64 0) := B2.out.cell 0
  have q1 : w1.cell? ⟨w.heap.size, 1, none⟩ = some (.int .i64 0) := B2.out.cell 1
  have f0 : w1.frozen? ⟨w.heap.size, 0, none⟩ = false := B2.out.frozen 0
  have f1 : w1.frozen? ⟨w.heap.size, 1, none⟩ = false := B2.out.frozen 1
  have hb2 := Lib.hid (Below.chain (below_one _) hb)
  clear hb B0
  go_wp2
  obtain ⟨z0, z1⟩ := two_res B2.out (.int .i64 d) (.int .i64 l)
  exact bodyPost_ret (v := .agg #[.int .i64 d, .int .i64 l]) (by simp [results, Try.results36, go_sem, z0, z1]) rfl ⟨d, l, rfl, (hb2.out.setCell (p := ⟨w.heap.size, 0, none⟩) (Nat.le_refl _) _).setCell (p := ⟨w.heap.size, 1, none⟩) (Nat.le_refl _) _⟩
theorem DrawJoinFaults_c (v : Value) (xs : List Nat) (w : World) (h : Code w v xs) :
    Calls Try.prog 29 #[v] w fun e w' => ∃ a b c d : Int, e = .returned (.tuple #[.agg #[.int .i64 a, .int .i64 b], .agg #[.int .i64 c, .int .i64 d]]) ∧ Below w.heap.size w w' := by
  have HK := Lib.hid (cur_new ((h.below (below_one (.cells #[.int .i64 0, .int .i64 0] 42))).below (below_one (.cells #[.int .i64 0, .int .i64 0] 42))))
  have B0 := Lib.hid (((Bk.new w 42 #[.int .i64 0, .int .i64 0]).alloc (.cells #[.int .i64 0, .int .i64 0] 42)).alloc (.cells #[v, .int .i64 0, .int .u64 0] 88))
  have C0 := Lib.hid ((Bk.new (w.alloc (.cells #[.int .i64 0, .int .i64 0] 42)) 42 #[.int .i64 0, .int .i64 0]).alloc (.cells #[v, .int .i64 0, .int .u64 0] 88))
  obtain ⟨a, c, rfl, _⟩ := h
  simp only [World.size_alloc] at HK C0
  go_enter Try.func29, Try.ntmps29
  go_wp2_with fail
  refine (fault3_c (w.heap.size + 1 + 1) 0 _ HK.out (by omega)).mono ?_
  rintro e w1 ⟨d, l, rfl, hs⟩
  have HS := Lib.hid hs
  have B1 := Lib.hid (B0.out.step hs (by omega))
  have C1 := Lib.hid (C0.out.step hs (by omega))
  clear hs B0 C0
  go_wp2_with fail
  refine (fault3_c (w.heap.size + 1 + 1) _ _ HS.out.cur (by omega)).mono ?_
  rintro e w2 ⟨d2, l2, rfl, hs⟩
  have HS2 := Lib.hid (HS.out.trans hs)
  have B2 := Lib.hid (B1.out.step hs (by omega))
  have C2 := Lib.hid (C1.out.step hs (by omega))
  obtain ⟨q0, q1⟩ := (⟨B2.out.cell 0, B2.out.cell 1⟩ : w2.cell? ⟨w.heap.size, 0, none⟩ = some (.int .i64 0) ∧ w2.cell? ⟨w.heap.size, 1, none⟩ = some (.int .i64 0))
  obtain ⟨p0, p1⟩ := (⟨C2.out.cell 0, C2.out.cell 1⟩ : w2.cell? ⟨w.heap.size + 1, 0, none⟩ = some (.int .i64 0) ∧ w2.cell? ⟨w.heap.size + 1, 1, none⟩ = some (.int .i64 0))
  have f0 : w2.frozen? ⟨w.heap.size, 0, none⟩ = false := B2.out.frozen 0
  have f1 : w2.frozen? ⟨w.heap.size, 1, none⟩ = false := B2.out.frozen 1
  have g0 : w2.frozen? ⟨w.heap.size + 1, 0, none⟩ = false := C2.out.frozen 0
  have g1 : w2.frozen? ⟨w.heap.size + 1, 1, none⟩ = false := C2.out.frozen 1
  clear hs B1 C1 HS
  go_wp2
  have B3 := ((B2.out.set 0 (.int .i64 d)).set 1 (.int .i64 l))
  have B4 := (B3.other (p := ⟨w.heap.size + 1, 0, none⟩) (by simp) (.int .i64 d2)).other (p := ⟨w.heap.size + 1, 1, none⟩) (by simp) (.int .i64 l2)
  have C3 := (C2.out.other (p := ⟨w.heap.size, 0, none⟩) (by simp) (.int .i64 d)).other (p := ⟨w.heap.size, 1, none⟩) (by simp) (.int .i64 l)
  have C4 := (C3.set 0 (.int .i64 d2)).set 1 (.int .i64 l2)
  obtain ⟨z0, z1⟩ := (⟨B4.cell 0, B4.cell 1⟩ : _ = some (Value.int .i64 d) ∧ _ = some (Value.int .i64 l))
  obtain ⟨y0, y1⟩ := (⟨C4.cell 0, C4.cell 1⟩ : _ = some (Value.int .i64 d2) ∧ _ = some (Value.int .i64 l2))
  have hb : Below w.heap.size w w2 := ((Below.refl _ _).alloc (Nat.le_refl _) _).trans (((Below.refl _ _).alloc (by simp) _).trans (((Below.refl _ _).alloc (by simp; omega) _).trans (HS2.out.low (by omega) (by simp; omega))))
  exact bodyPost_ret (v := .tuple #[.agg #[.int .i64 d, .int .i64 l], .agg #[.int .i64 d2, .int .i64 l2]]) (by simp [results, Try.results29, go_sem, z0, z1, y0, y1]) rfl ⟨d, l, d2, l2, rfl, (((hb.setCell (p := ⟨w.heap.size, 0, none⟩) (Nat.le_refl _) _).setCell (p := ⟨w.heap.size, 1, none⟩) (Nat.le_refl _) _).setCell (p := ⟨w.heap.size + 1, 0, none⟩) (by simp) _).setCell (p := ⟨w.heap.size + 1, 1, none⟩) (by simp) _⟩
theorem div11q {x : Int} (h0 : 0 ≤ x) (h1 : x < 24) : ∃ q : Nat, Int.tdiv x 11 = (q : Int) ∧ q ≤ 2 := by
  rcases div11 h0 h1 with h | h | h
  · exact ⟨0, h, by omega⟩
  · exact ⟨1, h, by omega⟩
  · exact ⟨2, h, by omega⟩
theorem DrawCountHarmless_c (v : Value) (xs : List Nat) (w : World) (h : Code w v xs) :
    Calls Try.prog 48 #[v] w fun e w' => ∃ x : Int, e = .returned (.int .i64 x) ∧ Below w.heap.size w w' := by
  have HK := Lib.hid (cur_new h)
  obtain ⟨a, c, rfl, _⟩ := h
  have HI := Lib.hid (ints_lit (w.alloc (.cells #[.slice a xs.length c, .int .i64 0, .int .u64 0] 88)) [1, 2, 0, 3, 7, 8, -1] (by decide))
  rw [World.size_alloc] at HI
  go_enter Try.func48, Try.ntmps48
  go_wp2_with fail
  refine (pick_c 24 w.heap.size 0 _ (HK.out.alloc _) (by omega)).mono ?_
  rintro e w1 ⟨x, rfl, hx, hs⟩
  have HS : Hid (CStep (w.alloc (.cells #[.slice a xs.length c, .int .i64 0, .int .u64 0] 88)) w1 w.heap.size 2) := ((CStep.refl HK.out).alloc _).trans hs
  have HI2 : Hid (Ints w1 (.slice (some ⟨w.heap.size + 1, 0, none⟩) 7 7) [1, 2, 0, 3, 7, 8, -1]) := HI.out.grown hs.gr (.inr (by simp [Value.ownBlock]))
  have hx0 := hx.1
  have hx1 := hx.2 (by omega)
  clear hs hx
  obtain ⟨q, hq, hq2⟩ := div11q hx0 hx1
  go_wp2_with fail
  refine (amongT_c [1, 2, 0, 3, 7, 8, -1] (5 + q) (w.heap.size + 1) w.heap.size 2 _ HS.out.cur (by omega) HI2.out (by omega) (by omega) (by simp; omega)).mono ?_
  rintro e w2 ⟨y, rfl, _, hs⟩
  have HS2 := Lib.hid (HS.out.trans hs)
  clear hs
  go_wp2
  go_ret
  exact ⟨_, rfl, draw_below HS2.out⟩
theorem DrawCountNumbers_c (v : Value) (xs : List Nat) (w : World) (h : Code w v xs) :
    Calls Try.prog 12 #[v] w fun e w' => ∃ (v1 v2 : Value) (ps : List (Int × Int)) (r : List Int), e = .returned (.tuple #[v1, v2]) ∧ Pairs w' v1 ps ∧ Ints w' v2 r ∧ Below w.heap.size w w' := by
  have HK := Lib.hid (cur_new h)
  obtain ⟨a, c, rfl, _⟩ := h
  go_enter Try.func12, Try.ntmps12
  go_wp2_with fail
  refine (digits_d w.heap.size 0 _ HK.out (by omega)).mono ?_
  rintro e w1 ⟨v2, r, rfl, hl, ho, hs⟩
  have HS := Lib.hid hs
  have HO := Lib.hid ho
  clear hs ho
  go_wp2_with fail
  refine (panel3_c v2 r w.heap.size _ _ HS.out.cur (by omega) (Ints.of_own HO.out) hl).mono ?_
  rintro e w2 ⟨v1, ps, rfl, hp, hpp, hne, hs⟩
  have HO2 := Lib.hid (Ints.of_own (hs.row HO.out (by simp)))
  have HS2 := Lib.hid (HS.out.trans hs)
  have HP := Lib.hid hpp
  clear hs hpp
  go_wp2_with fail
  refine (sShownRow_c _ _ ps r _ HP.out HO2.out).mono ?_
  rintro e w3 ⟨u, rfl, ho3, hb3⟩
  have HI3 := Lib.hid (Ints.of_own ho3)
  have HO3 := Lib.hid (HO2.out.below hb3)
  have HP3 := Lib.hid (HP.out.below hb3)
  have HS3 := Lib.hid (HS2.out.below hb3)
  have NE := Lib.hid (show u.ownBlock ≠ some w.heap.size from own_block_ne ho3 HS2.out.cur.lt)
  have NP := Lib.hid hne
  have NO := Lib.hid (show v2.ownBlock ≠ some w.heap.size from own_block_ne HO.out (by simp))
  clear hb3 ho3 hne
  rcases hq : areB ps r with _ | _
  · rw [hq] at *
    go_wp2
    exact bodyPost_ret (v := .tuple #[v1, v2]) (by simp [results, Try.results12, go_sem]) rfl ⟨v1, v2, ps, r, rfl, HP3.out, HO3.out, draw_below HS3.out⟩
  · go_wp2_with fail
    refine (one_c 5 w.heap.size _ _ HS3.out.cur (by omega)).mono ?_
    rintro e w4 ⟨b, rfl, hs⟩
    have HS4 := Lib.hid (HS3.out.trans hs)
    have HI4 := Lib.hid (HI3.out.grown hs.gr (.inr NE.out))
    have HP4 := Lib.hid (Sl.grown HP3.out hs.gr (.inr NP.out))
    have HO4 := Lib.hid (HO3.out.grown hs.gr (.inr NO.out))
    clear hs
    cases b with
    | true =>
      go_wp2
      exact bodyPost_ret (v := .tuple #[v1, v2]) (by simp [results, Try.results12, go_sem]) rfl ⟨v1, v2, ps, r, rfl, HP4.out, HO4.out, draw_below HS4.out⟩
    | false =>
      go_wp2
      exact bodyPost_ret (v := .tuple #[v1, u]) (by simp [results, Try.results12, go_sem]) rfl ⟨v1, u, ps, srL ps r, rfl, HP4.out, HI4.out, draw_below HS4.out⟩
set_option maxHeartbeats 2000000 in
theorem DrawDigitsShown_c (v : Value) (xs : List Nat) (w : World) (h : Code w v xs) :
    Calls Try.prog 45 #[v] w fun e w' => ∃ d l c : Int, e = .returned (.tuple #[.agg #[.int .i64 d, .int .i64 l], .int .i64 c]) ∧ Below w.heap.size w w' := by
  have HK := Lib.hid (cur_new (h.below (below_one (.cells #[.int .i64 0, .int .i64 0] 42))))
  have B0 := Lib.hid ((Bk.new w 42 #[.int .i64 0, .int .i64 0]).alloc (.cells #[v, .int .i64 0, .int .u64 0] 88))
  obtain ⟨a, c, rfl, _⟩ := h
  rw [World.size_alloc] at HK
  go_enter Try.func45, Try.ntmps45
  go_wp2_with fail
  refine (fault3_c (w.heap.size + 1) 0 _ HK.out (by omega)).mono ?_
  rintro e w1 ⟨d, l, rfl, hs⟩
  have HS := Lib.hid (hs.alloc (.cells #[.int .i64 d, .int .i64 l] 42))
  have B1 := Lib.hid ((B0.out.step hs (by omega)).alloc (.cells #[.int .i64 d, .int .i64 l] 42))
  have C1 := Lib.hid (Bk.new w1 42 #[.int .i64 d, .int .i64 l])
  have hgl : w.heap.size + 1 < w1.heap.size := hs.cur.lt
  clear hs B0 HK
  go_wp2_with fail
  refine (l3Fault_c d l _).mono ?_
  rintro e w2 ⟨rfl, hb⟩
  have HS2 := Lib.hid (HS.out.below hb)
  have B2 := Lib.hid (B1.out.below hb)
  have C2 := Lib.hid (C1.out.below hb)
  clear hb HS B1 C1
  have endA : ∀ (W : World) (x : Int), CStep ((w.alloc (.cells #[.int .i64 0, .int .i64 0] 42)).alloc (.cells #[.slice a xs.length c, .int .i64 0, .int .u64 0] 88)) W (w.heap.size + 1) 100 → Bk W w.heap.size 42 #[.int .i64 0, .int .i64 0] → (((W.setCell ⟨w.heap.size, 0, none⟩ (.int .i64 d)).setCell ⟨w.heap.size, 1, none⟩ (.int .i64 l)).cell? ⟨w.heap.size, 0, none⟩ = some (.int .i64 d) ∧ ((W.setCell ⟨w.heap.size, 0, none⟩ (.int .i64 d)).setCell ⟨w.heap.size, 1, none⟩ (.int .i64 l)).cell? ⟨w.heap.size, 1, none⟩ = some (.int .i64 l)) ∧ Below w.heap.size w ((W.setCell ⟨w.heap.size, 0, none⟩ (.int .i64 d)).setCell ⟨w.heap.size, 1, none⟩ (.int .i64 l)) := by
    intro W x hs hB
    have hb : Below w.heap.size w W := ((Below.refl _ _).alloc (Nat.le_refl _) _).trans (((Below.refl _ _).alloc (by simp) _).trans (hs.low (by omega) (by simp; omega)))
    exact ⟨two_res hB _ _, (hb.setCell (p := ⟨w.heap.size, 0, none⟩) (Nat.le_refl _) _).setCell (p := ⟨w.heap.size, 1, none⟩) (Nat.le_refl _) _⟩
  have EA := Lib.hid endA
  clear endA
  have cellWay : ∀ (W : World) (n : Nat), n ≤ 60 → CStep ((w.alloc (.cells #[.int .i64 0, .int .i64 0] 42)).alloc (.cells #[.slice a xs.length c, .int .i64 0, .int .u64 0] 88)) W (w.heap.size + 1) n → Calls Try.prog 83 #[.pointer (some ⟨w.heap.size + 1, 0, none⟩)] W (DrawI W (w.heap.size + 1) (n + 20) fun _ => True) := fun W n hn hs => cell_c _ n _ hs.cur (by omega)
  have CW := Lib.hid cellWay
  clear cellWay
  rcases hq : faultB d l with _ | _
  · have q0 : w2.cell? ⟨w1.heap.size, 0, none⟩ = some (.int .i64 d) := C2.out.cell 0
    have q1 : w2.cell? ⟨w1.heap.size, 1, none⟩ = some (.int .i64 l) := C2.out.cell 1
    go_wp2_with fail
    go_region_held3 (fun w' => w'.cell? ⟨w1.heap.size, 0, none⟩ = some (.int .i64 d) ∧ w'.cell? ⟨w1.heap.size, 1, none⟩ = some (.int .i64 l))
      (first | (go_split_ands; exact ⟨cell_two (by omega) _ _ ‹_›, cell_two (by omega) _ _ ‹_›⟩) | go_keep | (go_split_ands; refine ⟨?_, ?_⟩ <;> assumption))
      (first | (go_at_call 83; refine (CW.out _ _ (by omega) HS2.out.drew).mono ?_; rintro e wA ⟨x, rfl, _, hs⟩; have HSA := Lib.hid ((HS2.out.drew.trans hs).mono (m' := 100) (by omega)); have BA := Lib.hid (B2.out.drew.step hs (by omega)); have CA := Lib.hid (C2.out.drew.step hs (by omega)); have k0 : wA.cell? ⟨w1.heap.size, 0, none⟩ = some (.int .i64 d) := CA.out.cell 0; have k1 : wA.cell? ⟨w1.heap.size, 1, none⟩ = some (.int .i64 l) := CA.out.cell 1; have p0 : wA.cell? ⟨w.heap.size, 0, none⟩ = some (.int .i64 0) := BA.out.cell 0; have p1 : wA.cell? ⟨w.heap.size, 1, none⟩ = some (.int .i64 0) := BA.out.cell 1; have f0 : wA.frozen? ⟨w.heap.size, 0, none⟩ = false := BA.out.frozen 0; have f1 : wA.frozen? ⟨w.heap.size, 1, none⟩ = false := BA.out.frozen 1))
    go_split_ands
    obtain ⟨⟨z0, z1⟩, hb9⟩ := EA.out wA 0 HSA.out BA.out
    go_wp2
    exact bodyPost_ret (v := .tuple #[.agg #[.int .i64 d, .int .i64 l], .int .i64 x]) (by simp [results, Try.results45, go_sem, z0, z1]) rfl ⟨d, l, x, rfl, hb9⟩
  · go_wp2_with fail
    refine (one_c 4 (w.heap.size + 1) _ _ HS2.out.cur (by omega)).mono ?_
    rintro e w3 ⟨t, rfl, hs⟩
    have HS3 := Lib.hid (HS2.out.trans hs)
    have B3 := Lib.hid (B2.out.step hs (by omega))
    have C3 := Lib.hid (C2.out.step hs (by omega))
    clear hs
    cases t with
    | true =>
      have q0 : w3.cell? ⟨w1.heap.size, 0, none⟩ = some (.int .i64 d) := C3.out.cell 0
      have q1 : w3.cell? ⟨w1.heap.size, 1, none⟩ = some (.int .i64 l) := C3.out.cell 1
      go_wp2_with fail
      go_region_held3 (fun w' => w'.cell? ⟨w1.heap.size, 0, none⟩ = some (.int .i64 d) ∧ w'.cell? ⟨w1.heap.size, 1, none⟩ = some (.int .i64 l))
        (first | (go_split_ands; exact ⟨cell_two (by omega) _ _ ‹_›, cell_two (by omega) _ _ ‹_›⟩) | go_keep | (go_split_ands; refine ⟨?_, ?_⟩ <;> assumption))
        (first | (go_at_call 83; refine (CW.out _ _ (by omega) HS3.out.drew).mono ?_; rintro e wA ⟨x, rfl, _, hs⟩; have HSA := Lib.hid ((HS3.out.drew.trans hs).mono (m' := 100) (by omega)); have BA := Lib.hid (B3.out.drew.step hs (by omega)); have CA := Lib.hid (C3.out.drew.step hs (by omega)); have k0 : wA.cell? ⟨w1.heap.size, 0, none⟩ = some (.int .i64 d) := CA.out.cell 0; have k1 : wA.cell? ⟨w1.heap.size, 1, none⟩ = some (.int .i64 l) := CA.out.cell 1; have p0 : wA.cell? ⟨w.heap.size, 0, none⟩ = some (.int .i64 0) := BA.out.cell 0; have p1 : wA.cell? ⟨w.heap.size, 1, none⟩ = some (.int .i64 0) := BA.out.cell 1; have f0 : wA.frozen? ⟨w.heap.size, 0, none⟩ = false := BA.out.frozen 0; have f1 : wA.frozen? ⟨w.heap.size, 1, none⟩ = false := BA.out.frozen 1))
      go_split_ands
      obtain ⟨⟨z0, z1⟩, hb9⟩ := EA.out wA 0 HSA.out BA.out
      go_wp2
      exact bodyPost_ret (v := .tuple #[.agg #[.int .i64 d, .int .i64 l], .int .i64 x]) (by simp [results, Try.results45, go_sem, z0, z1]) rfl ⟨d, l, x, rfl, hb9⟩
    | false =>
      have q0 : w3.cell? ⟨w1.heap.size, 0, none⟩ = some (.int .i64 d) := C3.out.cell 0
      have q1 : w3.cell? ⟨w1.heap.size, 1, none⟩ = some (.int .i64 l) := C3.out.cell 1
      go_wp2_with fail
      go_region_held3 (fun w' => w'.cell? ⟨w1.heap.size, 0, none⟩ = some (.int .i64 d) ∧ w'.cell? ⟨w1.heap.size, 1, none⟩ = some (.int .i64 l))
        (first | (go_split_ands; exact ⟨cell_two (by omega) _ _ ‹_›, cell_two (by omega) _ _ ‹_›⟩) | go_keep | (go_split_ands; refine ⟨?_, ?_⟩ <;> assumption))
        (first | (go_at_call 80; refine (pick_c 10 (w.heap.size + 1) _ _ HS3.out.drew.cur (by omega)).mono ?_; rintro e wA ⟨x, rfl, hx, hs⟩; have HSA := Lib.hid ((HS3.out.drew.trans hs).mono (m' := 100) (by omega)); have BA := Lib.hid (B3.out.drew.step hs (by omega)); have CA := Lib.hid (C3.out.drew.step hs (by omega)); have k0 : wA.cell? ⟨w1.heap.size, 0, none⟩ = some (.int .i64 d) := CA.out.cell 0; have k1 : wA.cell? ⟨w1.heap.size, 1, none⟩ = some (.int .i64 l) := CA.out.cell 1; have x0 := hx.1; have x1 : x ≤ 9 := by have := hx.2 (by omega); omega) | (go_at_call 82; refine (l2Digit_c x x0 x1 _).mono ?_; rintro e wB ⟨rfl, hb⟩; have HSB := Lib.hid (HSA.out.below hb); have BB := Lib.hid (BA.out.below hb); have CB := Lib.hid (CA.out.below hb); have m0 : wB.cell? ⟨w1.heap.size, 0, none⟩ = some (.int .i64 d) := CB.out.cell 0; have m1 : wB.cell? ⟨w1.heap.size, 1, none⟩ = some (.int .i64 l) := CB.out.cell 1) | (go_at_call 81; refine (l3ShownAny_c d l _ _).mono ?_; rintro e wC ⟨y, rfl, hb2⟩; have HSC := Lib.hid (HSB.out.below hb2); have BC := Lib.hid (BB.out.below hb2); have CC := Lib.hid (CB.out.below hb2); have n0 : wC.cell? ⟨w1.heap.size, 0, none⟩ = some (.int .i64 d) := CC.out.cell 0; have n1 : wC.cell? ⟨w1.heap.size, 1, none⟩ = some (.int .i64 l) := CC.out.cell 1; have p0 : wC.cell? ⟨w.heap.size, 0, none⟩ = some (.int .i64 0) := BC.out.cell 0; have p1 : wC.cell? ⟨w.heap.size, 1, none⟩ = some (.int .i64 0) := BC.out.cell 1; have f0 : wC.frozen? ⟨w.heap.size, 0, none⟩ = false := BC.out.frozen 0; have f1 : wC.frozen? ⟨w.heap.size, 1, none⟩ = false := BC.out.frozen 1))
      go_split_ands
      obtain ⟨⟨z0, z1⟩, hb9⟩ := EA.out wC 0 HSC.out BC.out
      go_wp2
      exact bodyPost_ret (v := .tuple #[.agg #[.int .i64 d, .int .i64 l], .int .i64 y]) (by simp [results, Try.results45, go_sem, z0, z1]) rfl ⟨d, l, y, rfl, hb9⟩
set_option maxHeartbeats 2000000 in
theorem DrawFaultsOf_c (v : Value) (xs : List Nat) (w : World) (h : Code w v xs) :
    Calls Try.prog 9 #[v] w fun e w' => ∃ (v1 v2 : Value) (ds cs : List Int), e = .returned (.tuple #[v1, v2]) ∧ Ints w' v1 ds ∧ Ints w' v2 cs ∧ Below w.heap.size w w' := by
  have HK := Lib.hid (cur_new h)
  obtain ⟨i, hi, hz0, hz1, hz2⟩ := info_parts info_int
  obtain ⟨a, c, rfl, _⟩ := h
  go_enter Try.func9, Try.ntmps9
  go_wp2_with fail
  refine (fault3_c w.heap.size 0 _ HK.out (by omega)).mono ?_
  rintro e w1 ⟨d, l, rfl, hs⟩
  have HS := Lib.hid hs
  clear hs
  have HO1 := Lib.hid (((row_start w1 w1.heap.size (Nat.le_refl _)).alloc (.cells #[] 3)).alloc (.cells #[.int .i64 d, .int .i64 l] 42))
  have HO2 := Lib.hid ((row_start (w1.alloc (.cells #[] 3)) w1.heap.size (by simp)).alloc (.cells #[.int .i64 d, .int .i64 l] 42))
  have BF := Lib.hid (Bk.new ((w1.alloc (.cells #[] 3)).alloc (.cells #[] 3)) 42 #[.int .i64 d, .int .i64 l])
  have HS1 := Lib.hid (((HS.out.alloc (.cells #[] 3)).alloc (.cells #[] 3)).alloc (.cells #[.int .i64 d, .int .i64 l] 42))
  simp only [World.size_alloc] at HO2 BF
  have hgl : w.heap.size < w1.heap.size := HS.out.cur.lt
  have HI := Lib.hid (ints_lit (((w1.alloc (.cells #[] 3)).alloc (.cells #[] 3)).alloc (.cells #[.int .i64 d, .int .i64 l] 42)) [2, 3, 1, 4, 6, 0, 10, 11] (by decide))
  simp only [World.size_alloc] at HI
  have HS2 := Lib.hid (HS1.out.alloc (.cells #[.int .i64 2, .int .i64 3, .int .i64 1, .int .i64 4, .int .i64 6, .int .i64 0, .int .i64 10, .int .i64 11] 3))
  have O1 := Lib.hid (HO1.out.alloc (.cells #[.int .i64 2, .int .i64 3, .int .i64 1, .int .i64 4, .int .i64 6, .int .i64 0, .int .i64 10, .int .i64 11] 3))
  have O2 := Lib.hid (HO2.out.alloc (.cells #[.int .i64 2, .int .i64 3, .int .i64 1, .int .i64 4, .int .i64 6, .int .i64 0, .int .i64 10, .int .i64 11] 3))
  have BF2 := Lib.hid (BF.out.alloc (.cells #[.int .i64 2, .int .i64 3, .int .i64 1, .int .i64 4, .int .i64 6, .int .i64 0, .int .i64 10, .int .i64 11] 3))
  clear HO1 HO2 BF HS1 HS
  go_wp2_with fail
  refine (pick_c 24 w.heap.size _ _ HS2.out.cur (by omega)).mono ?_
  rintro e w2 ⟨x, rfl, hx, hs⟩
  have HS3 := Lib.hid (HS2.out.trans hs)
  have HI2 : Hid (Ints w2 (.slice (some ⟨w1.heap.size + 1 + 1 + 1, 0, none⟩) 8 8) [2, 3, 1, 4, 6, 0, 10, 11]) := HI.out.grown hs.gr (.inr (by simp [Value.ownBlock]; omega))
  have P1 := Lib.hid (hs.row O1.out hgl)
  have P2 := Lib.hid (hs.row O2.out hgl)
  have BF3 := Lib.hid (BF2.out.step hs (by omega))
  have hx0 := hx.1
  have hx1 := hx.2 (by omega)
  clear hs hx O1 O2 BF2 HS2 HI
  obtain ⟨q, hq, hq2⟩ := div11q hx0 hx1
  go_wp2_with fail
  refine (amongT_c [2, 3, 1, 4, 6, 0, 10, 11] (6 + q) (w1.heap.size + 1 + 1 + 1) w.heap.size _ _ HS3.out.cur (by omega) HI2.out (by omega) (by omega) (by simp; omega)).mono ?_
  rintro e w3 ⟨x, rfl, hx, hs⟩
  have HS4 := Lib.hid (HS3.out.trans hs)
  have R1 := Lib.hid (hs.row P1.out hgl)
  have R2 := Lib.hid (hs.row P2.out hgl)
  have BF4 := Lib.hid (BF3.out.step hs (by omega))
  have hz3 := Lib.hid (show w1.heap.size ≤ w3.heap.size by have := BF4.out.lt; omega)
  obtain ⟨x0, x1⟩ : 0 ≤ x ∧ x ≤ 11 := by
    simp only [List.mem_cons, List.not_mem_nil, or_false] at hx; omega
  obtain ⟨k, rfl⟩ := Int.eq_ofNat_of_zero_le x0
  have hk : k ≤ 11 := by omega
  clear hs hx x0 x1 P1 P2 BF3 HS3 HI2 hq hx0 hx1
  go_wp2
  go_loopw [6, 7, 8] (fun vd vc j wr => ∃ (k : Nat) (ds cs : List Int), k ≤ 11 ∧ j = .int .i64 (k : Int) ∧ ds.length + k ≤ 11 ∧ cs.length + k ≤ 11 ∧ Hid (wr.ownsRow w1.heap.size 3 1 vd ds.length (ds.map (Value.int .i64))) ∧ Hid (wr.ownsRow w1.heap.size 3 1 vc cs.length (cs.map (Value.int .i64))) ∧ Hid (vd.ownBlock ≠ vc.ownBlock) ∧ Hid (Bk wr (w1.heap.size + 1 + 1) 42 #[.int .i64 d, .int .i64 l]) ∧ Hid (CStep (w.alloc (.cells #[.slice a xs.length c, .int .i64 0, .int .u64 0] 88)) wr w.heap.size (34 + 2 * (11 - k)))) (fun _ _ j _ => (intOf j).toNat)
  case atStart => exact ⟨k, [], [], hk, rfl, by simpa using hk, by simpa using hk, R1, R2, (by show _ ≠ _; simp [Value.ownBlock]), BF4, HS4.out.mono (by omega)⟩
  case round =>
    obtain ⟨k, ds, cs, hk, rfl, hl1, hl2, HD, HCc, HN, HB, HS⟩ := hrel
    by_cases hk0 : 0 < k
    · have hd : decide (0 < (k : Int)) = true := by simp; omega
      go_wp2_with fail
      refine (pick_c 10 w.heap.size _ _ HS.out.cur (by omega)).mono ?_
      rintro e w4 ⟨x, rfl, hx, hs⟩
      have HS5 := Lib.hid (HS.out.trans hs)
      have HD5 := Lib.hid (hs.row HD.out hgl)
      have HC5 := Lib.hid (hs.row HCc.out hgl)
      have HB5 := Lib.hid (HB.out.step hs (by omega))
      have x0 := hx.1
      have x1 : x ≤ 9 := by have := hx.2 (by omega); omega
      have z5 := Lib.hid (show w1.heap.size ≤ w4.heap.size by have := HB5.out.lt; omega)
      clear hs hx HS HD HCc HB
      go_wp2_with (at_builtin; refine wpList_append_own_at _ rfl _ _ 24 rfl w1.heap.size 3 i (.int .i64 0) 1 8 Try.underlying24 hi hz0 hz1 hz2 rfl (by decide) _ ds.length (ds.map (Value.int .i64)) rfl (HD5.out.alloc _) ⟨w4.heap.size, 0, none⟩ 1 1 [.int .i64 x] rfl rfl (news_new _ [.int .i64 x] _) (by simp [Value.oneCell']) (by unfold maxLen; omega) (by omega) (by have := z5.out; simp; omega) ?_)
      intro vd w5 ho5 hg5 _ hat
      have HS6 := Lib.hid ((HS5.out.alloc _).grown hg5 (by simp) (fun k hk => Nat.le_trans (by simp; omega) ((HD5.out.alloc (.cells #[.int .i64 x] 3)).lt k hk).1))
      have HD6 := Lib.hid ho5
      have HC6 := Lib.hid ((HC5.out.alloc (.cells #[.int .i64 x] 3)).kept hg5 (.inr (fun e => HN.out e.symm)))
      have HB6 := Lib.hid ((HB5.out.alloc (.cells #[.int .i64 x] 3)).grown hg5 (fun e => HB5.out.ne_own HD5.out (by decide) e.symm))
      have HN6 : Hid (vd.ownBlock ≠ u7.ownBlock) := by
        show _ ≠ _
        rcases hat with e | e
        · rw [e]; exact HN.out
        · rw [e]; intro e2
          have := (HC5.out.lt _ e2.symm).2
          first | omega | (simp only [World.size_alloc] at this; omega)
      have z6 := Lib.hid (show w1.heap.size ≤ w5.heap.size by have := HB6.out.lt; omega)
      have g0 : w5.cell? ⟨w1.heap.size + 1 + 1, 0, none⟩ = some (.int .i64 d) := HB6.out.cell 0
      have g1 : w5.cell? ⟨w1.heap.size + 1 + 1, 1, none⟩ = some (.int .i64 l) := HB6.out.cell 1
      clear ho5 hg5 hat HS5 HD5 HC5 HB5 HN z5
      go_wp2_with fail
      go_region_held3 (fun w' => w'.cell? ⟨w1.heap.size + 1 + 1, 0, none⟩ = some (.int .i64 d) ∧ w'.cell? ⟨w1.heap.size + 1 + 1, 1, none⟩ = some (.int .i64 l))
        (first | (go_split_ands; exact ⟨cell_later ‹_› ‹_›, cell_later ‹_› ‹_›⟩) | go_keep | (go_split_ands; refine ⟨?_, ?_⟩ <;> assumption))
        (first | (go_at_call 82; refine (l2Digit_c x x0 x1 _).mono ?_; rintro e wA ⟨rfl, hb2⟩; have hbx : Below w5.heap.size w5 wA := Below.chain (Below.refl _ _).drew hb2) | (go_at_call 81; refine (l3ShownAny_c d l _ _).mono ?_; rintro e wB ⟨y, rfl, hb3⟩; have hby : Below w5.heap.size w5 wB := Below.chain hbx hb3; have HCy := own_keep HC6.out hby; have HBy := HB6.out.below hby) | (refine step_append_at (by rfl) _ _ _ (by rfl) w1.heap.size 3 i (.int .i64 0) 1 8 Try.underlying24 hi hz0 hz1 hz2 rfl (by decide) _ cs.length (cs.map (Value.int .i64)) (by rfl) (HCy.alloc _) ⟨wB.heap.size, 0, none⟩ 1 1 [.int .i64 y] (by rfl) (by rfl) (news_new _ [.int .i64 y] _) (by simp [Value.oneCell']) (by unfold maxLen; omega) (by omega) (by have := hby.size; have := z6.out; simp; omega) ?_; intro vc wC hoC hgC hatC; have HBC := (HBy.alloc (.cells #[.int .i64 y] 3)).grown hgC (fun e => HBy.ne_own HCy (by decide) e.symm); have k0 : wC.cell? ⟨w1.heap.size + 1 + 1, 0, none⟩ = some (.int .i64 d) := HBC.cell 0; have k1 : wC.cell? ⟨w1.heap.size + 1 + 1, 1, none⟩ = some (.int .i64 l) := HBC.cell 1))
      have HSy := Lib.hid (((HS6.out.below hby).alloc (.cells #[.int .i64 y] 3)).grown hgC (by simp) (fun k hk => Nat.le_trans (by simp; omega) ((HCy.alloc (.cells #[.int .i64 y] 3)).lt k hk).1))
      have HDy := own_keep HD6.out hby
      have HDC := Lib.hid ((HDy.alloc (.cells #[.int .i64 y] 3)).kept hgC (.inr HN6.out))
      have HNC : Hid (vd.ownBlock ≠ vc.ownBlock) := by
        show _ ≠ _
        rcases hatC with e | e
        · rw [e]; exact HN6.out
        · rw [e]; intro e2
          have := (HDy.lt _ e2).2
          first | omega | (simp only [World.size_alloc] at this; omega)
      have HCC := Lib.hid hoC
      have HBB := Lib.hid HBC
      clear hoC HBC hgC hatC HCy HBy HDy HS6 HD6 HC6 HB6 HN6 hb2 hb3 hbx hby k0 k1 g0 g1
      go_wp2
      go_roundw
      case rel => exact ⟨k - 1, ds ++ [x], cs ++ [y], by omega, by go_num, by simp; omega, by simp; omega, ownsRow_cast HDC.out (by simp) (ints_snoc _ _).symm, ownsRow_cast HCC.out (by simp) (ints_snoc _ _).symm, HNC, HBB, HSy.out.mono (by omega)⟩
      case measure => simp [intOf]; omega
    · obtain rfl : k = 0 := by omega
      clear hk0
      go_wp2_with fail
      refine (pick_c 24 w.heap.size _ _ HS.out.cur (by omega)).mono ?_
      rintro e w4 ⟨x, rfl, hx, hs⟩
      have HS5 := Lib.hid (HS.out.trans hs)
      have HD5 := Lib.hid (hs.row HD.out hgl)
      have HC5 := Lib.hid (hs.row HCc.out hgl)
      have hz4 := Lib.hid (show w1.heap.size ≤ w4.heap.size by have := (HB.out.step hs (by omega)).lt; omega)
      clear hs hx HS HD HCc HB
      by_cases e0 : x = 0
      · subst e0
        go_wp2_with (at_builtin; refine wpList_append_own_at _ rfl _ _ 24 rfl w1.heap.size 3 i (.int .i64 0) 1 8 Try.underlying24 hi hz0 hz1 hz2 rfl (by decide) _ cs.length (cs.map (Value.int .i64)) rfl (HC5.out.alloc _) ⟨w4.heap.size, 0, none⟩ 1 1 [.int .i64 0] rfl rfl (news_new _ [.int .i64 0] _) (by simp [Value.oneCell']) (by unfold maxLen; omega) (by omega) (by have := hz4.out; simp; omega) ?_)
        intro vc w5 ho5 hg5 _ hat
        have HS6 := Lib.hid ((HS5.out.alloc _).grown hg5 (by simp) (fun k hk => Nat.le_trans (by simp; omega) ((HC5.out.alloc (.cells #[.int .i64 0] 3)).lt k hk).1))
        have HD6 := Lib.hid ((HD5.out.alloc (.cells #[.int .i64 0] 3)).kept hg5 (.inr HN.out))
        have HC6 := Lib.hid (ownsRow_cast ho5 (by simp) (ints_snoc _ _).symm : w5.ownsRow w1.heap.size 3 1 vc (cs ++ [0]).length ((cs ++ [0]).map (Value.int .i64)))
        clear ho5 hg5 hat
        go_wp2
        exact bodyPost_ret (v := .tuple #[u6, vc]) (by simp [results, Try.results9, go_sem]) rfl ⟨u6, vc, ds, cs ++ [0], rfl, Ints.of_own HD6.out, Ints.of_own HC6.out, draw_below HS6.out⟩
      · by_cases e1 : x = 1
        · subst e1
          have HI3 := Lib.hid (HS5.out.alloc (.cells #[.int .i64 10, .int .i64 (-1), .int .i64 3] 3))
          have HD5b := Lib.hid (HD5.out.alloc (.cells #[.int .i64 10, .int .i64 (-1), .int .i64 3] 3))
          have HC5b := Lib.hid (HC5.out.alloc (.cells #[.int .i64 10, .int .i64 (-1), .int .i64 3] 3))
          go_wp2_with fail
          refine (amongL_c [10, -1, 3] w.heap.size _ _ _ rfl HS5.out.cur (by omega) (by decide) (by decide)).mono ?_
          rintro e w5 ⟨y, rfl, _, hs⟩
          have HS6 := Lib.hid (HS5.out.trans hs)
          have HD6 := Lib.hid (hs.row HD5.out hgl)
          have HC6 := Lib.hid (hs.row HC5.out hgl)
          have hz5 := Lib.hid (show w1.heap.size ≤ w5.heap.size by have := hs.gr.size; have := hz4.out; omega)
          clear hs HI3 HD5b HC5b HS5 HD5 HC5
          go_wp2_with (at_builtin; refine wpList_append_own_at _ rfl _ _ 24 rfl w1.heap.size 3 i (.int .i64 0) 1 8 Try.underlying24 hi hz0 hz1 hz2 rfl (by decide) _ ds.length (ds.map (Value.int .i64)) rfl (HD6.out.alloc _) ⟨w5.heap.size, 0, none⟩ 1 1 [.int .i64 y] rfl rfl (news_new _ [.int .i64 y] _) (by simp [Value.oneCell']) (by unfold maxLen; omega) (by omega) (by have := hz5.out; simp; omega) ?_)
          intro vd w6 ho6 hg6 _ hat
          have HS7 := Lib.hid ((HS6.out.alloc _).grown hg6 (by simp) (fun k hk => Nat.le_trans (by simp; omega) ((HD6.out.alloc (.cells #[.int .i64 y] 3)).lt k hk).1))
          have HC7 := Lib.hid ((HC6.out.alloc (.cells #[.int .i64 y] 3)).kept hg6 (.inr (fun e => HN.out e.symm)))
          have HD7 := Lib.hid (ownsRow_cast ho6 (by simp) (ints_snoc _ _).symm : w6.ownsRow w1.heap.size 3 1 vd (ds ++ [y]).length ((ds ++ [y]).map (Value.int .i64)))
          have HN7 : Hid (vd.ownBlock ≠ u7.ownBlock) := by
            show _ ≠ _
            rcases hat with e | e
            · rw [e]; exact HN.out
            · rw [e]; intro e2
              have := (HC6.out.lt _ e2.symm).2
              first | omega | (simp only [World.size_alloc] at this; omega)
          have hz6 := Lib.hid (show w1.heap.size ≤ w6.heap.size by have := hg6.size; have := hz5.out; simp only [World.size_alloc] at *; omega)
          clear ho6 hg6 hat HS6 HC6 HD6
          go_wp2_with fail
          refine (cell_c w.heap.size _ _ HS7.out.cur (by omega)).mono ?_
          rintro e w7 ⟨z, rfl, _, hs⟩
          have HS8 := Lib.hid (HS7.out.trans hs)
          have HD8 := Lib.hid (hs.row HD7.out hgl)
          have HC8 := Lib.hid (hs.row HC7.out hgl)
          have hz7 := Lib.hid (show w1.heap.size ≤ w7.heap.size by have := hs.gr.size; have := hz6.out; omega)
          clear hs HS7 HD7 HC7
          go_wp2_with (at_builtin; refine wpList_append_own_at _ rfl _ _ 24 rfl w1.heap.size 3 i (.int .i64 0) 1 8 Try.underlying24 hi hz0 hz1 hz2 rfl (by decide) _ cs.length (cs.map (Value.int .i64)) rfl (HC8.out.alloc _) ⟨w7.heap.size, 0, none⟩ 1 1 [.int .i64 z] rfl rfl (news_new _ [.int .i64 z] _) (by simp [Value.oneCell']) (by unfold maxLen; omega) (by omega) (by have := hz7.out; simp; omega) ?_)
          intro vc w8 ho8 hg8 _ _
          have HS9 := Lib.hid ((HS8.out.alloc _).grown hg8 (by simp) (fun k hk => Nat.le_trans (by simp; omega) ((HC8.out.alloc (.cells #[.int .i64 z] 3)).lt k hk).1))
          have HD9 := Lib.hid ((HD8.out.alloc (.cells #[.int .i64 z] 3)).kept hg8 (.inr HN7.out))
          have HC9 := Lib.hid (ownsRow_cast ho8 (by simp) (ints_snoc _ _).symm : w8.ownsRow w1.heap.size 3 1 vc (cs ++ [z]).length ((cs ++ [z]).map (Value.int .i64)))
          clear ho8 hg8
          go_wp2
          exact bodyPost_ret (v := .tuple #[vd, vc]) (by simp [results, Try.results9, go_sem]) rfl ⟨vd, vc, ds ++ [y], cs ++ [z], rfl, Ints.of_own HD9.out, Ints.of_own HC9.out, draw_below HS9.out⟩
        · go_wp2
          exact bodyPost_ret (v := .tuple #[u6, u7]) (by simp [results, Try.results9, go_sem]) rfl ⟨u6, u7, ds, cs, rfl, Ints.of_own HD5.out, Ints.of_own HC5.out, draw_below HS5.out⟩
end Go.Proofs.Ytlipkplomndjcaa
namespace Go.Proofs.Ytlipkplomndjcaa
open Go.RowKit
set_option linter.unusedVariables false
/-- the row while it is gone through: what is kept, what is left over, what is still to come -/
def DInv {α : Type} (p : α → Bool) (es : List α) (j i : Nat) (R : List α) : Prop :=
  ∃ J, R = (es.take j).filter (fun x => !p x) ++ (J ++ es.drop j) ∧ ((es.take j).filter fun x => !p x).length = i ∧ i + J.length = j ∧ i < j ∧ j ≤ es.length
theorem DInv.start {α : Type} {p : α → Bool} {es : List α} {k : Nat} {x : α} (hx : es[k]? = some x) (hp : p x = true) (h : ∀ j y, j < k → es[j]? = some y → p y = false) : DInv p es (k + 1) k es := by
  have hk : k < es.length := (List.getElem?_eq_some_iff.1 hx).1
  have hall : (es.take k).filter (fun x => !p x) = es.take k := by
    rw [List.filter_eq_self]
    intro y hy
    obtain ⟨j, hj, rfl⟩ := List.getElem_of_mem hy
    have hj2 : j < k := by rw [List.length_take] at hj; omega
    have := h j (es.take k)[j] hj2 (by rw [List.getElem_take, List.getElem?_eq_getElem (by omega)])
    rw [this]; rfl
  have hf : (es.take (k + 1)).filter (fun x => !p x) = es.take k := by
    rw [List.take_succ_eq_append_getElem hk, List.filter_append, hall]
    have : es[k] = x := by rw [List.getElem?_eq_getElem hk] at hx; exact Option.some.inj hx
    simp [this, hp]
  refine ⟨[x], ?_, ?_, by simp, by omega, hk⟩
  · rw [hf]
    have e : es[k] = x := by rw [List.getElem?_eq_getElem hk] at hx; exact Option.some.inj hx
    calc es = es.take k ++ es.drop k := (List.take_append_drop k es).symm
      _ = _ := by rw [List.drop_eq_getElem_cons hk, e]; rfl
  · rw [hf, List.length_take]; omega
theorem DInv.len {α : Type} {p : α → Bool} {es R : List α} {i j : Nat} (h : DInv p es j i R) : R.length = es.length := by
  obtain ⟨J, rfl, h1, h2, h3, h4⟩ := h
  simp only [List.length_append, List.length_drop]; omega
theorem DInv.get {α : Type} {p : α → Bool} {es R : List α} {i j : Nat} {x : α} (h : DInv p es j i R) (hx : es[j]? = some x) : R[j]? = some x := by
  obtain ⟨J, rfl, h1, h2, h3, h4⟩ := h
  rw [List.getElem?_append_right (by omega), List.getElem?_append_right (by omega), List.getElem?_drop, ← hx]
  congr 1; omega
theorem DInv.skip {α : Type} {p : α → Bool} {es R : List α} {i j : Nat} {x : α} (h : DInv p es j i R) (hx : es[j]? = some x) (hp : p x = true) : DInv p es (j + 1) i R := by
  obtain ⟨J, rfl, h1, h2, h3, h4⟩ := h
  have hj : j < es.length := (List.getElem?_eq_some_iff.1 hx).1
  have e : es[j] = x := by rw [List.getElem?_eq_getElem hj] at hx; exact Option.some.inj hx
  have hf : (es.take (j + 1)).filter (fun x => !p x) = (es.take j).filter (fun x => !p x) := by
    rw [List.take_succ_eq_append_getElem hj, List.filter_append]; simp [e, hp]
  refine ⟨J ++ [x], ?_, by rw [hf]; exact h1, by simp; omega, by omega, hj⟩
  rw [hf, List.drop_eq_getElem_cons hj, e]; simp
theorem DInv.keep {α : Type} {p : α → Bool} {es R : List α} {i j : Nat} {x : α} (h : DInv p es j i R) (hx : es[j]? = some x) (hp : p x = false) : DInv p es (j + 1) (i + 1) (R.set i x) := by
  obtain ⟨J, rfl, h1, h2, h3, h4⟩ := h
  have hj : j < es.length := (List.getElem?_eq_some_iff.1 hx).1
  have e : es[j] = x := by rw [List.getElem?_eq_getElem hj] at hx; exact Option.some.inj hx
  have hf : (es.take (j + 1)).filter (fun x => !p x) = (es.take j).filter (fun x => !p x) ++ [x] := by
    rw [List.take_succ_eq_append_getElem hj, List.filter_append]; simp [e, hp]
  cases J with
  | nil => simp at h2; omega
  | cons y J' =>
    refine ⟨J' ++ [x], ?_, by rw [hf, List.length_append, h1]; rfl, by simp at h2 ⊢; omega, by omega, hj⟩
    rw [hf, List.drop_eq_getElem_cons hj, e, List.cons_append, set_mid _ _ _ _ h1.symm]
    simp
theorem DInv.done {α : Type} {p : α → Bool} {es R : List α} {i : Nat} (h : DInv p es es.length i R) : R.take i = es.filter (fun x => !p x) ∧ i = (es.filter fun x => !p x).length := by
  obtain ⟨J, rfl, h1, h2, h3, h4⟩ := h
  rw [List.take_length] at h1 ⊢
  exact ⟨by rw [List.take_left' h1], h1.symm⟩
/-- cells stored one after the other into a row -/
theorem own_cells {lo size n cap g : Nat} {e : TypeId} : ∀ (vs : List Value) (o : Nat) (w : World) (xs : List Value), w.ownsRow lo e size (.slice (some ⟨g, 0, none⟩) n cap) n xs →
    ∃ ys, (w.setCells g o vs).ownsRow lo e size (.slice (some ⟨g, 0, none⟩) n cap) n ys ∧ ys.take o = xs.take o ∧ w.grownBy (w.setCells g o vs) (some g)
  | [], o, w, xs, h => ⟨xs, h, rfl, World.grownBy.refl _ _⟩
  | v :: r, o, w, xs, h => by
    have h1 := h.stored o v
    obtain ⟨ys, h2, h3, h4⟩ := own_cells r (o + 1) (w.setCell ⟨g, o, none⟩ v) _ h1.1
    refine ⟨ys, h2, ?_, ?_⟩
    · have : (ys.take (o + 1)).take o = ((xs.set o v).take (o + 1)).take o := by rw [h3]
      rw [List.take_take, List.take_take, Nat.min_eq_left (by omega)] at this
      rw [this, List.take_set_of_le (Nat.le_refl _)]
    · exact ⟨h4.os.trans h1.2.os, h4.tape.trans h1.2.tape, h4.output.trans h1.2.output, Nat.le_trans h1.2.size h4.size, fun k hk hne => (h4.block k (Nat.lt_of_lt_of_le hk h1.2.size) hne).trans (h1.2.block k hk hne)⟩
/-- the head of a row -/
theorem own_cut {w : World} {lo size n m cap g : Nat} {e : TypeId} {xs : List Value} (h : w.ownsRow lo e size (.slice (some ⟨g, 0, none⟩) n cap) n xs) (hm : m ≤ n) :
    w.ownsRow lo e size (.slice (some ⟨g, 0, none⟩) m cap) m (xs.take (m * size)) := by
  have hl := h.1
  refine ⟨?_, ?_⟩
  · rw [List.length_take, hl]; exact Nat.min_eq_left (Nat.mul_le_mul_right _ hm)
  · rcases h.2 with ⟨h', _⟩ | ⟨g', cap', cur, h', hb, hg, hnc, hcm, hcs, ht⟩
    · cases h'
    · injection h' with h1 _ h3
      injection h1 with h1; injection h1 with h1
      subst h1 h3
      exact .inr ⟨g, cap, cur, rfl, hb, hg, by omega, hcm, hcs, by rw [← ht, List.take_take, Nat.min_eq_left (Nat.mul_le_mul_right _ hm)]⟩
theorem run_clear_cells {P : Program} (w : World) (t e ty : TypeId) (z : Value) (ht : P.underlying t = some (.slice e)) (hv : ∀ w, (zeroValue e).run P w = .ok z w) (h1 : ∀ v ∈ z.cells.toList, v.oneCell' = true) (hpos : 0 < z.cells.size) (b o n c : Nat) (hn : 0 < n)
    (hth : w.there b o (n * z.cells.size)) :
    (Builtin.clear_ #[t] ty #[.slice (some ⟨b, o, none⟩) n c]).run P w = .ok (.tuple #[]) (w.setCells b o (Builtin.zeroCells z.cells n).toList) := by
  have hlen : (Builtin.zeroCells z.cells n).toList.length = n * z.cells.size := by simp [Builtin.zeroCells]
  have hst := run_storeCells_cells (P := P) b o (Builtin.zeroCells z.cells n).toList 0 w (by rw [hlen]; exact fun j hj => by simpa using (hth j hj).1) (by rw [hlen]; exact fun j hj => by simpa using (hth j hj).2)
    (by
      intro v hv'
      simp only [Builtin.zeroCells, Array.toList_map, List.mem_map, Array.toList_range, List.mem_range] at hv'
      obtain ⟨i, _, rfl⟩ := hv'
      have hlt := Nat.mod_lt i hpos
      have : z.cells[i % z.cells.size]! = z.cells[i % z.cells.size] := by simp [hlt]
      rw [this]
      exact h1 _ (by simp))
  simp only [Nat.add_zero] at hst
  obtain ⟨m, rfl⟩ : ∃ m, n = m + 1 := ⟨n - 1, by omega⟩
  simp [Builtin.clear_, run_underlying ht, hv, hst]
theorem own_there {w : World} {lo size n cap g : Nat} {e : TypeId} {xs : List Value} (h : w.ownsRow lo e size (.slice (some ⟨g, 0, none⟩) n cap) n xs) : w.there g 0 (n * size) := fun j hj => by
  rw [Nat.zero_add]
  refine ⟨?_, h.frozenAt j⟩
  rw [h.cellAt j hj, List.getElem?_eq_getElem (by rw [h.1]; exact hj)]; rfl
end Go.Proofs.Ytlipkplomndjcaa
