/- Walks of the fractions without a common divisor. -/
import Derived.Test.YtahpknjligaliaaState
namespace Go.Proofs.Ytahpknjligaliaa
open Go.RowKit
set_option linter.unusedVariables false
set_option maxRecDepth 100000
def fracN (a b : Nat) : Int := ((a / Nat.gcd a b : Nat) : Int)
def fracD (a b : Nat) : Int := ((b / Nat.gcd a b : Nat) : Int)
def fracV (a b : Nat) : Value := .agg #[.int .i64 (fracN a b), .int .i64 (fracD a b)]
theorem wrapK (n : Int) : IntKind.i64.wrap n = wrap64 n := by
  simp only [IntKind.wrap, IntKind.bits, IntKind.signed, wrap64]; simp; split <;> omega
theorem fraction_c (a b : Nat) (ha : a ≤ 1000000000) (hb : b ≤ 1000000000) (hb0 : 0 < b) (w : World) : Calls Try.prog 146 #[.int .i64 a, .int .i64 b] w fun e w' => e = .returned (fracV a b) ∧ Below w.heap.size w w' := by
  have hg0 : 0 < Nat.gcd a b := Nat.gcd_pos_of_pos_right _ hb0
  have hgl : Nat.gcd a b ≤ b := Nat.gcd_le_right _ hb0
  have hb0' := below_one (w := w) (.cells #[.int .i64 0, .int .i64 0] 79)
  have c0 : (w.alloc (.cells #[.int .i64 0, .int .i64 0] 79)).cell? ⟨w.heap.size, 0, none⟩ = some (.int .i64 0) := by rw [World.cell?_alloc_at _ _ _ _ rfl]; rfl
  go_enter Try.func146, Try.ntmps146
  go_wp2
  go_loopw [5, 6] (fun x y wr => ∃ p q : Nat, x = .int .i64 (p : Int) ∧ y = .int .i64 (q : Int) ∧ p ≤ 1000000000 ∧ q ≤ 1000000000 ∧ Hid (Nat.gcd p q = Nat.gcd a b) ∧ Hid (∃ n, wr = (w.alloc (.cells #[.int .i64 0, .int .i64 0] 79)).drewN n)) (fun _ y _ => (intOf y).toNat)
  case atStart => exact ⟨a, b, rfl, rfl, ha, hb, rfl, ⟨0, rfl⟩⟩
  case round =>
    obtain ⟨p, q, rfl, rfl, hp, hq, hgc, hw⟩ := hrel
    obtain ⟨n, rfl⟩ := hw.out
    by_cases hz : q = 0
    · have hzb : ((q : Int) != 0) = false := by simp [hz]
      have hpg : p = Nat.gcd a b := by rw [← hgc.out, hz]; simp
      have HZ := Lib.hid hz; have HP := Lib.hid hpg; clear hz hpg
      have hp0 : (0 : Int) < (p : Int) := by have := HP.out; omega
      have e1 : wrap64 ((a : Int) / (p : Int)) = fracN a b := by
        unfold fracN; rw [← HP.out]
        have : a / p ≤ a := Nat.div_le_self _ _
        rw [show ((a : Int) / (p : Int)) = ((a / p : Nat) : Int) by simp]
        generalize a / p = t at *
        simp only [wrap64]; omega
      have e2 : wrap64 ((b : Int) / (p : Int)) = fracD a b := by
        unfold fracD; rw [← HP.out]
        have : b / p ≤ b := Nat.div_le_self _ _
        rw [show ((b : Int) / (p : Int)) = ((b / p : Nat) : Int) by simp]
        generalize b / p = t at *
        simp only [wrap64]; omega
      go_wp2
      go_region
      go_wp2
      refine bodyPost_ret (v := fracV a b) (by simp [results, Try.results146, go_sem, fracV, e1, e2]) rfl ⟨rfl, by (repeat (first | exact Below.refl _ _ | exact (Below.refl _ _).drew | assumption | exact below_one _ | refine Below.chain ?_ (by assumption) | refine Below.drew ?_ | refine Below.alc ?_ _ | refine below_drewN ?_ | (refine Below.setCell ?_ ?_ _) | exact Nat.le_refl _ | (simp; done) | (simp; omega)))⟩
    · have hzb : ((q : Int) != 0) = true := by simp [hz]
      have hq0 : (0 : Int) < (q : Int) := by omega
      go_wp2
      go_quiet (fail)
      go_wp2
      go_roundw
      case rel => exact ⟨q, p % q, rfl, int_val (by simp), hq, by have := Nat.mod_lt p (show 0 < q by omega); omega, by rw [Hid, ← hgc.out, Nat.gcd_comm p q, Nat.gcd_rec q p, Nat.gcd_comm], ⟨_, World.drewN_drewN _ _ _⟩⟩
      case measure =>
        have := Nat.mod_lt p (show 0 < q by omega)
        simp only [intOf]; omega
theorem l9Cut_c (a b : Nat) (ha : a ≤ 1000000000) (hb : b ≤ 1000000000) (hb0 : 0 < b) (w : World) : Calls Try.prog 143 #[.int .i64 a, .int .i64 b] w fun e w' => e = .returned (fracV a b) ∧ Below w.heap.size w w' := by
  have hg0 : 0 < Nat.gcd a b := Nat.gcd_pos_of_pos_right _ hb0
  have hgl : Nat.gcd a b ≤ b := Nat.gcd_le_right _ hb0
  have hb0' := below_one (w := w) (.cells #[.int .i64 0, .int .i64 0] 79)
  have c0 : (w.alloc (.cells #[.int .i64 0, .int .i64 0] 79)).cell? ⟨w.heap.size, 0, none⟩ = some (.int .i64 0) := by rw [World.cell?_alloc_at _ _ _ _ rfl]; rfl
  have c1 : (w.alloc (.cells #[.int .i64 0, .int .i64 0] 79)).cell? ⟨w.heap.size, 1, none⟩ = some (.int .i64 0) := by rw [World.cell?_alloc_at _ _ _ _ rfl]; rfl
  go_enter Try.func143, Try.ntmps143
  go_wp2
  go_loopw [5, 6] (fun x y wr => ∃ p q : Nat, x = .int .i64 (p : Int) ∧ y = .int .i64 (q : Int) ∧ p ≤ 1000000000 ∧ q ≤ 1000000000 ∧ Hid (Nat.gcd p q = Nat.gcd a b) ∧ Hid (∃ n, wr = (w.alloc (.cells #[.int .i64 0, .int .i64 0] 79)).drewN n)) (fun _ y _ => (intOf y).toNat)
  case atStart => exact ⟨a, b, rfl, rfl, ha, hb, rfl, ⟨0, rfl⟩⟩
  case round =>
    obtain ⟨p, q, rfl, rfl, hp, hq, hgc, hw⟩ := hrel
    obtain ⟨n, rfl⟩ := hw.out
    by_cases hz : q = 0
    · have hzb : decide ((0 : Int) < (q : Int)) = false := by simp; omega
      have hzb2 : decide (0 < q) = false := by simp; omega
      have hpg : p = Nat.gcd a b := by rw [← hgc.out, hz]; simp
      have HZ := Lib.hid hz; have HP := Lib.hid hpg; clear hz hpg
      have hp0 : (0 : Int) < (p : Int) := by have := HP.out; omega
      have e1 : wrap64 ((a : Int) / (p : Int)) = fracN a b := by
        unfold fracN; rw [← HP.out]
        have : a / p ≤ a := Nat.div_le_self _ _
        rw [show ((a : Int) / (p : Int)) = ((a / p : Nat) : Int) by simp]
        generalize a / p = t at *
        simp only [wrap64]; omega
      have e2 : wrap64 ((b : Int) / (p : Int)) = fracD a b := by
        unfold fracD; rw [← HP.out]
        have : b / p ≤ b := Nat.div_le_self _ _
        rw [show ((b : Int) / (p : Int)) = ((b / p : Nat) : Int) by simp]
        generalize b / p = t at *
        simp only [wrap64]; omega
      have hpn : (p : Int) ≠ 0 := by omega
      have hpn2 : ¬ p = 0 := by omega
      have hpd : decide (p = 0) = false := by simp; omega
      have e3 : max (p : Int) 1 = (p : Int) := by omega
      have g0 : ((w.alloc (.cells #[.int .i64 0, .int .i64 0] 79)).drewN n).cell? ⟨w.heap.size, 0, none⟩ = some (.int .i64 0) := c0
      go_wp2
      go_region_held3 (fun w' => ∃ x, w'.cell? ⟨w.heap.size, 0, none⟩ = some x) (first | exact ⟨_, g0⟩ | exact (fun ⟨v, h⟩ => cell?_setCell_some h) (cell?_setCell_some c0) | exact (fun ⟨v, h⟩ => RowKit.cell?_setCell_some h) (RowKit.cell?_setCell_some c0) | go_keep) (first | (go_at_call_of 106 (Value.int .i64 p); refine (l1Most_c (p : Int) 1 _).mono ?_; rintro e w' ⟨rfl, rfl⟩; rw [e3]))
      go_wp2
      have d0 : ((w.alloc (.cells #[.int .i64 0, .int .i64 0] 79)).drewN (n + 1)).cell? ⟨w.heap.size, 0, none⟩ = some (.int .i64 0) := c0
      have d1 : ((w.alloc (.cells #[.int .i64 0, .int .i64 0] 79)).drewN (n + 1)).cell? ⟨w.heap.size, 1, none⟩ = some (.int .i64 0) := c1
      have bl : Below w.heap.size w ((w.alloc (.cells #[.int .i64 0, .int .i64 0] 79)).drewN (n + 1)) := by (repeat (first | exact Below.refl _ _ | exact (Below.refl _ _).drew | assumption | exact below_one _ | refine Below.chain ?_ (by assumption) | refine Below.drew ?_ | refine Below.alc ?_ _ | refine below_drewN ?_ | (refine Below.setCell ?_ ?_ _) | exact Nat.le_refl _ | (simp; done) | (simp; omega)))
      generalize (w.alloc (.cells #[.int .i64 0, .int .i64 0] 79)).drewN (n + 1) = w1 at *
      refine bodyPost_ret (v := fracV a b) (by simp [results, Try.results143, go_sem, fracV, d0, d1]; exact ⟨wrapK _ |>.trans e1, wrapK _ |>.trans e2⟩) rfl ⟨rfl, by (repeat (first | exact Below.refl _ _ | exact (Below.refl _ _).drew | assumption | exact below_one _ | refine Below.chain ?_ (by assumption) | refine Below.drew ?_ | refine Below.alc ?_ _ | refine below_drewN ?_ | (refine Below.setCell ?_ ?_ _) | exact Nat.le_refl _ | (simp; done) | (simp; omega)))⟩
    · have hzb : decide ((0 : Int) < (q : Int)) = true := by simp; omega
      have hzb2 : decide (0 < q) = true := by simp; omega
      have hq0 : (0 : Int) < (q : Int) := by omega
      go_wp2
      go_quiet (fail)
      go_wp2
      go_roundw
      case rel => exact ⟨q, p % q, rfl, int_val (by simp), hq, by have := Nat.mod_lt p (show 0 < q by omega); omega, by rw [Hid, ← hgc.out, Nat.gcd_comm p q, Nat.gcd_rec q p, Nat.gcd_comm], ⟨_, World.drewN_drewN _ _ _⟩⟩
      case measure =>
        have := Nat.mod_lt p (show 0 < q by omega)
        simp only [intOf]; omega
end Go.Proofs.Ytahpknjligaliaa
