/- Texts of this claim, gathered: Vless, Dnp, Draw, App, DrawL, DrawT, DrawF, DrawD, DrawU2, Dnq. -/
import Derived.Test.YtbobiiodbbcodaaGreatDoorK8
import Derived.Maps.AppendAt
import Derived.OrdersHeld
import Derived.DeepKeys
import Derived.ChangeKeysEq
import Derived.Laws.StructEq
namespace Go.Proofs.YtbobiiodbbcodaaGreatDoor
open Go.RowKit
set_option linter.unusedVariables false
set_option linter.unusedSimpArgs false
set_option maxRecDepth 100000
theorem less_gcd {a b c d : Nat} (hb : 0 < b) (hd : 0 < d) : (a * (d / Nat.gcd b d) < c * (b / Nat.gcd b d)) ↔ a * d < c * b := by
  have hg : 0 < Nat.gcd b d := Nat.gcd_pos_of_pos_left _ hb
  obtain ⟨x, hx⟩ := Nat.gcd_dvd_left b d
  obtain ⟨y, hy⟩ := Nat.gcd_dvd_right b d
  generalize hgg : Nat.gcd b d = g at *
  have e1 : b / g = x := by rw [hx]; exact Nat.mul_div_cancel_left _ hg
  have e2 : d / g = y := by rw [hy]; exact Nat.mul_div_cancel_left _ hg
  rw [e1, e2, hx, hy]
  constructor
  · intro h
    have := Nat.mul_lt_mul_of_pos_left h hg
    calc a * (g * y) = g * (a * y) := by rw [Nat.mul_left_comm]
      _ < g * (c * x) := this
      _ = c * (g * x) := by rw [Nat.mul_left_comm]
  · intro h
    have h2 : g * (a * y) < g * (c * x) := by
      calc g * (a * y) = a * (g * y) := by rw [Nat.mul_left_comm]
        _ < c * (g * x) := h
        _ = g * (c * x) := by rw [Nat.mul_left_comm]
    exact Nat.lt_of_mul_lt_mul_left h2
theorem wrapN (n : Nat) (h : n ≤ 1000000000000) : IntKind.i64.wrap (n : Int) = (n : Int) := IntWalk.i64_in _ (by omega)
set_option maxHeartbeats 2000000 in
theorem vLess_c (a b c d : Nat) (ha : a ≤ 1000000) (hb : b ≤ 1000000) (hc : c ≤ 1000000) (hd : d ≤ 1000000) (hb0 : 0 < b) (hd0 : 0 < d) (w : World) :
    Calls Tryz.prog 26 #[.agg #[.int .i64 (a : Int), .int .i64 (b : Int)], .agg #[.int .i64 (c : Int), .int .i64 (d : Int)]] w fun e w' => e = .returned (.bool (decide (a * d < c * b))) ∧ Below w.heap.size w w' := by
  have X0 := (Bk.new w 25 #[.int .i64 (a : Int), .int .i64 (b : Int)]).alloc (.cells #[.int .i64 (c : Int), .int .i64 (d : Int)] 25)
  have Y0 := Bk.new (w.alloc (.cells #[.int .i64 (a : Int), .int .i64 (b : Int)] 25)) 25 #[.int .i64 (c : Int), .int .i64 (d : Int)]
  rw [World.size_alloc] at Y0
  obtain ⟨a0, a1, c0, c1⟩ : ((w.alloc (.cells #[.int .i64 (a : Int), .int .i64 (b : Int)] 25)).alloc (.cells #[.int .i64 (c : Int), .int .i64 (d : Int)] 25)).cell? ⟨w.heap.size, 0, none⟩ = some (.int .i64 (a : Int)) ∧ ((w.alloc (.cells #[.int .i64 (a : Int), .int .i64 (b : Int)] 25)).alloc (.cells #[.int .i64 (c : Int), .int .i64 (d : Int)] 25)).cell? ⟨w.heap.size, 1, none⟩ = some (.int .i64 (b : Int)) ∧ ((w.alloc (.cells #[.int .i64 (a : Int), .int .i64 (b : Int)] 25)).alloc (.cells #[.int .i64 (c : Int), .int .i64 (d : Int)] 25)).cell? ⟨w.heap.size + 1, 0, none⟩ = some (.int .i64 (c : Int)) ∧ ((w.alloc (.cells #[.int .i64 (a : Int), .int .i64 (b : Int)] 25)).alloc (.cells #[.int .i64 (c : Int), .int .i64 (d : Int)] 25)).cell? ⟨w.heap.size + 1, 1, none⟩ = some (.int .i64 (d : Int)) := ⟨X0.cell 0, X0.cell 1, Y0.cell 0, Y0.cell 1⟩
  have HB : Hid (Below w.heap.size w ((w.alloc (.cells #[.int .i64 (a : Int), .int .i64 (b : Int)] 25)).alloc (.cells #[.int .i64 (c : Int), .int .i64 (d : Int)] 25))) := Below.alc (below_one _) _
  have HE := Lib.hid (less_gcd (a := a) (c := c) hb0 hd0)
  have hg0 : 0 < Nat.gcd b d := Nat.gcd_pos_of_pos_left _ hb0
  clear X0 Y0
  go_enter Tryz.func26, Tryz.ntmps26
  go_wp2
  go_region
  go_wp2
  generalize hww : ((w.alloc (.cells #[.int .i64 (a : Int), .int .i64 (b : Int)] 25)).alloc (.cells #[.int .i64 (c : Int), .int .i64 (d : Int)] 25)) = wb at *
  go_loopw [5, 6] (fun x y wr => ∃ p q : Nat, x = .int .i64 (p : Int) ∧ y = .int .i64 (q : Int) ∧ p ≤ 1000000 ∧ q ≤ 1000000 ∧ Hid (Nat.gcd p q = Nat.gcd b d) ∧ Hid (∃ n, wr = wb.drewN n)) (fun _ y _ => (intOf y).toNat)
  case atStart => exact ⟨b, d, rfl, rfl, hb, hd, rfl, ⟨1, rfl⟩⟩
  case round =>
    obtain ⟨p, q, rfl, rfl, hp, hq, hgc, hw⟩ := hrel
    obtain ⟨n, rfl⟩ := hw.out
    by_cases hz : q = 0
    · have hzb : decide (0 < (q : Int)) = false := by simp [hz]
      have hzn : decide (0 < q) = false := by simp [hz]
      have hpg : p = Nat.gcd b d := by rw [← hgc.out, hz]; simp
      have hp0 : (0 : Int) < (p : Int) := by omega
      have hdl : d / p ≤ d := Nat.div_le_self _ _
      have hbl : b / p ≤ b := Nat.div_le_self _ _
      have hm1 : a * (d / p) ≤ 1000000 * 1000000 := Nat.mul_le_mul ha (by omega)
      have hm2 : c * (b / p) ≤ 1000000 * 1000000 := Nat.mul_le_mul hc (by omega)
      rw [← hpg] at HE
      have HP := Lib.hid hpg
      have HZ := Lib.hid hz
      clear hz hpg hg0
      have q1 : ((d : Int) / (p : Int)) = ((d / p : Nat) : Int) := by simp
      have q2 : ((b : Int) / (p : Int)) = ((b / p : Nat) : Int) := by simp
      have m1 : (a : Int) * ((d / p : Nat) : Int) = ((a * (d / p) : Nat) : Int) := by simp
      have m2 : (c : Int) * ((b / p : Nat) : Int) = ((c * (b / p) : Nat) : Int) := by simp
      have m12 : (1000000 : Nat) * 1000000 = 1000000000000 := rfl
      have e1 : IntKind.i64.wrap ((a : Int) * ((d : Int) / (p : Int))) = ((a * (d / p) : Nat) : Int) := by rw [q1, m1]; exact wrapN _ (by omega)
      have e2 : IntKind.i64.wrap ((c : Int) * ((b : Int) / (p : Int))) = ((c * (b / p) : Nat) : Int) := by rw [q2, m2]; exact wrapN _ (by omega)
      have e3 : IntKind.i64.wrap ((d : Int) / (p : Int)) = (d : Int) / (p : Int) := by rw [q1]; exact wrapN _ (by omega)
      have e4 : IntKind.i64.wrap ((b : Int) / (p : Int)) = (b : Int) / (p : Int) := by rw [q2]; exact wrapN _ (by omega)
      clear q1 q2 m1 m2
      go_wp2
      go_region
      go_wp2
      go_ret
      refine ⟨?_, by first | exact below_drewN (below_drewN HB.out) | exact below_drewN HB.out⟩
      have hfin : decide ((a : Int) * ((d : Int) / (p : Int)) < (c : Int) * ((b : Int) / (p : Int))) = decide (a * d < c * b) := by
        rw [decide_eq_decide, ← HE.out]
        have q1 : ((d : Int) / (p : Int)) = ((d / p : Nat) : Int) := by simp
        have q2 : ((b : Int) / (p : Int)) = ((b / p : Nat) : Int) := by simp
        have m1 : (a : Int) * ((d / p : Nat) : Int) = ((a * (d / p) : Nat) : Int) := by simp
        have m2 : (c : Int) * ((b / p : Nat) : Int) = ((c * (b / p) : Nat) : Int) := by simp
        rw [q1, q2, m1, m2]
        exact Int.ofNat_lt
      rw [← hfin]
      rfl
    · have hq0 : (0 : Int) < (q : Int) := by omega
      have hzb : decide (0 < (q : Int)) = true := by simp; omega
      have hzn : decide (0 < q) = true := by simp; omega
      go_wp2
      go_quiet (fail)
      go_wp2
      go_roundw
      case rel => exact ⟨q, p % q, rfl, int_val (by simp), hq, by have := Nat.mod_lt p (show 0 < q by omega); omega, by rw [Hid, ← hgc.out, Nat.gcd_comm p q, Nat.gcd_rec q p, Nat.gcd_comm], ⟨_, World.drewN_drewN _ _ _⟩⟩
      case measure =>
        have := Nat.mod_lt p (show 0 < q by omega)
        simp only [intOf]; omega
end Go.Proofs.YtbobiiodbbcodaaGreatDoor
namespace Go.Proofs.YtbobiiodbbcodaaGreatDoor
open Go.RowKit
set_option linter.unusedVariables false
set_option linter.unusedSimpArgs false
set_option maxRecDepth 100000
theorem TabM.below {w w' : World} (h : TabM w) (hb : Below w.heap.size w w') : TabM w' := h.on hb
/-- a fraction where there is one, else noughts -/
def frA (ok : Bool) (a b : Nat) : Nat := if ok then a / Nat.gcd a b else 0
def frB (ok : Bool) (a b : Nat) : Nat := if ok then b / Nat.gcd a b else 0
theorem frV_eq (ok : Bool) (a b : Nat) : (if ok then fracV a b else .agg #[.int .i64 0, .int .i64 0]) = .agg #[.int .i64 ((frA ok a b : Nat) : Int), .int .i64 ((frB ok a b : Nat) : Int)] := by
  cases ok <;> rfl
/-- the first fraction is not below the second -/
def GeQ (a b c d : Nat) : Prop := (a ≤ 1000000 ∧ b ≤ 1000000 ∧ 0 < b) ∧ (c ≤ 1000000 ∧ d ≤ 1000000 ∧ 0 < d) ∧ c * b ≤ a * d
theorem vless_no {a b c d : Nat} (h : GeQ a b c d) (w : World) :
    Calls Tryz.prog 26 #[.agg #[.int .i64 (a : Int), .int .i64 (b : Int)], .agg #[.int .i64 (c : Int), .int .i64 (d : Int)]] w fun e w' => e = .returned (.bool false) ∧ Below w.heap.size w w' := by
  obtain ⟨⟨h1, h2, h3⟩, ⟨h4, h5, h6⟩, h7⟩ := h
  have hd : decide (a * d < c * b) = false := decide_eq_false (by omega)
  have := vLess_c a b c d h1 h2 h4 h5 h3 h6 w
  rw [hd] at this
  exact this
theorem red_le {a b c d : Nat} (hb : 0 < b) (hd : 0 < d) (h : c * b ≤ a * d) : (c / Nat.gcd c d) * (b / Nat.gcd a b) ≤ (a / Nat.gcd a b) * (d / Nat.gcd c d) := by
  have hg : 0 < Nat.gcd a b := Nat.gcd_pos_of_pos_right _ hb
  have hk : 0 < Nat.gcd c d := Nat.gcd_pos_of_pos_right _ hd
  obtain ⟨x, hx⟩ := Nat.gcd_dvd_left a b
  obtain ⟨y, hy⟩ := Nat.gcd_dvd_right a b
  obtain ⟨z, hz⟩ := Nat.gcd_dvd_left c d
  obtain ⟨t, ht⟩ := Nat.gcd_dvd_right c d
  generalize hgg : Nat.gcd a b = g at *
  generalize hkk : Nat.gcd c d = k at *
  have e1 : a / g = x := by rw [hx]; exact Nat.mul_div_cancel_left _ hg
  have e2 : b / g = y := by rw [hy]; exact Nat.mul_div_cancel_left _ hg
  have e3 : c / k = z := by rw [hz]; exact Nat.mul_div_cancel_left _ hk
  have e4 : d / k = t := by rw [ht]; exact Nat.mul_div_cancel_left _ hk
  rw [e1, e2, e3, e4]
  rw [hx, hy, hz, ht] at h
  have h2 : (g * k) * (z * y) ≤ (g * k) * (x * t) := by
    calc (g * k) * (z * y) = k * z * (g * y) := by simp only [Nat.mul_assoc, Nat.mul_left_comm]
      _ ≤ g * x * (k * t) := h
      _ = (g * k) * (x * t) := by simp only [Nat.mul_assoc, Nat.mul_left_comm]
  exact Nat.le_of_mul_le_mul_left h2 (Nat.mul_pos hg hk)
theorem geQ_red {a b c d : Nat} (ha : a ≤ 1000000) (hb1 : b ≤ 1000000) (hb : 0 < b) (hc : c ≤ 1000000) (hd1 : d ≤ 1000000) (hd : 0 < d) (h : c * b ≤ a * d) :
    GeQ (frA true a b) (frB true a b) (frA true c d) (frB true c d) := by
  have p1 : 0 < b / Nat.gcd a b := Nat.div_pos (Nat.gcd_le_right _ hb) (Nat.gcd_pos_of_pos_right _ hb)
  have p2 : 0 < d / Nat.gcd c d := Nat.div_pos (Nat.gcd_le_right _ hd) (Nat.gcd_pos_of_pos_right _ hd)
  refine ⟨⟨Nat.le_trans (Nat.div_le_self _ _) ha, Nat.le_trans (Nat.div_le_self _ _) hb1, p1⟩, ⟨Nat.le_trans (Nat.div_le_self _ _) hc, Nat.le_trans (Nat.div_le_self _ _) hd1, p2⟩, ?_⟩
  exact red_le hb hd h
theorem fr_one {n : Nat} : frA true n 1 = n ∧ frB true n 1 = 1 := by simp [frA, frB]
theorem fr_one' {n : Nat} : frA true 1 n = 1 ∧ frB true 1 n = n := by simp [frA, frB]
def dkA (kind ten : Nat) (k : Int) : Nat := frA (dkOk k) (dkS (dkG kind) k 128) (ten * dkM k 128)
def dkB (kind ten : Nat) (k : Int) : Nat := frB (dkOk k) (dkS (dkG kind) k 128) (ten * dkM k 128)
theorem dkV_fr (kind ten : Nat) (k : Int) : dkV kind ten k = .tuple #[.agg #[.int .i64 ((dkA kind ten k : Nat) : Int), .int .i64 ((dkB kind ten k : Nat) : Int)], .bool (dkOk k)] := by
  unfold dkV dkA dkB; rw [frV_eq]
theorem dk_tab : ∀ k : Fin 8, (dkS (dkG 1) (k.1 : Int) 128, dkS (dkG 2) (k.1 : Int) 128, dkS (dkG 3) (k.1 : Int) 128, dkM (k.1 : Int) 128) =
    [(10, 10, 1, 1), (63, 56, 2, 7), (164, 124, 1, 21), (225, 137, 0, 35), (172, 77, 0, 35), (71, 19, 0, 21), (14, 1, 0, 7), (1, 0, 0, 1)].getD k.1 (0, 0, 0, 0) := by decide +kernel
/-- what the law asks of the numbers of dark bars -/
theorem dk_more {k : Int} (h : dkOk k = true) (h0 : 0 < k) : dkOk (k - 1) = true ∧ k ≤ 7 ∧
    GeQ (dkA 2 10 (k - 1)) (dkB 2 10 (k - 1)) (dkA 2 10 k) (dkB 2 10 k) ∧ GeQ (dkA 1 1 (k - 1)) (dkB 1 1 (k - 1)) (dkA 1 1 k) (dkB 1 1 k) ∧ GeQ (dkA 3 1 (k - 1)) (dkB 3 1 (k - 1)) (dkA 3 1 k) (dkB 3 1 k) := by
  have h2 : 0 ≤ k ∧ k ≤ 7 := inB_true h
  have h3 : dkOk (k - 1) = true := inB_mk (by omega) (by omega)
  refine ⟨h3, h2.2, ?_⟩
  unfold dkA dkB
  rw [h, h3]
  obtain ⟨n, rfl⟩ := Int.eq_ofNat_of_zero_le h2.1
  obtain ⟨m, rfl⟩ : ∃ m, n = m + 1 := ⟨n - 1, by omega⟩
  have e : (((m + 1 : Nat) : Int) - 1) = (m : Int) := by omega
  rw [e]
  have t1 := dk_tab ⟨m, by omega⟩
  have t2 := dk_tab ⟨m + 1, by omega⟩
  simp only [Prod.mk.injEq] at t1 t2
  have hm : m = 0 ∨ m = 1 ∨ m = 2 ∨ m = 3 ∨ m = 4 ∨ m = 5 ∨ m = 6 := by omega
  rcases hm with rfl | rfl | rfl | rfl | rfl | rfl | rfl <;>
  · obtain ⟨a1, a2, a3, a4⟩ := t1
    obtain ⟨b1, b2, b3, b4⟩ := t2
    refine ⟨geQ_red ?_ ?_ ?_ ?_ ?_ ?_ ?_, geQ_red ?_ ?_ ?_ ?_ ?_ ?_ ?_, geQ_red ?_ ?_ ?_ ?_ ?_ ?_ ?_⟩ <;> (try rw [a1]) <;> (try rw [a2]) <;> (try rw [a3]) <;> (try rw [a4]) <;> (try rw [b1]) <;> (try rw [b2]) <;> (try rw [b3]) <;> (try rw [b4]) <;> decide
theorem dk_one {k : Int} (h : dkOk k = true) : GeQ 10 1 (dkA 1 1 k) (dkB 1 1 k) ∧ GeQ (dkA 2 10 k) (dkB 2 10 k) (dkA 3 1 k) (dkB 3 1 k) := by
  have h2 : 0 ≤ k ∧ k ≤ 7 := inB_true h
  unfold dkA dkB
  rw [h]
  obtain ⟨m, rfl⟩ := Int.eq_ofNat_of_zero_le h2.1
  have t1 := dk_tab ⟨m, by omega⟩
  simp only [Prod.mk.injEq] at t1
  have g10 : ∀ {c d : Nat}, c ≤ 1000000 → d ≤ 1000000 → 0 < d → c * 1 ≤ 10 * d → GeQ 10 1 (frA true c d) (frB true c d) := fun {c d} h1 h2 h3 h4 => by
    have := geQ_red (a := 10) (b := 1) (c := c) (d := d) (by decide) (by decide) (by decide) h1 h2 h3 h4
    rw [fr_one.1, fr_one.2] at this
    exact this
  have hm : m = 0 ∨ m = 1 ∨ m = 2 ∨ m = 3 ∨ m = 4 ∨ m = 5 ∨ m = 6 ∨ m = 7 := by omega
  rcases hm with rfl | rfl | rfl | rfl | rfl | rfl | rfl | rfl <;>
  · obtain ⟨a1, a2, a3, a4⟩ := t1
    refine ⟨g10 ?_ ?_ ?_ ?_, geQ_red ?_ ?_ ?_ ?_ ?_ ?_ ?_⟩ <;> (try rw [a1]) <;> (try rw [a2]) <;> (try rw [a3]) <;> (try rw [a4]) <;> decide
/-! tests -/
theorem dgs_low (n j m c : Nat) (hn : n = 10 ^ m) (i : Nat) (hi : i ≤ m) : dgs (c * n + j) i = dgs j i := by
  induction i with
  | zero => rfl
  | succ i ih =>
    rw [dgs_succ, dgs_succ, ih (by omega)]
    have e : (c * n + j) / 10 ^ i % 10 = j / 10 ^ i % 10 := by
      have h1 : n = 10 ^ i * (10 * 10 ^ (m - i - 1)) := by
        rw [hn, ← Nat.pow_succ', ← Nat.pow_add]; congr 1; omega
      rw [h1, show c * (10 ^ i * (10 * 10 ^ (m - i - 1))) + j = 10 ^ i * (10 * (c * 10 ^ (m - i - 1))) + j by
        rw [Nat.mul_left_comm, Nat.mul_left_comm c 10], Nat.mul_add_div (Nat.pow_pos (by omega)), Nat.mul_add_mod]
    rw [e]
theorem otS_part {g : List Int → Nat} (hg : ∀ xs c, g xs ≤ g (xs ++ [c])) (m c : Nat) : ∀ j, otS g (m + 1) (c * 10 ^ m + j) ≥ otS g (m + 1) (c * 10 ^ m) + otS g m j
  | 0 => by simp [otS]
  | j + 1 => by
    have ih := otS_part hg m c j
    rw [show c * 10 ^ m + (j + 1) = (c * 10 ^ m + j) + 1 by omega, otS_succ, otS_succ]
    have h1 := dgs_succ (c * 10 ^ m + j) m
    rw [dgs_low _ j m c rfl m (Nat.le_refl _)] at h1
    rw [h1]
    have := hg (dgs j m) (((c * 10 ^ m + j) / 10 ^ m % 10 : Nat) : Int)
    omega
theorem otS_many {g : List Int → Nat} (hg : ∀ xs c, g xs ≤ g (xs ++ [c])) (m : Nat) : ∀ c, otS g (m + 1) (c * 10 ^ m) ≥ c * otS g m (10 ^ m)
  | 0 => by simp
  | c + 1 => by
    have ih := otS_many hg m c
    have h1 := otS_part hg m c (10 ^ m)
    rw [Nat.add_mul, Nat.one_mul, Nat.add_mul, Nat.one_mul]
    omega
theorem otS_ten {g : List Int → Nat} (hg : ∀ xs c, g xs ≤ g (xs ++ [c])) (m : Nat) : otS g (m + 1) (10 ^ (m + 1)) ≥ 10 * otS g m (10 ^ m) := by
  rw [Nat.pow_succ, Nat.mul_comm (10 ^ m) 10]
  exact otS_many hg m 10
theorem firstAt_anyD (p : Int → Bool) (xs : List Int) : 0 ≤ firstAt p xs ↔ ∃ x ∈ xs, p x = true := by
  constructor
  · intro h
    by_cases hx : ∃ x ∈ xs, p x = true
    · exact hx
    · have : firstAt p xs = -1 := firstAt_none (k := xs.length) (Nat.le_refl _) (fun j x _ hj => by
        cases hp : p x
        · rfl
        · exact absurd ⟨x, List.mem_of_getElem? hj, hp⟩ hx)
      omega
  · rintro ⟨x, hx, hp⟩
    unfold firstAt
    cases h : xs.findIdx? p with
    | none =>
      rw [List.findIdx?_eq_none_iff] at h
      have := h x hx
      rw [hp] at this; cases this
    | some i => simp
theorem firstAt_moreD (p : Int → Bool) (xs : List Int) (c : Int) (h : 0 ≤ firstAt p xs) : 0 ≤ firstAt p (xs ++ [c]) := by
  rw [firstAt_anyD] at h ⊢
  obtain ⟨x, hx, hp⟩ := h
  exact ⟨x, List.mem_append_left _ hx, hp⟩
theorem gFound_mono (xs : List Int) (c : Int) : gFound xs ≤ gFound (xs ++ [c]) := by
  unfold gFound foundSt
  rw [← List.countP_eq_length_filter, ← List.countP_eq_length_filter]
  refine List.countP_mono_left fun s _ h => ?_
  rw [decide_eq_true_eq] at h ⊢
  exact firstAt_moreD _ _ _ h
theorem gFound_14 (xs : List Int) : gFound xs ≤ 14 := by
  have := found_hidden xs
  unfold gFound; omega
theorem gFull_mono (xs : List Int) (c : Int) : gFull xs ≤ gFull (xs ++ [c]) := by
  have h1 := gFound_mono xs c
  have h2 := gFound_14 (xs ++ [c])
  unfold gFull fullB
  unfold gFound at h1 h2
  by_cases h : (foundSt xs).length = 14
  · rw [decide_eq_true h, decide_eq_true (show (foundSt (xs ++ [c])).length = 14 by omega)]
    exact Nat.le_refl _
  · rw [decide_eq_false h]; simp
theorem otS_14 (m : Nat) : ∀ n, otS gFound m n ≤ 14 * n
  | 0 => by simp [otS]
  | n + 1 => by
    rw [otS_succ]
    have := otS_14 m n
    have := gFound_14 (dgs n m)
    omega
def otA (g : List Int → Nat) (m : Int) : Nat := frA (inB m 0 4) (otS g m.toNat (10 ^ m.toNat)) (10 ^ m.toNat)
def otB (g : List Int → Nat) (m : Int) : Nat := frB (inB m 0 4) (otS g m.toNat (10 ^ m.toNat)) (10 ^ m.toNat)
theorem otV_fr (g : List Int → Nat) (m : Int) : otV g m = .tuple #[.agg #[.int .i64 ((otA g m : Nat) : Int), .int .i64 ((otB g m : Nat) : Int)], .bool (inB m 0 4)] := by
  unfold otV otA otB; rw [frV_eq]
theorem ot_geQ {g : List Int → Nat} (hg : ∀ xs c, g xs ≤ g (xs ++ [c])) (hb : ∀ xs, g xs ≤ 15) {m : Nat} (hm : m + 1 ≤ 4) :
    GeQ (frA true (otS g (m + 1) (10 ^ (m + 1))) (10 ^ (m + 1))) (frB true (otS g (m + 1) (10 ^ (m + 1))) (10 ^ (m + 1))) (frA true (otS g m (10 ^ m)) (10 ^ m)) (frB true (otS g m (10 ^ m)) (10 ^ m)) := by
  have h1 := otS_ten hg m
  have h2 := otS_le hb (m + 1) (10 ^ (m + 1))
  have h3 := otS_le hb m (10 ^ m)
  have h4 := pw_le hm
  have h5 := pw_le (show m ≤ 4 by omega)
  have h6 := pw_pos m
  have h7 := pw_pos (m + 1)
  refine geQ_red (by omega) (by omega) h7 (by omega) (by omega) h6 ?_
  rw [show 10 ^ (m + 1) = 10 * 10 ^ m by rw [Nat.pow_succ, Nat.mul_comm]] at h1 ⊢
  rw [← Nat.mul_assoc, Nat.mul_comm _ 10]
  exact Nat.mul_le_mul_right _ h1
theorem ot_more {m : Int} (h : inB m 0 4 = true) (h0 : 0 < m) : inB (m - 1) 0 4 = true ∧ m ≤ 4 ∧
    GeQ (otA gFull m) (otB gFull m) (otA gFull (m - 1)) (otB gFull (m - 1)) ∧ GeQ (otA gFound m) (otB gFound m) (otA gFound (m - 1)) (otB gFound (m - 1)) ∧ GeQ 14 1 (otA gFound m) (otB gFound m) := by
  have h2 : 0 ≤ m ∧ m ≤ 4 := inB_true h
  have h3 : inB (m - 1) 0 4 = true := inB_mk (by omega) (by omega)
  refine ⟨h3, h2.2, ?_⟩
  unfold otA otB
  rw [h, h3]
  obtain ⟨n, rfl⟩ := Int.eq_ofNat_of_zero_le h2.1
  obtain ⟨k, rfl⟩ : ∃ k, n = k + 1 := ⟨n - 1, by omega⟩
  have e : (((k + 1 : Nat) : Int) - 1) = (k : Int) := by omega
  rw [e]
  simp only [Int.toNat_natCast]
  refine ⟨ot_geQ gFull_mono gFull_le (by omega), ot_geQ gFound_mono gFound_le (by omega), ?_⟩
  have h4 := pw_le (show k + 1 ≤ 4 by omega)
  have h5 := otS_14 (k + 1) (10 ^ (k + 1))
  have := geQ_red (a := 14) (b := 1) (c := otS gFound (k + 1) (10 ^ (k + 1))) (d := 10 ^ (k + 1)) (by decide) (by decide) (by decide) (by omega) (by omega) (pw_pos _) (by omega)
  rw [fr_one.1, fr_one.2] at this
  exact this
/-! same digits -/
theorem two_mul_le (x y : Nat) : 2 * (x * y) ≤ x * x + y * y := by
  rcases Nat.le_total x y with h | h
  · obtain ⟨d, rfl⟩ := Nat.exists_eq_add_of_le h
    simp only [Nat.add_mul, Nat.mul_add]
    have := Nat.mul_comm x d
    omega
  · obtain ⟨d, rfl⟩ := Nat.exists_eq_add_of_le h
    simp only [Nat.add_mul, Nat.mul_add]
    have := Nat.mul_comm y d
    omega
theorem cross_le (x : Nat) : ∀ xs : List Nat, 2 * (x * xs.sum) ≤ xs.length * (x * x) + (xs.map fun y => y * y).sum
  | [] => by simp
  | y :: t => by
    have h1 := cross_le x t
    have h2 := two_mul_le x y
    simp only [List.sum_cons, List.map_cons, List.length_cons, Nat.add_mul, Nat.mul_add, Nat.one_mul]
    omega
theorem cauchy : ∀ xs : List Nat, xs.sum * xs.sum ≤ xs.length * (xs.map fun y => y * y).sum
  | [] => by simp
  | x :: t => by
    have h1 := cauchy t
    have h2 := cross_le x t
    have h3 := Nat.mul_comm x t.sum
    simp only [List.sum_cons, List.map_cons, List.length_cons, Nat.add_mul, Nat.mul_add, Nat.one_mul]
    omega
theorem cs_facts (d l : Int) : csS d l ≤ 100 ∧ 100 ≤ csS d l * (grpL d l).length ∧ 0 < (grpL d l).length ∧ (grpL d l).length ≤ 10 := by
  have h1 := sqTo_le d l (grpL d l).length
  have h2 := cauchy ((grpL d l).map List.length)
  rw [grp_sum, List.length_map, List.map_map] at h2
  have e : csS d l = ((grpL d l).map ((fun y => y * y) ∘ List.length)).sum := by
    unfold csS sqTo; rw [List.take_length]; rfl
  rw [← e, Nat.mul_comm (grpL d l).length] at h2
  refine ⟨h1, h2, ?_, grpTo_le _ _ _⟩
  rcases Nat.eq_zero_or_pos (grpL d l).length with h | h
  · rw [h] at h2; omega
  · exact h
def csA (d l : Int) : Nat := frA (faultB d l) (csS d l) 100
def csB (d l : Int) : Nat := frB (faultB d l) (csS d l) 100
theorem csV_fr (d l : Int) : csV d l = .tuple #[.agg #[.int .i64 ((csA d l : Nat) : Int), .int .i64 ((csB d l : Nat) : Int)], .bool (faultB d l)] := by
  unfold csV csA csB; rw [frV_eq]
theorem cs_law {d l : Int} (h : faultB d l = true) : GeQ (csA d l) (csB d l) 1 (grpL d l).length ∧ GeQ 1 1 (csA d l) (csB d l) := by
  obtain ⟨h1, h2, h3, h4⟩ := cs_facts d l
  unfold csA csB
  rw [h]
  have a := geQ_red (a := csS d l) (b := 100) (c := 1) (d := (grpL d l).length) (by omega) (by decide) (by decide) (by decide) (by omega) h3 (by omega)
  have b := geQ_red (a := 1) (b := 1) (c := csS d l) (d := 100) (by decide) (by decide) (by decide) (by omega) (by decide) (by decide) (by omega)
  rw [fr_one'.1, fr_one'.2] at a
  rw [fr_one.1, fr_one.2] at b
  exact ⟨a, b⟩
def mbA (n : Int) : Nat := frA (inB n 0 9999) (mbS (n.toNat + 1)) (n.toNat + 1)
def mbB (n : Int) : Nat := frB (inB n 0 9999) (mbS (n.toNat + 1)) (n.toNat + 1)
theorem mbV_fr (n : Int) : mbV n = .tuple #[.agg #[.int .i64 ((mbA n : Nat) : Int), .int .i64 ((mbB n : Nat) : Int)], .bool (inB n 0 9999)] := by
  unfold mbV mbA mbB; rw [frV_eq]
theorem mcV_fr : ∃ a b : Int, mcV = .agg #[.int .i64 a, .int .i64 b] := ⟨_, _, rfl⟩
end Go.Proofs.YtbobiiodbbcodaaGreatDoor
namespace Go.Proofs.YtbobiiodbbcodaaGreatDoor
open Go.RowKit
set_option linter.unusedVariables false
set_option linter.unusedSimpArgs false
set_option maxRecDepth 100000


/-- What a draw of a slice of ints gives. -/
def DrawS (w : World) (g m n : Nat) (e : Ending) (w' : World) : Prop :=
  ∃ (v : Value) (xs : List Int), e = .returned v ∧ xs.length ≤ n ∧ w'.ownsRow w.heap.size 3 1 v xs.length (xs.map (Value.int .i64)) ∧ CStep w w' g m
theorem DrawS.mono {w : World} {g m m' n n' : Nat} {e : Ending} {w' : World} (h : DrawS w g m n e w') (hm : m ≤ m') (hn : n ≤ n') : DrawS w g m' n' e w' := by
  obtain ⟨v, xs, h1, h2, h3, h4⟩ := h
  exact ⟨v, xs, h1, by omega, h3, h4.mono hm⟩
/-- behind an append to a row of the call's own -/
theorem CStep.grown {a b c : World} {g m : Nat} {r : Option Nat} (h : CStep a b g m) (hg : b.grownBy c r) (hga : g < a.heap.size) (hr : ∀ k, r = some k → a.heap.size ≤ k) : CStep a c g m :=
  ⟨⟨hg.os.trans h.gr.os, hg.tape.trans h.gr.tape, hg.output.trans h.gr.output, Nat.le_trans h.gr.size hg.size, fun i hi hne => (hg.block i (Nat.lt_of_lt_of_le hi h.gr.size) (fun e => by
    have := hr i e.symm; omega)).trans (h.gr.block i hi hne)⟩, h.cur.grown hg (fun k hk => by have := hr k hk; omega)⟩
theorem row_start (w : World) (lo : Nat) (h : lo ≤ w.heap.size) : (w.alloc (.cells #[] 3)).ownsRow lo 3 1 (.slice (some ⟨w.heap.size, 0, none⟩) 0 0) ([] : List Int).length (([] : List Int).map (Value.int .i64)) :=
  World.ownsRow_lit (e := 3) (size := 1) (base := lo) w #[] 0 h (by decide) rfl
/-- What a draw of a Fault gives. -/
def DrawF (w : World) (g m : Nat) (e : Ending) (w' : World) : Prop := ∃ d l : Int, e = .returned (.agg #[.int .i64 d, .int .i64 l]) ∧ CStep w w' g m
theorem CStep.store {a b : World} {g m : Nat} (h : CStep a b g m) (hga : g < a.heap.size) {p : Addr} (hp : a.heap.size ≤ p.block) (v : Value) : CStep a (b.setCell p v) g m :=
  ⟨⟨h.gr.os, h.gr.tape, h.gr.output, by have := h.gr.size; simp [World.setCell]; exact this, fun k hk hne => (Below.heap_setCell _ _ _ _ (by omega)).trans (h.gr.block k hk hne)⟩, h.cur.blocks fun k hk => Below.heap_setCell _ _ _ _ (by omega)⟩
theorem Bk.step {a b : World} {g m k t : Nat} {cs : Array Value} (h : Bk a k t cs) (hs : CStep a b g m) (hk : k ≠ g) : Bk b k t cs := h.keep (hs.gr.block k h.lt (fun e => hk (by cases e; rfl)))
theorem two_res {W : World} {b t : Nat} {a c : Value} (h : Bk W b t #[a, c]) (X Y : Value) :
    ((W.setCell ⟨b, 0, none⟩ X).setCell ⟨b, 1, none⟩ Y).cell? ⟨b, 0, none⟩ = some X ∧ ((W.setCell ⟨b, 0, none⟩ X).setCell ⟨b, 1, none⟩ Y).cell? ⟨b, 1, none⟩ = some Y := by
  have h2 := (h.set 0 X).set 1 Y
  exact ⟨h2.cell 0, h2.cell 1⟩
set_option maxHeartbeats 1000000 in
theorem fault3_c (g m : Nat) (w : World) (h : CurAt w g m) (hm : m + 30 < 4611686018427387904) :
    Calls Tryz.prog 76 #[.pointer (some ⟨g, 0, none⟩)] w (DrawF w g (m + 30)) := by
  have hga := h.lt
  have B0 := Lib.hid (Bk.new w 30 #[.int .i64 0, .int .i64 0])
  have B1 := Lib.hid (Bk.new (w.alloc (.cells #[.int .i64 0, .int .i64 0] 30)) 30 #[.int .i64 0, .int .i64 0])
  have HC := Lib.hid ((((CStep.refl h).alloc (.cells #[.int .i64 0, .int .i64 0] 30)).alloc (.cells #[.int .i64 0, .int .i64 0] 30)))
  clear h
  go_enter Tryz.func76, Tryz.ntmps76
  go_wp2_with fail
  refine (amongL_c [1, 2, 0, 3, 1, 5] g m _ _ (by simp) HC.out.cur (by omega) (by decide) (by decide)).mono ?_
  rintro e w1 ⟨x, rfl, hx, hs⟩
  have HS := Lib.hid (HC.out.trans hs)
  have b0 : Bk w1 w.heap.size 30 #[.int .i64 0, .int .i64 0] := (B0.out.alloc _).step hs (by omega)
  have b1 := B1.out.step hs (by simp; omega)
  rw [World.size_alloc] at b1
  obtain ⟨x0, x1⟩ : 0 ≤ x ∧ x ≤ 5 := by
    simp only [List.mem_cons, List.not_mem_nil, or_false] at hx; omega
  obtain ⟨k, rfl⟩ := Int.eq_ofNat_of_zero_le x0
  have hk : k ≤ 5 := by omega
  clear hs hx x0 x1 HC B0 B1
  go_wp2
  go_loopw [4] (fun j wr => ∃ (k : Nat) (d l : Int), k ≤ 5 ∧ j = .int .i64 (k : Int) ∧ Bk wr (w.heap.size + 1) 30 #[.int .i64 d, .int .i64 l] ∧ Bk wr w.heap.size 30 #[.int .i64 0, .int .i64 0] ∧ CStep w wr g (m + 2 + 4 * (5 - k))) (fun j _ => (intOf j).toNat)
  case atStart => exact ⟨k, 0, 0, hk, rfl, b1, b0, HS.out.mono (by omega)⟩
  case round =>
    obtain ⟨k, d, l, hk, rfl, b1, b0, hs⟩ := hrel
    have HS := Lib.hid hs
    have B0 := Lib.hid b0
    have B1 := Lib.hid b1
    clear hs b0 b1
    by_cases hk0 : 0 < k
    · have hd : decide (0 < (k : Int)) = true := by simp; omega
      go_wp2_with fail
      refine (pick_c 7 g _ _ HS.out.cur (by omega)).mono ?_
      rintro e w2 ⟨x, rfl, hx, hs⟩
      obtain ⟨b, rfl⟩ := Int.eq_ofNat_of_zero_le hx.1
      have z1 : b < 7 := by have := hx.2 (by omega); omega
      have HS2 := Lib.hid (HS.out.trans hs)
      have B02 := Lib.hid (B0.out.step hs (by omega))
      have B12 := Lib.hid (B1.out.step hs (by omega))
      have r0 : w2.cell? ⟨w.heap.size + 1, 0, none⟩ = some (.int .i64 d) := B12.out.cell 0
      have r1 : w2.cell? ⟨w.heap.size + 1, 1, none⟩ = some (.int .i64 l) := B12.out.cell 1
      clear hs hx B0 B1 HS
      rcases hq : (bits BinOp.and IntKind.i64 (bits BinOp.or IntKind.i64 d l) (wrap64 (2 ^ b)) != 0) with _ | _
      · go_wp2_with fail
        refine (one_c 3 g _ _ HS2.out.cur (by omega)).mono ?_
        rintro e w3 ⟨t, rfl, hs⟩
        have HS3 := Lib.hid (HS2.out.trans hs)
        have B03 := Lib.hid (B02.out.step hs (by omega))
        have B13 := Lib.hid (B12.out.step hs (by omega))
        have r0 : w3.cell? ⟨w.heap.size + 1, 0, none⟩ = some (.int .i64 d) := B13.out.cell 0
        have r1 : w3.cell? ⟨w.heap.size + 1, 1, none⟩ = some (.int .i64 l) := B13.out.cell 1
        have f0 : w3.frozen? ⟨w.heap.size + 1, 0, none⟩ = false := B13.out.frozen 0
        have f1 : w3.frozen? ⟨w.heap.size + 1, 1, none⟩ = false := B13.out.frozen 1
        clear hs B02 B12
        cases t with
        | true =>
          go_wp2
          go_roundw
          case rel => exact ⟨k - 1, _, _, by omega, by go_num, B13.out.set 1 _, B03.out.other (by simp) _, (HS3.out.store hga (by simp) _).mono (by omega)⟩
          case measure => simp [intOf]; omega
        | false =>
          go_wp2
          go_roundw
          case rel => exact ⟨k - 1, _, _, by omega, by go_num, B13.out.set 0 _, B03.out.other (by simp) _, (HS3.out.store hga (by simp) _).mono (by omega)⟩
          case measure => simp [intOf]; omega
      · go_wp2
        go_roundw
        case rel => exact ⟨k - 1, _, _, by omega, by go_num, B12.out, B02.out, HS2.out.mono (by omega)⟩
        case measure => simp [intOf]; omega
    · obtain rfl : k = 0 := by omega
      clear hk0
      go_wp2_with fail
      refine (pick_c 50 g _ _ HS.out.cur (by omega)).mono ?_
      rintro e w2 ⟨x, rfl, hx, hs⟩
      have HS2 := Lib.hid (HS.out.trans hs)
      have B02 := Lib.hid (B0.out.step hs (by omega))
      have B12 := Lib.hid (B1.out.step hs (by omega))
      clear hs hx B0 B1 HS
      by_cases e0 : x = 0
      · subst e0
        go_wp2_with fail
        refine (amongL_c [-1, 128, 127] g _ _ _ (by simp) HS2.out.cur (by omega) (by decide) (by decide)).mono ?_
        rintro e w3 ⟨y, rfl, hy, hs⟩
        have HS3 := Lib.hid (HS2.out.trans hs)
        have B03 := Lib.hid (B02.out.step hs (by omega))
        have B13 := Lib.hid (B12.out.step hs (by omega))
        have q0 : w3.cell? ⟨w.heap.size, 0, none⟩ = some (.int .i64 0) := B03.out.cell 0
        have q1 : w3.cell? ⟨w.heap.size, 1, none⟩ = some (.int .i64 0) := B03.out.cell 1
        have r0 : w3.cell? ⟨w.heap.size + 1, 0, none⟩ = some (.int .i64 d) := B13.out.cell 0
        have r1 : w3.cell? ⟨w.heap.size + 1, 1, none⟩ = some (.int .i64 l) := B13.out.cell 1
        have f0 : w3.frozen? ⟨w.heap.size + 1, 0, none⟩ = false := B13.out.frozen 0
        have g0 : w3.frozen? ⟨w.heap.size, 0, none⟩ = false := B03.out.frozen 0
        have g1 : w3.frozen? ⟨w.heap.size, 1, none⟩ = false := B03.out.frozen 1
        clear hs hy B02 B12
        go_wp2
        have CS : CStep w (w3.setCell ⟨w.heap.size + 1, 0, none⟩ (.int .i64 y)) g (m + 30) := (HS3.out.store hga (by simp) _).mono (by omega)
        obtain ⟨z0, z1⟩ := two_res (B03.out.other (p := ⟨w.heap.size + 1, 0, none⟩) (by simp) (.int .i64 y)) (.int .i64 y) (.int .i64 l)
        exact bodyPost_ret (v := .agg #[(.int .i64 y), (.int .i64 l)]) (by simp [results, Tryz.results76, go_sem, z0, z1]) rfl ⟨_, _, rfl, (CS.store hga (by simp) _).store hga (by simp) _⟩
      · by_cases e1 : x = 1
        · subst e1
          go_wp2_with fail
          refine (amongL_c [-1, 128, 127] g _ _ _ (by simp) HS2.out.cur (by omega) (by decide) (by decide)).mono ?_
          rintro e w3 ⟨y, rfl, hy, hs⟩
          have HS3 := Lib.hid (HS2.out.trans hs)
          have B03 := Lib.hid (B02.out.step hs (by omega))
          have B13 := Lib.hid (B12.out.step hs (by omega))
          have q0 : w3.cell? ⟨w.heap.size, 0, none⟩ = some (.int .i64 0) := B03.out.cell 0
          have q1 : w3.cell? ⟨w.heap.size, 1, none⟩ = some (.int .i64 0) := B03.out.cell 1
          have r0 : w3.cell? ⟨w.heap.size + 1, 0, none⟩ = some (.int .i64 d) := B13.out.cell 0
          have r1 : w3.cell? ⟨w.heap.size + 1, 1, none⟩ = some (.int .i64 l) := B13.out.cell 1
          have f1 : w3.frozen? ⟨w.heap.size + 1, 1, none⟩ = false := B13.out.frozen 1
          have g0 : w3.frozen? ⟨w.heap.size, 0, none⟩ = false := B03.out.frozen 0
          have g1 : w3.frozen? ⟨w.heap.size, 1, none⟩ = false := B03.out.frozen 1
          clear hs hy B02 B12
          go_wp2
          have CS : CStep w (w3.setCell ⟨w.heap.size + 1, 1, none⟩ (.int .i64 y)) g (m + 30) := (HS3.out.store hga (by simp) _).mono (by omega)
          obtain ⟨z0, z1⟩ := two_res (B03.out.other (p := ⟨w.heap.size + 1, 1, none⟩) (by simp) (.int .i64 y)) (.int .i64 d) (.int .i64 y)
          exact bodyPost_ret (v := .agg #[(.int .i64 d), (.int .i64 y)]) (by simp [results, Tryz.results76, go_sem, z0, z1]) rfl ⟨_, _, rfl, (CS.store hga (by simp) _).store hga (by simp) _⟩
        · have q0 : w2.cell? ⟨w.heap.size, 0, none⟩ = some (.int .i64 0) := B02.out.cell 0
          have q1 : w2.cell? ⟨w.heap.size, 1, none⟩ = some (.int .i64 0) := B02.out.cell 1
          have r0 : w2.cell? ⟨w.heap.size + 1, 0, none⟩ = some (.int .i64 d) := B12.out.cell 0
          have r1 : w2.cell? ⟨w.heap.size + 1, 1, none⟩ = some (.int .i64 l) := B12.out.cell 1
          have g0 : w2.frozen? ⟨w.heap.size, 0, none⟩ = false := B02.out.frozen 0
          have g1 : w2.frozen? ⟨w.heap.size, 1, none⟩ = false := B02.out.frozen 1
          go_wp2
          have CS : CStep w w2 g (m + 30) := HS2.out.mono (by omega)
          obtain ⟨z0, z1⟩ := two_res (B02.out) (.int .i64 d) (.int .i64 l)
          exact bodyPost_ret (v := .agg #[(.int .i64 d), (.int .i64 l)]) (by simp [results, Tryz.results76, go_sem, z0, z1]) rfl ⟨_, _, rfl, (CS.store hga (by simp) _).store hga (by simp) _⟩
end Go.Proofs.YtbobiiodbbcodaaGreatDoor
namespace Go.Proofs.YtbobiiodbbcodaaGreatDoor
open Go.RowKit
set_option linter.unusedVariables false
section
variable {P : Program} {w : World}
theorem step_append_at {ops : Array Oper} {o : Oper} {a : Act} {K : Act → World → Prop} {Q : Exit → Act → World → Prop} {E : Prop} (hgd : o.guard = none) (s x : Operand) (t : TypeId)
    (ho : o.op = .call { callee := .builtin .append, args := #[s, x], argTypes := #[t, t] })
    (base : Nat) (e : TypeId) (i : TypeInfo) (z : Value) (size bytes : Nat) (ht : P.underlying t = some (.slice e)) (hi : P.info? e = some i) (hz : i.zero = some z)
    (hsize : i.size = size) (hby : i.bytes = bytes) (hzs : z.cells.size = size) (hsz : 0 < size)
    (v : Value) (n : Nat) (xs : List Value) (hs : a.eval s = v) (hown : w.ownsRow base e size v n xs)
    (ad : Addr) (m c : Nat) (news : List Value) (hx : a.eval x = .slice (some ad) m c) (hl : news.length = m * size) (hnews : ∀ j u, news[j]? = some u → w.cell? (ad.add j) = some u) (h1 : ∀ u ∈ news, u.oneCell' = true)
    (h63 : n + m ≤ maxLen) (hbytes : (n + m) * bytes ≤ 140737488355328) (hbase : base ≤ w.heap.size)
    (h : ∀ v' w', w'.ownsRow base e size v' (n + m) (xs ++ news) → w.grownBy w' v.ownBlock → (v'.ownBlock = v.ownBlock ∨ v'.ownBlock = some w.heap.size) → K (a.put o.dst v') w') :
    if Region.wanted o (yielded ops a.tmps) = true then Oper.wp P o a w K Q else E := by
  have hw : Region.wanted o (yielded ops a.tmps) = true := by simp [Region.wanted, hgd]
  rw [if_pos hw]
  obtain ⟨v', w', hr, h2, h3, _, h5⟩ := run_append_own_at (P := P) (w := w) base t o.type e i z size bytes ht hi hz hsize hby hzs hsz v n xs hown ad m c news hl hnews h1 h63 hbytes hbase
  unfold Oper.wp execOp
  simp only [ho, resolve, invoke, builtin, Sem.run_bind, Sem.run_pure, Result.andThen_ok, List.map_toArray, List.map_cons, List.map_nil, hs, hx, hr]
  exact h v' w' h2 h3 h5
end
theorem own_take {w : World} {lo g cap n : Nat} {e : TypeId} {l : List Int} (h : w.ownsRow lo e 1 (.slice (some ⟨g, 0, none⟩) n cap) n (ints l)) (k : Nat) : ∀ j u, (ints (l.take k))[j]? = some u → w.cell? ((⟨g, 0, none⟩ : Addr).add j) = some u := by
  intro j u hu
  rw [Addr.add_lit, Nat.zero_add]
  have hlen : (ints l).length = n * 1 := h.1
  have hu2 : (ints l)[j]? = some u := by
    simp only [ints, List.map_take, List.getElem?_take] at hu ⊢
    split at hu
    · exact hu
    · cases hu
  have hj := (List.getElem?_eq_some_iff.1 hu2).1
  rw [h.cellAt j (by omega)]; exact hu2
theorem own_drop {w : World} {lo g cap n : Nat} {e : TypeId} {l : List Int} (h : w.ownsRow lo e 1 (.slice (some ⟨g, 0, none⟩) n cap) n (ints l)) (k : Nat) : ∀ j u, (ints (l.drop k))[j]? = some u → w.cell? ((⟨g, k, none⟩ : Addr).add j) = some u := by
  intro j u hu
  rw [Addr.add_lit]
  have hlen : (ints l).length = n * 1 := h.1
  have hu2 : (ints l)[k + j]? = some u := by simpa [ints, List.map_drop] using hu
  have hj := (List.getElem?_eq_some_iff.1 hu2).1
  rw [h.cellAt (k + j) (by omega)]; exact hu2
end Go.Proofs.YtbobiiodbbcodaaGreatDoor
namespace Go.Proofs.YtbobiiodbbcodaaGreatDoor
open Go.RowKit
set_option linter.unusedVariables false
set_option linter.unusedSimpArgs false
set_option maxRecDepth 100000

/-- What a draw of a slice of Faults gives. -/
def DrawP (w : World) (g m n : Nat) (e : Ending) (w' : World) : Prop :=
  ∃ (v : Value) (ps : List (Int × Int)), e = .returned v ∧ ps.length ≤ n ∧ Pairs w' v ps ∧ v.ownBlock ≠ some g ∧ CStep w w' g m
theorem own_block_ne {w : World} {lo g : Nat} {e : TypeId} {size n : Nat} {v : Value} {xs : List Value} (h : w.ownsRow lo e size v n xs) (hg : g < lo) : v.ownBlock ≠ some g := by
  rcases h.2 with ⟨rfl, _⟩ | ⟨k, cap, cur, rfl, hb, _⟩
  · simp [Value.ownBlock]
  · simp [Value.ownBlock]; omega
/-- the row without its first pair -/
theorem pairs_tail {w : World} {lo g cap : Nat} {p : Int × Int} {ps : List (Int × Int)} (h : w.ownsRow lo 30 2 (.slice (some ⟨g, 0, none⟩) (ps.length + 1) cap) (ps.length + 1) (flat2 (p :: ps))) (hc : cap ≤ 9223372036854775807) (hn : ps.length + 1 ≤ cap) :
    Pairs w (.slice (some ⟨g, 2, none⟩) ps.length (cap - 1)) ps := by
  refine ⟨_, _, rfl, by omega, by unfold maxLen; omega, ?_, fun _ => ⟨g, 2, rfl, fun j hj => ?_⟩⟩
  · have := h.1; simp [flat2] at this ⊢; omega
  · rw [h.cellAt (2 + j) (by omega)]
    rw [show 2 + j = j + 1 + 1 by omega]; rfl
theorem pairs_none {w : World} {a : Option Addr} {c : Nat} (hc : c ≤ 9223372036854775807) : Pairs w (.slice a 0 c) [] := ⟨a, c, rfl, Nat.zero_le _, by unfold maxLen; omega, rfl, fun h => absurd h (by decide)⟩
theorem own_setCell {w : World} {lo : Nat} {e : TypeId} {size n : Nat} {v : Value} {xs : List Value} (h : w.ownsRow lo e size v n xs) {p : Addr} (hp : v.ownBlock ≠ some p.block) (x : Value) : (w.setCell p x).ownsRow lo e size v n xs :=
  h.kept (row := some p.block) ⟨rfl, rfl, rfl, by simp [World.setCell], fun k hk hne => Below.heap_setCell _ _ _ _ (fun e => hne (by rw [e]))⟩ (.inr hp)
end Go.Proofs.YtbobiiodbbcodaaGreatDoor
namespace Go.Proofs.YtbobiiodbbcodaaGreatDoor
open Go.RowKit
set_option linter.unusedVariables false
set_option linter.unusedSimpArgs false
set_option maxRecDepth 100000
def lenOf : Value → Nat
  | .slice _ n _ => n
  | _ => 0
theorem ints_take {w : World} {a : Option Addr} {c : Nat} {xs : List Int} (h : Ints w (.slice a xs.length c) xs) (n : Nat) (hn : n ≤ xs.length) : Ints w (.slice a n c) (xs.take n) := by
  obtain ⟨a', c', e, h1, h2, h3, h4⟩ := h
  cases e
  have hl : (xs.take n).length = n := by rw [List.length_take]; omega
  refine ⟨a, c, by rw [hl], by rw [hl]; omega, h2, by rw [List.length_map, Nat.mul_one], fun hn0 => ?_⟩
  rw [hl] at hn0 ⊢
  obtain ⟨b, off, e, hc⟩ := h4 (by omega)
  refine ⟨b, off, e, fun j hj => ?_⟩
  rw [hc j (by omega), List.map_take, List.getElem?_take, if_pos (by omega)]
/-- one of the first numbers of those that are written where they are asked for, a few more now and then -/
theorem amongT_c (xs : List Int) (n : Nat) (b g m : Nat) (w : World) (h : CurAt w g m) (hm : m + 2 < 4611686018427387904) (hv : Ints w (.slice (some ⟨b, 0, none⟩) xs.length xs.length) xs) (hne : b ≠ g) (hn0 : 0 < n) (hn : n ≤ xs.length) :
    Calls Tryz.prog 40 #[.pointer (some ⟨g, 0, none⟩), .slice (some ⟨b, 0, none⟩) n xs.length] w (DrawI w g (m + 2) fun x => x ∈ xs) :=
  (among_c _ (xs.take n) g m _ h hm (ints_take hv n hn) (by simpa [Value.ownBlock] using hne) (by rw [List.length_take]; omega)).mono fun e w' ⟨x, he, hx, hs⟩ => ⟨x, he, List.mem_of_mem_take hx, hs⟩
theorem div11 {x : Int} (h0 : 0 ≤ x) (h1 : x < 24) : Int.tdiv x 11 = 0 ∨ Int.tdiv x 11 = 1 ∨ Int.tdiv x 11 = 2 := by
  rw [Int.tdiv_eq_ediv_of_nonneg h0]; omega
end Go.Proofs.YtbobiiodbbcodaaGreatDoor
namespace Go.Proofs.YtbobiiodbbcodaaGreatDoor
open Go.RowKit
set_option linter.unusedVariables false
set_option linter.unusedSimpArgs false
set_option maxRecDepth 100000
theorem Bk.ne_own {w : World} {g t : Nat} {cs : Array Value} {lo size n : Nat} {e : TypeId} {v : Value} {xs : List Value} (h : Bk w g t cs) (ho : w.ownsRow lo e size v n xs) (hne : t ≠ e) : v.ownBlock ≠ some g := by
  rcases ho.2 with ⟨rfl, _⟩ | ⟨k, cap, cur, rfl, _, hg, _⟩
  · simp [Value.ownBlock]
  · intro e2
    simp only [Value.ownBlock, Option.some.injEq] at e2
    subst e2
    unfold Bk at h
    rw [hg] at h
    simp only [Option.some.injEq, Obj.cells.injEq] at h
    exact hne h.2.1.symm
theorem cell_two {W : World} {b g o : Nat} {v : Value} (h : g ≠ b) (X Y : Value) (hv : W.cell? ⟨g, o, none⟩ = some v) : ((W.setCell ⟨b, 0, none⟩ X).setCell ⟨b, 1, none⟩ Y).cell? ⟨g, o, none⟩ = some v := by
  rw [World.cell?_setCell_other _ _ _ _ (by simp [h]), World.cell?_setCell_other _ _ _ _ (by simp [h])]; exact hv
/-- what a cell shows, whatever the fault -/
theorem l3ShownAny_c (d l c : Int) (w : World) : Calls Tryz.prog 80 #[.agg #[.int .i64 d, .int .i64 l], .int .i64 c] w fun e w' => ∃ x : Int, e = .returned (.int .i64 x) ∧ Below w.heap.size w w' := by
  go_enter Tryz.func80, Tryz.ntmps80
  go_wp2
  go_ret
  exact ⟨_, rfl, below_one _⟩
theorem DrawIsFault_c (v : Value) (xs : List Nat) (w : World) (h : Code w v xs) :
    Calls Tryz.prog 56 #[v] w fun e w' => ∃ d l : Int, e = .returned (.agg #[.int .i64 d, .int .i64 l]) ∧ Below w.heap.size w w' := by
  have HK := Lib.hid (cur_new (h.below (below_one (.cells #[.int .i64 0, .int .i64 0] 30))))
  have B0 := Lib.hid ((Bk.new w 30 #[.int .i64 0, .int .i64 0]).alloc (.cells #[v, .int .i64 0, .int .u64 0] 53))
  obtain ⟨a, c, rfl, _⟩ := h
  rw [World.size_alloc] at HK
  go_enter Tryz.func56, Tryz.ntmps56
  go_wp2_with fail
  refine (fault3_c (w.heap.size + 1) 0 _ HK.out (by omega)).mono ?_
  rintro e w1 ⟨d, l, rfl, hs⟩
  have HS2 := Lib.hid hs
  have B2 := Lib.hid (B0.out.step hs (by omega))
  have q0 : w1.cell? ⟨w.heap.size, 0, none⟩ = some (.int .i64 0) := B2.out.cell 0
  have q1 : w1.cell? ⟨w.heap.size, 1, none⟩ = some (.int .i64 0) := B2.out.cell 1
  have f0 : w1.frozen? ⟨w.heap.size, 0, none⟩ = false := B2.out.frozen 0
  have f1 : w1.frozen? ⟨w.heap.size, 1, none⟩ = false := B2.out.frozen 1
  clear hs B0
  go_wp2
  obtain ⟨z0, z1⟩ := two_res B2.out (.int .i64 d) (.int .i64 l)
  have hb : Below w.heap.size w w1 := ((Below.refl _ _).alloc (Nat.le_refl _) _).trans (((Below.refl _ _).alloc (by simp) _).trans (HS2.out.low (by omega) (by simp; omega)))
  exact bodyPost_ret (v := .agg #[.int .i64 d, .int .i64 l]) (by simp [results, Tryz.results56, go_sem, z0, z1]) rfl ⟨d, l, rfl, (hb.setCell (p := ⟨w.heap.size, 0, none⟩) (Nat.le_refl _) _).setCell (p := ⟨w.heap.size, 1, none⟩) (Nat.le_refl _) _⟩
theorem div11q {x : Int} (h0 : 0 ≤ x) (h1 : x < 24) : ∃ q : Nat, Int.tdiv x 11 = (q : Int) ∧ q ≤ 2 := by
  rcases div11 h0 h1 with h | h | h
  · exact ⟨0, h, by omega⟩
  · exact ⟨1, h, by omega⟩
  · exact ⟨2, h, by omega⟩
end Go.Proofs.YtbobiiodbbcodaaGreatDoor
namespace Go.Proofs.YtbobiiodbbcodaaGreatDoor
open Go.RowKit
set_option linter.unusedVariables false
set_option linter.unusedSimpArgs false
set_option maxRecDepth 100000
theorem DrawMeanImages_c (v : Value) (xs : List Nat) (w : World) (h : Code w v xs) :
    Calls Tryz.prog 28 #[v] w fun e w' => ∃ x : Int, e = .returned (.int .i64 x) ∧ Below w.heap.size w w' := by
  have HK := Lib.hid (cur_new h)
  obtain ⟨a, c, rfl, _⟩ := h
  have HI := Lib.hid (ints_lit (w.alloc (.cells #[.slice a xs.length c, .int .i64 0, .int .u64 0] 53)) [1, 2, 3, 0, 5, 7, 8, -1] (by decide))
  rw [World.size_alloc] at HI
  go_enter Tryz.func28, Tryz.ntmps28
  go_wp2_with fail
  refine (pick_c 24 w.heap.size 0 _ (HK.out.alloc _) (by omega)).mono ?_
  rintro e w1 ⟨x, rfl, hx, hs⟩
  have HS : Hid (CStep (w.alloc (.cells #[.slice a xs.length c, .int .i64 0, .int .u64 0] 53)) w1 w.heap.size 2) := ((CStep.refl HK.out).alloc _).trans hs
  have HI2 : Hid (Ints w1 (.slice (some ⟨w.heap.size + 1, 0, none⟩) 8 8) [1, 2, 3, 0, 5, 7, 8, -1]) := HI.out.grown hs.gr (.inr (by simp [Value.ownBlock]))
  have hx0 := hx.1
  have hx1 := hx.2 (by omega)
  clear hs hx
  rcases div11 hx0 hx1 with hq | hq | hq
  · go_wp2_with fail
    refine (amongT_c [1, 2, 3, 0, 5, 7, 8, -1] 6 (w.heap.size + 1) w.heap.size 2 _ HS.out.cur (by omega) HI2.out (by omega) (by decide) (by decide)).mono ?_
    rintro e w2 ⟨y, rfl, _, hs⟩
    have HS2 := Lib.hid (HS.out.trans hs)
    clear hs
    go_wp2
    go_ret
    exact ⟨_, rfl, draw_below HS2.out⟩
  · go_wp2_with fail
    refine (amongT_c [1, 2, 3, 0, 5, 7, 8, -1] 7 (w.heap.size + 1) w.heap.size 2 _ HS.out.cur (by omega) HI2.out (by omega) (by decide) (by decide)).mono ?_
    rintro e w2 ⟨y, rfl, _, hs⟩
    have HS2 := Lib.hid (HS.out.trans hs)
    clear hs
    go_wp2
    go_ret
    exact ⟨_, rfl, draw_below HS2.out⟩
  · go_wp2_with fail
    refine (amongT_c [1, 2, 3, 0, 5, 7, 8, -1] 8 (w.heap.size + 1) w.heap.size 2 _ HS.out.cur (by omega) HI2.out (by omega) (by decide) (by decide)).mono ?_
    rintro e w2 ⟨y, rfl, _, hs⟩
    have HS2 := Lib.hid (HS.out.trans hs)
    clear hs
    go_wp2
    go_ret
    exact ⟨_, rfl, draw_below HS2.out⟩
theorem DrawChanceFull_c (v : Value) (xs : List Nat) (w : World) (h : Code w v xs) :
    Calls Tryz.prog 16 #[v] w fun e w' => ∃ x : Int, e = .returned (.int .i64 x) ∧ Below w.heap.size w w' := by
  have HK := Lib.hid (cur_new h)
  obtain ⟨a, c, rfl, _⟩ := h
  have HI := Lib.hid (ints_lit (w.alloc (.cells #[.slice a xs.length c, .int .i64 0, .int .u64 0] 53)) [2, 3, 1, 0, 2, 5, -1] (by decide))
  rw [World.size_alloc] at HI
  go_enter Tryz.func16, Tryz.ntmps16
  go_wp2_with fail
  refine (pick_c 24 w.heap.size 0 _ (HK.out.alloc _) (by omega)).mono ?_
  rintro e w1 ⟨x, rfl, hx, hs⟩
  have HS : Hid (CStep (w.alloc (.cells #[.slice a xs.length c, .int .i64 0, .int .u64 0] 53)) w1 w.heap.size 2) := ((CStep.refl HK.out).alloc _).trans hs
  have HI2 : Hid (Ints w1 (.slice (some ⟨w.heap.size + 1, 0, none⟩) 7 7) [2, 3, 1, 0, 2, 5, -1]) := HI.out.grown hs.gr (.inr (by simp [Value.ownBlock]))
  have hx0 := hx.1
  have hx1 := hx.2 (by omega)
  clear hs hx
  rcases div11 hx0 hx1 with hq | hq | hq
  · go_wp2_with fail
    refine (amongT_c [2, 3, 1, 0, 2, 5, -1] 5 (w.heap.size + 1) w.heap.size 2 _ HS.out.cur (by omega) HI2.out (by omega) (by decide) (by decide)).mono ?_
    rintro e w2 ⟨y, rfl, _, hs⟩
    have HS2 := Lib.hid (HS.out.trans hs)
    clear hs
    go_wp2
    go_ret
    exact ⟨_, rfl, draw_below HS2.out⟩
  · go_wp2_with fail
    refine (amongT_c [2, 3, 1, 0, 2, 5, -1] 6 (w.heap.size + 1) w.heap.size 2 _ HS.out.cur (by omega) HI2.out (by omega) (by decide) (by decide)).mono ?_
    rintro e w2 ⟨y, rfl, _, hs⟩
    have HS2 := Lib.hid (HS.out.trans hs)
    clear hs
    go_wp2
    go_ret
    exact ⟨_, rfl, draw_below HS2.out⟩
  · go_wp2_with fail
    refine (amongT_c [2, 3, 1, 0, 2, 5, -1] 7 (w.heap.size + 1) w.heap.size 2 _ HS.out.cur (by omega) HI2.out (by omega) (by decide) (by decide)).mono ?_
    rintro e w2 ⟨y, rfl, _, hs⟩
    have HS2 := Lib.hid (HS.out.trans hs)
    clear hs
    go_wp2
    go_ret
    exact ⟨_, rfl, draw_below HS2.out⟩
theorem DrawChanceTold_c (v : Value) (xs : List Nat) (w : World) (h : Code w v xs) :
    Calls Tryz.prog 5 #[v] w fun e w' => ∃ x : Int, e = .returned (.int .i64 x) ∧ Below w.heap.size w w' := by
  have HK := Lib.hid h
  obtain ⟨a, c, rfl, _⟩ := h
  go_enter Tryz.func5, Tryz.ntmps5
  go_wp2_with fail
  refine (DrawMeanImages_c _ xs _ HK.out).mono ?_
  rintro e w1 ⟨x, rfl, hb⟩
  go_wp2
  go_ret
  exact ⟨_, rfl, hb⟩
set_option maxHeartbeats 1000000 in
theorem DrawMeanBars_c (v : Value) (xs : List Nat) (w : World) (h : Code w v xs) :
    Calls Tryz.prog 12 #[v] w fun e w' => ∃ x : Int, e = .returned (.int .i64 x) ∧ Below w.heap.size w w' := by
  have HK := Lib.hid (cur_new h)
  obtain ⟨a, c, rfl, _⟩ := h
  go_enter Tryz.func12, Tryz.ntmps12
  go_wp2_with fail
  refine (pick_c 200 w.heap.size 0 _ HK.out (by omega)).mono ?_
  rintro e w1 ⟨x, rfl, _, hs⟩
  have HS1 := Lib.hid hs
  clear hs
  go_wp2_with fail
  refine (pick_c 2000 w.heap.size 2 _ HS1.out.cur (by omega)).mono ?_
  rintro e w2 ⟨y, rfl, _, hs⟩
  have HS2 := Lib.hid (HS1.out.trans hs)
  clear hs HS1
  have hlt := HS2.out.cur.lt
  have HI := Lib.hid (ints_lit w2 [9, 99, x, y, 9999, 0, 10000, -1] (by simp))
  go_wp2_with fail
  refine (pick_c 24 w.heap.size 4 _ (HS2.out.cur.alloc _) (by omega)).mono ?_
  rintro e w3 ⟨z, rfl, hx, hs⟩
  have HS3 := Lib.hid ((HS2.out.alloc (.cells ([9, 99, x, y, 9999, 0, 10000, -1].map (Value.int .i64)).toArray 3)).trans hs)
  have HI2 : Hid (Ints w3 (.slice (some ⟨w2.heap.size, 0, none⟩) 8 8) [9, 99, x, y, 9999, 0, 10000, -1]) := HI.out.grown hs.gr (.inr (by simp [Value.ownBlock]; omega))
  have hx0 := hx.1
  have hx1 := hx.2 (by omega)
  clear hs hx HI HS2
  have hne : w2.heap.size ≠ w.heap.size := by omega
  rcases div11 hx0 hx1 with hq | hq | hq
  · go_wp2_with fail
    refine (amongT_c [9, 99, x, y, 9999, 0, 10000, -1] 6 w2.heap.size w.heap.size _ _ HS3.out.cur (by omega) HI2.out hne (by decide) (by simp)).mono ?_
    rintro e w4 ⟨q, rfl, _, hs⟩
    have HS4 := Lib.hid (HS3.out.trans hs)
    clear hs
    go_wp2
    go_ret
    exact ⟨_, rfl, draw_below HS4.out⟩
  · go_wp2_with fail
    refine (amongT_c [9, 99, x, y, 9999, 0, 10000, -1] 7 w2.heap.size w.heap.size _ _ HS3.out.cur (by omega) HI2.out hne (by decide) (by simp)).mono ?_
    rintro e w4 ⟨q, rfl, _, hs⟩
    have HS4 := Lib.hid (HS3.out.trans hs)
    clear hs
    go_wp2
    go_ret
    exact ⟨_, rfl, draw_below HS4.out⟩
  · go_wp2_with fail
    refine (amongT_c [9, 99, x, y, 9999, 0, 10000, -1] 8 w2.heap.size w.heap.size _ _ HS3.out.cur (by omega) HI2.out hne (by decide) (by simp)).mono ?_
    rintro e w4 ⟨q, rfl, _, hs⟩
    have HS4 := Lib.hid (HS3.out.trans hs)
    clear hs
    go_wp2
    go_ret
    exact ⟨_, rfl, draw_below HS4.out⟩
theorem DrawChanceSameDigit_c (v : Value) (xs : List Nat) (w : World) (h : Code w v xs) :
    Calls Tryz.prog 21 #[v] w fun e w' => ∃ d l : Int, e = .returned (.agg #[.int .i64 d, .int .i64 l]) ∧ Below w.heap.size w w' := by
  have HK := Lib.hid (h.below (below_one (.cells #[.int .i64 0, .int .i64 0] 30)))
  have B0 := Lib.hid (Bk.new w 30 #[.int .i64 0, .int .i64 0])
  obtain ⟨a, c, rfl, _⟩ := h
  go_enter Tryz.func21, Tryz.ntmps21
  go_wp2_with fail
  refine (DrawIsFault_c _ xs _ HK.out).mono ?_
  rintro e w1 ⟨d, l, rfl, hb0⟩
  have B2 := Lib.hid (B0.out.below hb0)
  have q0 : w1.cell? ⟨w.heap.size, 0, none⟩ = some (.int .i64 0) := B2.out.cell 0
  have q1 : w1.cell? ⟨w.heap.size, 1, none⟩ = some (.int .i64 0) := B2.out.cell 1
  have f0 : w1.frozen? ⟨w.heap.size, 0, none⟩ = false := B2.out.frozen 0
  have f1 : w1.frozen? ⟨w.heap.size, 1, none⟩ = false := B2.out.frozen 1
  have HB := Lib.hid hb0
  clear hb0 B0
  go_wp2
  obtain ⟨z0, z1⟩ := two_res B2.out (.int .i64 d) (.int .i64 l)
  have hb : Below w.heap.size w w1 := Below.chain (below_one _) HB.out
  exact bodyPost_ret (v := .agg #[.int .i64 d, .int .i64 l]) (by simp [results, Tryz.results21, go_sem, z0, z1]) rfl ⟨d, l, rfl, (hb.setCell (p := ⟨w.heap.size, 0, none⟩) (Nat.le_refl _) _).setCell (p := ⟨w.heap.size, 1, none⟩) (Nat.le_refl _) _⟩
end Go.Proofs.YtbobiiodbbcodaaGreatDoor
namespace Go.Proofs.YtbobiiodbbcodaaGreatDoor
open Go.RowKit
theorem Bk.two' {w : World} {g t : Nat} {a b : Value} (h : Bk w g t #[a, b]) : w.cell? ⟨g, 0, none⟩ = some a ∧ w.cell? ⟨g, 1, none⟩ = some b ∧ w.frozen? ⟨g, 0, none⟩ = false ∧ w.frozen? ⟨g, 1, none⟩ = false := ⟨h.cell 0, h.cell 1, h.frozen 0, h.frozen 1⟩
theorem two_below' {w W : World} {b : Nat} (h : Below w.heap.size w W) (hb : w.heap.size ≤ b) (X Y : Value) : Below w.heap.size w ((W.setCell ⟨b, 0, none⟩ X).setCell ⟨b, 1, none⟩ Y) :=
  (h.setCell (p := ⟨b, 0, none⟩) hb _).setCell (p := ⟨b, 1, none⟩) hb _
theorem chain_back {w a b : World} (k : Below a.heap.size a b) (h : Below w.heap.size w a) : Below w.heap.size w b := Below.chain h k
end Go.Proofs.YtbobiiodbbcodaaGreatDoor
namespace Go.Proofs.YtbobiiodbbcodaaGreatDoor
open Go.RowKit
set_option linter.unusedVariables false
set_option maxRecDepth 100000
theorem items_sameP (xs : Array Value) (w : World) : ∀ is : List Nat, (∀ i ∈ is, ∃ x : Int, xs[i]? = some (.int .i64 x)) → (Op.eqItems 9999 3 (Tryz.prog.cellsOf 3) xs xs is).run Tryz.prog w = .ok true w
  | [], _ => rfl
  | i :: is, h => by
    obtain ⟨x, hx⟩ := h i (by simp)
    have hc : Tryz.prog.cellsOf 3 = 1 := by kernel_rfl
    have hp : (part 3 xs (i * Tryz.prog.cellsOf 3)).run Tryz.prog w = .ok (.int .i64 x) w := by
      rw [hc, Nat.mul_one]; exact run_part_plain w (by kernel_rfl) hx
    have he : (Op.equalIn 9999 3 (.int .i64 x) (.int .i64 x)).run Tryz.prog w = .ok (x == x) w := run_equalIn_int w 9998 3 .i64 .i64 x x Tryz.underlying3
    have ih := items_sameP xs w is (fun j hj => h j (by simp [hj]))
    simp only [Op.eqItems, Sem.run_bind, hp, Result.andThen_ok, he, beq_self_eq_true, Bool.not_true, Bool.false_eq_true, if_false, ih]
theorem pair_guard : Tryz.prog.eqGuardType Tryz.prog.depth 25 = false := by kernel_rfl
theorem pair_same (x y : Int) (w : World) : (Op.equalIn 10000 25 (.agg #[.int .i64 x, .int .i64 y]) (.agg #[.int .i64 x, .int .i64 y])).run Tryz.prog w = .ok true w := by
  have hA := fun (d : Nat) (xs ys : Array Value) (w : World) => run_equalIn_array (P := Tryz.prog) w d xs ys (t := 25) Tryz.underlying25 (e := 3) (i := _) rfl
  have hI : (Op.eqItems 9999 3 (Tryz.prog.cellsOf 3) #[.int .i64 x, .int .i64 y] #[.int .i64 x, .int .i64 y] [0, 1]).run Tryz.prog w = .ok true w :=
    items_sameP _ w _ (fun i hi => by
      simp only [List.mem_cons, List.not_mem_nil, or_false] at hi
      rcases hi with rfl | rfl <;> exact ⟨_, rfl⟩)
  go_simp
end Go.Proofs.YtbobiiodbbcodaaGreatDoor
