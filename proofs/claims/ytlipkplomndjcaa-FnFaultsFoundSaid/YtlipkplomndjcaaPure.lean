/- The plain functions that the program's functions compute: cells, digits, faults, states. No program in sight. -/
import Derived.WalkKit
namespace Go.Proofs.Ytlipkplomndjcaa
open Go.RowKit

/-! ints as bits -/
theorem wrap_i64_small (n : Nat) (h : n < 9223372036854775808) : IntKind.i64.wrap (n : Int) = n := by
  simp only [IntKind.wrap, IntKind.bits, IntKind.signed]
  simp; omega
theorem ofInt_i64 (a : Nat) (ha : a < 9223372036854775808) : (BitVec.ofInt 64 (a : Int)).toNat = a := by
  rw [BitVec.toNat_ofInt]; omega
theorem i64_and_nat (a b : Nat) (ha : a < 9223372036854775808) (hb : b < 9223372036854775808) : bits .and .i64 (a : Int) (b : Int) = ((a &&& b : Nat) : Int) := by
  have hx : a &&& b < 2 ^ 63 := Nat.and_lt_two_pow _ (by omega)
  show IntKind.i64.wrap ((BitVec.ofInt 64 (a : Int) &&& BitVec.ofInt 64 (b : Int)).toNat : Int) = _
  rw [BitVec.toNat_and, ofInt_i64 a ha, ofInt_i64 b hb, wrap_i64_small _ (by omega)]
theorem i64_or_nat (a b : Nat) (ha : a < 9223372036854775808) (hb : b < 9223372036854775808) : bits .or .i64 (a : Int) (b : Int) = ((a ||| b : Nat) : Int) := by
  have hx : a ||| b < 2 ^ 63 := Nat.or_lt_two_pow (by omega) (by omega)
  show IntKind.i64.wrap ((BitVec.ofInt 64 (a : Int) ||| BitVec.ofInt 64 (b : Int)).toNat : Int) = _
  rw [BitVec.toNat_or, ofInt_i64 a ha, ofInt_i64 b hb, wrap_i64_small _ (by omega)]
theorem i64_xor_nat (a b : Nat) (ha : a < 9223372036854775808) (hb : b < 9223372036854775808) : bits .xor .i64 (a : Int) (b : Int) = ((a ^^^ b : Nat) : Int) := by
  have hx : a ^^^ b < 2 ^ 63 := Nat.xor_lt_two_pow (by omega) (by omega)
  show IntKind.i64.wrap ((BitVec.ofInt 64 (a : Int) ^^^ BitVec.ofInt 64 (b : Int)).toNat : Int) = _
  rw [BitVec.toNat_xor, ofInt_i64 a ha, ofInt_i64 b hb, wrap_i64_small _ (by omega)]
theorem i64_andNot_nat (a b : Nat) (ha : a < 128) (hb : b < 128) : bits .andNot .i64 (a : Int) (b : Int) = ((a &&& (127 - b) : Nat) : Int) := by
  show IntKind.i64.wrap ((BitVec.ofInt 64 (a : Int) &&& ~~~BitVec.ofInt 64 (b : Int)).toNat : Int) = _
  rw [BitVec.toNat_and, BitVec.toNat_not, ofInt_i64 a (by omega), ofInt_i64 b (by omega)]
  have e : a &&& (2 ^ 64 - 1 - b) = a &&& (127 - b) := by
    apply Nat.eq_of_testBit_eq; intro i
    have h1 : 2 ^ 64 - 1 - b = 2 ^ 64 - (b + 1) := by omega
    have h2 : 127 - b = 2 ^ 7 - (b + 1) := by omega
    rw [Nat.testBit_and, Nat.testBit_and, h1, h2, Nat.testBit_two_pow_sub_succ (by omega), Nat.testBit_two_pow_sub_succ (by omega)]
    by_cases hi : i < 7
    · have : i < 64 := by omega
      simp [hi, this]
    · have ha' : a.testBit i = false := Nat.testBit_lt_two_pow (Nat.lt_of_lt_of_le ha (by have := Nat.pow_le_pow_right (n := 2) (by omega) (show 7 ≤ i by omega); omega))
      simp [ha']
  have hx : a &&& (127 - b) < 2 ^ 7 := Nat.and_lt_two_pow _ (by omega)
  rw [e, wrap_i64_small _ (by omega)]

/-! cells and digits -/
def inB (n lo hi : Int) : Bool := decide (lo ≤ n) && decide (n ≤ hi)
theorem inB_true {n lo hi : Int} (h : inB n lo hi = true) : lo ≤ n ∧ n ≤ hi := by simpa [inB] using h
theorem inB_false {n lo hi : Int} (h : inB n lo hi = false) : n < lo ∨ hi < n := by simp [inB] at h; omega
theorem inB_mk {n lo hi : Int} (h0 : lo ≤ n) (h1 : n ≤ hi) : inB n lo hi = true := by simp [inB, h0, h1]
def cellB (c : Int) : Bool := inB c 0 127
def digitB (d : Int) : Bool := inB d 0 9
theorem cellB_true {c : Int} (h : cellB c = true) : 0 ≤ c ∧ c ≤ 127 := inB_true h
theorem digitB_true {c : Int} (h : digitB c = true) : 0 ≤ c ∧ c ≤ 9 := inB_true h
def dig : List Int := [63, 6, 91, 79, 102, 109, 125, 7, 127, 111]
def dg (d : Int) : Int := dig.getD d.toNat 0
theorem dg_bd (d : Int) : 0 ≤ dg d ∧ dg d ≤ 127 := by
  unfold dg
  by_cases h : d.toNat < 10
  · have : ∀ n : Fin 10, 0 ≤ dig.getD n.1 0 ∧ dig.getD n.1 0 ≤ 127 := by decide
    exact this ⟨d.toNat, h⟩
  · rw [List.getD_eq_getElem?_getD, List.getElem?_eq_none (by simp [dig]; omega)]; simp
/-- what a cell shows under a fault of dark bars d and lit ones l -/
def shC (d l c : Int) : Int := ((((c.toNat &&& (127 - d.toNat)) ||| l.toNat : Nat)) : Int)
theorem shC_bd {d l c : Int} (_c0 : 0 ≤ c) (_c1 : c ≤ 127) (_l0 : 0 ≤ l) (_l1 : l ≤ 127) : 0 ≤ shC d l c ∧ shC d l c ≤ 127 := by
  unfold shC
  have h1 : c.toNat &&& (127 - d.toNat) < 2 ^ 7 := Nat.and_lt_two_pow _ (by omega)
  have h2 : (c.toNat &&& (127 - d.toNat)) ||| l.toNat < 2 ^ 7 := Nat.or_lt_two_pow h1 (by omega)
  omega
/-- the program's text of it -/
theorem shC_impl {d l c : Int} (d0 : 0 ≤ d) (d1 : d ≤ 127) (l0 : 0 ≤ l) (l1 : l ≤ 127) (c0 : 0 ≤ c) (c1 : c ≤ 127) :
    bits .or .i64 (bits .andNot .i64 c d) l = shC d l c := by
  obtain ⟨d, rfl⟩ := Int.eq_ofNat_of_zero_le d0
  obtain ⟨l, rfl⟩ := Int.eq_ofNat_of_zero_le l0
  obtain ⟨c, rfl⟩ := Int.eq_ofNat_of_zero_le c0
  have h1 : c &&& (127 - d) < 2 ^ 7 := Nat.and_lt_two_pow _ (by omega)
  rw [i64_andNot_nat c d (by omega) (by omega), i64_or_nat _ _ (by omega) (by omega)]; rfl
theorem and_sub_all : ∀ c d : Fin 128, c.1 - (c.1 &&& d.1) = c.1 &&& (127 - d.1) := by decide +kernel
theorem and_sub (c d : Nat) (hc : c < 128) (hd : d < 128) : c - (c &&& d) = c &&& (127 - d) := and_sub_all ⟨c, hc⟩ ⟨d, hd⟩
/-- the reference's text of it -/
theorem shC_spec {d l c : Int} (d0 : 0 ≤ d) (d1 : d ≤ 127) (l0 : 0 ≤ l) (l1 : l ≤ 127) (c0 : 0 ≤ c) (c1 : c ≤ 127) :
    bits .or .i64 (wrap64 (c - bits .and .i64 c d)) l = shC d l c := by
  obtain ⟨d, rfl⟩ := Int.eq_ofNat_of_zero_le d0
  obtain ⟨l, rfl⟩ := Int.eq_ofNat_of_zero_le l0
  obtain ⟨c, rfl⟩ := Int.eq_ofNat_of_zero_le c0
  have h1 : c &&& (127 - d) < 2 ^ 7 := Nat.and_lt_two_pow _ (by omega)
  have h2 : c &&& d ≤ c := Nat.and_le_left
  have h3 := and_sub c d (by omega) (by omega)
  rw [i64_and_nat c d (by omega) (by omega), show ((c : Int) - ((c &&& d : Nat) : Int)) = ((c &&& (127 - d) : Nat) : Int) by omega]
  rw [show wrap64 ((c &&& (127 - d) : Nat) : Int) = ((c &&& (127 - d) : Nat) : Int) by simp [wrap64]; omega, i64_or_nat _ _ (by omega) (by omega)]; rfl
/-- the bars of both -/
def andC (d l : Int) : Int := ((d.toNat &&& l.toNat : Nat) : Int)
theorem andC_i64 {d l : Int} (d0 : 0 ≤ d) (d1 : d ≤ 127) (l0 : 0 ≤ l) (l1 : l ≤ 127) : bits .and .i64 d l = andC d l := by
  obtain ⟨d, rfl⟩ := Int.eq_ofNat_of_zero_le d0
  obtain ⟨l, rfl⟩ := Int.eq_ofNat_of_zero_le l0
  exact i64_and_nat d l (by omega) (by omega)
def faultB (d l : Int) : Bool := cellB d && (cellB l && (andC d l == 0))
theorem faultB_true {d l : Int} (h : faultB d l = true) : 0 ≤ d ∧ d ≤ 127 ∧ 0 ≤ l ∧ l ≤ 127 ∧ andC d l = 0 := by
  simp [faultB] at h
  have h1 := cellB_true h.1; have h2 := cellB_true h.2.1
  exact ⟨h1.1, h1.2, h2.1, h2.2, h.2.2⟩
/-! states -/
def stateB (bar kind : Int) : Bool := if kind = 0 then (bar == 0) else (inB kind 1 2 && inB bar 0 6)
def stD (bar kind : Int) : Int := if kind = 1 then ((2 ^ bar.toNat : Nat) : Int) else 0
def stL (bar kind : Int) : Int := if kind = 2 then ((2 ^ bar.toNat : Nat) : Int) else 0
theorem stateB_cases {bar kind : Int} (h : stateB bar kind = true) : (kind = 0 ∧ bar = 0) ∨ (kind = 1 ∧ 0 ≤ bar ∧ bar ≤ 6) ∨ (kind = 2 ∧ 0 ≤ bar ∧ bar ≤ 6) := by
  unfold stateB at h
  split at h
  · left; exact ⟨by assumption, by simpa using h⟩
  · rename_i hk
    simp only [Bool.and_eq_true] at h
    have h1 := inB_true h.1; have h2 := inB_true h.2; omega
theorem bar_cases {bar : Int} (h0 : 0 ≤ bar) (h1 : bar ≤ 6) : bar = 0 ∨ bar = 1 ∨ bar = 2 ∨ bar = 3 ∨ bar = 4 ∨ bar = 5 ∨ bar = 6 := by omega
theorem stDL_bd {bar kind : Int} (h : stateB bar kind = true) : 0 ≤ stD bar kind ∧ stD bar kind ≤ 127 ∧ 0 ≤ stL bar kind ∧ stL bar kind ≤ 127 := by
  rcases stateB_cases h with ⟨rfl, rfl⟩ | ⟨rfl, h0, h1⟩ | ⟨rfl, h0, h1⟩
  · decide
  · rcases bar_cases h0 h1 with rfl | rfl | rfl | rfl | rfl | rfl | rfl <;> decide
  · rcases bar_cases h0 h1 with rfl | rfl | rfl | rfl | rfl | rfl | rfl <;> decide
/-- a digit at which a state shows -/
def finds (bar kind d : Int) : Bool := shC (stD bar kind) (stL bar kind) (dg d) != dg d
/-- a test -/
def testB (xs : List Int) : Bool := decide (xs.length ≤ 10) && xs.all digitB
end Go.Proofs.Ytlipkplomndjcaa
