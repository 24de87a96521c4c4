/- Texts of this claim, gathered: Tk, Lib, Pure, Pairs, Open, Box, Base, All, AllFault, RowsOf, Help, ToFaults. -/
import Derived.Deep.RegionHeld3
import Derived.ProofKit
import Derived.WalkKit
import Derived.WalkSpells
import Derived.WalkLawsBesides
import Derived.Deep.QuietTactic
import Derived.BigQuiet
import Derived.Lib.Hide
import Derived.Maps.AppendAt
import Derived.Test.YtohgjfdbnkjefaaGreatDoorProg
import Derived.OpenShut
import Derived.ShutString
import Derived.ChangeOld
import Derived.Below
import Derived.Lib.SmallJoins
import Derived.Deep.Slices
import Derived.Deep.Fields
import Derived.ChangeSame
namespace Go.Proofs.YtohgjfdbnkjefaaGreatDoor
open Go.RowKit
theorem xqA {α : Type} {l : List α} {i : Nat} {a : α} : l.toArray.setIfInBounds i a = (l.set i a).toArray := List.setIfInBounds_toArray ..
theorem xqB {α : Type} {a b : α} {l : List α} : (a :: l).set 0 b = b :: l := rfl
theorem xqC {α : Type} {a b : α} {l : List α} {n : Nat} : (a :: l).set (n + 1) b = a :: l.set n b := rfl
theorem xeA {α : Type} {l : List α} {i : Nat} : l.toArray[i]? = l[i]? := List.getElem?_toArray ..
theorem xeB {α : Type} {a : α} {l : List α} : (a :: l)[0]? = some a := rfl
theorem xeC {α : Type} {a : α} {l : List α} {i : Nat} : (a :: l)[i + 1]? = l[i]? := rfl
section
variable {P : Program} {ops : Array Oper} {Q : Exit → Act → World → Prop} {md : Region.Mode} {S : World → Prop}
theorem tkX (i : Nat) {oi : Oper} {v : Value} {fuel : Nat} {listed : Array Bool} {a : Act} {w : World} (hS : S w) (hy : YieldsIf P ops S oi v a)
    (h : wpAnyH P md ops Q S fuel (listed.setIfInBounds i true) (a.put oi.dst v) w) (hi : ops[i]? = some oi := by (simp only [xeA, xeB, xeC]; exact rfl))
    (hs : Region.noSelect ops = true := by kernel_rfl) (hf : Region.free md ops listed i = true := by kernel_rfl) (hr : (Region.ready md ops listed).contains i = true := by kernel_rfl)
    (hQ : ∀ c a w, Q (.panic c) (a.put oi.dst v) w → Q (.panic c) a w := by exact fun _ _ _ h => h) : wpAnyH P md ops Q S (fuel + 1) listed a w :=
  wpAnyH_take hi hs hf hr hQ hy hS h
theorem tkY (i : Nat) {oi : Oper} {v : Value} {fuel : Nat} {listed : Array Bool} {a : Act} {w : World} (hS : S w)
    (h : wpAnyH P md ops Q S fuel (listed.setIfInBounds i true) (a.put oi.dst v) w) (hi : ops[i]? = some oi := by (simp only [xeA, xeB, xeC]; exact rfl))
    (hs : Region.noSelect ops = true := by kernel_rfl) (hf : Region.free md ops listed i = true := by kernel_rfl) (hr : (Region.ready md ops listed).contains i = true := by kernel_rfl)
    (hQ : ∀ c a w, Q (.panic c) (a.put oi.dst v) w → Q (.panic c) a w := by exact fun _ _ _ h => h)
    (hy : YieldsIf P ops S oi v a := by exact Or.inl ⟨by rfl, by (intro w hSw; (try dsimp only at hSw); go_simp; first | done | with_reducible rfl)⟩) : wpAnyH P md ops Q S (fuel + 1) listed a w :=
  wpAnyH_take hi hs hf hr hQ hy hS h
end
end Go.Proofs.YtohgjfdbnkjefaaGreatDoor
namespace Go.Proofs.YtohgjfdbnkjefaaGreatDoor
end Go.Proofs.YtohgjfdbnkjefaaGreatDoor
namespace Go.Proofs.YtohgjfdbnkjefaaGreatDoor
open Go.RowKit

def Sl (w : World) (size : Nat) (v : Value) (n : Nat) (xs : List Value) : Prop :=
 ∃ a c, v = .slice a n c ∧ n ≤ c ∧ c ≤ maxLen ∧ xs.length = n * size ∧
  (0 < n → ∃ b off, a = some ⟨b, off, none⟩ ∧ ∀ j, j < n * size → w.cell? ⟨b, off + j, none⟩ = xs[j]?)


theorem Below.gr {w w' : World} (h : Below w.heap.size w w') : w.grownBy w' none :=
 ⟨h.os, h.tape, h.output, h.size, fun k hk _ => h.block k hk⟩
theorem below_drewN {w w' : World} {n : Nat} {B : Nat} (h : Below B w w') : Below B w (w'.drewN n) := ⟨h.os, h.tape, h.output, h.size, h.block⟩

section
variable {w w' : World} {size n : Nat} {v : Value} {xs : List Value}

theorem Sl.slice (h : Sl w size v n xs) : ∃ a c, v = .slice a n c ∧ n ≤ maxLen := by
 obtain ⟨a, c, rfl, h1, h2, _⟩ := h
 exact ⟨a, c, rfl, by omega⟩
theorem Sl.nil_ (w : World) (size : Nat) : Sl w size (.slice none 0 0) 0 [] := ⟨none, 0, rfl, Nat.le_refl _, by simp [maxLen], by simp, fun h => absurd h (by omega)⟩
theorem Sl.keep (h : Sl w size v n xs) (hk : ∀ b o, b < w.heap.size → w'.cell? ⟨b, o, none⟩ = w.cell? ⟨b, o, none⟩) : Sl w' size v n xs := by
 obtain ⟨a, c, rfl, h1, h2, h3, h4⟩ := h
 refine ⟨a, c, rfl, h1, h2, h3, fun hn => ?_⟩
 obtain ⟨b, off, e, hc⟩ := h4 hn
 refine ⟨b, off, e, fun j hj => ?_⟩
 rw [hk _ _ ?_, hc j hj]
 have h0 := hc j hj
 rw [List.getElem?_eq_getElem (by omega)] at h0
 exact World.block_lt_of_cell? w _ h0
theorem Sl.below (h : Sl w size v n xs) (hb : Below w.heap.size w w') : Sl w' size v n xs :=
 h.keep (fun _ _ hlt => hb.cell (p := ⟨_, _, none⟩) hlt)
theorem Sl.drew (h : Sl w size v n xs) : Sl w.drew size v n xs := h
theorem Sl.drewN (h : Sl w size v n xs) (k : Nat) : Sl (w.drewN k) size v n xs := h
theorem Sl.alloc (h : Sl w size v n xs) (o : Obj) : Sl (w.alloc o) size v n xs :=
 h.below ((Below.refl _ _).alloc (Nat.le_refl _) o)
theorem Sl.grown (h : Sl w size v n xs) {r : Option Nat} (hg : w.grownBy w' r) (hne : v.ownBlock = none ∨ v.ownBlock ≠ r) : Sl w' size v n xs := by
 obtain ⟨a, c, rfl, h1, h2, h3, h4⟩ := h
 refine ⟨a, c, rfl, h1, h2, h3, fun hn => ?_⟩
 obtain ⟨b, off, e, hc⟩ := h4 hn
 refine ⟨b, off, e, fun j hj => ?_⟩
 have h0 := hc j hj
 rw [List.getElem?_eq_getElem (by omega)] at h0
 have hlt : b < w.heap.size := World.block_lt_of_cell? w _ h0
 have hbk : w'.heap[b]? = w.heap[b]? := hg.block b hlt (by subst e; simpa [Value.ownBlock] using hne)
 exact (World.cell?_of_block (w := w) (a := ⟨b, off + j, none⟩) hbk).trans (hc j hj)
theorem Sl.of_own {lo : Nat} {e : TypeId} (h : w.ownsRow lo e size v n xs) : Sl w size v n xs := by
 obtain ⟨h1, h2⟩ := h
 rcases h2 with ⟨rfl, rfl⟩ | ⟨g, cap, cur, rfl, hb, hg, hn, hc, hs, ht⟩
 · have : xs = [] := List.eq_nil_of_length_eq_zero (by simpa using h1)
   subst this
   exact Sl.nil_ w size
 · refine ⟨_, _, rfl, hn, hc, h1, fun _ => ⟨g, 0, rfl, fun j hj => ?_⟩⟩
   rw [Nat.zero_add, cell_of_row w g j cur e (0, 0) hg, ← ht, List.getElem?_take, if_pos hj]
   simp
theorem Sl.len (h : Sl w size v n xs) : xs.length = n * size := by obtain ⟨a, c, rfl, h1, h2, h3, _⟩ := h; exact h3
theorem Sl.le (h : Sl w size v n xs) : n ≤ 9223372036854775807 := by
 obtain ⟨a, c, rfl, h1, h2, h3, _⟩ := h; unfold maxLen at h2; omega
end

def Ints (w : World) (v : Value) (xs : List Int) : Prop := Sl w 1 v xs.length (xs.map (Value.int .i64))
theorem Ints.below {w w' : World} {v : Value} {xs : List Int} (h : Ints w v xs) (hb : Below w.heap.size w w') : Ints w' v xs := Sl.below h hb
theorem Ints.le {w : World} {v : Value} {xs : List Int} (h : Ints w v xs) : xs.length ≤ 9223372036854775807 := Sl.le h
theorem Ints.grown {w w' : World} {v : Value} {xs : List Int} (h : Ints w v xs) {r : Option Nat} (hg : w.grownBy w' r) (hne : v.ownBlock = none ∨ v.ownBlock ≠ r) : Ints w' v xs := Sl.grown h hg hne
theorem Ints.of_own {w : World} {lo : Nat} {e : TypeId} {v : Value} {xs : List Int} (h : w.ownsRow lo e 1 v xs.length (xs.map (Value.int .i64))) : Ints w v xs := Sl.of_own h
theorem Ints.parts {w : World} {v : Value} {xs : List Int} (h : Ints w v xs) : ∃ a c, v = .slice a xs.length c ∧ xs.length ≤ c ∧ c ≤ 9223372036854775807 ∧
 Hid (∀ k x, xs[k]? = some x → ∃ b off, a = some ⟨b, off, none⟩ ∧ w.cell? ⟨b, off + k, none⟩ = some (.int .i64 x)) := by
 obtain ⟨a, c, rfl, h1, h2, h3, h4⟩ := h
 refine ⟨a, c, rfl, h1, by unfold maxLen at h2; omega, fun k x hk => ?_⟩
 have hlt : k < xs.length := (List.getElem?_eq_some_iff.1 hk).1
 obtain ⟨b, off, rfl, hc⟩ := h4 (by omega)
 refine ⟨b, off, rfl, ?_⟩
 rw [hc k (by omega), List.getElem?_map, hk]; rfl

theorem elem_at {α : Type} {xs : List α} {k : Nat} (h : k < xs.length) : ∃ x, Hid (xs[k]? = some x) := ⟨xs[k], List.getElem?_eq_getElem h⟩

theorem bool_ret {b b' : Bool} (h : b = b') : Ending.returned (.bool b) = .returned (.bool b') := by rw [h]
theorem int_ret {k : IntKind} {a b : Int} (h : a = b) : Ending.returned (.int k a) = .returned (.int k b) := by rw [h]
theorem int_val {k : IntKind} {a b : Int} (h : a = b) : Value.int k a = .int k b := by rw [h]

theorem take_snoc {α : Type} {xs : List α} {k : Nat} {x : α} (h : xs[k]? = some x) : xs.take (k + 1) = xs.take k ++ [x] := by
 rw [List.take_succ_eq_append_getElem (List.getElem?_eq_some_iff.1 h).1]
 simp [(List.getElem?_eq_some_iff.1 h).2]
theorem set_mid {α : Type} (l1 l2 : List α) (x y : α) {k : Nat} (hk : k = l1.length) : (l1 ++ x :: l2).set k y = l1 ++ y :: l2 := by
 subst hk; simp
theorem below_one {w : World} (o : Obj) : Below w.heap.size w (w.alloc o) := (Below.refl _ _).alloc (Nat.le_refl _) o
theorem own_form {w : World} {lo : Nat} {e : TypeId} {size : Nat} {v : Value} {n : Nat} {xs : List Value} (h : w.ownsRow lo e size v n xs) (hn : 0 < n) :
 ∃ g cap, v = .slice (some ⟨g, 0, none⟩) n cap ∧ lo ≤ g ∧ g < w.heap.size ∧ n ≤ cap ∧ cap ≤ maxLen := by
 rcases h.2 with ⟨rfl, h0⟩ | ⟨g, cap, cur, rfl, hb, hg, h1, h2, _⟩
 · omega
 · exact ⟨g, cap, rfl, hb, (Array.getElem?_eq_some_iff.1 hg).1, h1, h2⟩
theorem Below.chain {w a b : World} (h : Below w.heap.size w a) (k : Below a.heap.size a b) : Below w.heap.size w b := h.trans (k.mono h.size)
theorem Below.alc {w a : World} (h : Below w.heap.size w a) (o : Obj) : Below w.heap.size w (a.alloc o) := h.alloc h.size o
theorem bcell {w w1 : World} (hb : Below w.heap.size w w1) : (∀ b o, b < w.heap.size → w1.cell? ⟨b, o, none⟩ = w.cell? ⟨b, o, none⟩) ∧ (∀ b o, b < w.heap.size → w1.frozen? ⟨b, o, none⟩ = w.frozen? ⟨b, o, none⟩) :=
 ⟨fun b o h => hb.cell (p := ⟨b, o, none⟩) h, fun b o h => hb.frozen (p := ⟨b, o, none⟩) h⟩
end Go.Proofs.YtohgjfdbnkjefaaGreatDoor
namespace Go.Proofs.YtohgjfdbnkjefaaGreatDoor
open Go.RowKit
/-! ints as bits -/
theorem wrap_i64_small (n : Nat) (h : n < 9223372036854775808) : IntKind.i64.wrap (n : Int) = n := by
 simp only [IntKind.wrap, IntKind.bits, IntKind.signed]
 simp; omega
theorem ofInt_i64 (a : Nat) (ha : a < 9223372036854775808) : (BitVec.ofInt 64 (a : Int)).toNat = a := by
 rw [BitVec.toNat_ofInt]; omega
theorem i64_and_nat (a b : Nat) (ha : a < 9223372036854775808) (hb : b < 9223372036854775808) : bits .and .i64 (a : Int) (b : Int) = ((a &&& b : Nat) : Int) := by
 have hx : a &&& b < 2 ^ 63 := Nat.and_lt_two_pow _ (by omega)
 show IntKind.i64.wrap ((BitVec.ofInt 64 (a : Int) &&& BitVec.ofInt 64 (b : Int)).toNat : Int) = _
 rw [BitVec.toNat_and, ofInt_i64 a ha, ofInt_i64 b hb, wrap_i64_small _ (by omega)]
theorem i64_or_nat (a b : Nat) (ha : a < 9223372036854775808) (hb : b < 9223372036854775808) : bits .or .i64 (a : Int) (b : Int) = ((a ||| b : Nat) : Int) := by
 have hx : a ||| b < 2 ^ 63 := Nat.or_lt_two_pow (by omega) (by omega)
 show IntKind.i64.wrap ((BitVec.ofInt 64 (a : Int) ||| BitVec.ofInt 64 (b : Int)).toNat : Int) = _
 rw [BitVec.toNat_or, ofInt_i64 a ha, ofInt_i64 b hb, wrap_i64_small _ (by omega)]
theorem i64_xor_nat (a b : Nat) (ha : a < 9223372036854775808) (hb : b < 9223372036854775808) : bits .xor .i64 (a : Int) (b : Int) = ((a ^^^ b : Nat) : Int) := by
 have hx : a ^^^ b < 2 ^ 63 := Nat.xor_lt_two_pow (by omega) (by omega)
 show IntKind.i64.wrap ((BitVec.ofInt 64 (a : Int) ^^^ BitVec.ofInt 64 (b : Int)).toNat : Int) = _
 rw [BitVec.toNat_xor, ofInt_i64 a ha, ofInt_i64 b hb, wrap_i64_small _ (by omega)]
theorem i64_andNot_nat (a b : Nat) (ha : a < 128) (hb : b < 128) : bits .andNot .i64 (a : Int) (b : Int) = ((a &&& (127 - b) : Nat) : Int) := by
 show IntKind.i64.wrap ((BitVec.ofInt 64 (a : Int) &&& ~~~BitVec.ofInt 64 (b : Int)).toNat : Int) = _
 rw [BitVec.toNat_and, BitVec.toNat_not, ofInt_i64 a (by omega), ofInt_i64 b (by omega)]
 have e : a &&& (2 ^ 64 - 1 - b) = a &&& (127 - b) := by
  apply Nat.eq_of_testBit_eq; intro i
  have h1 : 2 ^ 64 - 1 - b = 2 ^ 64 - (b + 1) := by omega
  have h2 : 127 - b = 2 ^ 7 - (b + 1) := by omega
  rw [Nat.testBit_and, Nat.testBit_and, h1, h2, Nat.testBit_two_pow_sub_succ (by omega), Nat.testBit_two_pow_sub_succ (by omega)]
  by_cases hi : i < 7
  · have : i < 64 := by omega
    simp [hi, this]
  · have ha' : a.testBit i = false := Nat.testBit_lt_two_pow (Nat.lt_of_lt_of_le ha (by have := Nat.pow_le_pow_right (n := 2) (by omega) (show 7 ≤ i by omega); omega))
    simp [ha']
 have hx : a &&& (127 - b) < 2 ^ 7 := Nat.and_lt_two_pow _ (by omega)
 rw [e, wrap_i64_small _ (by omega)]
/-! cells and digits -/
def inB (n lo hi : Int) : Bool := decide (lo ≤ n) && decide (n ≤ hi)
theorem inB_true {n lo hi : Int} (h : inB n lo hi = true) : lo ≤ n ∧ n ≤ hi := by simpa [inB] using h
theorem inB_mk {n lo hi : Int} (h0 : lo ≤ n) (h1 : n ≤ hi) : inB n lo hi = true := by simp [inB, h0, h1]
def cellB (c : Int) : Bool := inB c 0 127
def digitB (d : Int) : Bool := inB d 0 9
theorem cellB_true {c : Int} (h : cellB c = true) : 0 ≤ c ∧ c ≤ 127 := inB_true h
theorem digitB_true {c : Int} (h : digitB c = true) : 0 ≤ c ∧ c ≤ 9 := inB_true h
def dig : List Int := [63, 6, 91, 79, 102, 109, 125, 7, 127, 111]
def dg (d : Int) : Int := dig.getD d.toNat 0
theorem dg_bd (d : Int) : 0 ≤ dg d ∧ dg d ≤ 127 := by
 unfold dg
 by_cases h : d.toNat < 10
 · have : ∀ n : Fin 10, 0 ≤ dig.getD n.1 0 ∧ dig.getD n.1 0 ≤ 127 := by decide
   exact this ⟨d.toNat, h⟩
 · rw [List.getD_eq_getElem?_getD, List.getElem?_eq_none (by simp [dig]; omega)]; simp
def shC (d l c : Int) : Int := ((((c.toNat &&& (127 - d.toNat)) ||| l.toNat : Nat)) : Int)
theorem shC_bd {d l c : Int} (_c0 : 0 ≤ c) (_c1 : c ≤ 127) (_l0 : 0 ≤ l) (_l1 : l ≤ 127) : 0 ≤ shC d l c ∧ shC d l c ≤ 127 := by
 unfold shC
 have h1 : c.toNat &&& (127 - d.toNat) < 2 ^ 7 := Nat.and_lt_two_pow _ (by omega)
 have h2 : (c.toNat &&& (127 - d.toNat)) ||| l.toNat < 2 ^ 7 := Nat.or_lt_two_pow h1 (by omega)
 omega
theorem shC_impl {d l c : Int} (d0 : 0 ≤ d) (d1 : d ≤ 127) (l0 : 0 ≤ l) (l1 : l ≤ 127) (c0 : 0 ≤ c) (c1 : c ≤ 127) :
 bits .or .i64 (bits .andNot .i64 c d) l = shC d l c := by
 obtain ⟨d, rfl⟩ := Int.eq_ofNat_of_zero_le d0
 obtain ⟨l, rfl⟩ := Int.eq_ofNat_of_zero_le l0
 obtain ⟨c, rfl⟩ := Int.eq_ofNat_of_zero_le c0
 have h1 : c &&& (127 - d) < 2 ^ 7 := Nat.and_lt_two_pow _ (by omega)
 rw [i64_andNot_nat c d (by omega) (by omega), i64_or_nat _ _ (by omega) (by omega)]; rfl
theorem and_sub_all : ∀ c d : Fin 128, c.1 - (c.1 &&& d.1) = c.1 &&& (127 - d.1) := by decide +kernel
theorem and_sub (c d : Nat) (hc : c < 128) (hd : d < 128) : c - (c &&& d) = c &&& (127 - d) := and_sub_all ⟨c, hc⟩ ⟨d, hd⟩
theorem shC_spec {d l c : Int} (d0 : 0 ≤ d) (d1 : d ≤ 127) (l0 : 0 ≤ l) (l1 : l ≤ 127) (c0 : 0 ≤ c) (c1 : c ≤ 127) :
 bits .or .i64 (wrap64 (c - bits .and .i64 c d)) l = shC d l c := by
 obtain ⟨d, rfl⟩ := Int.eq_ofNat_of_zero_le d0
 obtain ⟨l, rfl⟩ := Int.eq_ofNat_of_zero_le l0
 obtain ⟨c, rfl⟩ := Int.eq_ofNat_of_zero_le c0
 have h1 : c &&& (127 - d) < 2 ^ 7 := Nat.and_lt_two_pow _ (by omega)
 have h2 : c &&& d ≤ c := Nat.and_le_left
 have h3 := and_sub c d (by omega) (by omega)
 rw [i64_and_nat c d (by omega) (by omega), show ((c : Int) - ((c &&& d : Nat) : Int)) = ((c &&& (127 - d) : Nat) : Int) by omega]
 rw [show wrap64 ((c &&& (127 - d) : Nat) : Int) = ((c &&& (127 - d) : Nat) : Int) by simp [wrap64]; omega, i64_or_nat _ _ (by omega) (by omega)]; rfl
def andC (d l : Int) : Int := ((d.toNat &&& l.toNat : Nat) : Int)
theorem andC_i64 {d l : Int} (d0 : 0 ≤ d) (d1 : d ≤ 127) (l0 : 0 ≤ l) (l1 : l ≤ 127) : bits .and .i64 d l = andC d l := by
 obtain ⟨d, rfl⟩ := Int.eq_ofNat_of_zero_le d0
 obtain ⟨l, rfl⟩ := Int.eq_ofNat_of_zero_le l0
 exact i64_and_nat d l (by omega) (by omega)
def faultB (d l : Int) : Bool := cellB d && (cellB l && (andC d l == 0))
theorem faultB_true {d l : Int} (h : faultB d l = true) : 0 ≤ d ∧ d ≤ 127 ∧ 0 ≤ l ∧ l ≤ 127 ∧ andC d l = 0 := by
 simp [faultB] at h
 have h1 := cellB_true h.1; have h2 := cellB_true h.2.1
 exact ⟨h1.1, h1.2, h2.1, h2.2, h.2.2⟩
/-! states -/
def stateB (bar kind : Int) : Bool := if kind = 0 then (bar == 0) else (inB kind 1 2 && inB bar 0 6)
def stD (bar kind : Int) : Int := if kind = 1 then ((2 ^ bar.toNat : Nat) : Int) else 0
def stL (bar kind : Int) : Int := if kind = 2 then ((2 ^ bar.toNat : Nat) : Int) else 0
theorem stateB_cases {bar kind : Int} (h : stateB bar kind = true) : (kind = 0 ∧ bar = 0) ∨ (kind = 1 ∧ 0 ≤ bar ∧ bar ≤ 6) ∨ (kind = 2 ∧ 0 ≤ bar ∧ bar ≤ 6) := by
 unfold stateB at h
 split at h
 · left; exact ⟨by assumption, by simpa using h⟩
 · rename_i hk
   simp only [Bool.and_eq_true] at h
   have h1 := inB_true h.1; have h2 := inB_true h.2; omega
theorem bar_cases {bar : Int} (h0 : 0 ≤ bar) (h1 : bar ≤ 6) : bar = 0 ∨ bar = 1 ∨ bar = 2 ∨ bar = 3 ∨ bar = 4 ∨ bar = 5 ∨ bar = 6 := by omega
theorem stDL_bd {bar kind : Int} (h : stateB bar kind = true) : 0 ≤ stD bar kind ∧ stD bar kind ≤ 127 ∧ 0 ≤ stL bar kind ∧ stL bar kind ≤ 127 := by
 rcases stateB_cases h with ⟨rfl, rfl⟩ | ⟨rfl, h0, h1⟩ | ⟨rfl, h0, h1⟩
 · decide
 · rcases bar_cases h0 h1 with rfl | rfl | rfl | rfl | rfl | rfl | rfl <;> decide
 · rcases bar_cases h0 h1 with rfl | rfl | rfl | rfl | rfl | rfl | rfl <;> decide
def finds (bar kind d : Int) : Bool := shC (stD bar kind) (stL bar kind) (dg d) != dg d
def testB (xs : List Int) : Bool := decide (xs.length ≤ 10) && xs.all digitB
set_option linter.unusedVariables false
def flat2 (ps : List (Int × Int)) : List Value := ps.flatMap fun p => [.int .i64 p.1, .int .i64 p.2]
theorem flat2_nil : flat2 [] = [] := rfl
theorem flat2_snoc (ps : List (Int × Int)) (a b : Int) : flat2 (ps ++ [(a, b)]) = flat2 ps ++ [.int .i64 a, .int .i64 b] := by simp [flat2]
theorem flat2_at {ps : List (Int × Int)} {k : Nat} {p : Int × Int} (h : ps[k]? = some p) : (flat2 ps)[k * 2]? = some (.int .i64 p.1) ∧ (flat2 ps)[k * 2 + 1]? = some (.int .i64 p.2) := by
 induction ps generalizing k with
 | nil => simp at h
 | cons q ps ih =>
  cases k with
  | zero => simp at h; subst h; simp [flat2]
  | succ k =>
   simp at h
   have := ih h
   have e1 : (k + 1) * 2 = k * 2 + 2 := by omega
   constructor
   · rw [e1]; simpa [flat2] using this.1
   · rw [show (k + 1) * 2 + 1 = k * 2 + 1 + 2 by omega]; simpa [flat2] using this.2
def Pairs (w : World) (v : Value) (ps : List (Int × Int)) : Prop := Sl w 2 v ps.length (flat2 ps)
theorem Pairs.below {w w' : World} {v : Value} {ps : List (Int × Int)} (h : Pairs w v ps) (hb : Below w.heap.size w w') : Pairs w' v ps := Sl.below h hb
theorem Pairs.le {w : World} {v : Value} {ps : List (Int × Int)} (h : Pairs w v ps) : ps.length ≤ 9223372036854775807 := Sl.le h
theorem Pairs.grown {w w' : World} {v : Value} {ps : List (Int × Int)} (h : Pairs w v ps) {r : Option Nat} (hg : w.grownBy w' r) (hne : v.ownBlock = none ∨ v.ownBlock ≠ r) : Pairs w' v ps := Sl.grown h hg hne
theorem Pairs.of_own {w : World} {lo : Nat} {e : TypeId} {v : Value} {ps : List (Int × Int)} (h : w.ownsRow lo e 2 v ps.length (flat2 ps)) : Pairs w v ps := Sl.of_own h
theorem Pairs.parts {w : World} {v : Value} {ps : List (Int × Int)} (h : Pairs w v ps) : ∃ a c, v = .slice a ps.length c ∧ ps.length ≤ c ∧ c ≤ 9223372036854775807 ∧
 Hid (∀ k p, ps[k]? = some p → ∃ b off, a = some ⟨b, off, none⟩ ∧ w.cell? ⟨b, off + k * 2, none⟩ = some (.int .i64 p.1) ∧ w.cell? ⟨b, off + k * 2 + 1, none⟩ = some (.int .i64 p.2)) := by
 obtain ⟨a, c, rfl, h1, h2, h3, h4⟩ := h
 refine ⟨a, c, rfl, h1, by unfold maxLen at h2; omega, fun k p hk => ?_⟩
 have hlt : k < ps.length := (List.getElem?_eq_some_iff.1 hk).1
 obtain ⟨b, off, rfl, hc⟩ := h4 (by omega)
 have := flat2_at hk
 refine ⟨b, off, rfl, ?_, ?_⟩
 · rw [hc _ (by omega)]; exact this.1
 · rw [Nat.add_assoc, hc _ (by omega)]; exact this.2
theorem news_new (w : World) (cs : List Value) (e : TypeId) : ∀ j u, cs[j]? = some u → (w.alloc (.cells cs.toArray e)).cell? ((⟨w.heap.size, 0, none⟩ : Addr).add j) = some u := by
 intro j u hu
 rw [Addr.add_lit, Nat.zero_add, World.cell?_alloc_at _ _ _ _ rfl]
 simpa using hu
theorem ownsRow_cast {w : World} {lo : Nat} {e : TypeId} {size n m : Nat} {v : Value} {xs ys : List Value} (h : w.ownsRow lo e size v n xs) (hn : n = m) (hx : xs = ys) : w.ownsRow lo e size v m ys := by subst hn hx; exact h
theorem own_lo {w : World} {lo lo' : Nat} {e : TypeId} {size n : Nat} {v : Value} {xs : List Value} (h : w.ownsRow lo e size v n xs) (hl : lo' ≤ lo) : w.ownsRow lo' e size v n xs := by
 refine ⟨h.1, ?_⟩
 rcases h.2 with h | ⟨g, c, cur, h1, h2, h3⟩
 · exact .inl h
 · exact .inr ⟨g, c, cur, h1, by omega, h3⟩
theorem own_keep {w w' : World} {lo : Nat} {e : TypeId} {size n : Nat} {v : Value} {xs : List Value} (h : w.ownsRow lo e size v n xs) (hb : Below w.heap.size w w') : w'.ownsRow lo e size v n xs :=
 h.kept (Below.gr hb) (by cases v.ownBlock <;> simp)
/-! the grid of all pairs of a bar and a kind, and the states among them -/
def grid : List (Int × Int) := [(0,0),(1,0),(2,0),(3,0),(4,0),(5,0),(6,0),(0,1),(1,1),(2,1),(3,1),(4,1),(5,1),(6,1),(0,2),(1,2),(2,2),(3,2),(4,2),(5,2),(6,2)]
def stB (s : Int × Int) : Bool := stateB s.1 s.2
def allSt : List (Int × Int) := (0, 0) :: grid.drop 7
theorem allSt_grid : grid.filter stB = allSt := by decide
theorem grid_at_fin : ∀ (k : Fin 3) (b : Fin 7), grid[7 * k.1 + b.1]? = some ((b.1 : Int), (k.1 : Int)) := by decide
theorem grid_at {k b : Nat} (hk : k < 3) (hb : b < 7) : grid[7 * k + b]? = some ((b : Int), (k : Int)) := grid_at_fin ⟨k, hk⟩ ⟨b, hb⟩
def gridTo (q : Int × Int → Bool) (m : Nat) : List (Int × Int) := (grid.take m).filter fun s => stB s && q s
theorem gridTo_succ (q : Int × Int → Bool) {m : Nat} {s : Int × Int} (h : grid[m]? = some s) : gridTo q (m + 1) = gridTo q m ++ if stB s && q s then [s] else [] := by
 unfold gridTo
 rw [take_snoc h, List.filter_append]
 cases hs : (stB s && q s) <;> simp [hs]
theorem gridTo_le (q : Int × Int → Bool) (m : Nat) : (gridTo q m).length ≤ 21 := by
 unfold gridTo
 have h1 := List.length_filter_le (fun s => stB s && q s) (grid.take m)
 have h2 : (grid.take m).length ≤ 21 := by rw [List.length_take]; simp [grid]; omega
 omega
theorem gridTo_all (q : Int × Int → Bool) : gridTo q 21 = allSt.filter q := by
 unfold gridTo
 rw [← allSt_grid, List.filter_filter, List.take_of_length_le (by simp [grid])]
 congr 1; funext s; cases stB s <;> cases q s <;> rfl
end Go.Proofs.YtohgjfdbnkjefaaGreatDoor
namespace Go.Proofs.YtohgjfdbnkjefaaGreatDoor
open Go.ChangeShapes Go.WideShapes Go.ChangeAt Go.RowKit Go.Joins Go.Deep
set_option linter.unusedVariables false
set_option maxRecDepth 100000

theorem own : ownKnob Tryz.prog.godebug = none := by kernel_rfl
theorem laidOut : laidOutB Tryz.prog = true := by kernel_rfl

section
variable {H : Type} {enc : TypeId × Value → H} {w : World} {base : Nat} {spare : Nat → Bool} {held : Bool}
end
end Go.Proofs.YtohgjfdbnkjefaaGreatDoor
namespace Go.Proofs.YtohgjfdbnkjefaaGreatDoor
open Go.RowKit
set_option linter.unusedVariables false
theorem box_after {w w1 : World} {cs : Array Value} {t : TypeId} (hb : Below (w.alloc (.cells cs t)).heap.size (w.alloc (.cells cs t)) w1) :
 (∀ j v, cs[j]? = some v → w1.cell? ⟨w.heap.size, j, none⟩ = some v) ∧ ∀ j, w1.frozen? ⟨w.heap.size, j, none⟩ = false := by
 refine ⟨fun j v h => ?_, fun j => ?_⟩
 · rw [hb.cell (p := ⟨w.heap.size, j, none⟩) (by simp), World.cell?_alloc_at _ _ _ _ rfl]; exact h
 · rw [hb.frozen (p := ⟨w.heap.size, j, none⟩) (by simp), World.frozen?_alloc_new]
theorem two_set {w w2 : World} {b : Nat} {x y : Value} (X Y : Value) (h0 : w2.cell? ⟨b, 0, none⟩ = some x) (h1 : w2.cell? ⟨b, 1, none⟩ = some y) (hb : Below w.heap.size w w2) (hbb : w.heap.size ≤ b) :
 ((w2.setCell ⟨b, 0, none⟩ X).setCell ⟨b, 1, none⟩ Y).cell? ⟨b, 0, none⟩ = some X ∧ ((w2.setCell ⟨b, 0, none⟩ X).setCell ⟨b, 1, none⟩ Y).cell? ⟨b, 1, none⟩ = some Y ∧ Below w.heap.size w ((w2.setCell ⟨b, 0, none⟩ X).setCell ⟨b, 1, none⟩ Y) := by
 refine ⟨?_, ?_, (hb.setCell hbb _).setCell hbb _⟩
 · rw [World.cell?_setCell_other _ _ _ _ (by simp)]; exact World.cell?_setCell_same _ _ _ h0
 · exact World.cell?_setCell_same _ _ _ (u := y) (by rw [World.cell?_setCell_other _ _ _ _ (by simp)]; exact h1)
theorem within_c (n lo hi : Int) (w : World) : Calls Tryz.prog 94 #[.int .i64 n, .int .i64 lo, .int .i64 hi] w fun e w' => e = .returned (.bool (inB n lo hi)) ∧ w = w' := by
 go_enter Tryz.func94, Tryz.ntmps94
 go_wp2
 all_goals (go_ret; exact ⟨bool_ret (by simp [inB, *]; try omega), rfl⟩)
theorem l1In_c (n lo hi : Int) (w : World) : Calls Tryz.prog 98 #[.int .i64 n, .int .i64 lo, .int .i64 hi] w fun e w' => e = .returned (.bool (inB n lo hi)) ∧ w = w' := by
 go_enter Tryz.func98, Tryz.ntmps98
 go_wp2
 all_goals (go_ret; exact ⟨bool_ret (by simp [inB, *]; try omega), rfl⟩)
theorem IsCell_c (c : Int) (w : World) : Calls Tryz.prog 110 #[.int .i64 c] w fun e w' => e = .returned (.bool (cellB c)) ∧ w = w' := by
 go_enter Tryz.func110, Tryz.ntmps110
 go_wp2_with (go_at_call 94; refine (within_c _ _ _ _).mono ?_; rintro e w' ⟨rfl, rfl⟩)
 go_ret; exact ⟨rfl, rfl⟩
theorem l2Cell_c (c : Int) (w : World) : Calls Tryz.prog 95 #[.int .i64 c] w fun e w' => e = .returned (.bool (cellB c)) ∧ w = w' := by
 go_enter Tryz.func95, Tryz.ntmps95
 go_wp2_with (go_at_call 98; refine (l1In_c _ _ _ _).mono ?_; rintro e w' ⟨rfl, rfl⟩)
 go_ret; exact ⟨rfl, rfl⟩
theorem isDigit_c (c : Int) (w : World) : Calls Tryz.prog 153 #[.int .i64 c] w fun e w' => e = .returned (.bool (digitB c)) ∧ w = w' := by
 go_enter Tryz.func153, Tryz.ntmps153
 go_wp2_with (go_at_call 94; refine (within_c _ _ _ _).mono ?_; rintro e w' ⟨rfl, rfl⟩)
 go_ret; exact ⟨rfl, rfl⟩
def digA : Value := .agg #[.int .i64 63, .int .i64 6, .int .i64 91, .int .i64 79, .int .i64 102, .int .i64 109, .int .i64 125, .int .i64 7, .int .i64 127, .int .i64 111]
theorem digitCells_c (w : World) : Calls Tryz.prog 112 #[] w fun e w' => e = .returned digA ∧ Below w.heap.size w w' := by
 go_enter Tryz.func112, Tryz.ntmps112
 go_wp2
 exact bodyPost_ret (v := digA) (by simp [results, Tryz.results112, go_sem, digA]) rfl ⟨rfl, below_one _⟩
theorem index_dig0 (w : World) : (Instr.index 140 digA (.int .i64 0)).run Tryz.prog w = .ok (.int .i64 63) w := by kernel_rfl
theorem index_dig1 (w : World) : (Instr.index 140 digA (.int .i64 1)).run Tryz.prog w = .ok (.int .i64 6) w := by kernel_rfl
theorem index_dig2 (w : World) : (Instr.index 140 digA (.int .i64 2)).run Tryz.prog w = .ok (.int .i64 91) w := by kernel_rfl
theorem index_dig3 (w : World) : (Instr.index 140 digA (.int .i64 3)).run Tryz.prog w = .ok (.int .i64 79) w := by kernel_rfl
theorem index_dig4 (w : World) : (Instr.index 140 digA (.int .i64 4)).run Tryz.prog w = .ok (.int .i64 102) w := by kernel_rfl
theorem index_dig5 (w : World) : (Instr.index 140 digA (.int .i64 5)).run Tryz.prog w = .ok (.int .i64 109) w := by kernel_rfl
theorem index_dig6 (w : World) : (Instr.index 140 digA (.int .i64 6)).run Tryz.prog w = .ok (.int .i64 125) w := by kernel_rfl
theorem index_dig7 (w : World) : (Instr.index 140 digA (.int .i64 7)).run Tryz.prog w = .ok (.int .i64 7) w := by kernel_rfl
theorem index_dig8 (w : World) : (Instr.index 140 digA (.int .i64 8)).run Tryz.prog w = .ok (.int .i64 127) w := by kernel_rfl
theorem index_dig9 (w : World) : (Instr.index 140 digA (.int .i64 9)).run Tryz.prog w = .ok (.int .i64 111) w := by kernel_rfl
theorem index_dig (d : Int) (h0 : 0 ≤ d) (h1 : d ≤ 9) (w : World) : (Instr.index 140 digA (.int .i64 d)).run Tryz.prog w = .ok (.int .i64 (dg d)) w := by
 have h : d = 0 ∨ d = 1 ∨ d = 2 ∨ d = 3 ∨ d = 4 ∨ d = 5 ∨ d = 6 ∨ d = 7 ∨ d = 8 ∨ d = 9 := by omega
 rcases h with rfl | rfl | rfl | rfl | rfl | rfl | rfl | rfl | rfl | rfl
 · exact index_dig0 w
 · exact index_dig1 w
 · exact index_dig2 w
 · exact index_dig3 w
 · exact index_dig4 w
 · exact index_dig5 w
 · exact index_dig6 w
 · exact index_dig7 w
 · exact index_dig8 w
 · exact index_dig9 w
theorem l2Digit_c (d : Int) (h0 : 0 ≤ d) (h1 : d ≤ 9) (w : World) : Calls Tryz.prog 141 #[.int .i64 d] w fun e w' => e = .returned (.int .i64 (dg d)) ∧ Below w.heap.size w w' := by
 have hc : (w.alloc (.cells (dig.map (Value.int .i64)).toArray 3)).cell? ⟨w.heap.size, d.toNat, none⟩ = some (.int .i64 (dg d)) := by
  rw [World.cell?_alloc_at _ _ _ _ rfl]
  have : d.toNat < dig.length := by simp [dig]; omega
  simp [dg, this]
 simp only [dig, List.map_cons, List.map_nil] at hc
 go_enter Tryz.func141, Tryz.ntmps141
 go_wp2
 go_ret
 exact ⟨rfl, below_one _⟩
theorem shown_c (d l c : Int) (d0 : 0 ≤ d) (d1 : d ≤ 127) (l0 : 0 ≤ l) (l1 : l ≤ 127) (c0 : 0 ≤ c) (c1 : c ≤ 127) (w : World) :
 Calls Tryz.prog 108 #[.agg #[.int .i64 d, .int .i64 l], .int .i64 c] w fun e w' => e = .returned (.int .i64 (shC d l c)) ∧ Below w.heap.size w w' := by
 go_enter Tryz.func108, Tryz.ntmps108
 go_wp2
 go_ret
 exact ⟨int_ret (shC_impl d0 d1 l0 l1 c0 c1), below_one _⟩
theorem l3Shown_c (d l c : Int) (d0 : 0 ≤ d) (d1 : d ≤ 127) (l0 : 0 ≤ l) (l1 : l ≤ 127) (c0 : 0 ≤ c) (c1 : c ≤ 127) (w : World) :
 Calls Tryz.prog 219 #[.agg #[.int .i64 d, .int .i64 l], .int .i64 c] w fun e w' => e = .returned (.int .i64 (shC d l c)) ∧ Below w.heap.size w w' := by
 go_enter Tryz.func219, Tryz.ntmps219
 go_wp2
 go_ret
 exact ⟨int_ret (shC_spec d0 d1 l0 l1 c0 c1), below_one _⟩
theorem IsFault_c (d l : Int) (w : World) : Calls Tryz.prog 62 #[.agg #[.int .i64 d, .int .i64 l]] w fun e w' => e = .returned (.bool (faultB d l)) ∧ Below w.heap.size w w' := by
 by_cases hd : cellB d = true
 · by_cases hl : cellB l = true
   · have hd2 := cellB_true hd; have hl2 := cellB_true hl
     have HA := Lib.hid (andC_i64 hd2.1 hd2.2 hl2.1 hl2.2)
     go_enter Tryz.func62, Tryz.ntmps62
     go_wp2_with (go_at_call 110; refine (IsCell_c _ _).mono ?_; rintro e w' ⟨rfl, rfl⟩)
     go_ret
     exact ⟨bool_ret (by rw [HA.out]; simp [faultB, hd, hl]), below_one _⟩
   · have hl : cellB l = false := by simpa using hl
     go_enter Tryz.func62, Tryz.ntmps62
     go_wp2_with (go_at_call 110; refine (IsCell_c _ _).mono ?_; rintro e w' ⟨rfl, rfl⟩)
     go_ret
     exact ⟨bool_ret (by simp [faultB, hl]), below_one _⟩
 · have hd : cellB d = false := by simpa using hd
   go_enter Tryz.func62, Tryz.ntmps62
   go_wp2_with (go_at_call 110; refine (IsCell_c _ _).mono ?_; rintro e w' ⟨rfl, rfl⟩)
   go_ret
   exact ⟨bool_ret (by simp [faultB, hd]), below_one _⟩
theorem l3Fault_c (d l : Int) (w : World) : Calls Tryz.prog 96 #[.agg #[.int .i64 d, .int .i64 l]] w fun e w' => e = .returned (.bool (faultB d l)) ∧ Below w.heap.size w w' := by
 by_cases hd : cellB d = true
 · by_cases hl : cellB l = true
   · have hd2 := cellB_true hd; have hl2 := cellB_true hl
     have HA := Lib.hid (andC_i64 hd2.1 hd2.2 hl2.1 hl2.2)
     go_enter Tryz.func96, Tryz.ntmps96
     go_wp2_with (go_at_call 95; refine (l2Cell_c _ _).mono ?_; rintro e w' ⟨rfl, rfl⟩)
     go_ret
     exact ⟨bool_ret (by rw [HA.out]; simp [faultB, hd, hl]), below_one _⟩
   · have hl : cellB l = false := by simpa using hl
     go_enter Tryz.func96, Tryz.ntmps96
     go_wp2_with (go_at_call 95; refine (l2Cell_c _ _).mono ?_; rintro e w' ⟨rfl, rfl⟩)
     go_ret
     exact ⟨bool_ret (by simp [faultB, hl]), below_one _⟩
 · have hd : cellB d = false := by simpa using hd
   go_enter Tryz.func96, Tryz.ntmps96
   go_wp2_with (go_at_call 95; refine (l2Cell_c _ _).mono ?_; rintro e w' ⟨rfl, rfl⟩)
   go_ret
   exact ⟨bool_ret (by simp [faultB, hd]), below_one _⟩
def firstAt {α : Type} (p : α → Bool) (xs : List α) : Int := match xs.findIdx? p with | some i => (i : Int) | none => -1
theorem firstAt_none {α : Type} {p : α → Bool} {xs : List α} {k : Nat} (hk : xs.length ≤ k) (h : ∀ j x, j < k → xs[j]? = some x → p x = false) : firstAt p xs = -1 := by
 have : xs.findIdx? p = none := by
  rw [List.findIdx?_eq_none_iff]; intro x hx
  obtain ⟨j, hj⟩ := List.mem_iff_getElem?.1 hx
  exact h j x (Nat.lt_of_lt_of_le (List.getElem?_eq_some_iff.1 hj).1 hk) hj
 simp [firstAt, this]
theorem firstAt_some {α : Type} {p : α → Bool} {xs : List α} {k : Nat} {x : α} (hx : xs[k]? = some x) (hp : p x = true) (h : ∀ j x, j < k → xs[j]? = some x → p x = false) : firstAt p xs = k := by
 have : xs.findIdx? p = some k := by
  rw [List.findIdx?_eq_some_iff_getElem]
  obtain ⟨hl, he⟩ := List.getElem?_eq_some_iff.1 hx
  refine ⟨hl, by rw [he]; exact hp, fun j hj => ?_⟩
  have := h j xs[j] hj (List.getElem?_eq_getElem (by omega))
  simp [this]
 simp [firstAt, this]
def CallsIt (fn : Nat) : Prop := ∀ (bs : Array Value) (w : World), (callFunc fn bs).run Tryz.prog w = .ok (.enter fn bs) w
theorem IndexFuncInt_c (v : Value) (xs : List Int) (fn : Nat) (cap : Array Value) (p : Int → Bool) (w : World) (hv : Ints w v xs) (hf : CallsIt fn)
 (hp : ∀ (x : Int) (w' : World), x ∈ xs → Below w.heap.size w w' → Calls Tryz.prog fn (#[.int .i64 x] ++ cap) w' fun e w'' => e = .returned (.bool (p x)) ∧ Below w'.heap.size w' w'') :
 Calls Tryz.prog 205 #[v, .func (.func fn) #[] cap] w fun e w' => e = .returned (.int .i64 (firstAt p xs)) ∧ Below w.heap.size w w' := by
 obtain ⟨a, c, rfl, hc1, hc2, HC⟩ := hv.parts
 have hf' : ∀ (bs : Array Value) (w : World), (callFunc fn bs).run Tryz.prog w = .ok (.enter fn bs) w := hf
 go_enter Tryz.func205, Tryz.ntmps205
 go_wp2
 go_loopw [8] (fun i wr => ∃ k : Nat, k ≤ xs.length ∧ i = .int .i64 k ∧ Hid (∀ j x, j < k → xs[j]? = some x → p x = false) ∧ Below w.heap.size w wr) (fun i _ => xs.length - (intOf i).toNat)
 case atStart => exact ⟨0, by omega, rfl, fun j x hj => by omega, Below.refl _ _⟩
 case round =>
  obtain ⟨k, hk, rfl, hbef, hb⟩ := hrel
  have hlen := hv.le
  by_cases hlt : k < xs.length
  · obtain ⟨x, hx⟩ := elem_at hlt
    obtain ⟨b, off, rfl, g0⟩ := HC.out k x hx.out
    have hblt : b < w.heap.size := World.block_lt_of_cell? w _ g0
    have g1 : wr.cell? ⟨b, off + k, none⟩ = some (.int .i64 x) := ((bcell hb).1 _ _ hblt).trans g0
    clear g0
    go_wp2_with fail
    refine (hp x _ (List.mem_of_getElem? hx.out) hb).mono ?_
    rintro e w1 ⟨rfl, hb1⟩
    have hb2 : Below w.heap.size w w1 := hb.trans (hb1.mono hb.size)
    rcases hpx : p x with _ | _
    · have HP := Lib.hid hpx; clear hpx
      go_wp2
      go_roundw
      case rel => exact ⟨k + 1, by omega, by go_num, fun j y hj hy => by
       by_cases hj2 : j < k
       · exact hbef.out j y hj2 hy
       · obtain rfl : j = k := by omega
         rw [hx.out] at hy; obtain rfl := Option.some.inj hy; exact HP.out, hb2⟩
      case measure => simp [intOf]; omega
    · have HP := Lib.hid hpx; clear hpx
      go_wp2
      go_ret
      exact ⟨int_ret (firstAt_some hx.out HP.out hbef.out).symm, hb2⟩
  · go_wp2
    go_ret
    exact ⟨int_ret (firstAt_none (by omega) hbef.out).symm, hb⟩
theorem ContainsFuncInt_c (v : Value) (xs : List Int) (fn : Nat) (cap : Array Value) (p : Int → Bool) (w : World) (hv : Ints w v xs) (hf : CallsIt fn)
 (hp : ∀ (x : Int) (w' : World), x ∈ xs → Below w.heap.size w w' → Calls Tryz.prog fn (#[.int .i64 x] ++ cap) w' fun e w'' => e = .returned (.bool (p x)) ∧ Below w'.heap.size w' w'') :
 Calls Tryz.prog 158 #[v, .func (.func fn) #[] cap] w fun e w' => e = .returned (.bool (decide (0 ≤ firstAt p xs))) ∧ Below w.heap.size w w' := by
 go_enter Tryz.func158, Tryz.ntmps158
 go_wp2_with fail
 refine (IndexFuncInt_c v xs fn cap p w hv hf hp).mono ?_
 rintro e w' ⟨rfl, hb⟩
 go_wp2
 go_ret
 exact ⟨bool_ret (by simp), hb⟩
theorem firstAt_not_all {xs : List Int} {p : Int → Bool} : (decide (0 ≤ firstAt (fun x => !p x) xs)) = !(xs.all p) := by
 unfold firstAt
 cases h : xs.findIdx? (fun x => !p x) with
 | none => rw [List.findIdx?_eq_none_iff] at h; simp; exact fun x hx => by simpa using h x hx
 | some i =>
  rw [List.findIdx?_eq_some_iff_getElem] at h; obtain ⟨hl, h1, _⟩ := h
  simp; exact ⟨xs[i], List.getElem_mem hl, by simpa using h1⟩
theorem areAllInt_c (v : Value) (xs : List Int) (fn : Nat) (p : Int → Bool) (w : World) (hv : Ints w v xs) (hf : CallsIt fn)
 (hp : ∀ (x : Int) (w' : World), Calls Tryz.prog fn #[.int .i64 x] w' fun e w'' => e = .returned (.bool (p x)) ∧ w' = w'') :
 Calls Tryz.prog 109 #[v, .func (.func fn) #[] #[]] w fun e w' => e = .returned (.bool (xs.all p)) ∧ Below w.heap.size w w' := by
 go_enter Tryz.func109, Tryz.ntmps109
 go_wp2_with fail
 refine (ContainsFuncInt_c v xs 159 #[.pointer (some ⟨w.heap.size, 0, none⟩)] (fun x => !p x) _ (hv.below (below_one _)) (fun _ _ => by kernel_rfl) ?_).mono ?_
 · intro x w' _ hb
   have hc : w'.cell? ⟨w.heap.size, 0, none⟩ = some (.func (.func fn) #[] #[]) := by
    rw [(bcell hb).1 _ _ (by simp), World.cell?_alloc_at _ _ _ _ rfl]; rfl
   have hf' : ∀ (bs : Array Value) (w : World), (callFunc fn bs).run Tryz.prog w = .ok (.enter fn bs) w := hf
   go_enter Tryz.func159, Tryz.ntmps159
   go_wp2_with fail
   refine (hp x w').mono ?_
   rintro e w'' ⟨rfl, rfl⟩
   go_wp2
   go_ret
   exact ⟨rfl, Below.refl _ _⟩
 · rintro e w' ⟨rfl, hb⟩
   go_wp2
   go_ret
   exact ⟨bool_ret (by rw [firstAt_not_all]; simp), (below_one _).trans (hb.mono (by simp))⟩
theorem firstAt_not_allP {xs : List (Int × Int)} {p : Int × Int → Bool} : (decide (0 ≤ firstAt (fun x => !p x) xs)) = !(xs.all p) := by
 unfold firstAt
 cases h : xs.findIdx? (fun x => !p x) with
 | none => rw [List.findIdx?_eq_none_iff] at h; simp; exact fun a b hx => by simpa using h (a, b) hx
 | some i =>
  rw [List.findIdx?_eq_some_iff_getElem] at h; obtain ⟨hl, h1, _⟩ := h
  simp; exact ⟨xs[i].1, xs[i].2, List.getElem_mem hl, by simpa using h1⟩
theorem IndexFuncFault_c (v : Value) (xs : List (Int × Int)) (fn : Nat) (cap : Array Value) (p : Int × Int → Bool) (w : World) (hv : Pairs w v xs) (hf : CallsIt fn)
 (hp : ∀ (x : Int × Int) (w' : World), x ∈ xs → Below w.heap.size w w' → Calls Tryz.prog fn (#[.agg #[.int .i64 x.1, .int .i64 x.2]] ++ cap) w' fun e w'' => e = .returned (.bool (p x)) ∧ Below w'.heap.size w' w'') :
 Calls Tryz.prog 190 #[v, .func (.func fn) #[] cap] w fun e w' => e = .returned (.int .i64 (firstAt p xs)) ∧ Below w.heap.size w w' := by
 obtain ⟨a, c, rfl, hc1, hc2, HC⟩ := hv.parts
 have hf' : ∀ (bs : Array Value) (w : World), (callFunc fn bs).run Tryz.prog w = .ok (.enter fn bs) w := hf
 go_enter Tryz.func190, Tryz.ntmps190
 go_wp2
 go_loopw [8] (fun i wr => ∃ k : Nat, k ≤ xs.length ∧ i = .int .i64 k ∧ Hid (∀ j x, j < k → xs[j]? = some x → p x = false) ∧ Below w.heap.size w wr) (fun i _ => xs.length - (intOf i).toNat)
 case atStart => exact ⟨0, by omega, rfl, fun j x hj => by omega, Below.refl _ _⟩
 case round =>
  obtain ⟨k, hk, rfl, hbef, hb⟩ := hrel
  have hlen := hv.le
  by_cases hlt : k < xs.length
  · obtain ⟨x, hx⟩ := elem_at hlt
    obtain ⟨b, off, rfl, g0, g0'⟩ := HC.out k x hx.out
    have g1 := cell_later hb g0
    have g1' := cell_later hb g0'
    clear g0 g0'
    go_wp2_with fail
    refine (hp x _ (List.mem_of_getElem? hx.out) hb).mono ?_
    rintro e w1 ⟨rfl, hb1⟩
    have hb2 : Below w.heap.size w w1 := hb.trans (hb1.mono hb.size)
    rcases hpx : p x with _ | _
    · have HP := Lib.hid hpx; clear hpx
      go_wp2
      go_roundw
      case rel => exact ⟨k + 1, by omega, by go_num, fun j y hj hy => by
       by_cases hj2 : j < k
       · exact hbef.out j y hj2 hy
       · obtain rfl : j = k := by omega
         rw [hx.out] at hy; obtain rfl := Option.some.inj hy; exact HP.out, hb2⟩
      case measure => simp [intOf]; omega
    · have HP := Lib.hid hpx; clear hpx
      go_wp2
      go_ret
      exact ⟨int_ret (firstAt_some hx.out HP.out hbef.out).symm, hb2⟩
  · go_wp2
    go_ret
    exact ⟨int_ret (firstAt_none (by omega) hbef.out).symm, hb⟩
theorem ContainsFuncFault_c (v : Value) (xs : List (Int × Int)) (fn : Nat) (cap : Array Value) (p : Int × Int → Bool) (w : World) (hv : Pairs w v xs) (hf : CallsIt fn)
 (hp : ∀ (x : Int × Int) (w' : World), x ∈ xs → Below w.heap.size w w' → Calls Tryz.prog fn (#[.agg #[.int .i64 x.1, .int .i64 x.2]] ++ cap) w' fun e w'' => e = .returned (.bool (p x)) ∧ Below w'.heap.size w' w'') :
 Calls Tryz.prog 143 #[v, .func (.func fn) #[] cap] w fun e w' => e = .returned (.bool (decide (0 ≤ firstAt p xs))) ∧ Below w.heap.size w w' := by
 go_enter Tryz.func143, Tryz.ntmps143
 go_wp2_with fail
 refine (IndexFuncFault_c v xs fn cap p w hv hf hp).mono ?_
 rintro e w' ⟨rfl, hb⟩
 go_wp2
 go_ret
 exact ⟨bool_ret (by simp), hb⟩
theorem areAllFault_c (v : Value) (xs : List (Int × Int)) (fn : Nat) (p : Int × Int → Bool) (w : World) (hv : Pairs w v xs) (hf : CallsIt fn)
 (hp : ∀ (x : Int × Int) (w' : World), Calls Tryz.prog fn #[.agg #[.int .i64 x.1, .int .i64 x.2]] w' fun e w'' => e = .returned (.bool (p x)) ∧ Below w'.heap.size w' w'') :
 Calls Tryz.prog 92 #[v, .func (.func fn) #[] #[]] w fun e w' => e = .returned (.bool (xs.all p)) ∧ Below w.heap.size w w' := by
 go_enter Tryz.func92, Tryz.ntmps92
 go_wp2_with fail
 refine (ContainsFuncFault_c v xs 144 #[.pointer (some ⟨w.heap.size, 0, none⟩)] (fun x => !p x) _ (hv.below (below_one _)) (fun _ _ => by kernel_rfl) ?_).mono ?_
 · intro x w' _ hb
   have hc : w'.cell? ⟨w.heap.size, 0, none⟩ = some (.func (.func fn) #[] #[]) := by
    rw [(bcell hb).1 _ _ (by simp), World.cell?_alloc_at _ _ _ _ rfl]; rfl
   have hz := World.block_lt_of_cell? w' _ hc
   have hf' : ∀ (bs : Array Value) (w : World), (callFunc fn bs).run Tryz.prog w = .ok (.enter fn bs) w := hf
   go_enter Tryz.func144, Tryz.ntmps144
   go_wp2_with fail
   refine (hp x _).mono ?_
   rintro e w'' ⟨rfl, hbb⟩
   go_wp2
   go_ret
   exact ⟨rfl, Below.chain (below_one _) hbb⟩
 · rintro e w' ⟨rfl, hb⟩
   go_wp2
   go_ret
   exact ⟨bool_ret (by rw [firstAt_not_allP]; simp), (below_one _).trans (hb.mono (by simp))⟩
def rowB (xs : List Int) : Bool := decide (xs.length ≤ 6) && xs.all cellB
theorem rowB_le {xs : List Int} (h : rowB xs = true) : xs.length ≤ 6 := by simp [rowB] at h; exact h.1
theorem rowB_cell {xs : List Int} (h : rowB xs = true) {k : Nat} {x : Int} (hx : xs[k]? = some x) : 0 ≤ x ∧ x ≤ 127 := by
 simp only [rowB, Bool.and_eq_true, List.all_eq_true] at h
 exact cellB_true (h.2 x (List.mem_of_getElem? hx))
def fB (f : Int × Int) : Bool := faultB f.1 f.2
def areB (fs : List (Int × Int)) (r : List Int) : Bool := rowB r && (decide (fs.length = r.length) && fs.all fB)
theorem areB_fault {fs : List (Int × Int)} {r : List Int} (h : areB fs r = true) {k : Nat} {f : Int × Int} (hf : fs[k]? = some f) : 0 ≤ f.1 ∧ f.1 ≤ 127 ∧ 0 ≤ f.2 ∧ f.2 ≤ 127 := by
 simp only [areB, Bool.and_eq_true, List.all_eq_true] at h
 have := faultB_true (h.2.2 f (List.mem_of_getElem? hf))
 exact ⟨this.1, this.2.1, this.2.2.1, this.2.2.2.1⟩
theorem areB_row {fs : List (Int × Int)} {r : List Int} (h : areB fs r = true) : rowB r = true := by
 simp only [areB, Bool.and_eq_true] at h; exact h.1
theorem areB_len {fs : List (Int × Int)} {r : List Int} (h : areB fs r = true) : fs.length = r.length := by
 simp only [areB, Bool.and_eq_true, decide_eq_true_eq] at h; exact h.2.1
theorem IsRow_c (v : Value) (xs : List Int) (w : World) (hv : Ints w v xs) : Calls Tryz.prog 58 #[v] w fun e w' => e = .returned (.bool (rowB xs)) ∧ Below w.heap.size w w' := by
 obtain ⟨a, c, hvv, hc1, hc2, HC⟩ := hv.parts
 by_cases h : xs.length ≤ 6
 · subst hvv
   go_enter Tryz.func58, Tryz.ntmps58
   go_wp2_with (go_at_call 109; refine (areAllInt_c _ xs 110 cellB _ hv (fun _ _ => by kernel_rfl) (fun x w' => IsCell_c x w')).mono ?_; rintro e w' ⟨rfl, hb⟩)
   go_ret
   exact ⟨bool_ret (by simp [rowB, h]), by assumption⟩
 · subst hvv
   go_enter Tryz.func58, Tryz.ntmps58
   go_wp2_with fail
   go_ret
   exact ⟨bool_ret (by simp [rowB]; omega), Below.refl _ _⟩
theorem l2Row_c (v : Value) (xs : List Int) (w : World) (hv : Ints w v xs) : Calls Tryz.prog 139 #[v] w fun e w' => e = .returned (.bool (rowB xs)) ∧ Below w.heap.size w w' := by
 have hm := hv.le
 obtain ⟨a, c, rfl, hc1, hc2, HC⟩ := hv.parts
 go_enter Tryz.func139, Tryz.ntmps139
 go_wp2
 go_loopw [3] (fun i wr => ∃ k : Nat, k ≤ xs.length ∧ k ≤ 7 ∧ i = .int .i64 k ∧ Hid (∀ j x, j < k → xs[j]? = some x → cellB x = true) ∧ w = wr) (fun i _ => xs.length - (intOf i).toNat)
 case atStart => exact ⟨0, by omega, by omega, rfl, fun j x hj => by omega, by trivial⟩
 case round =>
  obtain ⟨k, hk, hk2, rfl, hbef, rfl⟩ := hrel
  clear hv
  by_cases hlt : k < xs.length ∧ k ≤ 6
  · obtain ⟨hlt, hle⟩ := hlt
    obtain ⟨x, hx⟩ := elem_at hlt
    obtain ⟨b, off, rfl, g0⟩ := HC.out k x hx.out
    go_wp2_with fail
    refine (l2Cell_c _ _).mono ?_
    rintro e w' ⟨rfl, rfl⟩
    rcases hpx : cellB x with _ | _
    · have HP := Lib.hid hpx; clear hpx
      go_wp2
      go_ret
      exact ⟨bool_ret (by
       symm; simp only [rowB, Bool.and_eq_false_iff]; right
       rw [List.all_eq_false]; exact ⟨x, List.mem_of_getElem? hx.out, by simp [HP.out]⟩), Below.refl _ _⟩
    · have HP := Lib.hid hpx; clear hpx
      go_wp2
      go_roundw
      case rel => exact ⟨k + 1, by omega, by omega, by go_num, fun j y hj hy => by
       by_cases hj2 : j < k
       · exact hbef.out j y hj2 hy
       · obtain rfl : j = k := by omega
         rw [hx.out] at hy; obtain rfl := Option.some.inj hy; exact HP.out, by trivial⟩
      case measure => simp [intOf]; omega
  · have hor : k = xs.length ∨ (k = 7 ∧ k < xs.length) := by omega
    clear hlt
    rcases hor with hor | ⟨hor, hor2⟩
    · have HK := Lib.hid hor
      have h1 : ¬ k < xs.length := by omega
      clear hor
      go_wp2
      go_ret
      refine ⟨bool_ret ?_, Below.refl _ _⟩
      have hall : xs.all cellB = true := by
       rw [List.all_eq_true]; intro x hx
       obtain ⟨j, hj⟩ := List.mem_iff_getElem?.1 hx
       have := (List.getElem?_eq_some_iff.1 hj).1
       exact hbef.out j x (by have := HK.out; omega) hj
      simp [rowB, hall]; omega
    · have HK := Lib.hid hor
      have h1 : ¬ k ≤ 6 := by omega
      clear hor
      go_wp2
      go_ret
      refine ⟨bool_ret ?_, Below.refl _ _⟩
      have := HK.out
      rw [decide_eq_false (by omega)]
      simp [rowB]; omega
theorem areFaults_c (v1 v2 : Value) (fs : List (Int × Int)) (r : List Int) (w : World) (h1 : Pairs w v1 fs) (h2 : Ints w v2 r) :
 Calls Tryz.prog 278 #[v1, v2] w fun e w' => e = .returned (.bool (areB fs r)) ∧ Below w.heap.size w w' := by
 obtain ⟨a1, c1, rfl, _, _, _⟩ := h1.parts
 obtain ⟨a2, c2, rfl, _, _, _⟩ := h2.parts
 rcases hr : rowB r with _ | _
 · have HR := Lib.hid hr; clear hr
   go_enter Tryz.func278, Tryz.ntmps278
   go_wp2_with fail
   refine (IsRow_c _ r _ h2).mono ?_
   rintro e w1 ⟨rfl, hb1⟩
   rw [HR.out]
   go_wp2
   go_ret
   exact ⟨bool_ret (by simp [areB, HR.out]), hb1⟩
 · by_cases hl : fs.length = r.length
   · have hlb : ((fs.length : Int) == (r.length : Int)) = true := by simp [hl]
     have HR := Lib.hid hr; have HL := Lib.hid hl; clear hr hl
     go_enter Tryz.func278, Tryz.ntmps278
     go_wp2_with fail
     refine (IsRow_c _ r _ h2).mono ?_
     rintro e w1 ⟨rfl, hb1⟩
     rw [HR.out]
     go_wp2_with fail
     refine (areAllFault_c _ fs 62 fB _ (h1.below hb1) (fun _ _ => by kernel_rfl) (fun x w' => IsFault_c x.1 x.2 w')).mono ?_
     rintro e w2 ⟨rfl, hb2⟩
     go_wp2
     go_ret
     exact ⟨bool_ret (by simp [areB, HR.out, HL.out]), Below.chain hb1 hb2⟩
   · have hlb : ((fs.length : Int) == (r.length : Int)) = false := by simp; omega
     have HR := Lib.hid hr; have HL := Lib.hid hl; clear hr hl
     go_enter Tryz.func278, Tryz.ntmps278
     go_wp2_with fail
     refine (IsRow_c _ r _ h2).mono ?_
     rintro e w1 ⟨rfl, hb1⟩
     rw [HR.out]
     go_wp2
     go_ret
     exact ⟨bool_ret (by simp [areB, HL.out]), hb1⟩
theorem l3Faults_c (v1 v2 : Value) (fs : List (Int × Int)) (r : List Int) (w : World) (h1 : Pairs w v1 fs) (h2 : Ints w v2 r) :
 Calls Tryz.prog 222 #[v1, v2] w fun e w' => e = .returned (.bool (areB fs r)) ∧ Below w.heap.size w w' := by
 have hm := h1.le
 obtain ⟨a1, c1, rfl, _, _, H1⟩ := h1.parts
 obtain ⟨a2, c2, rfl, _, _, _⟩ := h2.parts
 by_cases hl : fs.length = r.length
 · have hlb : ((fs.length : Int) != (r.length : Int)) = false := by simp [hl]
   have HL := Lib.hid hl; clear hl
   rcases hr : rowB r with _ | _
   · have HR := Lib.hid hr; clear hr
     go_enter Tryz.func222, Tryz.ntmps222
     go_wp2_with fail
     refine (l2Row_c _ r _ h2).mono ?_
     rintro e w1 ⟨rfl, hb1⟩
     rw [HR.out]
     go_wp2
     go_ret
     exact ⟨bool_ret (by simp [areB, HR.out]), hb1⟩
   · have HR := Lib.hid hr; clear hr
     go_enter Tryz.func222, Tryz.ntmps222
     go_wp2_with fail
     refine (l2Row_c _ r _ h2).mono ?_
     rintro e w1 ⟨rfl, hb1⟩
     rw [HR.out]
     clear h1 h2
     go_wp2
     go_loopw [5] (fun i wr => ∃ k : Nat, k ≤ fs.length ∧ i = .int .i64 k ∧ Hid (∀ j x, j < k → fs[j]? = some x → fB x = true) ∧ Below w.heap.size w wr) (fun i _ => fs.length - (intOf i).toNat)
     case atStart => exact ⟨0, by omega, rfl, fun j x hj => by omega, hb1⟩
     case round =>
      obtain ⟨k, hk, rfl, hbef, hb⟩ := hrel
      clear hb1
      by_cases hlt : k < fs.length
      · have hdd : decide ((k : Int) < (fs.length : Int)) = true := by simp; omega
        obtain ⟨x, hx⟩ := elem_at hlt
        obtain ⟨b, off, rfl, f0, f1⟩ := H1.out k x hx.out
        have g0 := cell_later hb f0
        have g1 := cell_later hb f1
        clear f0 f1
        go_wp2_with fail
        refine (l3Fault_c x.1 x.2 _).mono ?_
        rintro e w2 ⟨rfl, hb2⟩
        have hb3 := Below.chain hb hb2
        clear g0 g1 hb hb2
        rcases hpx : faultB x.1 x.2 with _ | _
        · have HP := Lib.hid hpx; clear hpx
          go_wp2
          go_ret
          exact ⟨bool_ret (by
           symm; simp only [areB, Bool.and_eq_false_iff]; right; right
           rw [List.all_eq_false]; exact ⟨x, List.mem_of_getElem? hx.out, by simp [fB, HP.out]⟩), hb3⟩
        · have HP := Lib.hid hpx; clear hpx
          go_wp2
          go_roundw
          case rel => exact ⟨k + 1, by omega, by go_num, fun j y hj hy => by
           by_cases hj2 : j < k
           · exact hbef.out j y hj2 hy
           · obtain rfl : j = k := by omega
             rw [hx.out] at hy; obtain rfl := Option.some.inj hy; exact HP.out, hb3⟩
          case measure => simp [intOf]; omega
      · have hall : fs.all fB = true := by
         rw [List.all_eq_true]; intro x hx
         obtain ⟨j, hj⟩ := List.mem_iff_getElem?.1 hx
         exact hbef.out j x (by have := (List.getElem?_eq_some_iff.1 hj).1; omega) hj
        have HA := Lib.hid hall; clear hall
        go_wp2
        go_ret
        exact ⟨bool_ret (by simp [areB, HR.out, HL.out, HA.out]), hb⟩
 · have hlb : ((fs.length : Int) != (r.length : Int)) = true := by simp; omega
   have HL := Lib.hid hl; clear hl
   go_enter Tryz.func222, Tryz.ntmps222
   go_wp2_with fail
   go_ret
   exact ⟨bool_ret (by simp [areB, HL.out]), Below.refl _ _⟩
theorem info_int : (Tryz.prog.info? 3).map (fun i => (i.zero, i.size, i.bytes)) = some (some (.int .i64 0), 1, 8) := by kernel_rfl
set_option maxRecDepth 100000
theorem info_Fault : (Tryz.prog.info? 46).map (fun i => (i.zero, i.size, i.bytes)) = some (some (.agg #[.int .i64 0, .int .i64 0]), 2, 16) := by kernel_rfl
end Go.Proofs.YtohgjfdbnkjefaaGreatDoor
