/- Texts of this claim, gathered: Tk, Lib, Pure, Pairs, Open, Base, Bk, Help, Cur, Code, OpenY, Ck, Num. -/
import Derived.Deep.RegionHeld3
import Derived.ProofKit
import Derived.WalkKit
import Derived.WalkSpells
import Derived.WalkLawsBesides
import Derived.Deep.QuietTactic
import Derived.BigQuiet
import Derived.Lib.Hide
import Derived.Maps.AppendAt
import Derived.Test.YtohgjfdbnkjefaaGreatDoorProg
import Derived.OpenShut
import Derived.ShutString
import Derived.ChangeOld
import Derived.Below
import Derived.Lib.SmallJoins
import Derived.Deep.Slices
import Derived.Deep.Fields
import Derived.ChangeSame
import Derived.Laws.AppendOwnNone
import Derived.Lib.ItoaNum
import Derived.Lib.ItoaLen
namespace Go.Proofs.YtohgjfdbnkjefaaGreatDoor
open Go.RowKit
theorem xqA {α : Type} {l : List α} {i : Nat} {a : α} : l.toArray.setIfInBounds i a = (l.set i a).toArray := List.setIfInBounds_toArray ..
theorem xqB {α : Type} {a b : α} {l : List α} : (a :: l).set 0 b = b :: l := rfl
theorem xqC {α : Type} {a b : α} {l : List α} {n : Nat} : (a :: l).set (n + 1) b = a :: l.set n b := rfl
theorem xeA {α : Type} {l : List α} {i : Nat} : l.toArray[i]? = l[i]? := List.getElem?_toArray ..
theorem xeB {α : Type} {a : α} {l : List α} : (a :: l)[0]? = some a := rfl
theorem xeC {α : Type} {a : α} {l : List α} {i : Nat} : (a :: l)[i + 1]? = l[i]? := rfl
section
variable {P : Program} {ops : Array Oper} {Q : Exit → Act → World → Prop} {md : Region.Mode} {S : World → Prop}
theorem tkX (i : Nat) {oi : Oper} {v : Value} {fuel : Nat} {listed : Array Bool} {a : Act} {w : World} (hS : S w) (hy : YieldsIf P ops S oi v a)
    (h : wpAnyH P md ops Q S fuel (listed.setIfInBounds i true) (a.put oi.dst v) w) (hi : ops[i]? = some oi := by (simp only [xeA, xeB, xeC]; exact rfl))
    (hs : Region.noSelect ops = true := by kernel_rfl) (hf : Region.free md ops listed i = true := by kernel_rfl) (hr : (Region.ready md ops listed).contains i = true := by kernel_rfl)
    (hQ : ∀ c a w, Q (.panic c) (a.put oi.dst v) w → Q (.panic c) a w := by exact fun _ _ _ h => h) : wpAnyH P md ops Q S (fuel + 1) listed a w :=
  wpAnyH_take hi hs hf hr hQ hy hS h
theorem tkY (i : Nat) {oi : Oper} {v : Value} {fuel : Nat} {listed : Array Bool} {a : Act} {w : World} (hS : S w)
    (h : wpAnyH P md ops Q S fuel (listed.setIfInBounds i true) (a.put oi.dst v) w) (hi : ops[i]? = some oi := by (simp only [xeA, xeB, xeC]; exact rfl))
    (hs : Region.noSelect ops = true := by kernel_rfl) (hf : Region.free md ops listed i = true := by kernel_rfl) (hr : (Region.ready md ops listed).contains i = true := by kernel_rfl)
    (hQ : ∀ c a w, Q (.panic c) (a.put oi.dst v) w → Q (.panic c) a w := by exact fun _ _ _ h => h)
    (hy : YieldsIf P ops S oi v a := by exact Or.inl ⟨by rfl, by (intro w hSw; (try dsimp only at hSw); go_simp; first | done | with_reducible rfl)⟩) : wpAnyH P md ops Q S (fuel + 1) listed a w :=
  wpAnyH_take hi hs hf hr hQ hy hS h
end
end Go.Proofs.YtohgjfdbnkjefaaGreatDoor
namespace Go.Proofs.YtohgjfdbnkjefaaGreatDoor
end Go.Proofs.YtohgjfdbnkjefaaGreatDoor
namespace Go.Proofs.YtohgjfdbnkjefaaGreatDoor
open Go.RowKit

def Sl (w : World) (size : Nat) (v : Value) (n : Nat) (xs : List Value) : Prop :=
 ∃ a c, v = .slice a n c ∧ n ≤ c ∧ c ≤ maxLen ∧ xs.length = n * size ∧
  (0 < n → ∃ b off, a = some ⟨b, off, none⟩ ∧ ∀ j, j < n * size → w.cell? ⟨b, off + j, none⟩ = xs[j]?)


theorem Below.gr {w w' : World} (h : Below w.heap.size w w') : w.grownBy w' none :=
 ⟨h.os, h.tape, h.output, h.size, fun k hk _ => h.block k hk⟩
theorem below_drewN {w w' : World} {n : Nat} {B : Nat} (h : Below B w w') : Below B w (w'.drewN n) := ⟨h.os, h.tape, h.output, h.size, h.block⟩

section
variable {w w' : World} {size n : Nat} {v : Value} {xs : List Value}

theorem Sl.slice (h : Sl w size v n xs) : ∃ a c, v = .slice a n c ∧ n ≤ maxLen := by
 obtain ⟨a, c, rfl, h1, h2, _⟩ := h
 exact ⟨a, c, rfl, by omega⟩
theorem Sl.nil_ (w : World) (size : Nat) : Sl w size (.slice none 0 0) 0 [] := ⟨none, 0, rfl, Nat.le_refl _, by simp [maxLen], by simp, fun h => absurd h (by omega)⟩
theorem Sl.keep (h : Sl w size v n xs) (hk : ∀ b o, b < w.heap.size → w'.cell? ⟨b, o, none⟩ = w.cell? ⟨b, o, none⟩) : Sl w' size v n xs := by
 obtain ⟨a, c, rfl, h1, h2, h3, h4⟩ := h
 refine ⟨a, c, rfl, h1, h2, h3, fun hn => ?_⟩
 obtain ⟨b, off, e, hc⟩ := h4 hn
 refine ⟨b, off, e, fun j hj => ?_⟩
 rw [hk _ _ ?_, hc j hj]
 have h0 := hc j hj
 rw [List.getElem?_eq_getElem (by omega)] at h0
 exact World.block_lt_of_cell? w _ h0
theorem Sl.below (h : Sl w size v n xs) (hb : Below w.heap.size w w') : Sl w' size v n xs :=
 h.keep (fun _ _ hlt => hb.cell (p := ⟨_, _, none⟩) hlt)
theorem Sl.drew (h : Sl w size v n xs) : Sl w.drew size v n xs := h
theorem Sl.drewN (h : Sl w size v n xs) (k : Nat) : Sl (w.drewN k) size v n xs := h
theorem Sl.alloc (h : Sl w size v n xs) (o : Obj) : Sl (w.alloc o) size v n xs :=
 h.below ((Below.refl _ _).alloc (Nat.le_refl _) o)
theorem Sl.grown (h : Sl w size v n xs) {r : Option Nat} (hg : w.grownBy w' r) (hne : v.ownBlock = none ∨ v.ownBlock ≠ r) : Sl w' size v n xs := by
 obtain ⟨a, c, rfl, h1, h2, h3, h4⟩ := h
 refine ⟨a, c, rfl, h1, h2, h3, fun hn => ?_⟩
 obtain ⟨b, off, e, hc⟩ := h4 hn
 refine ⟨b, off, e, fun j hj => ?_⟩
 have h0 := hc j hj
 rw [List.getElem?_eq_getElem (by omega)] at h0
 have hlt : b < w.heap.size := World.block_lt_of_cell? w _ h0
 have hbk : w'.heap[b]? = w.heap[b]? := hg.block b hlt (by subst e; simpa [Value.ownBlock] using hne)
 exact (World.cell?_of_block (w := w) (a := ⟨b, off + j, none⟩) hbk).trans (hc j hj)
theorem Sl.of_own {lo : Nat} {e : TypeId} (h : w.ownsRow lo e size v n xs) : Sl w size v n xs := by
 obtain ⟨h1, h2⟩ := h
 rcases h2 with ⟨rfl, rfl⟩ | ⟨g, cap, cur, rfl, hb, hg, hn, hc, hs, ht⟩
 · have : xs = [] := List.eq_nil_of_length_eq_zero (by simpa using h1)
   subst this
   exact Sl.nil_ w size
 · refine ⟨_, _, rfl, hn, hc, h1, fun _ => ⟨g, 0, rfl, fun j hj => ?_⟩⟩
   rw [Nat.zero_add, cell_of_row w g j cur e (0, 0) hg, ← ht, List.getElem?_take, if_pos hj]
   simp
theorem Sl.len (h : Sl w size v n xs) : xs.length = n * size := by obtain ⟨a, c, rfl, h1, h2, h3, _⟩ := h; exact h3
theorem Sl.le (h : Sl w size v n xs) : n ≤ 9223372036854775807 := by
 obtain ⟨a, c, rfl, h1, h2, h3, _⟩ := h; unfold maxLen at h2; omega
end

def Ints (w : World) (v : Value) (xs : List Int) : Prop := Sl w 1 v xs.length (xs.map (Value.int .i64))
theorem Ints.below {w w' : World} {v : Value} {xs : List Int} (h : Ints w v xs) (hb : Below w.heap.size w w') : Ints w' v xs := Sl.below h hb
theorem Ints.le {w : World} {v : Value} {xs : List Int} (h : Ints w v xs) : xs.length ≤ 9223372036854775807 := Sl.le h
theorem Ints.grown {w w' : World} {v : Value} {xs : List Int} (h : Ints w v xs) {r : Option Nat} (hg : w.grownBy w' r) (hne : v.ownBlock = none ∨ v.ownBlock ≠ r) : Ints w' v xs := Sl.grown h hg hne
theorem Ints.of_own {w : World} {lo : Nat} {e : TypeId} {v : Value} {xs : List Int} (h : w.ownsRow lo e 1 v xs.length (xs.map (Value.int .i64))) : Ints w v xs := Sl.of_own h
theorem Ints.parts {w : World} {v : Value} {xs : List Int} (h : Ints w v xs) : ∃ a c, v = .slice a xs.length c ∧ xs.length ≤ c ∧ c ≤ 9223372036854775807 ∧
 Hid (∀ k x, xs[k]? = some x → ∃ b off, a = some ⟨b, off, none⟩ ∧ w.cell? ⟨b, off + k, none⟩ = some (.int .i64 x)) := by
 obtain ⟨a, c, rfl, h1, h2, h3, h4⟩ := h
 refine ⟨a, c, rfl, h1, by unfold maxLen at h2; omega, fun k x hk => ?_⟩
 have hlt : k < xs.length := (List.getElem?_eq_some_iff.1 hk).1
 obtain ⟨b, off, rfl, hc⟩ := h4 (by omega)
 refine ⟨b, off, rfl, ?_⟩
 rw [hc k (by omega), List.getElem?_map, hk]; rfl

theorem elem_at {α : Type} {xs : List α} {k : Nat} (h : k < xs.length) : ∃ x, Hid (xs[k]? = some x) := ⟨xs[k], List.getElem?_eq_getElem h⟩

theorem bool_ret {b b' : Bool} (h : b = b') : Ending.returned (.bool b) = .returned (.bool b') := by rw [h]
theorem int_ret {k : IntKind} {a b : Int} (h : a = b) : Ending.returned (.int k a) = .returned (.int k b) := by rw [h]
theorem int_val {k : IntKind} {a b : Int} (h : a = b) : Value.int k a = .int k b := by rw [h]

theorem take_snoc {α : Type} {xs : List α} {k : Nat} {x : α} (h : xs[k]? = some x) : xs.take (k + 1) = xs.take k ++ [x] := by
 rw [List.take_succ_eq_append_getElem (List.getElem?_eq_some_iff.1 h).1]
 simp [(List.getElem?_eq_some_iff.1 h).2]
theorem set_mid {α : Type} (l1 l2 : List α) (x y : α) {k : Nat} (hk : k = l1.length) : (l1 ++ x :: l2).set k y = l1 ++ y :: l2 := by
 subst hk; simp
theorem below_one {w : World} (o : Obj) : Below w.heap.size w (w.alloc o) := (Below.refl _ _).alloc (Nat.le_refl _) o
theorem own_form {w : World} {lo : Nat} {e : TypeId} {size : Nat} {v : Value} {n : Nat} {xs : List Value} (h : w.ownsRow lo e size v n xs) (hn : 0 < n) :
 ∃ g cap, v = .slice (some ⟨g, 0, none⟩) n cap ∧ lo ≤ g ∧ g < w.heap.size ∧ n ≤ cap ∧ cap ≤ maxLen := by
 rcases h.2 with ⟨rfl, h0⟩ | ⟨g, cap, cur, rfl, hb, hg, h1, h2, _⟩
 · omega
 · exact ⟨g, cap, rfl, hb, (Array.getElem?_eq_some_iff.1 hg).1, h1, h2⟩
theorem Below.chain {w a b : World} (h : Below w.heap.size w a) (k : Below a.heap.size a b) : Below w.heap.size w b := h.trans (k.mono h.size)
theorem Below.alc {w a : World} (h : Below w.heap.size w a) (o : Obj) : Below w.heap.size w (a.alloc o) := h.alloc h.size o
theorem bcell {w w1 : World} (hb : Below w.heap.size w w1) : (∀ b o, b < w.heap.size → w1.cell? ⟨b, o, none⟩ = w.cell? ⟨b, o, none⟩) ∧ (∀ b o, b < w.heap.size → w1.frozen? ⟨b, o, none⟩ = w.frozen? ⟨b, o, none⟩) :=
 ⟨fun b o h => hb.cell (p := ⟨b, o, none⟩) h, fun b o h => hb.frozen (p := ⟨b, o, none⟩) h⟩
end Go.Proofs.YtohgjfdbnkjefaaGreatDoor
namespace Go.Proofs.YtohgjfdbnkjefaaGreatDoor
open Go.RowKit
/-! ints as bits -/
theorem wrap_i64_small (n : Nat) (h : n < 9223372036854775808) : IntKind.i64.wrap (n : Int) = n := by
 simp only [IntKind.wrap, IntKind.bits, IntKind.signed]
 simp; omega
theorem ofInt_i64 (a : Nat) (ha : a < 9223372036854775808) : (BitVec.ofInt 64 (a : Int)).toNat = a := by
 rw [BitVec.toNat_ofInt]; omega
theorem i64_and_nat (a b : Nat) (ha : a < 9223372036854775808) (hb : b < 9223372036854775808) : bits .and .i64 (a : Int) (b : Int) = ((a &&& b : Nat) : Int) := by
 have hx : a &&& b < 2 ^ 63 := Nat.and_lt_two_pow _ (by omega)
 show IntKind.i64.wrap ((BitVec.ofInt 64 (a : Int) &&& BitVec.ofInt 64 (b : Int)).toNat : Int) = _
 rw [BitVec.toNat_and, ofInt_i64 a ha, ofInt_i64 b hb, wrap_i64_small _ (by omega)]
theorem i64_or_nat (a b : Nat) (ha : a < 9223372036854775808) (hb : b < 9223372036854775808) : bits .or .i64 (a : Int) (b : Int) = ((a ||| b : Nat) : Int) := by
 have hx : a ||| b < 2 ^ 63 := Nat.or_lt_two_pow (by omega) (by omega)
 show IntKind.i64.wrap ((BitVec.ofInt 64 (a : Int) ||| BitVec.ofInt 64 (b : Int)).toNat : Int) = _
 rw [BitVec.toNat_or, ofInt_i64 a ha, ofInt_i64 b hb, wrap_i64_small _ (by omega)]
theorem i64_xor_nat (a b : Nat) (ha : a < 9223372036854775808) (hb : b < 9223372036854775808) : bits .xor .i64 (a : Int) (b : Int) = ((a ^^^ b : Nat) : Int) := by
 have hx : a ^^^ b < 2 ^ 63 := Nat.xor_lt_two_pow (by omega) (by omega)
 show IntKind.i64.wrap ((BitVec.ofInt 64 (a : Int) ^^^ BitVec.ofInt 64 (b : Int)).toNat : Int) = _
 rw [BitVec.toNat_xor, ofInt_i64 a ha, ofInt_i64 b hb, wrap_i64_small _ (by omega)]
theorem i64_andNot_nat (a b : Nat) (ha : a < 128) (hb : b < 128) : bits .andNot .i64 (a : Int) (b : Int) = ((a &&& (127 - b) : Nat) : Int) := by
 show IntKind.i64.wrap ((BitVec.ofInt 64 (a : Int) &&& ~~~BitVec.ofInt 64 (b : Int)).toNat : Int) = _
 rw [BitVec.toNat_and, BitVec.toNat_not, ofInt_i64 a (by omega), ofInt_i64 b (by omega)]
 have e : a &&& (2 ^ 64 - 1 - b) = a &&& (127 - b) := by
  apply Nat.eq_of_testBit_eq; intro i
  have h1 : 2 ^ 64 - 1 - b = 2 ^ 64 - (b + 1) := by omega
  have h2 : 127 - b = 2 ^ 7 - (b + 1) := by omega
  rw [Nat.testBit_and, Nat.testBit_and, h1, h2, Nat.testBit_two_pow_sub_succ (by omega), Nat.testBit_two_pow_sub_succ (by omega)]
  by_cases hi : i < 7
  · have : i < 64 := by omega
    simp [hi, this]
  · have ha' : a.testBit i = false := Nat.testBit_lt_two_pow (Nat.lt_of_lt_of_le ha (by have := Nat.pow_le_pow_right (n := 2) (by omega) (show 7 ≤ i by omega); omega))
    simp [ha']
 have hx : a &&& (127 - b) < 2 ^ 7 := Nat.and_lt_two_pow _ (by omega)
 rw [e, wrap_i64_small _ (by omega)]
/-! cells and digits -/
def inB (n lo hi : Int) : Bool := decide (lo ≤ n) && decide (n ≤ hi)
theorem inB_true {n lo hi : Int} (h : inB n lo hi = true) : lo ≤ n ∧ n ≤ hi := by simpa [inB] using h
theorem inB_mk {n lo hi : Int} (h0 : lo ≤ n) (h1 : n ≤ hi) : inB n lo hi = true := by simp [inB, h0, h1]
def cellB (c : Int) : Bool := inB c 0 127
def digitB (d : Int) : Bool := inB d 0 9
theorem cellB_true {c : Int} (h : cellB c = true) : 0 ≤ c ∧ c ≤ 127 := inB_true h
theorem digitB_true {c : Int} (h : digitB c = true) : 0 ≤ c ∧ c ≤ 9 := inB_true h
def dig : List Int := [63, 6, 91, 79, 102, 109, 125, 7, 127, 111]
def dg (d : Int) : Int := dig.getD d.toNat 0
theorem dg_bd (d : Int) : 0 ≤ dg d ∧ dg d ≤ 127 := by
 unfold dg
 by_cases h : d.toNat < 10
 · have : ∀ n : Fin 10, 0 ≤ dig.getD n.1 0 ∧ dig.getD n.1 0 ≤ 127 := by decide
   exact this ⟨d.toNat, h⟩
 · rw [List.getD_eq_getElem?_getD, List.getElem?_eq_none (by simp [dig]; omega)]; simp
def shC (d l c : Int) : Int := ((((c.toNat &&& (127 - d.toNat)) ||| l.toNat : Nat)) : Int)
theorem shC_bd {d l c : Int} (_c0 : 0 ≤ c) (_c1 : c ≤ 127) (_l0 : 0 ≤ l) (_l1 : l ≤ 127) : 0 ≤ shC d l c ∧ shC d l c ≤ 127 := by
 unfold shC
 have h1 : c.toNat &&& (127 - d.toNat) < 2 ^ 7 := Nat.and_lt_two_pow _ (by omega)
 have h2 : (c.toNat &&& (127 - d.toNat)) ||| l.toNat < 2 ^ 7 := Nat.or_lt_two_pow h1 (by omega)
 omega
theorem shC_impl {d l c : Int} (d0 : 0 ≤ d) (d1 : d ≤ 127) (l0 : 0 ≤ l) (l1 : l ≤ 127) (c0 : 0 ≤ c) (c1 : c ≤ 127) :
 bits .or .i64 (bits .andNot .i64 c d) l = shC d l c := by
 obtain ⟨d, rfl⟩ := Int.eq_ofNat_of_zero_le d0
 obtain ⟨l, rfl⟩ := Int.eq_ofNat_of_zero_le l0
 obtain ⟨c, rfl⟩ := Int.eq_ofNat_of_zero_le c0
 have h1 : c &&& (127 - d) < 2 ^ 7 := Nat.and_lt_two_pow _ (by omega)
 rw [i64_andNot_nat c d (by omega) (by omega), i64_or_nat _ _ (by omega) (by omega)]; rfl
theorem and_sub_all : ∀ c d : Fin 128, c.1 - (c.1 &&& d.1) = c.1 &&& (127 - d.1) := by decide +kernel
theorem and_sub (c d : Nat) (hc : c < 128) (hd : d < 128) : c - (c &&& d) = c &&& (127 - d) := and_sub_all ⟨c, hc⟩ ⟨d, hd⟩
def andC (d l : Int) : Int := ((d.toNat &&& l.toNat : Nat) : Int)
theorem andC_i64 {d l : Int} (d0 : 0 ≤ d) (d1 : d ≤ 127) (l0 : 0 ≤ l) (l1 : l ≤ 127) : bits .and .i64 d l = andC d l := by
 obtain ⟨d, rfl⟩ := Int.eq_ofNat_of_zero_le d0
 obtain ⟨l, rfl⟩ := Int.eq_ofNat_of_zero_le l0
 exact i64_and_nat d l (by omega) (by omega)
def faultB (d l : Int) : Bool := cellB d && (cellB l && (andC d l == 0))
theorem faultB_true {d l : Int} (h : faultB d l = true) : 0 ≤ d ∧ d ≤ 127 ∧ 0 ≤ l ∧ l ≤ 127 ∧ andC d l = 0 := by
 simp [faultB] at h
 have h1 := cellB_true h.1; have h2 := cellB_true h.2.1
 exact ⟨h1.1, h1.2, h2.1, h2.2, h.2.2⟩
/-! states -/
def stateB (bar kind : Int) : Bool := if kind = 0 then (bar == 0) else (inB kind 1 2 && inB bar 0 6)
def stD (bar kind : Int) : Int := if kind = 1 then ((2 ^ bar.toNat : Nat) : Int) else 0
def stL (bar kind : Int) : Int := if kind = 2 then ((2 ^ bar.toNat : Nat) : Int) else 0
theorem stateB_cases {bar kind : Int} (h : stateB bar kind = true) : (kind = 0 ∧ bar = 0) ∨ (kind = 1 ∧ 0 ≤ bar ∧ bar ≤ 6) ∨ (kind = 2 ∧ 0 ≤ bar ∧ bar ≤ 6) := by
 unfold stateB at h
 split at h
 · left; exact ⟨by assumption, by simpa using h⟩
 · rename_i hk
   simp only [Bool.and_eq_true] at h
   have h1 := inB_true h.1; have h2 := inB_true h.2; omega
theorem bar_cases {bar : Int} (h0 : 0 ≤ bar) (h1 : bar ≤ 6) : bar = 0 ∨ bar = 1 ∨ bar = 2 ∨ bar = 3 ∨ bar = 4 ∨ bar = 5 ∨ bar = 6 := by omega
theorem stDL_bd {bar kind : Int} (h : stateB bar kind = true) : 0 ≤ stD bar kind ∧ stD bar kind ≤ 127 ∧ 0 ≤ stL bar kind ∧ stL bar kind ≤ 127 := by
 rcases stateB_cases h with ⟨rfl, rfl⟩ | ⟨rfl, h0, h1⟩ | ⟨rfl, h0, h1⟩
 · decide
 · rcases bar_cases h0 h1 with rfl | rfl | rfl | rfl | rfl | rfl | rfl <;> decide
 · rcases bar_cases h0 h1 with rfl | rfl | rfl | rfl | rfl | rfl | rfl <;> decide
def finds (bar kind d : Int) : Bool := shC (stD bar kind) (stL bar kind) (dg d) != dg d
def testB (xs : List Int) : Bool := decide (xs.length ≤ 10) && xs.all digitB
set_option linter.unusedVariables false
def flat2 (ps : List (Int × Int)) : List Value := ps.flatMap fun p => [.int .i64 p.1, .int .i64 p.2]
theorem flat2_nil : flat2 [] = [] := rfl
theorem flat2_snoc (ps : List (Int × Int)) (a b : Int) : flat2 (ps ++ [(a, b)]) = flat2 ps ++ [.int .i64 a, .int .i64 b] := by simp [flat2]
theorem flat2_at {ps : List (Int × Int)} {k : Nat} {p : Int × Int} (h : ps[k]? = some p) : (flat2 ps)[k * 2]? = some (.int .i64 p.1) ∧ (flat2 ps)[k * 2 + 1]? = some (.int .i64 p.2) := by
 induction ps generalizing k with
 | nil => simp at h
 | cons q ps ih =>
  cases k with
  | zero => simp at h; subst h; simp [flat2]
  | succ k =>
   simp at h
   have := ih h
   have e1 : (k + 1) * 2 = k * 2 + 2 := by omega
   constructor
   · rw [e1]; simpa [flat2] using this.1
   · rw [show (k + 1) * 2 + 1 = k * 2 + 1 + 2 by omega]; simpa [flat2] using this.2
def Pairs (w : World) (v : Value) (ps : List (Int × Int)) : Prop := Sl w 2 v ps.length (flat2 ps)
theorem Pairs.below {w w' : World} {v : Value} {ps : List (Int × Int)} (h : Pairs w v ps) (hb : Below w.heap.size w w') : Pairs w' v ps := Sl.below h hb
theorem Pairs.le {w : World} {v : Value} {ps : List (Int × Int)} (h : Pairs w v ps) : ps.length ≤ 9223372036854775807 := Sl.le h
theorem Pairs.grown {w w' : World} {v : Value} {ps : List (Int × Int)} (h : Pairs w v ps) {r : Option Nat} (hg : w.grownBy w' r) (hne : v.ownBlock = none ∨ v.ownBlock ≠ r) : Pairs w' v ps := Sl.grown h hg hne
theorem Pairs.of_own {w : World} {lo : Nat} {e : TypeId} {v : Value} {ps : List (Int × Int)} (h : w.ownsRow lo e 2 v ps.length (flat2 ps)) : Pairs w v ps := Sl.of_own h
theorem Pairs.parts {w : World} {v : Value} {ps : List (Int × Int)} (h : Pairs w v ps) : ∃ a c, v = .slice a ps.length c ∧ ps.length ≤ c ∧ c ≤ 9223372036854775807 ∧
 Hid (∀ k p, ps[k]? = some p → ∃ b off, a = some ⟨b, off, none⟩ ∧ w.cell? ⟨b, off + k * 2, none⟩ = some (.int .i64 p.1) ∧ w.cell? ⟨b, off + k * 2 + 1, none⟩ = some (.int .i64 p.2)) := by
 obtain ⟨a, c, rfl, h1, h2, h3, h4⟩ := h
 refine ⟨a, c, rfl, h1, by unfold maxLen at h2; omega, fun k p hk => ?_⟩
 have hlt : k < ps.length := (List.getElem?_eq_some_iff.1 hk).1
 obtain ⟨b, off, rfl, hc⟩ := h4 (by omega)
 have := flat2_at hk
 refine ⟨b, off, rfl, ?_, ?_⟩
 · rw [hc _ (by omega)]; exact this.1
 · rw [Nat.add_assoc, hc _ (by omega)]; exact this.2
theorem news_new (w : World) (cs : List Value) (e : TypeId) : ∀ j u, cs[j]? = some u → (w.alloc (.cells cs.toArray e)).cell? ((⟨w.heap.size, 0, none⟩ : Addr).add j) = some u := by
 intro j u hu
 rw [Addr.add_lit, Nat.zero_add, World.cell?_alloc_at _ _ _ _ rfl]
 simpa using hu
theorem ownsRow_cast {w : World} {lo : Nat} {e : TypeId} {size n m : Nat} {v : Value} {xs ys : List Value} (h : w.ownsRow lo e size v n xs) (hn : n = m) (hx : xs = ys) : w.ownsRow lo e size v m ys := by subst hn hx; exact h
theorem own_lo {w : World} {lo lo' : Nat} {e : TypeId} {size n : Nat} {v : Value} {xs : List Value} (h : w.ownsRow lo e size v n xs) (hl : lo' ≤ lo) : w.ownsRow lo' e size v n xs := by
 refine ⟨h.1, ?_⟩
 rcases h.2 with h | ⟨g, c, cur, h1, h2, h3⟩
 · exact .inl h
 · exact .inr ⟨g, c, cur, h1, by omega, h3⟩
theorem own_keep {w w' : World} {lo : Nat} {e : TypeId} {size n : Nat} {v : Value} {xs : List Value} (h : w.ownsRow lo e size v n xs) (hb : Below w.heap.size w w') : w'.ownsRow lo e size v n xs :=
 h.kept (Below.gr hb) (by cases v.ownBlock <;> simp)
/-! the grid of all pairs of a bar and a kind, and the states among them -/
def grid : List (Int × Int) := [(0,0),(1,0),(2,0),(3,0),(4,0),(5,0),(6,0),(0,1),(1,1),(2,1),(3,1),(4,1),(5,1),(6,1),(0,2),(1,2),(2,2),(3,2),(4,2),(5,2),(6,2)]
def stB (s : Int × Int) : Bool := stateB s.1 s.2
def allSt : List (Int × Int) := (0, 0) :: grid.drop 7
theorem allSt_grid : grid.filter stB = allSt := by decide
theorem grid_at_fin : ∀ (k : Fin 3) (b : Fin 7), grid[7 * k.1 + b.1]? = some ((b.1 : Int), (k.1 : Int)) := by decide
theorem grid_at {k b : Nat} (hk : k < 3) (hb : b < 7) : grid[7 * k + b]? = some ((b : Int), (k : Int)) := grid_at_fin ⟨k, hk⟩ ⟨b, hb⟩
def gridTo (q : Int × Int → Bool) (m : Nat) : List (Int × Int) := (grid.take m).filter fun s => stB s && q s
theorem gridTo_succ (q : Int × Int → Bool) {m : Nat} {s : Int × Int} (h : grid[m]? = some s) : gridTo q (m + 1) = gridTo q m ++ if stB s && q s then [s] else [] := by
 unfold gridTo
 rw [take_snoc h, List.filter_append]
 cases hs : (stB s && q s) <;> simp [hs]
theorem gridTo_le (q : Int × Int → Bool) (m : Nat) : (gridTo q m).length ≤ 21 := by
 unfold gridTo
 have h1 := List.length_filter_le (fun s => stB s && q s) (grid.take m)
 have h2 : (grid.take m).length ≤ 21 := by rw [List.length_take]; simp [grid]; omega
 omega
theorem gridTo_all (q : Int × Int → Bool) : gridTo q 21 = allSt.filter q := by
 unfold gridTo
 rw [← allSt_grid, List.filter_filter, List.take_of_length_le (by simp [grid])]
 congr 1; funext s; cases stB s <;> cases q s <;> rfl
end Go.Proofs.YtohgjfdbnkjefaaGreatDoor
namespace Go.Proofs.YtohgjfdbnkjefaaGreatDoor
open Go.ChangeShapes Go.WideShapes Go.ChangeAt Go.RowKit Go.Joins Go.Deep
set_option linter.unusedVariables false
set_option maxRecDepth 100000

theorem own : ownKnob Tryz.prog.godebug = none := by kernel_rfl
theorem laidOut : laidOutB Tryz.prog = true := by kernel_rfl

section
variable {H : Type} {enc : TypeId × Value → H} {w : World} {base : Nat} {spare : Nat → Bool} {held : Bool}
end
end Go.Proofs.YtohgjfdbnkjefaaGreatDoor
namespace Go.Proofs.YtohgjfdbnkjefaaGreatDoor
open Go.RowKit
set_option linter.unusedVariables false
theorem within_c (n lo hi : Int) (w : World) : Calls Tryz.prog 94 #[.int .i64 n, .int .i64 lo, .int .i64 hi] w fun e w' => e = .returned (.bool (inB n lo hi)) ∧ w = w' := by
 go_enter Tryz.func94, Tryz.ntmps94
 go_wp2
 all_goals (go_ret; exact ⟨bool_ret (by simp [inB, *]; try omega), rfl⟩)
theorem l1In_c (n lo hi : Int) (w : World) : Calls Tryz.prog 98 #[.int .i64 n, .int .i64 lo, .int .i64 hi] w fun e w' => e = .returned (.bool (inB n lo hi)) ∧ w = w' := by
 go_enter Tryz.func98, Tryz.ntmps98
 go_wp2
 all_goals (go_ret; exact ⟨bool_ret (by simp [inB, *]; try omega), rfl⟩)
theorem IsCell_c (c : Int) (w : World) : Calls Tryz.prog 110 #[.int .i64 c] w fun e w' => e = .returned (.bool (cellB c)) ∧ w = w' := by
 go_enter Tryz.func110, Tryz.ntmps110
 go_wp2_with (go_at_call 94; refine (within_c _ _ _ _).mono ?_; rintro e w' ⟨rfl, rfl⟩)
 go_ret; exact ⟨rfl, rfl⟩
theorem l2Cell_c (c : Int) (w : World) : Calls Tryz.prog 95 #[.int .i64 c] w fun e w' => e = .returned (.bool (cellB c)) ∧ w = w' := by
 go_enter Tryz.func95, Tryz.ntmps95
 go_wp2_with (go_at_call 98; refine (l1In_c _ _ _ _).mono ?_; rintro e w' ⟨rfl, rfl⟩)
 go_ret; exact ⟨rfl, rfl⟩
theorem isDigit_c (c : Int) (w : World) : Calls Tryz.prog 153 #[.int .i64 c] w fun e w' => e = .returned (.bool (digitB c)) ∧ w = w' := by
 go_enter Tryz.func153, Tryz.ntmps153
 go_wp2_with (go_at_call 94; refine (within_c _ _ _ _).mono ?_; rintro e w' ⟨rfl, rfl⟩)
 go_ret; exact ⟨rfl, rfl⟩
def digA : Value := .agg #[.int .i64 63, .int .i64 6, .int .i64 91, .int .i64 79, .int .i64 102, .int .i64 109, .int .i64 125, .int .i64 7, .int .i64 127, .int .i64 111]
theorem digitCells_c (w : World) : Calls Tryz.prog 112 #[] w fun e w' => e = .returned digA ∧ Below w.heap.size w w' := by
 go_enter Tryz.func112, Tryz.ntmps112
 go_wp2
 exact bodyPost_ret (v := digA) (by simp [results, Tryz.results112, go_sem, digA]) rfl ⟨rfl, below_one _⟩
theorem index_dig0 (w : World) : (Instr.index 140 digA (.int .i64 0)).run Tryz.prog w = .ok (.int .i64 63) w := by kernel_rfl
theorem index_dig1 (w : World) : (Instr.index 140 digA (.int .i64 1)).run Tryz.prog w = .ok (.int .i64 6) w := by kernel_rfl
theorem index_dig2 (w : World) : (Instr.index 140 digA (.int .i64 2)).run Tryz.prog w = .ok (.int .i64 91) w := by kernel_rfl
theorem index_dig3 (w : World) : (Instr.index 140 digA (.int .i64 3)).run Tryz.prog w = .ok (.int .i64 79) w := by kernel_rfl
theorem index_dig4 (w : World) : (Instr.index 140 digA (.int .i64 4)).run Tryz.prog w = .ok (.int .i64 102) w := by kernel_rfl
theorem index_dig5 (w : World) : (Instr.index 140 digA (.int .i64 5)).run Tryz.prog w = .ok (.int .i64 109) w := by kernel_rfl
theorem index_dig6 (w : World) : (Instr.index 140 digA (.int .i64 6)).run Tryz.prog w = .ok (.int .i64 125) w := by kernel_rfl
theorem index_dig7 (w : World) : (Instr.index 140 digA (.int .i64 7)).run Tryz.prog w = .ok (.int .i64 7) w := by kernel_rfl
theorem index_dig8 (w : World) : (Instr.index 140 digA (.int .i64 8)).run Tryz.prog w = .ok (.int .i64 127) w := by kernel_rfl
theorem index_dig9 (w : World) : (Instr.index 140 digA (.int .i64 9)).run Tryz.prog w = .ok (.int .i64 111) w := by kernel_rfl
theorem index_dig (d : Int) (h0 : 0 ≤ d) (h1 : d ≤ 9) (w : World) : (Instr.index 140 digA (.int .i64 d)).run Tryz.prog w = .ok (.int .i64 (dg d)) w := by
 have h : d = 0 ∨ d = 1 ∨ d = 2 ∨ d = 3 ∨ d = 4 ∨ d = 5 ∨ d = 6 ∨ d = 7 ∨ d = 8 ∨ d = 9 := by omega
 rcases h with rfl | rfl | rfl | rfl | rfl | rfl | rfl | rfl | rfl | rfl
 · exact index_dig0 w
 · exact index_dig1 w
 · exact index_dig2 w
 · exact index_dig3 w
 · exact index_dig4 w
 · exact index_dig5 w
 · exact index_dig6 w
 · exact index_dig7 w
 · exact index_dig8 w
 · exact index_dig9 w
theorem l2Digit_c (d : Int) (h0 : 0 ≤ d) (h1 : d ≤ 9) (w : World) : Calls Tryz.prog 141 #[.int .i64 d] w fun e w' => e = .returned (.int .i64 (dg d)) ∧ Below w.heap.size w w' := by
 have hc : (w.alloc (.cells (dig.map (Value.int .i64)).toArray 3)).cell? ⟨w.heap.size, d.toNat, none⟩ = some (.int .i64 (dg d)) := by
  rw [World.cell?_alloc_at _ _ _ _ rfl]
  have : d.toNat < dig.length := by simp [dig]; omega
  simp [dg, this]
 simp only [dig, List.map_cons, List.map_nil] at hc
 go_enter Tryz.func141, Tryz.ntmps141
 go_wp2
 go_ret
 exact ⟨rfl, below_one _⟩
theorem shown_c (d l c : Int) (d0 : 0 ≤ d) (d1 : d ≤ 127) (l0 : 0 ≤ l) (l1 : l ≤ 127) (c0 : 0 ≤ c) (c1 : c ≤ 127) (w : World) :
 Calls Tryz.prog 108 #[.agg #[.int .i64 d, .int .i64 l], .int .i64 c] w fun e w' => e = .returned (.int .i64 (shC d l c)) ∧ Below w.heap.size w w' := by
 go_enter Tryz.func108, Tryz.ntmps108
 go_wp2
 go_ret
 exact ⟨int_ret (shC_impl d0 d1 l0 l1 c0 c1), below_one _⟩
theorem IsFault_c (d l : Int) (w : World) : Calls Tryz.prog 62 #[.agg #[.int .i64 d, .int .i64 l]] w fun e w' => e = .returned (.bool (faultB d l)) ∧ Below w.heap.size w w' := by
 by_cases hd : cellB d = true
 · by_cases hl : cellB l = true
   · have hd2 := cellB_true hd; have hl2 := cellB_true hl
     have HA := Lib.hid (andC_i64 hd2.1 hd2.2 hl2.1 hl2.2)
     go_enter Tryz.func62, Tryz.ntmps62
     go_wp2_with (go_at_call 110; refine (IsCell_c _ _).mono ?_; rintro e w' ⟨rfl, rfl⟩)
     go_ret
     exact ⟨bool_ret (by rw [HA.out]; simp [faultB, hd, hl]), below_one _⟩
   · have hl : cellB l = false := by simpa using hl
     go_enter Tryz.func62, Tryz.ntmps62
     go_wp2_with (go_at_call 110; refine (IsCell_c _ _).mono ?_; rintro e w' ⟨rfl, rfl⟩)
     go_ret
     exact ⟨bool_ret (by simp [faultB, hl]), below_one _⟩
 · have hd : cellB d = false := by simpa using hd
   go_enter Tryz.func62, Tryz.ntmps62
   go_wp2_with (go_at_call 110; refine (IsCell_c _ _).mono ?_; rintro e w' ⟨rfl, rfl⟩)
   go_ret
   exact ⟨bool_ret (by simp [faultB, hd]), below_one _⟩
theorem l3Fault_c (d l : Int) (w : World) : Calls Tryz.prog 96 #[.agg #[.int .i64 d, .int .i64 l]] w fun e w' => e = .returned (.bool (faultB d l)) ∧ Below w.heap.size w w' := by
 by_cases hd : cellB d = true
 · by_cases hl : cellB l = true
   · have hd2 := cellB_true hd; have hl2 := cellB_true hl
     have HA := Lib.hid (andC_i64 hd2.1 hd2.2 hl2.1 hl2.2)
     go_enter Tryz.func96, Tryz.ntmps96
     go_wp2_with (go_at_call 95; refine (l2Cell_c _ _).mono ?_; rintro e w' ⟨rfl, rfl⟩)
     go_ret
     exact ⟨bool_ret (by rw [HA.out]; simp [faultB, hd, hl]), below_one _⟩
   · have hl : cellB l = false := by simpa using hl
     go_enter Tryz.func96, Tryz.ntmps96
     go_wp2_with (go_at_call 95; refine (l2Cell_c _ _).mono ?_; rintro e w' ⟨rfl, rfl⟩)
     go_ret
     exact ⟨bool_ret (by simp [faultB, hl]), below_one _⟩
 · have hd : cellB d = false := by simpa using hd
   go_enter Tryz.func96, Tryz.ntmps96
   go_wp2_with (go_at_call 95; refine (l2Cell_c _ _).mono ?_; rintro e w' ⟨rfl, rfl⟩)
   go_ret
   exact ⟨bool_ret (by simp [faultB, hd]), below_one _⟩
def Bk (w : World) (g t : Nat) (cs : Array Value) : Prop := w.heap[g]? = some (.cells cs t (0, 0))
theorem Bk.new (w : World) (t : Nat) (cs : Array Value) : Bk (w.alloc (.cells cs t)) w.heap.size t cs := by
 show (w.heap.push _)[w.heap.size]? = _; simp
theorem Bk.below {w w' : World} {g t : Nat} {cs : Array Value} (h : Bk w g t cs) (hb : Below w.heap.size w w') : Bk w' g t cs :=
 (hb.block g (Array.getElem?_eq_some_iff.1 h).1).trans h
theorem Bk.alloc {w : World} {g t : Nat} {cs : Array Value} (h : Bk w g t cs) (o : Obj) : Bk (w.alloc o) g t cs := h.below (below_one o)
theorem Bk.lt {w : World} {g t : Nat} {cs : Array Value} (h : Bk w g t cs) : g < w.heap.size := (Array.getElem?_eq_some_iff.1 h).1
theorem Bk.cell {w : World} {g t : Nat} {cs : Array Value} (h : Bk w g t cs) (i : Nat) : w.cell? ⟨g, i, none⟩ = cs[i]? := by unfold Bk at h; simp [World.cell?, h]
theorem Bk.frozen {w : World} {g t : Nat} {cs : Array Value} (h : Bk w g t cs) (i : Nat) : w.frozen? ⟨g, i, none⟩ = false := by unfold Bk at h; simp [World.frozen?, h]
theorem Bk.keep {w w' : World} {g t : Nat} {cs : Array Value} (h : Bk w g t cs) (hk : w'.heap[g]? = w.heap[g]?) : Bk w' g t cs := hk.trans h
theorem Bk.other {w : World} {g t : Nat} {cs : Array Value} (h : Bk w g t cs) {p : Addr} (hp : g ≠ p.block) (v : Value) : Bk (w.setCell p v) g t cs := h.keep (Below.heap_setCell _ _ _ _ hp)
theorem Bk.set {w : World} {g t : Nat} {cs : Array Value} (h : Bk w g t cs) (i : Nat) (v : Value) : Bk (w.setCell ⟨g, i, none⟩ v) g t (cs.setIfInBounds i v) := by
 unfold Bk at *
 show (w.heap.modify _ _)[g]? = _
 rw [Array.getElem?_modify, if_pos rfl, h]; rfl
theorem Bk.grown {w w' : World} {g t : Nat} {cs : Array Value} {r : Option Nat} (h : Bk w g t cs) (hg : w.grownBy w' r) (hr : some g ≠ r) : Bk w' g t cs := h.keep (hg.block g h.lt hr)
theorem Bk.drew {w : World} {g t : Nat} {cs : Array Value} (h : Bk w g t cs) : Bk w.drew g t cs := h
theorem info_int : (Tryz.prog.info? 3).map (fun i => (i.zero, i.size, i.bytes)) = some (some (.int .i64 0), 1, 8) := by kernel_rfl
set_option maxRecDepth 100000
def Bys (w : World) (v : Value) (g : Nat) : Prop :=
 ∃ a c, ∃ xs : List Nat, v = .slice a xs.length c ∧ xs.length ≤ c ∧ c ≤ 9223372036854775807 ∧ ∀ (k x : Nat), xs[k]? = some x → ∃ b off, a = some ⟨b, off, none⟩ ∧ b < g ∧ x ≤ 255 ∧ w.cell? ⟨b, off + k, none⟩ = some (.int .u8 (x : Int))
theorem Bys.keep {w w' : World} {v : Value} {g : Nat} (h : Bys w v g) (hk : ∀ b o x, b < g → w.cell? ⟨b, o, none⟩ = some x → w'.cell? ⟨b, o, none⟩ = some x) : Bys w' v g := by
 obtain ⟨a, c, xs, rfl, h1, h2, h3⟩ := h
 refine ⟨a, c, xs, rfl, h1, h2, fun k x hx => ?_⟩
 obtain ⟨b, off, e, hb, hx, hc⟩ := h3 k x hx
 exact ⟨b, off, e, hb, hx, hk _ _ _ hb hc⟩
structure CurAt (w : World) (g m : Nat) : Prop where
 code : ∃ v, w.cell? ⟨g, 0, none⟩ = some v ∧ Bys w v g
 pos : ∃ p : Nat, p ≤ m ∧ w.cell? ⟨g, 1, none⟩ = some (.int .i64 (p : Int))
 seed : ∃ s : Int, w.cell? ⟨g, 2, none⟩ = some (.int .u64 s)
 op1 : w.frozen? ⟨g, 1, none⟩ = false
 op2 : w.frozen? ⟨g, 2, none⟩ = false
theorem CurAt.lt {w : World} {g m : Nat} (h : CurAt w g m) : g < w.heap.size := by
 obtain ⟨v, hv, _⟩ := h.code
 exact World.block_lt_of_cell? w _ hv
theorem CurAt.mono {w : World} {g m m' : Nat} (h : CurAt w g m) (hm : m ≤ m') : CurAt w g m' := by
 obtain ⟨p, hp, hc⟩ := h.pos
 exact ⟨h.code, ⟨p, by omega, hc⟩, h.seed, h.op1, h.op2⟩
theorem CurAt.blocks {w w' : World} {g m : Nat} (h : CurAt w g m) (hk : ∀ k, k ≤ g → w'.heap[k]? = w.heap[k]?) : CurAt w' g m := by
 have hc : ∀ b o x, b ≤ g → w.cell? ⟨b, o, none⟩ = some x → w'.cell? ⟨b, o, none⟩ = some x := fun b o x hb hx => (World.cell?_of_block (w := w) (a := ⟨b, o, none⟩) (hk b hb)).trans hx
 have hf : ∀ o, w'.frozen? ⟨g, o, none⟩ = w.frozen? ⟨g, o, none⟩ := fun o => World.frozen?_of_block (w := w) (a := ⟨g, o, none⟩) (hk g (Nat.le_refl _))
 obtain ⟨v, hv, hb⟩ := h.code
 obtain ⟨p, hp, hpc⟩ := h.pos
 obtain ⟨s, hs⟩ := h.seed
 exact ⟨⟨v, hc _ _ _ (Nat.le_refl _) hv, hb.keep fun b o x hlt => hc b o x (by omega)⟩, ⟨p, hp, hc _ _ _ (Nat.le_refl _) hpc⟩, ⟨s, hc _ _ _ (Nat.le_refl _) hs⟩, by rw [hf]; exact h.op1, by rw [hf]; exact h.op2⟩
theorem CurAt.below {w w' : World} {g m : Nat} (h : CurAt w g m) (hb : Below w.heap.size w w') : CurAt w' g m :=
 h.blocks fun k hk => hb.block k (by have := h.lt; omega)
theorem CurAt.grown {w w' : World} {g m : Nat} {r : Option Nat} (h : CurAt w g m) (hg : w.grownBy w' r) (hr : ∀ k, r = some k → g < k) : CurAt w' g m :=
 h.blocks fun k hk => hg.block k (by have := h.lt; omega) (fun e => by have := hr k e.symm; omega)
theorem CurAt.drew {w : World} {g m : Nat} (h : CurAt w g m) : CurAt w.drew g m := h.blocks fun _ _ => rfl
theorem CurAt.alloc {w : World} {g m : Nat} (h : CurAt w g m) (o : Obj) : CurAt (w.alloc o) g m := h.below (below_one o)
structure CStep (w w' : World) (g m : Nat) : Prop where
 gr : w.grownBy w' (some g)
 cur : CurAt w' g m
theorem grow_refl (w : World) (r : Option Nat) : w.grownBy w r := ⟨rfl, rfl, rfl, Nat.le_refl _, fun _ _ _ => rfl⟩
theorem grow_trans {a b c : World} {r : Option Nat} (h : a.grownBy b r) (k : b.grownBy c r) : a.grownBy c r :=
 ⟨k.os.trans h.os, k.tape.trans h.tape, k.output.trans h.output, Nat.le_trans h.size k.size, fun i hi hr => (k.block i (Nat.lt_of_lt_of_le hi h.size) hr).trans (h.block i hi hr)⟩
theorem grow_below {a b : World} {r : Option Nat} (h : Below a.heap.size a b) : a.grownBy b r := ⟨h.os, h.tape, h.output, h.size, fun k hk _ => h.block k hk⟩
theorem CStep.refl {w : World} {g m : Nat} (h : CurAt w g m) : CStep w w g m := ⟨grow_refl _ _, h⟩
theorem CStep.trans {a b c : World} {g m m' : Nat} (h : CStep a b g m) (k : CStep b c g m') : CStep a c g m' := ⟨grow_trans h.gr k.gr, k.cur⟩
theorem CStep.mono {a b : World} {g m m' : Nat} (h : CStep a b g m) (hm : m ≤ m') : CStep a b g m' := ⟨h.gr, h.cur.mono hm⟩
theorem CStep.below {a b c : World} {g m : Nat} (h : CStep a b g m) (k : Below b.heap.size b c) : CStep a c g m := ⟨grow_trans h.gr (grow_below k), h.cur.below k⟩
theorem CStep.drew {a b : World} {g m : Nat} (h : CStep a b g m) : CStep a b.drew g m := ⟨grow_trans h.gr (grow_below (Below.refl _ _).drew), h.cur.drew⟩
theorem CStep.alloc {a b : World} {g m : Nat} (h : CStep a b g m) (o : Obj) : CStep a (b.alloc o) g m := h.below (below_one o)
theorem CStep.low {a b : World} {g m B : Nat} (h : CStep a b g m) (hB : B ≤ g) (hB2 : B ≤ a.heap.size) : Below B a b :=
 ⟨h.gr.os, h.gr.tape, h.gr.output, h.gr.size, fun k hk => h.gr.block k (by omega) (fun e => by cases e; omega)⟩
theorem CStep.row {a b : World} {g m lo n size : Nat} {E : TypeId} {v : Value} {xs : List Value} (h : CStep a b g m) (ho : a.ownsRow lo E size v n xs) (hlo : g < lo) : b.ownsRow lo E size v n xs :=
 ho.kept h.gr (by
  rcases ho.2 with ⟨rfl, _⟩ | ⟨k, cap, cur, rfl, hb, _⟩
  · exact Or.inl rfl
  · right; simp [Value.ownBlock]; omega)
theorem CStep.cell {a b : World} {g m k o : Nat} {x : Value} (h : CStep a b g m) (hc : a.cell? ⟨k, o, none⟩ = some x) (hk : k ≠ g) : b.cell? ⟨k, o, none⟩ = some x := by
 have hlt := World.block_lt_of_cell? a _ hc
 exact (World.cell?_of_block (w := a) (a := ⟨k, o, none⟩) (h.gr.block k hlt (fun e => hk (by cases e; rfl)))).trans hc
theorem step_two {w : World} {g m p : Nat} (h : CurAt w g m) (hp : p ≤ m) (s : Int) : CStep w ((w.setCell ⟨g, 1, none⟩ (.int .i64 ((p : Int) + 1))).setCell ⟨g, 2, none⟩ (.int .u64 s)) g (m + 1) := by
 have hgr : w.grownBy ((w.setCell ⟨g, 1, none⟩ (.int .i64 ((p : Int) + 1))).setCell ⟨g, 2, none⟩ (.int .u64 s)) (some g) := by
  refine ⟨rfl, rfl, rfl, by simp [World.setCell], fun k hk hne => ?_⟩
  have hkg : k ≠ g := fun e => hne (by rw [e])
  rw [Below.heap_setCell _ _ _ _ hkg, Below.heap_setCell _ _ _ _ hkg]
 refine ⟨hgr, ?_⟩
 obtain ⟨v, hv, hb⟩ := h.code
 obtain ⟨q, hq, hqc⟩ := h.pos
 obtain ⟨t, hs⟩ := h.seed
 have c0 : ((w.setCell ⟨g, 1, none⟩ (.int .i64 ((p : Int) + 1))).setCell ⟨g, 2, none⟩ (.int .u64 s)).cell? ⟨g, 0, none⟩ = some v := by
  rw [World.cell?_setCell_other _ _ _ _ (by simp), World.cell?_setCell_other _ _ _ _ (by simp)]; exact hv
 have c1 : ((w.setCell ⟨g, 1, none⟩ (.int .i64 ((p : Int) + 1))).setCell ⟨g, 2, none⟩ (.int .u64 s)).cell? ⟨g, 1, none⟩ = some (.int .i64 ((p + 1 : Nat) : Int)) := by
  rw [World.cell?_setCell_other _ _ _ _ (by simp)]; exact World.cell?_setCell_same _ _ _ hqc
 have c2 : ((w.setCell ⟨g, 1, none⟩ (.int .i64 ((p : Int) + 1))).setCell ⟨g, 2, none⟩ (.int .u64 s)).cell? ⟨g, 2, none⟩ = some (.int .u64 s) := by
  refine World.cell?_setCell_same _ _ _ (u := .int .u64 t) ?_
  rw [World.cell?_setCell_other _ _ _ _ (by simp)]; exact hs
 refine ⟨⟨v, c0, hb.keep fun b o x hlt hx => ?_⟩, ⟨p + 1, by omega, c1⟩, ⟨s, c2⟩, ?_, ?_⟩
 · have hlt2 := World.block_lt_of_cell? w _ hx
   exact (World.cell?_of_block (w := w) (a := ⟨b, o, none⟩) (hgr.block b hlt2 (fun e => by cases e; omega))).trans hx
 · simpa using h.op1
 · simpa using h.op2
theorem u64_and255 (a : Int) : 0 ≤ bits .and .u64 a 255 ∧ bits .and .u64 a 255 ≤ 255 := by
 have h : (BitVec.ofInt 64 a &&& BitVec.ofInt 64 255).toNat ≤ 255 := by
  rw [BitVec.toNat_and]; exact Nat.le_trans Nat.and_le_right (by decide)
 have e : bits .and .u64 a 255 = IntKind.u64.wrap ((BitVec.ofInt 64 a &&& BitVec.ofInt 64 255).toNat : Int) := rfl
 rw [e]
 generalize (BitVec.ofInt 64 a &&& BitVec.ofInt 64 255).toNat = k at *
 have : IntKind.u64.wrap (k : Int) = k := by simp [IntKind.wrap, IntKind.bits, IntKind.signed]; omega
 omega
def DrawI (w : World) (g m : Nat) (P : Int → Prop) (e : Ending) (w' : World) : Prop := ∃ x : Int, e = .returned (.int .i64 x) ∧ P x ∧ CStep w w' g m
theorem DrawI.mono {w : World} {g m : Nat} {P Q : Int → Prop} {e : Ending} {w' : World} (h : DrawI w g m P e w') (hPQ : ∀ x, P x → Q x) : DrawI w g m Q e w' := by
 obtain ⟨x, rfl, hp, hs⟩ := h; exact ⟨x, rfl, hPQ x hp, hs⟩
set_option maxHeartbeats 1000000 in
theorem next_c (g m : Nat) (w : World) (h : CurAt w g m) (hm : m < 4611686018427387904) :
 Calls Tryz.prog 137 #[.pointer (some ⟨g, 0, none⟩)] w (DrawI w g (m + 1) fun x => 0 ≤ x ∧ x ≤ 255) := by
 have HC := Lib.hid h
 obtain ⟨v, hv, a, c, xs, rfl, hn, hc, hby⟩ := h.code
 obtain ⟨p, hp, hpc⟩ := h.pos
 obtain ⟨s, hs⟩ := h.seed
 have f1 := h.op1
 have f2 := h.op2
 have HBY := Lib.hid hby
 clear hby h
 by_cases hlt : p < xs.length
 · obtain ⟨x, hxx⟩ := elem_at hlt
   obtain ⟨b, off, rfl, hb, hx, hcell⟩ := HBY.out p x hxx.out
   generalize xs.length = n at *
   have b1 : (p : Int) < n := by omega
   go_enter Tryz.func137, Tryz.ntmps137
   go_wp2
   go_region
   go_wp2
   go_region
   go_wp2
   go_region
   go_wp2
   go_ret
   exact ⟨_, rfl, ⟨by omega, by omega⟩, (step_two HC.out hp _).drew.drew.drew⟩
 · generalize xs.length = n at *
   have b1 : ¬ (p : Int) < n := by omega
   go_enter Tryz.func137, Tryz.ntmps137
   go_wp2
   go_region
   go_wp2
   go_region
   go_wp2
   go_ret
   have hr := u64_and255 (IntKind.u64.wrap (IntKind.u64.wrap (IntKind.u64.wrap (s * 6364136223846793005)) + 462197) / 1099511627776)
   refine ⟨_, rfl, ?_, (step_two HC.out hp _).drew.drew⟩
   unfold wrap64; omega
theorem pick_c (n : Int) (g m : Nat) (w : World) (h : CurAt w g m) (hm : m + 2 < 4611686018427387904) :
 Calls Tryz.prog 83 #[.pointer (some ⟨g, 0, none⟩), .int .i64 n] w (DrawI w g (m + 2) fun x => 0 ≤ x ∧ (1 ≤ n → x < n)) := by
 have HC := Lib.hid h
 clear h
 by_cases hn : n ≤ 1
 · go_enter Tryz.func83, Tryz.ntmps83
   go_wp2
   go_ret
   exact ⟨0, rfl, ⟨by omega, fun _ => by omega⟩, (CStep.refl HC.out).mono (by omega)⟩
 · by_cases hn2 : 200 < n
   · go_enter Tryz.func83, Tryz.ntmps83
     go_wp2_with fail
     refine (next_c g m _ HC.out (by omega)).mono ?_
     rintro e w1 ⟨x, rfl, hx, hs⟩
     have HS := Lib.hid hs
     obtain ⟨x0, x1⟩ := hx
     clear hs
     go_wp2_with fail
     refine (next_c g (m + 1) _ HS.out.cur (by omega)).mono ?_
     rintro e w2 ⟨y, rfl, hy, hs⟩
     obtain ⟨y0, y1⟩ := hy
     have HS2 := Lib.hid (HS.out.trans hs)
     clear hs
     have hz : n ≠ 0 := by omega
     have hr : 0 ≤ (x * 256 + y) % n ∧ (x * 256 + y) % n < n := ⟨Int.emod_nonneg _ hz, Int.emod_lt_of_pos _ (by omega)⟩
     have ht : Int.tmod (x * 256 + y) n = (x * 256 + y) % n := Int.tmod_eq_emod_of_nonneg (by omega)
     go_wp2
     go_ret
     exact ⟨_, rfl, ⟨hr.1, fun _ => hr.2⟩, HS2.out.mono (by omega)⟩
   · go_enter Tryz.func83, Tryz.ntmps83
     go_wp2_with fail
     refine (next_c g m _ HC.out (by omega)).mono ?_
     rintro e w1 ⟨x, rfl, hx, hs⟩
     have HS := Lib.hid hs
     obtain ⟨x0, x1⟩ := hx
     clear hs
     have hz : n ≠ 0 := by omega
     have hr : 0 ≤ x % n ∧ x % n < n := ⟨Int.emod_nonneg _ hz, Int.emod_lt_of_pos _ (by omega)⟩
     have ht : Int.tmod x n = x % n := Int.tmod_eq_emod_of_nonneg (by omega)
     go_wp2
     go_ret
     exact ⟨_, rfl, ⟨hr.1, fun _ => hr.2⟩, HS.out.mono (by omega)⟩
theorem one_c (n : Int) (g m : Nat) (w : World) (h : CurAt w g m) (hm : m + 2 < 4611686018427387904) :
 Calls Tryz.prog 84 #[.pointer (some ⟨g, 0, none⟩), .int .i64 n] w fun e w' => ∃ b : Bool, e = .returned (.bool b) ∧ CStep w w' g (m + 2) := by
 have HC := Lib.hid h
 clear h
 go_enter Tryz.func84, Tryz.ntmps84
 go_wp2_with fail
 refine (pick_c n g m _ HC.out hm).mono ?_
 rintro e w1 ⟨x, rfl, hx, hs⟩
 have HS := Lib.hid hs
 clear hs hx
 go_wp2
 go_ret
 exact ⟨_, rfl, HS.out⟩
theorem among_c (v : Value) (xs : List Int) (g m : Nat) (w : World) (h : CurAt w g m) (hm : m + 2 < 4611686018427387904) (hv : Ints w v xs) (hne : v.ownBlock ≠ some g) (hp : 0 < xs.length) :
 Calls Tryz.prog 82 #[.pointer (some ⟨g, 0, none⟩), v] w (DrawI w g (m + 2) fun x => x ∈ xs) := by
 have HC := Lib.hid h
 have HV := Lib.hid hv
 obtain ⟨a, c, rfl, _, _, _⟩ := hv.parts
 have HNE := Lib.hid hne
 clear h hne hv
 go_enter Tryz.func82, Tryz.ntmps82
 go_wp2_with fail
 refine (pick_c xs.length g m _ HC.out hm).mono ?_
 rintro e w1 ⟨x, rfl, hx, hs⟩
 obtain ⟨k, rfl⟩ := Int.eq_ofNat_of_zero_le hx.1
 have hk : k < xs.length := by have := hx.2 (by omega); omega
 have HS := Lib.hid hs
 obtain ⟨_, _, he, _, _, H2⟩ := (HV.out.grown hs.gr (.inr HNE.out)).parts
 simp only [Value.slice.injEq, true_and] at he
 obtain ⟨rfl, rfl⟩ := he
 obtain ⟨x, hx2⟩ := elem_at hk
 obtain ⟨b, o, rfl, hc⟩ := H2.out k x hx2.out
 clear hs hx
 go_wp2
 go_ret
 exact ⟨x, rfl, List.mem_of_getElem? hx2.out, HS.out⟩
theorem ints_lit (w : World) (xs : List Int) (hl : xs.length ≤ 1000) : Ints (w.alloc (.cells (xs.map (Value.int .i64)).toArray 3)) (.slice (some ⟨w.heap.size, 0, none⟩) xs.length xs.length) xs :=
 Ints.of_own (lo := w.heap.size) (e := 3) (ownsRow_cast (World.ownsRow_lit w (xs.map (Value.int .i64)).toArray xs.length (Nat.le_refl _) (by unfold maxLen; omega) (by simp)) rfl (by simp))
theorem amongL_c (xs : List Int) (g m : Nat) (w : World) (n : Nat) (hn : n = w.heap.size) (h : CurAt w g m) (hm : m + 2 < 4611686018427387904) (hp : 0 < xs.length) (hl : xs.length ≤ 1000) :
 Calls Tryz.prog 82 #[.pointer (some ⟨g, 0, none⟩), .slice (some ⟨n, 0, none⟩) xs.length xs.length] (w.alloc (.cells (xs.map (Value.int .i64)).toArray 3)) (DrawI w g (m + 2) fun x => x ∈ xs) := by
 subst hn
 exact (among_c _ xs g m _ (h.alloc _) hm (ints_lit w xs hl) (by have := h.lt; simp [Value.ownBlock]; omega) hp).mono fun e w' ⟨x, he, hx, hs⟩ =>
  ⟨x, he, hx, ⟨grow_trans (grow_below (below_one _)) hs.gr, hs.cur⟩⟩
def Code (w : World) (v : Value) (xs : List Nat) : Prop :=
 ∃ a c, v = .slice a xs.length c ∧ xs.length ≤ c ∧ c ≤ 9223372036854775807 ∧ (a = none → c = 0) ∧ ∀ (k x : Nat), xs[k]? = some x → ∃ b off, a = some ⟨b, off, none⟩ ∧ x ≤ 255 ∧ w.cell? ⟨b, off + k, none⟩ = some (.int .u8 (x : Int))
theorem Code.keep {w w' : World} {v : Value} {xs : List Nat} (h : Code w v xs) (hk : ∀ b o x, w.cell? ⟨b, o, none⟩ = some x → w'.cell? ⟨b, o, none⟩ = some x) : Code w' v xs := by
 obtain ⟨a, c, rfl, h1, h2, h0, h3⟩ := h
 refine ⟨a, c, rfl, h1, h2, h0, fun k x hx => ?_⟩
 obtain ⟨b, off, e, hx, hc⟩ := h3 k x hx
 exact ⟨b, off, e, hx, hk _ _ _ hc⟩
theorem Code.below {w w' : World} {v : Value} {xs : List Nat} (h : Code w v xs) (hb : Below w.heap.size w w') : Code w' v xs := h.keep fun b o x hx => cell_later hb hx
theorem Code.bys {w : World} {v : Value} {xs : List Nat} (h : Code w v xs) : Bys w v w.heap.size := by
 obtain ⟨a, c, rfl, h1, h2, h0, h3⟩ := h
 refine ⟨a, c, xs, rfl, h1, h2, fun k x hx => ?_⟩
 obtain ⟨b, off, e, hx, hc⟩ := h3 k x hx
 exact ⟨b, off, e, World.block_lt_of_cell? _ _ hc, hx, hc⟩
theorem Code.own {w : World} {v : Value} {lo : Nat} {xs : List Nat} (h : w.ownsRow lo 5 1 v xs.length (xs.map fun (x : Nat) => Value.int .u8 (x : Int))) (h255 : ∀ x ∈ xs, x ≤ 255) : Code w v xs := by
 obtain ⟨h1, h2⟩ := h
 rcases h2 with ⟨rfl, h0⟩ | ⟨g, cap, cur, rfl, hb, hg, hn, hc, hs, ht⟩
 · have : xs = [] := List.eq_nil_of_length_eq_zero (by simpa using h0)
   subst this
   exact ⟨none, 0, rfl, by simp, by omega, fun _ => rfl, fun k x hx => by simp at hx⟩
 · refine ⟨_, _, rfl, hn, by unfold maxLen at hc; omega, fun e => (by cases e), fun k x hx => ⟨g, 0, rfl, h255 x (List.mem_of_getElem? hx), ?_⟩⟩
   have hlt := (List.getElem?_eq_some_iff.1 hx).1
   rw [Nat.zero_add, cell_of_row w g k cur 5 (0, 0) hg, ← Array.getElem?_toList]
   have h3 : (cur.toList.take (xs.length * 1))[k]? = some (Value.int .u8 (x : Int)) := by rw [ht, List.getElem?_map, hx]; rfl
   rw [List.getElem?_take, if_pos (by omega)] at h3
   exact h3
theorem cur_new {w : World} {v : Value} {xs : List Nat} (h : Code w v xs) : CurAt (w.alloc (.cells #[v, .int .i64 0, .int .u64 0] 83)) w.heap.size 0 := by
 have hb := Bk.new w 83 #[v, .int .i64 0, .int .u64 0]
 exact ⟨⟨v, hb.cell 0, h.bys.keep fun b o x hlt hx => cell_later (below_one _) hx⟩, ⟨0, Nat.le_refl _, hb.cell 1⟩, ⟨0, hb.cell 2⟩, hb.frozen 1, hb.frozen 2⟩
theorem vBig_c (v : Value) (xs : List Nat) (w : World) (h : Code w v xs) : Calls Tryz.prog 9 #[v] w fun e w' => e = .returned (.bool (decide (65536 < xs.length))) ∧ w = w' := by
 obtain ⟨a, c, rfl, _⟩ := h
 go_enter Tryz.func9, Tryz.ntmps9
 go_wp2
 go_ret
 exact ⟨bool_ret (by rw [decide_eq_decide]; omega), rfl⟩
end Go.Proofs.YtohgjfdbnkjefaaGreatDoor
namespace Go.Proofs.YtohgjfdbnkjefaaGreatDoor
open Go.ChangeShapes Go.WideShapes Go.ChangeAt Go.RowKit Go.Joins Go.Deep
set_option linter.unusedVariables false
set_option maxRecDepth 100000
section
variable {H : Type} {enc : TypeId × Value → H} {w : World} {base : Nat} {spare : Nat → Bool} {held : Bool}
theorem u8_wf {n : Int} (h : (Lit.int .u8 n).wf = true) : 0 ≤ n ∧ n ≤ 255 := by
 simp only [Lit.wf, Bool.and_eq_true, decide_eq_true_eq] at h
 have h0 : IntKind.u8.min = 0 := by decide
 have h1 : IntKind.u8.max = 255 := by decide
 omega
theorem open_bytes {r : Reach} {b0 : Nat} {v : Value} {d : DataW H} {p : List MemPlace} (hv : Value.okWide Tryz.prog w r b0 22 v) (h : DataW.Trod enc Tryz.prog w base spare held 22 v d p) : ∃ xs, Code w v xs := by
 obtain ⟨a0, len0, cap0, rfl⟩ := okWide_slice Tryz.underlying22 hv
 obtain ⟨fuel, hf⟩ := h
 rcases open_ints Tryz.underlying22 Tryz.underlying5 (by kernel_rfl) hf with ⟨hcs, _⟩ | ⟨x, l, c, zs, hcs, _, hl, hm, hz, _, hcell, hwz⟩
 · simp [Value.cells] at hcs
   obtain ⟨rfl, rfl, rfl⟩ := hcs
   exact ⟨[], none, 0, rfl, by simp, by omega, fun _ => rfl, fun k x hx => by simp at hx⟩
 · simp [Value.cells] at hcs
   obtain ⟨rfl, rfl, rfl⟩ := hcs
   refine ⟨(zs.take len0).map Int.toNat, ?_⟩
   have hlc : len0 ≤ zs.length := by
    revert hz; cases spare x.block <;> simp <;> omega
   have hlen : ((zs.take len0).map Int.toNat).length = len0 := by rw [List.length_map, List.length_take, Nat.min_eq_left hlc]
   refine ⟨some x, cap0, by rw [hlen], by rw [hlen]; exact hl, by unfold maxLen at hm; omega, (fun e => by cases e), fun k y hy => ?_⟩
   have hk : k < len0 := by have := (List.getElem?_eq_some_iff.1 hy).1; omega
   obtain ⟨b, off, spot⟩ := x
   have h0 := hcell 0 (by omega)
   have hs : spot = none := by
    cases spot with
    | none => rfl
    | some s =>
     exfalso
     unfold Addr.add at h0; simp [World.cell?] at h0
     split at h0 <;> simp_all
   subst hs
   have hkz : k < zs.length := by omega
   rw [List.getElem?_map, List.getElem?_take, if_pos hk, List.getElem?_eq_getElem hkz] at hy
   simp only [Option.map_some, Option.some.injEq] at hy
   have hw := u8_wf (hwz zs[k] (List.getElem_mem hkz))
   refine ⟨b, off, rfl, by omega, ?_⟩
   have := hcell k hkz
   rw [Addr.add_lit] at this
   rw [this]
   have e : zs.getD k 0 = (y : Int) := by simp [hkz]; omega
   rw [e]
end
end Go.Proofs.YtohgjfdbnkjefaaGreatDoor
namespace Go.Proofs.YtohgjfdbnkjefaaGreatDoor
set_option linter.unusedVariables false
def ckS (s : List UInt8) : Int := s.foldl (fun h c => (41 * h + (c.toNat : Int) + 1) % 999979) 7
theorem ckS_snoc (s : List UInt8) (c : UInt8) : ckS (s ++ [c]) = (41 * ckS s + (c.toNat : Int) + 1) % 999979 := by unfold ckS; rw [List.foldl_append]; rfl
theorem snocB {M : List UInt8 → Prop} (h0 : M []) (h1 : ∀ l x, M l → M (l ++ [x])) (l : List UInt8) : M l := by
 have : ∀ n (l : List UInt8), l.length = n → M l := by
  intro n
  induction n with
  | zero => intro l h; rw [List.eq_nil_of_length_eq_zero h]; exact h0
  | succ n ih =>
   intro l h
   have e : l = l.take n ++ [l[n]'(by omega)] := by
    rw [List.take_append_getElem]; rw [List.take_of_length_le (by omega)]
   rw [e]
   exact h1 _ _ (ih _ (by rw [List.length_take]; omega))
 exact this _ l rfl
theorem ckS_bd (s : List UInt8) : 0 ≤ ckS s ∧ ckS s < 999979 := by
 refine snocB (M := fun s => 0 ≤ ckS s ∧ ckS s < 999979) ?_ (fun l x ih => ?_) s
 · decide
 · rw [ckS_snoc]
   omega
theorem ckS_take {s : List UInt8} {k : Nat} (hk : k < s.length) : ckS (s.take (k + 1)) = (41 * ckS (s.take k) + ((s[k]).toNat : Int) + 1) % 999979 := by
 rw [List.take_succ_eq_append_getElem hk, ckS_snoc]
def sealS (s : List UInt8) : List UInt8 := s ++ 35 :: Lib.itoa (ckS s)
def lineS (k : Int) (c r : List UInt8) : List UInt8 := sealS (Lib.itoa k ++ 32 :: c ++ 64 :: r) ++ [10]
theorem itoa_nat (n : Nat) : Lib.itoa (n : Int) = Lib.decDigits n := by
 unfold Lib.itoa
 rw [if_neg (by omega)]; simp
open Go.RowKit
set_option maxRecDepth 100000
def bs (l : List UInt8) : ByteArray := ⟨l.toArray⟩
theorem ba_len (s : ByteArray) : s.data.toList.length = s.size := by simp
theorem ba_at {s : ByteArray} {k : Nat} (h : k < s.size) : s.data.toList[k]'(by rw [ba_len]; exact h) = s[k] := by simp; rfl
theorem ck_step {s : ByteArray} {k : Nat} (hk : k < s.size) : ckS (s.data.toList.take (k + 1)) = (41 * ckS (s.data.toList.take k) + ((s[k]).toNat : Int) + 1) % 999979 := by
 rw [ckS_take (by rw [ba_len]; exact hk), ba_at hk]
set_option maxHeartbeats 1000000 in
theorem checksum_c (s : ByteArray) (w : World) (hs : s.size ≤ 1073741824) : Calls Tryz.prog 204 #[.string s] w fun e w' => e = .returned (.int .i64 (ckS s.data.toList)) ∧ w = w' := by
 go_enter Tryz.func204, Tryz.ntmps204
 go_wp2
 go_loopw [3, 7] (fun h j wr => ∃ k : Nat, k ≤ s.size ∧ j = .int .i64 (k : Int) ∧ h = .int .i64 (ckS (s.data.toList.take k)) ∧ w = wr) (fun _ j _ => s.size - (intOf j).toNat)
 case atStart => exact ⟨0, by omega, rfl, rfl, rfl⟩
 case round =>
  obtain ⟨k, hk, rfl, rfl, rfl⟩ := hrel
  by_cases hlt : k < s.size
  · have hd : decide ((k : Int) < (s.size : Int)) = true := by simp; omega
    have hbl : s[k].toNat < 256 := s[k].toNat_lt
    have HS := Lib.hid (ck_step hlt)
    have hbd := ckS_bd (s.data.toList.take k)
    generalize ckS (s.data.toList.take k) = h at *
    generalize hc : s[k] = c at *
    generalize hn : c.toNat = n at *
    have hw : wrap64 ((n : Nat) : Int) = ((n : Nat) : Int) := by simp only [wrap64]; omega
    have hw1 : IntKind.i64.wrap (41 * h) = 41 * h := IntWalk.i64_in _ (by omega)
    have hw2 : IntKind.i64.wrap (41 * h + (n : Int)) = 41 * h + (n : Int) := IntWalk.i64_in _ (by omega)
    have hw3 : IntKind.i64.wrap (41 * h + (n : Int) + 1) = 41 * h + (n : Int) + 1 := IntWalk.i64_in _ (by omega)
    have hm : Int.tmod (41 * h + (n : Int) + 1) 999979 = (41 * h + (n : Int) + 1) % 999979 := Int.tmod_eq_emod_of_nonneg (by omega)
    go_wp2
    go_roundw
    case rel => exact ⟨k + 1, by omega, by go_num, by rw [HS.out], by trivial⟩
    case measure => simp [intOf]; omega
  · obtain rfl : k = s.size := by omega
    have HE : Hid (s.data.toList.take s.size = s.data.toList) := List.take_of_length_le (by rw [ba_len]; omega)
    rw [HE.out]
    go_wp2
    go_ret
    exact ⟨rfl, rfl⟩
theorem bs_append (a b : List UInt8) : bs a ++ bs b = bs (a ++ b) := ByteArray.ext (by simp [bs])
end Go.Proofs.YtohgjfdbnkjefaaGreatDoor
