/- Texts of this claim, gathered: LogP, Box, Str, Rec, Seal, CutP, Dec, Split. -/
import Derived.Test.YtohgjfdbnkjefaaGreatDoorKw1
import Derived.Lib.ItoaLen
import Derived.Test.YtohgjfdbnkjefaaGreatDoorSf
import Derived.Lib.IndexAny
import Derived.Lib.SmallJoins
import Derived.Lib.LastIndexLaws
import Derived.Lib.Strings
import Derived.Lib.Bytealg
namespace Go.Proofs.YtohgjfdbnkjefaaGreatDoor
set_option linter.unusedVariables false
abbrev Bs := List UInt8
def prU (c : UInt8) : Bool := decide (32 ≤ c.toNat) && decide (c.toNat ≤ 126) && !(c.toNat == 35)
def okE (e : Bs × Bs) : Bool := decide (1 ≤ e.1.length) && decide (e.1.length ≤ 160) && e.1.all prU && !e.1.contains 64 && decide (e.2.length ≤ 250) && e.2.all prU
structure OkE (e : Bs × Bs) : Prop where
 l1 : 1 ≤ e.1.length
 l2 : e.1.length ≤ 160
 p1 : ∀ c ∈ e.1, 32 ≤ c.toNat ∧ c.toNat ≤ 126 ∧ c ≠ 35
 at_ : (64 : UInt8) ∉ e.1
 l3 : e.2.length ≤ 250
 p2 : ∀ c ∈ e.2, 32 ≤ c.toNat ∧ c.toNat ≤ 126 ∧ c ≠ 35
theorem prU_iff (c : UInt8) : prU c = true ↔ (32 ≤ c.toNat ∧ c.toNat ≤ 126 ∧ c ≠ 35) := by
 unfold prU
 simp only [Bool.and_eq_true, decide_eq_true_eq, Bool.not_eq_true', beq_eq_false_iff_ne, ne_eq]
 have h35 : c = 35 ↔ c.toNat = 35 := ⟨fun h => by rw [h]; rfl, fun h => UInt8.toNat_inj.1 (by rw [h]; rfl)⟩
 rw [h35, and_assoc]
theorem okE_iff (e : Bs × Bs) : okE e = true ↔ OkE e := by
 unfold okE
 simp only [Bool.and_eq_true, decide_eq_true_eq, List.all_eq_true, prU_iff, Bool.not_eq_true', ← Bool.not_eq_true, List.contains_iff_mem]
 constructor
 · rintro ⟨⟨⟨⟨⟨a, b⟩, c⟩, d⟩, f⟩, g⟩; exact ⟨a, b, c, d, f, g⟩
 · rintro ⟨a, b, c, d, f, g⟩; exact ⟨⟨⟨⟨⟨a, b⟩, c⟩, d⟩, f⟩, g⟩
theorem decDigits_digit : ∀ (n : Nat), ∀ c ∈ Lib.decDigits n, 48 ≤ c.toNat ∧ c.toNat ≤ 57 := by
 intro n
 induction n using Nat.strongRecOn with
 | ind n ih =>
  intro c hc
  rw [Lib.decDigits] at hc
  split at hc
  · rename_i h
    simp only [List.mem_singleton] at hc
    subst hc
    have : (UInt8.ofNat (48 + n)).toNat = 48 + n := by simp; omega
    omega
  · rename_i h
    rw [List.mem_append] at hc
    rcases hc with hc | hc
    · exact ih (n / 10) (by omega) c hc
    · simp only [List.mem_singleton] at hc
      subst hc
      have : (UInt8.ofNat (48 + n % 10)).toNat = 48 + n % 10 := by simp; omega
      omega
theorem itoa_digit {k : Int} (h : 0 ≤ k) : ∀ c ∈ Lib.itoa k, 48 ≤ c.toNat ∧ c.toNat ≤ 57 := by
 obtain ⟨n, rfl⟩ := Int.eq_ofNat_of_zero_le h
 show ∀ c ∈ Lib.itoa (n : Int), _
 rw [itoa_nat]; exact decDigits_digit n
def bodyS (k : Nat) (e : Bs × Bs) : Bs := Lib.itoa (k : Int) ++ 32 :: (e.1 ++ 64 :: e.2)
def lnS (k : Nat) (e : Bs × Bs) : Bs := sealS (bodyS k e) ++ [10]
theorem lnS_def (k : Nat) (e : Bs × Bs) : lnS k e = lineS (k : Int) e.1 e.2 := by unfold lnS bodyS lineS; simp
theorem not_mem_of_digit {l : Bs} {c : UInt8} (h : ∀ x ∈ l, 48 ≤ x.toNat ∧ x.toNat ≤ 57) (hc : c.toNat < 48 ∨ 57 < c.toNat) : c ∉ l := fun hm => by have := h c hm; omega
theorem bodyS_no {k : Nat} {e : Bs × Bs} (h : OkE e) {c : UInt8} (hc : c = 35 ∨ c = 10) : c ∉ bodyS k e := by
 unfold bodyS
 simp only [List.mem_append, List.mem_cons, not_or]
 refine ⟨not_mem_of_digit (itoa_digit (by omega)) (by rcases hc with rfl | rfl <;> decide), by rcases hc with rfl | rfl <;> decide, fun hm => ?_, by rcases hc with rfl | rfl <;> decide, fun hm => ?_⟩
 · have := h.p1 c hm; rcases hc with rfl | rfl
   · exact this.2.2 rfl
   · exact absurd this.1 (by decide)
 · have := h.p2 c hm; rcases hc with rfl | rfl
   · exact this.2.2 rfl
   · exact absurd this.1 (by decide)
theorem sealS_no10 {k : Nat} {e : Bs × Bs} (h : OkE e) : (10 : UInt8) ∉ sealS (bodyS k e) := by
 unfold sealS
 simp only [List.mem_append, List.mem_cons, not_or]
 exact ⟨bodyS_no h (.inr rfl), by decide, not_mem_of_digit (itoa_digit (ckS_bd _).1) (by decide)⟩
theorem part_inj {a b a' b' : Bs} {c : UInt8} (ha : c ∉ a) (ha' : c ∉ a') (h : a ++ c :: b = a' ++ c :: b') : a = a' ∧ b = b' := by
 induction a generalizing a' with
 | nil =>
  cases a' with
  | nil => simpa using h
  | cons x t => simp at h; exact absurd (by rw [h.1]; simp) ha'
 | cons x t ih =>
  cases a' with
  | nil => simp at h; exact absurd (by rw [h.1]; simp) ha
  | cons y u =>
   simp at h ha ha'
   obtain ⟨h1, h2⟩ := ih ha.2 ha'.2 h.2
   rw [h.1, h1]; exact ⟨rfl, h2⟩
theorem bodyS_inj {k : Nat} {e e' : Bs × Bs} (h : OkE e) (h' : OkE e') (he : bodyS k e = bodyS k e') : e = e' := by
 unfold bodyS at he
 have h1 := List.append_cancel_left he
 simp only [List.cons.injEq, true_and] at h1
 obtain ⟨h2, h3⟩ := part_inj h.at_ h'.at_ h1
 exact Prod.ext h2 h3
theorem lnS_inj {k : Nat} {e e' : Bs × Bs} {x x' : Bs} (h : OkE e) (h' : OkE e') (he : lnS k e ++ x = lnS k e' ++ x') : e = e' ∧ x = x' := by
 unfold lnS at he
 rw [List.append_assoc, List.append_assoc] at he
 obtain ⟨h1, h2⟩ := part_inj (sealS_no10 h) (sealS_no10 h') he
 unfold sealS at h1
 obtain ⟨h3, _⟩ := part_inj (bodyS_no h (.inl rfl)) (bodyS_no h' (.inl rfl)) h1
 exact ⟨bodyS_inj h h' h3, h2⟩
def linesS (k : Nat) : List (Bs × Bs) → Bs
 | [] => []
 | e :: t => lnS k e ++ linesS (k + 1) t
theorem linesS_snoc (k : Nat) (es : List (Bs × Bs)) (e : Bs × Bs) : linesS k (es ++ [e]) = linesS k es ++ lnS (k + es.length) e := by
 induction es generalizing k with
 | nil => simp [linesS]
 | cons x t ih => simp only [List.cons_append, linesS, ih, List.append_assoc, List.length_cons]; rw [show k + (t.length + 1) = k + 1 + t.length by omega]
def Begins (k : Nat) (s : Bs) (e : Bs × Bs) : Prop := OkE e ∧ ∃ x, s = lnS k e ++ x
structure Opens (s : Bs) (es : List (Bs × Bs)) (rest : Bs) : Prop where
 ok : ∀ e ∈ es, OkE e
 le : es.length ≤ 60
 eq : s = linesS 0 es ++ rest
 stop : es.length = 60 ∨ ∀ e, ¬ Begins es.length rest e
theorem opens_at {k : Nat} {s r r' : Bs} {es es' : List (Bs × Bs)} (h : ∀ e ∈ es, OkE e) (h' : ∀ e ∈ es', OkE e) (he : s = linesS k es ++ r) (he' : s = linesS k es' ++ r')
 (hl : k + es.length ≤ 60) (hl' : k + es'.length ≤ 60) (hs : k + es.length = 60 ∨ ∀ e, ¬ Begins (k + es.length) r e) (hs' : k + es'.length = 60 ∨ ∀ e, ¬ Begins (k + es'.length) r' e) : es = es' ∧ r = r' := by
 induction es generalizing k s es' with
 | nil =>
  cases es' with
  | nil => simp [linesS] at he he'; exact ⟨rfl, he.symm.trans he'⟩
  | cons x t =>
   simp only [linesS, List.nil_append, List.append_assoc, List.length_nil, Nat.add_zero, List.length_cons] at he he' hs hl'
   rcases hs with hs | hs
   · omega
   · exact absurd ⟨h' x (by simp), _, he.symm.trans he'⟩ (hs x)
 | cons e t ih =>
  cases es' with
  | nil =>
   simp only [linesS, List.nil_append, List.append_assoc, List.length_nil, Nat.add_zero, List.length_cons] at he he' hs' hl
   rcases hs' with hs' | hs'
   · omega
   · exact absurd ⟨h e (by simp), _, he'.symm.trans he⟩ (hs' e)
  | cons x u =>
   simp only [linesS, List.append_assoc] at he he'
   obtain ⟨rfl, h2⟩ := lnS_inj (h e (by simp)) (h' x (by simp)) (he.symm.trans he')
   simp only [List.length_cons] at hl hl' hs hs'
   rw [show k + (t.length + 1) = k + 1 + t.length by omega] at hl hs
   rw [show k + (u.length + 1) = k + 1 + u.length by omega] at hl' hs'
   obtain ⟨rfl, h3⟩ := ih (k := k + 1) (s := linesS (k + 1) t ++ r) (fun a ha => h a (by simp [ha])) (fun a ha => h' a (by simp [ha])) rfl h2 hl hl' hs hs'
   exact ⟨rfl, h3⟩
theorem Opens.uniq {s r r' : Bs} {es es' : List (Bs × Bs)} (h : Opens s es r) (h' : Opens s es' r') : es = es' ∧ r = r' :=
 opens_at h.ok h'.ok h.eq h'.eq (by have := h.le; omega) (by have := h'.le; omega) (by simpa using h.stop) (by simpa using h'.stop)
theorem Opens.whole {es : List (Bs × Bs)} (h : ∀ e ∈ es, OkE e) (hl : es.length ≤ 60) : Opens (linesS 0 es) es [] :=
 ⟨h, hl, by simp, .inr fun e ⟨_, x, hx⟩ => by unfold lnS at hx; simp at hx⟩
theorem itoa_len {n : Int} (h0 : 0 ≤ n) (h : n < 1000000) : (Lib.itoa n).length ≤ 20 := by
 obtain ⟨m, rfl⟩ := Int.eq_ofNat_of_zero_le h0
 have h1 : Lib.itoa (Int.ofNat m) = Lib.decDigits m := itoa_nat m
 have hm : m < 1000000 := by have : ((m : Nat) : Int) < 1000000 := h; omega
 have := Lib.nDigits_le20 m (by omega)
 show (Lib.itoa (Int.ofNat m)).length ≤ 20
 rw [h1, Lib.decDigits_length]; exact this
theorem bodyS_len {k : Nat} {e : Bs × Bs} (h : OkE e) (hk : k < 60) : (bodyS k e).length ≤ 432 := by
 have h1 : (Lib.itoa (k : Int)).length ≤ 20 := itoa_len (by omega) (by omega)
 have := h.l2; have := h.l3
 unfold bodyS
 simp
 omega
theorem sealS_len (s : Bs) : (sealS s).length ≤ s.length + 21 := by
 have h2 : (Lib.itoa (ckS s)).length ≤ 20 := itoa_len (ckS_bd s).1 (by have := (ckS_bd s).2; omega)
 unfold sealS
 simp
 omega
theorem lnS_len {k : Nat} {e : Bs × Bs} (h : OkE e) (hk : k < 60) : (lnS k e).length ≤ 454 := by
 have := bodyS_len h hk
 have := sealS_len (bodyS k e)
 unfold lnS
 simp
 omega
open Go.RowKit
theorem box_after {w w1 : World} {cs : Array Value} {t : TypeId} (hb : Below (w.alloc (.cells cs t)).heap.size (w.alloc (.cells cs t)) w1) :
 (∀ j v, cs[j]? = some v → w1.cell? ⟨w.heap.size, j, none⟩ = some v) ∧ ∀ j, w1.frozen? ⟨w.heap.size, j, none⟩ = false := by
 refine ⟨fun j v h => ?_, fun j => ?_⟩
 · rw [hb.cell (p := ⟨w.heap.size, j, none⟩) (by simp), World.cell?_alloc_at _ _ _ _ rfl]; exact h
 · rw [hb.frozen (p := ⟨w.heap.size, j, none⟩) (by simp), World.frozen?_alloc_new]
theorem two_set {w w2 : World} {b : Nat} {x y : Value} (X Y : Value) (h0 : w2.cell? ⟨b, 0, none⟩ = some x) (h1 : w2.cell? ⟨b, 1, none⟩ = some y) (hb : Below w.heap.size w w2) (hbb : w.heap.size ≤ b) :
 ((w2.setCell ⟨b, 0, none⟩ X).setCell ⟨b, 1, none⟩ Y).cell? ⟨b, 0, none⟩ = some X ∧ ((w2.setCell ⟨b, 0, none⟩ X).setCell ⟨b, 1, none⟩ Y).cell? ⟨b, 1, none⟩ = some Y ∧ Below w.heap.size w ((w2.setCell ⟨b, 0, none⟩ X).setCell ⟨b, 1, none⟩ Y) := by
 refine ⟨?_, ?_, (hb.setCell hbb _).setCell hbb _⟩
 · rw [World.cell?_setCell_other _ _ _ _ (by simp)]; exact World.cell?_setCell_same _ _ _ h0
 · exact World.cell?_setCell_same _ _ _ (u := y) (by rw [World.cell?_setCell_other _ _ _ _ (by simp)]; exact h1)
set_option maxRecDepth 100000
def prB (c : UInt8) : Bool := inB (c.toNat : Int) 32 126 && !(c.toNat == 35)
def printB (s : ByteArray) : Bool := s.data.toList.all prB
theorem printB_bad {s : ByteArray} {k : Nat} (hk : k < s.size) (h : prB s[k] = false) : printB s = false := by
 unfold printB
 rw [Bool.eq_false_iff]; intro h2
 rw [List.all_eq_true] at h2
 have := h2 s[k] (by
  have : s.data.toList[k]? = some s[k] := by simp [hk]; rfl
  exact List.mem_of_getElem? this)
 rw [this] at h; cases h
theorem printB_ok {s : ByteArray} (h : ∀ j (hj : j < s.size), prB s[j] = true) : printB s = true := by
 unfold printB
 rw [List.all_eq_true]
 intro c hc
 obtain ⟨j, hj, rfl⟩ := List.getElem_of_mem hc
 exact h j (by simpa using hj)
theorem byte_lt (c : UInt8) : c.toNat < 256 := c.toNat_lt
theorem isPrinted_c (s : ByteArray) (w : World) (hs : s.size ≤ 1073741824) : Calls Tryz.prog 99 #[.string s] w fun e w' => e = .returned (.bool (printB s)) ∧ w = w' := by
 go_enter Tryz.func99, Tryz.ntmps99
 go_wp2
 go_loopw [6] (fun j wr => ∃ k : Nat, k ≤ s.size ∧ j = .int .i64 (k : Int) ∧ Hid (∀ j (hj : j < s.size), j < k → prB s[j] = true) ∧ w = wr) (fun j _ => s.size - (intOf j).toNat)
 case atStart => exact ⟨0, by omega, rfl, fun j hj h => by omega, rfl⟩
 case round =>
  obtain ⟨k, hk, rfl, hbef, rfl⟩ := hrel
  by_cases hlt : k < s.size
  · have hd : decide ((k : Int) < (s.size : Int)) = true := by simp; omega
    have hbl := byte_lt s[k]
    have hw : wrap64 ((s[k].toNat : Nat) : Int) = ((s[k].toNat : Nat) : Int) := by simp only [wrap64]; omega
    have hpr : prB s[k] = (inB (s[k].toNat : Int) 32 126 && !(s[k].toNat == 35)) := rfl
    have HB := Lib.hid (fun h => printB_bad (s := s) hlt h)
    have HE : Hid (prB s[k] = true → ∀ j (hj : j < s.size), j < k + 1 → prB s[j] = true) := fun h j hj hjk => by
     by_cases hj2 : j < k
     · exact hbef.out j hj hj2
     · obtain rfl : j = k := by omega
       exact h
    clear hbef
    generalize hc : s[k] = c at *
    generalize hn : c.toNat = n at *
    go_wp2_with fail
    refine (within_c _ _ _ _).mono ?_
    rintro e w2 ⟨rfl, rfl⟩
    rcases hq : inB (n : Int) 32 126 with _ | _
    · have HF := Lib.hid (HB.out (by rw [hpr, hq]; rfl))
      clear HB HE hpr
      go_wp2
      go_ret
      exact ⟨by rw [HF.out]; rfl, rfl⟩
    · rcases hq2 : n == 35 with _ | _
      · have HF := Lib.hid (HE.out (by rw [hpr, hq, hq2]; rfl))
        have h35 : ((n : Int) == 35) = false := by simp at hq2 ⊢; omega
        clear HB HE hpr
        go_wp2
        go_roundw
        case rel => exact ⟨k + 1, by omega, by go_num, HF.out, by trivial⟩
        case measure => simp [intOf]; omega
      · have HF := Lib.hid (HB.out (by rw [hpr, hq, hq2]; rfl))
        have h35 : ((n : Int) == 35) = true := by simp at hq2 ⊢; omega
        clear HB HE hpr
        go_wp2
        go_ret
        exact ⟨by rw [HF.out]; rfl, rfl⟩
  · obtain rfl : k = s.size := by omega
    go_wp2
    go_ret
    exact ⟨bool_ret (printB_ok fun j hj => hbef.out j hj hj).symm, rfl⟩
def standsB (s : ByteArray) (c : UInt8) : Bool := s.data.toList.contains c
def cmdB (c : ByteArray) : Bool := inB (c.size : Int) 1 160 && (printB c && !standsB c 64)
def recB (c r : ByteArray) : Bool := cmdB c && (decide ((r.size : Int) ≤ 250) && printB r)
theorem Contains_c (s : ByteArray) (c : UInt8) (w : World) : Calls Tryz.prog 65 #[.string s, .string ⟨#[c]⟩] w fun e w' => e = .returned (.bool (standsB s c)) ∧ w = w' :=
 (Tryz.strings_Contains_one s c w).mono fun e w' h => ⟨by rw [h.1]; unfold standsB; rw [Lib.contains_iff_indexByte], h.2.symm⟩
theorem isCommand_c (s : ByteArray) (w : World) (hs : s.size ≤ 1073741824) : Calls Tryz.prog 53 #[.string s] w fun e w' => e = .returned (.bool (cmdB s)) ∧ w = w' := by
 rcases h1 : inB (s.size : Int) 1 160 with _ | _
 · have H1 := Lib.hid h1
   have HF := Lib.hid (show cmdB s = false by unfold cmdB; rw [h1]; rfl); clear h1
   go_enter Tryz.func53, Tryz.ntmps53
   go_wp2_with fail
   refine (within_c _ _ _ _).mono ?_
   rintro e w2 ⟨rfl, rfl⟩
   rw [H1.out]
   go_wp2
   go_ret
   exact ⟨by rw [HF.out]; rfl, rfl⟩
 · rcases h2 : printB s with _ | _
   · have H1 := Lib.hid h1; have H2 := Lib.hid h2
     have HF := Lib.hid (show cmdB s = false by unfold cmdB; rw [h1, h2]; rfl); clear h1 h2
     go_enter Tryz.func53, Tryz.ntmps53
     go_wp2_with fail
     refine (within_c _ _ _ _).mono ?_
     rintro e w2 ⟨rfl, rfl⟩
     rw [H1.out]
     go_wp2_with fail
     refine (isPrinted_c s _ hs).mono ?_
     rintro e w2 ⟨rfl, rfl⟩
     rw [H2.out]
     go_wp2
     go_ret
     exact ⟨by rw [HF.out]; rfl, rfl⟩
   · have H1 := Lib.hid h1; have H2 := Lib.hid h2
     have HF := Lib.hid (show cmdB s = !standsB s 64 by unfold cmdB; rw [h1, h2]; rfl); clear h1 h2
     go_enter Tryz.func53, Tryz.ntmps53
     go_wp2_with fail
     refine (within_c _ _ _ _).mono ?_
     rintro e w2 ⟨rfl, rfl⟩
     rw [H1.out]
     go_wp2_with fail
     refine (isPrinted_c s _ hs).mono ?_
     rintro e w2 ⟨rfl, rfl⟩
     rw [H2.out]
     go_wp2_with fail
     refine (Contains_c s 64 _).mono ?_
     rintro e w2 ⟨rfl, rfl⟩
     go_wp2
     go_ret
     exact ⟨by rw [HF.out]; rfl, rfl⟩
theorem empty_size (c : ByteArray) : c.toList.isEmpty = decide (c.size = 0) := by
 rw [Lib.toList_data, Lib.size_eq]
 cases c.data.toList <;> simp
def recV (c r : ByteArray) : Value := .agg #[.string c, .string r]
theorem IsValidRecord_c (c r : ByteArray) (w : World) (hc : c.size ≤ 1073741824) (hr : r.size ≤ 1073741824) : Calls Tryz.prog 105 #[recV c r] w fun e w' => e = .returned (.bool (recB c r)) ∧ Below w.heap.size w w' := by
 unfold recV
 rcases h1 : cmdB c with _ | _
 · have H1 := Lib.hid h1
   have HF := Lib.hid (show recB c r = false by unfold recB; rw [h1]; rfl); clear h1
   go_enter Tryz.func105, Tryz.ntmps105
   go_wp2_with fail
   refine (isCommand_c _ _ hc).mono ?_
   rintro e w2 ⟨rfl, rfl⟩
   rw [H1.out]
   go_wp2
   go_ret
   exact ⟨by rw [HF.out]; rfl, by (repeat (first | exact Below.refl _ _ | exact (Below.refl _ _).drew | assumption | exact below_one _ | refine Below.chain ?_ (by assumption) | refine Below.drew ?_ | refine Below.alc ?_ _ | refine below_drewN ?_ | (refine Below.setCell ?_ ?_ _) | exact Nat.le_refl _ | (simp; done) | (simp; omega)))⟩
 · rcases h2 : decide ((r.size : Int) ≤ 250) with _ | _
   · have H1 := Lib.hid h1
     have HF := Lib.hid (show recB c r = false by unfold recB; rw [h1, h2]; rfl); clear h1
     go_enter Tryz.func105, Tryz.ntmps105
     go_wp2_with fail
     refine (isCommand_c _ _ hc).mono ?_
     rintro e w2 ⟨rfl, rfl⟩
     rw [H1.out]
     go_wp2
     go_ret
     exact ⟨by rw [HF.out]; rfl, by (repeat (first | exact Below.refl _ _ | exact (Below.refl _ _).drew | assumption | exact below_one _ | refine Below.chain ?_ (by assumption) | refine Below.drew ?_ | refine Below.alc ?_ _ | refine below_drewN ?_ | (refine Below.setCell ?_ ?_ _) | exact Nat.le_refl _ | (simp; done) | (simp; omega)))⟩
   · have H1 := Lib.hid h1
     have HF := Lib.hid (show recB c r = printB r by unfold recB; rw [h1, h2]; rfl); clear h1
     go_enter Tryz.func105, Tryz.ntmps105
     go_wp2_with fail
     refine (isCommand_c _ _ hc).mono ?_
     rintro e w2 ⟨rfl, rfl⟩
     rw [H1.out]
     go_wp2_with fail
     refine (isPrinted_c _ _ hr).mono ?_
     rintro e w2 ⟨rfl, rfl⟩
     go_wp2
     go_ret
     exact ⟨by rw [HF.out]; rfl, by (repeat (first | exact Below.refl _ _ | exact (Below.refl _ _).drew | assumption | exact below_one _ | refine Below.chain ?_ (by assumption) | refine Below.drew ?_ | refine Below.alc ?_ _ | refine below_drewN ?_ | (refine Below.setCell ?_ ?_ _) | exact Nat.le_refl _ | (simp; done) | (simp; omega)))⟩
def Tab (w : World) : Prop := Lib.TabIs Tryz.prog w "internal/strconv.uint64pow10" .u64 Lib.pow10Tab
theorem Tab.on {w w' : World} (h : Tab w) (hb : Below w.heap.size w w') : Tab w' :=
 Joins.tab_stays (g := 3) (by kernel_rfl) h hb (Nat.le_refl _)
theorem below_growN (w : World) (q : Nat) (os : Array Obj) : Below w.heap.size w (Sort.grow (w.drewN q) os) :=
 ⟨rfl, rfl, rfl, by simp [Sort.grow], fun i hi => by
  show ((w.drewN q).heap ++ os)[i]? = _
  rw [Array.getElem?_append_left (by show i < w.heap.size; omega)]
  rfl⟩
theorem bs_size (l : List UInt8) : (bs l).size = l.length := by show l.toArray.size = _; simp
theorem bs_list (l : List UInt8) : (bs l).data.toList = l := by simp [bs]
theorem bs_of (s : ByteArray) : bs s.data.toList = s := ByteArray.ext (by simp [bs])
theorem Itoa_c (n : Int) (h0 : 0 ≤ n) (h1 : n < 1000000) (w : World) (ht : Tab w) : Calls Tryz.prog 116 #[.int .i64 n] w fun e w' => e = .returned (.string (bs (Lib.itoa n))) ∧ Below w.heap.size w w' :=
 (Tryz.strconv_Itoa n (by omega) (by omega) w ht).mono fun e w' ⟨he, k, os, hw⟩ => ⟨he, hw ▸ below_growN w k os⟩
theorem ItoaS_c (k : Nat) (h : k < 60) (w : World) : Calls Tryz.prog 116 #[.int .i64 (k : Int)] w fun e w' => e = .returned (.string (bs (Lib.itoa (k : Int)))) ∧ w = w' :=
 (Tryz.strconv_Itoa_small k (by omega) w).mono fun e w' ⟨he, hw⟩ => ⟨by rw [he, itoa_nat]; rfl, hw.symm⟩
theorem seal_bs {s : ByteArray} : s ++ ⟨#[35]⟩ ++ bs (Lib.itoa (ckS s.data.toList)) = bs (sealS s.data.toList) := ByteArray.ext (by simp [bs, sealS])
def appR (s : List UInt8) : List UInt8 × Bool := if s.length ≤ 4000 ∧ (35 : UInt8) ∉ s ∧ (sealS s).length ≤ 4000 then (sealS s, true) else ([], false)
theorem appR_no {s : List UInt8} (h : ¬ (s.length ≤ 4000 ∧ (35 : UInt8) ∉ s ∧ (sealS s).length ≤ 4000)) : appR s = ([], false) := by unfold appR; rw [if_neg h]
theorem appR_yes {s : List UInt8} (h : s.length ≤ 4000 ∧ (35 : UInt8) ∉ s ∧ (sealS s).length ≤ 4000) : appR s = (sealS s, true) := by unfold appR; rw [if_pos h]
theorem stands_iff (s : ByteArray) (c : UInt8) : standsB s c = true ↔ c ∈ s.data.toList := by unfold standsB; rw [List.contains_iff_mem]
def AppPost (s : ByteArray) (w : World) (e : Ending) (w' : World) : Prop := e = .returned (.tuple #[.string (bs (appR s.data.toList).1), .bool (appR s.data.toList).2]) ∧ Below w.heap.size w w'
set_option maxHeartbeats 1000000 in
theorem AppendChecksum_c (s : ByteArray) (w : World) (hs : s.size ≤ 1073741824) (ht : Tab w) : Calls Tryz.prog 157 #[.string s] w (AppPost s w) := by
 by_cases h1 : s.size ≤ 4000
 · rcases h2 : standsB s 35 with _ | _
   · have hn : (35 : UInt8) ∉ s.data.toList := fun h => by rw [(stands_iff s 35).2 h] at h2; cases h2
     have hd : decide ((4000 : Int) < (s.size : Int)) = false := by simp; omega
     have H2 := Lib.hid h2
     have HT := Lib.hid ht
     have hbd := ckS_bd s.data.toList
     have HF := Lib.hid (@seal_bs s)
     have hsz : (bs (Lib.itoa (ckS s.data.toList))).size ≤ 20 := by rw [bs_size]; exact itoa_len hbd.1 (by omega)
     have hszs : (sealS s.data.toList).length = s.size + 1 + (bs (Lib.itoa (ckS s.data.toList))).size := by unfold sealS; rw [bs_size]; simp; omega
     by_cases h3 : (sealS s.data.toList).length ≤ 4000
     · have HR := Lib.hid (appR_yes ⟨by rw [ba_len]; exact h1, hn, h3⟩)
       have hd2 : decide ((4000 : Int) < (s.size : Int) + 1 + ((bs (Lib.itoa (ckS s.data.toList))).size : Int)) = false := by simp; omega
       have hle3 : s.size + 1 + (bs (Lib.itoa (ckS s.data.toList))).size ≤ 4000 := by omega
       clear h2 hn ht hszs h3
       generalize hm : ckS s.data.toList = m at *
       have HM := Lib.hid hm
       clear hm
       go_enter Tryz.func157, Tryz.ntmps157
       go_wp2_with fail
       refine (Contains_c s 35 _).mono ?_
       rintro e w2 ⟨rfl, rfl⟩
       rw [H2.out]
       go_wp2_with fail
       refine (checksum_c s _ hs).mono ?_
       rintro e w2 ⟨rfl, rfl⟩
       rw [HM.out]
       go_wp2_with fail
       refine (Itoa_c m hbd.1 (by omega) _ HT.out).mono ?_
       rintro e w2 ⟨rfl, hb2⟩
       go_wp2
       go_ret2
       exact ⟨by rw [HR.out, ← HF.out]; rfl, hb2⟩
     · have HR := Lib.hid (appR_no (s := s.data.toList) (fun h => h3 h.2.2))
       have hd2 : decide ((4000 : Int) < (s.size : Int) + 1 + ((bs (Lib.itoa (ckS s.data.toList))).size : Int)) = true := by simp; omega
       clear h2 hn ht hszs h3
       generalize hm : ckS s.data.toList = m at *
       have HM := Lib.hid hm
       clear hm
       go_enter Tryz.func157, Tryz.ntmps157
       go_wp2_with fail
       refine (Contains_c s 35 _).mono ?_
       rintro e w2 ⟨rfl, rfl⟩
       rw [H2.out]
       go_wp2_with fail
       refine (checksum_c s _ hs).mono ?_
       rintro e w2 ⟨rfl, rfl⟩
       rw [HM.out]
       go_wp2_with fail
       refine (Itoa_c m hbd.1 (by omega) _ HT.out).mono ?_
       rintro e w2 ⟨rfl, hb2⟩
       go_wp2
       go_ret2
       exact ⟨by rw [HR.out]; rfl, hb2⟩
   · have hn : (35 : UInt8) ∈ s.data.toList := (stands_iff s 35).1 h2
     have HR := Lib.hid (appR_no (s := s.data.toList) (fun h => h.2.1 hn))
     have hd : decide ((4000 : Int) < (s.size : Int)) = false := by simp; omega
     have H2 := Lib.hid h2
     clear h2 hn ht
     go_enter Tryz.func157, Tryz.ntmps157
     go_wp2_with fail
     refine (Contains_c s 35 _).mono ?_
     rintro e w2 ⟨rfl, rfl⟩
     rw [H2.out]
     go_wp2
     go_ret2
     exact ⟨by rw [HR.out]; rfl, Below.refl _ _⟩
 · have HR := Lib.hid (appR_no (s := s.data.toList) (fun h => h1 (by rw [← ba_len]; exact h.1)))
   have hd : decide ((4000 : Int) < (s.size : Int)) = true := by simp; omega
   go_enter Tryz.func157, Tryz.ntmps157
   go_wp2
   go_ret2
   exact ⟨by rw [HR.out]; rfl, Below.refl _ _⟩
theorem new_cell (w : World) (cs : Array Value) (t i : Nat) (v : Value) (h : cs[i]? = some v) : (w.alloc (.cells cs t)).cell? ⟨w.heap.size, i, none⟩ = some v := by
 rw [World.cell?_alloc_at _ _ _ _ rfl]; exact h
theorem prB_eq (c : UInt8) : prB c = prU c := by
 unfold prB prU inB
 congr 1
 rw [Bool.eq_iff_iff]
 simp
 omega
theorem recB_okE (c r : ByteArray) : recB c r = okE (c.data.toList, r.data.toList) := by
 unfold recB cmdB okE printB standsB inB
 rw [show prB = prU from funext prB_eq]
 rw [Bool.eq_iff_iff]
 simp only [Bool.and_eq_true, decide_eq_true_eq, ba_len]
 have e1 : ((1 : Int) ≤ (c.size : Int)) ↔ 1 ≤ c.size := by omega
 have e2 : ((c.size : Int) ≤ 160) ↔ c.size ≤ 160 := by omega
 have e3 : ((r.size : Int) ≤ 250) ↔ r.size ≤ 250 := by omega
 rw [e1, e2, e3]
 simp only [and_assoc]
theorem recB_iff {c r : ByteArray} : recB c r = true ↔ OkE (c.data.toList, r.data.toList) := by rw [recB_okE, okE_iff]
def encR (k : Int) (c r : ByteArray) : List UInt8 × Bool := if 0 ≤ k ∧ k ≤ 59 ∧ recB c r = true then (lineS k c.data.toList r.data.toList, true) else ([], false)
theorem encR_k {k : Int} {c r : ByteArray} (h : inB k 0 59 = false) : encR k c r = ([], false) := by
 unfold encR; rw [if_neg]; unfold inB at h; simp at h; omega
theorem encR_r {k : Int} {c r : ByteArray} (h : recB c r = false) : encR k c r = ([], false) := by
 unfold encR; rw [if_neg]; rw [h]; simp
theorem encR_y {k : Int} {c r : ByteArray} (h0 : inB k 0 59 = true) (h : recB c r = true) : encR k c r = (lineS k c.data.toList r.data.toList, true) := by
 unfold encR; rw [if_pos]; unfold inB at h0; simp at h0; exact ⟨h0.1, h0.2, h⟩
def EncPost (k : Int) (c r : ByteArray) (w : World) (e : Ending) (w' : World) : Prop := e = .returned (.tuple #[.string (bs (encR k c r).1), .bool (encR k c r).2]) ∧ Below w.heap.size w w'
theorem body_bs {n : Nat} {c r : ByteArray} : bs (Lib.itoa (n : Int)) ++ ⟨#[32]⟩ ++ c ++ ⟨#[64]⟩ ++ r = bs (bodyS n (c.data.toList, r.data.toList)) := by
 unfold bodyS
 exact ByteArray.ext (by simp [bs])
theorem AppBody_c (n : Nat) (hn : n < 60) (c r : ByteArray) (h : recB c r = true) (w : World) (ht : Tab w) : Calls Tryz.prog 157 #[.string (bs (Lib.itoa (n : Int)) ++ ⟨#[32]⟩ ++ c ++ ⟨#[64]⟩ ++ r)] w fun e w' =>
 ∃ S, e = .returned (.tuple #[.string S, .bool true]) ∧ (S.size : Int) ≤ 8388608 ∧ Hid (S ++ ⟨#[10]⟩ = bs (lineS (n : Int) c.data.toList r.data.toList)) ∧ Below w.heap.size w w' := by
 rw [body_bs]
 have hk := recB_iff.1 h
 have hl := bodyS_len hk hn
 have hs := sealS_len (bodyS n (c.data.toList, r.data.toList))
 refine (AppendChecksum_c _ w (by rw [bs_size]; omega) ht).mono fun e w' h => ?_
 obtain ⟨he, hb⟩ := h
 rw [bs_list, appR_yes ⟨by omega, bodyS_no hk (.inl rfl), by omega⟩] at he
 refine ⟨bs (sealS (bodyS n (c.data.toList, r.data.toList))), he, by rw [bs_size]; omega, ?_, hb⟩
 show bs _ ++ _ = _
 rw [show lineS (n : Int) c.data.toList r.data.toList = lnS n (c.data.toList, r.data.toList) from (lnS_def n (c.data.toList, r.data.toList)).symm]
 unfold lnS
 exact ByteArray.ext (by simp [bs])
set_option maxHeartbeats 1000000 in
theorem EncodeRecord_c (k : Int) (c r : ByteArray) (w : World) (hc : c.size ≤ 1048576) (hr : r.size ≤ 1048576) (ht : Tab w) : Calls Tryz.prog 106 #[.int .i64 k, recV c r] w (EncPost k c r w) := by
 have HRV := Lib.hid (IsValidRecord_c c r)
 unfold recV at *
 rcases h1 : inB k 0 59 with _ | _
 · have HR := Lib.hid (encR_k (c := c) (r := r) h1)
   have H1 := Lib.hid h1; clear h1 ht
   go_enter Tryz.func106, Tryz.ntmps106
   go_wp2_with fail
   refine (within_c _ _ _ _).mono ?_
   rintro e w2 ⟨rfl, rfl⟩
   rw [H1.out]
   go_wp2
   go_ret2
   exact ⟨by rw [HR.out]; rfl, by (repeat (first | exact Below.refl _ _ | exact (Below.refl _ _).drew | assumption | exact below_one _ | refine Below.chain ?_ (by assumption) | refine Below.drew ?_ | refine Below.alc ?_ _ | refine below_drewN ?_ | (refine Below.setCell ?_ ?_ _) | exact Nat.le_refl _ | (simp; done) | (simp; omega)))⟩
 · rcases h2 : recB c r with _ | _
   · have HR := Lib.hid (encR_r (k := k) h2)
     have H1 := Lib.hid h1; have H2 := Lib.hid h2; clear h1 h2 ht
     go_enter Tryz.func106, Tryz.ntmps106
     go_wp2_with fail
     refine (within_c _ _ _ _).mono ?_
     rintro e w2 ⟨rfl, rfl⟩
     rw [H1.out]
     go_wp2_with fail
     refine (HRV.out _ (by omega) (by omega)).mono ?_
     rintro e w2 ⟨rfl, hb2⟩
     rw [H2.out]
     go_wp2
     go_ret2
     exact ⟨by rw [HR.out]; rfl, by (repeat (first | exact Below.refl _ _ | exact (Below.refl _ _).drew | assumption | exact below_one _ | refine Below.chain ?_ (by assumption) | refine Below.drew ?_ | refine Below.alc ?_ _ | refine below_drewN ?_ | (refine Below.setCell ?_ ?_ _) | exact Nat.le_refl _ | (simp; done) | (simp; omega)))⟩
   · have HR := Lib.hid (encR_y h1 h2)
     obtain ⟨n, rfl⟩ : ∃ n : Nat, k = (n : Int) := ⟨k.toNat, by unfold inB at h1; simp at h1; omega⟩
     have hn : n < 60 := by unfold inB at h1; simp at h1; omega
     have HA := Lib.hid (AppBody_c n hn c r h2)
     have HI := Lib.hid (ItoaS_c n hn)
     have hsz : (bs (Lib.itoa (n : Int))).size ≤ 20 := by rw [bs_size]; exact itoa_len (by omega) (by omega)
     have H1 := Lib.hid h1; have H2 := Lib.hid h2; clear h1 h2
     generalize bs (Lib.itoa (n : Int)) = D at *
     have HT := Lib.hid ht; clear ht
     go_enter Tryz.func106, Tryz.ntmps106
     go_wp2_with fail
     refine (within_c _ _ _ _).mono ?_
     rintro e w2 ⟨rfl, rfl⟩
     rw [H1.out]
     go_wp2_with fail
     refine (HRV.out _ (by omega) (by omega)).mono ?_
     rintro e w2 ⟨rfl, hb2⟩
     rw [H2.out]
     have hcell := cell_later (a := ⟨w.heap.size, 0, none⟩) (v := .string c) hb2 (new_cell w _ _ 0 _ rfl)
     have hcell2 := cell_later (a := ⟨w.heap.size, 1, none⟩) (v := .string r) hb2 (new_cell w _ _ 1 _ rfl)
     have HB := Lib.hid (show Below w.heap.size w w2 by (repeat (first | exact Below.refl _ _ | exact (Below.refl _ _).drew | assumption | exact below_one _ | refine Below.chain ?_ (by assumption) | refine Below.drew ?_ | refine Below.alc ?_ _ | refine below_drewN ?_ | (refine Below.setCell ?_ ?_ _) | exact Nat.le_refl _ | (simp; done) | (simp; omega))))
     have HT2 := Lib.hid ((HT.out.on HB.out).on (Below.refl _ _).drew)
     clear hb2
     go_wp2_with fail
     have hs1 : ¬ (9223372036854775807 < D.size + 1) := by omega
     have hs2 : ¬ (9223372036854775807 < D.size + 1 + c.size) := by omega
     have hs3 : ¬ (9223372036854775807 < D.size + 1 + c.size + 1) := by omega
     have hs4 : ¬ (9223372036854775807 < D.size + 1 + c.size + 1 + r.size) := by omega
     have ht1 : ¬ (9223372036854775807 ≤ D.size) := by omega
     have ht3 : ¬ (9223372036854775807 ≤ D.size + 1 + c.size) := by omega
     go_region_held3 (fun w' => w'.cell? ⟨w.heap.size, 0, none⟩ = some (.string c) ∧ w'.cell? ⟨w.heap.size, 1, none⟩ = some (.string r)) (first | go_keep | (go_split_ands; exact ⟨cell_later hb4 ‹_›, cell_later hb4 ‹_›⟩))
      (first | (go_at_call 116; refine (HI.out _).mono ?_; rintro e wa ⟨rfl, rfl⟩) | (go_at_call 157; refine (HA.out _ HT2.out).mono ?_; rintro e wb ⟨S, rfl, hS1, HS2, hb4⟩))
     go_wp2
     go_ret2
     exact ⟨by rw [HR.out, ← HS2.out]; rfl, Below.chain HB.out.drew hb4⟩
theorem indexByte_hit {a b : Bs} {c : UInt8} (h : c ∉ a) : Lib.indexByte (a ++ c :: b) c = a.length := by
 induction a with
 | nil => simp [Lib.indexByte]
 | cons x t ih =>
  simp only [List.mem_cons, not_or] at h
  have hx : (x == c) = false := by simp; exact fun e => h.1 e.symm
  simp only [List.cons_append, Lib.indexByte, hx, ih h.2]
  have : ((t.length : Int) == -1) = false := by simp
  simp [this]
theorem indexByte_miss {s : Bs} {c : UInt8} (h : c ∉ s) : Lib.indexByte s c = -1 := by
 induction s with
 | nil => rfl
 | cons x t ih =>
  simp only [List.mem_cons, not_or] at h
  have hx : (x == c) = false := by simp; exact fun e => h.1 e.symm
  simp [Lib.indexByte, hx, ih h.2]
theorem first_at (s : Bs) (c : UInt8) : (∃ a b, s = a ++ c :: b ∧ c ∉ a) ∨ c ∉ s := by
 induction s with
 | nil => right; simp
 | cons x t ih =>
  by_cases hx : x = c
  · subst hx; exact .inl ⟨[], t, rfl, by simp⟩
  · rcases ih with ⟨a, b, rfl, h⟩ | h
    · exact .inl ⟨x :: a, b, rfl, by simp; exact ⟨fun e => hx e.symm, h⟩⟩
    · right; simp; exact ⟨fun e => hx e.symm, h⟩
theorem occ_one (s : Bs) (c : UInt8) (i : Nat) : Lib.occAt s [c] i = true ↔ s[i]? = some c := by
 unfold Lib.occAt
 rw [← List.head?_drop]
 cases s.drop i with
 | nil => simp
 | cons x t => simp [List.isPrefixOf]; exact eq_comm
theorem lastIdx_any (s : Bs) (c : UInt8) : Lib.lastIndex s [c] = -1 ∨ ∃ i : Nat, i < s.length ∧ Lib.lastIndex s [c] = i := by
 unfold Lib.lastIndex
 split
 · rename_i h
   simp at h
   rcases Lib.lastOcc_spec s [c] (s.length - [c].length + 1) with h1 | ⟨i, h1, h2, _⟩
   · exact .inl h1.1
   · exact .inr ⟨i, by simp at h1; omega, h2⟩
 · exact .inl rfl
theorem lastIdx_hit {a b : Bs} {c : UInt8} (h : c ∉ b) : Lib.lastIndex (a ++ c :: b) [c] = a.length := by
 unfold Lib.lastIndex
 rw [if_pos (by simp; omega)]
 have hat : (a ++ c :: b)[a.length]? = some c := by simp
 rcases Lib.lastOcc_spec (a ++ c :: b) [c] ((a ++ c :: b).length - [c].length + 1) with ⟨_, h1⟩ | ⟨i, h1, h2, h3, h4⟩
 · have := h1 a.length (by simp; omega)
   rw [(occ_one _ _ _).2 hat] at this; cases this
 · rw [h2]
   rw [occ_one] at h3
   have hi : i = a.length := by
    rcases Nat.lt_trichotomy i a.length with hlt | he | hgt
    · have := h4 a.length hlt (by simp; omega)
      rw [(occ_one _ _ _).2 hat] at this; cases this
    · exact he
    · exfalso
      obtain ⟨j, rfl⟩ : ∃ j, i = a.length + 1 + j := ⟨i - (a.length + 1), by omega⟩
      rw [List.getElem?_append_right (by omega), show a.length + 1 + j - a.length = j + 1 by omega, List.getElem?_cons_succ] at h3
      exact h (List.mem_of_getElem? h3)
   rw [hi]
theorem trim_hit (a : Bs) : Lib.trimSuffix (a ++ [10]) [10] = a := by
 unfold Lib.trimSuffix Lib.hasSuffix
 rw [if_pos (by rw [List.isSuffixOf_iff_suffix]; exact List.suffix_append _ _)]
 simp
theorem trim_len (s p : Bs) : (Lib.trimSuffix s p).length ≤ s.length := by
 unfold Lib.trimSuffix; split
 · simp
 · exact Nat.le_refl _
theorem suffix_iff (s : Bs) : Lib.hasSuffix s [10] = true ↔ ∃ t, s = t ++ [10] := by
 unfold Lib.hasSuffix
 rw [List.isSuffixOf_iff_suffix]
 exact ⟨fun ⟨t, h⟩ => ⟨t, h.symm⟩, fun ⟨t, h⟩ => ⟨t, h.symm⟩⟩
theorem seal_last (u : Bs) : Lib.lastIndex (sealS u) [35] = u.length := by
 unfold sealS
 exact lastIdx_hit (not_mem_of_digit (itoa_digit (ckS_bd _).1) (by decide))
theorem itoa_no32 {k : Nat} : (32 : UInt8) ∉ Lib.itoa (k : Int) := not_mem_of_digit (itoa_digit (by omega)) (by decide)
def First (l r : Bs) : Prop := (∃ p, l = p ++ [10] ∧ (10 : UInt8) ∉ p) ∨ ((10 : UInt8) ∉ l ∧ r = [])
theorem First.begins {l r : Bs} {k : Nat} {e : Bs × Bs} (h : First l r) (hb : Begins k (l ++ r) e) : l = lnS k e := by
 obtain ⟨ok, x, hx⟩ := hb
 rcases h with ⟨p, rfl, hp⟩ | ⟨hl, rfl⟩
 · unfold lnS at hx ⊢
   rw [List.append_assoc, List.append_assoc] at hx
   rw [(part_inj hp (sealS_no10 ok) hx).1]
 · rw [List.append_nil] at hx
   exact absurd (by rw [hx]; unfold lnS; simp) hl
theorem bs_eq {s : ByteArray} {l : List UInt8} (h : s.data.toList = l) : s = bs l := by rw [← h, bs_of]
theorem ext_to {s : ByteArray} {a b : List UInt8} (h : s.data.toList = a ++ b) : s.extract 0 a.length = bs a := bs_eq (by rw [Lib.extract_data, h]; simp)
theorem ext_from {s : ByteArray} {a b : List UInt8} {c : UInt8} (h : s.data.toList = a ++ c :: b) : s.extract (a.length + 1) s.size = bs b := bs_eq (by rw [Lib.extract_data, h]; rw [← ba_len, h]; simp; exact List.take_of_length_le (by omega))
theorem str_eq {a b : ByteArray} (h : a = b) : (a.toList == b.toList) = true := by rw [h]; simp
theorem str_ne {a b : ByteArray} (h : a ≠ b) : (a.toList == b.toList) = false := by
 rw [Lib.toList_data, Lib.toList_data]
 simp only [beq_eq_false_iff_ne, ne_eq]
 exact fun e => h (by rw [← bs_of a, e, bs_of])
def CutOut (s : ByteArray) (c : UInt8) (w : World) (e : Ending) (w' : World) : Prop :=
 ∃ a b f, e = .returned (.tuple #[.string a, .string b, .bool f]) ∧ a.size ≤ s.size ∧ b.size ≤ s.size ∧ Hid (∀ x y : List UInt8, c ∉ x → s.data.toList = x ++ c :: y → a = bs x ∧ b = bs y) ∧ Below w.heap.size w w'
set_option maxHeartbeats 1000000 in
theorem CutL_c (s : ByteArray) (c : UInt8) (w : World) (hs : s.size ≤ 1073741824) : Calls Tryz.prog 265 #[.string s, .string ⟨#[c]⟩] w (CutOut s c w) := by
 rcases first_at s.data.toList c with ⟨a, b, hab, hc⟩ | hc
 · have HX := Lib.hid (indexByte_hit (b := b) hc)
   have hlen : a.length + 1 + b.length = s.size := by rw [← ba_len, hab]; simp; omega
   have H1 := Lib.hid (ext_to hab)
   have H2 := Lib.hid (ext_from hab)
   have HAB := Lib.hid hab
   have HC := Lib.hid hc
   have hla : a.length ≤ s.size := by omega
   have hlb : a.length + 1 ≤ s.size := by omega
   generalize hn : a.length = n at *
   have hp0 : (0 : Int) ≤ (n : Int) := by omega
   have hp1 : (n : Int) ≤ (s.size : Int) := by omega
   have hp2 : (n : Int) + 1 ≤ (s.size : Int) := by omega
   have hw : IntKind.i64.wrap ((n : Int) + 1) = (n : Int) + 1 := IntWalk.i64_in _ (by omega)
   have HN := Lib.hid hn
   have HL := Lib.hid hlen
   clear hab hc hn hlen
   go_enter Tryz.func265, Tryz.ntmps265
   go_wp2_with fail
   refine (Tryz.stringslite_Index_one s c _).mono ?_
   rintro e w2 ⟨rfl, rfl⟩
   rw [HAB.out, HX.out]
   go_wp2
   go_quiet (fail)
   go_wp2
   go_ret3
   refine ⟨_, _, _, rfl, ?_, ?_, ?_, by (repeat (first | exact Below.refl _ _ | exact (Below.refl _ _).drew | assumption | exact below_one _ | refine Below.chain ?_ (by assumption) | refine Below.drew ?_ | refine Below.alc ?_ _ | refine below_drewN ?_ | (refine Below.setCell ?_ ?_ _) | exact Nat.le_refl _ | (simp; done) | (simp; omega)))⟩
   · rw [H1.out, bs_size]; have := HN.out; omega
   · rw [H2.out, bs_size]; have := HL.out; omega
   · intro x y hx hxy
     obtain ⟨h1, h2⟩ := part_inj HC.out hx (HAB.out.symm.trans hxy)
     rw [H1.out, H2.out, h1, h2]; exact ⟨rfl, rfl⟩
 · have HX := Lib.hid (indexByte_miss hc)
   have HC := Lib.hid hc
   clear hc
   go_enter Tryz.func265, Tryz.ntmps265
   go_wp2_with fail
   refine (Tryz.stringslite_Index_one s c _).mono ?_
   rintro e w2 ⟨rfl, rfl⟩
   rw [HX.out]
   go_wp2
   go_ret3
   refine ⟨_, _, _, rfl, Nat.le_refl _, by show (0 : Nat) ≤ _; omega, ?_, by (repeat (first | exact Below.refl _ _ | exact (Below.refl _ _).drew | assumption | exact below_one _ | refine Below.chain ?_ (by assumption) | refine Below.drew ?_ | refine Below.alc ?_ _ | refine below_drewN ?_ | (refine Below.setCell ?_ ?_ _) | exact Nat.le_refl _ | (simp; done) | (simp; omega)))⟩
   intro x y hx hxy
   exact absurd (by rw [hxy]; simp) HC.out
theorem Cut_c (s : ByteArray) (c : UInt8) (w : World) (hs : s.size ≤ 1073741824) : Calls Tryz.prog 217 #[.string s, .string ⟨#[c]⟩] w (CutOut s c w) := by
 have HC := Lib.hid (CutL_c s c)
 go_enter Tryz.func217, Tryz.ntmps217
 go_wp2_with fail
 refine (HC.out _ hs).mono ?_
 rintro e w2 ⟨a, b, f, rfl, h1, h2, h3, h4⟩
 go_wp2
 go_ret3
 exact ⟨a, b, f, rfl, h1, h2, h3, h4⟩
def VerOut (s : ByteArray) (w : World) (e : Ending) (w' : World) : Prop :=
 ∃ t ok, e = .returned (.tuple #[.string t, .bool ok]) ∧ t.size ≤ s.size ∧ Hid (∀ u : List UInt8, (35 : UInt8) ∉ u → u.length ≤ 3000 → s.data.toList = sealS u → t = bs u ∧ ok = true) ∧ Below w.heap.size w w'
set_option maxHeartbeats 1000000 in
theorem VerifyChecksum_c (s : ByteArray) (w : World) (hs : s.size ≤ 1073741824) (ht : Tab w) : Calls Tryz.prog 215 #[.string s] w (VerOut s w) := by
 rcases lastIdx_any s.data.toList 35 with h | ⟨i, hi, h⟩
 · have HX := Lib.hid h
   clear h ht
   go_enter Tryz.func215, Tryz.ntmps215
   go_wp2_with fail
   refine (Tryz.strings_LastIndex s ⟨#[35]⟩ (by omega) _).mono ?_
   rintro e w2 ⟨rfl, rfl⟩
   rw [HX.out]
   go_wp2
   go_ret2
   refine ⟨_, _, rfl, by show (0 : Nat) ≤ _; omega, ?_, by (repeat (first | exact Below.refl _ _ | exact (Below.refl _ _).drew | assumption | exact below_one _ | refine Below.chain ?_ (by assumption) | refine Below.drew ?_ | refine Below.alc ?_ _ | refine below_drewN ?_ | (refine Below.setCell ?_ ?_ _) | exact Nat.le_refl _ | (simp; done) | (simp; omega)))⟩
   intro u hu hl hxy
   have := HX.out
   rw [hxy, seal_last] at this
   omega
 · rw [ba_len] at hi
   have hT := Lib.hid (show (s.extract 0 i).data.toList = s.data.toList.take i by rw [Lib.extract_data]; simp)
   have hsz : (s.extract 0 i).size = i := by rw [← ba_len, hT.out]; simp; omega
   have HSZ := Lib.hid hsz
   have HA := Lib.hid (fun w => AppendChecksum_c (s.extract 0 i) w (by omega))
   have HX := Lib.hid h
   have HT := Lib.hid ht
   clear h ht hsz
   have hp1 : (i : Int) ≤ (s.size : Int) := by omega
   go_enter Tryz.func215, Tryz.ntmps215
   go_wp2_with fail
   refine (Tryz.strings_LastIndex s ⟨#[35]⟩ (by omega) _).mono ?_
   rintro e w2 ⟨rfl, rfl⟩
   rw [HX.out]
   go_wp2_with fail
   refine (HA.out _ HT.out).mono ?_
   rintro e w2 ⟨rfl, hb2⟩
   generalize hR : appR (s.extract 0 i).data.toList = R
   have HR := Lib.hid hR
   clear hR
   obtain ⟨out, ok⟩ := R
   have HU : Hid (∀ u : List UInt8, (35 : UInt8) ∉ u → u.length ≤ 3000 → s.data.toList = sealS u → s.extract 0 i = bs u ∧ ok = true ∧ bs out = s) := by
    intro u hu hl hxy
    have h1 := HX.out
    rw [hxy, seal_last] at h1
    have h1 : i = u.length := by omega
    have h2 : (s.extract 0 i).data.toList = u := by rw [hT.out, hxy, h1]; unfold sealS; simp
    have h3 := HR.out
    rw [h2, appR_yes ⟨by omega, hu, by have := sealS_len u; omega⟩] at h3
    injection h3 with h3 h4
    exact ⟨bs_eq h2, h4.symm, by rw [← h3, ← hxy, bs_of]⟩
   cases ok with
   | false =>
    go_wp2
    go_ret2
    refine ⟨_, _, rfl, by show (0 : Nat) ≤ _; omega, ?_, hb2⟩
    intro u hu hl hxy
    cases (HU.out u hu hl hxy).2.1
   | true =>
    by_cases hq : bs out = s
    · have hne := str_eq hq
      clear hq
      go_wp2
      go_ret2
      refine ⟨_, _, rfl, by rw [HSZ.out]; omega, ?_, hb2⟩
      intro u hu hl hxy
      exact ⟨(HU.out u hu hl hxy).1, rfl⟩
    · have hne := str_ne hq
      have HQ := Lib.hid hq
      clear hq
      go_wp2
      go_ret2
      refine ⟨_, _, rfl, by show (0 : Nat) ≤ _; omega, ?_, hb2⟩
      intro u hu hl hxy
      exact absurd (HU.out u hu hl hxy).2.2 HQ.out
def DecOut (k : Nat) (line : ByteArray) (w : World) (e : Ending) (w' : World) : Prop :=
 ∃ c r ok, e = .returned (.tuple #[recV c r, .bool ok]) ∧ c.size ≤ line.size ∧ r.size ≤ line.size ∧
  Hid (ok = true → OkE (c.data.toList, r.data.toList) ∧ k < 60 ∧ line.data.toList = lnS k (c.data.toList, r.data.toList)) ∧
  Hid (ok = false → k < 60 → ∀ e, OkE e → line.data.toList ≠ lnS k e) ∧ Below w.heap.size w w'
theorem dec_true {k : Nat} {c r line : ByteArray} (h1 : (encR (k : Int) c r).2 = true) (h2 : bs (encR (k : Int) c r).1 = line) : OkE (c.data.toList, r.data.toList) ∧ k < 60 ∧ line.data.toList = lnS k (c.data.toList, r.data.toList) := by
 unfold encR at h1 h2
 split at h1
 · rename_i h
   rw [if_pos h] at h2
   refine ⟨recB_iff.1 h.2.2, by omega, ?_⟩
   rw [← h2, bs_list, lnS_def]
 · cases h1
theorem enc_of {k : Nat} {e : Bs × Bs} (h : OkE e) (hk : k < 60) : encR (k : Int) (bs e.1) (bs e.2) = (lnS k e, true) := by
 have hr : recB (bs e.1) (bs e.2) = true := recB_iff.2 (by rw [bs_list, bs_list]; exact h)
 unfold encR
 rw [if_pos ⟨by omega, by omega, hr⟩, bs_list, bs_list, lnS_def]
theorem dec_parts {k : Nat} {e : Bs × Bs} {line t a1 b1 c r : ByteArray} {ok1 : Bool} (he : OkE e) (hk : k < 60) (hl : line.data.toList = lnS k e)
 (HV : ∀ u : List UInt8, (35 : UInt8) ∉ u → u.length ≤ 3000 → (bs (Lib.trimSuffix line.data.toList [10])).data.toList = sealS u → t = bs u ∧ ok1 = true)
 (HC1 : ∀ x y : List UInt8, (32 : UInt8) ∉ x → t.data.toList = x ++ 32 :: y → a1 = bs x ∧ b1 = bs y)
 (HC2 : ∀ x y : List UInt8, (64 : UInt8) ∉ x → b1.data.toList = x ++ 64 :: y → c = bs x ∧ r = bs y) :
 ok1 = true ∧ (encR (k : Int) c r).2 = true ∧ bs (encR (k : Int) c r).1 = line := by
 have hb := bodyS_len he hk
 obtain ⟨rfl, h1⟩ := HV (bodyS k e) (bodyS_no he (.inl rfl)) (by omega) (by rw [bs_list, hl]; unfold lnS; exact trim_hit _)
 obtain ⟨_, rfl⟩ := HC1 (Lib.itoa (k : Int)) (e.1 ++ 64 :: e.2) itoa_no32 (by rw [bs_list]; rfl)
 obtain ⟨rfl, rfl⟩ := HC2 e.1 e.2 he.at_ (by rw [bs_list])
 rw [enc_of he hk]
 exact ⟨h1, rfl, by show bs (lnS k e) = line; rw [← hl, bs_of]⟩
theorem Trim_c (s : ByteArray) (w : World) (hs : s.size ≤ 1073741824) : Calls Tryz.prog 216 #[.string s, .string ⟨#[10]⟩] w fun e w' => e = .returned (.string (bs (Lib.trimSuffix s.data.toList [10]))) ∧ w = w' :=
 (Tryz.strings_TrimSuffix s ⟨#[10]⟩ w (by omega)).mono fun e w' h => ⟨h.1, h.2.symm⟩
set_option maxHeartbeats 2000000 in
theorem decodeRecord_c (k : Nat) (hk : k ≤ 60) (line : ByteArray) (w : World) (hs : line.size ≤ 1048576) (ht : Tab w) : Calls Tryz.prog 167 #[.int .i64 (k : Int), .string line] w (DecOut k line w) := by
 have hsz : (bs (Lib.trimSuffix line.data.toList [10])).size ≤ line.size := by rw [bs_size]; have := trim_len line.data.toList [10]; rw [ba_len] at this; exact this
 have HS := Lib.hid (Trim_c line)
 have HV := Lib.hid (VerifyChecksum_c (bs (Lib.trimSuffix line.data.toList [10])))
 have HP := Lib.hid (fun e t a1 b1 c r ok1 => @dec_parts k e line t a1 b1 c r ok1)
 generalize bs (Lib.trimSuffix line.data.toList [10]) = s1 at *
 have HT := Lib.hid ht
 clear ht
 go_enter Tryz.func167, Tryz.ntmps167
 go_wp2_with fail
 refine (HS.out _ (by omega)).mono ?_
 rintro e w2 ⟨rfl, rfl⟩
 have B0 := Lib.hid (Bk.new w 76 #[.string ⟨#[]⟩, .string ⟨#[]⟩])
 have hb0 := Lib.hid (below_one (w := w) (.cells #[.string ⟨#[]⟩, .string ⟨#[]⟩] 76))
 go_wp2_with fail
 refine (HV.out _ (by omega) (HT.out.on hb0.out)).mono ?_
 rintro e w2 ⟨t, ok1, rfl, ht, HV1, hb2⟩
 have B1 := Lib.hid (B0.out.below hb2)
 have hb1 := Lib.hid (Below.chain hb0.out hb2)
 clear B0 hb0 hb2
 go_wp2_with fail
 refine (Cut_c t 32 _ (by omega)).mono ?_
 rintro e w3 ⟨a1, b1, f1, rfl, ha1, hb1s, HC1, hb2⟩
 have B0 := Lib.hid (B1.out.below hb2)
 have hb0 := Lib.hid (Below.chain hb1.out hb2)
 clear B1 hb1 hb2
 go_wp2_with fail
 refine (Cut_c b1 64 _ (by omega)).mono ?_
 rintro e w4 ⟨c, r, f2, rfl, hcs, hrs, HC2, hb2⟩
 have HQ : Hid (∀ e : Bs × Bs, OkE e → k < 60 → line.data.toList = lnS k e → ok1 = true ∧ (encR (k : Int) c r).2 = true ∧ bs (encR (k : Int) c r).1 = line) :=
  fun e he hk2 hl => HP.out e t a1 b1 c r ok1 he hk2 hl HV1.out HC1.out HC2.out
 clear HV1 HC1 HC2 HP HV HS
 have B1 := Lib.hid (B0.out.below hb2)
 have hb1 := Lib.hid (Below.chain hb0.out hb2)
 clear B0 hb0 hb2
 have HD := Lib.hid (@dec_true k c r line)
 have HE := Lib.hid (fun w => EncodeRecord_c (k : Int) c r w (by omega) (by omega))
 unfold recV at HE
 have B0 := Lib.hid (B1.out.alloc (.cells #[.string c, .string r] 76))
 have C0 := Lib.hid (Bk.new w4 76 #[.string c, .string r])
 have hb0 := Lib.hid (Below.alc hb1.out (.cells #[.string c, .string r] 76))
 clear B1 hb1
 go_wp2_with fail
 refine (HE.out _ (HT.out.on hb0.out)).mono ?_
 rintro e w5 ⟨rfl, hb2⟩
 have B1 := B0.out.below hb2
 have C1 := C0.out.below hb2
 have q0 : w5.cell? ⟨w4.heap.size, 0, none⟩ = some (.string c) := C1.cell 0
 have q1 : w5.cell? ⟨w4.heap.size, 1, none⟩ = some (.string r) := C1.cell 1
 have z0 : w5.cell? ⟨w.heap.size, 0, none⟩ = some (.string ⟨#[]⟩) := B1.cell 0
 have z1 : w5.cell? ⟨w.heap.size, 1, none⟩ = some (.string ⟨#[]⟩) := B1.cell 1
 have f0 : w5.frozen? ⟨w.heap.size, 0, none⟩ = false := B1.frozen 0
 have f1 : w5.frozen? ⟨w.heap.size, 1, none⟩ = false := B1.frozen 1
 have hb1 := Lib.hid (Below.chain hb0.out hb2)
 clear B0 hb0 hb2 B1 C0 C1 HE
 have HDX := HD; have HQX := HQ
 generalize encR (k : Int) c r = R at *
 obtain ⟨X, fine⟩ := R
 clear HD HQ
 have fin : ∀ (ok : Bool) (w' : World), Hid (ok = true → ok1 = true ∧ fine = true ∧ bs X = line) → Hid (ok = false → ¬ (ok1 = true ∧ fine = true ∧ bs X = line)) → Below w.heap.size w w' →
  DecOut k line w (.returned (.tuple #[.agg #[.string c, .string r], .bool ok])) w' := fun ok w' h1 h2 h3 =>
  ⟨c, r, ok, rfl, by omega, by omega, fun h => HDX.out (h1.out h).2.1 (h1.out h).2.2, fun h hk2 e he hl => h2.out h (HQX.out e he hk2 hl), h3⟩
 have FIN := Lib.hid fin
 clear fin HDX HQX
 cases ok1 with
 | false =>
  go_wp2
  exact bodyPost_ret (v := .tuple #[.agg #[.string c, .string r], .bool false]) (by simp [results, Tryz.results167, go_sem, z0, z1]) rfl (FIN.out false _ (fun h => by cases h) (fun _ h => by cases h.1) (by have hb := hb1.out; exact (hb.setCell (p := ⟨w.heap.size, 0, none⟩) (Nat.le_refl _) _).setCell (p := ⟨w.heap.size, 1, none⟩) (Nat.le_refl _) _))
 | true =>
  cases fine with
  | false =>
   go_wp2
   exact bodyPost_ret (v := .tuple #[.agg #[.string c, .string r], .bool false]) (by simp [results, Tryz.results167, go_sem, z0, z1]) rfl (FIN.out false _ (fun h => by cases h) (fun _ h => by cases h.2.1) (by have hb := hb1.out; exact (hb.setCell (p := ⟨w.heap.size, 0, none⟩) (Nat.le_refl _) _).setCell (p := ⟨w.heap.size, 1, none⟩) (Nat.le_refl _) _))
  | true =>
   by_cases hq : bs X = line
   · have hqe := str_eq hq
     have HQ := Lib.hid hq
     clear hq
     go_wp2
     exact bodyPost_ret (v := .tuple #[.agg #[.string c, .string r], .bool true]) (by simp [results, Tryz.results167, go_sem, z0, z1]) rfl (FIN.out true _ (fun _ => by simp [HQ.out]) (fun h => by cases h) (by have hb := hb1.out; exact (hb.setCell (p := ⟨w.heap.size, 0, none⟩) (Nat.le_refl _) _).setCell (p := ⟨w.heap.size, 1, none⟩) (Nat.le_refl _) _))
   · have hqe := str_ne hq
     have HQ := Lib.hid hq
     clear hq
     go_wp2
     exact bodyPost_ret (v := .tuple #[.agg #[.string c, .string r], .bool false]) (by simp [results, Tryz.results167, go_sem, z0, z1]) rfl (FIN.out false _ (fun h => by cases h) (fun _ h => HQ.out h.2.2) (by have hb := hb1.out; exact (hb.setCell (p := ⟨w.heap.size, 0, none⟩) (Nat.le_refl _) _).setCell (p := ⟨w.heap.size, 1, none⟩) (Nat.le_refl _) _))
def splStep (c : UInt8) (st : List Bs × Bs) (x : UInt8) : List Bs × Bs := if x = c then (st.1 ++ [st.2], []) else (st.1, st.2 ++ [x])
def splSt (c : UInt8) (s : Bs) : List Bs × Bs := s.foldl (splStep c) ([], [])
def splitS (c : UInt8) (s : Bs) : List Bs := (splSt c s).1 ++ [(splSt c s).2]
theorem splSt_snoc (c : UInt8) (s : Bs) (x : UInt8) : splSt c (s ++ [x]) = splStep c (splSt c s) x := by unfold splSt; rw [List.foldl_append]; rfl
theorem splSt_cur (c : UInt8) (s : Bs) : ∃ p, s = p ++ (splSt c s).2 ∧ (splSt c s).1.length ≤ p.length := by
 refine snocB (M := fun s => ∃ p, s = p ++ (splSt c s).2 ∧ (splSt c s).1.length ≤ p.length) ⟨[], rfl, Nat.le_refl _⟩ (fun l x ih => ?_) s
 obtain ⟨p, h1, h2⟩ := ih
 rw [splSt_snoc]; unfold splStep
 split
 · exact ⟨l ++ [x], by simp, by simp; have := congrArg List.length h1; simp at this; omega⟩
 · refine ⟨p, ?_, h2⟩
   show l ++ [x] = p ++ ((splSt c l).2 ++ [x])
   rw [← List.append_assoc, ← h1]
theorem splSt_none {c : UInt8} {s : Bs} (h : c ∉ s) : splSt c s = ([], s) := by
 refine snocB (M := fun s => c ∉ s → splSt c s = ([], s)) (fun _ => rfl) (fun l x ih h => ?_) s h
 simp only [List.mem_append, List.mem_singleton, not_or] at h
 rw [splSt_snoc, ih h.1]
 unfold splStep
 rw [if_neg (fun e => h.2 e.symm)]
theorem split_miss {c : UInt8} {s : Bs} (h : c ∉ s) : splitS c s = [s] := by unfold splitS; rw [splSt_none h]; rfl
def strV (b : Bs) : Value := .string (bs b)
def SplOut (c : UInt8) (l : Bs) (w : World) (e : Ending) (w' : World) : Prop := ∃ v, e = .returned v ∧ w'.ownsRow w.heap.size 9 1 v (splitS c l).length ((splitS c l).map strV) ∧ Below w.heap.size w w'
end Go.Proofs.YtohgjfdbnkjefaaGreatDoor
