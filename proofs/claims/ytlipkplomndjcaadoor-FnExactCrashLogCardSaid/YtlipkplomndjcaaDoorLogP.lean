/- The lines of a log, plainly: a line is that of one record alone, and what is read at the beginning of bytes is told by the bytes. -/
import Derived.Test.YtlipkplomndjcaaDoorCk
import Derived.Lib.ItoaLen
namespace Go.Proofs.YtlipkplomndjcaaDoor
set_option linter.unusedVariables false
abbrev Bs := List UInt8
/-- a byte that may stand in a record -/
def prU (c : UInt8) : Bool := decide (32 ≤ c.toNat) && decide (c.toNat ≤ 126) && !(c.toNat == 35)
/-- command and reply of a record -/
def okE (e : Bs × Bs) : Bool := decide (1 ≤ e.1.length) && decide (e.1.length ≤ 160) && e.1.all prU && !e.1.contains 64 && decide (e.2.length ≤ 250) && e.2.all prU
structure OkE (e : Bs × Bs) : Prop where
  l1 : 1 ≤ e.1.length
  l2 : e.1.length ≤ 160
  p1 : ∀ c ∈ e.1, 32 ≤ c.toNat ∧ c.toNat ≤ 126 ∧ c ≠ 35
  at_ : (64 : UInt8) ∉ e.1
  l3 : e.2.length ≤ 250
  p2 : ∀ c ∈ e.2, 32 ≤ c.toNat ∧ c.toNat ≤ 126 ∧ c ≠ 35
theorem prU_iff (c : UInt8) : prU c = true ↔ (32 ≤ c.toNat ∧ c.toNat ≤ 126 ∧ c ≠ 35) := by
  unfold prU
  simp only [Bool.and_eq_true, decide_eq_true_eq, Bool.not_eq_true', beq_eq_false_iff_ne, ne_eq]
  have h35 : c = 35 ↔ c.toNat = 35 := ⟨fun h => by rw [h]; rfl, fun h => UInt8.toNat_inj.1 (by rw [h]; rfl)⟩
  rw [h35, and_assoc]
theorem okE_iff (e : Bs × Bs) : okE e = true ↔ OkE e := by
  unfold okE
  simp only [Bool.and_eq_true, decide_eq_true_eq, List.all_eq_true, prU_iff, Bool.not_eq_true', ← Bool.not_eq_true, List.contains_iff_mem]
  constructor
  · rintro ⟨⟨⟨⟨⟨a, b⟩, c⟩, d⟩, f⟩, g⟩; exact ⟨a, b, c, d, f, g⟩
  · rintro ⟨a, b, c, d, f, g⟩; exact ⟨⟨⟨⟨⟨a, b⟩, c⟩, d⟩, f⟩, g⟩
/-- digits of a number -/
theorem decDigits_digit : ∀ (n : Nat), ∀ c ∈ Lib.decDigits n, 48 ≤ c.toNat ∧ c.toNat ≤ 57 := by
  intro n
  induction n using Nat.strongRecOn with
  | ind n ih =>
    intro c hc
    rw [Lib.decDigits] at hc
    split at hc
    · rename_i h
      simp only [List.mem_singleton] at hc
      subst hc
      have : (UInt8.ofNat (48 + n)).toNat = 48 + n := by simp; omega
      omega
    · rename_i h
      rw [List.mem_append] at hc
      rcases hc with hc | hc
      · exact ih (n / 10) (by omega) c hc
      · simp only [List.mem_singleton] at hc
        subst hc
        have : (UInt8.ofNat (48 + n % 10)).toNat = 48 + n % 10 := by simp; omega
        omega
theorem itoa_digit {k : Int} (h : 0 ≤ k) : ∀ c ∈ Lib.itoa k, 48 ≤ c.toNat ∧ c.toNat ≤ 57 := by
  obtain ⟨n, rfl⟩ := Int.eq_ofNat_of_zero_le h
  show ∀ c ∈ Lib.itoa (n : Int), _
  rw [itoa_nat]; exact decDigits_digit n
/-- the body of a line: number, space, command, '@', reply -/
def bodyS (k : Nat) (e : Bs × Bs) : Bs := Lib.itoa (k : Int) ++ 32 :: (e.1 ++ 64 :: e.2)
def lnS (k : Nat) (e : Bs × Bs) : Bs := sealS (bodyS k e) ++ [10]
theorem lnS_def (k : Nat) (e : Bs × Bs) : lnS k e = lineS (k : Int) e.1 e.2 := by unfold lnS bodyS lineS; simp
theorem not_mem_of_digit {l : Bs} {c : UInt8} (h : ∀ x ∈ l, 48 ≤ x.toNat ∧ x.toNat ≤ 57) (hc : c.toNat < 48 ∨ 57 < c.toNat) : c ∉ l := fun hm => by have := h c hm; omega
theorem bodyS_no {k : Nat} {e : Bs × Bs} (h : OkE e) {c : UInt8} (hc : c = 35 ∨ c = 10) : c ∉ bodyS k e := by
  unfold bodyS
  simp only [List.mem_append, List.mem_cons, not_or]
  refine ⟨not_mem_of_digit (itoa_digit (by omega)) (by rcases hc with rfl | rfl <;> decide), by rcases hc with rfl | rfl <;> decide, fun hm => ?_, by rcases hc with rfl | rfl <;> decide, fun hm => ?_⟩
  · have := h.p1 c hm; rcases hc with rfl | rfl
    · exact this.2.2 rfl
    · exact absurd this.1 (by decide)
  · have := h.p2 c hm; rcases hc with rfl | rfl
    · exact this.2.2 rfl
    · exact absurd this.1 (by decide)
theorem sealS_no10 {k : Nat} {e : Bs × Bs} (h : OkE e) : (10 : UInt8) ∉ sealS (bodyS k e) := by
  unfold sealS
  simp only [List.mem_append, List.mem_cons, not_or]
  exact ⟨bodyS_no h (.inr rfl), by decide, not_mem_of_digit (itoa_digit (ckS_bd _).1) (by decide)⟩
/-- two texts that are parted at a byte that stands in neither -/
theorem part_inj {a b a' b' : Bs} {c : UInt8} (ha : c ∉ a) (ha' : c ∉ a') (h : a ++ c :: b = a' ++ c :: b') : a = a' ∧ b = b' := by
  induction a generalizing a' with
  | nil =>
    cases a' with
    | nil => simpa using h
    | cons x t => simp at h; exact absurd (by rw [h.1]; simp) ha'
  | cons x t ih =>
    cases a' with
    | nil => simp at h; exact absurd (by rw [h.1]; simp) ha
    | cons y u =>
      simp at h ha ha'
      obtain ⟨h1, h2⟩ := ih ha.2 ha'.2 h.2
      rw [h.1, h1]; exact ⟨rfl, h2⟩
theorem bodyS_inj {k : Nat} {e e' : Bs × Bs} (h : OkE e) (h' : OkE e') (he : bodyS k e = bodyS k e') : e = e' := by
  unfold bodyS at he
  have h1 := List.append_cancel_left he
  simp only [List.cons.injEq, true_and] at h1
  obtain ⟨h2, h3⟩ := part_inj h.at_ h'.at_ h1
  exact Prod.ext h2 h3
theorem lnS_inj {k : Nat} {e e' : Bs × Bs} {x x' : Bs} (h : OkE e) (h' : OkE e') (he : lnS k e ++ x = lnS k e' ++ x') : e = e' ∧ x = x' := by
  unfold lnS at he
  rw [List.append_assoc, List.append_assoc] at he
  obtain ⟨h1, h2⟩ := part_inj (sealS_no10 h) (sealS_no10 h') he
  unfold sealS at h1
  obtain ⟨h3, _⟩ := part_inj (bodyS_no h (.inl rfl)) (bodyS_no h' (.inl rfl)) h1
  exact ⟨bodyS_inj h h' h3, h2⟩
/-- the lines of records from a number on -/
def linesS (k : Nat) : List (Bs × Bs) → Bs
  | [] => []
  | e :: t => lnS k e ++ linesS (k + 1) t
theorem linesS_snoc (k : Nat) (es : List (Bs × Bs)) (e : Bs × Bs) : linesS k (es ++ [e]) = linesS k es ++ lnS (k + es.length) e := by
  induction es generalizing k with
  | nil => simp [linesS]
  | cons x t ih => simp only [List.cons_append, linesS, ih, List.append_assoc, List.length_cons]; rw [show k + (t.length + 1) = k + 1 + t.length by omega]
theorem linesS_append (k : Nat) (es fs : List (Bs × Bs)) : linesS k (es ++ fs) = linesS k es ++ linesS (k + es.length) fs := by
  induction es generalizing k with
  | nil => simp [linesS]
  | cons x t ih => simp only [List.cons_append, linesS, ih, List.append_assoc, List.length_cons]; rw [show k + (t.length + 1) = k + 1 + t.length by omega]
/-- s begins with the line of a record with number k -/
def Begins (k : Nat) (s : Bs) (e : Bs × Bs) : Prop := OkE e ∧ ∃ x, s = lnS k e ++ x
/-- the records at the beginning of bytes -/
structure Opens (s : Bs) (es : List (Bs × Bs)) (rest : Bs) : Prop where
  ok : ∀ e ∈ es, OkE e
  le : es.length ≤ 60
  eq : s = linesS 0 es ++ rest
  stop : es.length = 60 ∨ ∀ e, ¬ Begins es.length rest e
theorem opens_at {k : Nat} {s r r' : Bs} {es es' : List (Bs × Bs)} (h : ∀ e ∈ es, OkE e) (h' : ∀ e ∈ es', OkE e) (he : s = linesS k es ++ r) (he' : s = linesS k es' ++ r')
    (hl : k + es.length ≤ 60) (hl' : k + es'.length ≤ 60) (hs : k + es.length = 60 ∨ ∀ e, ¬ Begins (k + es.length) r e) (hs' : k + es'.length = 60 ∨ ∀ e, ¬ Begins (k + es'.length) r' e) : es = es' ∧ r = r' := by
  induction es generalizing k s es' with
  | nil =>
    cases es' with
    | nil => simp [linesS] at he he'; exact ⟨rfl, he.symm.trans he'⟩
    | cons x t =>
      simp only [linesS, List.nil_append, List.append_assoc, List.length_nil, Nat.add_zero, List.length_cons] at he he' hs hl'
      rcases hs with hs | hs
      · omega
      · exact absurd ⟨h' x (by simp), _, he.symm.trans he'⟩ (hs x)
  | cons e t ih =>
    cases es' with
    | nil =>
      simp only [linesS, List.nil_append, List.append_assoc, List.length_nil, Nat.add_zero, List.length_cons] at he he' hs' hl
      rcases hs' with hs' | hs'
      · omega
      · exact absurd ⟨h e (by simp), _, he'.symm.trans he⟩ (hs' e)
    | cons x u =>
      simp only [linesS, List.append_assoc] at he he'
      obtain ⟨rfl, h2⟩ := lnS_inj (h e (by simp)) (h' x (by simp)) (he.symm.trans he')
      simp only [List.length_cons] at hl hl' hs hs'
      rw [show k + (t.length + 1) = k + 1 + t.length by omega] at hl hs
      rw [show k + (u.length + 1) = k + 1 + u.length by omega] at hl' hs'
      obtain ⟨rfl, h3⟩ := ih (k := k + 1) (s := linesS (k + 1) t ++ r) (fun a ha => h a (by simp [ha])) (fun a ha => h' a (by simp [ha])) rfl h2 hl hl' hs hs'
      exact ⟨rfl, h3⟩
theorem Opens.uniq {s r r' : Bs} {es es' : List (Bs × Bs)} (h : Opens s es r) (h' : Opens s es' r') : es = es' ∧ r = r' :=
  opens_at h.ok h'.ok h.eq h'.eq (by have := h.le; omega) (by have := h'.le; omega) (by simpa using h.stop) (by simpa using h'.stop)
theorem Opens.whole {es : List (Bs × Bs)} (h : ∀ e ∈ es, OkE e) (hl : es.length ≤ 60) : Opens (linesS 0 es) es [] :=
  ⟨h, hl, by simp, .inr fun e ⟨_, x, hx⟩ => by unfold lnS at hx; simp at hx⟩
/-- a beginning of lines that ends in a newline is whole lines -/
theorem cut_lines {k : Nat} {es : List (Bs × Bs)} {d p : Bs} (h : ∀ e ∈ es, OkE e) (he : d ++ p = linesS k es) (hd : d = [] ∨ ∃ t, d = t ++ [10]) : ∃ i, i ≤ es.length ∧ d = linesS k (es.take i) := by
  induction es generalizing k d with
  | nil =>
    simp only [linesS, List.append_eq_nil_iff] at he
    exact ⟨0, Nat.le_refl _, by simp [linesS, he.1]⟩
  | cons e t ih =>
    rcases hd with rfl | ⟨u, rfl⟩
    · exact ⟨0, by simp, by simp [linesS]⟩
    · simp only [linesS] at he
      -- the first line ends at the first newline
      have h10 := sealS_no10 (k := k) (h e (by simp))
      have hlt : (lnS k e).length ≤ (u ++ [10]).length := by
        rcases Nat.lt_or_ge (u ++ [10]).length (lnS k e).length with hlt | hge
        · exfalso
          have hp : u ++ [10] = (lnS k e).take (u ++ [10]).length := by
            have := congrArg (List.take (u ++ [10]).length) he
            rw [List.take_left', List.take_append_of_le_length (by omega)] at this
            · exact this
            · rfl
          unfold lnS at hp hlt
          rw [List.take_append_of_le_length (by simp at hlt ⊢; omega)] at hp
          apply h10
          have : (10 : UInt8) ∈ (sealS (bodyS k e)).take (u ++ [10]).length := by rw [← hp]; simp
          exact List.mem_of_mem_take this
        · exact hge
      obtain ⟨d2, hd2⟩ : ∃ d2, u ++ [10] = lnS k e ++ d2 := by
        refine ⟨(u ++ [10]).drop (lnS k e).length, ?_⟩
        have := congrArg (List.take (lnS k e).length) he
        rw [List.take_append_of_le_length hlt, List.take_left' rfl] at this
        conv => lhs; rw [← List.take_append_drop (lnS k e).length (u ++ [10])]
        rw [this]
      rw [hd2, List.append_assoc] at he
      have h2 := List.append_cancel_left he
      have hend : d2 = [] ∨ ∃ t, d2 = t ++ [10] := by
        rcases List.eq_nil_or_concat d2 with rfl | ⟨t', x, rfl⟩
        · exact .inl rfl
        · right
          refine ⟨t', ?_⟩
          have := congrArg List.getLast? hd2
          simp at this
          rw [List.concat_eq_append, this]
      obtain ⟨i, hi, hdi⟩ := ih (fun a ha => h a (by simp [ha])) h2 hend
      exact ⟨i + 1, by simp; omega, by rw [hd2, hdi]; simp [linesS]⟩
theorem linesS_end (k : Nat) (es : List (Bs × Bs)) : linesS k es = [] ∨ ∃ t, linesS k es = t ++ [10] := by
  rcases List.eq_nil_or_concat es with rfl | ⟨t, e, rfl⟩
  · exact .inl rfl
  · right
    rw [List.concat_eq_append, linesS_snoc]
    exact ⟨linesS k t ++ sealS (bodyS (k + t.length) e), by simp [lnS]⟩
/-- the valid logs -/
def LogOf (d p : Bs) (es : List (Bs × Bs)) : Prop := (∀ e ∈ es, OkE e) ∧ es.length ≤ 60 ∧ d ++ p = linesS 0 es ∧ (d = [] ∨ ∃ t, d = t ++ [10])
theorem itoa_len {n : Int} (h0 : 0 ≤ n) (h : n < 1000000) : (Lib.itoa n).length ≤ 20 := by
  obtain ⟨m, rfl⟩ := Int.eq_ofNat_of_zero_le h0
  have h1 : Lib.itoa (Int.ofNat m) = Lib.decDigits m := itoa_nat m
  have hm : m < 1000000 := by have : ((m : Nat) : Int) < 1000000 := h; omega
  have := Lib.nDigits_le20 m (by omega)
  show (Lib.itoa (Int.ofNat m)).length ≤ 20
  rw [h1, Lib.decDigits_length]; exact this
theorem bodyS_len {k : Nat} {e : Bs × Bs} (h : OkE e) (hk : k < 60) : (bodyS k e).length ≤ 432 := by
  have h1 : (Lib.itoa (k : Int)).length ≤ 20 := itoa_len (by omega) (by omega)
  have := h.l2; have := h.l3
  unfold bodyS
  simp
  omega
theorem sealS_len (s : Bs) : (sealS s).length ≤ s.length + 21 := by
  have h2 : (Lib.itoa (ckS s)).length ≤ 20 := itoa_len (ckS_bd s).1 (by have := (ckS_bd s).2; omega)
  unfold sealS
  simp
  omega
theorem lnS_len {k : Nat} {e : Bs × Bs} (h : OkE e) (hk : k < 60) : (lnS k e).length ≤ 454 := by
  have := bodyS_len h hk
  have := sealS_len (bodyS k e)
  unfold lnS
  simp
  omega
end Go.Proofs.YtlipkplomndjcaaDoor
