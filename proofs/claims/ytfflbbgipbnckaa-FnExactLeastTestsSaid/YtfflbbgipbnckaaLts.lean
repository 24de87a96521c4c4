/- The plain law of LeastTests: the least tests of all parts, put in by order, are those of the parts in order. -/
import Derived.Test.YtfflbbgipbnckaaShort4
import Derived.Test.YtfflbbgipbnckaaSS
namespace Go.Proofs.Ytfflbbgipbnckaa
set_option linter.unusedVariables false
theorem totSS_filter (q : List Int → Bool) (xss : List (List Int)) (h : ∀ xs ∈ xss, xs.length ≤ 10) : totSS (xss.filter q) ≤ 10 * xss.length := by
  induction xss with
  | nil => simp [totSS]
  | cons a t ih =>
    have h1 := ih (fun xs hx => h xs (List.mem_cons_of_mem _ hx))
    have h2 := h a List.mem_cons_self
    rw [List.filter_cons]
    split
    · simp only [totSS, List.map_cons, List.sum_cons, List.length_cons] at h1 ⊢; omega
    · simp only [List.length_cons]; omega
theorem OwnSS.nil_ (w : World) (lo : Nat) : OwnSS w lo (.slice none 0 0) [] := ⟨[], World.ownsRow_nil _ _ _ _, Inn.nil_ _ _⟩
theorem Inn.lo' {w : World} {lo lo' : Nat} {vs : List Value} {xss : List (List Int)} (h : Inn w lo vs xss) (hl : lo' ≤ lo) : Inn w lo' vs xss := ⟨h.1, fun k v xs h1 h2 => own_lo (h.2.1 k v xs h1 h2) hl, h.2.2⟩
def insB : List (List Int) → List Int → List (List Int)
  | [], p => [p]
  | q :: t, p => if befL q p then q :: insB t p else p :: q :: t
theorem insB_at : ∀ (l : List (List Int)) (p : List Int) (k : Nat), k ≤ l.length → (∀ j x, j < k → l[j]? = some x → befL x p = true) → (∀ x, l[k]? = some x → befL x p = false) → insB l p = l.take k ++ p :: l.drop k
  | [], p, k, hk, _, _ => by simp at hk; subst hk; simp [insB]
  | y :: t, p, 0, _, _, h0 => by
    have := h0 y rfl
    unfold insB
    rw [this]; simp
  | y :: t, p, k + 1, hk, hb, h0 => by
    have hy := hb 0 y (by omega) rfl
    have ih := insB_at t p k (by simpa using hk) (fun j x hj hx => hb (j + 1) x (by omega) (by simpa using hx)) (fun x hx => h0 x (by simpa using hx))
    unfold insB
    rw [hy, ih]
    simp
theorem insB_mem : ∀ (l : List (List Int)) (p x : List Int), x ∈ insB l p ↔ x = p ∨ x ∈ l
  | [], p, x => by simp [insB]
  | y :: t, p, x => by
    have ih := insB_mem t p x
    unfold insB
    cases befL y p
    · simp
    · simp only [if_true, List.mem_cons, ih]
      constructor
      · rintro (h | h | h); exact .inr (.inl h); exact .inl h; exact .inr (.inr h)
      · rintro (h | h | h); exact .inr (.inl h); exact .inl h; exact .inr (.inr h)
theorem insB_len : ∀ (l : List (List Int)) (p : List Int), (insB l p).length = l.length + 1
  | [], p => rfl
  | y :: t, p => by
    have ih := insB_len t p
    unfold insB
    cases befL y p <;> simp [ih]
theorem insB_pw : ∀ (l : List (List Int)) (p : List Int), l.Pairwise (fun a b => befL a b = true) → p ∉ l → (insB l p).Pairwise (fun a b => befL a b = true)
  | [], p, _, _ => by simp [insB]
  | y :: t, p, h, hn => by
    rw [List.pairwise_cons] at h
    have ih := insB_pw t p h.2 (fun hm => hn (List.mem_cons_of_mem _ hm))
    unfold insB
    cases hb : befL y p
    · have hyp : befL p y = true := by
        cases h2 : befL p y
        · exact absurd (befL_tri y p hb h2) (fun e => hn (by rw [e]; simp))
        · rfl
      rw [if_neg (by simp), List.pairwise_cons, List.pairwise_cons]
      refine ⟨fun z hz => ?_, h⟩
      rcases List.mem_cons.1 hz with e | e
      · rw [e]; exact hyp
      · exact befL_trans _ _ _ hyp (h.1 z e)
    · rw [if_pos rfl, List.pairwise_cons]
      refine ⟨fun z hz => ?_, ih⟩
      rcases (insB_mem t p z).1 hz with e | e
      · rw [e]; exact hb
      · exact h.1 z e
theorem eq_of_bef : ∀ (l1 l2 : List (List Int)), l1.Pairwise (fun a b => befL a b = true) → l2.Pairwise (fun a b => befL a b = true) → (∀ x, x ∈ l1 ↔ x ∈ l2) → l1 = l2
  | [], [], _, _, _ => rfl
  | [], y :: t, _, _, h => by have := (h y).2 (by simp); simp at this
  | x :: t, [], _, _, h => by have := (h x).1 (by simp); simp at this
  | x :: t, y :: s, h1, h2, h => by
    rw [List.pairwise_cons] at h1 h2
    have hx := (h x).1 (by simp)
    have hy := (h y).2 (by simp)
    have e : x = y := by
      rcases List.mem_cons.1 hx with e | e
      · exact e
      · rcases List.mem_cons.1 hy with e2 | e2
        · exact e2.symm
        · have a := h2.1 x e
          have b := h1.1 y e2
          rw [befL_asym a] at b; cases b
    subst e
    rw [eq_of_bef t s h1.2 h2.2 (fun z => by
      have hz := h z
      simp only [List.mem_cons] at hz
      constructor
      · intro hm
        have := h1.1 z hm
        rcases hz.1 (.inr hm) with e | e
        · rw [e, befL_irr] at this; cases this
        · exact e
      · intro hm
        have := h2.1 z hm
        rcases hz.2 (.inr hm) with e | e
        · rw [e, befL_irr] at this; cases this
        · exact e)]
def backN (l : List Int) : Nat := l.foldl (fun a x => a + 2 ^ (9 - x.toNat)) 0
set_option maxRecDepth 100000 in
theorem backN_digs : ∀ s, s < 1024 → backN (digsL tenI s) = s := by decide +kernel
set_option maxRecDepth 100000 in
theorem setS_digs : ∀ s, s < 1024 → setS (digsL tenI s) = digsL tenI s := by decide +kernel
/-- the list behind n sets -/
def ltN (n : Nat) : List (List Int) := (partsS tenI n).foldl (fun l p => if leastL p then insB l p else l) []
theorem ltN_succ (n : Nat) : ltN (n + 1) = if leastL (digsL tenI n) then insB (ltN n) (digsL tenI n) else ltN n := by
  unfold ltN; rw [partsS_succ, List.foldl_append]; rfl
theorem ltN_len : ∀ n, (ltN n).length ≤ n
  | 0 => by simp [ltN, partsS]
  | n + 1 => by
    have := ltN_len n
    rw [ltN_succ]
    split
    · rw [insB_len]; omega
    · omega
theorem ltN_is : ∀ n, n ≤ 1024 → (ltN n).Pairwise (fun a b => befL a b = true) ∧ ∀ x, x ∈ ltN n ↔ ∃ s, s < n ∧ x = digsL tenI s ∧ leastL x = true
  | 0, _ => by simp [ltN, partsS]
  | n + 1, hn => by
    obtain ⟨h1, h2⟩ := ltN_is n (by omega)
    rw [ltN_succ]
    cases hl : leastL (digsL tenI n)
    · refine ⟨h1, fun x => ?_⟩
      rw [if_neg (by simp), h2]
      constructor
      · rintro ⟨s, a, b, c⟩; exact ⟨s, by omega, b, c⟩
      · rintro ⟨s, a, b, c⟩
        by_cases e : s = n
        · subst e; rw [b, hl] at c; cases c
        · exact ⟨s, by omega, b, c⟩
    · rw [if_pos rfl]
      refine ⟨insB_pw _ _ h1 (fun hm => ?_), fun x => ?_⟩
      · obtain ⟨s, a, b, _⟩ := (h2 _).1 hm
        have e1 := backN_digs n (by omega)
        rw [b, backN_digs s (by omega)] at e1
        omega
      · rw [insB_mem, h2]
        constructor
        · rintro (e | ⟨s, a, b, c⟩)
          · exact ⟨n, by omega, e, by rw [e]; exact hl⟩
          · exact ⟨s, by omega, b, c⟩
        · rintro ⟨s, a, b, c⟩
          by_cases e : s = n
          · subst e; exact .inl b
          · exact .inr ⟨s, by omega, b, c⟩
def ltA : List (List Int) := (subsL tenI).filter fun p => leastL (setS p)
theorem tenI_lt : tenI.Pairwise (· < ·) := by decide
theorem ltA_eq : ltA = ltN 1024 := by
  have hI := ltN_is 1024 (Nat.le_refl _)
  refine eq_of_bef _ _ ((subsL_lex tenI tenI_lt).filter _) hI.1 (fun x => ?_)
  unfold ltA
  rw [hI.2, List.mem_filter]
  have hm := mem_parts tenI [] x
  constructor
  · rintro ⟨a, b⟩
    obtain ⟨s, hs, e⟩ := hm.1 a
    rw [List.nil_append] at e
    have hs : s < 1024 := hs
    exact ⟨s, hs, e, by rw [e, setS_digs s hs] at b; rw [e]; exact b⟩
  · rintro ⟨s, hs, e, hl⟩
    refine ⟨hm.2 ⟨s, hs, by rw [List.nil_append]; exact e⟩, ?_⟩
    rw [e, setS_digs s hs, ← e]; exact hl
theorem ltA_len : ltA.length ≤ 1024 := by rw [ltA_eq]; exact ltN_len 1024
theorem ltA_tot : totSS ltA ≤ 10240 := by
  have h := totSS_filter (fun p => leastL (setS p)) (subsL tenI) (fun xs hx => by
    obtain ⟨s, _, e⟩ := (mem_parts tenI [] xs).1 hx
    rw [e, List.nil_append]
    exact digs_len tenI s)
  have h2 : (subsL tenI).length = 1024 := by
    have := loopE_len tenI []
    unfold subsL; rw [List.length_cons]; exact this
  show totSS ((subsL tenI).filter _) ≤ _
  omega
end Go.Proofs.Ytfflbbgipbnckaa
