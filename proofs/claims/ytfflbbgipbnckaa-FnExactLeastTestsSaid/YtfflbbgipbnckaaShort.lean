/- Plain: the shortest full part of a set: by the lexicographic order of the parts, or by the bits of a number. -/
import Derived.Test.YtfflbbgipbnckaaCft3
import Derived.Test.YtfflbbgipbnckaaLeast
namespace Go.Proofs.Ytfflbbgipbnckaa
open Go.RowKit
set_option linter.unusedVariables false
/-- one list ahead of another -/
def befL : List Int → List Int → Bool
  | [], [] => false
  | [], _ :: _ => true
  | _ :: _, [] => false
  | x :: s, y :: t => if x = y then befL s t else decide (x < y)
theorem befL_irr : ∀ a : List Int, befL a a = false
  | [] => rfl
  | x :: s => by simp [befL, befL_irr s]
theorem befL_trans : ∀ a b c : List Int, befL a b = true → befL b c = true → befL a c = true
  | [], [], _, h, _ => by simp [befL] at h
  | [], _ :: _, [], _, h => by simp [befL] at h
  | [], _ :: _, _ :: _, _, _ => rfl
  | _ :: _, [], _, h, _ => by simp [befL] at h
  | _ :: _, _ :: _, [], _, h => by simp [befL] at h
  | x :: s, y :: t, z :: u, h1, h2 => by
    unfold befL at *
    by_cases e1 : x = y
    · subst e1
      rw [if_pos rfl] at h1
      by_cases e2 : x = z
      · subst e2
        rw [if_pos rfl] at h2 ⊢
        exact befL_trans s t u h1 h2
      · rw [if_neg e2] at h2 ⊢; exact h2
    · rw [if_neg e1] at h1
      simp at h1
      by_cases e2 : y = z
      · subst e2
        rw [if_neg e1]; simpa using h1
      · rw [if_neg e2] at h2
        simp at h2
        rw [if_neg (by omega)]; simp; omega
theorem befL_tri : ∀ a b : List Int, befL a b = false → befL b a = false → a = b
  | [], [], _, _ => rfl
  | [], _ :: _, h, _ => by simp [befL] at h
  | _ :: _, [], _, h => by simp [befL] at h
  | x :: s, y :: t, h1, h2 => by
    unfold befL at *
    by_cases e : x = y
    · subst e
      rw [if_pos rfl] at h1 h2
      rw [befL_tri s t h1 h2]
    · rw [if_neg e] at h1
      rw [if_neg (fun h => e h.symm)] at h2
      simp at h1 h2
      omega
theorem befL_asym {a b : List Int} (h : befL a b = true) : befL b a = false := by
  rw [Bool.eq_false_iff]; intro h2
  have := befL_trans a b a h h2
  rw [befL_irr] at this; cases this
theorem befL_cons (x : Int) (s t : List Int) : befL (x :: s) (x :: t) = befL s t := by simp [befL]
theorem loopE_cons (x : Int) (t part : List Int) : loopE (x :: t) part = ((part ++ [x]) :: loopE t (part ++ [x])) ++ loopE t part := rfl
theorem befL_pre : ∀ (p a b : List Int), befL (p ++ a) (p ++ b) = befL a b
  | [], _, _ => rfl
  | x :: p, a, b => by
    show befL (x :: (p ++ a)) (x :: (p ++ b)) = _
    rw [befL_cons]; exact befL_pre p a b
def slL (a b : List Int) : Prop := a.length < b.length ∨ (a.length = b.length ∧ befL a b = true)
theorem slL_trans {a b c : List Int} (h1 : slL a b) (h2 : slL b c) : slL a c := by
  unfold slL at *
  rcases h1 with h1 | ⟨h1, h1'⟩ <;> rcases h2 with h2 | ⟨h2, h2'⟩
  · exact .inl (by omega)
  · exact .inl (by omega)
  · exact .inl (by omega)
  · exact .inr ⟨by omega, befL_trans a b c h1' h2'⟩
theorem slL_tri {a b : List Int} (h1 : ¬ slL a b) (h2 : ¬ slL b a) : a = b := by
  unfold slL at *
  have hl : a.length = b.length := by omega
  refine befL_tri a b ?_ ?_
  · rw [Bool.eq_false_iff]; intro h; exact h1 (.inr ⟨hl, h⟩)
  · rw [Bool.eq_false_iff]; intro h; exact h2 (.inr ⟨hl.symm, h⟩)
def isB (S : List Int → Prop) : Option (List Int) → Prop
  | none => ∀ p, S p → fullB p = false
  | some m => S m ∧ fullB m = true ∧ ∀ p, S p → fullB p = true → ¬ slL p m
theorem isB_same {S : List Int → Prop} : ∀ {r r' : Option (List Int)}, isB S r → isB S r' → r = r'
  | none, none, _, _ => rfl
  | none, some m, h, h' => by have := h m h'.1; rw [h'.2.1] at this; cases this
  | some m, none, h, h' => by have := h' m h.1; rw [h.2.1] at this; cases this
  | some m, some m', h, h' => by rw [slL_tri (h'.2.2 m h.1 h.2.1) (h.2.2 m' h'.1 h'.2.1)]
def stepA (b : Option (List Int)) (p : List Int) : Option (List Int) := if fullB p && (match b with | none => true | some m => decide (p.length < m.length)) then some p else b
def bestA (ps : List (List Int)) : Option (List Int) := ps.foldl stepA none
def stepS (b : Option (List Int)) (p : List Int) : Option (List Int) := if fullB p && (match b with | none => true | some m => decide (p.length < m.length) || (decide (p.length = m.length) && befL p m)) then some p else b
def bestS (ps : List (List Int)) : Option (List Int) := ps.foldl stepS none
theorem bestA_snoc (ps : List (List Int)) (p : List Int) : bestA (ps ++ [p]) = stepA (bestA ps) p := by unfold bestA; rw [List.foldl_append]; rfl
theorem bestS_snoc (ps : List (List Int)) (p : List Int) : bestS (ps ++ [p]) = stepS (bestS ps) p := by unfold bestS; rw [List.foldl_append]; rfl
theorem isB_ext {S T : List Int → Prop} (h : ∀ p, S p ↔ T p) {r : Option (List Int)} (hr : isB S r) : isB T r := by
  have : S = T := funext fun p => propext (h p)
  rw [← this]; exact hr
theorem snoc_ind {α : Type} {M : List α → Prop} (h0 : M []) (h1 : ∀ l x, M l → M (l ++ [x])) (l : List α) : M l := by
  have : ∀ l : List α, M l.reverse := by
    intro l
    induction l with
    | nil => exact h0
    | cons x t ih => rw [List.reverse_cons]; exact h1 _ _ ih
  have h := this l.reverse
  rwa [List.reverse_reverse] at h
theorem bestA_is (ps : List (List Int)) : ps.Pairwise (fun a b => befL a b = true) → isB (· ∈ ps) (bestA ps) := by
  refine snoc_ind (M := fun ps => ps.Pairwise (fun a b => befL a b = true) → isB (· ∈ ps) (bestA ps)) ?_ ?_ ps
  · intro _ p hp; simp at hp
  · intro ps p ih hpw
    rw [List.pairwise_append] at hpw
    obtain ⟨hp1, _, hp2⟩ := hpw
    have hi := ih hp1
    have hq : ∀ q ∈ ps, befL q p = true := fun q hq => hp2 q hq p (by simp)
    rw [bestA_snoc]
    unfold stepA
    cases hf : fullB p
    · simp only [Bool.false_and, Bool.false_eq_true, if_false]
      cases hb : bestA ps with
      | none =>
        rw [hb] at hi
        intro q hq2
        rcases List.mem_append.1 hq2 with h | h
        · exact hi q h
        · simp at h; rw [h]; exact hf
      | some m =>
        rw [hb] at hi
        refine ⟨List.mem_append_left _ hi.1, hi.2.1, fun q hq2 hqf => ?_⟩
        rcases List.mem_append.1 hq2 with h | h
        · exact hi.2.2 q h hqf
        · simp at h; rw [h, hf] at hqf; cases hqf
    · simp only [Bool.true_and]
      cases hb : bestA ps with
      | none =>
        rw [hb] at hi
        simp only [if_true]
        refine ⟨by simp, hf, fun q hq2 hqf => ?_⟩
        rcases List.mem_append.1 hq2 with h | h
        · rw [hi q h] at hqf; cases hqf
        · simp at h; subst h
          unfold slL
          rw [befL_irr]; simp
      | some m =>
        rw [hb] at hi
        simp only [decide_eq_true_eq]
        by_cases hl : p.length < m.length
        · rw [if_pos hl]
          refine ⟨by simp, hf, fun q hq2 hqf => ?_⟩
          rcases List.mem_append.1 hq2 with h | h
          · have := hi.2.2 q h hqf
            unfold slL at *
            omega
          · simp at h; subst h
            unfold slL
            rw [befL_irr]; simp
        · rw [if_neg hl]
          refine ⟨List.mem_append_left _ hi.1, hi.2.1, fun q hq2 hqf => ?_⟩
          rcases List.mem_append.1 hq2 with h | h
          · exact hi.2.2 q h hqf
          · simp at h; subst h
            have := befL_asym (hq m hi.1)
            unfold slL
            rw [this]; simp; omega
theorem bestS_is (ps : List (List Int)) : isB (· ∈ ps) (bestS ps) := by
  refine snoc_ind (M := fun ps => isB (· ∈ ps) (bestS ps)) ?_ ?_ ps
  · intro p hp; simp at hp
  · intro ps p hi
    rw [bestS_snoc]
    unfold stepS
    cases hf : fullB p
    · simp only [Bool.false_and, Bool.false_eq_true, if_false]
      cases hb : bestS ps with
      | none =>
        rw [hb] at hi
        intro q hq2
        rcases List.mem_append.1 hq2 with h | h
        · exact hi q h
        · simp at h; rw [h]; exact hf
      | some m =>
        rw [hb] at hi
        refine ⟨List.mem_append_left _ hi.1, hi.2.1, fun q hq2 hqf => ?_⟩
        rcases List.mem_append.1 hq2 with h | h
        · exact hi.2.2 q h hqf
        · simp at h; rw [h, hf] at hqf; cases hqf
    · simp only [Bool.true_and]
      cases hb : bestS ps with
      | none =>
        rw [hb] at hi
        simp only [if_true]
        refine ⟨by simp, hf, fun q hq2 hqf => ?_⟩
        rcases List.mem_append.1 hq2 with h | h
        · rw [hi q h] at hqf; cases hqf
        · simp at h; subst h
          unfold slL
          rw [befL_irr]; simp
      | some m =>
        rw [hb] at hi
        simp only [Bool.or_eq_true, Bool.and_eq_true, decide_eq_true_eq]
        by_cases hl : p.length < m.length ∨ (p.length = m.length ∧ befL p m = true)
        · rw [if_pos hl]
          refine ⟨by simp, hf, fun q hq2 hqf hs => ?_⟩
          rcases List.mem_append.1 hq2 with h | h
          · exact hi.2.2 q h hqf (slL_trans hs hl)
          · simp at h; subst h
            unfold slL at hs
            rw [befL_irr] at hs; simp at hs
        · rw [if_neg hl]
          refine ⟨List.mem_append_left _ hi.1, hi.2.1, fun q hq2 hqf hs => ?_⟩
          rcases List.mem_append.1 hq2 with h | h
          · exact hi.2.2 q h hqf hs
          · simp at h; subst h
            exact hl hs
theorem loopE_form : ∀ (l part q : List Int), q ∈ loopE l part → ∃ y r, q = part ++ y :: r ∧ y ∈ l
  | [], part, q, h => by simp [loopE] at h
  | x :: t, part, q, h => by
    rw [loopE_cons] at h
    rcases List.mem_append.1 h with h | h
    · rcases List.mem_cons.1 h with h | h
      · exact ⟨x, [], by rw [h], by simp⟩
      · obtain ⟨y, r, e, _⟩ := loopE_form t (part ++ [x]) q h
        exact ⟨x, y :: r, by rw [e]; simp, by simp⟩
    · obtain ⟨y, r, e, hy⟩ := loopE_form t part q h
      exact ⟨y, r, e, List.mem_cons_of_mem _ hy⟩
theorem loopE_lex : ∀ (l part : List Int), l.Pairwise (· < ·) → (loopE l part).Pairwise (fun a b => befL a b = true)
  | [], part, _ => by simp [loopE]
  | x :: t, part, h => by
    rw [List.pairwise_cons] at h
    rw [loopE_cons, List.pairwise_append]
    refine ⟨?_, loopE_lex t part h.2, fun a ha b hb => ?_⟩
    · rw [List.pairwise_cons]
      refine ⟨fun q hq => ?_, loopE_lex t (part ++ [x]) h.2⟩
      obtain ⟨y, r, e, _⟩ := loopE_form t (part ++ [x]) q hq
      rw [e]
      have := befL_pre (part ++ [x]) [] (y :: r)
      rw [List.append_nil] at this
      rw [this]; rfl
    · obtain ⟨y, r, e, hy⟩ := loopE_form t part b hb
      have hx : ∃ r2, a = part ++ x :: r2 := by
        rcases List.mem_cons.1 ha with ha | ha
        · exact ⟨[], ha⟩
        · obtain ⟨z, r2, e2, _⟩ := loopE_form t (part ++ [x]) a ha
          exact ⟨z :: r2, by rw [e2]; simp⟩
      obtain ⟨r2, e2⟩ := hx
      rw [e, e2, befL_pre]
      have := h.1 y hy
      unfold befL
      rw [if_neg (by omega)]; simpa using this
theorem subsL_lex (set : List Int) (h : set.Pairwise (· < ·)) : (subsL set).Pairwise (fun a b => befL a b = true) := by
  unfold subsL
  rw [List.pairwise_cons]
  refine ⟨fun q hq => ?_, loopE_lex set [] h⟩
  obtain ⟨y, r, e, _⟩ := loopE_form set [] q hq
  rw [e]; rfl
theorem mem_parts : ∀ (l part q : List Int), q ∈ part :: loopE l part ↔ ∃ s, s < 2 ^ l.length ∧ q = part ++ digsL l s
  | [], part, q => by
    simp [loopE, digsL, pick, prtL]
  | x :: t, part, q => by
    have h1 := mem_parts t (part ++ [x]) q
    have h2 := mem_parts t part q
    have e : q ∈ part :: loopE (x :: t) part ↔ (q ∈ part :: loopE t part ∨ q ∈ (part ++ [x]) :: loopE t (part ++ [x])) := by
      rw [loopE_cons]
      simp only [List.mem_cons, List.mem_append]
      constructor
      · rintro (h | ((h | h) | h))
        · exact .inl (.inl h)
        · exact .inr (.inl h)
        · exact .inr (.inr h)
        · exact .inl (.inr h)
      · rintro ((h | h) | (h | h))
        · exact .inl h
        · exact .inr (.inr h)
        · exact .inr (.inl (.inl h))
        · exact .inr (.inl (.inr h))
    rw [e, h1, h2, List.length_cons, Nat.pow_succ]
    constructor
    · rintro (⟨s, hs, h⟩ | ⟨s, hs, h⟩)
      · exact ⟨s, by omega, by rw [digsL_low hs]; exact h⟩
      · exact ⟨2 ^ t.length + s, by omega, by rw [digsL_high hs, h]; simp⟩
    · rintro ⟨s, hs, h⟩
      by_cases hlt : s < 2 ^ t.length
      · left; exact ⟨s, hlt, by rw [digsL_low hlt] at h; exact h⟩
      · right
        refine ⟨s - 2 ^ t.length, by omega, ?_⟩
        have e2 : s = 2 ^ t.length + (s - 2 ^ t.length) := by omega
        rw [e2, digsL_high (by omega)] at h
        rw [h]; simp
/-- the parts told by bits -/
def partsS (set : List Int) (n : Nat) : List (List Int) := (List.range n).map (digsL set)
theorem partsS_succ (set : List Int) (n : Nat) : partsS set (n + 1) = partsS set n ++ [digsL set n] := by unfold partsS; rw [List.range_succ, List.map_append]; rfl
theorem best_same (set : List Int) (h : set.Pairwise (· < ·)) : bestS (partsS set (2 ^ set.length)) = bestA (subsL set) := by
  refine isB_same (isB_ext (fun p => ?_) (bestS_is _)) (bestA_is _ (subsL_lex set h))
  have := mem_parts set [] p
  unfold partsS
  rw [List.mem_map]
  show _ ↔ p ∈ subsL set
  unfold subsL
  rw [this]
  constructor
  · rintro ⟨s, hs, e⟩; exact ⟨s, List.mem_range.1 hs, e.symm⟩
  · rintro ⟨s, hs, e⟩; exact ⟨s, List.mem_range.2 hs, e.symm⟩
end Go.Proofs.Ytfflbbgipbnckaa
