/- Plain: a list sorted and compacted is the list that putting one by one makes. -/
import Derived.Test.YtfflbbgipbnckaaShelf
import Derived.Lib.SlicesCompact
namespace Go.Proofs.Ytfflbbgipbnckaa
set_option linter.unusedVariables false
/-- a number put to its place, once -/
def putR : List Int → Int → List Int
  | [], n => [n]
  | x :: t, n => if x < n then x :: putR t n else if x = n then x :: t else n :: x :: t
def setS (xs : List Int) : List Int := xs.foldl putR []
def setL (xs : List Int) : List Int := Lib.compact (xs.mergeSort fun x y => decide (x ≤ y))
theorem eq_of_lt : ∀ (l1 l2 : List Int), l1.Pairwise (· < ·) → l2.Pairwise (· < ·) → (∀ x, x ∈ l1 ↔ x ∈ l2) → l1 = l2
  | [], [], _, _, _ => rfl
  | [], y :: t, _, _, h => by have := (h y).2 (by simp); simp at this
  | x :: t, [], _, _, h => by have := (h x).1 (by simp); simp at this
  | x :: t, y :: s, h1, h2, h => by
    rw [List.pairwise_cons] at h1 h2
    have hx := (h x).1 (by simp)
    have hy := (h y).2 (by simp)
    have e : x = y := by
      rcases List.mem_cons.1 hx with e | e
      · exact e
      · rcases List.mem_cons.1 hy with e2 | e2
        · exact e2.symm
        · have a := h2.1 x e
          have b := h1.1 y e2
          omega
    subst e
    rw [eq_of_lt t s h1.2 h2.2 (fun z => by
      have hz := h z
      simp only [List.mem_cons] at hz
      constructor
      · intro hm
        have := h1.1 z hm
        rcases hz.1 (.inr hm) with e | e
        · omega
        · exact e
      · intro hm
        have := h2.1 z hm
        rcases hz.2 (.inr hm) with e | e
        · omega
        · exact e)]
theorem putR_mem : ∀ (l : List Int) (n x : Int), x ∈ putR l n ↔ x ∈ l ∨ x = n
  | [], n, x => by simp [putR]
  | y :: t, n, x => by
    unfold putR
    split
    · simp only [List.mem_cons, putR_mem t n x]
      constructor
      · rintro (h | h | h)
        · exact .inl (.inl h)
        · exact .inl (.inr h)
        · exact .inr h
      · rintro ((h | h) | h)
        · exact .inl h
        · exact .inr (.inl h)
        · exact .inr (.inr h)
    · split
      · rename_i h1 h2
        subst h2
        simp only [List.mem_cons]
        constructor
        · intro h; exact .inl h
        · rintro (h | h)
          · exact h
          · exact .inl h
      · simp only [List.mem_cons]
        constructor
        · rintro (h | h)
          · exact .inr h
          · exact .inl h
        · rintro (h | h)
          · exact .inr h
          · exact .inl h
theorem putR_lt : ∀ (l : List Int) (n : Int), l.Pairwise (· < ·) → (putR l n).Pairwise (· < ·)
  | [], n, _ => by simp [putR]
  | y :: t, n, h => by
    rw [List.pairwise_cons] at h
    unfold putR
    split
    · rename_i hlt
      rw [List.pairwise_cons]
      refine ⟨fun z hz => ?_, putR_lt t n h.2⟩
      rcases (putR_mem t n z).1 hz with e | e
      · exact h.1 z e
      · omega
    · split
      · rw [List.pairwise_cons]; exact h
      · rename_i h1 h2
        rw [List.pairwise_cons, List.pairwise_cons]
        refine ⟨fun z hz => ?_, h⟩
        rcases List.mem_cons.1 hz with e | e
        · omega
        · have := h.1 z e; omega
theorem setS_snoc (xs : List Int) (x : Int) : setS (xs ++ [x]) = putR (setS xs) x := by unfold setS; rw [List.foldl_append]; rfl
theorem foldl_put (xs : List Int) : ∀ l : List Int, l.Pairwise (· < ·) → (xs.foldl putR l).Pairwise (· < ·) ∧ ∀ x, x ∈ xs.foldl putR l ↔ x ∈ l ∨ x ∈ xs := by
  induction xs with
  | nil => intro l h; exact ⟨h, fun x => by simp⟩
  | cons y t ih =>
    intro l h
    obtain ⟨h1, h2⟩ := ih (putR l y) (putR_lt l y h)
    refine ⟨h1, fun x => ?_⟩
    rw [List.foldl_cons, h2, putR_mem, List.mem_cons, or_assoc]
theorem setS_lt (xs : List Int) : (setS xs).Pairwise (· < ·) := (foldl_put xs [] (by simp)).1
theorem setS_mem (xs : List Int) (x : Int) : x ∈ setS xs ↔ x ∈ xs := by
  have := (foldl_put xs [] (by simp)).2 x
  unfold setS
  rw [this]; simp
theorem compact_sorted (d : Array Int) (hd : ∀ i j, i ≤ j → j < d.size → d[i]! ≤ d[j]!) : ∀ m, m ≤ d.size →
    (Lib.compactUpTo d m).Pairwise (· < ·) ∧ (∀ x, x ∈ Lib.compactUpTo d m ↔ ∃ j, j < m ∧ d[j]! = x)
  | 0, _ => ⟨by simp [Lib.compactUpTo], fun x => by simp [Lib.compactUpTo]⟩
  | m + 1, hm => by
    obtain ⟨h1, h2⟩ := compact_sorted d hd m (by omega)
    rw [Lib.compactUpTo_succ]
    have hle : ∀ x ∈ Lib.compactUpTo d m, x ≤ d[m]! := fun x hx => by
      obtain ⟨j, hj, rfl⟩ := (h2 x).1 hx
      exact hd j m (by omega) (by omega)
    have hmem : (∃ j, j < m + 1 ∧ d[j]! = d[m]!) := ⟨m, by omega, rfl⟩
    cases hk : Lib.keeps d m
    · have hne : ¬ (m = 0 ∨ d[m]! ≠ d[m - 1]!) := by simpa [Lib.keeps] using hk
      have h0 : m ≠ 0 := fun e => hne (.inl e)
      have he : d[m]! = d[m - 1]! := by
        by_cases e : d[m]! = d[m - 1]!
        · exact e
        · exact absurd (.inr e) hne
      simp only [Bool.false_eq_true, if_false, List.append_nil]
      refine ⟨h1, fun x => ?_⟩
      rw [h2]
      constructor
      · rintro ⟨j, hj, e⟩; exact ⟨j, by omega, e⟩
      · rintro ⟨j, hj, e⟩
        by_cases hjm : j = m
        · exact ⟨m - 1, by omega, by rw [← he, ← e, hjm]⟩
        · exact ⟨j, by omega, e⟩
    · have hpos : m = 0 ∨ d[m]! ≠ d[m - 1]! := by simpa [Lib.keeps] using hk
      simp only [if_true]
      refine ⟨?_, fun x => ?_⟩
      · rw [List.pairwise_append]
        refine ⟨h1, by simp, fun x hx y hy => ?_⟩
        simp at hy
        subst hy
        rcases hpos with e | e
        · subst e; simp [Lib.compactUpTo] at hx
        · obtain ⟨j, hj, rfl⟩ := (h2 x).1 hx
          have a := hd j (m - 1) (by omega) (by omega)
          have b := hd (m - 1) m (by omega) (by omega)
          have c : d[m - 1]! ≠ d[m]! := fun h => e h.symm
          omega
      · rw [List.mem_append, h2]
        simp only [List.mem_singleton]
        constructor
        · rintro (⟨j, hj, e⟩ | e)
          · exact ⟨j, by omega, e⟩
          · exact ⟨m, by omega, e.symm⟩
        · rintro ⟨j, hj, e⟩
          by_cases hjm : j = m
          · right; rw [← e, hjm]
          · exact .inl ⟨j, by omega, e⟩
theorem setL_eq (xs : List Int) : setL xs = setS xs := by
  have hp := List.mergeSort_perm xs (fun x y => decide (x ≤ y))
  have hs : (xs.mergeSort fun x y => decide (x ≤ y)).Pairwise (fun a b => decide (a ≤ b) = true) := List.pairwise_mergeSort (fun a b c h1 h2 => by simp at *; omega) (fun a b => by simp; omega) xs
  generalize hz : (xs.mergeSort fun x y => decide (x ≤ y)) = zs at hp hs
  have hd : ∀ i j, i ≤ j → j < zs.toArray.size → zs.toArray[i]! ≤ zs.toArray[j]! := by
    intro i j hij hj
    simp at hj
    rcases Nat.lt_or_ge i j with h | h
    · have := List.pairwise_iff_getElem.1 hs i j (by omega) hj h
      simp at this
      simpa [getElem!_pos, hj, show i < zs.length by omega] using this
    · obtain rfl : i = j := by omega
      exact Int.le_refl _
  obtain ⟨h1, h2⟩ := compact_sorted zs.toArray hd zs.length (by simp)
  unfold setL
  rw [hz]
  refine eq_of_lt _ _ h1 (setS_lt xs) (fun x => ?_)
  have h3 : x ∈ Lib.compact zs ↔ x ∈ zs := by
    unfold Lib.compact
    rw [h2]
    constructor
    · rintro ⟨j, hj, e⟩
      have : zs.toArray[j]! = zs[j] := by simp [getElem!_pos, hj]
      rw [← e, this]; exact List.getElem_mem hj
    · intro hx
      obtain ⟨j, hj, e⟩ := List.getElem_of_mem hx
      exact ⟨j, hj, by simp [getElem!_pos, hj, e]⟩
  rw [h3, setS_mem]
  exact hp.mem_iff
theorem setS_len_le : ∀ (xs l : List Int), (xs.foldl putR l).length ≤ l.length + xs.length
  | [], l => by simp
  | x :: t, l => by
    have h1 := setS_len_le t (putR l x)
    have h2 : ∀ (l : List Int) (n : Int), (putR l n).length ≤ l.length + 1 := by
      intro l n
      induction l with
      | nil => simp [putR]
      | cons y s ih => unfold putR; split <;> (try split) <;> simp <;> omega
    have h3 := h2 l x
    rw [List.foldl_cons, List.length_cons]
    omega
/-- where a number is put -/
theorem putR_at : ∀ (l : List Int) (n : Int) (k : Nat), k ≤ l.length → (∀ j x, j < k → l[j]? = some x → x < n) → (∀ x, l[k]? = some x → ¬ x < n) → putR l n = if l[k]? = some n then l else l.take k ++ n :: l.drop k
  | [], n, k, hk, _, _ => by simp at hk; subst hk; simp [putR]
  | y :: t, n, 0, _, _, h0 => by
    have := h0 y rfl
    unfold putR
    rw [if_neg this]
    by_cases e : y = n
    · subst e; simp
    · simp [e]
  | y :: t, n, k + 1, hk, hb, h0 => by
    have hy := hb 0 y (by omega) rfl
    have ih := putR_at t n k (by simpa using hk) (fun j x hj hx => hb (j + 1) x (by omega) (by simpa using hx)) (fun x hx => h0 x (by simpa using hx))
    unfold putR
    rw [if_pos hy, ih]
    simp only [List.getElem?_cons_succ, List.take_succ_cons, List.drop_succ_cons, List.cons_append]
    split <;> rfl
end Go.Proofs.Ytfflbbgipbnckaa
