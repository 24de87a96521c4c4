/- The parts of a set told by bits are those that subsets calls for: how many are as p tells. -/
import Derived.Test.YtfflbbgipbnckaaCft2
namespace Go.Proofs.Ytfflbbgipbnckaa
open Go.RowKit
set_option linter.unusedVariables false
theorem bit_low {m s j : Nat} (hs : s < 2 ^ m) (hj : j < m) : bitB (2 ^ m + s) j = bitB s j := by
  unfold bitB
  have e : 2 ^ m = 2 ^ j * (2 * 2 ^ (m - j - 1)) := by
    rw [← Nat.mul_assoc, ← Nat.pow_succ, ← Nat.pow_add]; congr 1; omega
  rw [e, Nat.mul_add_div (Nat.two_pow_pos j)]
  congr 1
  omega
theorem bit_top {m s : Nat} (hs : s < 2 ^ m) : bitB s m = false ∧ bitB (2 ^ m + s) m = true := by
  unfold bitB
  rw [Nat.div_eq_of_lt hs]
  refine ⟨rfl, ?_⟩
  rw [show 2 ^ m + s = s + 2 ^ m * 1 by omega, Nat.add_mul_div_left _ _ (Nat.two_pow_pos m), Nat.div_eq_of_lt hs]
  rfl
theorem prtL_cons (m s : Nat) : prtL (m + 1) s (m + 1) = (if bitB s m then [(0 : Int)] else []) ++ (prtL m s m).map (· + 1) := by
  unfold prtL
  rw [List.range_succ_eq_map, List.filter_cons]
  have e : ∀ j, m + 1 - 1 - (j + 1) = m - 1 - j := fun j => by omega
  have hf : ((List.range m).map Nat.succ).filter (fun j => bitB s (m + 1 - 1 - j)) = ((List.range m).filter fun j => bitB s (m - 1 - j)).map Nat.succ := by
    rw [List.filter_map]
    congr 1
    apply List.filter_congr
    intro j _
    show bitB s (m + 1 - 1 - (j + 1)) = _
    rw [e]
  rw [hf]
  cases h : bitB s (m + 1 - 1 - 0) <;> simp at h <;> simp [h, List.map_map]
theorem prtL_same {m s s' : Nat} (h : ∀ j, j < m → bitB s j = bitB s' j) : prtL m s m = prtL m s' m := by
  unfold prtL
  congr 1
  apply List.filter_congr
  intro j hj
  rw [List.mem_range] at hj
  exact h _ (by omega)
theorem pick_succ (x : Int) (t : List Int) (m s i : Nat) : pick (x :: t) ((prtL m s i).map (· + 1)) = pick t (prtL m s i) := by
  unfold pick
  rw [List.map_map]
  apply List.map_congr_left
  intro y hy
  obtain ⟨p, rfl, _⟩ := prtL_mem hy
  show (x :: t).getD ((p : Int) + 1).toNat 0 = _
  rw [show ((p : Int) + 1).toNat = p + 1 by omega]
  simp
theorem digsL_low {x : Int} {t : List Int} {s : Nat} (hs : s < 2 ^ t.length) : digsL (x :: t) s = digsL t s := by
  unfold digsL
  rw [List.length_cons, prtL_cons, (bit_top hs).1]
  exact pick_succ x t _ _ _
theorem digsL_high {x : Int} {t : List Int} {s : Nat} (hs : s < 2 ^ t.length) : digsL (x :: t) (2 ^ t.length + s) = x :: digsL t s := by
  unfold digsL
  rw [List.length_cons, prtL_cons, (bit_top hs).2, prtL_same (fun j hj => bit_low hs hj)]
  have h1 := pick_succ x t t.length s t.length
  have h2 : pick (x :: t) ([(0 : Int)] ++ (prtL t.length s t.length).map (· + 1)) = x :: pick (x :: t) ((prtL t.length s t.length).map (· + 1)) := by
    unfold pick; rw [List.map_append]; rfl
  rw [if_pos rfl, h2, h1]
theorem cnt_parts (p : List Int → Bool) : ∀ (l part : List Int), ((part :: loopE l part).filter p).length = ((List.range (2 ^ l.length)).filter fun s => p (part ++ digsL l s)).length
  | [], part => by
    simp [loopE, digsL, pick, prtL, List.filter_cons]
    cases p part <;> rfl
  | x :: t, part => by
    have h1 := cnt_parts p t (part ++ [x])
    have h2 := cnt_parts p t part
    have e : List.range (2 ^ (x :: t).length) = List.range (2 ^ t.length) ++ (List.range (2 ^ t.length)).map (2 ^ t.length + ·) := by
      rw [List.length_cons, Nat.pow_succ, Nat.mul_two, List.range_add]
    rw [e, List.filter_append, List.length_append, List.filter_map, List.length_map]
    have f1 : (List.range (2 ^ t.length)).filter (fun s => p (part ++ digsL (x :: t) s)) = (List.range (2 ^ t.length)).filter (fun s => p (part ++ digsL t s)) := by
      apply List.filter_congr
      intro s hs
      rw [digsL_low (List.mem_range.1 hs)]
    have f2 : (List.range (2 ^ t.length)).filter ((fun s => p (part ++ digsL (x :: t) s)) ∘ (2 ^ t.length + ·)) = (List.range (2 ^ t.length)).filter (fun s => p ((part ++ [x]) ++ digsL t s)) := by
      apply List.filter_congr
      intro s hs
      show p (part ++ digsL (x :: t) (2 ^ t.length + s)) = _
      rw [digsL_high (List.mem_range.1 hs)]; simp
    rw [f1, f2, ← h1, ← h2]
    simp only [loopE, List.filter_cons, List.filter_append]
    split <;> split <;> simp <;> omega
theorem cfA_bits (k : Int) : cfA k = ((List.range 1024).filter fun s => cfP k (digsL tenI s)).length := by
  exact cnt_parts (cfP k) tenI []
end Go.Proofs.Ytfflbbgipbnckaa
