/- Slices of pairs of ints (faults, states), and the grid of all states. No program in sight. -/
import Derived.Test.YtlipkplomndjcaaLib
import Derived.Test.YtlipkplomndjcaaPure
namespace Go.Proofs.Ytlipkplomndjcaa
open Go.RowKit
set_option linter.unusedVariables false

def flat2 (ps : List (Int × Int)) : List Value := ps.flatMap fun p => [.int .i64 p.1, .int .i64 p.2]
theorem flat2_nil : flat2 [] = [] := rfl
theorem flat2_snoc (ps : List (Int × Int)) (a b : Int) : flat2 (ps ++ [(a, b)]) = flat2 ps ++ [.int .i64 a, .int .i64 b] := by simp [flat2]
theorem flat2_length (ps : List (Int × Int)) : (flat2 ps).length = ps.length * 2 := by
  induction ps with
  | nil => rfl
  | cons p ps ih => simp only [flat2, List.flatMap_cons, List.length_append, List.length_cons] at ih ⊢; simp at ih ⊢; omega
theorem flat2_at {ps : List (Int × Int)} {k : Nat} {p : Int × Int} (h : ps[k]? = some p) : (flat2 ps)[k * 2]? = some (.int .i64 p.1) ∧ (flat2 ps)[k * 2 + 1]? = some (.int .i64 p.2) := by
  induction ps generalizing k with
  | nil => simp at h
  | cons q ps ih =>
    cases k with
    | zero => simp at h; subst h; simp [flat2]
    | succ k =>
      simp at h
      have := ih h
      have e1 : (k + 1) * 2 = k * 2 + 2 := by omega
      constructor
      · rw [e1]; simpa [flat2] using this.1
      · rw [show (k + 1) * 2 + 1 = k * 2 + 1 + 2 by omega]; simpa [flat2] using this.2
def Pairs (w : World) (v : Value) (ps : List (Int × Int)) : Prop := Sl w 2 v ps.length (flat2 ps)
theorem Pairs.below {w w' : World} {v : Value} {ps : List (Int × Int)} (h : Pairs w v ps) (hb : Below w.heap.size w w') : Pairs w' v ps := Sl.below h hb
theorem Pairs.le {w : World} {v : Value} {ps : List (Int × Int)} (h : Pairs w v ps) : ps.length ≤ 9223372036854775807 := Sl.le h
theorem Pairs.grown {w w' : World} {v : Value} {ps : List (Int × Int)} (h : Pairs w v ps) {r : Option Nat} (hg : w.grownBy w' r) (hne : v.ownBlock = none ∨ v.ownBlock ≠ r) : Pairs w' v ps := Sl.grown h hg hne
theorem Pairs.of_own {w : World} {lo : Nat} {e : TypeId} {v : Value} {ps : List (Int × Int)} (h : w.ownsRow lo e 2 v ps.length (flat2 ps)) : Pairs w v ps := Sl.of_own h
theorem Pairs.parts {w : World} {v : Value} {ps : List (Int × Int)} (h : Pairs w v ps) : ∃ a c, v = .slice a ps.length c ∧ ps.length ≤ c ∧ c ≤ 9223372036854775807 ∧
    Hid (∀ k p, ps[k]? = some p → ∃ b off, a = some ⟨b, off, none⟩ ∧ w.cell? ⟨b, off + k * 2, none⟩ = some (.int .i64 p.1) ∧ w.cell? ⟨b, off + k * 2 + 1, none⟩ = some (.int .i64 p.2)) := by
  obtain ⟨a, c, rfl, h1, h2, h3, h4⟩ := h
  refine ⟨a, c, rfl, h1, by unfold maxLen at h2; omega, fun k p hk => ?_⟩
  have hlt : k < ps.length := (List.getElem?_eq_some_iff.1 hk).1
  obtain ⟨b, off, rfl, hc⟩ := h4 (by omega)
  have := flat2_at hk
  refine ⟨b, off, rfl, ?_, ?_⟩
  · rw [hc _ (by omega)]; exact this.1
  · rw [Nat.add_assoc, hc _ (by omega)]; exact this.2
/-- the cells of a block that has just been laid -/
theorem news_new (w : World) (cs : List Value) (e : TypeId) : ∀ j u, cs[j]? = some u → (w.alloc (.cells cs.toArray e)).cell? ((⟨w.heap.size, 0, none⟩ : Addr).add j) = some u := by
  intro j u hu
  rw [Addr.add_lit, Nat.zero_add, World.cell?_alloc_at _ _ _ _ rfl]
  simpa using hu
/-- one element more, all of whose cells are single ones -/
theorem ownsRow_cast {w : World} {lo : Nat} {e : TypeId} {size n m : Nat} {v : Value} {xs ys : List Value} (h : w.ownsRow lo e size v n xs) (hn : n = m) (hx : xs = ys) : w.ownsRow lo e size v m ys := by subst hn hx; exact h

theorem own_lo {w : World} {lo lo' : Nat} {e : TypeId} {size n : Nat} {v : Value} {xs : List Value} (h : w.ownsRow lo e size v n xs) (hl : lo' ≤ lo) : w.ownsRow lo' e size v n xs := by
  refine ⟨h.1, ?_⟩
  rcases h.2 with h | ⟨g, c, cur, h1, h2, h3⟩
  · exact .inl h
  · exact .inr ⟨g, c, cur, h1, by omega, h3⟩

/-- marks: two numbers a pair, one after the other -/
def seqP (k : Int) (n : Nat) : List (Int × Int) := (List.range n).map fun (i : Nat) => (k + 2 * (i : Int), k + 2 * (i : Int) + 1)
theorem seqP_length (k : Int) (n : Nat) : (seqP k n).length = n := by simp [seqP]
theorem seqP_at {k : Int} {n j : Nat} (h : j < n) : (seqP k n)[j]? = some (k + 2 * j, k + 2 * j + 1) := by simp [seqP, h]
theorem seqP_succ (k : Int) (n : Nat) : seqP k (n + 1) = seqP k n ++ [(k + 2 * n, k + 2 * n + 1)] := by simp [seqP, List.range_succ]
theorem flat2_append (xs ys : List (Int × Int)) : flat2 (xs ++ ys) = flat2 xs ++ flat2 ys := by simp [flat2]
theorem set_two (l r : List Value) (a b c d : Value) {k : Nat} (hk : k = l.length) : ((l ++ a :: b :: r).set k c).set (k + 1) d = l ++ c :: d :: r := by
  subst hk
  rw [set_mid l (b :: r) a c rfl]
  have e : l ++ c :: b :: r = (l ++ [c]) ++ b :: r := by simp
  rw [e, set_mid (l ++ [c]) r b d (by simp)]; simp
/-- both cells of a pair written -/
theorem mark2_set {w : World} {lo g cap : Nat} {e : TypeId} {k0 : Int} {xs : List (Int × Int)} {k : Nat} (ho : w.ownsRow lo e 2 (.slice (some ⟨g, 0, none⟩) xs.length cap) xs.length (flat2 (seqP k0 k ++ xs.drop k))) (hk : k < xs.length) :
    (∃ u, w.cell? ⟨g, k * 2, none⟩ = some (.int .i64 u)) ∧ (∃ u, (w.setCell ⟨g, k * 2, none⟩ (.int .i64 (k0 + 2 * k))).cell? ⟨g, k * 2 + 1, none⟩ = some (.int .i64 u)) ∧ w.frozen? ⟨g, k * 2, none⟩ = false ∧ (w.setCell ⟨g, k * 2, none⟩ (.int .i64 (k0 + 2 * k))).frozen? ⟨g, k * 2 + 1, none⟩ = false ∧ w.frozen? ⟨g, k * 2 + 1, none⟩ = false ∧
      ((w.setCell ⟨g, k * 2, none⟩ (.int .i64 (k0 + 2 * k))).setCell ⟨g, k * 2 + 1, none⟩ (.int .i64 (k0 + 2 * k + 1))).ownsRow lo e 2 (.slice (some ⟨g, 0, none⟩) xs.length cap) xs.length (flat2 (seqP k0 (k + 1) ++ xs.drop (k + 1))) ∧
      w.grownBy ((w.setCell ⟨g, k * 2, none⟩ (.int .i64 (k0 + 2 * k))).setCell ⟨g, k * 2 + 1, none⟩ (.int .i64 (k0 + 2 * k + 1))) (some g) := by
  have h1 := ho.stored (k * 2) (.int .i64 (k0 + 2 * k))
  have h2 := h1.1.stored (k * 2 + 1) (.int .i64 (k0 + 2 * k + 1))
  have hp : (seqP k0 k ++ xs.drop k)[k]? = some xs[k] := by
    rw [List.getElem?_append_right (by simp [seqP_length]), seqP_length, Nat.sub_self, List.getElem?_drop, Nat.add_zero, List.getElem?_eq_getElem hk]
  have hf := flat2_at hp
  refine ⟨⟨_, (ho.cellAt _ (by omega)).trans hf.1⟩, ⟨xs[k].2, ?_⟩, ho.frozenAt _, h1.1.frozenAt _, ho.frozenAt _, ?_, h1.2.trans h2.2⟩
  · rw [h1.1.cellAt _ (by omega), List.getElem?_set_ne (by omega)]; exact hf.2
  · have e2 : ((flat2 (seqP k0 k ++ xs.drop k)).set (k * 2) (.int .i64 (k0 + 2 * k))).set (k * 2 + 1) (.int .i64 (k0 + 2 * k + 1)) = flat2 (seqP k0 (k + 1) ++ xs.drop (k + 1)) := by
      rw [List.drop_eq_getElem_cons hk, flat2_append, flat2_append, seqP_succ, flat2_snoc]
      have e3 : flat2 (xs[k] :: xs.drop (k + 1)) = .int .i64 xs[k].1 :: .int .i64 xs[k].2 :: flat2 (xs.drop (k + 1)) := rfl
      rw [e3, set_two _ _ _ _ _ _ (by rw [flat2_length, seqP_length])]; simp
    rw [← e2]; exact h2.1

theorem own_keep {w w' : World} {lo : Nat} {e : TypeId} {size n : Nat} {v : Value} {xs : List Value} (h : w.ownsRow lo e size v n xs) (hb : Below w.heap.size w w') : w'.ownsRow lo e size v n xs :=
  h.kept (Below.gr hb) (by cases v.ownBlock <;> simp)
theorem below_mark {w a b : World} {lo : Nat} {v : Value} (h : Below w.heap.size w a) (hl : ∀ k, v.ownBlock = some k → lo ≤ k ∧ k < a.heap.size) (hlo : w.heap.size ≤ lo) (hg : a.grownBy b v.ownBlock) : Below w.heap.size w b :=
  h.grown hg h.size fun k hk => Nat.le_trans hlo (hl k hk).1
theorem ne_of {a b : Option Nat} {l1 u1 l2 u2 : Nat} (h1 : ∀ k, a = some k → l1 ≤ k ∧ k < u1) (h2 : ∀ k, b = some k → l2 ≤ k ∧ k < u2) (h : u1 ≤ l2 ∨ u2 ≤ l1) : b = none ∨ b ≠ a := by
  cases b with
  | none => exact .inl rfl
  | some k =>
    right; intro e
    have := h1 k e.symm; have := h2 k rfl; omega
theorem lt_mono {v : Value} {l u u' : Nat} (h : ∀ k, v.ownBlock = some k → l ≤ k ∧ k < u) (hu : u ≤ u') : ∀ k, v.ownBlock = some k → l ≤ k ∧ k < u' :=
  fun k hk => ⟨(h k hk).1, Nat.lt_of_lt_of_le (h k hk).2 hu⟩
def pairEq (a b c d : Int) : Bool := decide ((a, b) = (c, d))

/-! the grid of all pairs of a bar and a kind, and the states among them -/
def grid : List (Int × Int) := [(0,0),(1,0),(2,0),(3,0),(4,0),(5,0),(6,0),(0,1),(1,1),(2,1),(3,1),(4,1),(5,1),(6,1),(0,2),(1,2),(2,2),(3,2),(4,2),(5,2),(6,2)]
def stB (s : Int × Int) : Bool := stateB s.1 s.2
def allSt : List (Int × Int) := (0, 0) :: grid.drop 7
theorem allSt_grid : grid.filter stB = allSt := by decide
theorem grid_at_fin : ∀ (k : Fin 3) (b : Fin 7), grid[7 * k.1 + b.1]? = some ((b.1 : Int), (k.1 : Int)) := by decide
theorem grid_at {k b : Nat} (hk : k < 3) (hb : b < 7) : grid[7 * k + b]? = some ((b : Int), (k : Int)) := grid_at_fin ⟨k, hk⟩ ⟨b, hb⟩
/-- what is kept of the first m of the grid -/
def gridTo (q : Int × Int → Bool) (m : Nat) : List (Int × Int) := (grid.take m).filter fun s => stB s && q s
theorem gridTo_zero (q : Int × Int → Bool) : gridTo q 0 = [] := rfl
theorem gridTo_succ (q : Int × Int → Bool) {m : Nat} {s : Int × Int} (h : grid[m]? = some s) : gridTo q (m + 1) = gridTo q m ++ if stB s && q s then [s] else [] := by
  unfold gridTo
  rw [take_snoc h, List.filter_append]
  cases hs : (stB s && q s) <;> simp [hs]
theorem gridTo_le (q : Int × Int → Bool) (m : Nat) : (gridTo q m).length ≤ 21 := by
  unfold gridTo
  have h1 := List.length_filter_le (fun s => stB s && q s) (grid.take m)
  have h2 : (grid.take m).length ≤ 21 := by rw [List.length_take]; simp [grid]; omega
  omega
theorem gridTo_all (q : Int × Int → Bool) : gridTo q 21 = allSt.filter q := by
  unfold gridTo
  rw [← allSt_grid, List.filter_filter, List.take_of_length_le (by simp [grid])]
  congr 1; funext s; cases stB s <;> cases q s <;> rfl
end Go.Proofs.Ytlipkplomndjcaa
