/- Texts of this claim, gathered: Del, DelV, SS. -/
import Derived.Test.YtfbnmkpkihfocaaGreatK5
namespace Go.Proofs.YtfbnmkpkihfocaaGreat
open Go.RowKit
set_option linter.unusedVariables false
/-- the row while it is gone through: what is kept, what is left over, what is still to come -/
def DInv {α : Type} (p : α → Bool) (es : List α) (j i : Nat) (R : List α) : Prop :=
  ∃ J, R = (es.take j).filter (fun x => !p x) ++ (J ++ es.drop j) ∧ ((es.take j).filter fun x => !p x).length = i ∧ i + J.length = j ∧ i < j ∧ j ≤ es.length
theorem DInv.start {α : Type} {p : α → Bool} {es : List α} {k : Nat} {x : α} (hx : es[k]? = some x) (hp : p x = true) (h : ∀ j y, j < k → es[j]? = some y → p y = false) : DInv p es (k + 1) k es := by
  have hk : k < es.length := (List.getElem?_eq_some_iff.1 hx).1
  have hall : (es.take k).filter (fun x => !p x) = es.take k := by
    rw [List.filter_eq_self]
    intro y hy
    obtain ⟨j, hj, rfl⟩ := List.getElem_of_mem hy
    have hj2 : j < k := by rw [List.length_take] at hj; omega
    have := h j (es.take k)[j] hj2 (by rw [List.getElem_take, List.getElem?_eq_getElem (by omega)])
    rw [this]; rfl
  have hf : (es.take (k + 1)).filter (fun x => !p x) = es.take k := by
    rw [List.take_succ_eq_append_getElem hk, List.filter_append, hall]
    have : es[k] = x := by rw [List.getElem?_eq_getElem hk] at hx; exact Option.some.inj hx
    simp [this, hp]
  refine ⟨[x], ?_, ?_, by simp, by omega, hk⟩
  · rw [hf]
    have e : es[k] = x := by rw [List.getElem?_eq_getElem hk] at hx; exact Option.some.inj hx
    calc es = es.take k ++ es.drop k := (List.take_append_drop k es).symm
      _ = _ := by rw [List.drop_eq_getElem_cons hk, e]; rfl
  · rw [hf, List.length_take]; omega
theorem DInv.len {α : Type} {p : α → Bool} {es R : List α} {i j : Nat} (h : DInv p es j i R) : R.length = es.length := by
  obtain ⟨J, rfl, h1, h2, h3, h4⟩ := h
  simp only [List.length_append, List.length_drop]; omega
theorem DInv.get {α : Type} {p : α → Bool} {es R : List α} {i j : Nat} {x : α} (h : DInv p es j i R) (hx : es[j]? = some x) : R[j]? = some x := by
  obtain ⟨J, rfl, h1, h2, h3, h4⟩ := h
  rw [List.getElem?_append_right (by omega), List.getElem?_append_right (by omega), List.getElem?_drop, ← hx]
  congr 1; omega
theorem DInv.skip {α : Type} {p : α → Bool} {es R : List α} {i j : Nat} {x : α} (h : DInv p es j i R) (hx : es[j]? = some x) (hp : p x = true) : DInv p es (j + 1) i R := by
  obtain ⟨J, rfl, h1, h2, h3, h4⟩ := h
  have hj : j < es.length := (List.getElem?_eq_some_iff.1 hx).1
  have e : es[j] = x := by rw [List.getElem?_eq_getElem hj] at hx; exact Option.some.inj hx
  have hf : (es.take (j + 1)).filter (fun x => !p x) = (es.take j).filter (fun x => !p x) := by
    rw [List.take_succ_eq_append_getElem hj, List.filter_append]; simp [e, hp]
  refine ⟨J ++ [x], ?_, by rw [hf]; exact h1, by simp; omega, by omega, hj⟩
  rw [hf, List.drop_eq_getElem_cons hj, e]; simp
theorem DInv.keep {α : Type} {p : α → Bool} {es R : List α} {i j : Nat} {x : α} (h : DInv p es j i R) (hx : es[j]? = some x) (hp : p x = false) : DInv p es (j + 1) (i + 1) (R.set i x) := by
  obtain ⟨J, rfl, h1, h2, h3, h4⟩ := h
  have hj : j < es.length := (List.getElem?_eq_some_iff.1 hx).1
  have e : es[j] = x := by rw [List.getElem?_eq_getElem hj] at hx; exact Option.some.inj hx
  have hf : (es.take (j + 1)).filter (fun x => !p x) = (es.take j).filter (fun x => !p x) ++ [x] := by
    rw [List.take_succ_eq_append_getElem hj, List.filter_append]; simp [e, hp]
  cases J with
  | nil => simp at h2; omega
  | cons y J' =>
    refine ⟨J' ++ [x], ?_, by rw [hf, List.length_append, h1]; rfl, by simp at h2 ⊢; omega, by omega, hj⟩
    rw [hf, List.drop_eq_getElem_cons hj, e, List.cons_append, set_mid _ _ _ _ h1.symm]
    simp
theorem DInv.done {α : Type} {p : α → Bool} {es R : List α} {i : Nat} (h : DInv p es es.length i R) : R.take i = es.filter (fun x => !p x) ∧ i = (es.filter fun x => !p x).length := by
  obtain ⟨J, rfl, h1, h2, h3, h4⟩ := h
  rw [List.take_length] at h1 ⊢
  exact ⟨by rw [List.take_left' h1], h1.symm⟩
/-- cells stored one after the other into a row -/
theorem own_cells {lo size n cap g : Nat} {e : TypeId} : ∀ (vs : List Value) (o : Nat) (w : World) (xs : List Value), w.ownsRow lo e size (.slice (some ⟨g, 0, none⟩) n cap) n xs →
    ∃ ys, (w.setCells g o vs).ownsRow lo e size (.slice (some ⟨g, 0, none⟩) n cap) n ys ∧ ys.take o = xs.take o ∧ w.grownBy (w.setCells g o vs) (some g)
  | [], o, w, xs, h => ⟨xs, h, rfl, World.grownBy.refl _ _⟩
  | v :: r, o, w, xs, h => by
    have h1 := h.stored o v
    obtain ⟨ys, h2, h3, h4⟩ := own_cells r (o + 1) (w.setCell ⟨g, o, none⟩ v) _ h1.1
    refine ⟨ys, h2, ?_, ?_⟩
    · have : (ys.take (o + 1)).take o = ((xs.set o v).take (o + 1)).take o := by rw [h3]
      rw [List.take_take, List.take_take, Nat.min_eq_left (by omega)] at this
      rw [this, List.take_set_of_le (Nat.le_refl _)]
    · exact ⟨h4.os.trans h1.2.os, h4.tape.trans h1.2.tape, h4.output.trans h1.2.output, Nat.le_trans h1.2.size h4.size, fun k hk hne => (h4.block k (Nat.lt_of_lt_of_le hk h1.2.size) hne).trans (h1.2.block k hk hne)⟩
/-- the head of a row -/
theorem own_cut {w : World} {lo size n m cap g : Nat} {e : TypeId} {xs : List Value} (h : w.ownsRow lo e size (.slice (some ⟨g, 0, none⟩) n cap) n xs) (hm : m ≤ n) :
    w.ownsRow lo e size (.slice (some ⟨g, 0, none⟩) m cap) m (xs.take (m * size)) := by
  have hl := h.1
  refine ⟨?_, ?_⟩
  · rw [List.length_take, hl]; exact Nat.min_eq_left (Nat.mul_le_mul_right _ hm)
  · rcases h.2 with ⟨h', _⟩ | ⟨g', cap', cur, h', hb, hg, hnc, hcm, hcs, ht⟩
    · cases h'
    · injection h' with h1 _ h3
      injection h1 with h1; injection h1 with h1
      subst h1 h3
      exact .inr ⟨g, cap, cur, rfl, hb, hg, by omega, hcm, hcs, by rw [← ht, List.take_take, Nat.min_eq_left (Nat.mul_le_mul_right _ hm)]⟩
theorem run_clear_cells {P : Program} (w : World) (t e ty : TypeId) (z : Value) (ht : P.underlying t = some (.slice e)) (hv : ∀ w, (zeroValue e).run P w = .ok z w) (h1 : ∀ v ∈ z.cells.toList, v.oneCell' = true) (hpos : 0 < z.cells.size) (b o n c : Nat) (hn : 0 < n)
    (hth : w.there b o (n * z.cells.size)) :
    (Builtin.clear_ #[t] ty #[.slice (some ⟨b, o, none⟩) n c]).run P w = .ok (.tuple #[]) (w.setCells b o (Builtin.zeroCells z.cells n).toList) := by
  have hlen : (Builtin.zeroCells z.cells n).toList.length = n * z.cells.size := by simp [Builtin.zeroCells]
  have hst := run_storeCells_cells (P := P) b o (Builtin.zeroCells z.cells n).toList 0 w (by rw [hlen]; exact fun j hj => by simpa using (hth j hj).1) (by rw [hlen]; exact fun j hj => by simpa using (hth j hj).2)
    (by
      intro v hv'
      simp only [Builtin.zeroCells, Array.toList_map, List.mem_map, Array.toList_range, List.mem_range] at hv'
      obtain ⟨i, _, rfl⟩ := hv'
      have hlt := Nat.mod_lt i hpos
      have : z.cells[i % z.cells.size]! = z.cells[i % z.cells.size] := by simp [hlt]
      rw [this]
      exact h1 _ (by simp))
  simp only [Nat.add_zero] at hst
  obtain ⟨m, rfl⟩ : ∃ m, n = m + 1 := ⟨n - 1, by omega⟩
  simp [Builtin.clear_, run_underlying ht, hv, hst]
theorem own_there {w : World} {lo size n cap g : Nat} {e : TypeId} {xs : List Value} (h : w.ownsRow lo e size (.slice (some ⟨g, 0, none⟩) n cap) n xs) : w.there g 0 (n * size) := fun j hj => by
  rw [Nat.zero_add]
  refine ⟨?_, h.frozenAt j⟩
  rw [h.cellAt j hj, List.getElem?_eq_getElem (by rw [h.1]; exact hj)]; rfl
end Go.Proofs.YtfbnmkpkihfocaaGreat
namespace Go.Proofs.YtfbnmkpkihfocaaGreat
open Go.RowKit
set_option linter.unusedVariables false
set_option maxRecDepth 100000
theorem Sl.partsV {w : World} {v : Value} {xs : List Value} (h : Sl w 1 v xs.length xs) : ∃ a c, v = .slice a xs.length c ∧ xs.length ≤ c ∧ c ≤ 9223372036854775807 ∧
    Hid (∀ k x, xs[k]? = some x → ∃ b off, a = some ⟨b, off, none⟩ ∧ w.cell? ⟨b, off + k, none⟩ = some x) := by
  obtain ⟨a, c, rfl, h1, h2, h3, h4⟩ := h
  refine ⟨a, c, rfl, h1, by unfold maxLen at h2; omega, fun k x hk => ?_⟩
  have hlt : k < xs.length := (List.getElem?_eq_some_iff.1 hk).1
  obtain ⟨b, off, rfl, hc⟩ := h4 (by omega)
  exact ⟨b, off, rfl, by rw [hc k (by omega), hk]⟩
theorem firstAt_cases {α : Type} (p : α → Bool) (xs : List α) : (firstAt p xs = -1 ∧ xs.filter (fun x => !p x) = xs) ∨ ∃ (k : Nat) (x : α), firstAt p xs = (k : Int) ∧ xs[k]? = some x ∧ p x = true ∧ ∀ (j : Nat) (y : α), j < k → xs[j]? = some y → p y = false := by
  unfold firstAt
  cases h : xs.findIdx? p with
  | none =>
    left
    rw [List.findIdx?_eq_none_iff] at h
    exact ⟨rfl, by rw [List.filter_eq_self]; intro x hx; rw [h x hx]; rfl⟩
  | some k =>
    right
    rw [List.findIdx?_eq_some_iff_getElem] at h
    obtain ⟨hk, hp, hb⟩ := h
    refine ⟨k, xs[k], rfl, List.getElem?_eq_getElem hk, hp, fun j y hj hy => ?_⟩
    have hjl : j < xs.length := by omega
    have := hb j hj
    rw [List.getElem?_eq_getElem hjl] at hy
    have e := Option.some.inj hy
    rw [e] at this
    simpa using this
end Go.Proofs.YtfbnmkpkihfocaaGreat
namespace Go.Proofs.YtfbnmkpkihfocaaGreat
open Go.RowKit
set_option linter.unusedVariables false
set_option maxRecDepth 100000
theorem Sl.keepB {w w' : World} {size n B : Nat} {v : Value} {xs : List Value} (h : Sl w size v n xs) (hb : Below B w w') (hv : ∀ g, v.ownBlock = some g → g < B) : Sl w' size v n xs := by
  obtain ⟨a, c, rfl, h1, h2, h3, h4⟩ := h
  refine ⟨a, c, rfl, h1, h2, h3, fun hn => ?_⟩
  obtain ⟨b, off, rfl, hc⟩ := h4 hn
  refine ⟨b, off, rfl, fun j hj => ?_⟩
  have hlt := hv b rfl
  rw [← hc j hj]
  exact hb.cell (p := ⟨b, off + j, none⟩) hlt
/-- a slice of slices that reads so, all its blocks below B -/
def RdSS (w : World) (B : Nat) (u : Value) (xss : List (List Int)) : Prop :=
  ∃ vs, vs.length = xss.length ∧ Sl w 1 u vs.length vs ∧ (∀ g, u.ownBlock = some g → g < B) ∧
    ∀ (k : Nat) (v : Value) (xs : List Int), vs[k]? = some v → xss[k]? = some xs → Ints w v xs ∧ ∀ g, v.ownBlock = some g → g < B
theorem RdSS.keep {w w' : World} {B B' : Nat} {u : Value} {xss : List (List Int)} (h : RdSS w B u xss) (hb : Below B' w w') (hB : B ≤ B') : RdSS w' B u xss := by
  obtain ⟨vs, h1, h2, h3, h4⟩ := h
  exact ⟨vs, h1, h2.keepB hb (fun g hg => Nat.lt_of_lt_of_le (h3 g hg) hB), h3, fun k v xs hv hx => ⟨Sl.keepB (h4 k v xs hv hx).1 hb (fun g hg => Nat.lt_of_lt_of_le ((h4 k v xs hv hx).2 g hg) hB), (h4 k v xs hv hx).2⟩⟩
theorem OwnSS.rd {w : World} {lo : Nat} {u : Value} {xss : List (List Int)} (h : OwnSS w lo u xss) : RdSS w w.heap.size u xss := by
  obtain ⟨vs, ho, hi⟩ := h
  exact ⟨vs, hi.1, Sl.of_own (ownsRow_cast ho hi.1.symm rfl), fun g hg => (ho.lt g hg).2, fun k v xs hv hx => ⟨Ints.of_own (hi.2.1 k v xs hv hx), fun g hg => ((hi.2.1 k v xs hv hx).lt g hg).2⟩⟩
theorem RdSS.parts {w : World} {B : Nat} {u : Value} {xss : List (List Int)} (h : RdSS w B u xss) : ∃ a c, u = .slice a xss.length c ∧ xss.length ≤ 9223372036854775807 ∧
    Hid (∀ k xs, xss[k]? = some xs → ∃ b off a' c', a = some ⟨b, off, none⟩ ∧ w.cell? ⟨b, off + k, none⟩ = some (.slice a' xs.length c') ∧ Ints w (.slice a' xs.length c') xs) := by
  obtain ⟨vs, h1, h2, h3, h4⟩ := h
  have hle := h2.le
  obtain ⟨a, c, rfl, _, _, HC⟩ := h2.partsV
  refine ⟨a, c, by rw [h1], by omega, fun k xs hk => ?_⟩
  have hlt : k < vs.length := by rw [h1]; exact (List.getElem?_eq_some_iff.1 hk).1
  have hv : vs[k]? = some vs[k] := List.getElem?_eq_getElem hlt
  obtain ⟨b, off, e, hc⟩ := HC.out k _ hv
  have hI := (h4 k _ xs hv hk).1
  obtain ⟨a', c', e2, _⟩ := hI.parts
  exact ⟨b, off, a', c', e, by rw [hc, e2], by rw [← e2]; exact hI⟩
/-! marks -/
def totSS (xss : List (List Int)) : Nat := (xss.map List.length).sum
def seqSS : Int → List (List Int) → List (List Int)
  | _, [] => []
  | k, xs :: t => seqI k xs.length :: seqSS (k + xs.length) t
theorem seqSS_len : ∀ (k : Int) (xss : List (List Int)), (seqSS k xss).length = xss.length
  | _, [] => rfl
  | k, xs :: t => by simp [seqSS, seqSS_len]
theorem seqSS_append : ∀ (k : Int) (a b : List (List Int)), seqSS k (a ++ b) = seqSS k a ++ seqSS (k + totSS a) b
  | k, [], b => by simp [seqSS, totSS]
  | k, xs :: t, b => by
    simp only [List.cons_append, seqSS, seqSS_append]
    congr 3
    simp only [totSS, List.map_cons, List.sum_cons]; omega
theorem totSS_succ {xss : List (List Int)} {i : Nat} {xs : List Int} (h : xss[i]? = some xs) : totSS (xss.take (i + 1)) = totSS (xss.take i) + xs.length := by
  unfold totSS; rw [take_snoc h, List.map_append, List.sum_append]; simp
theorem totSS_le (xss : List (List Int)) (i : Nat) : totSS (xss.take i) ≤ totSS xss := by
  have h : totSS xss = totSS (xss.take i) + totSS (xss.drop i) := by
    unfold totSS
    rw [← List.sum_append, ← List.map_append, List.take_append_drop]
  omega
theorem seqSS_at {k : Int} {xss : List (List Int)} {i : Nat} {xs : List Int} (h : xss[i]? = some xs) : (seqSS k xss)[i]? = some (seqI (k + totSS (xss.take i)) xs.length) := by
  have hi : i < xss.length := (List.getElem?_eq_some_iff.1 h).1
  have e : xss = xss.take i ++ xs :: xss.drop (i + 1) := by
    have hx : xss[i] = xs := (List.getElem?_eq_some_iff.1 h).2
    conv => lhs; rw [← List.take_append_drop i xss, List.drop_eq_getElem_cons hi, hx]
  have hl : (seqSS k (xss.take i)).length = i := by rw [seqSS_len, List.length_take]; omega
  conv => lhs; rw [e]
  rw [seqSS_append, List.getElem?_append_right (by omega), hl, Nat.sub_self]; rfl
/-- marked as far as i -/
def mkSS (k : Int) (xss : List (List Int)) (i : Nat) : List (List Int) := seqSS k (xss.take i) ++ xss.drop i
theorem mkSS_at {k : Int} {xss : List (List Int)} {i : Nat} (hi : i ≤ xss.length) : (mkSS k xss i)[i]? = xss[i]? := by
  unfold mkSS
  have hl : (seqSS k (xss.take i)).length = i := by rw [seqSS_len, List.length_take]; omega
  rw [List.getElem?_append_right (by omega), hl, Nat.sub_self, List.getElem?_drop, Nat.add_zero]
theorem mkSS_succ {k : Int} {xss : List (List Int)} {i : Nat} {xs : List Int} (h : xss[i]? = some xs) : (mkSS k xss i).set i (seqI (k + totSS (xss.take i)) xs.length) = mkSS k xss (i + 1) := by
  have hi : i < xss.length := (List.getElem?_eq_some_iff.1 h).1
  have hx : xss[i] = xs := (List.getElem?_eq_some_iff.1 h).2
  have hl : (seqSS k (xss.take i)).length = i := by rw [seqSS_len, List.length_take]; omega
  unfold mkSS
  rw [List.drop_eq_getElem_cons hi, set_mid _ _ _ _ hl.symm, take_snoc h, seqSS_append]
  simp [seqSS]
theorem mkSS_zero (k : Int) (xss : List (List Int)) : mkSS k xss 0 = xss := rfl
theorem mkSS_all (k : Int) (xss : List (List Int)) : mkSS k xss xss.length = seqSS k xss := by unfold mkSS; rw [List.take_length, List.drop_length, List.append_nil]
theorem mkSS_len {k : Int} {xss : List (List Int)} {i : Nat} (hi : i ≤ xss.length) : (mkSS k xss i).length = xss.length := by
  unfold mkSS; rw [List.length_append, seqSS_len, List.length_take, List.length_drop]; omega
theorem Inn.set {w w' : World} {lo : Nat} {vs : List Value} {xss : List (List Int)} {i : Nat} {v : Value} {ys : List Int} (h : Inn w lo vs xss) (hv : vs[i]? = some v) (hi : i < xss.length)
    (ho : w'.ownsRow lo 3 1 v ys.length (ints ys)) (hg : w.grownBy w' v.ownBlock) : Inn w' lo vs (xss.set i ys) := by
  refine ⟨by rw [List.length_set]; exact h.1, fun k a xs ha hx => ?_, h.2.2⟩
  by_cases hk : k = i
  · subst hk
    rw [List.getElem?_set_self hi] at hx
    rw [hv] at ha
    obtain rfl := Option.some.inj ha
    obtain rfl := Option.some.inj hx
    exact ho
  · rw [List.getElem?_set_ne (by omega)] at hx
    have h1 := h.2.1 k a xs ha hx
    refine h1.kept hg ?_
    by_cases hlt : k < i
    · rcases h.2.2 k i a v hlt ha hv with h2 | h2
      · rw [h2]; cases a.ownBlock <;> simp
      · exact .inr (fun e => h2 e.symm)
    · rcases h.2.2 i k v a (by omega) hv ha with h2 | h2
      · exact .inl h2
      · exact .inr h2
end Go.Proofs.YtfbnmkpkihfocaaGreat
