/- Slices of slices of ints: read, marked, held, compared. -/
import Derived.Test.YtlipkplomndjcaaDelV
import Derived.Test.YtlipkplomndjcaaHelp
namespace Go.Proofs.Ytlipkplomndjcaa
open Go.RowKit
set_option linter.unusedVariables false
set_option maxRecDepth 100000
theorem Sl.keepB {w w' : World} {size n B : Nat} {v : Value} {xs : List Value} (h : Sl w size v n xs) (hb : Below B w w') (hv : ∀ g, v.ownBlock = some g → g < B) : Sl w' size v n xs := by
  obtain ⟨a, c, rfl, h1, h2, h3, h4⟩ := h
  refine ⟨a, c, rfl, h1, h2, h3, fun hn => ?_⟩
  obtain ⟨b, off, rfl, hc⟩ := h4 hn
  refine ⟨b, off, rfl, fun j hj => ?_⟩
  have hlt := hv b rfl
  rw [← hc j hj]
  exact hb.cell (p := ⟨b, off + j, none⟩) hlt
/-- a slice of slices that reads so, all its blocks below B -/
def RdSS (w : World) (B : Nat) (u : Value) (xss : List (List Int)) : Prop :=
  ∃ vs, vs.length = xss.length ∧ Sl w 1 u vs.length vs ∧ (∀ g, u.ownBlock = some g → g < B) ∧
    ∀ (k : Nat) (v : Value) (xs : List Int), vs[k]? = some v → xss[k]? = some xs → Ints w v xs ∧ ∀ g, v.ownBlock = some g → g < B
theorem RdSS.keep {w w' : World} {B B' : Nat} {u : Value} {xss : List (List Int)} (h : RdSS w B u xss) (hb : Below B' w w') (hB : B ≤ B') : RdSS w' B u xss := by
  obtain ⟨vs, h1, h2, h3, h4⟩ := h
  exact ⟨vs, h1, h2.keepB hb (fun g hg => Nat.lt_of_lt_of_le (h3 g hg) hB), h3, fun k v xs hv hx => ⟨Sl.keepB (h4 k v xs hv hx).1 hb (fun g hg => Nat.lt_of_lt_of_le ((h4 k v xs hv hx).2 g hg) hB), (h4 k v xs hv hx).2⟩⟩
theorem OwnSS.rd {w : World} {lo : Nat} {u : Value} {xss : List (List Int)} (h : OwnSS w lo u xss) : RdSS w w.heap.size u xss := by
  obtain ⟨vs, ho, hi⟩ := h
  exact ⟨vs, hi.1, Sl.of_own (ownsRow_cast ho hi.1.symm rfl), fun g hg => (ho.lt g hg).2, fun k v xs hv hx => ⟨Ints.of_own (hi.2.1 k v xs hv hx), fun g hg => ((hi.2.1 k v xs hv hx).lt g hg).2⟩⟩
theorem RdSS.parts {w : World} {B : Nat} {u : Value} {xss : List (List Int)} (h : RdSS w B u xss) : ∃ a c, u = .slice a xss.length c ∧ xss.length ≤ 9223372036854775807 ∧
    Hid (∀ k xs, xss[k]? = some xs → ∃ b off a' c', a = some ⟨b, off, none⟩ ∧ w.cell? ⟨b, off + k, none⟩ = some (.slice a' xs.length c') ∧ Ints w (.slice a' xs.length c') xs) := by
  obtain ⟨vs, h1, h2, h3, h4⟩ := h
  have hle := h2.le
  obtain ⟨a, c, rfl, _, _, HC⟩ := h2.partsV
  refine ⟨a, c, by rw [h1], by omega, fun k xs hk => ?_⟩
  have hlt : k < vs.length := by rw [h1]; exact (List.getElem?_eq_some_iff.1 hk).1
  have hv : vs[k]? = some vs[k] := List.getElem?_eq_getElem hlt
  obtain ⟨b, off, e, hc⟩ := HC.out k _ hv
  have hI := (h4 k _ xs hv hk).1
  obtain ⟨a', c', e2, _⟩ := hI.parts
  exact ⟨b, off, a', c', e, by rw [hc, e2], by rw [← e2]; exact hI⟩
/-! marks -/
def totSS (xss : List (List Int)) : Nat := (xss.map List.length).sum
def seqSS : Int → List (List Int) → List (List Int)
  | _, [] => []
  | k, xs :: t => seqI k xs.length :: seqSS (k + xs.length) t
theorem seqSS_len : ∀ (k : Int) (xss : List (List Int)), (seqSS k xss).length = xss.length
  | _, [] => rfl
  | k, xs :: t => by simp [seqSS, seqSS_len]
theorem seqSS_append : ∀ (k : Int) (a b : List (List Int)), seqSS k (a ++ b) = seqSS k a ++ seqSS (k + totSS a) b
  | k, [], b => by simp [seqSS, totSS]
  | k, xs :: t, b => by
    simp only [List.cons_append, seqSS, seqSS_append]
    congr 3
    simp only [totSS, List.map_cons, List.sum_cons]; omega
theorem totSS_succ {xss : List (List Int)} {i : Nat} {xs : List Int} (h : xss[i]? = some xs) : totSS (xss.take (i + 1)) = totSS (xss.take i) + xs.length := by
  unfold totSS; rw [take_snoc h, List.map_append, List.sum_append]; simp
theorem totSS_le (xss : List (List Int)) (i : Nat) : totSS (xss.take i) ≤ totSS xss := by
  have h : totSS xss = totSS (xss.take i) + totSS (xss.drop i) := by
    unfold totSS
    rw [← List.sum_append, ← List.map_append, List.take_append_drop]
  omega
theorem seqSS_at {k : Int} {xss : List (List Int)} {i : Nat} {xs : List Int} (h : xss[i]? = some xs) : (seqSS k xss)[i]? = some (seqI (k + totSS (xss.take i)) xs.length) := by
  have hi : i < xss.length := (List.getElem?_eq_some_iff.1 h).1
  have e : xss = xss.take i ++ xs :: xss.drop (i + 1) := by
    have hx : xss[i] = xs := (List.getElem?_eq_some_iff.1 h).2
    conv => lhs; rw [← List.take_append_drop i xss, List.drop_eq_getElem_cons hi, hx]
  have hl : (seqSS k (xss.take i)).length = i := by rw [seqSS_len, List.length_take]; omega
  conv => lhs; rw [e]
  rw [seqSS_append, List.getElem?_append_right (by omega), hl, Nat.sub_self]; rfl
/-- marked as far as i -/
def mkSS (k : Int) (xss : List (List Int)) (i : Nat) : List (List Int) := seqSS k (xss.take i) ++ xss.drop i
theorem mkSS_at {k : Int} {xss : List (List Int)} {i : Nat} (hi : i ≤ xss.length) : (mkSS k xss i)[i]? = xss[i]? := by
  unfold mkSS
  have hl : (seqSS k (xss.take i)).length = i := by rw [seqSS_len, List.length_take]; omega
  rw [List.getElem?_append_right (by omega), hl, Nat.sub_self, List.getElem?_drop, Nat.add_zero]
theorem mkSS_succ {k : Int} {xss : List (List Int)} {i : Nat} {xs : List Int} (h : xss[i]? = some xs) : (mkSS k xss i).set i (seqI (k + totSS (xss.take i)) xs.length) = mkSS k xss (i + 1) := by
  have hi : i < xss.length := (List.getElem?_eq_some_iff.1 h).1
  have hx : xss[i] = xs := (List.getElem?_eq_some_iff.1 h).2
  have hl : (seqSS k (xss.take i)).length = i := by rw [seqSS_len, List.length_take]; omega
  unfold mkSS
  rw [List.drop_eq_getElem_cons hi, set_mid _ _ _ _ hl.symm, take_snoc h, seqSS_append]
  simp [seqSS]
theorem mkSS_zero (k : Int) (xss : List (List Int)) : mkSS k xss 0 = xss := rfl
theorem mkSS_all (k : Int) (xss : List (List Int)) : mkSS k xss xss.length = seqSS k xss := by unfold mkSS; rw [List.take_length, List.drop_length, List.append_nil]
theorem mkSS_len {k : Int} {xss : List (List Int)} {i : Nat} (hi : i ≤ xss.length) : (mkSS k xss i).length = xss.length := by
  unfold mkSS; rw [List.length_append, seqSS_len, List.length_take, List.length_drop]; omega
theorem Inn.set {w w' : World} {lo : Nat} {vs : List Value} {xss : List (List Int)} {i : Nat} {v : Value} {ys : List Int} (h : Inn w lo vs xss) (hv : vs[i]? = some v) (hi : i < xss.length)
    (ho : w'.ownsRow lo 3 1 v ys.length (ints ys)) (hg : w.grownBy w' v.ownBlock) : Inn w' lo vs (xss.set i ys) := by
  refine ⟨by rw [List.length_set]; exact h.1, fun k a xs ha hx => ?_, h.2.2⟩
  by_cases hk : k = i
  · subst hk
    rw [List.getElem?_set_self hi] at hx
    rw [hv] at ha
    obtain rfl := Option.some.inj ha
    obtain rfl := Option.some.inj hx
    exact ho
  · rw [List.getElem?_set_ne (by omega)] at hx
    have h1 := h.2.1 k a xs ha hx
    refine h1.kept hg ?_
    by_cases hlt : k < i
    · rcases h.2.2 k i a v hlt ha hv with h2 | h2
      · rw [h2]; cases a.ownBlock <;> simp
      · exact .inr (fun e => h2 e.symm)
    · rcases h.2.2 i k v a (by omega) hv ha with h2 | h2
      · exact .inl h2
      · exact .inr h2
end Go.Proofs.Ytlipkplomndjcaa
