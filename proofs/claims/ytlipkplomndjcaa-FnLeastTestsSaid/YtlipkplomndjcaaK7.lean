/- Texts of this claim, gathered: Least2, Short2, Short3, Short4, Del, DelV, SS, Lts. -/
import Derived.Test.YtlipkplomndjcaaK6
namespace Go.Proofs.Ytlipkplomndjcaa
open Go.RowKit
set_option linter.unusedVariables false
set_option maxRecDepth 100000
theorem Delete_c (v : Value) (xs : List Int) (i lo : Nat) (w : World) (ho : w.ownsRow lo 3 1 v xs.length (ints xs)) (hi : i < xs.length) (hn : xs.length ≤ 1000) :
    Calls Try.prog 161 #[v, .int .i64 (i : Int), .int .i64 ((i : Int) + 1)] w fun e w' => ∃ u, e = .returned u ∧ w'.ownsRow lo 3 1 u (xs.eraseIdx i).length (ints (xs.eraseIdx i)) ∧ w.grownBy w' v.ownBlock := by
  have hv : v ≠ .slice none 0 0 := by
    intro e
    obtain ⟨a, c, e2, _⟩ := (Sl.of_own ho).slice
    rw [e] at e2
    injection e2 with _ e3
    omega
  obtain ⟨g, cap, rfl, hlo, hlt, h1, h2, _, hH⟩ := Lib.holds_of_ownsRow ho hv
  unfold maxLen at h2
  have H := Try.slices_Delete_int g 0 cap i (i + 1) xs w hH h1 (by omega) (by omega) (by omega)
  rw [show ((i + 1 : Nat) : Int) = (i : Int) + 1 by omega] at H
  refine H.mono ?_
  rintro e w' ⟨rfl, q, rfl⟩
  have hl := erase_len hi
  have h3 := Lib.ownsRow_putRow (q := q) (k := (xs.eraseIdx i).length) (ys := xs.take i ++ xs.drop (i + 1) ++ List.replicate (i + 1 - i) 0) ho (by simp; omega) (by omega)
  have e3 : List.take (xs.eraseIdx i).length (xs.take i ++ xs.drop (i + 1) ++ List.replicate (i + 1 - i) (0 : Int)) = xs.eraseIdx i := by rw [← List.eraseIdx_eq_take_drop_succ, List.take_left]
  rw [e3] at h3
  have h4 := grownBy_sortedI (w := w) (g := g) (n := q) (os := #[]) (xs.take i ++ xs.drop (i + 1) ++ List.replicate (i + 1 - i) 0).toArray
  rw [Sort.grow_empty] at h4
  exact ⟨_, rfl, by rw [show xs.length - (i + 1 - i) = (xs.eraseIdx i).length by omega]; exact h3, h4⟩
set_option maxHeartbeats 2000000 in
theorem isLeast_c (v : Value) (xs : List Int) (w : World) (hv : Ints w v xs) (ht : testB xs = true) :
    Calls Try.prog 133 #[v] w fun e w' => e = .returned (.bool (leastL (setS xs))) ∧ Below w.heap.size w w' := by
  have hlen : xs.length ≤ 10 := by unfold testB at ht; simp only [Bool.and_eq_true, decide_eq_true_eq] at ht; exact ht.1
  have HS := Lib.hid (setOf_c v xs w hv (by omega))
  have hts := testB_set ht
  have hsl := setS_len xs
  clear hv ht
  generalize setS xs = l at *
  have hll : l.length ≤ 10 := by omega
  have HT := Lib.hid hts; clear hts hsl
  go_enter Try.func133, Try.ntmps133
  go_wp2_with fail
  refine HS.out.mono ?_
  rintro e w1 ⟨u, rfl, ho, hb1⟩
  have hIu := Ints.of_own ho
  obtain ⟨ua, uc, rfl, _, _, _⟩ := hIu.parts
  have HI := Lib.hid hIu
  clear ho hIu
  go_wp2
  go_loopw [9] (fun i wr => ∃ k : Nat, k ≤ l.length ∧ i = .int .i64 (k : Int) ∧ Hid (∀ j, j < k → fullB (l.eraseIdx j) = false) ∧ Below w1.heap.size w1 wr) (fun i _ => l.length - (intOf i).toNat)
  case atStart => exact ⟨0, by omega, rfl, fun j h => by omega, Below.refl _ _⟩
  case round =>
    obtain ⟨k, hk, rfl, hbef, hb⟩ := hrel
    by_cases hlt : k < l.length
    · have hd : decide ((k : Int) < (l.length : Int)) = true := by simp; omega
      have HC := Lib.hid (Clone_c _ l wr (HI.out.below hb) (by omega))
      have hte := Lib.hid (testB_erase HT.out k)
      go_wp2_with fail
      refine HC.out.mono ?_
      rintro e w2 ⟨u2, rfl, ho2, hb2⟩
      have HD := Lib.hid (Delete_c u2 l k wr.heap.size w2 ho2 hlt (by omega))
      have HO2 := Lib.hid ho2
      clear ho2
      go_wp2_with fail
      refine HD.out.mono ?_
      rintro e w3 ⟨u3, rfl, ho3, hg3⟩
      have hb3 : Below wr.heap.size wr w3 := hb2.grown hg3 hb2.size (fun q hq => (HO2.out.lt q hq).1)
      have hI3 := Lib.hid (Ints.of_own ho3)
      clear ho3 hg3 hb2
      go_wp2_with fail
      refine (isFull_c u3 (l.eraseIdx k) _ hI3.out hte.out).mono ?_
      rintro e w4 ⟨rfl, hb4⟩
      have hb5 := Below.chain hb (Below.chain hb3 hb4)
      clear hb hb3 hb4
      rcases hq : fullB (l.eraseIdx k) with _ | _
      · have HN : Hid (∀ j, j < k + 1 → fullB (l.eraseIdx j) = false) := fun j hj => by
          by_cases hj2 : j < k
          · exact hbef.out j hj2
          · obtain rfl : j = k := by omega
            exact hq
        clear hbef
        go_wp2
        go_roundw
        case rel => exact ⟨k + 1, by omega, by go_num, HN, hb5⟩
        case measure => simp [intOf]; omega
      · have HF := Lib.hid (leastL_bad hlt hq)
        have hb9 := Below.chain hb1 hb5
        clear hbef
        go_wp2
        go_ret
        exact ⟨by rw [HF.out]; rfl, hb9⟩
    · obtain rfl : k = l.length := by omega
      have HF := Lib.hid (leastL_ok hbef.out)
      have hI2 := Lib.hid (HI.out.below hb)
      go_wp2_with fail
      refine (isFull_c _ l _ hI2.out HT.out).mono ?_
      rintro e w2 ⟨rfl, hb2⟩
      have hb3 := Below.chain hb1 (Below.chain hb hb2)
      go_wp2
      go_ret
      exact ⟨by rw [HF.out]; rfl, hb3⟩
def ltV (xs : List Int) : Value := .tuple #[.bool (testB xs && leastL (setS xs)), .bool (testB xs)]
theorem IsLeastTest_c (v : Value) (xs : List Int) (w : World) (hv : Ints w v xs) :
    Calls Try.prog 75 #[v] w fun e w' => e = .returned (ltV xs) ∧ Below w.heap.size w w' := by
  rcases hq : testB xs with _ | _
  · have HF := Lib.hid (show ltV xs = .tuple #[.bool false, .bool false] by unfold ltV; rw [hq]; rfl)
    have HQ := Lib.hid hq; have HV := Lib.hid hv; clear hq hv
    go_enter Try.func75, Try.ntmps75
    go_wp2_with fail
    refine (isTest_c v xs _ HV.out).mono ?_
    rintro e w1 ⟨rfl, hb1⟩
    rw [HQ.out]
    go_wp2
    go_ret2
    exact ⟨by rw [HF.out]; rfl, hb1⟩
  · have HF := Lib.hid (show ltV xs = .tuple #[.bool (leastL (setS xs)), .bool true] by unfold ltV; rw [hq]; rfl)
    have HQ := Lib.hid hq; have HV := Lib.hid hv; clear hq hv
    go_enter Try.func75, Try.ntmps75
    go_wp2_with fail
    refine (isTest_c v xs _ HV.out).mono ?_
    rintro e w1 ⟨rfl, hb1⟩
    rw [HQ.out]
    have HL := Lib.hid (isLeast_c v xs w1 (HV.out.below hb1) HQ.out)
    go_wp2_with fail
    refine HL.out.mono ?_
    rintro e w2 ⟨rfl, hb2⟩
    have hb3 := Below.chain hb1 hb2
    go_wp2
    go_ret2
    exact ⟨by rw [HF.out]; rfl, hb3⟩
end Go.Proofs.Ytlipkplomndjcaa
namespace Go.Proofs.Ytlipkplomndjcaa
open Go.RowKit
set_option linter.unusedVariables false
set_option maxRecDepth 100000
theorem befL_step {a b : List Int} {k : Nat} {x : Int} (ha : a[k]? = some x) (hb : b[k]? = some x) : befL (a.drop k) (b.drop k) = befL (a.drop (k + 1)) (b.drop (k + 1)) := by
  have e1 : a.drop k = x :: a.drop (k + 1) := by
    have hlt := (List.getElem?_eq_some_iff.1 ha).1
    rw [List.drop_eq_getElem_cons hlt]
    rw [List.getElem?_eq_getElem hlt] at ha
    rw [Option.some.inj ha]
  have e2 : b.drop k = x :: b.drop (k + 1) := by
    have hlt := (List.getElem?_eq_some_iff.1 hb).1
    rw [List.drop_eq_getElem_cons hlt]
    rw [List.getElem?_eq_getElem hlt] at hb
    rw [Option.some.inj hb]
  rw [e1, e2, befL_cons]
theorem befL_diff {a b : List Int} {k : Nat} {x y : Int} (ha : a[k]? = some x) (hb : b[k]? = some y) (hne : x ≠ y) : befL (a.drop k) (b.drop k) = decide (x < y) := by
  have e1 : a.drop k = x :: a.drop (k + 1) := by
    have hlt := (List.getElem?_eq_some_iff.1 ha).1
    rw [List.drop_eq_getElem_cons hlt]
    rw [List.getElem?_eq_getElem hlt] at ha
    rw [Option.some.inj ha]
  have e2 : b.drop k = y :: b.drop (k + 1) := by
    have hlt := (List.getElem?_eq_some_iff.1 hb).1
    rw [List.drop_eq_getElem_cons hlt]
    rw [List.getElem?_eq_getElem hlt] at hb
    rw [Option.some.inj hb]
  rw [e1, e2]
  unfold befL
  rw [if_neg hne]
theorem befL_end {a b : List Int} {k : Nat} (h : k = a.length ∨ k = b.length) (ha : k ≤ a.length) (hb : k ≤ b.length) : befL (a.drop k) (b.drop k) = decide (a.length < b.length) := by
  rcases h with h | h
  · subst h
    rw [List.drop_length]
    cases hd : b.drop a.length with
    | nil =>
      have := List.drop_eq_nil_iff.1 hd
      simp [befL]; omega
    | cons y t =>
      have : a.length < b.length := by
        rcases Nat.lt_or_ge a.length b.length with h | h
        · exact h
        · rw [List.drop_eq_nil_of_le h] at hd; cases hd
      simp [befL]; omega
  · subst h
    rw [show b.drop b.length = [] by simp]
    cases hd : a.drop b.length with
    | nil =>
      have := List.drop_eq_nil_iff.1 hd
      simp [befL]; omega
    | cons y t =>
      simp [befL]; omega
set_option maxHeartbeats 1000000 in
theorem l7Before_c (v1 v2 : Value) (a b : List Int) (w : World) (h1 : Ints w v1 a) (h2 : Ints w v2 b) :
    Calls Try.prog 138 #[v1, v2] w fun e w' => e = .returned (.bool (befL a b)) ∧ Below w.heap.size w w' := by
  have m1 := h1.le; have m2 := h2.le
  obtain ⟨a1, c1, rfl, _, _, H1⟩ := h1.parts
  obtain ⟨a2, c2, rfl, _, _, H2⟩ := h2.parts
  clear h1 h2
  go_enter Try.func138, Try.ntmps138
  go_wp2
  go_loopw [5] (fun i wr => ∃ k : Nat, k ≤ a.length ∧ k ≤ b.length ∧ i = .int .i64 (k : Int) ∧ Hid (befL a b = befL (a.drop k) (b.drop k)) ∧ Below w.heap.size w wr) (fun i _ => a.length - (intOf i).toNat)
  case atStart => exact ⟨0, by omega, by omega, rfl, rfl, Below.refl _ _⟩
  case round =>
    obtain ⟨k, hk1, hk2, rfl, hbe, hb⟩ := hrel
    by_cases hlt1 : k < a.length
    · have hd1 : decide ((k : Int) < (a.length : Int)) = true := by simp; omega
      by_cases hlt2 : k < b.length
      · have hd2 : decide ((k : Int) < (b.length : Int)) = true := by simp; omega
        have n0 : (0 : Int) ≤ (k : Int) := by omega
        obtain ⟨x, hx⟩ := elem_at hlt1
        obtain ⟨y, hy⟩ := elem_at hlt2
        obtain ⟨b1, o1, rfl, f1⟩ := H1.out k x hx.out
        obtain ⟨b2, o2, rfl, f2⟩ := H2.out k y hy.out
        have g1 := cell_later hb f1
        have g2 := cell_later hb f2
        clear f1 f2
        rcases hxy : (x != y) with _ | _
        · have hE : x = y := by simpa using hxy
          have HN : Hid (befL a b = befL (a.drop (k + 1)) (b.drop (k + 1))) := by
            show _ = _
            rw [hbe.out]; exact befL_step hx.out (by rw [hy.out, hE])
          clear hbe hE
          go_wp2
          go_quiet (fail)
          go_wp2
          go_roundw
          case rel => exact ⟨k + 1, by omega, by omega, by go_num, HN, below_drewN hb⟩
          case measure => simp [intOf]; omega
        · have hE : x ≠ y := by simpa using hxy
          have HN := Lib.hid (show befL a b = decide (x < y) by rw [hbe.out]; exact befL_diff hx.out hy.out hE)
          clear hbe hE
          go_wp2
          go_quiet (fail)
          go_wp2
          go_quiet (fail)
          go_wp2
          go_ret
          exact ⟨by rw [HN.out]; rfl, below_drewN (below_drewN hb)⟩
      · have hd2 : decide ((k : Int) < (b.length : Int)) = false := by simp; omega
        have HN := Lib.hid (show befL a b = decide (a.length < b.length) by rw [hbe.out]; exact befL_end (.inr (by omega)) (by omega) (by omega))
        clear hbe
        go_wp2
        go_ret
        exact ⟨by rw [HN.out]; rfl, hb⟩
    · have hd1 : decide ((k : Int) < (a.length : Int)) = false := by simp; omega
      have HN := Lib.hid (show befL a b = decide (a.length < b.length) by rw [hbe.out]; exact befL_end (.inl (by omega)) (by omega) (by omega))
      clear hbe
      go_wp2
      go_ret
      exact ⟨by rw [HN.out]; rfl, hb⟩
theorem full_nil : fullB [] = false := by decide
/-- what lies in the variable of the best part so far -/
def BestV (lo m : Nat) (w : World) (bv : Value) : Option (List Int) → Prop
  | none => bv = .slice none 0 0
  | some b => b ≠ [] ∧ b.length ≤ 10 ∧ w.ownsRow lo 3 1 bv b.length (ints b) ∧ ∃ g cap, bv = .slice (some ⟨g, 0, none⟩) b.length cap ∧ g ≠ m
structure StI (lo m : Nat) (done : List (List Int)) (w : World) : Prop where
  lm : lo ≤ m
  fm : w.frozen? ⟨m, 0, none⟩ = false
  best : ∃ bv, w.cell? ⟨m, 0, none⟩ = some bv ∧ BestV lo m w bv (bestA done)
theorem BestV.keep {lo m : Nat} {w w' : World} {bv : Value} {r : Option (List Int)} (h : BestV lo m w bv r) (hb : Below w.heap.size w w') : BestV lo m w' bv r := by
  cases r with
  | none => exact h
  | some b => exact ⟨h.1, h.2.1, own_keep h.2.2.1 hb, h.2.2.2⟩
theorem StI.keep {lo m : Nat} {done : List (List Int)} {w w' : World} (h : StI lo m done w) (hb : Below w.heap.size w w') : StI lo m done w' := by
  obtain ⟨bv, hc, hB⟩ := h.best
  exact ⟨h.lm, by rw [hb.frozen (p := ⟨m, 0, none⟩) (World.block_lt_of_cell? _ _ hc)]; exact h.fm, bv, cell_later hb hc, hB.keep hb⟩
end Go.Proofs.Ytlipkplomndjcaa
namespace Go.Proofs.Ytlipkplomndjcaa
open Go.RowKit
set_option linter.unusedVariables false
set_option maxRecDepth 100000
def shR (xs : List Int) : Option (List Int) := bestA (subsL (setS xs))
def shL (xs : List Int) : List Int := if testB xs then (shR xs).getD [] else []
def shB (xs : List Int) : Bool := testB xs && (shR xs).isSome
theorem shR_len {xs : List Int} (ht : testB xs = true) : ((shR xs).getD []).length ≤ 10 := by
  have h := bestA_is (subsL (setS xs)) (subsL_lex _ (setS_lt xs))
  unfold shR
  cases hr : bestA (subsL (setS xs)) with
  | none => simp
  | some m =>
    rw [hr] at h
    have hm := h.1
    have := (mem_parts (setS xs) [] m).1 hm
    obtain ⟨s, _, e⟩ := this
    have hl : m.length ≤ (setS xs).length := by
      rw [e, List.nil_append]; unfold digsL pick
      rw [List.length_map]; exact prtL_le _ _ _
    have h2 := setS_len xs
    have h3 : xs.length ≤ 10 := by unfold testB at ht; simp only [Bool.and_eq_true, decide_eq_true_eq] at ht; exact ht.1
    simp; omega
theorem shL_le (xs : List Int) : (shL xs).length ≤ 10 := by
  unfold shL
  split
  · rename_i h; exact shR_len h
  · simp
theorem neq_nil {P : Program} (w : World) (t e : TypeId) (a : Option Addr) (n c n' c' : Nat)
    (h : P.underlying t = some (.slice e)) :
    (binOp .neq t (.slice a n c) (.slice none n' c')).run P w = .ok (.bool (!a.isNone)) w := by
  simp only [binOp]
  simp [Op.equal, Op.maxDepth, Lib.run_equalIn_slice_nil w 9999 t e a n c n' c' h]
end Go.Proofs.Ytlipkplomndjcaa
namespace Go.Proofs.Ytlipkplomndjcaa
open Go.RowKit
set_option linter.unusedVariables false
set_option maxRecDepth 100000
theorem digs_len (S : List Int) (n : Nat) : (digsL S n).length ≤ S.length := by
  unfold digsL pick; rw [List.length_map]; exact prtL_le _ _ _
theorem digs_mem {S : List Int} {n : Nat} {y : Int} (h : y ∈ digsL S n) : y ∈ S := by
  unfold digsL pick at h
  rw [List.mem_map] at h
  obtain ⟨z, hz, rfl⟩ := h
  obtain ⟨p, rfl, hp⟩ := prtL_mem hz
  have : S[p]? = some S[p] := List.getElem?_eq_getElem hp
  simp [List.getD, this]
theorem digs_test {S : List Int} (hl : S.length ≤ 10) (hd : ∀ y ∈ S, digitB y = true) (n : Nat) : testB (digsL S n) = true := by
  unfold testB
  rw [Bool.and_eq_true, decide_eq_true_eq, List.all_eq_true]
  exact ⟨Nat.le_trans (digs_len S n) hl, fun y hy => hd y (digs_mem hy)⟩
theorem pow_le {n : Nat} (h : n ≤ 10) : 2 ^ n ≤ 1024 := Nat.le_trans (Nat.pow_le_pow_right (by decide) h) (by decide)
def Rn (S : List Int) (n : Nat) : Option (List Int) := bestS (partsS S n)
theorem Rn_succ (S : List Int) (n : Nat) : Rn S (n + 1) = stepS (Rn S n) (digsL S n) := by unfold Rn; rw [partsS_succ, bestS_snoc]
theorem Rn_len (S : List Int) (n : Nat) : ((Rn S n).getD []).length ≤ S.length := by
  have h := bestS_is (partsS S n)
  unfold Rn
  cases hr : bestS (partsS S n) with
  | none => simp
  | some m =>
    rw [hr] at h
    have hm := h.1
    have hm : m ∈ (List.range n).map (digsL S) := hm
    rw [List.mem_map] at hm
    obtain ⟨s, _, rfl⟩ := hm
    exact digs_len _ _
end Go.Proofs.Ytlipkplomndjcaa
namespace Go.Proofs.Ytlipkplomndjcaa
open Go.RowKit
set_option linter.unusedVariables false
/-- the row while it is gone through: what is kept, what is left over, what is still to come -/
def DInv {α : Type} (p : α → Bool) (es : List α) (j i : Nat) (R : List α) : Prop :=
  ∃ J, R = (es.take j).filter (fun x => !p x) ++ (J ++ es.drop j) ∧ ((es.take j).filter fun x => !p x).length = i ∧ i + J.length = j ∧ i < j ∧ j ≤ es.length
theorem DInv.start {α : Type} {p : α → Bool} {es : List α} {k : Nat} {x : α} (hx : es[k]? = some x) (hp : p x = true) (h : ∀ j y, j < k → es[j]? = some y → p y = false) : DInv p es (k + 1) k es := by
  have hk : k < es.length := (List.getElem?_eq_some_iff.1 hx).1
  have hall : (es.take k).filter (fun x => !p x) = es.take k := by
    rw [List.filter_eq_self]
    intro y hy
    obtain ⟨j, hj, rfl⟩ := List.getElem_of_mem hy
    have hj2 : j < k := by rw [List.length_take] at hj; omega
    have := h j (es.take k)[j] hj2 (by rw [List.getElem_take, List.getElem?_eq_getElem (by omega)])
    rw [this]; rfl
  have hf : (es.take (k + 1)).filter (fun x => !p x) = es.take k := by
    rw [List.take_succ_eq_append_getElem hk, List.filter_append, hall]
    have : es[k] = x := by rw [List.getElem?_eq_getElem hk] at hx; exact Option.some.inj hx
    simp [this, hp]
  refine ⟨[x], ?_, ?_, by simp, by omega, hk⟩
  · rw [hf]
    have e : es[k] = x := by rw [List.getElem?_eq_getElem hk] at hx; exact Option.some.inj hx
    calc es = es.take k ++ es.drop k := (List.take_append_drop k es).symm
      _ = _ := by rw [List.drop_eq_getElem_cons hk, e]; rfl
  · rw [hf, List.length_take]; omega
theorem DInv.len {α : Type} {p : α → Bool} {es R : List α} {i j : Nat} (h : DInv p es j i R) : R.length = es.length := by
  obtain ⟨J, rfl, h1, h2, h3, h4⟩ := h
  simp only [List.length_append, List.length_drop]; omega
theorem DInv.get {α : Type} {p : α → Bool} {es R : List α} {i j : Nat} {x : α} (h : DInv p es j i R) (hx : es[j]? = some x) : R[j]? = some x := by
  obtain ⟨J, rfl, h1, h2, h3, h4⟩ := h
  rw [List.getElem?_append_right (by omega), List.getElem?_append_right (by omega), List.getElem?_drop, ← hx]
  congr 1; omega
theorem DInv.skip {α : Type} {p : α → Bool} {es R : List α} {i j : Nat} {x : α} (h : DInv p es j i R) (hx : es[j]? = some x) (hp : p x = true) : DInv p es (j + 1) i R := by
  obtain ⟨J, rfl, h1, h2, h3, h4⟩ := h
  have hj : j < es.length := (List.getElem?_eq_some_iff.1 hx).1
  have e : es[j] = x := by rw [List.getElem?_eq_getElem hj] at hx; exact Option.some.inj hx
  have hf : (es.take (j + 1)).filter (fun x => !p x) = (es.take j).filter (fun x => !p x) := by
    rw [List.take_succ_eq_append_getElem hj, List.filter_append]; simp [e, hp]
  refine ⟨J ++ [x], ?_, by rw [hf]; exact h1, by simp; omega, by omega, hj⟩
  rw [hf, List.drop_eq_getElem_cons hj, e]; simp
theorem DInv.keep {α : Type} {p : α → Bool} {es R : List α} {i j : Nat} {x : α} (h : DInv p es j i R) (hx : es[j]? = some x) (hp : p x = false) : DInv p es (j + 1) (i + 1) (R.set i x) := by
  obtain ⟨J, rfl, h1, h2, h3, h4⟩ := h
  have hj : j < es.length := (List.getElem?_eq_some_iff.1 hx).1
  have e : es[j] = x := by rw [List.getElem?_eq_getElem hj] at hx; exact Option.some.inj hx
  have hf : (es.take (j + 1)).filter (fun x => !p x) = (es.take j).filter (fun x => !p x) ++ [x] := by
    rw [List.take_succ_eq_append_getElem hj, List.filter_append]; simp [e, hp]
  cases J with
  | nil => simp at h2; omega
  | cons y J' =>
    refine ⟨J' ++ [x], ?_, by rw [hf, List.length_append, h1]; rfl, by simp at h2 ⊢; omega, by omega, hj⟩
    rw [hf, List.drop_eq_getElem_cons hj, e, List.cons_append, set_mid _ _ _ _ h1.symm]
    simp
theorem DInv.done {α : Type} {p : α → Bool} {es R : List α} {i : Nat} (h : DInv p es es.length i R) : R.take i = es.filter (fun x => !p x) ∧ i = (es.filter fun x => !p x).length := by
  obtain ⟨J, rfl, h1, h2, h3, h4⟩ := h
  rw [List.take_length] at h1 ⊢
  exact ⟨by rw [List.take_left' h1], h1.symm⟩
/-- cells stored one after the other into a row -/
theorem own_cells {lo size n cap g : Nat} {e : TypeId} : ∀ (vs : List Value) (o : Nat) (w : World) (xs : List Value), w.ownsRow lo e size (.slice (some ⟨g, 0, none⟩) n cap) n xs →
    ∃ ys, (w.setCells g o vs).ownsRow lo e size (.slice (some ⟨g, 0, none⟩) n cap) n ys ∧ ys.take o = xs.take o ∧ w.grownBy (w.setCells g o vs) (some g)
  | [], o, w, xs, h => ⟨xs, h, rfl, World.grownBy.refl _ _⟩
  | v :: r, o, w, xs, h => by
    have h1 := h.stored o v
    obtain ⟨ys, h2, h3, h4⟩ := own_cells r (o + 1) (w.setCell ⟨g, o, none⟩ v) _ h1.1
    refine ⟨ys, h2, ?_, ?_⟩
    · have : (ys.take (o + 1)).take o = ((xs.set o v).take (o + 1)).take o := by rw [h3]
      rw [List.take_take, List.take_take, Nat.min_eq_left (by omega)] at this
      rw [this, List.take_set_of_le (Nat.le_refl _)]
    · exact ⟨h4.os.trans h1.2.os, h4.tape.trans h1.2.tape, h4.output.trans h1.2.output, Nat.le_trans h1.2.size h4.size, fun k hk hne => (h4.block k (Nat.lt_of_lt_of_le hk h1.2.size) hne).trans (h1.2.block k hk hne)⟩
/-- the head of a row -/
theorem own_cut {w : World} {lo size n m cap g : Nat} {e : TypeId} {xs : List Value} (h : w.ownsRow lo e size (.slice (some ⟨g, 0, none⟩) n cap) n xs) (hm : m ≤ n) :
    w.ownsRow lo e size (.slice (some ⟨g, 0, none⟩) m cap) m (xs.take (m * size)) := by
  have hl := h.1
  refine ⟨?_, ?_⟩
  · rw [List.length_take, hl]; exact Nat.min_eq_left (Nat.mul_le_mul_right _ hm)
  · rcases h.2 with ⟨h', _⟩ | ⟨g', cap', cur, h', hb, hg, hnc, hcm, hcs, ht⟩
    · cases h'
    · injection h' with h1 _ h3
      injection h1 with h1; injection h1 with h1
      subst h1 h3
      exact .inr ⟨g, cap, cur, rfl, hb, hg, by omega, hcm, hcs, by rw [← ht, List.take_take, Nat.min_eq_left (Nat.mul_le_mul_right _ hm)]⟩
theorem run_clear_cells {P : Program} (w : World) (t e ty : TypeId) (z : Value) (ht : P.underlying t = some (.slice e)) (hv : ∀ w, (zeroValue e).run P w = .ok z w) (h1 : ∀ v ∈ z.cells.toList, v.oneCell' = true) (hpos : 0 < z.cells.size) (b o n c : Nat) (hn : 0 < n)
    (hth : w.there b o (n * z.cells.size)) :
    (Builtin.clear_ #[t] ty #[.slice (some ⟨b, o, none⟩) n c]).run P w = .ok (.tuple #[]) (w.setCells b o (Builtin.zeroCells z.cells n).toList) := by
  have hlen : (Builtin.zeroCells z.cells n).toList.length = n * z.cells.size := by simp [Builtin.zeroCells]
  have hst := run_storeCells_cells (P := P) b o (Builtin.zeroCells z.cells n).toList 0 w (by rw [hlen]; exact fun j hj => by simpa using (hth j hj).1) (by rw [hlen]; exact fun j hj => by simpa using (hth j hj).2)
    (by
      intro v hv'
      simp only [Builtin.zeroCells, Array.toList_map, List.mem_map, Array.toList_range, List.mem_range] at hv'
      obtain ⟨i, _, rfl⟩ := hv'
      have hlt := Nat.mod_lt i hpos
      have : z.cells[i % z.cells.size]! = z.cells[i % z.cells.size] := by simp [hlt]
      rw [this]
      exact h1 _ (by simp))
  simp only [Nat.add_zero] at hst
  obtain ⟨m, rfl⟩ : ∃ m, n = m + 1 := ⟨n - 1, by omega⟩
  simp [Builtin.clear_, run_underlying ht, hv, hst]
theorem own_there {w : World} {lo size n cap g : Nat} {e : TypeId} {xs : List Value} (h : w.ownsRow lo e size (.slice (some ⟨g, 0, none⟩) n cap) n xs) : w.there g 0 (n * size) := fun j hj => by
  rw [Nat.zero_add]
  refine ⟨?_, h.frozenAt j⟩
  rw [h.cellAt j hj, List.getElem?_eq_getElem (by rw [h.1]; exact hj)]; rfl
end Go.Proofs.Ytlipkplomndjcaa
namespace Go.Proofs.Ytlipkplomndjcaa
open Go.RowKit
set_option linter.unusedVariables false
set_option maxRecDepth 100000
theorem Sl.partsV {w : World} {v : Value} {xs : List Value} (h : Sl w 1 v xs.length xs) : ∃ a c, v = .slice a xs.length c ∧ xs.length ≤ c ∧ c ≤ 9223372036854775807 ∧
    Hid (∀ k x, xs[k]? = some x → ∃ b off, a = some ⟨b, off, none⟩ ∧ w.cell? ⟨b, off + k, none⟩ = some x) := by
  obtain ⟨a, c, rfl, h1, h2, h3, h4⟩ := h
  refine ⟨a, c, rfl, h1, by unfold maxLen at h2; omega, fun k x hk => ?_⟩
  have hlt : k < xs.length := (List.getElem?_eq_some_iff.1 hk).1
  obtain ⟨b, off, rfl, hc⟩ := h4 (by omega)
  exact ⟨b, off, rfl, by rw [hc k (by omega), hk]⟩
theorem IndexFuncV_c (v : Value) (xs : List Value) (fn : Nat) (cap : Array Value) (p : Value → Bool) (w : World) (hv : Sl w 1 v xs.length xs) (hf : CallsIt fn)
    (hp : ∀ (x : Value) (w' : World), x ∈ xs → Below w.heap.size w w' → Calls Try.prog fn (#[x] ++ cap) w' fun e w'' => e = .returned (.bool (p x)) ∧ Below w'.heap.size w' w'') :
    Calls Try.prog 149 #[v, .func (.func fn) #[] cap] w fun e w' => e = .returned (.int .i64 (firstAt p xs)) ∧ Below w.heap.size w w' := by
  obtain ⟨a, c, rfl, hc1, hc2, HC⟩ := hv.partsV
  have hf' : ∀ (bs : Array Value) (w : World), (callFunc fn bs).run Try.prog w = .ok (.enter fn bs) w := hf
  go_enter Try.func149, Try.ntmps149
  go_wp2
  go_loopw [8] (fun i wr => ∃ k : Nat, k ≤ xs.length ∧ i = .int .i64 k ∧ Hid (∀ j x, j < k → xs[j]? = some x → p x = false) ∧ Below w.heap.size w wr) (fun i _ => xs.length - (intOf i).toNat)
  case atStart => exact ⟨0, by omega, rfl, fun j x hj => by omega, Below.refl _ _⟩
  case round =>
    obtain ⟨k, hk, rfl, hbef, hb⟩ := hrel
    have hlen := hv.le
    by_cases hlt : k < xs.length
    · obtain ⟨x, hx⟩ := elem_at hlt
      obtain ⟨b, off, rfl, g0⟩ := HC.out k x hx.out
      have hblt : b < w.heap.size := World.block_lt_of_cell? w _ g0
      have g1 : wr.cell? ⟨b, off + k, none⟩ = some x := ((bcell hb).1 _ _ hblt).trans g0
      clear g0
      go_wp2_with fail
      refine (hp x _ (List.mem_of_getElem? hx.out) hb).mono ?_
      rintro e w1 ⟨rfl, hb1⟩
      have hb2 : Below w.heap.size w w1 := hb.trans (hb1.mono hb.size)
      rcases hpx : p x with _ | _
      · have HP := Lib.hid hpx; clear hpx
        go_wp2
        go_roundw
        case rel => exact ⟨k + 1, by omega, by go_num, fun j y hj hy => by
          by_cases hj2 : j < k
          · exact hbef.out j y hj2 hy
          · obtain rfl : j = k := by omega
            rw [hx.out] at hy; obtain rfl := Option.some.inj hy; exact HP.out, hb2⟩
        case measure => simp [intOf]; omega
      · have HP := Lib.hid hpx; clear hpx
        go_wp2
        go_ret
        exact ⟨int_ret (firstAt_some hx.out HP.out hbef.out).symm, hb2⟩
    · go_wp2
      go_ret
      exact ⟨int_ret (firstAt_none (by omega) hbef.out).symm, hb⟩
theorem firstAt_cases {α : Type} (p : α → Bool) (xs : List α) : (firstAt p xs = -1 ∧ xs.filter (fun x => !p x) = xs) ∨ ∃ (k : Nat) (x : α), firstAt p xs = (k : Int) ∧ xs[k]? = some x ∧ p x = true ∧ ∀ (j : Nat) (y : α), j < k → xs[j]? = some y → p y = false := by
  unfold firstAt
  cases h : xs.findIdx? p with
  | none =>
    left
    rw [List.findIdx?_eq_none_iff] at h
    exact ⟨rfl, by rw [List.filter_eq_self]; intro x hx; rw [h x hx]; rfl⟩
  | some k =>
    right
    rw [List.findIdx?_eq_some_iff_getElem] at h
    obtain ⟨hk, hp, hb⟩ := h
    refine ⟨k, xs[k], rfl, List.getElem?_eq_getElem hk, hp, fun j y hj hy => ?_⟩
    have hjl : j < xs.length := by omega
    have := hb j hj
    rw [List.getElem?_eq_getElem hjl] at hy
    have e := Option.some.inj hy
    rw [e] at this
    simpa using this
theorem DeleteFuncV_c (u : Value) (vs : List Value) (fn lo : Nat) (p : Value → Bool) (w : World) (ho : w.ownsRow lo 24 1 u vs.length vs) (hf : CallsIt fn) (hsl : ∀ x ∈ vs, ∃ a n c, x = Value.slice a n c)
    (hp : ∀ (x : Value) (w' : World), x ∈ vs → Calls Try.prog fn #[x] w' fun e w'' => e = .returned (.bool (p x)) ∧ Below w'.heap.size w' w'') :
    Calls Try.prog 108 #[u, .func (.func fn) #[] #[]] w fun e w' => ∃ u', e = .returned u' ∧ w'.ownsRow lo 24 1 u' (vs.filter fun x => !p x).length (vs.filter fun x => !p x) ∧ w.grownBy w' u.ownBlock := by
  have hS : Sl w 1 u vs.length vs := Sl.of_own ho
  have hlen := hS.le
  have hf' : ∀ (bs : Array Value) (w : World), (callFunc fn bs).run Try.prog w = .ok (.enter fn bs) w := hf
  rcases firstAt_cases p vs with ⟨hm, hfil⟩ | ⟨k0, x0, hm, hx0, hp0, hbef⟩
  · have HM := Lib.hid hm; have HF := Lib.hid hfil
    clear hm hfil
    obtain ⟨a, c, rfl, _⟩ := hS.slice
    go_enter Try.func108, Try.ntmps108
    go_wp2_with fail
    refine (IndexFuncV_c _ vs fn #[] p _ hS hf (fun x w' hx _ => by simpa using hp x w' hx)).mono ?_
    rintro e w1 ⟨rfl, hb1⟩
    rw [HM.out]
    have hg := Below.gr hb1
    go_wp2
    go_ret
    exact ⟨_, rfl, by rw [HF.out]; exact own_keep ho hb1, ⟨hg.os, hg.tape, hg.output, hg.size, fun k hk _ => hg.block k hk (by simp)⟩⟩
  · have HM := Lib.hid hm
    have hk0 : k0 < vs.length := (List.getElem?_eq_some_iff.1 hx0).1
    have HD := Lib.hid (DInv.start hx0 hp0 hbef)
    clear hm hbef hx0 hp0
    obtain ⟨g, cap, rfl, hlo, hgl, hnc, hcm⟩ := own_form ho (by omega)
    have hcm2 : cap ≤ 9223372036854775807 := by unfold maxLen at hcm; omega
    have hne1 : (((k0 : Int)) == -1) = false := by simp
    have hne2 : decide ((k0 : Int) = -1) = false := by simp
    obtain ⟨inf, hi, hz0, hz1, hz2⟩ := info_parts info_ints
    have hzv : ∀ w : World, (zeroValue 24).run Try.prog w = .ok (.slice none 0 0) w := Try.zeroValue24
    have HZ := Lib.hid hzv
    clear hzv hi hz0 hz1 hz2
    go_enter Try.func108, Try.ntmps108
    go_wp2_with fail
    refine (IndexFuncV_c _ vs fn #[] p _ hS hf (fun x w' hx _ => by simpa using hp x w' hx)).mono ?_
    rintro e w1 ⟨rfl, hb1⟩
    rw [HM.out]
    have ho1 := own_keep ho hb1
    have hg1 : w.grownBy w1 (some g) := by
      have hg := Below.gr hb1
      exact ⟨hg.os, hg.tape, hg.output, hg.size, fun k hk _ => hg.block k hk (by simp)⟩
    clear hS ho hb1
    go_wp2
    go_loopw [5, 6] (fun s5 s6 wr => ∃ (i j : Nat) (R : List Value), s5 = .int .i64 (i : Int) ∧ s6 = .int .i64 (j : Int) ∧ i < j ∧ j ≤ vs.length ∧ Hid (DInv p vs j i R) ∧ wr.ownsRow lo 24 1 (.slice (some ⟨g, 0, none⟩) vs.length cap) vs.length R ∧ w.grownBy wr (some g)) (fun _ s6 _ => vs.length - (intOf s6).toNat)
    case atStart => exact ⟨k0, k0 + 1, vs, rfl, by go_num, by omega, by omega, HD, ho1, hg1⟩
    case round =>
      obtain ⟨i, j, R, rfl, rfl, hij, hjn, HI, ho, hg⟩ := hrel
      clear ho1 hg1 HD
      by_cases hlt : j < vs.length
      · have hd : decide ((j : Int) < (vs.length : Int)) = true := by simp; omega
        obtain ⟨x, hx⟩ := elem_at hlt
        obtain ⟨xa, xn, xc, rfl⟩ := hsl x (List.mem_of_getElem? hx.out)
        have g0 : wr.cell? ⟨g, j, none⟩ = some (.slice xa xn xc) := by rw [ho.cellAt j (by omega)]; exact HI.out.get hx.out
        go_wp2_with fail
        refine (hp _ _ (List.mem_of_getElem? hx.out)).mono ?_
        rintro e w2 ⟨rfl, hb2⟩
        have ho2 := own_keep ho hb2
        have hg2 : w.grownBy w2 (some g) := by
          have h := Below.gr hb2
          exact ⟨h.os.trans hg.os, h.tape.trans hg.tape, h.output.trans hg.output, Nat.le_trans hg.size h.size, fun k hk hne => (h.block k (Nat.lt_of_lt_of_le hk hg.size) (by simp)).trans (hg.block k hk hne)⟩
        have hRl := HI.out.len
        clear ho hg hb2 g0
        rcases hq : p (.slice xa xn xc) with _ | _
        · have HI2 := Lib.hid (HI.out.keep hx.out hq)
          have gi : w2.cell? ⟨g, i, none⟩ = some (R[i]'(by omega)) := by rw [ho2.cellAt i (by omega)]; exact List.getElem?_eq_getElem (by omega)
          have fi := ho2.frozenAt i
          have hst := ho2.stored i (.slice xa xn xc)
          have ho3 := hst.1
          have hg3 : w.grownBy (w2.setCell ⟨g, i, none⟩ (.slice xa xn xc)) (some g) :=
            ⟨hst.2.os.trans hg2.os, hst.2.tape.trans hg2.tape, hst.2.output.trans hg2.output, Nat.le_trans hg2.size hst.2.size, fun k hk hne => (hst.2.block k (Nat.lt_of_lt_of_le hk hg2.size) hne).trans (hg2.block k hk hne)⟩
          generalize R[i]'(by omega) = old at gi
          have HQ := Lib.hid hq
          have HO := Lib.hid ho3; have HG := Lib.hid hg3
          clear hst ho2 hg2 hq ho3 hg3
          go_wp2
          go_roundw
          case rel => exact ⟨i + 1, j + 1, R.set i (.slice xa xn xc), by go_num, by go_num, by omega, by omega, HI2, HO.out, HG.out⟩
          case measure => simp [intOf]; omega
        · have HI2 := Lib.hid (HI.out.skip hx.out hq)
          have HQ := Lib.hid hq
          clear hq
          go_wp2
          go_roundw
          case rel => exact ⟨i, j + 1, R, rfl, by go_num, by omega, by omega, HI2, ho2, hg2⟩
          case measure => simp [intOf]; omega
      · obtain rfl : j = vs.length := by omega
        have hdn := HI.out.done
        obtain ⟨ys, ho3, hys, hg3⟩ := own_cells (Builtin.zeroCells (Value.slice none 0 0).cells (vs.length - i)).toList i wr R ho
        have ho4 := own_cut ho3 (show i ≤ vs.length by omega)
        rw [Nat.mul_one, hys, hdn.1] at ho4
        have hcl : ∀ ty, (Builtin.clear_ #[54] ty #[.slice (some ⟨g, i, none⟩) (vs.length - i) (cap - i)]).run Try.prog wr = .ok (.tuple #[]) (wr.setCells g i (Builtin.zeroCells (Value.slice none 0 0).cells (vs.length - i)).toList) := fun ty =>
          run_clear_cells wr 54 24 ty (.slice none 0 0) Try.underlying54 HZ.out (by simp [Value.cells]; rfl) (by simp [Value.cells]) g i (vs.length - i) (cap - i) (by omega) (there_sub (own_there ho) (by omega) (by simp [Value.cells]; omega))
        have hg5 : w.grownBy (wr.setCells g i (Builtin.zeroCells (Value.slice none 0 0).cells (vs.length - i)).toList) (some g) :=
          ⟨hg3.os.trans hg.os, hg3.tape.trans hg.tape, hg3.output.trans hg.output, Nat.le_trans hg.size hg3.size, fun k hk hne => (hg3.block k (Nat.lt_of_lt_of_le hk hg.size) hne).trans (hg.block k hk hne)⟩
        have HDN := Lib.hid hdn.2
        have HO := Lib.hid ho4; have HG := Lib.hid hg5
        clear hdn ho4 hg5 ho3 hys hg3 ho hg
        go_wp2
        go_ret
        exact ⟨_, rfl, ownsRow_cast HO.out HDN.out rfl, HG.out⟩
end Go.Proofs.Ytlipkplomndjcaa
namespace Go.Proofs.Ytlipkplomndjcaa
open Go.RowKit
set_option linter.unusedVariables false
set_option maxRecDepth 100000
theorem Sl.keepB {w w' : World} {size n B : Nat} {v : Value} {xs : List Value} (h : Sl w size v n xs) (hb : Below B w w') (hv : ∀ g, v.ownBlock = some g → g < B) : Sl w' size v n xs := by
  obtain ⟨a, c, rfl, h1, h2, h3, h4⟩ := h
  refine ⟨a, c, rfl, h1, h2, h3, fun hn => ?_⟩
  obtain ⟨b, off, rfl, hc⟩ := h4 hn
  refine ⟨b, off, rfl, fun j hj => ?_⟩
  have hlt := hv b rfl
  rw [← hc j hj]
  exact hb.cell (p := ⟨b, off + j, none⟩) hlt
/-- a slice of slices that reads so, all its blocks below B -/
def RdSS (w : World) (B : Nat) (u : Value) (xss : List (List Int)) : Prop :=
  ∃ vs, vs.length = xss.length ∧ Sl w 1 u vs.length vs ∧ (∀ g, u.ownBlock = some g → g < B) ∧
    ∀ (k : Nat) (v : Value) (xs : List Int), vs[k]? = some v → xss[k]? = some xs → Ints w v xs ∧ ∀ g, v.ownBlock = some g → g < B
theorem RdSS.keep {w w' : World} {B B' : Nat} {u : Value} {xss : List (List Int)} (h : RdSS w B u xss) (hb : Below B' w w') (hB : B ≤ B') : RdSS w' B u xss := by
  obtain ⟨vs, h1, h2, h3, h4⟩ := h
  exact ⟨vs, h1, h2.keepB hb (fun g hg => Nat.lt_of_lt_of_le (h3 g hg) hB), h3, fun k v xs hv hx => ⟨Sl.keepB (h4 k v xs hv hx).1 hb (fun g hg => Nat.lt_of_lt_of_le ((h4 k v xs hv hx).2 g hg) hB), (h4 k v xs hv hx).2⟩⟩
theorem OwnSS.rd {w : World} {lo : Nat} {u : Value} {xss : List (List Int)} (h : OwnSS w lo u xss) : RdSS w w.heap.size u xss := by
  obtain ⟨vs, ho, hi⟩ := h
  exact ⟨vs, hi.1, Sl.of_own (ownsRow_cast ho hi.1.symm rfl), fun g hg => (ho.lt g hg).2, fun k v xs hv hx => ⟨Ints.of_own (hi.2.1 k v xs hv hx), fun g hg => ((hi.2.1 k v xs hv hx).lt g hg).2⟩⟩
theorem RdSS.parts {w : World} {B : Nat} {u : Value} {xss : List (List Int)} (h : RdSS w B u xss) : ∃ a c, u = .slice a xss.length c ∧ xss.length ≤ 9223372036854775807 ∧
    Hid (∀ k xs, xss[k]? = some xs → ∃ b off a' c', a = some ⟨b, off, none⟩ ∧ w.cell? ⟨b, off + k, none⟩ = some (.slice a' xs.length c') ∧ Ints w (.slice a' xs.length c') xs) := by
  obtain ⟨vs, h1, h2, h3, h4⟩ := h
  have hle := h2.le
  obtain ⟨a, c, rfl, _, _, HC⟩ := h2.partsV
  refine ⟨a, c, by rw [h1], by omega, fun k xs hk => ?_⟩
  have hlt : k < vs.length := by rw [h1]; exact (List.getElem?_eq_some_iff.1 hk).1
  have hv : vs[k]? = some vs[k] := List.getElem?_eq_getElem hlt
  obtain ⟨b, off, e, hc⟩ := HC.out k _ hv
  have hI := (h4 k _ xs hv hk).1
  obtain ⟨a', c', e2, _⟩ := hI.parts
  exact ⟨b, off, a', c', e, by rw [hc, e2], by rw [← e2]; exact hI⟩
/-! marks -/
def totSS (xss : List (List Int)) : Nat := (xss.map List.length).sum
def seqSS : Int → List (List Int) → List (List Int)
  | _, [] => []
  | k, xs :: t => seqI k xs.length :: seqSS (k + xs.length) t
theorem seqSS_len : ∀ (k : Int) (xss : List (List Int)), (seqSS k xss).length = xss.length
  | _, [] => rfl
  | k, xs :: t => by simp [seqSS, seqSS_len]
theorem seqSS_append : ∀ (k : Int) (a b : List (List Int)), seqSS k (a ++ b) = seqSS k a ++ seqSS (k + totSS a) b
  | k, [], b => by simp [seqSS, totSS]
  | k, xs :: t, b => by
    simp only [List.cons_append, seqSS, seqSS_append]
    congr 3
    simp only [totSS, List.map_cons, List.sum_cons]; omega
theorem totSS_succ {xss : List (List Int)} {i : Nat} {xs : List Int} (h : xss[i]? = some xs) : totSS (xss.take (i + 1)) = totSS (xss.take i) + xs.length := by
  unfold totSS; rw [take_snoc h, List.map_append, List.sum_append]; simp
theorem totSS_le (xss : List (List Int)) (i : Nat) : totSS (xss.take i) ≤ totSS xss := by
  have h : totSS xss = totSS (xss.take i) + totSS (xss.drop i) := by
    unfold totSS
    rw [← List.sum_append, ← List.map_append, List.take_append_drop]
  omega
theorem seqSS_at {k : Int} {xss : List (List Int)} {i : Nat} {xs : List Int} (h : xss[i]? = some xs) : (seqSS k xss)[i]? = some (seqI (k + totSS (xss.take i)) xs.length) := by
  have hi : i < xss.length := (List.getElem?_eq_some_iff.1 h).1
  have e : xss = xss.take i ++ xs :: xss.drop (i + 1) := by
    have hx : xss[i] = xs := (List.getElem?_eq_some_iff.1 h).2
    conv => lhs; rw [← List.take_append_drop i xss, List.drop_eq_getElem_cons hi, hx]
  have hl : (seqSS k (xss.take i)).length = i := by rw [seqSS_len, List.length_take]; omega
  conv => lhs; rw [e]
  rw [seqSS_append, List.getElem?_append_right (by omega), hl, Nat.sub_self]; rfl
/-- marked as far as i -/
def mkSS (k : Int) (xss : List (List Int)) (i : Nat) : List (List Int) := seqSS k (xss.take i) ++ xss.drop i
theorem mkSS_at {k : Int} {xss : List (List Int)} {i : Nat} (hi : i ≤ xss.length) : (mkSS k xss i)[i]? = xss[i]? := by
  unfold mkSS
  have hl : (seqSS k (xss.take i)).length = i := by rw [seqSS_len, List.length_take]; omega
  rw [List.getElem?_append_right (by omega), hl, Nat.sub_self, List.getElem?_drop, Nat.add_zero]
theorem mkSS_succ {k : Int} {xss : List (List Int)} {i : Nat} {xs : List Int} (h : xss[i]? = some xs) : (mkSS k xss i).set i (seqI (k + totSS (xss.take i)) xs.length) = mkSS k xss (i + 1) := by
  have hi : i < xss.length := (List.getElem?_eq_some_iff.1 h).1
  have hx : xss[i] = xs := (List.getElem?_eq_some_iff.1 h).2
  have hl : (seqSS k (xss.take i)).length = i := by rw [seqSS_len, List.length_take]; omega
  unfold mkSS
  rw [List.drop_eq_getElem_cons hi, set_mid _ _ _ _ hl.symm, take_snoc h, seqSS_append]
  simp [seqSS]
theorem mkSS_zero (k : Int) (xss : List (List Int)) : mkSS k xss 0 = xss := rfl
theorem mkSS_all (k : Int) (xss : List (List Int)) : mkSS k xss xss.length = seqSS k xss := by unfold mkSS; rw [List.take_length, List.drop_length, List.append_nil]
theorem mkSS_len {k : Int} {xss : List (List Int)} {i : Nat} (hi : i ≤ xss.length) : (mkSS k xss i).length = xss.length := by
  unfold mkSS; rw [List.length_append, seqSS_len, List.length_take, List.length_drop]; omega
theorem Inn.set {w w' : World} {lo : Nat} {vs : List Value} {xss : List (List Int)} {i : Nat} {v : Value} {ys : List Int} (h : Inn w lo vs xss) (hv : vs[i]? = some v) (hi : i < xss.length)
    (ho : w'.ownsRow lo 3 1 v ys.length (ints ys)) (hg : w.grownBy w' v.ownBlock) : Inn w' lo vs (xss.set i ys) := by
  refine ⟨by rw [List.length_set]; exact h.1, fun k a xs ha hx => ?_, h.2.2⟩
  by_cases hk : k = i
  · subst hk
    rw [List.getElem?_set_self hi] at hx
    rw [hv] at ha
    obtain rfl := Option.some.inj ha
    obtain rfl := Option.some.inj hx
    exact ho
  · rw [List.getElem?_set_ne (by omega)] at hx
    have h1 := h.2.1 k a xs ha hx
    refine h1.kept hg ?_
    by_cases hlt : k < i
    · rcases h.2.2 k i a v hlt ha hv with h2 | h2
      · rw [h2]; cases a.ownBlock <;> simp
      · exact .inr (fun e => h2 e.symm)
    · rcases h.2.2 i k v a (by omega) hv ha with h2 | h2
      · exact .inl h2
      · exact .inr h2
end Go.Proofs.Ytlipkplomndjcaa
namespace Go.Proofs.Ytlipkplomndjcaa
set_option linter.unusedVariables false
theorem totSS_filter (q : List Int → Bool) (xss : List (List Int)) (h : ∀ xs ∈ xss, xs.length ≤ 10) : totSS (xss.filter q) ≤ 10 * xss.length := by
  induction xss with
  | nil => simp [totSS]
  | cons a t ih =>
    have h1 := ih (fun xs hx => h xs (List.mem_cons_of_mem _ hx))
    have h2 := h a List.mem_cons_self
    rw [List.filter_cons]
    split
    · simp only [totSS, List.map_cons, List.sum_cons, List.length_cons] at h1 ⊢; omega
    · simp only [List.length_cons]; omega
theorem OwnSS.nil_ (w : World) (lo : Nat) : OwnSS w lo (.slice none 0 0) [] := ⟨[], World.ownsRow_nil _ _ _ _, Inn.nil_ _ _⟩
theorem Inn.lo' {w : World} {lo lo' : Nat} {vs : List Value} {xss : List (List Int)} (h : Inn w lo vs xss) (hl : lo' ≤ lo) : Inn w lo' vs xss := ⟨h.1, fun k v xs h1 h2 => own_lo (h.2.1 k v xs h1 h2) hl, h.2.2⟩
def insB : List (List Int) → List Int → List (List Int)
  | [], p => [p]
  | q :: t, p => if befL q p then q :: insB t p else p :: q :: t
theorem insB_at : ∀ (l : List (List Int)) (p : List Int) (k : Nat), k ≤ l.length → (∀ j x, j < k → l[j]? = some x → befL x p = true) → (∀ x, l[k]? = some x → befL x p = false) → insB l p = l.take k ++ p :: l.drop k
  | [], p, k, hk, _, _ => by simp at hk; subst hk; simp [insB]
  | y :: t, p, 0, _, _, h0 => by
    have := h0 y rfl
    unfold insB
    rw [this]; simp
  | y :: t, p, k + 1, hk, hb, h0 => by
    have hy := hb 0 y (by omega) rfl
    have ih := insB_at t p k (by simpa using hk) (fun j x hj hx => hb (j + 1) x (by omega) (by simpa using hx)) (fun x hx => h0 x (by simpa using hx))
    unfold insB
    rw [hy, ih]
    simp
theorem insB_mem : ∀ (l : List (List Int)) (p x : List Int), x ∈ insB l p ↔ x = p ∨ x ∈ l
  | [], p, x => by simp [insB]
  | y :: t, p, x => by
    have ih := insB_mem t p x
    unfold insB
    cases befL y p
    · simp
    · simp only [if_true, List.mem_cons, ih]
      constructor
      · rintro (h | h | h); exact .inr (.inl h); exact .inl h; exact .inr (.inr h)
      · rintro (h | h | h); exact .inr (.inl h); exact .inl h; exact .inr (.inr h)
theorem insB_len : ∀ (l : List (List Int)) (p : List Int), (insB l p).length = l.length + 1
  | [], p => rfl
  | y :: t, p => by
    have ih := insB_len t p
    unfold insB
    cases befL y p <;> simp [ih]
theorem insB_pw : ∀ (l : List (List Int)) (p : List Int), l.Pairwise (fun a b => befL a b = true) → p ∉ l → (insB l p).Pairwise (fun a b => befL a b = true)
  | [], p, _, _ => by simp [insB]
  | y :: t, p, h, hn => by
    rw [List.pairwise_cons] at h
    have ih := insB_pw t p h.2 (fun hm => hn (List.mem_cons_of_mem _ hm))
    unfold insB
    cases hb : befL y p
    · have hyp : befL p y = true := by
        cases h2 : befL p y
        · exact absurd (befL_tri y p hb h2) (fun e => hn (by rw [e]; simp))
        · rfl
      rw [if_neg (by simp), List.pairwise_cons, List.pairwise_cons]
      refine ⟨fun z hz => ?_, h⟩
      rcases List.mem_cons.1 hz with e | e
      · rw [e]; exact hyp
      · exact befL_trans _ _ _ hyp (h.1 z e)
    · rw [if_pos rfl, List.pairwise_cons]
      refine ⟨fun z hz => ?_, ih⟩
      rcases (insB_mem t p z).1 hz with e | e
      · rw [e]; exact hb
      · exact h.1 z e
theorem eq_of_bef : ∀ (l1 l2 : List (List Int)), l1.Pairwise (fun a b => befL a b = true) → l2.Pairwise (fun a b => befL a b = true) → (∀ x, x ∈ l1 ↔ x ∈ l2) → l1 = l2
  | [], [], _, _, _ => rfl
  | [], y :: t, _, _, h => by have := (h y).2 (by simp); simp at this
  | x :: t, [], _, _, h => by have := (h x).1 (by simp); simp at this
  | x :: t, y :: s, h1, h2, h => by
    rw [List.pairwise_cons] at h1 h2
    have hx := (h x).1 (by simp)
    have hy := (h y).2 (by simp)
    have e : x = y := by
      rcases List.mem_cons.1 hx with e | e
      · exact e
      · rcases List.mem_cons.1 hy with e2 | e2
        · exact e2.symm
        · have a := h2.1 x e
          have b := h1.1 y e2
          rw [befL_asym a] at b; cases b
    subst e
    rw [eq_of_bef t s h1.2 h2.2 (fun z => by
      have hz := h z
      simp only [List.mem_cons] at hz
      constructor
      · intro hm
        have := h1.1 z hm
        rcases hz.1 (.inr hm) with e | e
        · rw [e, befL_irr] at this; cases this
        · exact e
      · intro hm
        have := h2.1 z hm
        rcases hz.2 (.inr hm) with e | e
        · rw [e, befL_irr] at this; cases this
        · exact e)]
def backN (l : List Int) : Nat := l.foldl (fun a x => a + 2 ^ (9 - x.toNat)) 0
set_option maxRecDepth 100000 in
theorem backN_digs : ∀ s, s < 1024 → backN (digsL tenI s) = s := by decide +kernel
set_option maxRecDepth 100000 in
theorem setS_digs : ∀ s, s < 1024 → setS (digsL tenI s) = digsL tenI s := by decide +kernel
/-- the list behind n sets -/
def ltN (n : Nat) : List (List Int) := (partsS tenI n).foldl (fun l p => if leastL p then insB l p else l) []
theorem ltN_succ (n : Nat) : ltN (n + 1) = if leastL (digsL tenI n) then insB (ltN n) (digsL tenI n) else ltN n := by
  unfold ltN; rw [partsS_succ, List.foldl_append]; rfl
theorem ltN_len : ∀ n, (ltN n).length ≤ n
  | 0 => by simp [ltN, partsS]
  | n + 1 => by
    have := ltN_len n
    rw [ltN_succ]
    split
    · rw [insB_len]; omega
    · omega
theorem ltN_is : ∀ n, n ≤ 1024 → (ltN n).Pairwise (fun a b => befL a b = true) ∧ ∀ x, x ∈ ltN n ↔ ∃ s, s < n ∧ x = digsL tenI s ∧ leastL x = true
  | 0, _ => by simp [ltN, partsS]
  | n + 1, hn => by
    obtain ⟨h1, h2⟩ := ltN_is n (by omega)
    rw [ltN_succ]
    cases hl : leastL (digsL tenI n)
    · refine ⟨h1, fun x => ?_⟩
      rw [if_neg (by simp), h2]
      constructor
      · rintro ⟨s, a, b, c⟩; exact ⟨s, by omega, b, c⟩
      · rintro ⟨s, a, b, c⟩
        by_cases e : s = n
        · subst e; rw [b, hl] at c; cases c
        · exact ⟨s, by omega, b, c⟩
    · rw [if_pos rfl]
      refine ⟨insB_pw _ _ h1 (fun hm => ?_), fun x => ?_⟩
      · obtain ⟨s, a, b, _⟩ := (h2 _).1 hm
        have e1 := backN_digs n (by omega)
        rw [b, backN_digs s (by omega)] at e1
        omega
      · rw [insB_mem, h2]
        constructor
        · rintro (e | ⟨s, a, b, c⟩)
          · exact ⟨n, by omega, e, by rw [e]; exact hl⟩
          · exact ⟨s, by omega, b, c⟩
        · rintro ⟨s, a, b, c⟩
          by_cases e : s = n
          · subst e; exact .inl b
          · exact .inr ⟨s, by omega, b, c⟩
def ltA : List (List Int) := (subsL tenI).filter fun p => leastL (setS p)
theorem tenI_lt : tenI.Pairwise (· < ·) := by decide
theorem ltA_eq : ltA = ltN 1024 := by
  have hI := ltN_is 1024 (Nat.le_refl _)
  refine eq_of_bef _ _ ((subsL_lex tenI tenI_lt).filter _) hI.1 (fun x => ?_)
  unfold ltA
  rw [hI.2, List.mem_filter]
  have hm := mem_parts tenI [] x
  constructor
  · rintro ⟨a, b⟩
    obtain ⟨s, hs, e⟩ := hm.1 a
    rw [List.nil_append] at e
    have hs : s < 1024 := hs
    exact ⟨s, hs, e, by rw [e, setS_digs s hs] at b; rw [e]; exact b⟩
  · rintro ⟨s, hs, e, hl⟩
    refine ⟨hm.2 ⟨s, hs, by rw [List.nil_append]; exact e⟩, ?_⟩
    rw [e, setS_digs s hs, ← e]; exact hl
theorem ltA_len : ltA.length ≤ 1024 := by rw [ltA_eq]; exact ltN_len 1024
theorem ltA_tot : totSS ltA ≤ 10240 := by
  have h := totSS_filter (fun p => leastL (setS p)) (subsL tenI) (fun xs hx => by
    obtain ⟨s, _, e⟩ := (mem_parts tenI [] xs).1 hx
    rw [e, List.nil_append]
    exact digs_len tenI s)
  have h2 : (subsL tenI).length = 1024 := by
    have := loopE_len tenI []
    unfold subsL; rw [List.length_cons]; exact this
  show totSS ((subsL tenI).filter _) ≤ _
  omega
end Go.Proofs.Ytlipkplomndjcaa
