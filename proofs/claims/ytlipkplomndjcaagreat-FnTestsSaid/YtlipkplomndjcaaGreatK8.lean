/- Texts of this claim, gathered: Short4, Del, DelV, SS, Lts, Full, DrawU2, Draw, DrawT. -/
import Derived.Test.YtlipkplomndjcaaGreatK7
namespace Go.Proofs.YtlipkplomndjcaaGreat
open Go.RowKit
set_option linter.unusedVariables false
set_option maxRecDepth 100000
theorem digs_len (S : List Int) (n : Nat) : (digsL S n).length ≤ S.length := by
  unfold digsL pick; rw [List.length_map]; exact prtL_le _ _ _
theorem digs_mem {S : List Int} {n : Nat} {y : Int} (h : y ∈ digsL S n) : y ∈ S := by
  unfold digsL pick at h
  rw [List.mem_map] at h
  obtain ⟨z, hz, rfl⟩ := h
  obtain ⟨p, rfl, hp⟩ := prtL_mem hz
  have : S[p]? = some S[p] := List.getElem?_eq_getElem hp
  simp [List.getD, this]
theorem digs_test {S : List Int} (hl : S.length ≤ 10) (hd : ∀ y ∈ S, digitB y = true) (n : Nat) : testB (digsL S n) = true := by
  unfold testB
  rw [Bool.and_eq_true, decide_eq_true_eq, List.all_eq_true]
  exact ⟨Nat.le_trans (digs_len S n) hl, fun y hy => hd y (digs_mem hy)⟩
theorem pow_le {n : Nat} (h : n ≤ 10) : 2 ^ n ≤ 1024 := Nat.le_trans (Nat.pow_le_pow_right (by decide) h) (by decide)
def Rn (S : List Int) (n : Nat) : Option (List Int) := bestS (partsS S n)
theorem Rn_succ (S : List Int) (n : Nat) : Rn S (n + 1) = stepS (Rn S n) (digsL S n) := by unfold Rn; rw [partsS_succ, bestS_snoc]
theorem Rn_len (S : List Int) (n : Nat) : ((Rn S n).getD []).length ≤ S.length := by
  have h := bestS_is (partsS S n)
  unfold Rn
  cases hr : bestS (partsS S n) with
  | none => simp
  | some m =>
    rw [hr] at h
    have hm := h.1
    have hm : m ∈ (List.range n).map (digsL S) := hm
    rw [List.mem_map] at hm
    obtain ⟨s, _, rfl⟩ := hm
    exact digs_len _ _
set_option maxHeartbeats 8000000 in
theorem sShortestTest_c (v : Value) (xs : List Int) (w : World) (hv : Ints w v xs) :
    Calls Tryz.prog 19 #[v] w (IntsPost w (shL xs) (shB xs)) := by
  have HV := Lib.hid hv
  rcases hq : testB xs with _ | _
  · have HL := Lib.hid (show shL xs = [] by simp [shL, hq])
    have HB := Lib.hid (show shB xs = false by simp [shB, hq])
    have HQ := Lib.hid hq; clear hq hv
    go_enter Tryz.func19, Tryz.ntmps19
    go_wp2_with fail
    refine (l7Test_c v xs _ HV.out).mono ?_
    rintro e w1 ⟨rfl, hb1⟩
    rw [HQ.out]
    have ho0 := World.ownsRow_lit (e := 3) (size := 1) (base := w.heap.size) w1 #[] 0 hb1.size (by decide) rfl
    have hb2 := Below.alc hb1 (.cells #[] 3)
    go_wp2
    go_ret2
    exact IntsPost.mk' HL.out HB.out (by simpa using ho0) hb2
  · have hlen : xs.length ≤ 10 := by unfold testB at hq; simp only [Bool.and_eq_true, decide_eq_true_eq] at hq; exact hq.1
    have hsl := setS_len xs
    have hL10 : (setS xs).length ≤ 10 := by omega
    have hsd : Hid (∀ y ∈ setS xs, digitB y = true) := by
      have := testB_set hq
      unfold testB at this
      simp only [Bool.and_eq_true, List.all_eq_true] at this
      exact this.2
    have hfin : shR xs = Rn (setS xs) (2 ^ (setS xs).length) := (best_same _ (setS_lt xs)).symm
    have HL := Lib.hid (show shL xs = (Rn (setS xs) (2 ^ (setS xs).length)).getD [] by rw [← hfin]; simp [shL, hq])
    have HBB := Lib.hid (show shB xs = (Rn (setS xs) (2 ^ (setS xs).length)).isSome by rw [← hfin]; simp [shB, hq])
    have hp2 := pow_le hL10
    have hwr : IntKind.i64.wrap ((2 : Int) ^ (setS xs).length) = ((2 ^ (setS xs).length : Nat) : Int) := by
      have : ((2 : Int) ^ (setS xs).length) = ((2 ^ (setS xs).length : Nat) : Int) := by simp
      rw [this]; generalize 2 ^ (setS xs).length = N at *; exact IntWalk.i64_in _ (by omega)
    have HQ := Lib.hid hq; clear hq hv hfin hsl
    go_enter Tryz.func19, Tryz.ntmps19
    go_wp2_with fail
    refine (l7Test_c v xs _ HV.out).mono ?_
    rintro e w1 ⟨rfl, hb1⟩
    rw [HQ.out]
    have HS := Lib.hid (l7Set_c v xs w1 (HV.out.below hb1) (by omega))
    go_wp2_with fail
    refine HS.out.mono ?_
    rintro e w2 ⟨g, cap, rfl, ho2, hb2⟩
    have hI2 := Ints.of_own ho2
    have hb3 := Lib.hid (Below.chain hb1 hb2)
    have ho0 := World.ownsRow_lit (e := 3) (size := 1) (base := w2.heap.size) w2 #[] 0 (Nat.le_refl _) (by decide) rfl
    have HI2 := Lib.hid hI2
    clear hb1 hb2 ho2 hI2 HS
    generalize setS xs = S at *
    generalize hN : 2 ^ S.length = N at *
    go_wp2
    go_loopw [5, 6, 7] (fun bv fd i wr => ∃ n : Nat, n ≤ N ∧ i = .int .i64 (n : Int) ∧ wr.ownsRow w2.heap.size 3 1 bv ((Rn S n).getD []).length (ints ((Rn S n).getD [])) ∧ fd = .bool (Rn S n).isSome ∧ Below w2.heap.size w2 wr) (fun _ _ i _ => N - (intOf i).toNat)
    case atStart => exact ⟨0, by omega, rfl, by simpa [Rn, partsS, bestS] using ho0, rfl, below_one _⟩
    case round =>
      obtain ⟨n, hn, rfl, ho, rfl, hb⟩ := hrel
      clear ho0
      have HO := Lib.hid ho
      have hml := Rn_len S n
      by_cases hlt : n < N
      · have hd : decide ((n : Int) < (N : Int)) = true := by simp; omega
        have HSt := Lib.hid (Rn_succ S n)
        have HD := Lib.hid (l7Digits_c _ S n wr (HI2.out.below hb) hL10 (by omega))
        have HT := Lib.hid (digs_test hL10 hsd.out n)
        have hpl := digs_len S n
        have HM := Lib.hid (Ints.of_own HO.out)
        obtain ⟨am, cm, rfl, _, _, _⟩ := HM.out.parts
        have stay : Hid (stepS (Rn S n) (digsL S n) = Rn S n → ∀ wz : World, Below wr.heap.size wr wz → wz.ownsRow w2.heap.size 3 1 (.slice am ((Rn S n).getD []).length cm) ((Rn S (n+1)).getD []).length (ints ((Rn S (n+1)).getD [])) ∧ (Rn S n).isSome = (Rn S (n+1)).isSome) := by
          intro he wz hz
          rw [HSt.out, he]
          exact ⟨own_keep HO.out hz, rfl⟩
        have goes : Hid (stepS (Rn S n) (digsL S n) = some (digsL S n) → ∀ (wz : World) (u : Value), wz.ownsRow w2.heap.size 3 1 u (digsL S n).length (ints (digsL S n)) → wz.ownsRow w2.heap.size 3 1 u ((Rn S (n+1)).getD []).length (ints ((Rn S (n+1)).getD [])) ∧ true = (Rn S (n+1)).isSome) := by
          intro he wz u hz
          rw [HSt.out, he]
          exact ⟨hz, rfl⟩
        have hsz := hb.size
        generalize hp : digsL S n = p at *
        clear ho
        go_wp2_with fail
        refine HD.out.mono ?_
        rintro e w3 ⟨u, rfl, ho3, hb3'⟩
        have HF := Lib.hid (l7Full_c u p w3 (Ints.of_own ho3) HT.out)
        have hO3 := Lib.hid ho3
        have HU := Lib.hid (Ints.of_own ho3)
        obtain ⟨au, cu, rfl, _, _, _⟩ := HU.out.parts
        clear ho3
        go_wp2_with fail
        refine HF.out.mono ?_
        rintro e w4 ⟨rfl, hb4⟩
        have hb34 := Below.chain hb3' hb4
        have ho4 := Lib.hid (own_keep hO3.out hb4)
        rcases hf : fullB p with _ | _
        · have he := Lib.hid (show stepS (Rn S n) p = Rn S n by unfold stepS; rw [hf]; rfl)
          have HBB4 := Lib.hid hb34
          have HB0 := Lib.hid hb
          clear hf hb34 hb
          go_wp2
          go_roundw
          case rel =>
            obtain ⟨q1, q2⟩ := stay.out he.out _ HBB4.out
            exact ⟨n + 1, by omega, by go_num, q1, congrArg Value.bool q2, Below.chain HB0.out HBB4.out⟩
          case measure => simp [intOf]; omega
        · have HBB4 := Lib.hid hb34
          have HB0 := Lib.hid hb
          have HMm := Lib.hid (HM.out.below hb34)
          have HUu := Lib.hid (HU.out.below hb4)
          clear hb34 hb hb3' hb4
          cases hr : Rn S n with
          | none =>
            have he := Lib.hid (show stepS (Rn S n) p = some p by rw [hr]; unfold stepS; rw [hf]; rfl)
            have GO := Lib.hid (goes.out he.out _ _ (own_lo ho4.out (by have := HB0.out.size; omega)))
            clear hf
            rw [hr] at *
            go_wp2
            go_roundw
            case rel =>
              obtain ⟨q1, q2⟩ := GO.out
              exact ⟨n + 1, by omega, by go_num, q1, congrArg Value.bool q2, Below.chain HB0.out HBB4.out⟩
            case measure => simp [intOf]; omega
          | some m =>
            have hml2 : m.length ≤ 10 := by rw [hr] at hml; simp at hml; omega
            by_cases h1 : p.length < m.length
            · have d1 : decide ((p.length : Int) < (m.length : Int)) = true := by simp; omega
              have he := Lib.hid (show stepS (Rn S n) p = some p by rw [hr]; unfold stepS; simp [hf, h1])
              have GO := Lib.hid (goes.out he.out _ _ (own_lo ho4.out (by have := HB0.out.size; omega)))
              clear hf
              rw [hr] at *
              go_wp2
              go_roundw
              case rel =>
                obtain ⟨q1, q2⟩ := GO.out
                exact ⟨n + 1, by omega, by go_num, q1, congrArg Value.bool q2, Below.chain HB0.out HBB4.out⟩
              case measure => simp [intOf]; omega
            · have d1 : decide ((p.length : Int) < (m.length : Int)) = false := by simp; omega
              by_cases h2 : p.length = m.length
              · have d2 : decide ((p.length : Int) = (m.length : Int)) = true := by simp; omega
                have HBf := Lib.hid (l7Before_c _ _ p m _ HUu.out (show Ints _ (.slice am m.length cm) m by have := HMm.out; rw [hr] at this; exact this))
                rcases hbf : befL p m with _ | _
                · have he := Lib.hid (show stepS (Rn S n) p = Rn S n by rw [hr]; unfold stepS; simp [hf, h1, hbf])
                  have ST := Lib.hid (stay.out he.out)
                  clear hf h2
                  rw [hr] at *
                  go_wp2_with fail
                  refine HBf.out.mono ?_
                  rintro e w5 ⟨rfl, hb5⟩
                  rw [hbf]
                  have HB5 := Lib.hid (Below.chain HBB4.out hb5)
                  clear hb5
                  go_wp2
                  go_roundw
                  case rel =>
                    obtain ⟨q1, q2⟩ := ST.out _ HB5.out
                    exact ⟨n + 1, by omega, by go_num, q1, congrArg Value.bool q2, Below.chain HB0.out HB5.out⟩
                  case measure => simp [intOf]; omega
                  all_goals exact absurd (of_decide_eq_true d2) (by assumption)
                · have he := Lib.hid (show stepS (Rn S n) p = some p by rw [hr]; unfold stepS; simp [hf, h2, hbf])
                  have GO := Lib.hid (goes.out he.out)
                  clear hf h2
                  rw [hr] at *
                  go_wp2_with fail
                  refine HBf.out.mono ?_
                  rintro e w5 ⟨rfl, hb5⟩
                  rw [hbf]
                  have HB5 := Lib.hid (Below.chain HBB4.out hb5)
                  have HO5 := Lib.hid (own_keep ho4.out hb5)
                  clear hb5
                  go_wp2
                  go_roundw
                  case rel =>
                    obtain ⟨q1, q2⟩ := GO.out _ _ (own_lo HO5.out (by have := HB0.out.size; omega))
                    exact ⟨n + 1, by omega, by go_num, q1, congrArg Value.bool q2, Below.chain HB0.out HB5.out⟩
                  case measure => simp [intOf]; omega
                  all_goals exact absurd (of_decide_eq_true d2) (by assumption)
              · have d2 : decide ((p.length : Int) = (m.length : Int)) = false := by simp; omega
                have he := Lib.hid (show stepS (Rn S n) p = Rn S n by rw [hr]; unfold stepS; simp [hf, h1, h2])
                have ST := Lib.hid (stay.out he.out _ HBB4.out)
                clear hf
                rw [hr] at *
                go_wp2
                go_roundw
                case rel =>
                  obtain ⟨q1, q2⟩ := ST.out
                  exact ⟨n + 1, by omega, by go_num, q1, congrArg Value.bool q2, Below.chain HB0.out HBB4.out⟩
                case measure => simp [intOf]; omega
      · obtain rfl : n = N := by omega
        have HO2 := Lib.hid (own_lo ho hb3.out.size)
        have HBe := Lib.hid (Below.chain hb3.out hb)
        clear ho hb
        go_wp2
        go_ret2
        exact IntsPost.mk' HL.out HBB.out HO2.out HBe.out
end Go.Proofs.YtlipkplomndjcaaGreat
namespace Go.Proofs.YtlipkplomndjcaaGreat
open Go.RowKit
set_option linter.unusedVariables false
/-- the row while it is gone through: what is kept, what is left over, what is still to come -/
def DInv {α : Type} (p : α → Bool) (es : List α) (j i : Nat) (R : List α) : Prop :=
  ∃ J, R = (es.take j).filter (fun x => !p x) ++ (J ++ es.drop j) ∧ ((es.take j).filter fun x => !p x).length = i ∧ i + J.length = j ∧ i < j ∧ j ≤ es.length
theorem DInv.start {α : Type} {p : α → Bool} {es : List α} {k : Nat} {x : α} (hx : es[k]? = some x) (hp : p x = true) (h : ∀ j y, j < k → es[j]? = some y → p y = false) : DInv p es (k + 1) k es := by
  have hk : k < es.length := (List.getElem?_eq_some_iff.1 hx).1
  have hall : (es.take k).filter (fun x => !p x) = es.take k := by
    rw [List.filter_eq_self]
    intro y hy
    obtain ⟨j, hj, rfl⟩ := List.getElem_of_mem hy
    have hj2 : j < k := by rw [List.length_take] at hj; omega
    have := h j (es.take k)[j] hj2 (by rw [List.getElem_take, List.getElem?_eq_getElem (by omega)])
    rw [this]; rfl
  have hf : (es.take (k + 1)).filter (fun x => !p x) = es.take k := by
    rw [List.take_succ_eq_append_getElem hk, List.filter_append, hall]
    have : es[k] = x := by rw [List.getElem?_eq_getElem hk] at hx; exact Option.some.inj hx
    simp [this, hp]
  refine ⟨[x], ?_, ?_, by simp, by omega, hk⟩
  · rw [hf]
    have e : es[k] = x := by rw [List.getElem?_eq_getElem hk] at hx; exact Option.some.inj hx
    calc es = es.take k ++ es.drop k := (List.take_append_drop k es).symm
      _ = _ := by rw [List.drop_eq_getElem_cons hk, e]; rfl
  · rw [hf, List.length_take]; omega
theorem DInv.len {α : Type} {p : α → Bool} {es R : List α} {i j : Nat} (h : DInv p es j i R) : R.length = es.length := by
  obtain ⟨J, rfl, h1, h2, h3, h4⟩ := h
  simp only [List.length_append, List.length_drop]; omega
theorem DInv.get {α : Type} {p : α → Bool} {es R : List α} {i j : Nat} {x : α} (h : DInv p es j i R) (hx : es[j]? = some x) : R[j]? = some x := by
  obtain ⟨J, rfl, h1, h2, h3, h4⟩ := h
  rw [List.getElem?_append_right (by omega), List.getElem?_append_right (by omega), List.getElem?_drop, ← hx]
  congr 1; omega
theorem DInv.skip {α : Type} {p : α → Bool} {es R : List α} {i j : Nat} {x : α} (h : DInv p es j i R) (hx : es[j]? = some x) (hp : p x = true) : DInv p es (j + 1) i R := by
  obtain ⟨J, rfl, h1, h2, h3, h4⟩ := h
  have hj : j < es.length := (List.getElem?_eq_some_iff.1 hx).1
  have e : es[j] = x := by rw [List.getElem?_eq_getElem hj] at hx; exact Option.some.inj hx
  have hf : (es.take (j + 1)).filter (fun x => !p x) = (es.take j).filter (fun x => !p x) := by
    rw [List.take_succ_eq_append_getElem hj, List.filter_append]; simp [e, hp]
  refine ⟨J ++ [x], ?_, by rw [hf]; exact h1, by simp; omega, by omega, hj⟩
  rw [hf, List.drop_eq_getElem_cons hj, e]; simp
theorem DInv.keep {α : Type} {p : α → Bool} {es R : List α} {i j : Nat} {x : α} (h : DInv p es j i R) (hx : es[j]? = some x) (hp : p x = false) : DInv p es (j + 1) (i + 1) (R.set i x) := by
  obtain ⟨J, rfl, h1, h2, h3, h4⟩ := h
  have hj : j < es.length := (List.getElem?_eq_some_iff.1 hx).1
  have e : es[j] = x := by rw [List.getElem?_eq_getElem hj] at hx; exact Option.some.inj hx
  have hf : (es.take (j + 1)).filter (fun x => !p x) = (es.take j).filter (fun x => !p x) ++ [x] := by
    rw [List.take_succ_eq_append_getElem hj, List.filter_append]; simp [e, hp]
  cases J with
  | nil => simp at h2; omega
  | cons y J' =>
    refine ⟨J' ++ [x], ?_, by rw [hf, List.length_append, h1]; rfl, by simp at h2 ⊢; omega, by omega, hj⟩
    rw [hf, List.drop_eq_getElem_cons hj, e, List.cons_append, set_mid _ _ _ _ h1.symm]
    simp
theorem DInv.done {α : Type} {p : α → Bool} {es R : List α} {i : Nat} (h : DInv p es es.length i R) : R.take i = es.filter (fun x => !p x) ∧ i = (es.filter fun x => !p x).length := by
  obtain ⟨J, rfl, h1, h2, h3, h4⟩ := h
  rw [List.take_length] at h1 ⊢
  exact ⟨by rw [List.take_left' h1], h1.symm⟩
/-- cells stored one after the other into a row -/
theorem own_cells {lo size n cap g : Nat} {e : TypeId} : ∀ (vs : List Value) (o : Nat) (w : World) (xs : List Value), w.ownsRow lo e size (.slice (some ⟨g, 0, none⟩) n cap) n xs →
    ∃ ys, (w.setCells g o vs).ownsRow lo e size (.slice (some ⟨g, 0, none⟩) n cap) n ys ∧ ys.take o = xs.take o ∧ w.grownBy (w.setCells g o vs) (some g)
  | [], o, w, xs, h => ⟨xs, h, rfl, World.grownBy.refl _ _⟩
  | v :: r, o, w, xs, h => by
    have h1 := h.stored o v
    obtain ⟨ys, h2, h3, h4⟩ := own_cells r (o + 1) (w.setCell ⟨g, o, none⟩ v) _ h1.1
    refine ⟨ys, h2, ?_, ?_⟩
    · have : (ys.take (o + 1)).take o = ((xs.set o v).take (o + 1)).take o := by rw [h3]
      rw [List.take_take, List.take_take, Nat.min_eq_left (by omega)] at this
      rw [this, List.take_set_of_le (Nat.le_refl _)]
    · exact ⟨h4.os.trans h1.2.os, h4.tape.trans h1.2.tape, h4.output.trans h1.2.output, Nat.le_trans h1.2.size h4.size, fun k hk hne => (h4.block k (Nat.lt_of_lt_of_le hk h1.2.size) hne).trans (h1.2.block k hk hne)⟩
/-- the head of a row -/
theorem own_cut {w : World} {lo size n m cap g : Nat} {e : TypeId} {xs : List Value} (h : w.ownsRow lo e size (.slice (some ⟨g, 0, none⟩) n cap) n xs) (hm : m ≤ n) :
    w.ownsRow lo e size (.slice (some ⟨g, 0, none⟩) m cap) m (xs.take (m * size)) := by
  have hl := h.1
  refine ⟨?_, ?_⟩
  · rw [List.length_take, hl]; exact Nat.min_eq_left (Nat.mul_le_mul_right _ hm)
  · rcases h.2 with ⟨h', _⟩ | ⟨g', cap', cur, h', hb, hg, hnc, hcm, hcs, ht⟩
    · cases h'
    · injection h' with h1 _ h3
      injection h1 with h1; injection h1 with h1
      subst h1 h3
      exact .inr ⟨g, cap, cur, rfl, hb, hg, by omega, hcm, hcs, by rw [← ht, List.take_take, Nat.min_eq_left (Nat.mul_le_mul_right _ hm)]⟩
theorem run_clear_cells {P : Program} (w : World) (t e ty : TypeId) (z : Value) (ht : P.underlying t = some (.slice e)) (hv : ∀ w, (zeroValue e).run P w = .ok z w) (h1 : ∀ v ∈ z.cells.toList, v.oneCell' = true) (hpos : 0 < z.cells.size) (b o n c : Nat) (hn : 0 < n)
    (hth : w.there b o (n * z.cells.size)) :
    (Builtin.clear_ #[t] ty #[.slice (some ⟨b, o, none⟩) n c]).run P w = .ok (.tuple #[]) (w.setCells b o (Builtin.zeroCells z.cells n).toList) := by
  have hlen : (Builtin.zeroCells z.cells n).toList.length = n * z.cells.size := by simp [Builtin.zeroCells]
  have hst := run_storeCells_cells (P := P) b o (Builtin.zeroCells z.cells n).toList 0 w (by rw [hlen]; exact fun j hj => by simpa using (hth j hj).1) (by rw [hlen]; exact fun j hj => by simpa using (hth j hj).2)
    (by
      intro v hv'
      simp only [Builtin.zeroCells, Array.toList_map, List.mem_map, Array.toList_range, List.mem_range] at hv'
      obtain ⟨i, _, rfl⟩ := hv'
      have hlt := Nat.mod_lt i hpos
      have : z.cells[i % z.cells.size]! = z.cells[i % z.cells.size] := by simp [hlt]
      rw [this]
      exact h1 _ (by simp))
  simp only [Nat.add_zero] at hst
  obtain ⟨m, rfl⟩ : ∃ m, n = m + 1 := ⟨n - 1, by omega⟩
  simp [Builtin.clear_, run_underlying ht, hv, hst]
theorem own_there {w : World} {lo size n cap g : Nat} {e : TypeId} {xs : List Value} (h : w.ownsRow lo e size (.slice (some ⟨g, 0, none⟩) n cap) n xs) : w.there g 0 (n * size) := fun j hj => by
  rw [Nat.zero_add]
  refine ⟨?_, h.frozenAt j⟩
  rw [h.cellAt j hj, List.getElem?_eq_getElem (by rw [h.1]; exact hj)]; rfl
end Go.Proofs.YtlipkplomndjcaaGreat
namespace Go.Proofs.YtlipkplomndjcaaGreat
open Go.RowKit
set_option linter.unusedVariables false
set_option maxRecDepth 100000
theorem Sl.partsV {w : World} {v : Value} {xs : List Value} (h : Sl w 1 v xs.length xs) : ∃ a c, v = .slice a xs.length c ∧ xs.length ≤ c ∧ c ≤ 9223372036854775807 ∧
    Hid (∀ k x, xs[k]? = some x → ∃ b off, a = some ⟨b, off, none⟩ ∧ w.cell? ⟨b, off + k, none⟩ = some x) := by
  obtain ⟨a, c, rfl, h1, h2, h3, h4⟩ := h
  refine ⟨a, c, rfl, h1, by unfold maxLen at h2; omega, fun k x hk => ?_⟩
  have hlt : k < xs.length := (List.getElem?_eq_some_iff.1 hk).1
  obtain ⟨b, off, rfl, hc⟩ := h4 (by omega)
  exact ⟨b, off, rfl, by rw [hc k (by omega), hk]⟩
theorem firstAt_cases {α : Type} (p : α → Bool) (xs : List α) : (firstAt p xs = -1 ∧ xs.filter (fun x => !p x) = xs) ∨ ∃ (k : Nat) (x : α), firstAt p xs = (k : Int) ∧ xs[k]? = some x ∧ p x = true ∧ ∀ (j : Nat) (y : α), j < k → xs[j]? = some y → p y = false := by
  unfold firstAt
  cases h : xs.findIdx? p with
  | none =>
    left
    rw [List.findIdx?_eq_none_iff] at h
    exact ⟨rfl, by rw [List.filter_eq_self]; intro x hx; rw [h x hx]; rfl⟩
  | some k =>
    right
    rw [List.findIdx?_eq_some_iff_getElem] at h
    obtain ⟨hk, hp, hb⟩ := h
    refine ⟨k, xs[k], rfl, List.getElem?_eq_getElem hk, hp, fun j y hj hy => ?_⟩
    have hjl : j < xs.length := by omega
    have := hb j hj
    rw [List.getElem?_eq_getElem hjl] at hy
    have e := Option.some.inj hy
    rw [e] at this
    simpa using this
end Go.Proofs.YtlipkplomndjcaaGreat
namespace Go.Proofs.YtlipkplomndjcaaGreat
open Go.RowKit
set_option linter.unusedVariables false
set_option maxRecDepth 100000
theorem Sl.keepB {w w' : World} {size n B : Nat} {v : Value} {xs : List Value} (h : Sl w size v n xs) (hb : Below B w w') (hv : ∀ g, v.ownBlock = some g → g < B) : Sl w' size v n xs := by
  obtain ⟨a, c, rfl, h1, h2, h3, h4⟩ := h
  refine ⟨a, c, rfl, h1, h2, h3, fun hn => ?_⟩
  obtain ⟨b, off, rfl, hc⟩ := h4 hn
  refine ⟨b, off, rfl, fun j hj => ?_⟩
  have hlt := hv b rfl
  rw [← hc j hj]
  exact hb.cell (p := ⟨b, off + j, none⟩) hlt
/-- a slice of slices that reads so, all its blocks below B -/
def RdSS (w : World) (B : Nat) (u : Value) (xss : List (List Int)) : Prop :=
  ∃ vs, vs.length = xss.length ∧ Sl w 1 u vs.length vs ∧ (∀ g, u.ownBlock = some g → g < B) ∧
    ∀ (k : Nat) (v : Value) (xs : List Int), vs[k]? = some v → xss[k]? = some xs → Ints w v xs ∧ ∀ g, v.ownBlock = some g → g < B
theorem RdSS.keep {w w' : World} {B B' : Nat} {u : Value} {xss : List (List Int)} (h : RdSS w B u xss) (hb : Below B' w w') (hB : B ≤ B') : RdSS w' B u xss := by
  obtain ⟨vs, h1, h2, h3, h4⟩ := h
  exact ⟨vs, h1, h2.keepB hb (fun g hg => Nat.lt_of_lt_of_le (h3 g hg) hB), h3, fun k v xs hv hx => ⟨Sl.keepB (h4 k v xs hv hx).1 hb (fun g hg => Nat.lt_of_lt_of_le ((h4 k v xs hv hx).2 g hg) hB), (h4 k v xs hv hx).2⟩⟩
theorem OwnSS.rd {w : World} {lo : Nat} {u : Value} {xss : List (List Int)} (h : OwnSS w lo u xss) : RdSS w w.heap.size u xss := by
  obtain ⟨vs, ho, hi⟩ := h
  exact ⟨vs, hi.1, Sl.of_own (ownsRow_cast ho hi.1.symm rfl), fun g hg => (ho.lt g hg).2, fun k v xs hv hx => ⟨Ints.of_own (hi.2.1 k v xs hv hx), fun g hg => ((hi.2.1 k v xs hv hx).lt g hg).2⟩⟩
theorem RdSS.parts {w : World} {B : Nat} {u : Value} {xss : List (List Int)} (h : RdSS w B u xss) : ∃ a c, u = .slice a xss.length c ∧ xss.length ≤ 9223372036854775807 ∧
    Hid (∀ k xs, xss[k]? = some xs → ∃ b off a' c', a = some ⟨b, off, none⟩ ∧ w.cell? ⟨b, off + k, none⟩ = some (.slice a' xs.length c') ∧ Ints w (.slice a' xs.length c') xs) := by
  obtain ⟨vs, h1, h2, h3, h4⟩ := h
  have hle := h2.le
  obtain ⟨a, c, rfl, _, _, HC⟩ := h2.partsV
  refine ⟨a, c, by rw [h1], by omega, fun k xs hk => ?_⟩
  have hlt : k < vs.length := by rw [h1]; exact (List.getElem?_eq_some_iff.1 hk).1
  have hv : vs[k]? = some vs[k] := List.getElem?_eq_getElem hlt
  obtain ⟨b, off, e, hc⟩ := HC.out k _ hv
  have hI := (h4 k _ xs hv hk).1
  obtain ⟨a', c', e2, _⟩ := hI.parts
  exact ⟨b, off, a', c', e, by rw [hc, e2], by rw [← e2]; exact hI⟩
/-! marks -/
def totSS (xss : List (List Int)) : Nat := (xss.map List.length).sum
def seqSS : Int → List (List Int) → List (List Int)
  | _, [] => []
  | k, xs :: t => seqI k xs.length :: seqSS (k + xs.length) t
theorem seqSS_len : ∀ (k : Int) (xss : List (List Int)), (seqSS k xss).length = xss.length
  | _, [] => rfl
  | k, xs :: t => by simp [seqSS, seqSS_len]
theorem seqSS_append : ∀ (k : Int) (a b : List (List Int)), seqSS k (a ++ b) = seqSS k a ++ seqSS (k + totSS a) b
  | k, [], b => by simp [seqSS, totSS]
  | k, xs :: t, b => by
    simp only [List.cons_append, seqSS, seqSS_append]
    congr 3
    simp only [totSS, List.map_cons, List.sum_cons]; omega
theorem totSS_succ {xss : List (List Int)} {i : Nat} {xs : List Int} (h : xss[i]? = some xs) : totSS (xss.take (i + 1)) = totSS (xss.take i) + xs.length := by
  unfold totSS; rw [take_snoc h, List.map_append, List.sum_append]; simp
theorem totSS_le (xss : List (List Int)) (i : Nat) : totSS (xss.take i) ≤ totSS xss := by
  have h : totSS xss = totSS (xss.take i) + totSS (xss.drop i) := by
    unfold totSS
    rw [← List.sum_append, ← List.map_append, List.take_append_drop]
  omega
theorem seqSS_at {k : Int} {xss : List (List Int)} {i : Nat} {xs : List Int} (h : xss[i]? = some xs) : (seqSS k xss)[i]? = some (seqI (k + totSS (xss.take i)) xs.length) := by
  have hi : i < xss.length := (List.getElem?_eq_some_iff.1 h).1
  have e : xss = xss.take i ++ xs :: xss.drop (i + 1) := by
    have hx : xss[i] = xs := (List.getElem?_eq_some_iff.1 h).2
    conv => lhs; rw [← List.take_append_drop i xss, List.drop_eq_getElem_cons hi, hx]
  have hl : (seqSS k (xss.take i)).length = i := by rw [seqSS_len, List.length_take]; omega
  conv => lhs; rw [e]
  rw [seqSS_append, List.getElem?_append_right (by omega), hl, Nat.sub_self]; rfl
/-- marked as far as i -/
def mkSS (k : Int) (xss : List (List Int)) (i : Nat) : List (List Int) := seqSS k (xss.take i) ++ xss.drop i
theorem mkSS_at {k : Int} {xss : List (List Int)} {i : Nat} (hi : i ≤ xss.length) : (mkSS k xss i)[i]? = xss[i]? := by
  unfold mkSS
  have hl : (seqSS k (xss.take i)).length = i := by rw [seqSS_len, List.length_take]; omega
  rw [List.getElem?_append_right (by omega), hl, Nat.sub_self, List.getElem?_drop, Nat.add_zero]
theorem mkSS_succ {k : Int} {xss : List (List Int)} {i : Nat} {xs : List Int} (h : xss[i]? = some xs) : (mkSS k xss i).set i (seqI (k + totSS (xss.take i)) xs.length) = mkSS k xss (i + 1) := by
  have hi : i < xss.length := (List.getElem?_eq_some_iff.1 h).1
  have hx : xss[i] = xs := (List.getElem?_eq_some_iff.1 h).2
  have hl : (seqSS k (xss.take i)).length = i := by rw [seqSS_len, List.length_take]; omega
  unfold mkSS
  rw [List.drop_eq_getElem_cons hi, set_mid _ _ _ _ hl.symm, take_snoc h, seqSS_append]
  simp [seqSS]
theorem mkSS_zero (k : Int) (xss : List (List Int)) : mkSS k xss 0 = xss := rfl
theorem mkSS_all (k : Int) (xss : List (List Int)) : mkSS k xss xss.length = seqSS k xss := by unfold mkSS; rw [List.take_length, List.drop_length, List.append_nil]
theorem mkSS_len {k : Int} {xss : List (List Int)} {i : Nat} (hi : i ≤ xss.length) : (mkSS k xss i).length = xss.length := by
  unfold mkSS; rw [List.length_append, seqSS_len, List.length_take, List.length_drop]; omega
theorem Inn.set {w w' : World} {lo : Nat} {vs : List Value} {xss : List (List Int)} {i : Nat} {v : Value} {ys : List Int} (h : Inn w lo vs xss) (hv : vs[i]? = some v) (hi : i < xss.length)
    (ho : w'.ownsRow lo 3 1 v ys.length (ints ys)) (hg : w.grownBy w' v.ownBlock) : Inn w' lo vs (xss.set i ys) := by
  refine ⟨by rw [List.length_set]; exact h.1, fun k a xs ha hx => ?_, h.2.2⟩
  by_cases hk : k = i
  · subst hk
    rw [List.getElem?_set_self hi] at hx
    rw [hv] at ha
    obtain rfl := Option.some.inj ha
    obtain rfl := Option.some.inj hx
    exact ho
  · rw [List.getElem?_set_ne (by omega)] at hx
    have h1 := h.2.1 k a xs ha hx
    refine h1.kept hg ?_
    by_cases hlt : k < i
    · rcases h.2.2 k i a v hlt ha hv with h2 | h2
      · rw [h2]; cases a.ownBlock <;> simp
      · exact .inr (fun e => h2 e.symm)
    · rcases h.2.2 i k v a (by omega) hv ha with h2 | h2
      · exact .inl h2
      · exact .inr h2
end Go.Proofs.YtlipkplomndjcaaGreat
namespace Go.Proofs.YtlipkplomndjcaaGreat
set_option linter.unusedVariables false
theorem totSS_filter (q : List Int → Bool) (xss : List (List Int)) (h : ∀ xs ∈ xss, xs.length ≤ 10) : totSS (xss.filter q) ≤ 10 * xss.length := by
  induction xss with
  | nil => simp [totSS]
  | cons a t ih =>
    have h1 := ih (fun xs hx => h xs (List.mem_cons_of_mem _ hx))
    have h2 := h a List.mem_cons_self
    rw [List.filter_cons]
    split
    · simp only [totSS, List.map_cons, List.sum_cons, List.length_cons] at h1 ⊢; omega
    · simp only [List.length_cons]; omega
theorem OwnSS.nil_ (w : World) (lo : Nat) : OwnSS w lo (.slice none 0 0) [] := ⟨[], World.ownsRow_nil _ _ _ _, Inn.nil_ _ _⟩
theorem Inn.lo' {w : World} {lo lo' : Nat} {vs : List Value} {xss : List (List Int)} (h : Inn w lo vs xss) (hl : lo' ≤ lo) : Inn w lo' vs xss := ⟨h.1, fun k v xs h1 h2 => own_lo (h.2.1 k v xs h1 h2) hl, h.2.2⟩
def insB : List (List Int) → List Int → List (List Int)
  | [], p => [p]
  | q :: t, p => if befL q p then q :: insB t p else p :: q :: t
theorem insB_at : ∀ (l : List (List Int)) (p : List Int) (k : Nat), k ≤ l.length → (∀ j x, j < k → l[j]? = some x → befL x p = true) → (∀ x, l[k]? = some x → befL x p = false) → insB l p = l.take k ++ p :: l.drop k
  | [], p, k, hk, _, _ => by simp at hk; subst hk; simp [insB]
  | y :: t, p, 0, _, _, h0 => by
    have := h0 y rfl
    unfold insB
    rw [this]; simp
  | y :: t, p, k + 1, hk, hb, h0 => by
    have hy := hb 0 y (by omega) rfl
    have ih := insB_at t p k (by simpa using hk) (fun j x hj hx => hb (j + 1) x (by omega) (by simpa using hx)) (fun x hx => h0 x (by simpa using hx))
    unfold insB
    rw [hy, ih]
    simp
theorem insB_mem : ∀ (l : List (List Int)) (p x : List Int), x ∈ insB l p ↔ x = p ∨ x ∈ l
  | [], p, x => by simp [insB]
  | y :: t, p, x => by
    have ih := insB_mem t p x
    unfold insB
    cases befL y p
    · simp
    · simp only [if_true, List.mem_cons, ih]
      constructor
      · rintro (h | h | h); exact .inr (.inl h); exact .inl h; exact .inr (.inr h)
      · rintro (h | h | h); exact .inr (.inl h); exact .inl h; exact .inr (.inr h)
theorem insB_len : ∀ (l : List (List Int)) (p : List Int), (insB l p).length = l.length + 1
  | [], p => rfl
  | y :: t, p => by
    have ih := insB_len t p
    unfold insB
    cases befL y p <;> simp [ih]
theorem insB_pw : ∀ (l : List (List Int)) (p : List Int), l.Pairwise (fun a b => befL a b = true) → p ∉ l → (insB l p).Pairwise (fun a b => befL a b = true)
  | [], p, _, _ => by simp [insB]
  | y :: t, p, h, hn => by
    rw [List.pairwise_cons] at h
    have ih := insB_pw t p h.2 (fun hm => hn (List.mem_cons_of_mem _ hm))
    unfold insB
    cases hb : befL y p
    · have hyp : befL p y = true := by
        cases h2 : befL p y
        · exact absurd (befL_tri y p hb h2) (fun e => hn (by rw [e]; simp))
        · rfl
      rw [if_neg (by simp), List.pairwise_cons, List.pairwise_cons]
      refine ⟨fun z hz => ?_, h⟩
      rcases List.mem_cons.1 hz with e | e
      · rw [e]; exact hyp
      · exact befL_trans _ _ _ hyp (h.1 z e)
    · rw [if_pos rfl, List.pairwise_cons]
      refine ⟨fun z hz => ?_, ih⟩
      rcases (insB_mem t p z).1 hz with e | e
      · rw [e]; exact hb
      · exact h.1 z e
theorem eq_of_bef : ∀ (l1 l2 : List (List Int)), l1.Pairwise (fun a b => befL a b = true) → l2.Pairwise (fun a b => befL a b = true) → (∀ x, x ∈ l1 ↔ x ∈ l2) → l1 = l2
  | [], [], _, _, _ => rfl
  | [], y :: t, _, _, h => by have := (h y).2 (by simp); simp at this
  | x :: t, [], _, _, h => by have := (h x).1 (by simp); simp at this
  | x :: t, y :: s, h1, h2, h => by
    rw [List.pairwise_cons] at h1 h2
    have hx := (h x).1 (by simp)
    have hy := (h y).2 (by simp)
    have e : x = y := by
      rcases List.mem_cons.1 hx with e | e
      · exact e
      · rcases List.mem_cons.1 hy with e2 | e2
        · exact e2.symm
        · have a := h2.1 x e
          have b := h1.1 y e2
          rw [befL_asym a] at b; cases b
    subst e
    rw [eq_of_bef t s h1.2 h2.2 (fun z => by
      have hz := h z
      simp only [List.mem_cons] at hz
      constructor
      · intro hm
        have := h1.1 z hm
        rcases hz.1 (.inr hm) with e | e
        · rw [e, befL_irr] at this; cases this
        · exact e
      · intro hm
        have := h2.1 z hm
        rcases hz.2 (.inr hm) with e | e
        · rw [e, befL_irr] at this; cases this
        · exact e)]
def backN (l : List Int) : Nat := l.foldl (fun a x => a + 2 ^ (9 - x.toNat)) 0
set_option maxRecDepth 100000 in
theorem backN_digs : ∀ s, s < 1024 → backN (digsL tenI s) = s := by decide +kernel
set_option maxRecDepth 100000 in
theorem setS_digs : ∀ s, s < 1024 → setS (digsL tenI s) = digsL tenI s := by decide +kernel
/-- the list behind n sets -/
def ltN (n : Nat) : List (List Int) := (partsS tenI n).foldl (fun l p => if leastL p then insB l p else l) []
theorem ltN_succ (n : Nat) : ltN (n + 1) = if leastL (digsL tenI n) then insB (ltN n) (digsL tenI n) else ltN n := by
  unfold ltN; rw [partsS_succ, List.foldl_append]; rfl
theorem ltN_len : ∀ n, (ltN n).length ≤ n
  | 0 => by simp [ltN, partsS]
  | n + 1 => by
    have := ltN_len n
    rw [ltN_succ]
    split
    · rw [insB_len]; omega
    · omega
theorem ltN_is : ∀ n, n ≤ 1024 → (ltN n).Pairwise (fun a b => befL a b = true) ∧ ∀ x, x ∈ ltN n ↔ ∃ s, s < n ∧ x = digsL tenI s ∧ leastL x = true
  | 0, _ => by simp [ltN, partsS]
  | n + 1, hn => by
    obtain ⟨h1, h2⟩ := ltN_is n (by omega)
    rw [ltN_succ]
    cases hl : leastL (digsL tenI n)
    · refine ⟨h1, fun x => ?_⟩
      rw [if_neg (by simp), h2]
      constructor
      · rintro ⟨s, a, b, c⟩; exact ⟨s, by omega, b, c⟩
      · rintro ⟨s, a, b, c⟩
        by_cases e : s = n
        · subst e; rw [b, hl] at c; cases c
        · exact ⟨s, by omega, b, c⟩
    · rw [if_pos rfl]
      refine ⟨insB_pw _ _ h1 (fun hm => ?_), fun x => ?_⟩
      · obtain ⟨s, a, b, _⟩ := (h2 _).1 hm
        have e1 := backN_digs n (by omega)
        rw [b, backN_digs s (by omega)] at e1
        omega
      · rw [insB_mem, h2]
        constructor
        · rintro (e | ⟨s, a, b, c⟩)
          · exact ⟨n, by omega, e, by rw [e]; exact hl⟩
          · exact ⟨s, by omega, b, c⟩
        · rintro ⟨s, a, b, c⟩
          by_cases e : s = n
          · subst e; exact .inl b
          · exact .inr ⟨s, by omega, b, c⟩
def ltA : List (List Int) := (subsL tenI).filter fun p => leastL (setS p)
theorem tenI_lt : tenI.Pairwise (· < ·) := by decide
theorem ltA_eq : ltA = ltN 1024 := by
  have hI := ltN_is 1024 (Nat.le_refl _)
  refine eq_of_bef _ _ ((subsL_lex tenI tenI_lt).filter _) hI.1 (fun x => ?_)
  unfold ltA
  rw [hI.2, List.mem_filter]
  have hm := mem_parts tenI [] x
  constructor
  · rintro ⟨a, b⟩
    obtain ⟨s, hs, e⟩ := hm.1 a
    rw [List.nil_append] at e
    have hs : s < 1024 := hs
    exact ⟨s, hs, e, by rw [e, setS_digs s hs] at b; rw [e]; exact b⟩
  · rintro ⟨s, hs, e, hl⟩
    refine ⟨hm.2 ⟨s, hs, by rw [List.nil_append]; exact e⟩, ?_⟩
    rw [e, setS_digs s hs, ← e]; exact hl
theorem ltA_len : ltA.length ≤ 1024 := by rw [ltA_eq]; exact ltN_len 1024
theorem ltA_tot : totSS ltA ≤ 10240 := by
  have h := totSS_filter (fun p => leastL (setS p)) (subsL tenI) (fun xs hx => by
    obtain ⟨s, _, e⟩ := (mem_parts tenI [] xs).1 hx
    rw [e, List.nil_append]
    exact digs_len tenI s)
  have h2 : (subsL tenI).length = 1024 := by
    have := loopE_len tenI []
    unfold subsL; rw [List.length_cons]; exact this
  show totSS ((subsL tenI).filter _) ≤ _
  omega
end Go.Proofs.YtlipkplomndjcaaGreat
namespace Go.Proofs.YtlipkplomndjcaaGreat
set_option linter.unusedVariables false
theorem firstAt_any (p : Int → Bool) (xs : List Int) : 0 ≤ firstAt p xs ↔ ∃ x ∈ xs, p x = true := by
  constructor
  · intro h
    by_cases hx : ∃ x ∈ xs, p x = true
    · exact hx
    · have : firstAt p xs = -1 := firstAt_none (k := xs.length) (Nat.le_refl _) (fun j x _ hj => by
        cases hp : p x
        · rfl
        · exact absurd ⟨x, List.mem_of_getElem? hj, hp⟩ hx)
      omega
  · rintro ⟨x, hx, hp⟩
    unfold firstAt
    cases h : xs.findIdx? p with
    | none =>
      rw [List.findIdx?_eq_none_iff] at h
      have := h x hx
      rw [hp] at this; cases this
    | some i => simp
theorem full_iff (xs : List Int) : fullB xs = true ↔ ∀ s ∈ allSt.drop 1, ∃ x ∈ xs, finds s.1 s.2 x = true := by
  rw [fullB_hidden, decide_eq_true_eq, List.length_eq_zero_iff, hiddenSt_eq, List.filter_eq_nil_iff]
  constructor
  · intro h s hs
    have := h s hs
    simp only [beq_iff_eq, decide_eq_false_iff_not, Decidable.not_not] at this
    exact (firstAt_any _ _).1 this
  · intro h s hs
    simp only [beq_iff_eq, decide_eq_false_iff_not, Decidable.not_not]
    exact (firstAt_any _ _).2 (h s hs)
theorem full_mono {xs ys : List Int} (h : ∀ x ∈ xs, x ∈ ys) (hf : fullB xs = true) : fullB ys = true := by
  rw [full_iff] at hf ⊢
  intro s hs
  obtain ⟨x, hx, hp⟩ := hf s hs
  exact ⟨x, h x hx, hp⟩
theorem least_in : ∀ (n : Nat) (l : List Int), l.length = n → fullB l = true → ∃ m, m.Sublist l ∧ leastL m = true := by
  intro n
  induction n using Nat.strongRecOn with
  | ind n ih =>
    intro l hn hf
    by_cases h : ∃ i, i < l.length ∧ fullB (l.eraseIdx i) = true
    · obtain ⟨i, hi, hfi⟩ := h
      obtain ⟨m, h1, h2⟩ := ih (l.eraseIdx i).length (by rw [List.length_eraseIdx]; simp [hi]; omega) (l.eraseIdx i) rfl hfi
      exact ⟨m, h1.trans (List.eraseIdx_sublist _ _), h2⟩
    · refine ⟨l, List.Sublist.refl _, ?_⟩
      rw [leastL_ok (fun i hi => ?_)]
      · exact hf
      · cases hb : fullB (l.eraseIdx i)
        · rfl
        · exact absurd ⟨i, hi, hb⟩ h
theorem loopE_sub : ∀ {m l : List Int}, m.Sublist l → ∀ part : List Int, part ++ m ∈ part :: loopE l part := by
  intro m l h
  induction h with
  | slnil => intro part; simp
  | cons x h ih =>
    intro part
    have := ih part
    rw [List.mem_cons] at this ⊢
    rcases this with e | e
    · exact .inl e
    · right; rw [loopE_cons]; exact List.mem_append_right _ e
  | cons_cons x h ih =>
    intro part
    have := ih (part ++ [x])
    rw [List.mem_cons]; right
    rw [loopE_cons]
    apply List.mem_append_left
    rw [List.append_assoc] at this
    exact this
theorem sub_loopE : ∀ (l part q : List Int), q ∈ part :: loopE l part → ∃ m, m.Sublist l ∧ q = part ++ m
  | [], part, q, h => by simp [loopE] at h; exact ⟨[], List.Sublist.refl _, by simp [h]⟩
  | x :: t, part, q, h => by
    rw [List.mem_cons] at h
    rcases h with e | h
    · exact ⟨[], List.nil_sublist _, by simp [e]⟩
    · rw [loopE_cons] at h
      rcases List.mem_append.1 h with h | h
      · obtain ⟨m, h1, h2⟩ := sub_loopE t (part ++ [x]) q h
        exact ⟨x :: m, h1.cons_cons x, by rw [h2]; simp⟩
      · obtain ⟨m, h1, h2⟩ := sub_loopE t part q (List.mem_cons_of_mem _ h)
        exact ⟨m, h1.cons x, h2⟩
theorem sub_ten {l : List Int} (h1 : l.Pairwise (· < ·)) (h2 : ∀ y ∈ l, digitB y = true) : l.Sublist tenI := by
  have e : l = tenI.filter fun y => decide (y ∈ l) := by
    apply eq_of_lt _ _ h1 (tenI_lt.filter _)
    intro x
    rw [List.mem_filter, decide_eq_true_eq]
    constructor
    · intro hx
      refine ⟨?_, hx⟩
      have := digitB_true (h2 x hx)
      obtain ⟨k, rfl⟩ := Int.eq_ofNat_of_zero_le this.1
      exact List.mem_of_getElem? (tenI_at (k := k) (by omega))
    · exact fun h => h.2
  rw [e]; exact List.filter_sublist
theorem setS_asc {l : List Int} (h : l.Pairwise (· < ·)) : setS l = l := eq_of_lt _ _ (setS_lt l) h (setS_mem l)
theorem setS_sub {xs : List Int} (ht : testB xs = true) : (setS xs).Sublist tenI := by
  refine sub_ten (setS_lt xs) (fun y hy => ?_)
  have := testB_set ht
  unfold testB at this
  simp only [Bool.and_eq_true, List.all_eq_true] at this
  exact this.2 y hy
theorem full_least {xs : List Int} (ht : testB xs = true) : (∃ l ∈ ltA, ∀ x ∈ l, x ∈ xs) ↔ fullB xs = true := by
  constructor
  · rintro ⟨l, hl, hs⟩
    unfold ltA at hl
    rw [List.mem_filter] at hl
    have hf : fullB (setS l) = true := by have := hl.2; unfold leastL at this; rw [Bool.and_eq_true] at this; exact this.2
    exact full_mono (fun x hx => hs x ((setS_mem l x).1 hx)) hf
  · intro hf
    obtain ⟨m, h1, h2⟩ := least_in _ (setS xs) rfl (full_mono (fun x hx => (setS_mem xs x).2 hx) hf)
    refine ⟨m, ?_, fun x hx => (setS_mem xs x).1 (h1.subset hx)⟩
    unfold ltA
    rw [List.mem_filter]
    refine ⟨?_, ?_⟩
    · have := loopE_sub (h1.trans (setS_sub ht)) []
      exact this
    · rw [setS_asc ((setS_lt xs).sublist h1)]; exact h2
/-- the shortest test is full, least, and a part of its set; where there is none the test is not full -/
theorem short_some {xs b : List Int} (h : shR xs = some b) : fullB b = true ∧ leastL b = true ∧ setS b = b ∧ ∀ x ∈ b, x ∈ xs := by
  have hB := bestA_is (subsL (setS xs)) (subsL_lex _ (setS_lt xs))
  unfold shR at h
  rw [h] at hB
  obtain ⟨h1, h2, h3⟩ := hB
  obtain ⟨m, hsub, e⟩ := sub_loopE (setS xs) [] b h1
  rw [List.nil_append] at e
  subst e
  refine ⟨h2, ?_, setS_asc ((setS_lt xs).sublist hsub), fun x hx => (setS_mem xs x).1 (hsub.subset hx)⟩
  rw [leastL_ok (fun i hi => ?_)]
  · exact h2
  · cases hf : fullB (b.eraseIdx i)
    · rfl
    · have hm : b.eraseIdx i ∈ subsL (setS xs) := loopE_sub ((List.eraseIdx_sublist _ _).trans hsub) []
      exact absurd (.inl (by rw [List.length_eraseIdx]; simp [hi]; omega)) (h3 _ hm hf)
theorem short_none {xs : List Int} (h : shR xs = none) : fullB xs = false := by
  have hB := bestA_is (subsL (setS xs)) (subsL_lex _ (setS_lt xs))
  unfold shR at h
  rw [h] at hB
  cases hf : fullB xs
  · rfl
  · have hm : setS xs ∈ subsL (setS xs) := loopE_sub (List.Sublist.refl _) []
    have := hB _ hm
    rw [full_mono (fun x hx => (setS_mem xs x).2 hx) hf] at this
    cases this
end Go.Proofs.YtlipkplomndjcaaGreat
namespace Go.Proofs.YtlipkplomndjcaaGreat
open Go.RowKit
theorem Bk.two' {w : World} {g t : Nat} {a b : Value} (h : Bk w g t #[a, b]) : w.cell? ⟨g, 0, none⟩ = some a ∧ w.cell? ⟨g, 1, none⟩ = some b ∧ w.frozen? ⟨g, 0, none⟩ = false ∧ w.frozen? ⟨g, 1, none⟩ = false := ⟨h.cell 0, h.cell 1, h.frozen 0, h.frozen 1⟩
theorem two_below' {w W : World} {b : Nat} (h : Below w.heap.size w W) (hb : w.heap.size ≤ b) (X Y : Value) : Below w.heap.size w ((W.setCell ⟨b, 0, none⟩ X).setCell ⟨b, 1, none⟩ Y) :=
  (h.setCell (p := ⟨b, 0, none⟩) hb _).setCell (p := ⟨b, 1, none⟩) hb _
theorem chain_back {w a b : World} (k : Below a.heap.size a b) (h : Below w.heap.size w a) : Below w.heap.size w b := Below.chain h k
end Go.Proofs.YtlipkplomndjcaaGreat
namespace Go.Proofs.YtlipkplomndjcaaGreat
open Go.RowKit
set_option linter.unusedVariables false
set_option linter.unusedSimpArgs false
set_option maxRecDepth 100000

theorem cell_c (g m : Nat) (w : World) (h : CurAt w g m) (hm : m + 20 < 4611686018427387904) :
    Calls Tryz.prog 70 #[.pointer (some ⟨g, 0, none⟩)] w (DrawI w g (m + 20) fun _ => True) := by
  have HC := Lib.hid h
  clear h
  go_enter Tryz.func70, Tryz.ntmps70
  go_wp2_with fail
  refine (pick_c 40 g m _ HC.out (by omega)).mono ?_
  rintro e w1 ⟨x, rfl, hx, hs⟩
  have HS := Lib.hid hs
  clear hs hx
  have A1 := Lib.hid (fun xs hp hl => amongL_c xs g (m + 2) w1 _ rfl HS.out.cur (by omega) hp hl)
  have O1 := Lib.hid (fun n => one_c n g (m + 2) w1 HS.out.cur (by omega))
  by_cases e0 : x = 0
  · subst e0
    go_wp2_with fail
    refine (A1.out [-1, 128, 4611686018427387904] (by decide) (by decide)).mono ?_
    rintro e w2 ⟨y, rfl, hy, hs⟩
    have HS2 := Lib.hid (HS.out.trans hs)
    clear hs hy
    go_wp2
    go_ret
    exact ⟨_, rfl, trivial, HS2.out.mono (by omega)⟩
  · by_cases e1 : x = 1 ∨ x = 2 ∨ x = 3
    · rcases e1 with rfl | rfl | rfl <;>
      · go_wp2_with fail
        refine (A1.out [0, 127, 64] (by decide) (by decide)).mono ?_
        rintro e w2 ⟨y, rfl, hy, hs⟩
        have HS2 := Lib.hid (HS.out.trans hs)
        clear hs hy
        go_wp2
        go_ret
        exact ⟨_, rfl, trivial, HS2.out.mono (by omega)⟩
    · have e1' : ¬ x = 1 := fun h => e1 (.inl h)
      have e2' : ¬ x = 2 := fun h => e1 (.inr (.inl h))
      have e3' : ¬ x = 3 := fun h => e1 (.inr (.inr h))
      clear e1
      go_wp2_with fail
      refine (O1.out 3).mono ?_
      rintro e w2 ⟨b, rfl, hs⟩
      have HS2 := Lib.hid (HS.out.trans hs)
      clear hs
      cases b with
      | true =>
        go_wp2_with fail
        refine (pick_c 128 g (m + 4) _ HS2.out.cur (by omega)).mono ?_
        rintro e w3 ⟨y, rfl, hy, hs⟩
        have HS3 := Lib.hid (HS2.out.trans hs)
        clear hs hy
        go_wp2
        go_ret
        exact ⟨_, rfl, trivial, HS3.out.mono (by omega)⟩
      | false =>
        go_wp2_with fail
        refine (pick_c 10 g (m + 4) _ HS2.out.cur (by omega)).mono ?_
        rintro e w3 ⟨y, rfl, hy, hs⟩
        have HS3 := Lib.hid (HS2.out.trans hs)
        have y0 := hy.1
        have y1 := hy.2 (by omega)
        clear hs hy
        go_wp2_with fail
        refine (l2Digit_c y y0 (by omega) _).mono ?_
        rintro e w4 ⟨rfl, hb⟩
        have HS4 := Lib.hid (HS3.out.below hb)
        clear hb
        go_wp2_with fail
        refine (one_c 5 g (m + 6) _ HS4.out.cur (by omega)).mono ?_
        rintro e w5 ⟨b, rfl, hs⟩
        have HS5 := Lib.hid (HS4.out.trans hs)
        clear hs
        cases b with
        | false =>
          go_wp2
          go_ret
          exact ⟨_, rfl, trivial, HS5.out.mono (by omega)⟩
        | true =>
          go_wp2_with fail
          refine (pick_c 7 g (m + 8) _ HS5.out.cur (by omega)).mono ?_
          rintro e w6 ⟨z, rfl, hz, hs⟩
          have HS6 := Lib.hid (HS5.out.trans hs)
          obtain ⟨k, rfl⟩ := Int.eq_ofNat_of_zero_le hz.1
          have z1 : k < 7 := by have := hz.2 (by omega); omega
          clear hs hz
          go_wp2
          go_ret
          exact ⟨_, rfl, trivial, HS6.out.mono (by omega)⟩

/-- What a draw of a slice of ints gives. -/
def DrawS (w : World) (g m n : Nat) (e : Ending) (w' : World) : Prop :=
  ∃ (v : Value) (xs : List Int), e = .returned v ∧ xs.length ≤ n ∧ w'.ownsRow w.heap.size 3 1 v xs.length (xs.map (Value.int .i64)) ∧ CStep w w' g m
theorem DrawS.mono {w : World} {g m m' n n' : Nat} {e : Ending} {w' : World} (h : DrawS w g m n e w') (hm : m ≤ m') (hn : n ≤ n') : DrawS w g m' n' e w' := by
  obtain ⟨v, xs, h1, h2, h3, h4⟩ := h
  exact ⟨v, xs, h1, by omega, h3, h4.mono hm⟩
/-- behind an append to a row of the call's own -/
theorem CStep.grown {a b c : World} {g m : Nat} {r : Option Nat} (h : CStep a b g m) (hg : b.grownBy c r) (hga : g < a.heap.size) (hr : ∀ k, r = some k → a.heap.size ≤ k) : CStep a c g m :=
  ⟨⟨hg.os.trans h.gr.os, hg.tape.trans h.gr.tape, hg.output.trans h.gr.output, Nat.le_trans h.gr.size hg.size, fun i hi hne => (hg.block i (Nat.lt_of_lt_of_le hi h.gr.size) (fun e => by
    have := hr i e.symm; omega)).trans (h.gr.block i hi hne)⟩, h.cur.grown hg (fun k hk => by have := hr k hk; omega)⟩
theorem row_start (w : World) (lo : Nat) (h : lo ≤ w.heap.size) : (w.alloc (.cells #[] 3)).ownsRow lo 3 1 (.slice (some ⟨w.heap.size, 0, none⟩) 0 0) ([] : List Int).length (([] : List Int).map (Value.int .i64)) :=
  World.ownsRow_lit (e := 3) (size := 1) (base := lo) w #[] 0 h (by decide) rfl
/-- What a draw of a Fault gives. -/
def DrawF (w : World) (g m : Nat) (e : Ending) (w' : World) : Prop := ∃ d l : Int, e = .returned (.agg #[.int .i64 d, .int .i64 l]) ∧ CStep w w' g m
theorem CStep.store {a b : World} {g m : Nat} (h : CStep a b g m) (hga : g < a.heap.size) {p : Addr} (hp : a.heap.size ≤ p.block) (v : Value) : CStep a (b.setCell p v) g m :=
  ⟨⟨h.gr.os, h.gr.tape, h.gr.output, by have := h.gr.size; simp [World.setCell]; exact this, fun k hk hne => (Below.heap_setCell _ _ _ _ (by omega)).trans (h.gr.block k hk hne)⟩, h.cur.blocks fun k hk => Below.heap_setCell _ _ _ _ (by omega)⟩
theorem Bk.step {a b : World} {g m k t : Nat} {cs : Array Value} (h : Bk a k t cs) (hs : CStep a b g m) (hk : k ≠ g) : Bk b k t cs := h.keep (hs.gr.block k h.lt (fun e => hk (by cases e; rfl)))
theorem two_res {W : World} {b t : Nat} {a c : Value} (h : Bk W b t #[a, c]) (X Y : Value) :
    ((W.setCell ⟨b, 0, none⟩ X).setCell ⟨b, 1, none⟩ Y).cell? ⟨b, 0, none⟩ = some X ∧ ((W.setCell ⟨b, 0, none⟩ X).setCell ⟨b, 1, none⟩ Y).cell? ⟨b, 1, none⟩ = some Y := by
  have h2 := (h.set 0 X).set 1 Y
  exact ⟨h2.cell 0, h2.cell 1⟩
end Go.Proofs.YtlipkplomndjcaaGreat
namespace Go.Proofs.YtlipkplomndjcaaGreat
open Go.RowKit
set_option linter.unusedVariables false
set_option linter.unusedSimpArgs false
set_option maxRecDepth 100000
def lenOf : Value → Nat
  | .slice _ n _ => n
  | _ => 0
set_option maxHeartbeats 2000000 in
theorem test7_c (g m : Nat) (w : World) (h : CurAt w g m) (hm : m + 300 < 4611686018427387904) :
    Calls Tryz.prog 43 #[.pointer (some ⟨g, 0, none⟩)] w (DrawS w g (m + 300) 11) := by
  have HC := Lib.hid h
  have hga := h.lt
  obtain ⟨i, hi, hz0, hz1, hz2⟩ := info_parts info_int
  have HO := Lib.hid (row_start w w.heap.size (Nat.le_refl _))
  clear h
  go_enter Tryz.func43, Tryz.ntmps43
  go_wp2_with fail
  refine (amongL_c [3, 2, 4, 1, 6, 0, 10, 5] g m _ _ (by simp) (HC.out.alloc (.cells #[] 3)) (by omega) (by decide) (by decide)).mono ?_
  rintro e w1 ⟨x, rfl, hx, hs⟩
  have HS := Lib.hid ((((CStep.refl HC.out).alloc (.cells #[] 3)).trans hs))
  have ho := hs.row HO.out hga
  obtain ⟨x0, x1⟩ : 0 ≤ x ∧ x ≤ 10 := by
    simp only [List.mem_cons, List.not_mem_nil, or_false] at hx; omega
  obtain ⟨k, rfl⟩ := Int.eq_ofNat_of_zero_le x0
  have hk : k ≤ 10 := by omega
  clear hs hx x0 x1 HO
  go_wp2
  go_loopw [3, 4] (fun o j wr => ∃ (k : Nat) (xs : List Int), k ≤ 10 ∧ j = .int .i64 (k : Int) ∧ xs.length + k ≤ 10 ∧ wr.ownsRow w.heap.size 3 1 o xs.length (xs.map (Value.int .i64)) ∧ CStep w wr g (m + 2 + 20 * (10 - k))) (fun _ j _ => (intOf j).toNat)
  case atStart => exact ⟨k, [], hk, rfl, by simpa using hk, ho, HS.out.mono (by omega)⟩
  case round =>
    obtain ⟨k, xs, hk, rfl, hl, ho, hs⟩ := hrel
    have HS := Lib.hid hs
    have HO := Lib.hid ho
    clear hs ho
    by_cases hk0 : 0 < k
    · have hd : decide (0 < (k : Int)) = true := by simp; omega
      go_wp2_with fail
      refine (pick_c 10 g _ _ HS.out.cur (by omega)).mono ?_
      rintro e w2 ⟨x1, rfl, _, hs⟩
      have HS2 := Lib.hid (HS.out.trans hs)
      have HO2 := Lib.hid (hs.row HO.out hga)
      clear hs HS HO
      go_wp2_with fail
      refine (pick_c 10 g _ _ HS2.out.cur (by omega)).mono ?_
      rintro e w3 ⟨x2, rfl, _, hs⟩
      have HS3 := Lib.hid (HS2.out.trans hs)
      have HO3 := Lib.hid (hs.row HO2.out hga)
      clear hs HS2 HO2
      go_wp2_with fail
      refine (pick_c 10 g _ _ HS3.out.cur (by omega)).mono ?_
      rintro e w4 ⟨x3, rfl, _, hs⟩
      have HS4 := Lib.hid (HS3.out.trans hs)
      have HO4 := Lib.hid (hs.row HO3.out hga)
      clear hs HS3 HO3
      go_wp2_with fail
      refine (amongL_c [x1, 8, 1, 2, x2, x3] g _ _ _ rfl HS4.out.cur (by omega) (by simp) (by simp)).mono ?_
      rintro e w5 ⟨x, rfl, _, hs⟩
      have HS5 := Lib.hid (HS4.out.trans hs)
      have HO5 := Lib.hid (hs.row HO4.out hga)
      clear hs HS4 HO4
      go_wp2_with (at_builtin; refine wpList_append_own_at _ rfl _ _ 24 rfl w.heap.size 3 i (.int .i64 0) 1 8 Tryz.underlying24 hi hz0 hz1 hz2 rfl (by decide) _ xs.length (xs.map (Value.int .i64)) rfl (HO5.out.alloc _) ⟨w5.heap.size, 0, none⟩ 1 1 [.int .i64 x] rfl rfl (news_new _ [.int .i64 x] _) (by simp [Value.oneCell']) (by unfold maxLen; omega) (by omega) (by have := HS5.out.gr.size; simp; omega) ?_)
      intro v' w6 ho5 hg5 _ _
      have HS6 := Lib.hid ((HS5.out.alloc _).grown hg5 hga (fun k hk => ((HO5.out.alloc (.cells #[.int .i64 x] 3)).lt k hk).1))
      have HO6 := Lib.hid ho5
      clear ho5 hg5
      go_wp2
      go_roundw
      case rel => exact ⟨k - 1, xs ++ [x], by omega, by go_num, by simp; omega, ownsRow_cast HO6.out (by simp) (ints_snoc _ _).symm, HS6.out.mono (by omega)⟩
      case measure => simp [intOf]; omega
    · obtain rfl : k = 0 := by omega
      clear hk0
      go_wp2_with fail
      refine (pick_c 40 g _ _ HS.out.cur (by omega)).mono ?_
      rintro e w2 ⟨x, rfl, _, hs⟩
      have HS2 := Lib.hid (HS.out.trans hs)
      have HO2 := Lib.hid (hs.row HO.out hga)
      clear hs HS HO
      by_cases e0 : x = 0
      · subst e0
        go_wp2_with fail
        refine (amongL_c [10, -1, 4611686018427387904] g _ _ _ rfl HS2.out.cur (by omega) (by decide) (by decide)).mono ?_
        rintro e w3 ⟨y, rfl, _, hs⟩
        have HS3 := Lib.hid (HS2.out.trans hs)
        have HO3 := Lib.hid (hs.row HO2.out hga)
        clear hs HS2 HO2
        go_wp2_with (at_builtin; refine wpList_append_own_at _ rfl _ _ 24 rfl w.heap.size 3 i (.int .i64 0) 1 8 Tryz.underlying24 hi hz0 hz1 hz2 rfl (by decide) _ xs.length (xs.map (Value.int .i64)) rfl (HO3.out.alloc _) ⟨w3.heap.size, 0, none⟩ 1 1 [.int .i64 y] rfl rfl (news_new _ [.int .i64 y] _) (by simp [Value.oneCell']) (by unfold maxLen; omega) (by omega) (by have := HS3.out.gr.size; simp; omega) ?_)
        intro v' w6 ho5 hg5 _ _
        have HS6 := Lib.hid ((HS3.out.alloc _).grown hg5 hga (fun k hk => ((HO3.out.alloc (.cells #[.int .i64 y] 3)).lt k hk).1))
        have HO6 := Lib.hid ho5
        clear ho5 hg5
        go_wp2
        go_ret
        exact ⟨_, xs ++ [y], rfl, by simp; omega, ownsRow_cast HO6.out (by simp) (ints_snoc _ _).symm, HS6.out.mono (by omega)⟩
      · by_cases e1 : x = 1
        · subst e1
          go_wp2
          go_loopw [3] (fun o wr => ∃ (xs : List Int), xs.length ≤ 11 ∧ wr.ownsRow w.heap.size 3 1 o xs.length (xs.map (Value.int .i64)) ∧ CStep w wr g (m + 2 + 20 * (10 - 0) + 2)) (fun o _ => 11 - lenOf o)
          case atStart => exact ⟨xs, by omega, HO2.out, HS2.out⟩
          case round =>
            obtain ⟨xs, hl, ho, hs⟩ := hrel
            obtain ⟨aa, cc, hvv, _, _, _⟩ := (Ints.of_own ho).parts
            subst hvv
            have HS3 := Lib.hid hs
            have HO3 := Lib.hid ho
            clear hs ho HS2 HO2
            by_cases hlt : xs.length < 11
            · have hd : decide ((xs.length : Int) < 11) = true := by simp; omega
              go_wp2_with (at_builtin; refine wpList_append_own_at _ rfl _ _ 24 rfl w.heap.size 3 i (.int .i64 0) 1 8 Tryz.underlying24 hi hz0 hz1 hz2 rfl (by decide) _ xs.length (xs.map (Value.int .i64)) rfl (HO3.out.alloc _) ⟨wr.heap.size, 0, none⟩ 1 1 [.int .i64 8] rfl rfl (news_new _ [.int .i64 8] _) (by simp [Value.oneCell']) (by unfold maxLen; omega) (by omega) (by have := HS3.out.gr.size; simp; omega) ?_)
              intro v' w6 ho5 hg5 _ _
              have HS6 := Lib.hid ((HS3.out.alloc _).grown hg5 hga (fun k hk => ((HO3.out.alloc (.cells #[.int .i64 8] 3)).lt k hk).1))
              obtain ⟨b, cap, rfl, _⟩ := own_form ho5 (by omega)
              have HO6 := Lib.hid ho5
              clear ho5 hg5
              go_wp2
              go_roundw
              case rel => exact ⟨xs ++ [8], by simp; omega, ownsRow_cast HO6.out (by simp) (ints_snoc _ _).symm, HS6.out⟩
              case measure => simp [lenOf]; omega
            · have hd : decide ((xs.length : Int) < 11) = false := by simp; omega
              go_wp2
              go_ret
              exact ⟨_, xs, rfl, hl, HO3.out, HS3.out.mono (by omega)⟩
        · go_wp2
          go_ret
          exact ⟨_, xs, rfl, by omega, HO2.out, HS2.out.mono (by omega)⟩
theorem DrawFoundStates_c (v : Value) (xs : List Nat) (w : World) (h : Code w v xs) :
    Calls Tryz.prog 6 #[v] w fun e w' => ∃ (u : Value) (ys : List Int), e = .returned u ∧ ys.length ≤ 11 ∧ w'.ownsRow w.heap.size 3 1 u ys.length (ys.map (Value.int .i64)) ∧ Below w.heap.size w w' := by
  have HK := Lib.hid (cur_new h)
  obtain ⟨a, c, rfl, _⟩ := h
  go_enter Tryz.func6, Tryz.ntmps6
  go_wp2_with fail
  refine (test7_c w.heap.size 0 _ HK.out (by omega)).mono ?_
  rintro e w1 ⟨u, ys, rfl, hl, ho, hs⟩
  have HS := Lib.hid hs
  have HO := Lib.hid (own_lo ho (lo' := w.heap.size) (by simp))
  clear hs ho
  go_wp2
  go_ret
  exact ⟨_, ys, rfl, hl, HO.out, draw_below HS.out⟩
theorem ints_take {w : World} {a : Option Addr} {c : Nat} {xs : List Int} (h : Ints w (.slice a xs.length c) xs) (n : Nat) (hn : n ≤ xs.length) : Ints w (.slice a n c) (xs.take n) := by
  obtain ⟨a', c', e, h1, h2, h3, h4⟩ := h
  cases e
  have hl : (xs.take n).length = n := by rw [List.length_take]; omega
  refine ⟨a, c, by rw [hl], by rw [hl]; omega, h2, by rw [List.length_map, Nat.mul_one], fun hn0 => ?_⟩
  rw [hl] at hn0 ⊢
  obtain ⟨b, off, e, hc⟩ := h4 (by omega)
  refine ⟨b, off, e, fun j hj => ?_⟩
  rw [hc j (by omega), List.map_take, List.getElem?_take, if_pos (by omega)]
/-- one of the first numbers of those that are written where they are asked for, a few more now and then -/
theorem amongT_c (xs : List Int) (n : Nat) (b g m : Nat) (w : World) (h : CurAt w g m) (hm : m + 2 < 4611686018427387904) (hv : Ints w (.slice (some ⟨b, 0, none⟩) xs.length xs.length) xs) (hne : b ≠ g) (hn0 : 0 < n) (hn : n ≤ xs.length) :
    Calls Tryz.prog 92 #[.pointer (some ⟨g, 0, none⟩), .slice (some ⟨b, 0, none⟩) n xs.length] w (DrawI w g (m + 2) fun x => x ∈ xs) :=
  (among_c _ (xs.take n) g m _ h hm (ints_take hv n hn) (by simpa [Value.ownBlock] using hne) (by rw [List.length_take]; omega)).mono fun e w' ⟨x, he, hx, hs⟩ => ⟨x, he, List.mem_of_mem_take hx, hs⟩
theorem div11 {x : Int} (h0 : 0 ≤ x) (h1 : x < 24) : Int.tdiv x 11 = 0 ∨ Int.tdiv x 11 = 1 ∨ Int.tdiv x 11 = 2 := by
  rw [Int.tdiv_eq_ediv_of_nonneg h0]; omega
end Go.Proofs.YtlipkplomndjcaaGreat
