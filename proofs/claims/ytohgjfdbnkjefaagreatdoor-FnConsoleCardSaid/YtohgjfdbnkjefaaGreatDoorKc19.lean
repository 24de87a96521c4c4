import Derived.Test.YtohgjfdbnkjefaaGreatDoorKc18
open Go.Lib (hid)
namespace Go.Proofs.YtohgjfdbnkjefaaGreatDoor
open Go.RowKit
set_option linter.unusedVariables false
set_option linter.unusedSimpArgs false
set_option maxRecDepth 100000
def AnsOut (o : Option Bs) (w : World) (e : Ending) (w' : World) : Prop := ∃ t, e = .returned (.tuple #[.string t, .bool o.isSome]) ∧ (∀ s, o = some s → t = bs s) ∧ Below w.heap.size w w'
theorem AnsOut.yes {o : Option Bs} {s : Bs} {w w' : World} (h : o = some s) (hb : Below w.heap.size w w') : AnsOut o w (.returned (.tuple #[.string (bs s), .bool true])) w' :=
 ⟨bs s, by rw [h]; rfl, fun (s' : Bs) (h' : o = some s') => (by rw [h] at h'; rw [Option.some.inj h']), hb⟩
theorem AnsOut.no {o : Option Bs} {t : ByteArray} {w w' : World} (h : o = none) (hb : Below w.heap.size w w') : AnsOut o w (.returned (.tuple #[.string t, .bool false])) w' :=
 ⟨t, by rw [h]; rfl, fun (s' : Bs) (h' : o = some s') => (by rw [h] at h'; cases h'), hb⟩
theorem showR_row {b : List Int} (hg : goodB b = true) : rowB (showR b) = true := by
 unfold rowB showR
 rw [decide_eq_true (by simp [shTo]), Bool.true_and, List.all_eq_true]
 intro x hx
 unfold shTo at hx
 rw [List.mem_map] at hx
 obtain ⟨k, hk, rfl⟩ := hx
 obtain ⟨⟨d0, d1, l0, l1⟩, c0, c1⟩ := goodB_at hg (List.mem_range.1 hk)
 have := shC_bd (d := (bF b k).1) c0 c1 l0 l1
 exact cellB_mk this.1 this.2
theorem showR_bd {b : List Int} (hg : goodB b = true) : ∀ x ∈ showR b, 0 ≤ x ∧ x ≤ 127 := fun x hx => by
 obtain ⟨k, hk⟩ := List.mem_iff_getElem?.1 hx
 exact rowB_cell (showR_row hg) hk
theorem lit_le {b : List Int} (hg : goodB b = true) : litL (showR b) ≤ 999999 := by
 have h := litL_bd (showR_bd hg) 6 (by rw [show (showR b).length = 6 from shTo_len b 6]; omega)
 rw [List.take_of_length_le (by rw [show (showR b).length = 6 from shTo_len b 6]; omega)] at h
 omega
theorem cells_bd {b : List Int} (hb : b.length = 19) (hg : goodB b = true) : ∀ x ∈ b.take 6, 0 ≤ x ∧ x ≤ 127 := fun x hx => by
 obtain ⟨k, hk⟩ := List.mem_iff_getElem?.1 hx
 have hk6 : k < 6 := by have := (List.getElem?_eq_some_iff.1 hk).1; rw [List.length_take] at this; omega
 have h := (goodB_at hg hk6).2
 rw [List.getElem?_take, if_pos hk6] at hk
 have : bg b k = x := by unfold bg; rw [List.getD_eq_getElem?_getD, hk]; rfl
 rw [← this]; exact h
theorem headDig_bd (f : Int × Int) (c : Int) : 0 ≤ headDig f c ∧ headDig f c ≤ 9 := by
 unfold headDig
 cases h : digL f.1 f.2 c with
 | nil => exact ⟨by decide, by decide⟩
 | cons y t =>
  have hy : y ∈ digL f.1 f.2 c := by rw [h]; simp
  unfold digL at hy
  have := (List.mem_filter.1 hy).1
  simp only [tenI, List.mem_cons, List.not_mem_nil, or_false] at this
  show 0 ≤ y ∧ y ≤ 9
  omega
theorem fnL_bd (fs : List (Int × Int)) (r : List Int) : ∀ x ∈ fnL fs r, 0 ≤ x ∧ x ≤ 999999 := fun x hx => by
 unfold fnL at hx
 split at hx
 · unfold firstTo at hx
   obtain ⟨q, _, rfl⟩ := List.mem_map.1 hx
   have := headDig_bd q.1 q.2
   omega
 · cases hx
theorem digL_bd (d l c : Int) : ∀ x ∈ digL d l c, 0 ≤ x ∧ x ≤ 999999 := fun x hx => by
 unfold digL at hx
 have := (List.mem_filter.1 hx).1
 simp only [tenI, List.mem_cons, List.not_mem_nil, or_false] at this
 omega
theorem ltA_le : ltA.length ≤ 999999 := Nat.le_trans (List.length_filter_le _ _) (by decide +kernel)
theorem numO_le {r : List Int} {n : Nat} (h : numO r = some n) (hl : r.length ≤ 6) : n ≤ 999999 := by
 unfold numO at h
 split at h
 · cases h
 · have h1 := numTo_lt _ _ h
   have h2 : 10 ^ r.length ≤ 10 ^ 6 := Nat.pow_le_pow_right (by decide) hl
   omega
theorem ints_range {w : World} {g : Nat} {b : List Int} (h : w.rangeAt g 0 (ints b)) (hb : b.length = 19) : Ints w (.slice (some ⟨g, 0, none⟩) 6 6) (b.take 6) := by
 have hl : (b.take 6).length = 6 := by rw [List.length_take]; omega
 refine ⟨some ⟨g, 0, none⟩, 6, by rw [hl], by omega, by unfold maxLen; omega, by simp, fun _ => ⟨g, 0, rfl, fun j hj => ?_⟩⟩
 have hj6 : j < 6 := by omega
 have hjb : j < b.length := by omega
 rw [h j (.int .i64 b[j]) (by simp [ints, hjb])]
 rw [List.map_take, List.getElem?_take, if_pos hj6]
 simp [hjb]
set_option maxHeartbeats 2000000 in
theorem plain_c (b : List Int) (s : ByteArray) (w : World) (hb : b.length = 19) (hg : goodB b = true) (ht : TabC w) :
 Calls Tryz.prog 147 #[aggI b, .string s] w (AnsOut (tellM b s.data.toList) w) := by
 have r0 := range_new w (ints b) 26
 have hb0 := below_one (w := w) (.cells (ints b).toArray 26)
 have HT := hid ht
 unfold aggI
 clear ht
 by_cases e0 : s.data.toList = wRow
 · as_aux_lemma =>
    have f0 : (s.toList == [114, 111, 119]) = true := by rw [Lib.toList_data, e0]; rfl
    have HM := hid (show tellM b s.data.toList = some (rowTx (showR b)) by unfold tellM; rw [if_pos e0])
    clear e0
    go_enter Tryz.func147, Tryz.ntmps147
    go_wp2_with (refine wpList_loadB rfl _ rfl _ rfl b r0 hb ?_)
    refine (shown_b_c b _ hb hg).mono ?_
    rintro e w1 ⟨u, rfl, ho, hb1⟩
    have HR := hid (show Ints w1 u (showR b) from Ints.of_own ho)
    have HB := hid (Below.chain hb0 hb1)
    have r1 := range_below r0 hb1
    obtain ⟨ua, uc, rfl, _⟩ := (Sl.of_own ho).slice
    have HSL : Hid ((shTo b 6).length = 6) := shTo_len b 6
    rw [HSL.out] at HR ⊢
    have hrl : (showR b).length ≤ 1000 := by rw [show (showR b).length = 6 from shTo_len b 6]; decide
    clear ho hb1
    go_wp2_with fail
    with_reducible refine (rowText_c _ (showR b) _ HR.out hrl (showR_bd hg)).mono ?_
    rintro e w2 ⟨rfl, hb2⟩
    have HB2 := hid (Below.chain HB.out hb2)
    clear hb2
    go_wp2
    exact bodyPost_ret (v := .tuple #[.string (bs (rowTx (showR b))), .bool true]) (by simp [results, Tryz.results147, go_sem]) rfl (AnsOut.yes HM.out HB2.out)
 · skip
   by_cases e1 : s.data.toList = wSent
   · as_aux_lemma =>
      have f0 : (s.toList == [114, 111, 119]) = false := by rw [Lib.toList_data]; exact beq_false_of_ne e0
      have f1 : (s.toList == [115, 101, 110, 116]) = true := by rw [Lib.toList_data, e1]; rfl
      have HM := hid (show tellM b s.data.toList = some (rowTx (b.take 6)) by unfold tellM; rw [if_neg e0]; rw [if_pos e1])
      clear e0 e1
      go_enter Tryz.func147, Tryz.ntmps147
      go_wp2_with (refine wpList_loadB rfl _ rfl _ rfl b r0 hb ?_)
      refine (shown_b_c b _ hb hg).mono ?_
      rintro e w1 ⟨u, rfl, ho, hb1⟩
      have HR := hid (show Ints w1 u (showR b) from Ints.of_own ho)
      have HB := hid (Below.chain hb0 hb1)
      have r1 := range_below r0 hb1
      obtain ⟨ua, uc, rfl, _⟩ := (Sl.of_own ho).slice
      have HSL : Hid ((shTo b 6).length = 6) := shTo_len b 6
      rw [HSL.out] at HR ⊢
      have hrl : (showR b).length ≤ 1000 := by rw [show (showR b).length = 6 from shTo_len b 6]; decide
      clear ho hb1
      go_wp2_with fail
      with_reducible refine (rowText_c _ (b.take 6) _ (ints_range r1 hb) (by rw [List.length_take]; omega) (cells_bd hb hg)).mono ?_
      rintro e w2 ⟨rfl, hb2⟩
      have HB2 := hid (Below.chain HB.out hb2)
      clear hb2
      go_wp2
      exact bodyPost_ret (v := .tuple #[.string (bs (rowTx (b.take 6))), .bool true]) (by simp [results, Tryz.results147, go_sem]) rfl (AnsOut.yes HM.out HB2.out)
   · skip
     by_cases e2 : s.data.toList = wNumber
     · as_aux_lemma =>
        have f0 : (s.toList == [114, 111, 119]) = false := by rw [Lib.toList_data]; exact beq_false_of_ne e0
        have f1 : (s.toList == [115, 101, 110, 116]) = false := by rw [Lib.toList_data]; exact beq_false_of_ne e1
        have f2 : (s.toList == [110, 117, 109, 98, 101, 114]) = true := by rw [Lib.toList_data, e2]; rfl
        have HM := hid (show tellM b s.data.toList = (numO (showR b)).map Lib.decDigits by unfold tellM; rw [if_neg e0]; rw [if_neg e1]; rw [if_pos e2])
        clear e0 e1 e2
        cases hn : numO (showR b) with
        | none =>
         have HN := hid (numV_no hn)
         have HM2 := hid (show tellM b s.data.toList = none by rw [HM.out, hn]; rfl)
         clear hn
         go_enter Tryz.func147, Tryz.ntmps147
         go_wp2_with (refine wpList_loadB rfl _ rfl _ rfl b r0 hb ?_)
         refine (shown_b_c b _ hb hg).mono ?_
         rintro e w1 ⟨u, rfl, ho, hb1⟩
         have HR := hid (show Ints w1 u (showR b) from Ints.of_own ho)
         have HB := hid (Below.chain hb0 hb1)
         have r1 := range_below r0 hb1
         obtain ⟨ua, uc, rfl, _⟩ := (Sl.of_own ho).slice
         have HSL : Hid ((shTo b 6).length = 6) := shTo_len b 6
         rw [HSL.out] at HR ⊢
         have hrl : (showR b).length ≤ 1000 := by rw [show (showR b).length = 6 from shTo_len b 6]; decide
         clear ho hb1
         go_wp2_with fail
         refine (NumberOf_c _ (showR b) _ HR.out (showR_row hg)).mono ?_
         rintro e w2 ⟨rfl, hb2⟩
         rw [HN.out]
         have HB2 := hid (Below.chain HB.out hb2)
         clear hb2
         go_wp2_with fail
         with_reducible refine (ItoaI_c 0 (by decide) (by decide) _ (HT.out.on HB2.out).pow).mono ?_
         rintro e w3 ⟨rfl, hb3⟩
         have HB3 := hid (Below.chain HB2.out hb3)
         clear hb3
         go_wp2
         exact bodyPost_ret (v := .tuple #[.string (bs (Lib.itoa 0)), .bool false]) (by simp [results, Tryz.results147, go_sem]) rfl (AnsOut.no HM2.out HB3.out)
        | some n =>
         have HN := hid (numV_yes hn)
         have hn6 := numO_le hn (by rw [show (showR b).length = 6 from shTo_len b 6]; omega)
         have HM2 := hid (show tellM b s.data.toList = some (Lib.decDigits n) by rw [HM.out, hn]; rfl)
         clear hn
         go_enter Tryz.func147, Tryz.ntmps147
         go_wp2_with (refine wpList_loadB rfl _ rfl _ rfl b r0 hb ?_)
         refine (shown_b_c b _ hb hg).mono ?_
         rintro e w1 ⟨u, rfl, ho, hb1⟩
         have HR := hid (show Ints w1 u (showR b) from Ints.of_own ho)
         have HB := hid (Below.chain hb0 hb1)
         have r1 := range_below r0 hb1
         obtain ⟨ua, uc, rfl, _⟩ := (Sl.of_own ho).slice
         have HSL : Hid ((shTo b 6).length = 6) := shTo_len b 6
         rw [HSL.out] at HR ⊢
         have hrl : (showR b).length ≤ 1000 := by rw [show (showR b).length = 6 from shTo_len b 6]; decide
         clear ho hb1
         go_wp2_with fail
         refine (NumberOf_c _ (showR b) _ HR.out (showR_row hg)).mono ?_
         rintro e w2 ⟨rfl, hb2⟩
         rw [HN.out]
         have HB2 := hid (Below.chain HB.out hb2)
         clear hb2
         go_wp2_with fail
         with_reducible refine (ItoaN_c n hn6 _ (HT.out.on HB2.out).pow).mono ?_
         rintro e w3 ⟨rfl, hb3⟩
         have HB3 := hid (Below.chain HB2.out hb3)
         clear hb3
         go_wp2
         exact bodyPost_ret (v := .tuple #[.string (bs (Lib.decDigits n)), .bool true]) (by simp [results, Tryz.results147, go_sem]) rfl (AnsOut.yes HM2.out HB3.out)
     · skip
       by_cases e3 : s.data.toList = wBars
       · as_aux_lemma =>
          have f0 : (s.toList == [114, 111, 119]) = false := by rw [Lib.toList_data]; exact beq_false_of_ne e0
          have f1 : (s.toList == [115, 101, 110, 116]) = false := by rw [Lib.toList_data]; exact beq_false_of_ne e1
          have f2 : (s.toList == [110, 117, 109, 98, 101, 114]) = false := by rw [Lib.toList_data]; exact beq_false_of_ne e2
          have f3 : (s.toList == [98, 97, 114, 115]) = true := by rw [Lib.toList_data, e3]; rfl
          have HM := hid (show tellM b s.data.toList = some (Lib.decDigits (litL (showR b))) by unfold tellM; rw [if_neg e0]; rw [if_neg e1]; rw [if_neg e2]; rw [if_pos e3])
          clear e0 e1 e2 e3
          go_enter Tryz.func147, Tryz.ntmps147
          go_wp2_with (refine wpList_loadB rfl _ rfl _ rfl b r0 hb ?_)
          refine (shown_b_c b _ hb hg).mono ?_
          rintro e w1 ⟨u, rfl, ho, hb1⟩
          have HR := hid (show Ints w1 u (showR b) from Ints.of_own ho)
          have HB := hid (Below.chain hb0 hb1)
          have r1 := range_below r0 hb1
          obtain ⟨ua, uc, rfl, _⟩ := (Sl.of_own ho).slice
          have HSL : Hid ((shTo b 6).length = 6) := shTo_len b 6
          rw [HSL.out] at HR ⊢
          have hrl : (showR b).length ≤ 1000 := by rw [show (showR b).length = 6 from shTo_len b 6]; decide
          clear ho hb1
          go_wp2_with fail
          with_reducible refine (LitOf_c _ (showR b) _ HR.out (showR_row hg)).mono ?_
          rintro e w2 ⟨rfl, hb2⟩
          have HB2 := hid (Below.chain HB.out hb2)
          clear hb2
          go_wp2_with fail
          with_reducible refine (ItoaN_c (litL (showR b)) (lit_le hg) _ (HT.out.on HB2.out).pow).mono ?_
          rintro e w3 ⟨rfl, hb3⟩
          have HB3 := hid (Below.chain HB2.out hb3)
          clear hb3
          go_wp2
          exact bodyPost_ret (v := .tuple #[.string (bs (Lib.decDigits (litL (showR b)))), .bool true]) (by simp [results, Tryz.results147, go_sem]) rfl (AnsOut.yes HM.out HB3.out)
       · skip
         by_cases e4 : s.data.toList = wFirst
         · as_aux_lemma =>
            have f0 : (s.toList == [114, 111, 119]) = false := by rw [Lib.toList_data]; exact beq_false_of_ne e0
            have f1 : (s.toList == [115, 101, 110, 116]) = false := by rw [Lib.toList_data]; exact beq_false_of_ne e1
            have f2 : (s.toList == [110, 117, 109, 98, 101, 114]) = false := by rw [Lib.toList_data]; exact beq_false_of_ne e2
            have f3 : (s.toList == [98, 97, 114, 115]) = false := by rw [Lib.toList_data]; exact beq_false_of_ne e3
            have f4 : (s.toList == [102, 105, 114, 115, 116]) = true := by rw [Lib.toList_data, e4]; rfl
            have HM := hid (show tellM b s.data.toList = (if fnOk (fsB b) (showR b) then some (listT (fnL (fsB b) (showR b))) else none) by unfold tellM; rw [if_neg e0]; rw [if_neg e1]; rw [if_neg e2]; rw [if_neg e3]; rw [if_pos e4])
            clear e0 e1 e2 e3 e4
            cases hok : fnOk (fsB b) (showR b) with
            | false =>
             have HM2 := hid (show tellM b s.data.toList = none by rw [HM.out, hok]; rfl)
             have HOK := hid hok
             clear hok
             go_enter Tryz.func147, Tryz.ntmps147
             go_wp2_with (refine wpList_loadB rfl _ rfl _ rfl b r0 hb ?_)
             refine (shown_b_c b _ hb hg).mono ?_
             rintro e w1 ⟨u, rfl, ho, hb1⟩
             have HR := hid (show Ints w1 u (showR b) from Ints.of_own ho)
             have HB := hid (Below.chain hb0 hb1)
             have r1 := range_below r0 hb1
             obtain ⟨ua, uc, rfl, _⟩ := (Sl.of_own ho).slice
             have HSL : Hid ((shTo b 6).length = 6) := shTo_len b 6
             rw [HSL.out] at HR ⊢
             have hrl : (showR b).length ≤ 1000 := by rw [show (showR b).length = 6 from shTo_len b 6]; decide
             clear ho hb1
             go_wp2_with (refine wpList_loadB rfl _ rfl _ rfl b r1 hb ?_)
             refine (faults_c b _ hb).mono ?_
             rintro e w2 ⟨fv, rfl, hfo, hb2⟩
             have HB2 := hid (Below.chain HB.out hb2)
             have HR2 := hid (HR.out.below hb2)
             have HFP := hid (Pairs.of_own (ps := fsB b) hfo)
             obtain ⟨fa, fc, rfl, _⟩ := (Sl.of_own hfo).slice
             clear hb2 hfo
             go_wp2_with fail
             refine (FirstNumber_c _ _ (fsB b) (showR b) _ HFP.out HR2.out).mono ?_
             rintro e w3 ⟨lu, rfl, hlo, hb3⟩
             rw [HOK.out]
             have HB3 := hid (Below.chain HB2.out hb3)
             have HL3 := hid (show Ints w3 lu (fnL (fsB b) (showR b)) from Ints.of_own hlo)
             obtain ⟨la, lc, rfl, _⟩ := (Sl.of_own hlo).slice
             clear hb3 hlo
             go_wp2_with fail
             refine (listText_c _ (fnL (fsB b) (showR b)) _ HL3.out (by have := fnL_le (fsB b) (showR b); omega) (fnL_bd _ _) (HT.out.on HB3.out).pow).mono ?_
             rintro e w4 ⟨rfl, hb4⟩
             have HB4 := hid (Below.chain HB3.out hb4)
             clear hb4
             go_wp2
             exact bodyPost_ret (v := .tuple #[.string (bs (listT (fnL (fsB b) (showR b)))), .bool false]) (by simp [results, Tryz.results147, go_sem]) rfl (AnsOut.no HM2.out HB4.out)
            | true =>
             have HM2 := hid (show tellM b s.data.toList = some (listT (fnL (fsB b) (showR b))) by rw [HM.out, hok]; rfl)
             have HOK := hid hok
             clear hok
             go_enter Tryz.func147, Tryz.ntmps147
             go_wp2_with (refine wpList_loadB rfl _ rfl _ rfl b r0 hb ?_)
             refine (shown_b_c b _ hb hg).mono ?_
             rintro e w1 ⟨u, rfl, ho, hb1⟩
             have HR := hid (show Ints w1 u (showR b) from Ints.of_own ho)
             have HB := hid (Below.chain hb0 hb1)
             have r1 := range_below r0 hb1
             obtain ⟨ua, uc, rfl, _⟩ := (Sl.of_own ho).slice
             have HSL : Hid ((shTo b 6).length = 6) := shTo_len b 6
             rw [HSL.out] at HR ⊢
             have hrl : (showR b).length ≤ 1000 := by rw [show (showR b).length = 6 from shTo_len b 6]; decide
             clear ho hb1
             go_wp2_with (refine wpList_loadB rfl _ rfl _ rfl b r1 hb ?_)
             refine (faults_c b _ hb).mono ?_
             rintro e w2 ⟨fv, rfl, hfo, hb2⟩
             have HB2 := hid (Below.chain HB.out hb2)
             have HR2 := hid (HR.out.below hb2)
             have HFP := hid (Pairs.of_own (ps := fsB b) hfo)
             obtain ⟨fa, fc, rfl, _⟩ := (Sl.of_own hfo).slice
             clear hb2 hfo
             go_wp2_with fail
             refine (FirstNumber_c _ _ (fsB b) (showR b) _ HFP.out HR2.out).mono ?_
             rintro e w3 ⟨lu, rfl, hlo, hb3⟩
             rw [HOK.out]
             have HB3 := hid (Below.chain HB2.out hb3)
             have HL3 := hid (show Ints w3 lu (fnL (fsB b) (showR b)) from Ints.of_own hlo)
             obtain ⟨la, lc, rfl, _⟩ := (Sl.of_own hlo).slice
             clear hb3 hlo
             go_wp2_with fail
             refine (listText_c _ (fnL (fsB b) (showR b)) _ HL3.out (by have := fnL_le (fsB b) (showR b); omega) (fnL_bd _ _) (HT.out.on HB3.out).pow).mono ?_
             rintro e w4 ⟨rfl, hb4⟩
             have HB4 := hid (Below.chain HB3.out hb4)
             clear hb4
             go_wp2
             exact bodyPost_ret (v := .tuple #[.string (bs (listT (fnL (fsB b) (showR b)))), .bool true]) (by simp [results, Tryz.results147, go_sem]) rfl (AnsOut.yes HM2.out HB4.out)
         · skip
           by_cases e5 : s.data.toList = wLeast
           · as_aux_lemma =>
              have f0 : (s.toList == [114, 111, 119]) = false := by rw [Lib.toList_data]; exact beq_false_of_ne e0
              have f1 : (s.toList == [115, 101, 110, 116]) = false := by rw [Lib.toList_data]; exact beq_false_of_ne e1
              have f2 : (s.toList == [110, 117, 109, 98, 101, 114]) = false := by rw [Lib.toList_data]; exact beq_false_of_ne e2
              have f3 : (s.toList == [98, 97, 114, 115]) = false := by rw [Lib.toList_data]; exact beq_false_of_ne e3
              have f4 : (s.toList == [102, 105, 114, 115, 116]) = false := by rw [Lib.toList_data]; exact beq_false_of_ne e4
              have f5 : (s.toList == [108, 101, 97, 115, 116]) = true := by rw [Lib.toList_data, e5]; rfl
              have HM := hid (show tellM b s.data.toList = some (Lib.decDigits ltA.length) by unfold tellM; rw [if_neg e0]; rw [if_neg e1]; rw [if_neg e2]; rw [if_neg e3]; rw [if_neg e4]; rw [if_pos e5])
              clear e0 e1 e2 e3 e4 e5
              go_enter Tryz.func147, Tryz.ntmps147
              go_wp2_with (refine wpList_loadB rfl _ rfl _ rfl b r0 hb ?_)
              refine (shown_b_c b _ hb hg).mono ?_
              rintro e w1 ⟨u, rfl, ho, hb1⟩
              have HR := hid (show Ints w1 u (showR b) from Ints.of_own ho)
              have HB := hid (Below.chain hb0 hb1)
              have r1 := range_below r0 hb1
              obtain ⟨ua, uc, rfl, _⟩ := (Sl.of_own ho).slice
              have HSL : Hid ((shTo b 6).length = 6) := shTo_len b 6
              rw [HSL.out] at HR ⊢
              have hrl : (showR b).length ≤ 1000 := by rw [show (showR b).length = 6 from shTo_len b 6]; decide
              clear ho hb1
              go_wp2_with fail
              with_reducible refine (LeastTests_c _).mono ?_
              rintro e w2 ⟨lv, rfl, hls, hb2⟩
              have HB2 := hid (Below.chain HB.out hb2)
              obtain ⟨vs, hvs, _⟩ := hls
              obtain ⟨la, lc, rfl, _⟩ := (Sl.of_own hvs).slice
              clear hb2 hvs
              go_wp2_with fail
              with_reducible refine (ItoaN_c ltA.length ltA_le _ (HT.out.on HB2.out).pow).mono ?_
              rintro e w3 ⟨rfl, hb3⟩
              have HB3 := hid (Below.chain HB2.out hb3)
              clear hb3
              go_wp2
              exact bodyPost_ret (v := .tuple #[.string (bs (Lib.decDigits ltA.length)), .bool true]) (by simp [results, Tryz.results147, go_sem]) rfl (AnsOut.yes HM.out HB3.out)
           · as_aux_lemma =>
              have f0 : (s.toList == [114, 111, 119]) = false := by rw [Lib.toList_data]; exact beq_false_of_ne e0
              have f1 : (s.toList == [115, 101, 110, 116]) = false := by rw [Lib.toList_data]; exact beq_false_of_ne e1
              have f2 : (s.toList == [110, 117, 109, 98, 101, 114]) = false := by rw [Lib.toList_data]; exact beq_false_of_ne e2
              have f3 : (s.toList == [98, 97, 114, 115]) = false := by rw [Lib.toList_data]; exact beq_false_of_ne e3
              have f4 : (s.toList == [102, 105, 114, 115, 116]) = false := by rw [Lib.toList_data]; exact beq_false_of_ne e4
              have f5 : (s.toList == [108, 101, 97, 115, 116]) = false := by rw [Lib.toList_data]; exact beq_false_of_ne e5
              have HM := hid (show tellM b s.data.toList = none by unfold tellM; rw [if_neg e0]; rw [if_neg e1]; rw [if_neg e2]; rw [if_neg e3]; rw [if_neg e4]; rw [if_neg e5])
              clear e0 e1 e2 e3 e4 e5
              go_enter Tryz.func147, Tryz.ntmps147
              go_wp2_with (refine wpList_loadB rfl _ rfl _ rfl b r0 hb ?_)
              refine (shown_b_c b _ hb hg).mono ?_
              rintro e w1 ⟨u, rfl, ho, hb1⟩
              have HR := hid (show Ints w1 u (showR b) from Ints.of_own ho)
              have HB := hid (Below.chain hb0 hb1)
              have r1 := range_below r0 hb1
              obtain ⟨ua, uc, rfl, _⟩ := (Sl.of_own ho).slice
              have HSL : Hid ((shTo b 6).length = 6) := shTo_len b 6
              rw [HSL.out] at HR ⊢
              have hrl : (showR b).length ≤ 1000 := by rw [show (showR b).length = 6 from shTo_len b 6]; decide
              clear ho hb1
              go_wp2
              exact bodyPost_ret (v := .tuple #[.string ⟨#[]⟩, .bool false]) (by simp [results, Tryz.results147, go_sem]) rfl (AnsOut.no HM.out HB.out)
theorem xor_c {c : Int} (c0 : 0 ≤ c) (c1 : c ≤ 127) {k : Nat} : ∃ z : Int, bits .xor .i64 (dg (k : Int)) c = z ∧ bits .xor .i64 (dg (k : Int)) c = z ∧ 0 ≤ z ∧ z ≤ 127 ∧ cnt z = (farC c k : Int) ∧ farC c k ≤ 7 := by
 obtain ⟨d0, d1⟩ := dg_bd (k : Int)
 obtain ⟨n, rfl⟩ := Int.eq_ofNat_of_zero_le c0
 obtain ⟨m, hm⟩ := Int.eq_ofNat_of_zero_le d0
 have h1 : bits .xor .i64 (dg (k : Int)) (n : Int) = ((m ^^^ n : Nat) : Int) := by rw [hm]; exact i64_xor_nat m n (by omega) (by omega)
 have h2 : m ^^^ n < 2 ^ 7 := Nat.xor_lt_two_pow (by omega) (by omega)
 have hz : (0 : Int) ≤ ((m ^^^ n : Nat) : Int) ∧ ((m ^^^ n : Nat) : Int) ≤ 127 := ⟨by omega, by omega⟩
 obtain ⟨e1, e2⟩ := cnt_cN hz.1 hz.2
 have hf : farC (n : Int) k = cN ((m ^^^ n : Nat) : Int) := by
  unfold farC cN
  rw [hm, Int.toNat_natCast, Int.toNat_natCast]
 exact ⟨_, h1, h1, hz.1, hz.2, by rw [e1, hf], by rw [hf]; exact e2⟩
theorem least_le (c : Int) (k : Nat) : leastC c k ≤ 8 := by
 induction k with
 | zero => exact Nat.le_refl 8
 | succ k ih => unfold leastC; omega
theorem least_mono (c : Int) {j k : Nat} (h : j < k) : leastC c k ≤ farC c j := by
 induction k with
 | zero => omega
 | succ k ih =>
  unfold leastC
  by_cases hj : j = k
  · subst hj; exact Nat.min_le_right _ _
  · exact Nat.le_trans (Nat.min_le_left _ _) (ih (by omega))
def atC (c : Int) (m k : Nat) : List Int := ((List.range k).filter fun i => farC c i == m).map fun (i : Nat) => (i : Int)
theorem atC_succ (c : Int) (m k : Nat) : atC c m (k + 1) = atC c m k ++ if farC c k == m then [(k : Int)] else [] := by
 unfold atC
 rw [List.range_succ, List.filter_append, List.map_append]
 congr 1
 by_cases h : (farC c k == m) = true
 · simp [h]
 · simp [h]
theorem atC_le (c : Int) (m k : Nat) : (atC c m k).length ≤ k := by
 unfold atC
 rw [List.length_map]
 exact Nat.le_trans (List.length_filter_le _ _) (by simp)
theorem atC_none {c : Int} {m k : Nat} (h : m < leastC c k) : atC c m k = [] := by
 unfold atC
 rw [List.map_eq_nil_iff, List.filter_eq_nil_iff]
 intro i hi
 have := least_mono c (by simpa using hi : i < k)
 simp; omega
theorem nearL_at (c : Int) : nearL c = atC c (leastC c 10) 10 := rfl
theorem l2FarC_c (k : Nat) (c : Int) (c0 : 0 ≤ c) (c1 : c ≤ 127) (w : World) : Calls Tryz.prog 272 #[.int .i64 (dg (k : Int)), .int .i64 c] w fun e w' => e = .returned (.int .i64 (farC c k : Int)) ∧ w = w' := by
 obtain ⟨z, hz, _, z0, z1, hc, _⟩ := xor_c c0 c1 (k := k)
 have HC := hid (fun W => l2Count_c z z0 z1 W)
 rw [hc] at HC
 clear hc
 go_enter Tryz.func272, Tryz.ntmps272
 go_wp2_with fail
 refine (HC.out _).mono ?_
 rintro e w2 ⟨rfl, rfl⟩
 go_wp2
 go_ret
 exact ⟨rfl, rfl⟩
set_option maxHeartbeats 1000000 in
theorem nearest_c (v : Value) (c : Int) (c0 : 0 ≤ c) (c1 : c ≤ 127) (w : World) (hv : Ints w v dig) : Calls Tryz.prog 256 #[v, .int .i64 c] w fun e w' => e = .returned (.int .i64 (leastC c 10 : Int)) ∧ Below w.heap.size w w' := by
 obtain ⟨a, cc, rfl, _, _, HC⟩ := hv.parts
 clear hv
 have hl10 : dig.length = 10 := rfl
 rw [hl10]
 go_enter Tryz.func256, Tryz.ntmps256
 go_wp2
 go_loopw [5, 7, 10] (fun m _ i wr => ∃ k : Nat, k ≤ 10 ∧ i = .int .i64 (k : Int) ∧ m = .int .i64 ((leastC c k : Nat) : Int) ∧ Below w.heap.size w wr) (fun _ _ i _ => 11 - (intOf i).toNat)
 case atStart => exact ⟨0, by omega, rfl, rfl, Below.refl _ _⟩
 case round =>
  obtain ⟨k, hk, rfl, rfl, hb⟩ := hrel
  have HB := hid hb
  clear hb
  by_cases hlt : k < 10
  · have hd : decide ((k : Int) < 10) = true := by simp; omega
    obtain ⟨b, off, rfl, hc0⟩ := HC.out k (dg (k : Int)) (digs_get hlt)
    have hcell := cell_later HB.out hc0
    obtain ⟨z, hz, _, z0, z1, hcn, hf7⟩ := xor_c c0 c1 (k := k)
    have HN := hid (fun W => count_c z z0 z1 W)
    rw [hcn] at HN
    have HS : Hid (leastC c (k + 1) = min (leastC c k) (farC c k)) := rfl
    have hle := least_le c k
    clear hc0 hcn
    generalize leastC c k = m at *
    generalize farC c k = f at *
    go_wp2_with fail
    refine (HN.out _).mono ?_
    rintro e w2 ⟨rfl, rfl⟩
    have hmin : min (m : Int) (f : Int) = ((min m f : Nat) : Int) := by omega
    go_wp2
    go_roundw
    case rel => exact ⟨k + 1, by omega, by go_num, by rw [HS.out], HB.out⟩
    case measure => first | (simp [intOf]; done) | (simp [intOf]; omega)
  · obtain rfl : k = 10 := by omega
    go_wp2
    go_ret
    exact ⟨rfl, HB.out⟩
theorem dig_new : ∀ k : Fin 10, firstAt (fun y => decide (dg (k.1 : Int) = y)) (dig.take k.1) = -1 := by decide +kernel
theorem ContainsN_c (v : Value) (xs : List Int) (x : Int) (w : World) (hv : Ints w v xs) (hn : firstAt (fun y => decide (x = y)) xs = -1) :
 Calls Tryz.prog 285 #[v, .int .i64 x] w fun e w' => e = .returned (.bool false) ∧ w = w' := by
 have HI := hid (Index_c v xs x w hv)
 rw [hn] at HI
 obtain ⟨a, c, rfl, _, _, _⟩ := hv.parts
 clear hv
 go_enter Tryz.func285, Tryz.ntmps285
 go_wp2_with fail
 refine HI.out.mono ?_
 rintro e w2 ⟨rfl, rfl⟩
 go_wp2
 go_ret
 exact ⟨rfl, rfl⟩
theorem Ints.take {w : World} {a : Option Addr} {c n : Nat} {xs : List Int} (h : Ints w (.slice a n c) xs) {k : Nat} (hk : k ≤ n) : Ints w (.slice a k c) (xs.take k) := by
 obtain ⟨a', c', he, h1, h2, h3, h4⟩ := h
 simp only [Value.slice.injEq] at he
 obtain ⟨rfl, rfl, rfl⟩ := he
 have hl : (xs.take k).length = k := by rw [List.length_take]; omega
 refine ⟨a, c, by rw [hl], by omega, h2, by rw [List.length_map]; omega, fun h0 => ?_⟩
 obtain ⟨b, off, e, hc⟩ := h4 (by omega)
 refine ⟨b, off, e, fun j hj => ?_⟩
 rw [hc j (by omega), List.map_take, List.getElem?_take, if_pos (by omega)]
set_option maxHeartbeats 1000000 in
theorem IsCodeD_c (v : Value) (w : World) (hv : Ints w v dig) : Calls Tryz.prog 255 #[v] w fun e w' => e = .returned (.bool true) ∧ w = w' := by
 have HV := hid hv
 obtain ⟨a, cc, rfl, hcc, hcm, HC⟩ := hv.parts
 clear hv
 have HLD : Hid (dig.length = 10) := rfl
 rw [HLD.out] at hcc ⊢
 have hin : inB 10 1 12 = true := by decide
 go_enter Tryz.func255, Tryz.ntmps255
 go_wp2_with fail
 refine (within_c _ _ _ _).mono ?_
 rintro e w1 ⟨rfl, rfl⟩
 rw [hin]
 go_wp2
 go_loopw [3, 4, 11] (fun _ _ i wr => ∃ k : Nat, k ≤ 10 ∧ i = .int .i64 (k : Int) ∧ w = wr) (fun _ _ i _ => 11 - (intOf i).toNat)
 case atStart => exact ⟨0, by omega, rfl, by trivial⟩
 case round =>
  obtain ⟨k, hk, rfl, rfl⟩ := hrel
  by_cases hlt : k < 10
  · have hd : decide ((k : Int) < 10) = true := by simp; omega
    obtain ⟨b, off, rfl, hc0⟩ := HC.out k (dg (k : Int)) (digs_get hlt)
    have hcb : cellB (dg (k : Int)) = true := inB_mk (dg_bd (k : Int)).1 (dg_bd (k : Int)).2
    have HCT := hid (ContainsN_c _ (dig.take k) (dg (k : Int)) w (HV.out.take (k := k) (by rw [HLD.out]; omega)) (dig_new ⟨k, hlt⟩))
    have hkc : k ≤ cc := by omega
    go_wp2_with fail
    refine (IsCell_c _ _).mono ?_
    rintro e w2 ⟨rfl, rfl⟩
    rw [hcb]
    go_wp2_with fail
    refine HCT.out.mono ?_
    rintro e w3 ⟨rfl, rfl⟩
    go_wp2
    go_roundw
    case rel => exact ⟨k + 1, by omega, by go_num, by trivial⟩
    case measure => first | (simp [intOf]; done) | (simp [intOf]; omega)
  · obtain rfl : k = 10 := by omega
    go_wp2
    go_ret
    exact ⟨rfl, rfl⟩
set_option maxHeartbeats 1000000 in
theorem NearestOf_c (v : Value) (c : Int) (c0 : 0 ≤ c) (c1 : c ≤ 127) (w : World) (hv : Ints w v dig) :
 Calls Tryz.prog 201 #[v, .int .i64 c] w fun e w' => ∃ u m, e = .returned (.tuple #[u, .int .i64 m, .bool true]) ∧ w'.ownsRow w.heap.size 3 1 u (nearL c).length ((nearL c).map (Value.int .i64)) ∧ Below w.heap.size w w' := by
 obtain ⟨inf, hi, hz0, hz1, hz2⟩ := info_parts info_int
 have HV := hid hv
 have HI := hid (IsCodeD_c v w hv)
 have HN := hid (nearest_c v c c0 c1 w hv)
 obtain ⟨a, cc, rfl, hcc, hcm, HC⟩ := hv.parts
 clear hv
 have HLD : Hid (dig.length = 10) := rfl
 rw [HLD.out] at hcc ⊢
 have hcb : cellB c = true := inB_mk c0 c1
 go_enter Tryz.func201, Tryz.ntmps201
 go_wp2_with fail
 refine HI.out.mono ?_
 rintro e w1 ⟨rfl, rfl⟩
 go_wp2_with fail
 refine (IsCell_c _ _).mono ?_
 rintro e w2 ⟨rfl, rfl⟩
 rw [hcb]
 go_wp2_with fail
 refine HN.out.mono ?_
 rintro e w3 ⟨rfl, hb3⟩
 have HB3 := hid hb3
 have hw3 := hb3.size
 clear hb3
 have HNL : Hid (nearL c = atC c (leastC c 10) 10) := rfl
 generalize leastC c 10 = m at *
 go_wp2
 go_loopw [8, 9, 10, 24] (fun o _ _ i wr => ∃ k : Nat, k ≤ 10 ∧ i = .int .i64 (k : Int) ∧ wr.ownsRow w.heap.size 3 1 o (atC c m k).length ((atC c m k).map (Value.int .i64)) ∧ Below w.heap.size w wr) (fun _ _ _ i _ => 11 - (intOf i).toNat)
 case atStart => exact ⟨0, by omega, rfl, World.ownsRow_nil _ _ _ _, HB3.out⟩
 case round =>
  obtain ⟨k, hk, rfl, ho, hb⟩ := hrel
  have HO := hid ho
  have HB := hid hb
  clear ho hb
  by_cases hlt : k < 10
  · have hd : decide ((k : Int) < 10) = true := by simp; omega
    obtain ⟨b, off, rfl, hc0⟩ := HC.out k (dg (k : Int)) (digs_get hlt)
    have hcell := cell_later HB.out hc0
    obtain ⟨z, hz, _, z0, z1, hcn, hf7⟩ := xor_c c0 c1 (k := k)
    have HF := hid (fun W => count_c z z0 z1 W)
    rw [hcn] at HF
    have HS := hid (atC_succ c m k)
    have hle := atC_le c m k
    clear hc0 hcn
    generalize atC c m k = cur at *
    generalize farC c k = f at *
    go_wp2_with fail
    refine (HF.out _).mono ?_
    rintro e w4 ⟨rfl, rfl⟩
    by_cases hfm : f = m
    · subst hfm
      have HS2 : Hid (atC c f (k + 1) = cur ++ [(k : Int)]) := by show _ = _; rw [HS.out]; simp
      have hee : ((f : Int) == (f : Int)) = true := by simp
      go_wp2_with (at_builtin; refine wpList_append_own_at _ rfl _ _ 37 rfl w.heap.size 3 inf (.int .i64 0) 1 8 Tryz.underlying37 hi hz0 hz1 hz2 rfl (by decide) _ cur.length (cur.map (Value.int .i64)) rfl (HO.out.alloc _) ⟨wr.heap.size, 0, none⟩ 1 1 [.int .i64 (k : Int)] rfl rfl (news_new _ [.int .i64 (k : Int)] _) (by simp [Value.oneCell']) (by unfold maxLen; omega) (by omega) (by have := HB.out.size; simp; omega) ?_)
      intro v' w3 ho5 hg5 _ _
      have HB7 := hid ((Below.alc HB.out _).grown hg5 (by have := HB.out.size; simp; omega) (fun g hg => (HO.out.lt g hg).1))
      have HO5 := hid ho5
      clear ho5 hg5
      go_wp2
      go_roundw
      case rel => exact ⟨k + 1, by omega, by go_num, ownsRow_cast HO5.out (by rw [HS2.out]; simp) (by rw [HS2.out]; simp), HB7.out⟩
      case measure => first | (simp [intOf]; done) | (simp [intOf]; omega)
    · have hee : ((f : Int) == (m : Int)) = false := by simp; omega
      have HS2 : Hid (atC c m (k + 1) = cur) := by show _ = _; rw [HS.out]; simp [hfm]
      go_wp2
      go_roundw
      case rel => exact ⟨k + 1, by omega, by go_num, by rw [HS2.out]; exact HO.out, HB.out⟩
      case measure => first | (simp [intOf]; done) | (simp [intOf]; omega)
  · obtain rfl : k = 10 := by omega
    go_wp2
    rename_i vv _
    exact bodyPost_ret (v := .tuple #[_, .int .i64 (m : Int), .bool true]) (by simp [results, Tryz.results201, go_sem]; rfl) rfl ⟨_, _, rfl, by rw [HNL.out]; exact HO.out, HB.out⟩
structure Rp (m : Nat) (s : Bs) : Prop where
 len : s.length ≤ m
 prt : ∀ c ∈ s, 32 ≤ c.toNat ∧ c.toNat ≤ 126 ∧ c ≠ 35
theorem Rp.le {m n : Nat} {s : Bs} (h : Rp m s) (hm : m ≤ n) : Rp n s := ⟨Nat.le_trans h.len hm, h.prt⟩
theorem Rp.dec {u : Nat} (h : u ≤ 999999) : Rp 6 (Lib.decDigits u) :=
 ⟨dec_len 5 u (by omega), fun c hc => by
  have := decDigits_digit u c hc
  exact ⟨by omega, by omega, fun e => by subst e; exact absurd this.1 (by decide)⟩⟩
theorem join_rp {m : Nat} : ∀ (xs : List Bs), (∀ x ∈ xs, Rp m x) → Rp ((m + 1) * xs.length) (joinS xs)
 | [], _ => ⟨Nat.le_refl 0, fun c hc => by cases hc⟩
 | [x], h => by
  have h1 := h x (by simp)
  unfold joinS
  rw [join_one']
  exact ⟨by have := h1.len; simp only [List.length_cons, List.length_nil]; omega, h1.prt⟩
 | x :: y :: t, h => by
  have h1 := h x (by simp)
  have h2 := join_rp (y :: t) (fun z hz => h z (List.mem_cons_of_mem _ hz))
  unfold joinS at *
  rw [join_cons2]
  refine ⟨?_, fun c hc => ?_⟩
  · have a := h1.len
    have b := h2.len
    rw [List.length_append, List.length_append, List.length_cons (a := x), Nat.mul_succ]
    simp only [List.length_cons, List.length_nil] at *
    omega
  · rw [List.mem_append, List.mem_append] at hc
    rcases hc with (hc | hc) | hc
    · exact h1.prt c hc
    · rw [List.mem_singleton.1 hc]; decide
    · exact h2.prt c hc
theorem listT_rp {l : List Int} (hl : l.length ≤ 10) (hx : ∀ x ∈ l, 0 ≤ x ∧ x ≤ 999999) : Rp 70 (listT l) := by
 unfold listT
 split
 · exact ⟨by decide, by decide⟩
 · have h := join_rp (m := 6) (l.map Lib.itoa) (fun s hs => by
    obtain ⟨x, hx', rfl⟩ := List.mem_map.1 hs
    obtain ⟨h0, h1⟩ := hx x hx'
    obtain ⟨u, rfl⟩ := Int.eq_ofNat_of_zero_le h0
    rw [itoa_nat]
    exact Rp.dec (by omega))
   rw [List.length_map] at h
   exact h.le (by omega)
theorem rowW_rp (c : Int) : Rp 7 (rowW c) := ⟨rowW_len c, fun x hx => by
 unfold rowW at hx
 split at hx
 · rw [List.mem_singleton.1 hx]; decide
 · unfold barsTo at hx
   obtain ⟨i, hi, h⟩ := List.mem_filterMap.1 hx
   have hi7 := List.mem_range.1 hi
   split at h
   · obtain rfl := Option.some.inj h
     have : ∀ j : Fin 7, 32 ≤ (UInt8.ofNat (97 + j.1)).toNat ∧ (UInt8.ofNat (97 + j.1)).toNat ≤ 126 ∧ UInt8.ofNat (97 + j.1) ≠ 35 := by decide +kernel
     exact this ⟨i, hi7⟩
   · cases h⟩
theorem rowTx_rp {r : List Int} (h : r.length ≤ 6) : Rp 48 (rowTx r) := by
 have := join_rp (m := 7) (r.map rowW) (fun s hs => by obtain ⟨x, _, rfl⟩ := List.mem_map.1 hs; exact rowW_rp x)
 rw [List.length_map] at this
 exact this.le (by omega)
theorem partT_rp {a b : Nat} (ha : a ≤ 999999) (hb : b ≤ 999999) : Rp 13 (partT a b) := by
 have h1 := Rp.dec ha
 have h2 := Rp.dec hb
 unfold partT
 refine ⟨?_, fun c hc => ?_⟩
 · rw [List.length_append, List.length_cons]; have a := h1.len; have b := h2.len; omega
 · rw [List.mem_append, List.mem_cons] at hc
   rcases hc with hc | hc | hc
   · exact h1.prt c hc
   · rw [hc]; decide
   · exact h2.prt c hc
theorem yesT_rp (b : Bool) : Rp 3 (yesT b) := by cases b <;> exact ⟨by decide, by decide⟩
theorem frA_le (ok : Bool) (a b : Nat) : frA ok a b ≤ a := by unfold frA; split; exact Nat.div_le_self _ _; exact Nat.zero_le _
theorem frB_le (ok : Bool) (a b : Nat) : frB ok a b ≤ b := by unfold frB; split; exact Nat.div_le_self _ _; exact Nat.zero_le _
theorem csA_le (d l : Int) : csA d l ≤ 999999 ∧ csB d l ≤ 999999 := by
 have h1 := frA_le (faultB d l) (csS d l) 100
 have h2 := frB_le (faultB d l) (csS d l) 100
 have h3 := (cs_facts d l).1
 unfold csA csB
 exact ⟨by omega, by omega⟩
theorem mbA_le {n : Int} (h : inB n 0 9999 = true) : mbA n ≤ 999999 ∧ mbB n ≤ 999999 := by
 have h0 := inB_true h
 have h1 := frA_le (inB n 0 9999) (mbS (n.toNat + 1)) (n.toNat + 1)
 have h2 := frB_le (inB n 0 9999) (mbS (n.toNat + 1)) (n.toNat + 1)
 have h3 := mbS_le (n.toNat + 1) (by omega)
 unfold mbA mbB
 exact ⟨by omega, by omega⟩
theorem tdL_bd (d l : Int) : ∀ x ∈ tdL d l, 0 ≤ x ∧ x ≤ 999999 := fun x hx => by
 unfold tdL at hx
 split at hx
 · unfold toldTo at hx
   rw [List.take_length, List.mem_map] at hx
   obtain ⟨g, hg, rfl⟩ := hx
   obtain ⟨hg1, _⟩ := List.mem_filter.1 hg
   unfold grpL grpTo at hg1
   obtain ⟨y, _, rfl⟩ := List.mem_map.1 hg1
   cases hq : grpOf d l y with
   | nil => exact ⟨Int.le_refl 0, by decide⟩
   | cons a t =>
    have : a ∈ grpOf d l y := by rw [hq]; simp
    exact digL_bd _ _ _ a this
 · cases hx
theorem nearL_le (c : Int) : (nearL c).length ≤ 10 := by rw [nearL_at]; exact atC_le _ _ _
theorem nearL_bd (c : Int) : ∀ x ∈ nearL c, 0 ≤ x ∧ x ≤ 999999 := fun x hx => by
 unfold nearL nearTo at hx
 obtain ⟨i, hi, rfl⟩ := List.mem_map.1 hx
 have := List.mem_range.1 (List.mem_filter.1 hi).1
 omega
theorem some_ite {α : Type} {c : Prop} [Decidable c] {x : α} {o : Option α} {s : α} (h : (if c then some x else o) = some s) : x = s ∨ o = some s := by
 by_cases hc : c
 · rw [if_pos hc] at h; exact .inl (Option.some.inj h)
 · rw [if_neg hc] at h; exact .inr h
theorem showR_len (b : List Int) : (showR b).length = 6 := shTo_len b 6
theorem tellM_rp {b : List Int} (hb : b.length = 19) (hg : goodB b = true) (w : Bs) (s : Bs) (h : tellM b w = some s) : Rp 250 s := by
 unfold tellM at h
 rcases some_ite h with rfl | h
 · exact (rowTx_rp (by rw [showR_len]; omega)).le (by decide)
 rcases some_ite h with rfl | h
 · exact (rowTx_rp (by rw [List.length_take]; omega)).le (by decide)
 split at h
 · cases hn : numO (showR b) with
   | none => rw [hn] at h; cases h
   | some n =>
    rw [hn] at h
    obtain rfl := Option.some.inj h
    exact (Rp.dec (numO_le hn (by rw [showR_len]; omega))).le (by decide)
 rcases some_ite h with rfl | h
 · exact (Rp.dec (lit_le hg)).le (by decide)
 split at h
 · rcases some_ite h with rfl | h
   · exact (listT_rp (by have := fnL_le (fsB b) (showR b); omega) (fnL_bd _ _)).le (by decide)
   · cases h
 rcases some_ite h with rfl | h
 · exact (Rp.dec ltA_le).le (by decide)
 · cases h
theorem placeM_rp {b : List Int} (w : Bs) (k : Int) (s : Bs) (h : placeM b w k = some s) : Rp 250 s := by
 unfold placeM at h
 split at h
 · cases h
 rcases some_ite h with rfl | h
 · exact (listT_rp (digL_le _ _ _) (digL_bd _ _ _)).le (by decide)
 rcases some_ite h with rfl | h
 · exact (listT_rp (tdL_le _ _) (tdL_bd _ _)).le (by decide)
 rcases some_ite h with rfl | h
 · exact (Rp.dec (by have : (grpL (bF b k.toNat).1 (bF b k.toNat).2).length ≤ 10 := grpTo_le _ _ _; omega)).le (by decide)
 rcases some_ite h with rfl | h
 · exact (yesT_rp _).le (by decide)
 rcases some_ite h with rfl | h
 · exact (listT_rp (nearL_le _) (nearL_bd _)).le (by decide)
 rcases some_ite h with rfl | h
 · exact (partT_rp (csA_le _ _).1 (csA_le _ _).2).le (by decide)
 · cases h
theorem askM_rp {b : List Int} (hb : b.length = 19) (hg : goodB b = true) (w : Bs) (l : List Int) (s : Bs) (h : askM b w l = some s) : Rp 250 s := by
 unfold askM at h
 split at h
 · exact tellM_rp hb hg w s h
 · rename_i x
   split at h
   · split at h
     · rename_i hx
       obtain rfl := Option.some.inj h
       exact (partT_rp (mbA_le hx).1 (mbA_le hx).2).le (by decide)
     · cases h
   · exact placeM_rp _ _ _ h
 · split at h
   · rcases some_ite h with rfl | h
     · exact (yesT_rp _).le (by decide)
     · cases h
   · cases h
 · cases h
theorem execM_ok {b : List Int} (hb : b.length = 19) (hg : goodB b = true) (line : Bs) :
 ((execM b line).1.length = 19 ∧ goodB (execM b line).1 = true) ∧ (∀ s, (execM b line).2 = some s → Rp 250 s) ∧ (sayO (execM b line).2 = [63] → (execM b line).1 = b) := by
 have hno : ((b.length = 19 ∧ goodB b = true) ∧ (∀ s, (none : Option Bs) = some s → Rp 250 s) ∧ (sayO none = [63] → b = b)) := ⟨⟨hb, hg⟩, (fun s h => by cases h), fun _ => rfl⟩
 unfold execM
 simp only
 split
 · exact hno
 · split
   · exact hno
   · split
     · split
       · rename_i hp
         have := poss_good hb hg hp.2
         refine ⟨⟨this.2, this.1⟩, fun s h => ?_, fun h => ?_⟩
         · obtain rfl := Option.some.inj h
           exact (rowTx_rp (by rw [showR_len]; omega)).le (by decide)
         · exfalso
           have h2 : rowTx (showR (doB b _ _ _)) = [63] := h
           have h3 := congrArg List.length h2
           unfold rowTx showR shTo at h3
           rw [show List.range 6 = [0, 1, 2, 3, 4, 5] from rfl] at h3
           simp only [List.map_cons, List.map_nil, joinS, join_cons2, join_one', List.length_append, List.length_cons, List.length_nil] at h3
           omega
       · exact hno
     · exact ⟨⟨hb, hg⟩, askM_rp hb hg _ _, fun _ => rfl⟩
theorem sayM_rp {b : List Int} (hb : b.length = 19) (hg : goodB b = true) (line : Bs) : Rp 250 (sayO (execM b line).2) := by
 cases h : (execM b line).2 with
 | none => exact ⟨by decide, by decide⟩
 | some s => exact (execM_ok hb hg line).2.1 s h
theorem recB_of {c : ByteArray} {r : Bs} (hc : cmdB c = true) (hr : Rp 250 r) : recB c (bs r) = true := by
 unfold recB
 rw [hc]
 have h1 : printB (bs r) = true := by
  unfold printB
  rw [bs_list, List.all_eq_true]
  intro x hx
  rw [prB_eq, prU_iff]
  exact hr.prt x hx
 have h2 : decide (((bs r).size : Int) ≤ 250) = true := by rw [bs_size]; have := hr.len; simp; omega
 rw [h1, h2]; rfl
end Go.Proofs.YtohgjfdbnkjefaaGreatDoor
