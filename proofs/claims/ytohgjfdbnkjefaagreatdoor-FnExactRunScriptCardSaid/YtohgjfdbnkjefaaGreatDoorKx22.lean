/- Texts of this claim, gathered: Cwb, Cwh, Cwc, Cwi, Cwy, Cwd. -/
import Derived.Test.YtohgjfdbnkjefaaGreatDoorKx21
import Derived.Deep.RegionHeld3
namespace Go.Proofs.YtohgjfdbnkjefaaGreatDoor
open Go.RowKit
set_option linter.unusedVariables false
set_option linter.unusedSimpArgs false
set_option maxRecDepth 100000
theorem sLitOf_c (v : Value) (xs : List Int) (w : World) (hv : Ints w v xs) (hr : rowB xs = true) :
 Calls Tryz.prog 175 #[v] w fun e w' => e = .returned (.tuple #[.int .i64 (litL xs : Nat), .bool true]) ∧ Below w.heap.size w w' := by
 have HV := Lib.hid hv
 have HR := Lib.hid (l2Row_c v xs w hv)
 rw [hr] at HR
 obtain ⟨a, c, rfl, _, _, _⟩ := hv.parts
 have hcl : ∀ x ∈ xs, 0 ≤ x ∧ x ≤ 127 := fun x hx => by
  obtain ⟨k, hk⟩ := List.mem_iff_getElem?.1 hx
  exact rowB_cell hr hk
 have hn : xs.length ≤ 6 := rowB_le hr
 have HCL := Lib.hid hcl
 have HBD := Lib.hid (litL_bd hcl)
 have HALL : Hid (litL (xs.take xs.length) = litL xs) := by show _ = _; rw [List.take_length]
 clear hv hcl hr
 go_enter Tryz.func175, Tryz.ntmps175
 go_wp2_with fail
 refine HR.out.mono ?_
 rintro e w1 ⟨rfl, hb1⟩
 have HB1 := Lib.hid hb1
 go_wp2
 go_loopw [4, 5] (fun s j wr => ∃ k : Nat, k ≤ xs.length ∧ j = .int .i64 (k : Int) ∧ s = .int .i64 ((litL (xs.take k) : Nat) : Int) ∧ w1 = wr) (fun _ j _ => xs.length + 1 - (intOf j).toNat)
 case atStart => exact ⟨0, by omega, rfl, rfl, rfl⟩
 case round =>
  obtain ⟨k, hk, rfl, rfl, rfl⟩ := hrel
  by_cases hlt : k < xs.length
  · have hdd : decide ((k : Int) < (xs.length : Int)) = true := by simp; omega
    obtain ⟨x, hx⟩ := elem_at hlt
    obtain ⟨_, _, he, _, _, HC⟩ := (HV.out.below hb1).parts
    cases he
    obtain ⟨b, off, rfl, f0⟩ := HC.out k x hx.out
    obtain ⟨x0, x1⟩ := HCL.out x (List.mem_of_getElem? hx.out)
    obtain ⟨e1, e2⟩ := cnt_cN x0 x1
    have hb := HBD.out k hk
    have HX := Lib.hid (litL_take hx.out)
    have HC2 := Lib.hid (fun w => l2Count_c x x0 x1 w)
    rw [e1] at HC2
    generalize litL (xs.take k) = s at *
    generalize cN x = c9 at *
    clear e1 HC
    go_wp2_with fail
    refine (HC2.out _).mono ?_
    rintro e _ ⟨rfl, rfl⟩
    go_wp2
    go_roundw
    case rel => exact ⟨k + 1, by omega, by go_num, by rw [HX.out]; go_num, by trivial⟩
    case measure => first | (simp [intOf]; done) | (simp [intOf]; omega)
  · obtain rfl : k = xs.length := by omega
    have hd : decide ((xs.length : Int) < (xs.length : Int)) = false := by simp
    rw [HALL.out]
    go_wp2
    exact bodyPost_ret (v := .tuple #[.int .i64 ((litL xs : Nat) : Int), .bool true]) (by simp [results, Tryz.results175, go_sem]) rfl ⟨rfl, HB1.out⟩
def SayOut (o : Option Bs) (w : World) (e : Ending) (w' : World) : Prop := e = .returned (.string (bs (sayO o))) ∧ Below w.heap.size w w'
theorem SayOut.mk' {o : Option Bs} {t : Bs} {w w' : World} (h : sayO o = t) (hb : Below w.heap.size w w') : SayOut o w (.returned (.string (bs t))) w' := ⟨by rw [h], hb⟩
set_option maxHeartbeats 40000000 in
theorem l12Tell_c (b : List Int) (s : ByteArray) (w : World) (hb : b.length = 19) (hg : goodB b = true) :
 Calls Tryz.prog 129 #[aggI b, .string s] w (SayOut (tellM b s.data.toList) w) := by
 have r0 := range_new w (ints b) 26
 have hb0 := below_one (w := w) (.cells (ints b).toArray 26)
 unfold aggI
 by_cases e0 : s.data.toList = wRow
 · as_aux_lemma =>
    have f0 : (s.toList == [114, 111, 119]) = true := by rw [Lib.toList_data, e0]; rfl
    have HM := Lib.hid (show tellM b s.data.toList = some (rowTx (showR b)) by unfold tellM; rw [if_pos e0])
    clear e0
    go_enter Tryz.func129, Tryz.ntmps129
    go_wp2_with (refine wpList_loadB rfl _ rfl _ rfl b r0 hb ?_)
    refine (l12Row_c b true _ hb hg).mono ?_
    rintro e w1 ⟨u, rfl, ho, hb1⟩
    have HR := Lib.hid (show Ints w1 u (showR b) from Ints.of_own ho)
    have HB := Lib.hid (Below.chain hb0 hb1)
    have r1 := range_below r0 hb1
    obtain ⟨ua, uc, rfl, _⟩ := (Sl.of_own ho).slice
    have HSL : Hid ((rowOf b true 6).length = 6) := shTo_len b 6
    rw [HSL.out] at HR ⊢
    have hrl : (showR b).length ≤ 1000 := by rw [show (showR b).length = 6 from shTo_len b 6]; decide
    have hrr := showR_row hg
    have hrd := showR_bd hg
    clear ho hb1
    go_wp2_with fail
    with_reducible refine (l2Text_c _ (showR b) _ HR.out hrl hrd).mono ?_
    rintro e _ ⟨rfl, rfl⟩
    go_wp2
    go_ret
    exact SayOut.mk' (by rw [HM.out]; rfl) HB.out
 · skip
   by_cases e1 : s.data.toList = wSent
   · as_aux_lemma =>
      have f0 : (s.toList == [114, 111, 119]) = false := by rw [Lib.toList_data]; exact beq_false_of_ne e0
      have f1 : (s.toList == [115, 101, 110, 116]) = true := by rw [Lib.toList_data, e1]; rfl
      have HM := Lib.hid (show tellM b s.data.toList = some (rowTx (b.take 6)) by unfold tellM; rw [if_neg e0]; rw [if_pos e1])
      clear e0 e1
      go_enter Tryz.func129, Tryz.ntmps129
      go_wp2_with (refine wpList_loadB rfl _ rfl _ rfl b r0 hb ?_)
      refine (l12Row_c b true _ hb hg).mono ?_
      rintro e w1 ⟨u, rfl, ho, hb1⟩
      have HR := Lib.hid (show Ints w1 u (showR b) from Ints.of_own ho)
      have HB := Lib.hid (Below.chain hb0 hb1)
      have r1 := range_below r0 hb1
      obtain ⟨ua, uc, rfl, _⟩ := (Sl.of_own ho).slice
      have HSL : Hid ((rowOf b true 6).length = 6) := shTo_len b 6
      rw [HSL.out] at HR ⊢
      have hrl : (showR b).length ≤ 1000 := by rw [show (showR b).length = 6 from shTo_len b 6]; decide
      have hrr := showR_row hg
      have hrd := showR_bd hg
      clear ho hb1
      go_wp2_with (refine wpList_loadB rfl _ rfl _ rfl b r1 hb ?_)
      refine (l12Row_c b false _ hb hg).mono ?_
      rintro e w2 ⟨u2, rfl, ho2, hb2⟩
      have HR2 := Lib.hid (show Ints w2 u2 (b.take 6) from Ints.of_own ho2)
      have HB2 := Lib.hid (Below.chain HB.out hb2)
      obtain ⟨ub, ud, rfl, _⟩ := (Sl.of_own ho2).slice
      have hcl := cells_bd hb hg
      have htl : (b.take 6).length ≤ 1000 := by rw [List.length_take]; omega
      have HSL2 : Hid ((rowOf b false 6).length = 6) := rowOf_len hb false (Nat.le_refl _)
      rw [HSL2.out] at HR2 ⊢
      clear ho2 hb2
      go_wp2_with fail
      with_reducible refine (l2Text_c _ (b.take 6) _ HR2.out htl hcl).mono ?_
      rintro e _ ⟨rfl, rfl⟩
      go_wp2
      go_ret
      exact SayOut.mk' (by rw [HM.out]; rfl) HB2.out
   · skip
     by_cases e2 : s.data.toList = wNumber
     · as_aux_lemma =>
        have f0 : (s.toList == [114, 111, 119]) = false := by rw [Lib.toList_data]; exact beq_false_of_ne e0
        have f1 : (s.toList == [115, 101, 110, 116]) = false := by rw [Lib.toList_data]; exact beq_false_of_ne e1
        have f2 : (s.toList == [110, 117, 109, 98, 101, 114]) = true := by rw [Lib.toList_data, e2]; rfl
        have HM := Lib.hid (show tellM b s.data.toList = (numO (showR b)).map Lib.decDigits by unfold tellM; rw [if_neg e0]; rw [if_neg e1]; rw [if_pos e2])
        clear e0 e1 e2
        go_enter Tryz.func129, Tryz.ntmps129
        go_wp2_with (refine wpList_loadB rfl _ rfl _ rfl b r0 hb ?_)
        refine (l12Row_c b true _ hb hg).mono ?_
        rintro e w1 ⟨u, rfl, ho, hb1⟩
        have HR := Lib.hid (show Ints w1 u (showR b) from Ints.of_own ho)
        have HB := Lib.hid (Below.chain hb0 hb1)
        have r1 := range_below r0 hb1
        obtain ⟨ua, uc, rfl, _⟩ := (Sl.of_own ho).slice
        have HSL : Hid ((rowOf b true 6).length = 6) := shTo_len b 6
        rw [HSL.out] at HR ⊢
        have hrl : (showR b).length ≤ 1000 := by rw [show (showR b).length = 6 from shTo_len b 6]; decide
        have hrr := showR_row hg
        have hrd := showR_bd hg
        clear ho hb1
        go_wp2_with fail
        with_reducible refine (sNumberOf_c _ (showR b) _ HR.out hrr).mono ?_
        rintro e w2 ⟨rfl, hb2⟩
        have HB2 := Lib.hid (Below.chain HB.out hb2)
        have HSAY : Hid (sayO (tellM b s.data.toList) = (if (numO (showR b)).isSome then Lib.decDigits ((numO (showR b)).getD 0) else [63])) := by
         show _ = _
         rw [HM.out]
         cases numO (showR b) <;> rfl
        have hn6 : (numO (showR b)).getD 0 < 4611686018427387904 := by
         cases hn : numO (showR b) with
         | none => show (0 : Nat) < _; omega
         | some n =>
          have h1 := numO_le hn (by rw [show (showR b).length = 6 from shTo_len b 6]; omega)
          show n < _; omega
        unfold numV
        clear hb2
        generalize (numO (showR b)).isSome = ok at *
        generalize (numO (showR b)).getD 0 = n at *
        cases ok with
        | false =>
         go_wp2_with fail
         with_reducible refine (l12Say_c n false _ hn6).mono ?_
         rintro e w3 ⟨rfl, hb3⟩
         have HB3 := Lib.hid (Below.chain HB2.out hb3)
         clear hb3
         go_wp2
         go_ret
         exact SayOut.mk' HSAY.out HB3.out
        | true =>
         go_wp2_with fail
         with_reducible refine (l12Say_c n true _ hn6).mono ?_
         rintro e w3 ⟨rfl, hb3⟩
         have HB3 := Lib.hid (Below.chain HB2.out hb3)
         clear hb3
         go_wp2
         go_ret
         exact SayOut.mk' HSAY.out HB3.out
     · skip
       by_cases e3 : s.data.toList = wBars
       · as_aux_lemma =>
          have f0 : (s.toList == [114, 111, 119]) = false := by rw [Lib.toList_data]; exact beq_false_of_ne e0
          have f1 : (s.toList == [115, 101, 110, 116]) = false := by rw [Lib.toList_data]; exact beq_false_of_ne e1
          have f2 : (s.toList == [110, 117, 109, 98, 101, 114]) = false := by rw [Lib.toList_data]; exact beq_false_of_ne e2
          have f3 : (s.toList == [98, 97, 114, 115]) = true := by rw [Lib.toList_data, e3]; rfl
          have HM := Lib.hid (show tellM b s.data.toList = some (Lib.decDigits (litL (showR b))) by unfold tellM; rw [if_neg e0]; rw [if_neg e1]; rw [if_neg e2]; rw [if_pos e3])
          clear e0 e1 e2 e3
          go_enter Tryz.func129, Tryz.ntmps129
          go_wp2_with (refine wpList_loadB rfl _ rfl _ rfl b r0 hb ?_)
          refine (l12Row_c b true _ hb hg).mono ?_
          rintro e w1 ⟨u, rfl, ho, hb1⟩
          have HR := Lib.hid (show Ints w1 u (showR b) from Ints.of_own ho)
          have HB := Lib.hid (Below.chain hb0 hb1)
          have r1 := range_below r0 hb1
          obtain ⟨ua, uc, rfl, _⟩ := (Sl.of_own ho).slice
          have HSL : Hid ((rowOf b true 6).length = 6) := shTo_len b 6
          rw [HSL.out] at HR ⊢
          have hrl : (showR b).length ≤ 1000 := by rw [show (showR b).length = 6 from shTo_len b 6]; decide
          have hrr := showR_row hg
          have hrd := showR_bd hg
          clear ho hb1
          go_wp2_with fail
          with_reducible refine (sLitOf_c _ (showR b) _ HR.out hrr).mono ?_
          rintro e w2 ⟨rfl, hb2⟩
          have HB2 := Lib.hid (Below.chain HB.out hb2)
          clear hb2
          have hn6 := lit_le hg
          generalize litL (showR b) = n at *
          have hn7 : n < 4611686018427387904 := by omega
          go_wp2_with fail
          with_reducible refine (l12Say_c n true _ hn7).mono ?_
          rintro e w3 ⟨rfl, hb3⟩
          have HB3 := Lib.hid (Below.chain HB2.out hb3)
          clear hb3
          go_wp2
          go_ret
          exact SayOut.mk' (by rw [HM.out]; rfl) HB3.out
       · skip
         by_cases e4 : s.data.toList = wFirst
         · as_aux_lemma =>
            have f0 : (s.toList == [114, 111, 119]) = false := by rw [Lib.toList_data]; exact beq_false_of_ne e0
            have f1 : (s.toList == [115, 101, 110, 116]) = false := by rw [Lib.toList_data]; exact beq_false_of_ne e1
            have f2 : (s.toList == [110, 117, 109, 98, 101, 114]) = false := by rw [Lib.toList_data]; exact beq_false_of_ne e2
            have f3 : (s.toList == [98, 97, 114, 115]) = false := by rw [Lib.toList_data]; exact beq_false_of_ne e3
            have f4 : (s.toList == [102, 105, 114, 115, 116]) = true := by rw [Lib.toList_data, e4]; rfl
            have HM := Lib.hid (show tellM b s.data.toList = (if fnOk (fsB b) (showR b) then some (listT (fnL (fsB b) (showR b))) else none) by unfold tellM; rw [if_neg e0]; rw [if_neg e1]; rw [if_neg e2]; rw [if_neg e3]; rw [if_pos e4])
            clear e0 e1 e2 e3 e4
            go_enter Tryz.func129, Tryz.ntmps129
            go_wp2_with (refine wpList_loadB rfl _ rfl _ rfl b r0 hb ?_)
            refine (l12Row_c b true _ hb hg).mono ?_
            rintro e w1 ⟨u, rfl, ho, hb1⟩
            have HR := Lib.hid (show Ints w1 u (showR b) from Ints.of_own ho)
            have HB := Lib.hid (Below.chain hb0 hb1)
            have r1 := range_below r0 hb1
            obtain ⟨ua, uc, rfl, _⟩ := (Sl.of_own ho).slice
            have HSL : Hid ((rowOf b true 6).length = 6) := shTo_len b 6
            rw [HSL.out] at HR ⊢
            have hrl : (showR b).length ≤ 1000 := by rw [show (showR b).length = 6 from shTo_len b 6]; decide
            have hrr := showR_row hg
            have hrd := showR_bd hg
            clear ho hb1
            have HF0 := Lib.hid (World.ownsRow_lit (e := 46) (size := 2) (base := w1.heap.size) w1 #[] 0 (Nat.le_refl _) (by decide) rfl)
            have HBF := Lib.hid (below_one (w := w1) (.cells #[] 46))
            obtain ⟨i, hi, hz0, hz1, hz2⟩ := info_parts info_Fault
            go_wp2
            go_loopw [6, 7] (fun o j wr => ∃ k : Nat, k ≤ 6 ∧ j = .int .i64 (k : Int) ∧ wr.ownsRow w1.heap.size 46 2 o k (flat2 (fsTo b k)) ∧ Below w1.heap.size w1 wr) (fun _ j _ => 7 - (intOf j).toNat)
            case atStart => exact ⟨0, by omega, rfl, ownsRow_cast HF0.out rfl rfl, HBF.out⟩
            case round =>
             obtain ⟨k, hk, rfl, hfo, hbk⟩ := hrel
             have HFO := Lib.hid hfo
             have HBK := Lib.hid hbk
             clear hfo hbk HF0 HBF
             by_cases hlt : k < 6
             · have hd : decide ((k : Int) < 6) = true := by simp; omega
               obtain ⟨f1, f2, hf⟩ : ∃ f1 f2, bF b k = (f1, f2) := ⟨_, _, rfl⟩
               have hs := fsTo_succ b k
               rw [hf] at hs
               have HS := Lib.hid hs
               have HF := Lib.hid hf
               have hrk := range_below r1 HBK.out
               clear hs hf
               go_wp2_with (refine wpList_loadB rfl _ rfl _ rfl b hrk hb ?_)
               refine (l12Fault_c b k _ hb hlt).mono ?_
               rintro e w3 ⟨he, hb3⟩
               rw [HF.out] at he
               subst he
               have HB4 := Lib.hid (Below.chain HBK.out hb3)
               have HO4 := Lib.hid (own_keep HFO.out hb3)
               clear hb3 HBK HFO hrk HF
               go_wp2_with (at_builtin; refine wpList_append_own_at _ rfl _ _ 127 rfl w1.heap.size 46 i (.agg #[.int .i64 0, .int .i64 0]) 2 16 Tryz.underlying127 hi hz0 hz1 hz2 rfl (by decide) _ k (flat2 (fsTo b k)) rfl (HO4.out.alloc _) ⟨w3.heap.size, 0, none⟩ 1 1 [.int .i64 f1, .int .i64 f2] rfl rfl (news_new _ [.int .i64 f1, .int .i64 f2] _) (by simp [Value.oneCell']) (by unfold maxLen; omega) (by omega) (by have := HB4.out.size; simp only [World.size_alloc]; omega) ?_)
               intro v' w4 ho5 hg5 _ _
               have HB7 := Lib.hid ((Below.alc HB4.out _).grown hg5 (by have := HB4.out.size; simp only [World.size_alloc]; omega) (fun g hg => (HO4.out.lt g hg).1))
               have HO5 := Lib.hid ho5
               clear ho5 hg5 HO4 HB4
               go_wp2
               go_roundw
               case rel => exact ⟨k + 1, by omega, by go_num, by rw [HS.out]; exact ownsRow_cast HO5.out rfl (flat2_snoc _ _ _).symm, HB7.out⟩
               case measure => first | (simp [intOf]; done) | (simp [intOf]; omega)
             · obtain rfl : k = 6 := by omega
               have HFP := Lib.hid (show Pairs wr _ (fsB b) from Pairs.of_own (ps := fsB b) HFO.out)
               have HRk := Lib.hid (HR.out.below HBK.out)
               have HBW := Lib.hid (Below.chain HB.out HBK.out)
               obtain ⟨fa, fc, rfl, _⟩ := (Sl.of_own HFO.out).slice
               have hfl := fnL_le (fsB b) (showR b)
               have hfl2 : (fnL (fsB b) (showR b)).length ≤ 1000 := by omega
               have hfb : fnOk (fsB b) (showR b) = true → ∀ x ∈ fnL (fsB b) (showR b), 0 ≤ x ∧ x ≤ 999999 := fun _ => fnL_bd _ _
               have HSAY : Hid (sayO (tellM b s.data.toList) = (if fnOk (fsB b) (showR b) then listT (fnL (fsB b) (showR b)) else [63])) := by
                show _ = _
                rw [HM.out]
                cases fnOk (fsB b) (showR b) <;> rfl
               go_wp2_with fail
               with_reducible refine (sFirstNumber_c _ _ (fsB b) (showR b) _ HFP.out HRk.out).mono ?_
               rintro e w3 ⟨lu, rfl, hlo, hb3⟩
               have HB3 := Lib.hid (Below.chain HBW.out hb3)
               have HL3 := Lib.hid (show Ints w3 lu (fnL (fsB b) (showR b)) from Ints.of_own hlo)
               obtain ⟨la, lc, rfl, _⟩ := (Sl.of_own hlo).slice
               clear hb3 hlo
               generalize fnL (fsB b) (showR b) = fl at *
               generalize fnOk (fsB b) (showR b) = ok at *
               have HFB := Lib.hid hfb
               clear hfb
               go_wp2_with fail
               with_reducible refine (l12List_c _ fl ok _ HL3.out hfl2 HFB.out).mono ?_
               rintro e w4 ⟨rfl, hb4⟩
               have HB4 := Lib.hid (Below.chain HB3.out hb4)
               rw [← HSAY.out]
               clear hb4
               go_wp2
               go_ret
               exact SayOut.mk' rfl HB4.out
         · skip
           by_cases e5 : s.data.toList = wLeast
           · as_aux_lemma =>
              have f0 : (s.toList == [114, 111, 119]) = false := by rw [Lib.toList_data]; exact beq_false_of_ne e0
              have f1 : (s.toList == [115, 101, 110, 116]) = false := by rw [Lib.toList_data]; exact beq_false_of_ne e1
              have f2 : (s.toList == [110, 117, 109, 98, 101, 114]) = false := by rw [Lib.toList_data]; exact beq_false_of_ne e2
              have f3 : (s.toList == [98, 97, 114, 115]) = false := by rw [Lib.toList_data]; exact beq_false_of_ne e3
              have f4 : (s.toList == [102, 105, 114, 115, 116]) = false := by rw [Lib.toList_data]; exact beq_false_of_ne e4
              have f5 : (s.toList == [108, 101, 97, 115, 116]) = true := by rw [Lib.toList_data, e5]; rfl
              have HM := Lib.hid (show tellM b s.data.toList = some (Lib.decDigits ltA.length) by unfold tellM; rw [if_neg e0]; rw [if_neg e1]; rw [if_neg e2]; rw [if_neg e3]; rw [if_neg e4]; rw [if_pos e5])
              clear e0 e1 e2 e3 e4 e5
              go_enter Tryz.func129, Tryz.ntmps129
              go_wp2_with (refine wpList_loadB rfl _ rfl _ rfl b r0 hb ?_)
              refine (l12Row_c b true _ hb hg).mono ?_
              rintro e w1 ⟨u, rfl, ho, hb1⟩
              have HR := Lib.hid (show Ints w1 u (showR b) from Ints.of_own ho)
              have HB := Lib.hid (Below.chain hb0 hb1)
              have r1 := range_below r0 hb1
              obtain ⟨ua, uc, rfl, _⟩ := (Sl.of_own ho).slice
              have HSL : Hid ((rowOf b true 6).length = 6) := shTo_len b 6
              rw [HSL.out] at HR ⊢
              have hrl : (showR b).length ≤ 1000 := by rw [show (showR b).length = 6 from shTo_len b 6]; decide
              have hrr := showR_row hg
              have hrd := showR_bd hg
              clear ho hb1
              go_wp2_with fail
              with_reducible refine (sLeastTests_c _).mono ?_
              rintro e w2 ⟨lv, rfl, hls, hb2⟩
              have HB2 := Lib.hid (Below.chain HB.out hb2)
              obtain ⟨vs, hvs, _⟩ := hls
              obtain ⟨la, lc, rfl, _⟩ := (Sl.of_own hvs).slice
              clear hb2 hvs
              have hl9 := ltA_le
              have hl8 : ltA.length < 4611686018427387904 := by omega
              go_wp2_with fail
              with_reducible refine (l1Num_c ltA.length _ hl8).mono ?_
              rintro e w3 ⟨rfl, hb3⟩
              have HB3 := Lib.hid (Below.chain HB2.out hb3)
              clear hb3
              go_wp2
              go_ret
              exact SayOut.mk' (by rw [HM.out]; rfl) HB3.out
           · skip
             as_aux_lemma =>
              have f0 : (s.toList == [114, 111, 119]) = false := by rw [Lib.toList_data]; exact beq_false_of_ne e0
              have f1 : (s.toList == [115, 101, 110, 116]) = false := by rw [Lib.toList_data]; exact beq_false_of_ne e1
              have f2 : (s.toList == [110, 117, 109, 98, 101, 114]) = false := by rw [Lib.toList_data]; exact beq_false_of_ne e2
              have f3 : (s.toList == [98, 97, 114, 115]) = false := by rw [Lib.toList_data]; exact beq_false_of_ne e3
              have f4 : (s.toList == [102, 105, 114, 115, 116]) = false := by rw [Lib.toList_data]; exact beq_false_of_ne e4
              have f5 : (s.toList == [108, 101, 97, 115, 116]) = false := by rw [Lib.toList_data]; exact beq_false_of_ne e5
              have HM := Lib.hid (show tellM b s.data.toList = none by unfold tellM; rw [if_neg e0]; rw [if_neg e1]; rw [if_neg e2]; rw [if_neg e3]; rw [if_neg e4]; rw [if_neg e5])
              clear e0 e1 e2 e3 e4 e5
              go_enter Tryz.func129, Tryz.ntmps129
              go_wp2_with (refine wpList_loadB rfl _ rfl _ rfl b r0 hb ?_)
              refine (l12Row_c b true _ hb hg).mono ?_
              rintro e w1 ⟨u, rfl, ho, hb1⟩
              have HR := Lib.hid (show Ints w1 u (showR b) from Ints.of_own ho)
              have HB := Lib.hid (Below.chain hb0 hb1)
              have r1 := range_below r0 hb1
              obtain ⟨ua, uc, rfl, _⟩ := (Sl.of_own ho).slice
              have HSL : Hid ((rowOf b true 6).length = 6) := shTo_len b 6
              rw [HSL.out] at HR ⊢
              have hrl : (showR b).length ≤ 1000 := by rw [show (showR b).length = 6 from shTo_len b 6]; decide
              have hrr := showR_row hg
              have hrd := showR_bd hg
              clear ho hb1
              go_wp2
              go_ret
              exact SayOut.mk' (by rw [HM.out]; rfl) HB.out
def doneB (b : List Int) (k a v : Int) : List Int := if possB b k a v then doB b k a v else b
def doneT (b : List Int) (k a v : Int) : Bs := if possB b k a v then rowTx (showR (doB b k a v)) else [63]
set_option maxHeartbeats 8000000 in
theorem l12Done_c (b : List Int) (k a v : Int) (w : World) (hb : b.length = 19) (hg : goodB b = true) :
 Calls Tryz.prog 128 #[aggI b, jobV k a v] w fun e w' => e = .returned (.tuple #[aggI (doneB b k a v), .string (bs (doneT b k a v))]) ∧ Below w.heap.size w w' := by
 have r0 := World.rangeAt_alloc (World.rangeAt_alloc (range_new w (ints b) 26) (.cells #[.int .i64 k, .int .i64 a, .int .i64 v] 123)) zB
 have t1 := there_new ((w.alloc (.cells (ints b).toArray 26)).alloc (.cells #[.int .i64 k, .int .i64 a, .int .i64 v] 123)) _ 26 (n := 19) (show 19 ≤ (zBA : Array Value).size by decide)
 have hb0 : Below w.heap.size w (((w.alloc (.cells (ints b).toArray 26)).alloc (.cells #[.int .i64 k, .int .i64 a, .int .i64 v] 123)).alloc zB) := by (repeat (first | exact Below.refl _ _ | exact (Below.refl _ _).drew | assumption | exact below_one _ | refine Below.chain ?_ (by assumption) | refine Below.drew ?_ | refine Below.alc ?_ _ | refine below_drewN ?_ | (refine Below.setCell ?_ ?_ _) | exact Nat.le_refl _ | (simp; done) | (simp; omega)))
 simp only [World.size_alloc] at t1
 have hsz : w.heap.size + 1 + 1 < (((w.alloc (.cells (ints b).toArray 26)).alloc (.cells #[.int .i64 k, .int .i64 a, .int .i64 v] 123)).alloc zB).heap.size := by simp
 have HM := Lib.hid (fun w => l12Do_c b k a v w hb hg)
 have hX := jobB_len hb hg k a v
 obtain ⟨X, hXe⟩ : ∃ X, jobB b k a v = X := ⟨_, rfl⟩
 rw [hXe] at hX
 have hX19 : (ints X).length = 19 := by simp [ints, hX]
 unfold jobsV mkV at HM
 rw [hXe] at HM
 unfold aggI jobV at *
 unfold zBA zB at *
 rcases hp : possB b k a v with _ | _
 · as_aux_lemma =>
    have HP := Lib.hid hp
    have HD1 := Lib.hid (show doneB b k a v = b by unfold doneB; rw [hp]; rfl)
    have HD2 := Lib.hid (show doneT b k a v = [63] by unfold doneT; rw [hp]; rfl)
    rw [hp] at HM
    clear hp hXe
    go_enter Tryz.func128, Tryz.ntmps128
    go_wp2_with (refine wpList_loadB rfl _ rfl _ rfl b r0 hb ?_)
    refine (HM.out _).mono ?_
    rintro e w1 ⟨rfl, hb1⟩
    have r1 := range_below r0 hb1
    have u1 := there_below t1 hb1
    have b1 := Below.chain hb0 hb1
    have z1 := Nat.lt_of_lt_of_le hsz hb1.size
    have r2 := World.rangeAt_alloc r1 zB
    have u2 := World.there_alloc u1 zB
    have b2 := Below.alc b1 zB
    have t2 := there_new w1 zBA 26 (n := 19) (by decide)
    have r3 := World.rangeAt_setCells_apart r2 w1.heap.size 0 (ints X) (.inl (by omega))
    have u3 := World.there_setCells u2 w1.heap.size 0 (ints X)
    have b3 := below_cells (ints X) (w1.alloc zB) w1.heap.size 0 b2 (by omega)
    have K5 := loadVarB (World.rangeAt_setCells_same _ (w.heap.size + 1 + 1) 0 (ints b) (by simpa [ints, hb] using u3)) hb
    have K6 := below_cells (ints b) _ (w.heap.size + 1 + 1) 0 b3 (by omega)
    clear r0 t1 hb0 hb1 r1 u1 b1 hsz r2 u2 b2
    unfold zB zBA at *
    go_wp2_with (first | (refine wpList_storeB rfl _ _ rfl _ X rfl rfl t2 hX ?_) | (refine wpList_loadB rfl _ rfl _ rfl b r3 hb ?_) | (refine wpList_storeB rfl _ _ rfl _ b rfl rfl u3 hb ?_))
    exact bodyPost_ret (v := .tuple #[aggI b, .string (bs [63])]) (res_cell2 Tryz.results128 rfl K5) rfl ⟨by rw [HD1.out, HD2.out]; rfl, K6⟩
 · as_aux_lemma =>
    have hXd : X = doB b k a v := by rw [← hXe]; unfold jobB; rw [hp]; rfl
    have HD1 := Lib.hid (show doneB b k a v = X by unfold doneB; rw [hp, hXd]; rfl)
    have HD2 := Lib.hid (show doneT b k a v = rowTx (showR X) by unfold doneT; rw [hp, hXd]; rfl)
    have hgX : goodB X = true := by rw [hXd]; exact (poss_good hb hg hp).1
    have hL := hX
    have hrl : (showR X).length ≤ 1000 := by rw [show (showR X).length = 6 from shTo_len X 6]; decide
    have hrd := showR_bd hgX
    have HROW := Lib.hid (fun W => l12Row_c X true W hL hgX)
    unfold aggI at HROW
    rw [hp] at HM
    clear hp hXe hXd
    go_enter Tryz.func128, Tryz.ntmps128
    go_wp2_with (refine wpList_loadB rfl _ rfl _ rfl b r0 hb ?_)
    refine (HM.out _).mono ?_
    rintro e w1 ⟨rfl, hb1⟩
    have u1 := there_below t1 hb1
    have b1 := Below.chain hb0 hb1
    have z1 := Nat.lt_of_lt_of_le hsz hb1.size
    have u2 := World.there_alloc u1 zB
    have b2 := Below.alc b1 zB
    have t2 := there_new w1 zBA 26 (n := 19) (by decide)
    have u3 := World.there_setCells u2 w1.heap.size 0 (ints X)
    have c3 := World.rangeAt_setCells_same (w1.alloc zB) w1.heap.size 0 (ints X) (by rw [hX19]; exact t2)
    have HBC := Lib.hid (below_cells (ints X) (w1.alloc zB) w1.heap.size 0 b2 (by omega))
    clear r0 t1 hb0 hb1 u1 b1 hsz u2 b2 HM
    unfold zB zBA at *
    go_upto_region 4 with (refine wpList_storeB rfl _ _ rfl _ X rfl rfl t2 hX ?_)
    clear t2
    generalize w1.heap.size = g6 at *
    generalize World.setCells _ _ _ _ = wa at *
    refine wp_region_noPanic ?_
    have S_wd : Below wa.heap.size wa wa.drew := (Below.refl _ _).drew
    have R_wd := (show World.rangeAt (wa.drew) g6 0 (ints X) from c3)
    have U_wd := (show World.there (wa.drew) (w.heap.size + 1 + 1) 0 19 from u3)
    clear c3 u3
    refine wp_region_held_drew (S := fun w' : World => w'.rangeAt g6 0 (ints X)) (by kernel_rfl) R_wd (fun hHeld => ?_)
    generalize wa.drew = wd at *
    refine' tkX 0 hHeld ?y_t1 ?r_t1
    case y_t1 =>
     refine' yieldsIf_load_mid ?hw_t1 _ _ rfl _ _ rfl (ints X) _ ?hS_t1 ?hu_t1 ?hd_t1 ?hi_t1
     case hw_t1 => rfl
     case hS_t1 => exact fun (w' : World) (h : w'.rangeAt g6 0 (ints X)) => h
     case hu_t1 => exact Tryz.underlying26
     case hd_t1 => rfl
     case hi_t1 => exact (by rw [show (ints X).length = 19 by simp [ints, hL]]; kernel_rfl)
    try simp only [Act.put, xqA, xqB, xqC]
    refine' tkX 1 hHeld ?y_t2 ?r_t2
    case y_t2 =>
     refine' yieldsIf_load_mid ?hw_t2 _ _ rfl _ _ rfl (ints X) _ ?hS_t2 ?hu_t2 ?hd_t2 ?hi_t2
     case hw_t2 => rfl
     case hS_t2 => exact fun (w' : World) (h : w'.rangeAt g6 0 (ints X)) => h
     case hu_t2 => exact Tryz.underlying26
     case hd_t2 => rfl
     case hi_t2 => exact (by rw [show (ints X).length = 19 by simp [ints, hL]]; kernel_rfl)
    try simp only [Act.put, xqA, xqB, xqC]
    refine wpAnyH_ready (rs := [2]) (by kernel_rfl) (by simp) ?_
    refine' AllReadyH.cons (o := _) ?e_k3 ?st_k3 AllReadyH.nil
    case e_k3 => (simp only [xeA, xeB, xeC]; exact rfl)
    intro K hK
    go_simp
    with_reducible refine (HROW.out wd).mono ?_
    rintro e we4 ⟨u, rfl, ho, hx5⟩
    have R_we4 := range_below R_wd hx5
    clear R_wd
    have U_we4 := there_below U_wd hx5
    clear U_wd
    have I_we4 := Lib.hid (show Ints we4 u (showR X) from Ints.of_own ho)
    obtain ⟨ua, uc, rfl, _⟩ := (Sl.of_own ho).slice
    rw [show (rowOf X true 6).length = 6 from shTo_len X 6] at I_we4 ⊢
    have S_we4 := Below.chain S_wd hx5
    clear ho S_wd hx5
    refine hK.out _ _ R_we4 (fun hHeld => ?_)
    clear hK K
    try simp only [Act.put, xqA, xqB, xqC]
    refine wpAnyH_ready (rs := [3]) (by kernel_rfl) (by simp) ?_
    refine' AllReadyH.cons (o := _) ?e_k6 ?st_k6 AllReadyH.nil
    case e_k6 => (simp only [xeA, xeB, xeC]; exact rfl)
    intro K hK
    go_simp
    with_reducible refine (l2Text_c _ (showR X) we4 I_we4.out hrl hrd).mono ?_
    rintro e _ ⟨rfl, rfl⟩
    clear I_we4
    refine hK.out _ _ R_we4 (fun hHeld => ?_)
    clear hK K
    try simp only [Act.put, xqA, xqB, xqC]
    refine wpAnyH_ready (rs := [4]) (by kernel_rfl) (by simp) ?_
    refine' AllReadyH.cons (o := _) ?e_k8 ?st_k8 AllReadyH.nil
    case e_k8 => (simp only [xeA, xeB, xeC]; exact rfl)
    intro K hK
    rw [if_pos (by rfl)]
    refine wp_store_mid _ _ _ rfl _ _ (ints X).toArray rfl rfl (by rw [show (ints X).toArray.size = 19 by simp [ints, hL]]; exact U_we4) (by simpa using hi19 hL) (all_oneCell_toArray ints_one) ?_
    simp only [Act.put, xqA, xqB, xqC, List.toList_toArray]
    have R_we9 := World.rangeAt_setCells_apart R_we4 (w.heap.size + 1 + 1) 0 (ints X) (.inl (by omega))
    have K5 := loadVarB (World.rangeAt_setCells_same we4 (w.heap.size + 1 + 1) 0 (ints X) (by rw [show (ints X).length = 19 by simp [ints, hL]]; exact U_we4)) hL
    have K6 := below_cells (ints X) we4 (w.heap.size + 1 + 1) 0 (Below.chain HBC.out S_we4) (by omega)
    generalize World.setCells _ _ _ _ = we9 at *
    clear S_we4 U_we4
    refine hK.out _ _ R_we9 (fun hHeld => ?_)
    clear hK K
    try simp only [Act.put, xqA, xqB, xqC]
    refine' tkY 5 hHeld ?r_t10
    try simp only [Act.put, xqA, xqB, xqC]
    refine wpAnyH_done (by kernel_rfl) ?_ _
    refine NoPanic.normal ?_
    go_wp2
    exact bodyPost_ret (v := .tuple #[aggI X, .string (bs (rowTx (showR X)))]) (res_cell2 Tryz.results128 rfl K5) rfl ⟨by rw [HD1.out, HD2.out]; rfl, K6⟩
theorem nums_snoc (l : List Bs) (x : Bs) : numsM (l ++ [x]) = (numsM l).bind fun a => (rdO x).map fun n => a ++ [n] := by
 unfold numsM
 rw [List.mapM_append]
 cases l.mapM rdO with
 | none => rfl
 | some a =>
  cases h : rdO x with
  | none => simp [h]
  | some n => simp [h]
theorem nums_stop (l t : List Bs) (h : numsM l = none) : numsM (l ++ t) = none := by
 unfold numsM at *
 rw [List.mapM_append, h]; rfl
theorem nums_len : ∀ (l : List Bs) (a : List Int), numsM l = some a → a.length = l.length := by
 intro l
 induction l with
 | nil => intro a h; unfold numsM at h; simp at h; subst h; rfl
 | cons x t ih =>
  intro a h
  unfold numsM at h
  simp only [List.mapM_cons] at h
  cases hx : rdO x with
  | none => rw [hx] at h; cases h
  | some n =>
   rw [hx] at h
   cases ht : t.mapM rdO with
   | none => rw [ht] at h; cases h
   | some q =>
    rw [ht] at h
    have := ih q ht
    have h2 : n :: q = a := Option.some.inj h
    rw [← h2]; simp [this]
theorem take_tail {l : List Bs} {k : Nat} {x : Bs} (hk : 1 ≤ k) (hx : l[k]? = some x) : (l.take (k + 1)).tail = (l.take k).tail ++ [x] := by
 rw [take_snoc hx]
 cases h : l.take k with
 | nil =>
  have := congrArg List.length h
  rw [List.length_take, List.length_nil] at this
  have hl := (List.getElem?_eq_some_iff.1 hx).1
  omega
 | cons y t => rfl
theorem tail_split (l : List Bs) (k : Nat) (hk : 1 ≤ k) : l.tail = (l.take k).tail ++ l.drop k := by
 cases l with
 | nil => simp
 | cons y t =>
  obtain ⟨m, rfl⟩ : ∃ m, k = m + 1 := ⟨k - 1, by omega⟩
  simp
def ReadsOut (o : Option (List Int)) (w : World) (e : Ending) (w' : World) : Prop :=
 ∃ u, e = .returned (.tuple #[u, .bool o.isSome]) ∧ w'.ownsRow w.heap.size 3 1 u (o.getD []).length ((o.getD []).map (Value.int .i64)) ∧ Below w.heap.size w w'
set_option maxHeartbeats 2000000 in
theorem l12Read_c (v : Value) (ws : List Bs) (w : World) (hv : Sl w 1 v ws.length (ws.map strV)) (hl : ws.length ≤ 1048577) (hpos : 1 ≤ ws.length) (hs : ∀ x ∈ ws, x.length ≤ 1048576) :
 Calls Tryz.prog 126 #[v] w (ReadsOut (numsM ws.tail) w) := by
 obtain ⟨inf, hi, hz0, hz1, hz2⟩ := info_parts info_int
 obtain ⟨a, c, rfl, h1, h2, h3, h4⟩ := hv
 obtain ⟨b, off, rfl, hc⟩ := h4 (by omega)
 have HC := Lib.hid hc
 have HS := Lib.hid hs
 have HO0 := Lib.hid (World.ownsRow_lit (e := 3) (size := 1) (base := w.heap.size) w #[] 0 (Nat.le_refl _) (by decide) rfl)
 have HB0 := Lib.hid (below_one (w := w) (.cells #[] 3))
 clear hc hs h4 h3
 go_enter Tryz.func126, Tryz.ntmps126
 go_wp2
 go_loopw [4, 5, 6, 7] (fun o i _ _ wr => ∃ (k : Nat) (q : List Int), 1 ≤ k ∧ k ≤ ws.length ∧ i = .int .i64 (k : Int) ∧ Hid (numsM (ws.take k).tail = some q) ∧ wr.ownsRow w.heap.size 3 1 o q.length (q.map (Value.int .i64)) ∧ Below w.heap.size w wr) (fun _ i _ _ _ => ws.length + 1 - (intOf i).toNat)
 case atStart => exact ⟨1, [], by omega, hpos, rfl, (by
  show numsM (ws.take 1).tail = some []
  cases ws with
  | nil => rfl
  | cons y t => rfl), ownsRow_cast HO0.out rfl rfl, HB0.out⟩
 case round =>
  obtain ⟨k, q, hk1, hk, rfl, HQ, ho, hb⟩ := hrel
  have HO := Lib.hid ho
  have HB := Lib.hid hb
  clear ho hb HO0 HB0
  by_cases hlt : k < ws.length
  · have hd : decide ((k : Int) < (ws.length : Int)) = true := by simp; omega
    obtain ⟨x, hxx⟩ := elem_at hlt
    have hcell0 : w.cell? ⟨b, off + k, none⟩ = some (.string (bs x)) := by
     rw [HC.out k (by omega), List.getElem?_map, hxx.out]; rfl
    have hcell := cell_later HB.out hcell0
    have hxl := HS.out x (List.mem_of_getElem? hxx.out)
    have HL := Lib.hid (fun W => l1Read_c (bs x) W (by rw [bs_size]; exact hxl))
    rw [bs_list] at HL
    have HN := Lib.hid (nums_snoc (ws.take k).tail x)
    have HT := Lib.hid (take_tail hk1 hxx.out)
    have hql : q.length ≤ 1048577 := by
     rw [nums_len _ _ HQ.out, List.length_tail, List.length_take]; omega
    clear hcell0
    cases hr : rdO x with
    | none =>
     have HV := Lib.hid (rdV_no hr)
     have HE : Hid (numsM ws.tail = none) := by
      show _ = _
      rw [tail_split ws (k + 1) (by omega), HT.out]
      refine nums_stop _ _ ?_
      rw [HN.out, HQ.out, hr]; rfl
     clear hr
     generalize bs x = X at *
     go_wp2_with fail
     refine (HL.out _).mono ?_
     rintro e w2 ⟨rfl, hb2⟩
     rw [HV.out]
     have HB2 := Lib.hid (Below.chain HB.out hb2)
     clear hb2
     have HZ := Lib.hid (World.ownsRow_lit (e := 3) (size := 1) (base := w.heap.size) w2 #[] 0 HB2.out.size (by decide) rfl)
     go_wp2
     exact bodyPost_ret (v := .tuple #[.slice (some ⟨w2.heap.size, 0, none⟩) 0 0, .bool false]) (by simp [results, Tryz.results126, go_sem]) rfl ⟨_, by rw [HE.out]; rfl, by rw [HE.out]; exact ownsRow_cast HZ.out rfl rfl, Below.alc HB2.out _⟩
    | some n =>
     have HV := Lib.hid (rdV_yes hr)
     have HQ2 : Hid (numsM (ws.take (k + 1)).tail = some (q ++ [n])) := by
      show _ = _
      rw [HT.out, HN.out, HQ.out, hr]; rfl
     clear hr
     generalize bs x = X at *
     go_wp2_with fail
     refine (HL.out _).mono ?_
     rintro e w2 ⟨rfl, hb2⟩
     rw [HV.out]
     have HB2 := Lib.hid (Below.chain HB.out hb2)
     have HO2 := Lib.hid (own_keep HO.out hb2)
     clear hb2 HO HB
     go_wp2_with (at_builtin; refine wpList_append_own_at _ rfl _ _ 37 rfl w.heap.size 3 inf (.int .i64 0) 1 8 Tryz.underlying37 hi hz0 hz1 hz2 rfl (by decide) _ q.length (q.map (Value.int .i64)) rfl (HO2.out.alloc _) ⟨w2.heap.size, 0, none⟩ 1 1 [.int .i64 n] rfl rfl (news_new _ [.int .i64 n] _) (by simp [Value.oneCell']) (by unfold maxLen; omega) (by omega) (by have := HB2.out.size; simp only [World.size_alloc]; omega) ?_)
     intro v' w3 ho5 hg5 _ _
     have HB7 := Lib.hid ((Below.alc HB2.out _).grown hg5 (by have := HB2.out.size; simp only [World.size_alloc]; omega) (fun g hg => (HO2.out.lt g hg).1))
     have HO5 := Lib.hid ho5
     clear ho5 hg5
     go_wp2
     go_roundw
     case rel => exact ⟨k + 1, q ++ [n], by omega, by omega, by go_num, HQ2.out, ownsRow_cast HO5.out (by simp) (by simp), HB7.out⟩
     case measure => first | (simp [intOf]; done) | (simp [intOf]; omega)
  · obtain rfl : k = ws.length := by omega
    have hd : decide ((ws.length : Int) < (ws.length : Int)) = false := by simp
    have HE : Hid (numsM ws.tail = some q) := by show _ = _; have := HQ.out; rw [List.take_length] at this; exact this
    obtain ⟨ua, uc, rfl, _⟩ := (Sl.of_own HO.out).slice
    go_wp2
    exact bodyPost_ret (v := .tuple #[.slice ua q.length uc, .bool true]) (by simp [results, Tryz.results126, go_sem]) rfl ⟨_, by rw [HE.out]; rfl, by rw [HE.out]; exact HO.out, HB.out⟩
theorem split_mem (c : UInt8) (s : Bs) : ∀ x ∈ splitS c s, x.length ≤ s.length := by
 have key : (∀ x ∈ (splSt c s).1, x.length ≤ s.length) ∧ (splSt c s).2.length ≤ s.length := by
  refine snocB (M := fun s => (∀ x ∈ (splSt c s).1, x.length ≤ s.length) ∧ (splSt c s).2.length ≤ s.length) ⟨(fun x hx => by cases hx), Nat.le_refl 0⟩ (fun l y ih => ?_) s
  rw [splSt_snoc, List.length_append]
  unfold splStep
  split
  · refine ⟨fun x hx => ?_, Nat.zero_le _⟩
    rcases List.mem_append.1 hx with h | h
    · have := ih.1 x h; omega
    · rw [List.mem_singleton.1 h]; have := ih.2; omega
  · refine ⟨fun x hx => ?_, ?_⟩
    · have := ih.1 x hx; omega
    · have := ih.2
      simp only [List.length_append, List.length_cons, List.length_nil]; omega
 intro x hx
 unfold splitS at hx
 rcases List.mem_append.1 hx with h | h
 · exact key.1 x h
 · rw [List.mem_singleton.1 h]; exact key.2
theorem split_len (c : UInt8) (s : Bs) : (splitS c s).length ≤ s.length + 1 := by
 obtain ⟨p, h1, h2⟩ := splSt_cur c s
 have h3 := congrArg List.length h1
 rw [List.length_append] at h3
 unfold splitS
 rw [List.length_append]
 simp only [List.length_cons, List.length_nil]
 omega
theorem split_pos (c : UInt8) (s : Bs) : 1 ≤ (splitS c s).length := by unfold splitS; rw [List.length_append]; simp
theorem split_one {c : UInt8} {s x : Bs} (h : splitS c s = [x]) : s = x := by
 rcases first_at s c with ⟨a, b, rfl, ha⟩ | hno
 · obtain ⟨q, l, hq⟩ := split_hit (b := b) ha
   rw [hq] at h; cases h
 · rw [split_miss hno] at h; exact (List.cons.inj h).1
theorem split_head (c : UInt8) (s : Bs) : (splitS c s)[0]? = some ((splitS c s).headD []) := by
 have := split_pos c s
 cases h : splitS c s with
 | nil => rw [h] at this; simp at this
 | cons x t => rfl
def wsL (line : Bs) : List Bs := splitS 32 line
def hdL (line : Bs) : Bs := (wsL line).headD []
theorem execM_def (b : List Int) (line : Bs) : execM b line = match numsM (wsL line).tail with
 | none => (b, none)
 | some l => if 2 < l.length then (b, none) else match kindM (hdL line) with
  | some (k, n) => if l.length = n ∧ possB b k (l.getD 0 0) (l.getD 1 0) = true then (doB b k (l.getD 0 0) (l.getD 1 0), some (rowTx (showR (doB b k (l.getD 0 0) (l.getD 1 0))))) else (b, none)
  | none => (b, askM b (hdL line) l) := rfl
theorem execM_bad {b : List Int} {line : Bs} (h : numsM (wsL line).tail = none) : execM b line = (b, none) := by rw [execM_def, h]
theorem execM_long {b : List Int} {line : Bs} {l : List Int} (h : numsM (wsL line).tail = some l) (hl : 2 < l.length) : execM b line = (b, none) := by
 rw [execM_def, h]; simp only; rw [if_pos hl]
theorem execM_ask {b : List Int} {line : Bs} {l : List Int} (h : numsM (wsL line).tail = some l) (hl : ¬ 2 < l.length) (hk : kindM (hdL line) = none) : execM b line = (b, askM b (hdL line) l) := by
 rw [execM_def, h]; simp only; rw [if_neg hl, hk]
theorem execM_no {b : List Int} {line : Bs} {l : List Int} {k : Int} {n : Nat} (h : numsM (wsL line).tail = some l) (hl : ¬ 2 < l.length) (hk : kindM (hdL line) = some (k, n)) (hno : ¬ (l.length = n ∧ possB b k (l.getD 0 0) (l.getD 1 0) = true)) : execM b line = (b, none) := by
 rw [execM_def, h]; simp only; rw [if_neg hl, hk]; simp only; rw [if_neg hno]
theorem execM_do {b : List Int} {line : Bs} {l : List Int} {k : Int} {n : Nat} (h : numsM (wsL line).tail = some l) (hl : ¬ 2 < l.length) (hk : kindM (hdL line) = some (k, n)) (hn : l.length = n) (hp : possB b k (l.getD 0 0) (l.getD 1 0) = true) :
 execM b line = (doB b k (l.getD 0 0) (l.getD 1 0), some (rowTx (showR (doB b k (l.getD 0 0) (l.getD 1 0))))) := by
 rw [execM_def, h]; simp only; rw [if_neg hl, hk]; simp only; rw [if_pos ⟨hn, hp⟩]
theorem wds_ne : ∀ j : Fin 7, wdsL.getD j.1 [] ≠ wRow ∧ wdsL.getD j.1 [] ≠ wSent ∧ wdsL.getD j.1 [] ≠ wNumber ∧ wdsL.getD j.1 [] ≠ wBars ∧ wdsL.getD j.1 [] ≠ wFirst ∧ wdsL.getD j.1 [] ≠ wLeast ∧ wdsL.getD j.1 [] ≠ wBulbs ∧ wdsL.getD j.1 [] ≠ wFull := by decide +kernel
theorem wds_ne2 : ∀ j : Fin 7, wdsL.getD j.1 [] ≠ wDigits ∧ wdsL.getD j.1 [] ≠ wTold ∧ wdsL.getD j.1 [] ≠ wImages ∧ wdsL.getD j.1 [] ≠ wHarmless ∧ wdsL.getD j.1 [] ≠ wNear ∧ wdsL.getD j.1 [] ≠ wSame := by decide +kernel
theorem kind_le {w : Bs} {k : Int} {n : Nat} (h : kindM w = some (k, n)) : 1 ≤ k ∧ k ≤ 7 ∧ n ≤ 2 := by
 obtain ⟨j, hj, _, rfl, rfl⟩ := kind_of h
 have : ∀ i : Fin 7, manyL.getD i.1 0 ≤ 2 := by decide
 exact ⟨by omega, by omega, this ⟨j, hj⟩⟩
theorem kind_tell {b : List Int} {w : Bs} {k : Int} {n : Nat} (h : kindM w = some (k, n)) : tellM b w = none := by
 obtain ⟨j, hj, rfl, _, _⟩ := kind_of h
 obtain ⟨h1, h2, h3, h4, h5, h6, _, _⟩ := wds_ne ⟨j, hj⟩
 unfold tellM
 rw [if_neg h1, if_neg h2, if_neg h3, if_neg h4, if_neg h5, if_neg h6]
theorem kind_place {b : List Int} {w : Bs} {k : Int} {n : Nat} (h : kindM w = some (k, n)) (x : Int) : placeM b w x = none := by
 obtain ⟨j, hj, rfl, _, _⟩ := kind_of h
 obtain ⟨h1, h2, h3, h4, h5, h6⟩ := wds_ne2 ⟨j, hj⟩
 unfold placeM
 split
 · rfl
 · first
   | rw [if_neg h1, if_neg h2, if_neg h3, if_neg h4, if_neg h5, if_neg h6]
   | (simp only; rw [if_neg h1, if_neg h2, if_neg h3, if_neg h4, if_neg h5, if_neg h6])
   | (simp only; done)
theorem kind_ask {b : List Int} {w : Bs} {k : Int} {n : Nat} (h : kindM w = some (k, n)) (l : List Int) : askM b w l = none := by
 obtain ⟨j, hj, hw, _, _⟩ := kind_of h
 obtain ⟨_, _, _, _, _, _, h7, h8⟩ := wds_ne ⟨j, hj⟩
 rw [← hw] at h7 h8
 unfold askM
 split
 · exact kind_tell h
 · rw [if_neg h7]; exact kind_place h _
 · rw [if_neg h8]
 · rfl
theorem line_one {line : Bs} (h : (wsL line).tail = []) : hdL line = line := by
 have h1 := split_pos 32 line
 have h2 : splitS 32 line = [hdL line] := by
  unfold hdL wsL at *
  cases hs : splitS 32 line with
  | nil => rw [hs] at h1; simp at h1
  | cons x t => rw [hs] at h; simp at h; rw [h]; rfl
 exact (split_one h2).symm
theorem nums_nil {ws : List Bs} (h : numsM ws = some []) : ws = [] := by
 have := nums_len _ _ h
 exact List.eq_nil_of_length_eq_zero this.symm
theorem sayM_ask {b : List Int} {line : Bs} {l : List Int} (h : numsM (wsL line).tail = some l) (hk : ∀ k n, kindM (hdL line) = some (k, n) → l.length ≠ n) : execM b line = (b, askM b (hdL line) l) := by
 by_cases hl : 2 < l.length
 · rw [execM_long h hl]
   rcases l with _ | ⟨x, _ | ⟨y, _ | ⟨z, t⟩⟩⟩
   · simp at hl
   · simp at hl
   · simp at hl
   · rfl
 · cases hq : kindM (hdL line) with
   | none => exact execM_ask h hl hq
   | some p =>
    obtain ⟨k, n⟩ := p
    rw [execM_no h hl hq (fun hh => hk k n hq hh.1), kind_ask hq]
theorem row_none (w : World) (lo : Nat) (h : lo ≤ w.heap.size) : (w.alloc (.cells #[] 3)).ownsRow lo 3 1 (.slice (some ⟨w.heap.size, 0, none⟩) 0 0) 0 [] :=
 World.ownsRow_lit (e := 3) (size := 1) (base := lo) w #[] 0 h (by decide) rfl
set_option maxHeartbeats 2000000 in
theorem l5Nearest_c (v : Value) (c : Int) (c0 : 0 ≤ c) (c1 : c ≤ 127) (w : World) (hv : Ints w v dig) :
 Calls Tryz.prog 236 #[v, .int .i64 c] w fun e w' => ∃ u m, e = .returned (.tuple #[u, .int .i64 m]) ∧ w'.ownsRow w.heap.size 3 1 u (nearL c).length ((nearL c).map (Value.int .i64)) ∧ Below w.heap.size w w' := by
 obtain ⟨inf, hi, hz0, hz1, hz2⟩ := info_parts info_int
 obtain ⟨a, cc, rfl, hcc, hcm, HC⟩ := hv.parts
 clear hv
 have HLD : Hid (dig.length = 10) := rfl
 rw [HLD.out] at hcc ⊢
 have HNL : Hid (nearL c = atC c (leastC c 10) 10) := rfl
 have HO0 := Lib.hid (row_none w w.heap.size (Nat.le_refl _))
 have HB0 := Lib.hid (below_one (w := w) (.cells #[] 3))
 go_enter Tryz.func236, Tryz.ntmps236
 go_wp2
 go_loopw [6, 7, 8, 9] (fun o m i _ wr => ∃ k : Nat, k ≤ 10 ∧ i = .int .i64 (k : Int) ∧ m = .int .i64 ((leastC c k : Nat) : Int) ∧ wr.ownsRow w.heap.size 3 1 o (atC c (leastC c k) k).length ((atC c (leastC c k) k).map (Value.int .i64)) ∧ Below w.heap.size w wr) (fun _ _ i _ _ => 11 - (intOf i).toNat)
 case atStart => exact ⟨0, by omega, rfl, rfl, ownsRow_cast HO0.out rfl rfl, HB0.out⟩
 case round =>
  obtain ⟨k, hk, rfl, rfl, ho, hb⟩ := hrel
  have HO := Lib.hid ho
  have HB := Lib.hid hb
  clear ho hb HO0 HB0
  by_cases hlt : k < 10
  · have hd : decide ((k : Int) < 10) = true := by simp; omega
    obtain ⟨b, off, rfl, hc0⟩ := HC.out k (dg (k : Int)) (digs_get hlt)
    have hcell := cell_later HB.out hc0
    have HF := Lib.hid (fun W => l2FarC_c k c c0 c1 W)
    have HL : Hid (leastC c (k + 1) = min (leastC c k) (farC c k)) := rfl
    have HS := Lib.hid (fun m => atC_succ c m k)
    have HZ := Lib.hid (fun (h : farC c k < leastC c k) => atC_none h)
    have hle := atC_le c (leastC c k) k
    have hl8 := least_le c k
    clear hc0
    generalize hcur : atC c (leastC c k) k = cur at *
    generalize leastC c k = m at *
    have HCU := Lib.hid hcur
    clear hcur
    generalize hf : farC c k = f at *
    have HFF := Lib.hid hf
    clear hf
    by_cases h1 : f < m
    · have t1 : (f : Int) < (m : Int) := by omega
      have HL2 : Hid (leastC c (k + 1) = f) := by show _ = _; rw [HL.out]; omega
      have HS2 : Hid (atC c f (k + 1) = [(k : Int)]) := by show _ = _; rw [HS.out, HZ.out h1]; simp
      have HOZ := Lib.hid (row_none wr w.heap.size HB.out.size)
      have HBZ := Lib.hid (Below.alc HB.out (.cells #[] 3))
      clear HL HS HZ HO
      go_wp2_with fail
      refine (HF.out _).mono ?_
      rintro e w2 ⟨rfl, rfl⟩
      go_wp2_with (at_builtin; refine wpList_append_own_at _ rfl _ _ 37 rfl w.heap.size 3 inf (.int .i64 0) 1 8 Tryz.underlying37 hi hz0 hz1 hz2 rfl (by decide) _ 0 ([] : List Value) rfl (HOZ.out.alloc _) ⟨wr.heap.size + 1, 0, none⟩ 1 1 [.int .i64 (k : Int)] rfl rfl (by have h := news_new (wr.alloc (.cells #[] 3)) [.int .i64 (k : Int)] 3; rw [World.size_alloc] at h; exact h) (by simp [Value.oneCell']) (by unfold maxLen; omega) (by omega) (by have := HB.out.size; simp only [World.size_alloc]; omega) ?_)
      intro v' w3 ho5 hg5 _ _
      have HB7 := Lib.hid ((Below.alc HBZ.out _).grown hg5 (by have := HB.out.size; simp only [World.size_alloc]; omega) (fun g hg => (HOZ.out.lt g hg).1))
      have HO5 := Lib.hid ho5
      clear ho5 hg5
      go_wp2
      go_roundw
      case rel => exact ⟨k + 1, by omega, by go_num, by rw [HL2.out], by rw [HL2.out, HS2.out]; exact ownsRow_cast HO5.out rfl rfl, HB7.out⟩
      case measure => first | (simp [intOf]; done) | (simp [intOf]; omega)
    · have t1 : ¬ (f : Int) < (m : Int) := by omega
      have HL2 : Hid (leastC c (k + 1) = m) := by show _ = _; rw [HL.out]; omega
      by_cases h2 : f = m
      · subst h2
        have HS2 : Hid (atC c f (k + 1) = cur ++ [(k : Int)]) := by show _ = _; rw [HS.out, HCU.out]; simp
        have hee : ((f : Int) == (f : Int)) = true := by simp
        clear HL HS HZ
        go_wp2_with fail
        refine (HF.out _).mono ?_
        rintro e w2 ⟨rfl, rfl⟩
        go_wp2_with (at_builtin; refine wpList_append_own_at _ rfl _ _ 37 rfl w.heap.size 3 inf (.int .i64 0) 1 8 Tryz.underlying37 hi hz0 hz1 hz2 rfl (by decide) _ cur.length (cur.map (Value.int .i64)) rfl (HO.out.alloc _) ⟨wr.heap.size, 0, none⟩ 1 1 [.int .i64 (k : Int)] rfl rfl (news_new _ [.int .i64 (k : Int)] _) (by simp [Value.oneCell']) (by unfold maxLen; omega) (by omega) (by have := HB.out.size; simp only [World.size_alloc]; omega) ?_)
        intro v' w3 ho5 hg5 _ _
        have HB7 := Lib.hid ((Below.alc HB.out _).grown hg5 (by have := HB.out.size; simp only [World.size_alloc]; omega) (fun g hg => (HO.out.lt g hg).1))
        have HO5 := Lib.hid ho5
        clear ho5 hg5
        go_wp2
        go_roundw
        case rel => exact ⟨k + 1, by omega, by go_num, by rw [HL2.out], by rw [HL2.out, HS2.out]; exact ownsRow_cast HO5.out (by simp) (by simp), HB7.out⟩
        case measure => first | (simp [intOf]; done) | (simp [intOf]; omega)
      · have hee : ((f : Int) == (m : Int)) = false := by simp; omega
        have HS2 : Hid (atC c m (k + 1) = cur) := by show _ = _; rw [HS.out, HCU.out]; simp [h2]
        clear HL HS HZ
        go_wp2_with fail
        refine (HF.out _).mono ?_
        rintro e w2 ⟨rfl, rfl⟩
        go_wp2
        go_roundw
        case rel => exact ⟨k + 1, by omega, by go_num, by rw [HL2.out], by rw [HL2.out, HS2.out]; exact HO.out, HB.out⟩
        case measure => first | (simp [intOf]; done) | (simp [intOf]; omega)
  · obtain rfl : k = 10 := by omega
    go_wp2
    exact bodyPost_ret (v := .tuple #[_, .int .i64 ((leastC c 10 : Nat) : Int)]) (by simp [results, Tryz.results236, go_sem]; rfl) rfl ⟨_, _, rfl, by rw [HNL.out]; exact HO.out, HB.out⟩
theorem ten_new : ∀ k : Fin 10, (k.1 : Int) ∉ tenI.take k.1 := by decide +kernel
theorem ten_at {k : Nat} (h : k < 10) : tenI[k]? = some (k : Int) := by
 have : ∀ j : Fin 10, tenI[j.1]? = some (j.1 : Int) := by decide +kernel
 exact this ⟨k, h⟩
theorem Has_c (v : Value) (xs : List Int) (x : Int) (w : World) (hv : Ints w v xs) (hn : x ∉ xs) : Calls Tryz.prog 271 #[v, .int .i64 x] w fun e w' => e = .returned (.bool false) ∧ w = w' := by
 obtain ⟨a, c, rfl, _, _, HC⟩ := hv.parts
 have HN := Lib.hid hn
 clear hv hn
 go_enter Tryz.func271, Tryz.ntmps271
 go_wp2
 go_loopw [5] (fun i wr => ∃ k : Nat, k ≤ xs.length ∧ i = .int .i64 (k : Int) ∧ w = wr) (fun i _ => xs.length + 1 - (intOf i).toNat)
 case atStart => exact ⟨0, by omega, rfl, by trivial⟩
 case round =>
  obtain ⟨k, hk, rfl, rfl⟩ := hrel
  by_cases hlt : k < xs.length
  · have hd : decide ((k : Int) < (xs.length : Int)) = true := by simp; omega
    obtain ⟨y, hy⟩ := elem_at hlt
    obtain ⟨b, off, rfl, hc⟩ := HC.out k y hy.out
    have hne : (y == x) = false := by
     simp
     intro e
     exact HN.out (e ▸ List.mem_of_getElem? hy.out)
    go_wp2
    go_roundw
    case rel => exact ⟨k + 1, by omega, by go_num, by trivial⟩
    case measure => first | (simp [intOf]; done) | (simp [intOf]; omega)
  · obtain rfl : k = xs.length := by omega
    have hd : decide ((xs.length : Int) < (xs.length : Int)) = false := by simp
    go_wp2
    go_ret
    exact ⟨rfl, rfl⟩
set_option maxHeartbeats 4000000 in
theorem DigitCode_c (v : Value) (w : World) (hv : Ints w v tenI) :
 Calls Tryz.prog 235 #[v] w fun e w' => ∃ u, e = .returned (.tuple #[u, .bool true]) ∧ w'.ownsRow w.heap.size 3 1 u 10 (dig.map (Value.int .i64)) ∧ Below w.heap.size w w' := by
 obtain ⟨inf, hi, hz0, hz1, hz2⟩ := info_parts info_int
 have HV := Lib.hid hv
 obtain ⟨a, cc, rfl, hcc, hcm, HC⟩ := hv.parts
 clear hv
 have HLD : Hid (tenI.length = 10) := rfl
 rw [HLD.out] at hcc ⊢
 have hin : inB 10 1 10 = true := by decide
 have HO0 := Lib.hid (row_none w w.heap.size (Nat.le_refl _))
 have HB0 := Lib.hid (below_one (w := w) (.cells #[] 3))
 go_enter Tryz.func235, Tryz.ntmps235
 go_wp2_with fail
 refine (l1In_c _ _ _ _).mono ?_
 rintro e w1 ⟨rfl, rfl⟩
 rw [hin]
 go_wp2
 go_loopw [4, 5] (fun o i wr => ∃ k : Nat, k ≤ 10 ∧ i = .int .i64 (k : Int) ∧ wr.ownsRow w.heap.size 3 1 o k ((dig.take k).map (Value.int .i64)) ∧ Below w.heap.size w wr) (fun _ i _ => 11 - (intOf i).toNat)
 case atStart => exact ⟨0, by omega, rfl, HO0.out, HB0.out⟩
 case round =>
  obtain ⟨k, hk, rfl, ho, hb⟩ := hrel
  have HO := Lib.hid ho
  have HB := Lib.hid hb
  clear ho hb HO0 HB0
  by_cases hlt : k < 10
  · have hd : decide ((k : Int) < 10) = true := by simp; omega
    obtain ⟨b, off, rfl, hc0⟩ := HC.out k (k : Int) (ten_at hlt)
    have HPT := Lib.hid ((HV.out.take (k := k) (by rw [HLD.out]; omega)).below HB.out)
    have HIN : Hid (inB (k : Int) 0 9 = true) := inB_mk (by omega) (by omega)
    have HS := Lib.hid (take_map (Value.int .i64) (digs_get hlt))
    have hcell := cell_later HB.out hc0
    have hkc : k ≤ cc := by omega
    have hk10 : (k : Int) < 10 := by omega
    clear hc0
    go_wp2_with fail
    rename World => wz
    refine wp_region_noPanic ?_
    refine wp_region_held_drew (S := fun w' : World => w'.cell? ⟨b, off + k, none⟩ = some (.int .i64 (k : Int)) ∧ Below wz.heap.size wz w') (by kernel_rfl) ⟨hcell, (Below.refl _ _).drew⟩ (fun hHeld => ?_)
    refine' tkY 0 hHeld ?r_1
    try simp only [Act.put, xqA, xqB, xqC]
    refine' tkY 1 hHeld ?r_2
    try simp only [Act.put, xqA, xqB, xqC]
    refine' tkY 2 hHeld ?r_3
    try simp only [Act.put, xqA, xqB, xqC]
    refine' tkX 3 hHeld ?y_4 ?r_4
    case y_4 => exact Or.inl ⟨by rfl, by (intro w hSw; obtain ⟨h0, _⟩ := hSw; go_simp; first | done | with_reducible rfl)⟩
    try simp only [Act.put, xqA, xqB, xqC]
    refine wpAnyH_ready (rs := [4]) (by kernel_rfl) (by simp) ?_
    refine' AllReadyH.cons (o := _) ?e_5 ?st_5 AllReadyH.nil
    case e_5 => (simp only [xeA, xeB, xeC]; exact rfl)
    intro K hK
    go_simp
    have lB := hHeld
    with_reducible refine (l1In_c _ _ _ _).mono ?_
    rintro e c1 ⟨rfl, rfl⟩
    rw [HIN.out]
    go_wp2_with fail
    refine hK.out _ _ lB (fun hHeld => ?_)
    clear lB
    clear hK K
    try simp only [Act.put, xqA, xqB, xqC]
    refine' tkY 5 hHeld ?r_6
    try simp only [Act.put, xqA, xqB, xqC]
    refine' tkY 6 hHeld ?r_7
    try simp only [Act.put, xqA, xqB, xqC]
    refine' tkY 7 hHeld ?r_8
    try simp only [Act.put, xqA, xqB, xqC]
    refine' tkY 8 hHeld ?r_9
    try simp only [Act.put, xqA, xqB, xqC]
    refine' tkY 9 hHeld ?r_10
    try simp only [Act.put, xqA, xqB, xqC]
    refine' tkY 10 hHeld ?r_11
    try simp only [Act.put, xqA, xqB, xqC]
    refine' tkY 11 hHeld ?r_12
    try simp only [Act.put, xqA, xqB, xqC]
    refine' tkY 12 hHeld ?r_13
    try simp only [Act.put, xqA, xqB, xqC]
    refine' tkX 13 hHeld ?y_14 ?r_14
    case y_14 => exact Or.inl ⟨by rfl, by (intro w hSw; obtain ⟨h0, _⟩ := hSw; go_simp; first | done | with_reducible rfl)⟩
    try simp only [Act.put, xqA, xqB, xqC]
    refine wpAnyH_ready (rs := [14]) (by kernel_rfl) (by simp) ?_
    refine' AllReadyH.cons (o := _) ?e_15 ?st_15 AllReadyH.nil
    case e_15 => (simp only [xeA, xeB, xeC]; exact rfl)
    intro K hK
    go_simp
    have lB := hHeld
    with_reducible refine (Has_c _ (tenI.take k) (k : Int) _ (HPT.out.below lB.2) (ten_new ⟨k, hlt⟩)).mono ?_
    rintro e c2 ⟨rfl, rfl⟩
    go_wp2_with fail
    refine hK.out _ _ lB (fun hHeld => ?_)
    clear lB
    clear hK K
    try simp only [Act.put, xqA, xqB, xqC]
    refine' tkY 15 hHeld ?r_16
    try simp only [Act.put, xqA, xqB, xqC]
    refine wpAnyH_done (by kernel_rfl) ?_ _
    refine NoPanic.normal ?_
    obtain ⟨hc2, hB2⟩ := hHeld
    have HBZ := Lib.hid (Below.chain HB.out hB2)
    have HOZ := Lib.hid (own_keep HO.out hB2)
    clear hB2 hcell
    go_wp2_with fail
    with_reducible refine (l2Digit_c (k : Int) (by omega) (by omega) _).mono ?_
    rintro e w2 ⟨rfl, hb2⟩
    have HB2 := Lib.hid (Below.chain HBZ.out hb2)
    have HO2 := Lib.hid (own_keep HOZ.out hb2)
    clear hb2
    go_wp2_with (at_builtin; refine wpList_append_own_at _ rfl _ _ 37 rfl w.heap.size 3 inf (.int .i64 0) 1 8 Tryz.underlying37 hi hz0 hz1 hz2 rfl (by decide) _ k ((dig.take k).map (Value.int .i64)) rfl (HO2.out.alloc _) ⟨w2.heap.size, 0, none⟩ 1 1 [.int .i64 (dg (k : Int))] rfl rfl (news_new _ [.int .i64 (dg (k : Int))] _) (by simp [Value.oneCell']) (by unfold maxLen; omega) (by omega) (by have := HB2.out.size; simp only [World.size_alloc]; omega) ?_)
    intro v' w3 ho5 hg5 _ _
    have HB7 := Lib.hid ((Below.alc HB2.out _).grown hg5 (by have := HB2.out.size; simp only [World.size_alloc]; omega) (fun g hg => (HO2.out.lt g hg).1))
    have HO5 := Lib.hid ho5
    clear ho5 hg5
    go_wp2
    go_roundw
    case rel => exact ⟨k + 1, by omega, by go_num, ownsRow_cast HO5.out rfl (by rw [HS.out, List.map_take]), HB7.out⟩
    case measure => first | (simp [intOf]; done) | (simp [intOf]; omega)
  · obtain rfl : k = 10 := by omega
    go_wp2
    exact bodyPost_ret (v := .tuple #[_, .bool true]) (by simp [results, Tryz.results235, go_sem] <;> rfl) rfl ⟨_, rfl, HO.out, HB.out⟩
end Go.Proofs.YtohgjfdbnkjefaaGreatDoor
