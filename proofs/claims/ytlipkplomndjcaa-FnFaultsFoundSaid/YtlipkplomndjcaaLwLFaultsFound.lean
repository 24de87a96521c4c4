/- The walk of the law FnFaultsFound: for every code it returns true and turns nothing that was there. -/
import Derived.Test.YtlipkplomndjcaaFf
import Derived.Test.YtlipkplomndjcaaDrawF
import Derived.Test.YtlipkplomndjcaaVs
import Derived.Test.YtlipkplomndjcaaVp
import Derived.Test.YtlipkplomndjcaaShows
namespace Go.Proofs.Ytlipkplomndjcaa
open Go.RowKit
set_option linter.unusedVariables false
set_option linter.unusedSimpArgs false
set_option maxRecDepth 100000
set_option maxHeartbeats 4000000 in
theorem FnFaultsFound_walk (v : Value) (xs : List Nat) (w : World) (h : Code w v xs) :
    Calls Try.prog 3 #[v] w fun e w' => e = .returned (.bool true) ∧ Below w.heap.size w w' := by
  have HK := Lib.hid h
  obtain ⟨a, c, rfl, _⟩ := h
  have HV := Lib.hid (vBig_c _ _ _ HK.out)
  by_cases hbig : 65536 < xs.length
  · have hd : decide (65536 < xs.length) = true := decide_eq_true hbig
    go_enter Try.func3, Try.ntmps3
    go_wp2_with fail
    refine HV.out.mono ?_
    rintro e w1 ⟨rfl, rfl⟩
    go_wp2
    go_ret
    exact ⟨rfl, Below.refl _ _⟩
  have hd : decide (65536 < xs.length) = false := decide_eq_false hbig
  go_enter Try.func3, Try.ntmps3
  go_wp2_with fail
  refine HV.out.mono ?_
  rintro e _ ⟨rfl, rfl⟩
  go_wp2_with fail
  refine (DrawFaultsOf_c _ xs _ HK.out).mono ?_
  rintro e w1 ⟨v1, v2, ds, cs, rfl, hi1, hi2, hb1⟩
  have B1 := Lib.hid (hb1)
  have z1 := Lib.hid (hb1.size)
  replace HK := Lib.hid (HK.out.below hb1)
  have HD := Lib.hid (hi1)
  have HC := Lib.hid (hi2)
  clear hb1
  clear hi1 hi2
  go_wp2_with fail
  refine (FaultsOf_c _ _ ds cs _ HD.out HC.out).mono ?_
  rintro e w2 ⟨u1, rfl, ho, hb2⟩
  have B2 := Lib.hid (Below.chain B1.out hb2)
  have z2 := Lib.hid (hb2.size)
  clear B1
  replace HK := Lib.hid (HK.out.below hb2)
  replace HD := Lib.hid (HD.out.below hb2)
  replace HC := Lib.hid (HC.out.below hb2)
  have HL := Lib.hid (Pairs.of_own ho)
  clear hb2
  clear ho
  go_wp2_with fail
  refine (sFaultsOf_c _ _ ds cs _ HD.out HC.out).mono ?_
  rintro e w3 ⟨u2, rfl, ho, hb3⟩
  have B3 := Lib.hid (Below.chain B2.out hb3)
  have z3 := Lib.hid (hb3.size)
  clear B2
  replace HK := Lib.hid (HK.out.below hb3)
  replace HD := Lib.hid (HD.out.below hb3)
  replace HC := Lib.hid (HC.out.below hb3)
  replace HL := Lib.hid (HL.out.below hb3)
  have HM := Lib.hid (Pairs.of_own ho)
  clear hb3
  clear ho
  go_wp2_with fail
  refine (vCut_c 1 _ xs _ HK.out (by omega) (by decide)).mono ?_
  rintro e w4 ⟨vc, ys, rfl, hcy, hyl, hb4⟩
  have B4 := Lib.hid (Below.chain B3.out hb4)
  have z4 := Lib.hid (hb4.size)
  clear B3
  replace HK := Lib.hid (HK.out.below hb4)
  replace HD := Lib.hid (HD.out.below hb4)
  replace HC := Lib.hid (HC.out.below hb4)
  replace HL := Lib.hid (HL.out.below hb4)
  replace HM := Lib.hid (HM.out.below hb4)
  have HY := Lib.hid (hcy)
  clear hb4
  clear hcy
  clear HK
  go_wp2_with fail
  refine (DrawCountNumbers_c _ ys _ HY.out).mono ?_
  rintro e w5 ⟨v3, v4, ps, r, rfl, hi1, hi2, hb5⟩
  have B5 := Lib.hid (Below.chain B4.out hb5)
  have z5 := Lib.hid (hb5.size)
  clear B4
  replace HD := Lib.hid (HD.out.below hb5)
  replace HC := Lib.hid (HC.out.below hb5)
  replace HL := Lib.hid (HL.out.below hb5)
  replace HM := Lib.hid (HM.out.below hb5)
  replace HY := Lib.hid (HY.out.below hb5)
  have HP := Lib.hid (hi1)
  have HR := Lib.hid (hi2)
  clear hb5
  clear hi1 hi2
  clear HY
  go_wp2_with fail
  refine (CountNumbers_c _ _ ps r _ HP.out HR.out).mono ?_
  rintro e w6 ⟨rfl, hb6⟩
  have B6 := Lib.hid (Below.chain B5.out hb6)
  have z6 := Lib.hid (hb6.size)
  clear B5
  replace HD := Lib.hid (HD.out.below hb6)
  replace HC := Lib.hid (HC.out.below hb6)
  replace HL := Lib.hid (HL.out.below hb6)
  replace HM := Lib.hid (HM.out.below hb6)
  replace HP := Lib.hid (HP.out.below hb6)
  replace HR := Lib.hid (HR.out.below hb6)
  clear hb6
  unfold cnV
  go_wp2_with fail
  refine (sCountNumbers_c _ _ ps r _ HP.out HR.out).mono ?_
  rintro e w7 ⟨rfl, hb7⟩
  have B7 := Lib.hid (Below.chain B6.out hb7)
  have z7 := Lib.hid (hb7.size)
  clear B6
  replace HD := Lib.hid (HD.out.below hb7)
  replace HC := Lib.hid (HC.out.below hb7)
  replace HL := Lib.hid (HL.out.below hb7)
  replace HM := Lib.hid (HM.out.below hb7)
  replace HP := Lib.hid (HP.out.below hb7)
  replace HR := Lib.hid (HR.out.below hb7)
  clear hb7
  unfold cnV
  go_wp2_with fail
  refine (FirstNumber_c _ _ ps r _ HP.out HR.out).mono ?_
  rintro e w8 ⟨u3, rfl, ho, hb8⟩
  have B8 := Lib.hid (Below.chain B7.out hb8)
  have z8 := Lib.hid (hb8.size)
  clear B7
  replace HD := Lib.hid (HD.out.below hb8)
  replace HC := Lib.hid (HC.out.below hb8)
  replace HL := Lib.hid (HL.out.below hb8)
  replace HM := Lib.hid (HM.out.below hb8)
  replace HP := Lib.hid (HP.out.below hb8)
  replace HR := Lib.hid (HR.out.below hb8)
  have HF := Lib.hid (Ints.of_own ho)
  clear hb8
  clear ho
  go_wp2_with fail
  refine (sFirstNumber_c _ _ ps r _ HP.out HR.out).mono ?_
  rintro e w9 ⟨u4, rfl, ho, hb9⟩
  have B9 := Lib.hid (Below.chain B8.out hb9)
  have z9 := Lib.hid (hb9.size)
  clear B8
  replace HD := Lib.hid (HD.out.below hb9)
  replace HC := Lib.hid (HC.out.below hb9)
  replace HL := Lib.hid (HL.out.below hb9)
  replace HM := Lib.hid (HM.out.below hb9)
  replace HP := Lib.hid (HP.out.below hb9)
  replace HR := Lib.hid (HR.out.below hb9)
  replace HF := Lib.hid (HF.out.below hb9)
  have HG := Lib.hid (Ints.of_own ho)
  clear hb9
  clear ho
  have HX := Lib.hid (fnOk_eq ps r)
  have HW := Lib.hid (fun (h : fnOk ps r = true) => first_shows h)
  have HZ := Lib.hid (fun (f : Int × Int) (h : f ∈ foL ds cs) => foL_mem h)
  have HA := Lib.hid (foL_asc ds cs)
  have hLE := (foL_le ds cs)
  have hm : ∀ (t : Int), (t != t) = false := by simp
  have hmb : ∀ (t : Bool), (t != t) = false := by simp
  generalize hLL : foL ds cs = L at *
  generalize hok1 : foOk ds cs = ok1 at *
  generalize cnN ps r = N at *
  generalize cnOk ps r = ok2 at *
  generalize fnOk ps r = ok3 at *
  have HFe := Lib.hid (show fnL ps r = fnL ps r from rfl)
  generalize hFF : fnL ps r = F at *
  have HOK := Lib.hid hok1
  clear hLL hok1 HFe hFF
  have hfin : ok3 = false ∨ ok3 = true := by cases ok3 <;> simp
  have hcase : (ok2 = false ∧ ok3 = false) ∨ (ok2 = true ∧ decide (0 < N) = false ∧ ok3 = false) ∨ (ok2 = true ∧ decide (0 < N) = true ∧ ok3 = true) := by
    have := HX.out
    cases ok2
    · left; simpa using this
    · right
      cases hN : decide (0 < N)
      · left; rw [hN] at this; exact ⟨rfl, rfl, by simpa using this⟩
      · right; rw [hN] at this; exact ⟨rfl, rfl, by simpa using this⟩
  clear hfin HX
  cases ok1 with
  | false =>
    rcases hcase with ⟨hcb, hcc⟩ | ⟨hcb, hcN, hcc⟩ | ⟨hcb, hcN, hcc⟩
    · as_aux_lemma =>
        subst hcb hcc
        go_wp2_with fail
        refine (vFaultsSame_c _ _ L _ HL.out HM.out).mono ?_
        rintro e wv ⟨rfl, hbv⟩
        have Bv := Lib.hid (Below.chain B9.out hbv)
        replace HD := Lib.hid (HD.out.below hbv)
        replace HC := Lib.hid (HC.out.below hbv)
        replace HL := Lib.hid (Pairs.below HL.out hbv)
        replace HP := Lib.hid (Pairs.below HP.out hbv)
        replace HR := Lib.hid (HR.out.below hbv)
        replace HF := Lib.hid (HF.out.below hbv)
        replace HG := Lib.hid (HG.out.below hbv)
        clear hbv B9 z9 HM
        go_wp2_with fail
        refine (vInts_c _ _ F F _ HF.out HG.out).mono ?_
        rintro e ww ⟨rfl, hbw⟩
        have Bw := Lib.hid (Below.chain Bv.out hbw)
        have hFF : decide (F = F) = true := decide_eq_true rfl
        rw [hFF]
        replace HD := Lib.hid (HD.out.below hbw)
        replace HC := Lib.hid (HC.out.below hbw)
        replace HL := Lib.hid (Pairs.below HL.out hbw)
        replace HP := Lib.hid (Pairs.below HP.out hbw)
        replace HR := Lib.hid (HR.out.below hbw)
        replace HF := Lib.hid (HF.out.below hbw)
        clear hbw Bv hFF HG
        go_wp2
        go_ret
        exact ⟨rfl, Bw.out⟩
    · as_aux_lemma =>
        subst hcb hcc
        go_wp2_with fail
        refine (vFaultsSame_c _ _ L _ HL.out HM.out).mono ?_
        rintro e wv ⟨rfl, hbv⟩
        have Bv := Lib.hid (Below.chain B9.out hbv)
        replace HD := Lib.hid (HD.out.below hbv)
        replace HC := Lib.hid (HC.out.below hbv)
        replace HL := Lib.hid (Pairs.below HL.out hbv)
        replace HP := Lib.hid (Pairs.below HP.out hbv)
        replace HR := Lib.hid (HR.out.below hbv)
        replace HF := Lib.hid (HF.out.below hbv)
        replace HG := Lib.hid (HG.out.below hbv)
        clear hbv B9 z9 HM
        go_wp2_with fail
        refine (vInts_c _ _ F F _ HF.out HG.out).mono ?_
        rintro e ww ⟨rfl, hbw⟩
        have Bw := Lib.hid (Below.chain Bv.out hbw)
        have hFF : decide (F = F) = true := decide_eq_true rfl
        rw [hFF]
        replace HD := Lib.hid (HD.out.below hbw)
        replace HC := Lib.hid (HC.out.below hbw)
        replace HL := Lib.hid (Pairs.below HL.out hbw)
        replace HP := Lib.hid (Pairs.below HP.out hbw)
        replace HR := Lib.hid (HR.out.below hbw)
        replace HF := Lib.hid (HF.out.below hbw)
        clear hbw Bv hFF HG
        go_wp2
        go_ret
        exact ⟨rfl, Bw.out⟩
    · as_aux_lemma =>
        subst hcb hcc
        go_wp2_with fail
        refine (vFaultsSame_c _ _ L _ HL.out HM.out).mono ?_
        rintro e wv ⟨rfl, hbv⟩
        have Bv := Lib.hid (Below.chain B9.out hbv)
        replace HD := Lib.hid (HD.out.below hbv)
        replace HC := Lib.hid (HC.out.below hbv)
        replace HL := Lib.hid (Pairs.below HL.out hbv)
        replace HP := Lib.hid (Pairs.below HP.out hbv)
        replace HR := Lib.hid (HR.out.below hbv)
        replace HF := Lib.hid (HF.out.below hbv)
        replace HG := Lib.hid (HG.out.below hbv)
        clear hbv B9 z9 HM
        go_wp2_with fail
        refine (vInts_c _ _ F F _ HF.out HG.out).mono ?_
        rintro e ww ⟨rfl, hbw⟩
        have Bw := Lib.hid (Below.chain Bv.out hbw)
        have hFF : decide (F = F) = true := decide_eq_true rfl
        rw [hFF]
        replace HD := Lib.hid (HD.out.below hbw)
        replace HC := Lib.hid (HC.out.below hbw)
        replace HL := Lib.hid (Pairs.below HL.out hbw)
        replace HP := Lib.hid (Pairs.below HP.out hbw)
        replace HR := Lib.hid (HR.out.below hbw)
        replace HF := Lib.hid (HF.out.below hbw)
        clear hbw Bv hFF HG
        have HFx := HF
        have HPx := HP
        have HRx := HR
        obtain ⟨i, hi, hz0, hz1, hz2⟩ := info_parts info_int
        obtain ⟨hW1, hW2, hW3⟩ := HW.out (by trivial)
        have HW1 := Lib.hid hW1
        have HW2 := Lib.hid hW2
        have HW3 := Lib.hid hW3
        have hr6 : F.length ≤ 6 := by have := rowB_le (areB_row hW1); rw [List.length_map] at this; exact this
        have HO := Lib.hid (row_start ww ww.heap.size (Nat.le_refl _))
        obtain ⟨a15, c15, rfl, _, _, _⟩ := HFx.out.parts
        clear hW1 hW2 hW3
        have hb0 := Lib.hid (below_one (w := ww) (.cells #[] 3))
        go_wp2
        go_loopw [25, 26] (fun o j wr => ∃ k : Nat, k ≤ F.length ∧ j = .int .i64 (k : Int) ∧ Hid (wr.ownsRow ww.heap.size 3 1 o ((F.take k).map dg).length (((F.take k).map dg).map (Value.int .i64))) ∧ Hid (Below ww.heap.size ww wr)) (fun _ j _ => F.length - (intOf j).toNat)
        case atStart => exact ⟨0, by omega, rfl, HO, hb0⟩
        case round =>
          obtain ⟨k, hk, rfl, HOk, HBk⟩ := hrel
          obtain ⟨ax, cx, ex, _, _, HFp⟩ := (HFx.out.below HBk.out).parts
          cases ex
          by_cases hlt : k < F.length
          · have hd2 : decide ((k : Int) < (F.length : Int)) = true := by simp; omega
            obtain ⟨x, hx⟩ := elem_at hlt
            obtain ⟨b, off, rfl, f1⟩ := HFp.out k x hx.out
            have hdx : digitB x = true := HW3.out x (List.mem_of_getElem? hx.out)
            have HCO := Lib.hid (CellOf_c x wr)
            unfold coV at HCO
            rw [hdx] at HCO
            have HT : Hid ((F.take (k + 1)).map dg = (F.take k).map dg ++ [dg x]) := by show _ = _; rw [take_snoc hx.out]; simp
            have hlen : ((F.take k).map dg).length ≤ 6 := by rw [List.length_map, List.length_take]; omega
            generalize (F.take k).map dg = cur at *
            clear hdx HFp
            go_wp2_with fail
            refine HCO.out.mono ?_
            rintro e wa ⟨rfl, hba⟩
            have HBa := Lib.hid (Below.chain HBk.out hba)
            have HOa := Lib.hid (own_keep HOk.out hba)
            clear hba HCO
            go_wp2_with (at_builtin; refine wpList_append_own_at _ rfl _ _ 24 rfl ww.heap.size 3 i (.int .i64 0) 1 8 Try.underlying24 hi hz0 hz1 hz2 rfl (by decide) _ cur.length (cur.map (Value.int .i64)) rfl (HOa.out.alloc _) ⟨wa.heap.size, 0, none⟩ 1 1 [.int .i64 (dg x)] rfl rfl (news_new _ [.int .i64 (dg x)] _) (by simp [Value.oneCell']) (by unfold maxLen; omega) (by omega) (by have := HBa.out.size; simp; omega) ?_)
            intro v' wc ho5 hg5 _ _
            have HBc := Lib.hid ((Below.alc HBa.out _).grown hg5 (by have := HBa.out.size; simp; omega) (fun k hk => ((HOa.out.alloc (.cells #[.int .i64 (dg x)] 3)).lt k hk).1))
            have HOc := Lib.hid (ownsRow_cast ho5 (by simp) (ints_snoc _ _).symm : wc.ownsRow ww.heap.size 3 1 v' (cur ++ [dg x]).length ((cur ++ [dg x]).map (Value.int .i64)))
            clear ho5 hg5
            go_wp2
            go_roundw
            case rel => exact ⟨k + 1, by omega, by go_num, by rw [HT.out]; exact HOc.out, HBc⟩
            case measure => simp [intOf]; omega
          · obtain rfl : k = F.length := by omega
            have hd2 : decide ((F.length : Int) < (F.length : Int)) = false := by simp
            rw [List.take_length] at HOk
            have HPx2 := Lib.hid (Pairs.below HPx.out HBk.out)
            have HRx2 := Lib.hid (HRx.out.below HBk.out)
            have hb9 := Lib.hid (Below.chain Bw.out HBk.out)
            clear HFp
            go_wp2_with fail
            refine (ShownRow_c _ _ ps (F.map dg) _ HPx2.out (Ints.of_own HOk.out)).mono ?_
            rintro e wd ⟨us, rfl, hod, hbd⟩
            rw [HW1.out]
            rw [HW2.out] at hod
            have HS := Lib.hid (Ints.of_own hod)
            have HRd := Lib.hid (HRx2.out.below hbd)
            have hbx := Lib.hid (Below.chain hb9.out hbd)
            clear hod hbd
            go_wp2_with fail
            refine (vInts_c _ _ r r _ HS.out HRd.out).mono ?_
            rintro e we ⟨rfl, hbe⟩
            have hbz := Lib.hid (Below.chain hbx.out hbe)
            clear hbe
            go_wp2
            go_ret
            exact ⟨by simp, hbz.out⟩
  | true =>
    rcases hcase with ⟨hcb, hcc⟩ | ⟨hcb, hcN, hcc⟩ | ⟨hcb, hcN, hcc⟩
    · as_aux_lemma =>
        subst hcb hcc
        go_wp2_with fail
        refine (vFaultsSame_c _ _ L _ HL.out HM.out).mono ?_
        rintro e wv ⟨rfl, hbv⟩
        have Bv := Lib.hid (Below.chain B9.out hbv)
        replace HD := Lib.hid (HD.out.below hbv)
        replace HC := Lib.hid (HC.out.below hbv)
        replace HL := Lib.hid (Pairs.below HL.out hbv)
        replace HP := Lib.hid (Pairs.below HP.out hbv)
        replace HR := Lib.hid (HR.out.below hbv)
        replace HF := Lib.hid (HF.out.below hbv)
        replace HG := Lib.hid (HG.out.below hbv)
        clear hbv B9 z9 HM
        go_wp2_with fail
        refine (vInts_c _ _ F F _ HF.out HG.out).mono ?_
        rintro e ww ⟨rfl, hbw⟩
        have Bw := Lib.hid (Below.chain Bv.out hbw)
        have hFF : decide (F = F) = true := decide_eq_true rfl
        rw [hFF]
        replace HD := Lib.hid (HD.out.below hbw)
        replace HC := Lib.hid (HC.out.below hbw)
        replace HL := Lib.hid (Pairs.below HL.out hbw)
        replace HP := Lib.hid (Pairs.below HP.out hbw)
        replace HR := Lib.hid (HR.out.below hbw)
        replace HF := Lib.hid (HF.out.below hbw)
        clear hbw Bv hFF HG
        obtain ⟨a3, c3, rfl, _, _, _⟩ := HD.out.parts
        obtain ⟨a4, c4, rfl, _, _, _⟩ := HC.out.parts
        obtain ⟨a5, c5, rfl, _, _, _⟩ := HL.out.parts
        obtain ⟨hcl, hdl⟩ := foOk_len HOK.out
        have HCL := Lib.hid hcl
        clear hcl
        go_wp2
        go_loopw [19] (fun j wr => ∃ k : Nat, k ≤ L.length ∧ j = .int .i64 (k : Int) ∧ Hid (Below ww.heap.size ww wr)) (fun j _ => L.length - (intOf j).toNat)
        case atStart => exact ⟨0, by omega, rfl, Below.refl _ _⟩
        case round =>
          obtain ⟨k, hk, rfl, HBr⟩ := hrel
          by_cases hstop : k < L.length ∧ k < 12
          · obtain ⟨hlt, h12⟩ := hstop
            have hd1 : decide ((k : Int) < (L.length : Int)) = true := by simp; omega
            have hd12 : decide ((k : Int) < 12) = true := by simp; omega
            obtain ⟨f, hf⟩ := elem_at hlt
            obtain ⟨hz1, hz2, hz3⟩ := HZ.out _ (List.mem_of_getElem? hf.out)
            have HZ2 := Lib.hid hz2
            have HZ3 := Lib.hid hz3
            clear hz1 hz2 hz3
            rename World => wo
            go_wp2
            go_loopw [20] (fun j wr => ∃ m : Nat, m ≤ ds.length ∧ j = .int .i64 (m : Int) ∧ Hid (Below ww.heap.size ww wr)) (fun j _ => ds.length - (intOf j).toNat)
            case atStart => exact ⟨0, by omega, rfl, HBr⟩
            case round =>
              obtain ⟨m, hm2, rfl, HBm⟩ := hrel
              obtain ⟨ax, cx, ex, _, _, HDp⟩ := (HD.out.below HBm.out).parts
              cases ex
              by_cases hltm : m < ds.length
              · have hd3 : decide ((m : Int) < (ds.length : Int)) = true := by simp; omega
                have hltc : m < cs.length := by rw [HCL.out]; exact hltm
                have hltc2 : (m : Int) < (cs.length : Int) := by omega
                obtain ⟨x, hx⟩ := elem_at hltm
                obtain ⟨cc, hcc⟩ := elem_at hltc
                obtain ⟨b, off, rfl, f1⟩ := HDp.out m x hx.out
                have hdx : digitB x = true := foOk_at HOK.out hx.out
                have hsh := Lib.hid (fits_at HZ3.out hx.out hcc.out)
                have HCO := Lib.hid (CellOf_c x wr)
                unfold coV at HCO
                rw [hdx] at HCO
                have bdx := dg_bd x
                have hsc : scOk f.1 f.2 (dg x) = true := by unfold scOk; rw [HZ2.out, show cellB (dg x) = true from inB_mk bdx.1 bdx.2]; rfl
                clear hdx HDp
                go_wp2_with fail
                refine HCO.out.mono ?_
                rintro e wa ⟨rfl, hba⟩
                have HBa := Lib.hid (Below.chain HBm.out hba)
                clear hba HCO f1
                obtain ⟨ax5, cx5, ex5, _, _, HLp⟩ := (Pairs.below HL.out HBa.out).parts
                cases ex5
                obtain ⟨b5, off5, rfl, g0, g1⟩ := HLp.out k _ hf.out
                have HSC := Lib.hid (ShownCell_c f.1 f.2 (dg x) wa)
                unfold scV at HSC
                rw [hsc, if_pos rfl, hsh.out] at HSC
                clear hsc HLp
                go_wp2_with fail
                refine HSC.out.mono ?_
                rintro e wb ⟨rfl, hbb⟩
                have HBb := Lib.hid (Below.chain HBa.out hbb)
                clear hbb HSC g0 g1
                obtain ⟨ax4, cx4, ex4, _, _, HCp⟩ := (HC.out.below HBb.out).parts
                cases ex4
                obtain ⟨b4, off4, rfl, f4⟩ := HCp.out m cc hcc.out
                clear HCp
                go_wp2
                go_roundw
                case rel => exact ⟨m + 1, by omega, by go_num, HBb⟩
                case measure => simp [intOf]; omega
              · obtain rfl : m = ds.length := by omega
                have hd3 : decide ((ds.length : Int) < (ds.length : Int)) = false := by simp
                clear HDp
                obtain ⟨ax5, cx5, ex5, _, _, HLp⟩ := (Pairs.below HL.out HBm.out).parts
                cases ex5
                by_cases hk0 : k = 0
                · subst hk0
                  clear HLp
                  go_wp2_with fail
                  go_region
                  go_wp2
                  go_roundw
                  case rel => exact ⟨0 + 1, by omega, by go_num, HBm.out.drew⟩
                  case measure => simp [intOf]; omega
                · obtain ⟨k', rfl⟩ : ∃ k', k = k' + 1 := ⟨k - 1, by omega⟩
                  have hd4 : decide (0 < ((k' + 1 : Nat) : Int)) = true := decide_eq_true (by omega)
                  obtain ⟨f', hf'⟩ := elem_at (show k' < L.length by omega)
                  have HB := pair_next HA.out hf'.out hf.out
                  obtain ⟨b5, off5, rfl, g0, g1⟩ := HLp.out (k' + 1) _ hf.out
                  obtain ⟨b6, off6, e6, g2, g3⟩ := HLp.out k' _ hf'.out
                  cases e6
                  have hlt1 : decide (f.1 < f'.1) = false := by unfold befF at HB; simp; omega
                  clear HLp
                  rcases heq : (f.1 == f'.1) with _ | _
                  · clear HB
                    go_wp2_with fail
                    go_region
                    go_wp2
                    go_roundw
                    case rel => exact ⟨k' + 1 + 1, by omega, by go_num, HBm.out.drew⟩
                    case measure => simp [intOf]; omega
                  · have hle1 : decide (f.2 ≤ f'.2) = false := by unfold befF at HB; simp at heq ⊢; omega
                    clear HB
                    go_wp2_with fail
                    go_region
                    go_wp2
                    go_roundw
                    case rel => exact ⟨k' + 1 + 1, by omega, by go_num, HBm.out.drew⟩
                    case measure => simp [intOf]; omega
          · rename World => wo
            have hbz := Lib.hid (Below.chain Bw.out HBr.out)
            by_cases hlt : k < L.length
            · have h12 : ¬ k < 12 := fun h => hstop ⟨hlt, h⟩
              have hd1 : decide ((k : Int) < (L.length : Int)) = true := by simp; omega
              have hd12 : decide ((k : Int) < 12) = false := by simp; omega
              go_wp2
              go_ret
              exact ⟨rfl, hbz.out⟩
            · have hd1 : decide ((k : Int) < (L.length : Int)) = false := by simp; omega
              go_wp2
              go_ret
              exact ⟨rfl, hbz.out⟩
    · as_aux_lemma =>
        subst hcb hcc
        go_wp2_with fail
        refine (vFaultsSame_c _ _ L _ HL.out HM.out).mono ?_
        rintro e wv ⟨rfl, hbv⟩
        have Bv := Lib.hid (Below.chain B9.out hbv)
        replace HD := Lib.hid (HD.out.below hbv)
        replace HC := Lib.hid (HC.out.below hbv)
        replace HL := Lib.hid (Pairs.below HL.out hbv)
        replace HP := Lib.hid (Pairs.below HP.out hbv)
        replace HR := Lib.hid (HR.out.below hbv)
        replace HF := Lib.hid (HF.out.below hbv)
        replace HG := Lib.hid (HG.out.below hbv)
        clear hbv B9 z9 HM
        go_wp2_with fail
        refine (vInts_c _ _ F F _ HF.out HG.out).mono ?_
        rintro e ww ⟨rfl, hbw⟩
        have Bw := Lib.hid (Below.chain Bv.out hbw)
        have hFF : decide (F = F) = true := decide_eq_true rfl
        rw [hFF]
        replace HD := Lib.hid (HD.out.below hbw)
        replace HC := Lib.hid (HC.out.below hbw)
        replace HL := Lib.hid (Pairs.below HL.out hbw)
        replace HP := Lib.hid (Pairs.below HP.out hbw)
        replace HR := Lib.hid (HR.out.below hbw)
        replace HF := Lib.hid (HF.out.below hbw)
        clear hbw Bv hFF HG
        obtain ⟨a3, c3, rfl, _, _, _⟩ := HD.out.parts
        obtain ⟨a4, c4, rfl, _, _, _⟩ := HC.out.parts
        obtain ⟨a5, c5, rfl, _, _, _⟩ := HL.out.parts
        obtain ⟨hcl, hdl⟩ := foOk_len HOK.out
        have HCL := Lib.hid hcl
        clear hcl
        go_wp2
        go_loopw [19] (fun j wr => ∃ k : Nat, k ≤ L.length ∧ j = .int .i64 (k : Int) ∧ Hid (Below ww.heap.size ww wr)) (fun j _ => L.length - (intOf j).toNat)
        case atStart => exact ⟨0, by omega, rfl, Below.refl _ _⟩
        case round =>
          obtain ⟨k, hk, rfl, HBr⟩ := hrel
          by_cases hstop : k < L.length ∧ k < 12
          · obtain ⟨hlt, h12⟩ := hstop
            have hd1 : decide ((k : Int) < (L.length : Int)) = true := by simp; omega
            have hd12 : decide ((k : Int) < 12) = true := by simp; omega
            obtain ⟨f, hf⟩ := elem_at hlt
            obtain ⟨hz1, hz2, hz3⟩ := HZ.out _ (List.mem_of_getElem? hf.out)
            have HZ2 := Lib.hid hz2
            have HZ3 := Lib.hid hz3
            clear hz1 hz2 hz3
            rename World => wo
            go_wp2
            go_loopw [20] (fun j wr => ∃ m : Nat, m ≤ ds.length ∧ j = .int .i64 (m : Int) ∧ Hid (Below ww.heap.size ww wr)) (fun j _ => ds.length - (intOf j).toNat)
            case atStart => exact ⟨0, by omega, rfl, HBr⟩
            case round =>
              obtain ⟨m, hm2, rfl, HBm⟩ := hrel
              obtain ⟨ax, cx, ex, _, _, HDp⟩ := (HD.out.below HBm.out).parts
              cases ex
              by_cases hltm : m < ds.length
              · have hd3 : decide ((m : Int) < (ds.length : Int)) = true := by simp; omega
                have hltc : m < cs.length := by rw [HCL.out]; exact hltm
                have hltc2 : (m : Int) < (cs.length : Int) := by omega
                obtain ⟨x, hx⟩ := elem_at hltm
                obtain ⟨cc, hcc⟩ := elem_at hltc
                obtain ⟨b, off, rfl, f1⟩ := HDp.out m x hx.out
                have hdx : digitB x = true := foOk_at HOK.out hx.out
                have hsh := Lib.hid (fits_at HZ3.out hx.out hcc.out)
                have HCO := Lib.hid (CellOf_c x wr)
                unfold coV at HCO
                rw [hdx] at HCO
                have bdx := dg_bd x
                have hsc : scOk f.1 f.2 (dg x) = true := by unfold scOk; rw [HZ2.out, show cellB (dg x) = true from inB_mk bdx.1 bdx.2]; rfl
                clear hdx HDp
                go_wp2_with fail
                refine HCO.out.mono ?_
                rintro e wa ⟨rfl, hba⟩
                have HBa := Lib.hid (Below.chain HBm.out hba)
                clear hba HCO f1
                obtain ⟨ax5, cx5, ex5, _, _, HLp⟩ := (Pairs.below HL.out HBa.out).parts
                cases ex5
                obtain ⟨b5, off5, rfl, g0, g1⟩ := HLp.out k _ hf.out
                have HSC := Lib.hid (ShownCell_c f.1 f.2 (dg x) wa)
                unfold scV at HSC
                rw [hsc, if_pos rfl, hsh.out] at HSC
                clear hsc HLp
                go_wp2_with fail
                refine HSC.out.mono ?_
                rintro e wb ⟨rfl, hbb⟩
                have HBb := Lib.hid (Below.chain HBa.out hbb)
                clear hbb HSC g0 g1
                obtain ⟨ax4, cx4, ex4, _, _, HCp⟩ := (HC.out.below HBb.out).parts
                cases ex4
                obtain ⟨b4, off4, rfl, f4⟩ := HCp.out m cc hcc.out
                clear HCp
                go_wp2
                go_roundw
                case rel => exact ⟨m + 1, by omega, by go_num, HBb⟩
                case measure => simp [intOf]; omega
              · obtain rfl : m = ds.length := by omega
                have hd3 : decide ((ds.length : Int) < (ds.length : Int)) = false := by simp
                clear HDp
                obtain ⟨ax5, cx5, ex5, _, _, HLp⟩ := (Pairs.below HL.out HBm.out).parts
                cases ex5
                by_cases hk0 : k = 0
                · subst hk0
                  clear HLp
                  go_wp2_with fail
                  go_region
                  go_wp2
                  go_roundw
                  case rel => exact ⟨0 + 1, by omega, by go_num, HBm.out.drew⟩
                  case measure => simp [intOf]; omega
                · obtain ⟨k', rfl⟩ : ∃ k', k = k' + 1 := ⟨k - 1, by omega⟩
                  have hd4 : decide (0 < ((k' + 1 : Nat) : Int)) = true := decide_eq_true (by omega)
                  obtain ⟨f', hf'⟩ := elem_at (show k' < L.length by omega)
                  have HB := pair_next HA.out hf'.out hf.out
                  obtain ⟨b5, off5, rfl, g0, g1⟩ := HLp.out (k' + 1) _ hf.out
                  obtain ⟨b6, off6, e6, g2, g3⟩ := HLp.out k' _ hf'.out
                  cases e6
                  have hlt1 : decide (f.1 < f'.1) = false := by unfold befF at HB; simp; omega
                  clear HLp
                  rcases heq : (f.1 == f'.1) with _ | _
                  · clear HB
                    go_wp2_with fail
                    go_region
                    go_wp2
                    go_roundw
                    case rel => exact ⟨k' + 1 + 1, by omega, by go_num, HBm.out.drew⟩
                    case measure => simp [intOf]; omega
                  · have hle1 : decide (f.2 ≤ f'.2) = false := by unfold befF at HB; simp at heq ⊢; omega
                    clear HB
                    go_wp2_with fail
                    go_region
                    go_wp2
                    go_roundw
                    case rel => exact ⟨k' + 1 + 1, by omega, by go_num, HBm.out.drew⟩
                    case measure => simp [intOf]; omega
          · rename World => wo
            have hbz := Lib.hid (Below.chain Bw.out HBr.out)
            by_cases hlt : k < L.length
            · have h12 : ¬ k < 12 := fun h => hstop ⟨hlt, h⟩
              have hd1 : decide ((k : Int) < (L.length : Int)) = true := by simp; omega
              have hd12 : decide ((k : Int) < 12) = false := by simp; omega
              go_wp2
              go_ret
              exact ⟨rfl, hbz.out⟩
            · have hd1 : decide ((k : Int) < (L.length : Int)) = false := by simp; omega
              go_wp2
              go_ret
              exact ⟨rfl, hbz.out⟩
    · as_aux_lemma =>
        subst hcb hcc
        go_wp2_with fail
        refine (vFaultsSame_c _ _ L _ HL.out HM.out).mono ?_
        rintro e wv ⟨rfl, hbv⟩
        have Bv := Lib.hid (Below.chain B9.out hbv)
        replace HD := Lib.hid (HD.out.below hbv)
        replace HC := Lib.hid (HC.out.below hbv)
        replace HL := Lib.hid (Pairs.below HL.out hbv)
        replace HP := Lib.hid (Pairs.below HP.out hbv)
        replace HR := Lib.hid (HR.out.below hbv)
        replace HF := Lib.hid (HF.out.below hbv)
        replace HG := Lib.hid (HG.out.below hbv)
        clear hbv B9 z9 HM
        go_wp2_with fail
        refine (vInts_c _ _ F F _ HF.out HG.out).mono ?_
        rintro e ww ⟨rfl, hbw⟩
        have Bw := Lib.hid (Below.chain Bv.out hbw)
        have hFF : decide (F = F) = true := decide_eq_true rfl
        rw [hFF]
        replace HD := Lib.hid (HD.out.below hbw)
        replace HC := Lib.hid (HC.out.below hbw)
        replace HL := Lib.hid (Pairs.below HL.out hbw)
        replace HP := Lib.hid (Pairs.below HP.out hbw)
        replace HR := Lib.hid (HR.out.below hbw)
        replace HF := Lib.hid (HF.out.below hbw)
        clear hbw Bv hFF HG
        obtain ⟨a3, c3, rfl, _, _, _⟩ := HD.out.parts
        obtain ⟨a4, c4, rfl, _, _, _⟩ := HC.out.parts
        obtain ⟨a5, c5, rfl, _, _, _⟩ := HL.out.parts
        obtain ⟨hcl, hdl⟩ := foOk_len HOK.out
        have HCL := Lib.hid hcl
        clear hcl
        go_wp2
        go_loopw [19] (fun j wr => ∃ k : Nat, k ≤ L.length ∧ j = .int .i64 (k : Int) ∧ Hid (Below ww.heap.size ww wr)) (fun j _ => L.length - (intOf j).toNat)
        case atStart => exact ⟨0, by omega, rfl, Below.refl _ _⟩
        case round =>
          obtain ⟨k, hk, rfl, HBr⟩ := hrel
          by_cases hstop : k < L.length ∧ k < 12
          · obtain ⟨hlt, h12⟩ := hstop
            have hd1 : decide ((k : Int) < (L.length : Int)) = true := by simp; omega
            have hd12 : decide ((k : Int) < 12) = true := by simp; omega
            obtain ⟨f, hf⟩ := elem_at hlt
            obtain ⟨hz1, hz2, hz3⟩ := HZ.out _ (List.mem_of_getElem? hf.out)
            have HZ2 := Lib.hid hz2
            have HZ3 := Lib.hid hz3
            clear hz1 hz2 hz3
            rename World => wo
            go_wp2
            go_loopw [20] (fun j wr => ∃ m : Nat, m ≤ ds.length ∧ j = .int .i64 (m : Int) ∧ Hid (Below ww.heap.size ww wr)) (fun j _ => ds.length - (intOf j).toNat)
            case atStart => exact ⟨0, by omega, rfl, HBr⟩
            case round =>
              obtain ⟨m, hm2, rfl, HBm⟩ := hrel
              obtain ⟨ax, cx, ex, _, _, HDp⟩ := (HD.out.below HBm.out).parts
              cases ex
              by_cases hltm : m < ds.length
              · have hd3 : decide ((m : Int) < (ds.length : Int)) = true := by simp; omega
                have hltc : m < cs.length := by rw [HCL.out]; exact hltm
                have hltc2 : (m : Int) < (cs.length : Int) := by omega
                obtain ⟨x, hx⟩ := elem_at hltm
                obtain ⟨cc, hcc⟩ := elem_at hltc
                obtain ⟨b, off, rfl, f1⟩ := HDp.out m x hx.out
                have hdx : digitB x = true := foOk_at HOK.out hx.out
                have hsh := Lib.hid (fits_at HZ3.out hx.out hcc.out)
                have HCO := Lib.hid (CellOf_c x wr)
                unfold coV at HCO
                rw [hdx] at HCO
                have bdx := dg_bd x
                have hsc : scOk f.1 f.2 (dg x) = true := by unfold scOk; rw [HZ2.out, show cellB (dg x) = true from inB_mk bdx.1 bdx.2]; rfl
                clear hdx HDp
                go_wp2_with fail
                refine HCO.out.mono ?_
                rintro e wa ⟨rfl, hba⟩
                have HBa := Lib.hid (Below.chain HBm.out hba)
                clear hba HCO f1
                obtain ⟨ax5, cx5, ex5, _, _, HLp⟩ := (Pairs.below HL.out HBa.out).parts
                cases ex5
                obtain ⟨b5, off5, rfl, g0, g1⟩ := HLp.out k _ hf.out
                have HSC := Lib.hid (ShownCell_c f.1 f.2 (dg x) wa)
                unfold scV at HSC
                rw [hsc, if_pos rfl, hsh.out] at HSC
                clear hsc HLp
                go_wp2_with fail
                refine HSC.out.mono ?_
                rintro e wb ⟨rfl, hbb⟩
                have HBb := Lib.hid (Below.chain HBa.out hbb)
                clear hbb HSC g0 g1
                obtain ⟨ax4, cx4, ex4, _, _, HCp⟩ := (HC.out.below HBb.out).parts
                cases ex4
                obtain ⟨b4, off4, rfl, f4⟩ := HCp.out m cc hcc.out
                clear HCp
                go_wp2
                go_roundw
                case rel => exact ⟨m + 1, by omega, by go_num, HBb⟩
                case measure => simp [intOf]; omega
              · obtain rfl : m = ds.length := by omega
                have hd3 : decide ((ds.length : Int) < (ds.length : Int)) = false := by simp
                clear HDp
                obtain ⟨ax5, cx5, ex5, _, _, HLp⟩ := (Pairs.below HL.out HBm.out).parts
                cases ex5
                by_cases hk0 : k = 0
                · subst hk0
                  clear HLp
                  go_wp2_with fail
                  go_region
                  go_wp2
                  go_roundw
                  case rel => exact ⟨0 + 1, by omega, by go_num, HBm.out.drew⟩
                  case measure => simp [intOf]; omega
                · obtain ⟨k', rfl⟩ : ∃ k', k = k' + 1 := ⟨k - 1, by omega⟩
                  have hd4 : decide (0 < ((k' + 1 : Nat) : Int)) = true := decide_eq_true (by omega)
                  obtain ⟨f', hf'⟩ := elem_at (show k' < L.length by omega)
                  have HB := pair_next HA.out hf'.out hf.out
                  obtain ⟨b5, off5, rfl, g0, g1⟩ := HLp.out (k' + 1) _ hf.out
                  obtain ⟨b6, off6, e6, g2, g3⟩ := HLp.out k' _ hf'.out
                  cases e6
                  have hlt1 : decide (f.1 < f'.1) = false := by unfold befF at HB; simp; omega
                  clear HLp
                  rcases heq : (f.1 == f'.1) with _ | _
                  · clear HB
                    go_wp2_with fail
                    go_region
                    go_wp2
                    go_roundw
                    case rel => exact ⟨k' + 1 + 1, by omega, by go_num, HBm.out.drew⟩
                    case measure => simp [intOf]; omega
                  · have hle1 : decide (f.2 ≤ f'.2) = false := by unfold befF at HB; simp at heq ⊢; omega
                    clear HB
                    go_wp2_with fail
                    go_region
                    go_wp2
                    go_roundw
                    case rel => exact ⟨k' + 1 + 1, by omega, by go_num, HBm.out.drew⟩
                    case measure => simp [intOf]; omega
          · rename World => wo
            have hbz := Lib.hid (Below.chain Bw.out HBr.out)
            by_cases hlt : k < L.length
            · have h12 : ¬ k < 12 := fun h => hstop ⟨hlt, h⟩
              have hd1 : decide ((k : Int) < (L.length : Int)) = true := by simp; omega
              have hd12 : decide ((k : Int) < 12) = false := by simp; omega
              have HFx := Lib.hid (HF.out.below HBr.out)
              have HPx := Lib.hid (Pairs.below HP.out HBr.out)
              have HRx := Lib.hid (HR.out.below HBr.out)
              obtain ⟨i, hi, hz0, hz1, hz2⟩ := info_parts info_int
              obtain ⟨hW1, hW2, hW3⟩ := HW.out (by trivial)
              have HW1 := Lib.hid hW1
              have HW2 := Lib.hid hW2
              have HW3 := Lib.hid hW3
              have hr6 : F.length ≤ 6 := by have := rowB_le (areB_row hW1); rw [List.length_map] at this; exact this
              have HO := Lib.hid (row_start wo wo.heap.size (Nat.le_refl _))
              obtain ⟨a15, c15, rfl, _, _, _⟩ := HFx.out.parts
              clear hW1 hW2 hW3
              have hb0 := Lib.hid (below_one (w := wo) (.cells #[] 3))
              go_wp2
              go_loopw [25, 26] (fun o j wr => ∃ k : Nat, k ≤ F.length ∧ j = .int .i64 (k : Int) ∧ Hid (wr.ownsRow wo.heap.size 3 1 o ((F.take k).map dg).length (((F.take k).map dg).map (Value.int .i64))) ∧ Hid (Below wo.heap.size wo wr)) (fun _ j _ => F.length - (intOf j).toNat)
              case atStart => exact ⟨0, by omega, rfl, HO, hb0⟩
              case round =>
                obtain ⟨k, hk, rfl, HOk, HBk⟩ := hrel
                obtain ⟨ax, cx, ex, _, _, HFp⟩ := (HFx.out.below HBk.out).parts
                cases ex
                by_cases hlt : k < F.length
                · have hd2 : decide ((k : Int) < (F.length : Int)) = true := by simp; omega
                  obtain ⟨x, hx⟩ := elem_at hlt
                  obtain ⟨b, off, rfl, f1⟩ := HFp.out k x hx.out
                  have hdx : digitB x = true := HW3.out x (List.mem_of_getElem? hx.out)
                  have HCO := Lib.hid (CellOf_c x wr)
                  unfold coV at HCO
                  rw [hdx] at HCO
                  have HT : Hid ((F.take (k + 1)).map dg = (F.take k).map dg ++ [dg x]) := by show _ = _; rw [take_snoc hx.out]; simp
                  have hlen : ((F.take k).map dg).length ≤ 6 := by rw [List.length_map, List.length_take]; omega
                  generalize (F.take k).map dg = cur at *
                  clear hdx HFp
                  go_wp2_with fail
                  refine HCO.out.mono ?_
                  rintro e wa ⟨rfl, hba⟩
                  have HBa := Lib.hid (Below.chain HBk.out hba)
                  have HOa := Lib.hid (own_keep HOk.out hba)
                  clear hba HCO
                  go_wp2_with (at_builtin; refine wpList_append_own_at _ rfl _ _ 24 rfl wo.heap.size 3 i (.int .i64 0) 1 8 Try.underlying24 hi hz0 hz1 hz2 rfl (by decide) _ cur.length (cur.map (Value.int .i64)) rfl (HOa.out.alloc _) ⟨wa.heap.size, 0, none⟩ 1 1 [.int .i64 (dg x)] rfl rfl (news_new _ [.int .i64 (dg x)] _) (by simp [Value.oneCell']) (by unfold maxLen; omega) (by omega) (by have := HBa.out.size; simp; omega) ?_)
                  intro v' wc ho5 hg5 _ _
                  have HBc := Lib.hid ((Below.alc HBa.out _).grown hg5 (by have := HBa.out.size; simp; omega) (fun k hk => ((HOa.out.alloc (.cells #[.int .i64 (dg x)] 3)).lt k hk).1))
                  have HOc := Lib.hid (ownsRow_cast ho5 (by simp) (ints_snoc _ _).symm : wc.ownsRow wo.heap.size 3 1 v' (cur ++ [dg x]).length ((cur ++ [dg x]).map (Value.int .i64)))
                  clear ho5 hg5
                  go_wp2
                  go_roundw
                  case rel => exact ⟨k + 1, by omega, by go_num, by rw [HT.out]; exact HOc.out, HBc⟩
                  case measure => simp [intOf]; omega
                · obtain rfl : k = F.length := by omega
                  have hd2 : decide ((F.length : Int) < (F.length : Int)) = false := by simp
                  rw [List.take_length] at HOk
                  have HPx2 := Lib.hid (Pairs.below HPx.out HBk.out)
                  have HRx2 := Lib.hid (HRx.out.below HBk.out)
                  have hb9 := Lib.hid (Below.chain hbz.out HBk.out)
                  clear HFp
                  go_wp2_with fail
                  refine (ShownRow_c _ _ ps (F.map dg) _ HPx2.out (Ints.of_own HOk.out)).mono ?_
                  rintro e wd ⟨us, rfl, hod, hbd⟩
                  rw [HW1.out]
                  rw [HW2.out] at hod
                  have HS := Lib.hid (Ints.of_own hod)
                  have HRd := Lib.hid (HRx2.out.below hbd)
                  have hbx := Lib.hid (Below.chain hb9.out hbd)
                  clear hod hbd
                  go_wp2_with fail
                  refine (vInts_c _ _ r r _ HS.out HRd.out).mono ?_
                  rintro e we ⟨rfl, hbe⟩
                  have hbz := Lib.hid (Below.chain hbx.out hbe)
                  clear hbe
                  go_wp2
                  go_ret
                  exact ⟨by simp, hbz.out⟩
            · have hd1 : decide ((k : Int) < (L.length : Int)) = false := by simp; omega
              have HFx := Lib.hid (HF.out.below HBr.out)
              have HPx := Lib.hid (Pairs.below HP.out HBr.out)
              have HRx := Lib.hid (HR.out.below HBr.out)
              obtain ⟨i, hi, hz0, hz1, hz2⟩ := info_parts info_int
              obtain ⟨hW1, hW2, hW3⟩ := HW.out (by trivial)
              have HW1 := Lib.hid hW1
              have HW2 := Lib.hid hW2
              have HW3 := Lib.hid hW3
              have hr6 : F.length ≤ 6 := by have := rowB_le (areB_row hW1); rw [List.length_map] at this; exact this
              have HO := Lib.hid (row_start wo wo.heap.size (Nat.le_refl _))
              obtain ⟨a15, c15, rfl, _, _, _⟩ := HFx.out.parts
              clear hW1 hW2 hW3
              have hb0 := Lib.hid (below_one (w := wo) (.cells #[] 3))
              go_wp2
              go_loopw [25, 26] (fun o j wr => ∃ k : Nat, k ≤ F.length ∧ j = .int .i64 (k : Int) ∧ Hid (wr.ownsRow wo.heap.size 3 1 o ((F.take k).map dg).length (((F.take k).map dg).map (Value.int .i64))) ∧ Hid (Below wo.heap.size wo wr)) (fun _ j _ => F.length - (intOf j).toNat)
              case atStart => exact ⟨0, by omega, rfl, HO, hb0⟩
              case round =>
                obtain ⟨k, hk, rfl, HOk, HBk⟩ := hrel
                obtain ⟨ax, cx, ex, _, _, HFp⟩ := (HFx.out.below HBk.out).parts
                cases ex
                by_cases hlt : k < F.length
                · have hd2 : decide ((k : Int) < (F.length : Int)) = true := by simp; omega
                  obtain ⟨x, hx⟩ := elem_at hlt
                  obtain ⟨b, off, rfl, f1⟩ := HFp.out k x hx.out
                  have hdx : digitB x = true := HW3.out x (List.mem_of_getElem? hx.out)
                  have HCO := Lib.hid (CellOf_c x wr)
                  unfold coV at HCO
                  rw [hdx] at HCO
                  have HT : Hid ((F.take (k + 1)).map dg = (F.take k).map dg ++ [dg x]) := by show _ = _; rw [take_snoc hx.out]; simp
                  have hlen : ((F.take k).map dg).length ≤ 6 := by rw [List.length_map, List.length_take]; omega
                  generalize (F.take k).map dg = cur at *
                  clear hdx HFp
                  go_wp2_with fail
                  refine HCO.out.mono ?_
                  rintro e wa ⟨rfl, hba⟩
                  have HBa := Lib.hid (Below.chain HBk.out hba)
                  have HOa := Lib.hid (own_keep HOk.out hba)
                  clear hba HCO
                  go_wp2_with (at_builtin; refine wpList_append_own_at _ rfl _ _ 24 rfl wo.heap.size 3 i (.int .i64 0) 1 8 Try.underlying24 hi hz0 hz1 hz2 rfl (by decide) _ cur.length (cur.map (Value.int .i64)) rfl (HOa.out.alloc _) ⟨wa.heap.size, 0, none⟩ 1 1 [.int .i64 (dg x)] rfl rfl (news_new _ [.int .i64 (dg x)] _) (by simp [Value.oneCell']) (by unfold maxLen; omega) (by omega) (by have := HBa.out.size; simp; omega) ?_)
                  intro v' wc ho5 hg5 _ _
                  have HBc := Lib.hid ((Below.alc HBa.out _).grown hg5 (by have := HBa.out.size; simp; omega) (fun k hk => ((HOa.out.alloc (.cells #[.int .i64 (dg x)] 3)).lt k hk).1))
                  have HOc := Lib.hid (ownsRow_cast ho5 (by simp) (ints_snoc _ _).symm : wc.ownsRow wo.heap.size 3 1 v' (cur ++ [dg x]).length ((cur ++ [dg x]).map (Value.int .i64)))
                  clear ho5 hg5
                  go_wp2
                  go_roundw
                  case rel => exact ⟨k + 1, by omega, by go_num, by rw [HT.out]; exact HOc.out, HBc⟩
                  case measure => simp [intOf]; omega
                · obtain rfl : k = F.length := by omega
                  have hd2 : decide ((F.length : Int) < (F.length : Int)) = false := by simp
                  rw [List.take_length] at HOk
                  have HPx2 := Lib.hid (Pairs.below HPx.out HBk.out)
                  have HRx2 := Lib.hid (HRx.out.below HBk.out)
                  have hb9 := Lib.hid (Below.chain hbz.out HBk.out)
                  clear HFp
                  go_wp2_with fail
                  refine (ShownRow_c _ _ ps (F.map dg) _ HPx2.out (Ints.of_own HOk.out)).mono ?_
                  rintro e wd ⟨us, rfl, hod, hbd⟩
                  rw [HW1.out]
                  rw [HW2.out] at hod
                  have HS := Lib.hid (Ints.of_own hod)
                  have HRd := Lib.hid (HRx2.out.below hbd)
                  have hbx := Lib.hid (Below.chain hb9.out hbd)
                  clear hod hbd
                  go_wp2_with fail
                  refine (vInts_c _ _ r r _ HS.out HRd.out).mono ?_
                  rintro e we ⟨rfl, hbe⟩
                  have hbz := Lib.hid (Below.chain hbx.out hbe)
                  clear hbe
                  go_wp2
                  go_ret
                  exact ⟨by simp, hbz.out⟩
end Go.Proofs.Ytlipkplomndjcaa
