/- Texts of this claim, gathered: Cwl, Cwg, Dwa. -/
import Derived.Test.YtohgjfdbnkjefaaGreatDoorKx23
import Derived.Deep.RegionHeld3
import Derived.Deep.DeepCutAuto
namespace Go.Proofs.YtohgjfdbnkjefaaGreatDoor
open Go.RowKit
set_option linter.unusedVariables false
set_option linter.unusedSimpArgs false
set_option maxRecDepth 100000
set_option maxHeartbeats 20000000 in
theorem l12Place_c (b : List Int) (s : ByteArray) (k : Int) (w : World) (hb : b.length = 19) (hg : goodB b = true) :
 Calls Tryz.prog 183 #[aggI b, .string s, .int .i64 k] w (SayOut (placeM b s.data.toList k) w) := by
 have hb0 := below_one (w := w) (.cells (ints b).toArray 26)
 have r0 := range_new w (ints b) 26
 rcases hq : inB k 0 5 with _ | _
 · have HQ := Lib.hid hq
   have HM := Lib.hid (placeM_out (b := b) hq s.data.toList)
   unfold aggI
   clear hq
   go_enter Tryz.func183, Tryz.ntmps183
   go_wp2_with fail
   refine (l1In_c _ _ _ _).mono ?_
   rintro e _ ⟨rfl, rfl⟩
   rw [HQ.out]
   go_wp2
   go_ret
   exact SayOut.mk' (by rw [HM.out]; rfl) hb0
 · have h2 := inB_true hq
   obtain ⟨kn, rfl⟩ := Int.eq_ofNat_of_zero_le h2.1
   have hk : kn < 6 := by omega
   have hk6 : (kn : Int) < 6 := by omega
   have HQ := Lib.hid hq
   obtain ⟨f1, f2, hf⟩ : ∃ f1 f2, bF b kn = (f1, f2) := ⟨_, _, rfl⟩
   obtain ⟨c, hc⟩ : ∃ c, shAt b kn = c := ⟨_, rfl⟩
   have P := Lib.hid (plcB_of hg hk hf hc)
   have HMM := Lib.hid (placeM_in (b := b) hk hf hc)
   have HFA := Lib.hid (fun W => l12Fault_c b kn W hb hk)
   rw [hf] at HFA
   have hbk := (goodB_at hg hk).2
   have HSC := Lib.hid (fun W => l3Shown_c f1 f2 (bg b kn) P.out.d0 P.out.d1 P.out.l0 P.out.l1 hbk.1 hbk.2 W)
   have hshc : shC f1 f2 (bg b kn) = c := by rw [← hc]; unfold shAt; rw [hf]
   rw [hshc] at HSC
   unfold aggI at *
   clear hq h2 hf hc hshc
   go_enter Tryz.func183, Tryz.ntmps183
   go_wp2_with fail
   refine (l1In_c _ _ _ _).mono ?_
   rintro e _ ⟨rfl, rfl⟩
   rw [HQ.out]
   go_wp2_with (refine wpList_loadB rfl _ rfl _ rfl b r0 hb ?_)
   refine (HFA.out _).mono ?_
   rintro e w1 ⟨rfl, hb1⟩
   have r1 := range_below r0 hb1
   have HB1 := Lib.hid (Below.chain hb0 hb1)
   have q0 : (w1.alloc (.cells #[.int .i64 f1, .int .i64 f2] 46)).cell? ⟨w1.heap.size, 0, none⟩ = some (.int .i64 f1) := (Bk.new w1 46 #[.int .i64 f1, .int .i64 f2]).cell 0
   have q1 : (w1.alloc (.cells #[.int .i64 f1, .int .i64 f2] 46)).cell? ⟨w1.heap.size, 1, none⟩ = some (.int .i64 f2) := (Bk.new w1 46 #[.int .i64 f1, .int .i64 f2]).cell 1
   have r2 := World.rangeAt_alloc r1 (.cells #[.int .i64 f1, .int .i64 f2] 46)
   have HB2 := Lib.hid (Below.alc HB1.out (.cells #[.int .i64 f1, .int .i64 f2] 46))
   have hcell : (w1.alloc (.cells #[.int .i64 f1, .int .i64 f2] 46)).cell? ⟨w.heap.size, kn, none⟩ = some (.int .i64 (bg b kn)) := by
    have := r2 kn (.int .i64 (bg b kn)) (by simp [ints, bg, show kn < b.length by omega])
    rw [Nat.zero_add] at this; exact this
   clear hb1 r1 r0 hb0 HB1 HFA HQ
   go_upto_region 4 with fail
   generalize w1.heap.size = g at *
   generalize World.alloc _ _ = w2 at *
   refine wp_region_noPanic ?_
   have S_wd : Below w2.heap.size w2 w2.drew := (Below.refl _ _).drew
   refine wp_region_held_drew (S := fun w' : World => Below w2.heap.size w2 w') (by kernel_rfl) S_wd (fun hHeld => ?_)
   generalize w2.drew = wd at *
   refine' tkX 0 hHeld ?y_t70 ?r_t70
   case y_t70 => exact Or.inl ⟨by rfl, by (intro w hSw; have y0 := cell_later hSw q0; have y1 := cell_later hSw q1; go_simp; first | done | with_reducible rfl)⟩
   try simp only [Act.put, xqA, xqB, xqC]
   refine' tkY 1 hHeld ?r_t71
   try simp only [Act.put, xqA, xqB, xqC]
   refine' tkY 2 hHeld ?r_t72
   try simp only [Act.put, xqA, xqB, xqC]
   refine' tkY 3 hHeld ?r_t73
   try simp only [Act.put, xqA, xqB, xqC]
   refine' tkX 4 hHeld ?y_t74 ?r_t74
   case y_t74 => exact Or.inl ⟨by rfl, by (intro w hSw; have c0 := cell_later hSw hcell; go_simp; first | done | with_reducible rfl)⟩
   try simp only [Act.put, xqA, xqB, xqC]
   refine wpAnyH_ready (rs := [5]) (by kernel_rfl) (by simp) ?_
   refine' AllReadyH.cons (o := _) ?e_k75 ?st_k75 AllReadyH.nil
   case e_k75 => (simp only [xeA, xeB, xeC]; exact rfl)
   intro K hK
   go_simp
   with_reducible refine (HSC.out wd).mono ?_
   rintro e we76 ⟨rfl, hx77⟩
   have S_we76 := Below.chain S_wd hx77
   clear S_wd hx77
   refine hK.out _ _ S_we76 (fun hHeld => ?_)
   clear hK K
   try simp only [Act.put, xqA, xqB, xqC]
   refine' tkY 6 hHeld ?r_t78
   try simp only [Act.put, xqA, xqB, xqC]
   refine wpAnyH_done (by kernel_rfl) ?_ _
   refine NoPanic.normal ?_
   have HB := Lib.hid (Below.chain HB2.out S_we76)
   have y0 := cell_later S_we76 q0
   have y1 := cell_later S_we76 q1
   have P := P.out
   clear S_we76 q0 q1 hcell HSC HB2 r2
   generalize we76 = wc at *
   by_cases e0 : s.data.toList = wDigits
   · as_aux_lemma =>
      have q0 : (s.toList == [100, 105, 103, 105, 116, 115]) = true := by rw [Lib.toList_data, e0]; rfl
      have HM := Lib.hid (show placeM b s.data.toList (kn : Int) = some (listT (digL f1 f2 c)) by rw [HMM.out]; unfold placeF; rw [if_pos e0])
      clear HMM
      clear e0
      have HDS := Lib.hid (fun W => sDigitsShown_c f1 f2 c W)
      rw [show dsL f1 f2 c = digL f1 f2 c by unfold dsL scOk; rw [P.ok, cellB_mk P.c0 P.c1]; rfl, show scOk f1 f2 c = true by unfold scOk; rw [P.ok, cellB_mk P.c0 P.c1]; rfl] at HDS
      go_wp2_with fail
      with_reducible refine (HDS.out _).mono ?_
      rintro e w2 ⟨u, rfl, ho, hb2⟩
      have HB2 := Lib.hid (Below.chain HB.out hb2)
      have HL2 := Lib.hid (Ints.of_own ho)
      obtain ⟨la, lc, rfl, _⟩ := (Sl.of_own ho).slice
      clear ho
      clear hb2
      go_wp2_with fail
      with_reducible refine (l12List_c _ (digL f1 f2 c) true _ HL2.out (by have := digL_le f1 f2 c; omega) (fun _ => digL_bd _ _ _)).mono ?_
      rintro e w3 ⟨rfl, hb3⟩
      have HB3 := Lib.hid (Below.chain HB2.out hb3)
      clear hb3
      go_wp2
      go_ret
      exact SayOut.mk' (by rw [HM.out]; rfl) HB3.out
   · skip
     by_cases e1 : s.data.toList = wTold
     · as_aux_lemma =>
        have q0 : (s.toList == [100, 105, 103, 105, 116, 115]) = false := by rw [Lib.toList_data]; exact beq_false_of_ne e0
        have q1 : (s.toList == [116, 111, 108, 100]) = true := by rw [Lib.toList_data, e1]; rfl
        have HM := Lib.hid (show placeM b s.data.toList (kn : Int) = some (listT (tdL f1 f2)) by rw [HMM.out]; unfold placeF; rw [if_neg e0]; rw [if_pos e1])
        clear HMM
        clear e0 e1
        go_wp2_with fail
        with_reducible refine (sToldDigits_c f1 f2 _).mono ?_
        rintro e w2 ⟨u, rfl, ho, hb2⟩
        have HB2 := Lib.hid (Below.chain HB.out hb2)
        have HL2 := Lib.hid (Ints.of_own ho)
        obtain ⟨la, lc, rfl, _⟩ := (Sl.of_own ho).slice
        clear ho
        rw [P.ok]
        clear hb2
        go_wp2_with fail
        with_reducible refine (l12List_c _ (tdL f1 f2) true _ HL2.out (by have := tdL_le f1 f2; omega) (fun _ => tdL_bd _ _)).mono ?_
        rintro e w3 ⟨rfl, hb3⟩
        have HB3 := Lib.hid (Below.chain HB2.out hb3)
        clear hb3
        go_wp2
        go_ret
        exact SayOut.mk' (by rw [HM.out]; rfl) HB3.out
     · skip
       by_cases e2 : s.data.toList = wImages
       · as_aux_lemma =>
          have q0 : (s.toList == [100, 105, 103, 105, 116, 115]) = false := by rw [Lib.toList_data]; exact beq_false_of_ne e0
          have q1 : (s.toList == [116, 111, 108, 100]) = false := by rw [Lib.toList_data]; exact beq_false_of_ne e1
          have q2 : (s.toList == [105, 109, 97, 103, 101, 115]) = true := by rw [Lib.toList_data, e2]; rfl
          have HM := Lib.hid (show placeM b s.data.toList (kn : Int) = some (Lib.decDigits (grpL f1 f2).length) by rw [HMM.out]; unfold placeF; rw [if_neg e0]; rw [if_neg e1]; rw [if_pos e2])
          clear HMM
          clear e0 e1 e2
          have HCI := Lib.hid (fun W => sCountImages_c f1 f2 W)
          rw [show ciV f1 f2 = .tuple #[.int .i64 ((grpL f1 f2).length : Int), .bool true] by unfold ciV; rw [P.ok]; rfl] at HCI
          have hgl : (grpL f1 f2).length < 4611686018427387904 := by have : (grpL f1 f2).length ≤ 10 := grpTo_le _ _ _; omega
          go_wp2_with fail
          with_reducible refine (HCI.out _).mono ?_
          rintro e w2 ⟨rfl, hb2⟩
          have HB2 := Lib.hid (Below.chain HB.out hb2)
          clear hb2
          go_wp2_with fail
          with_reducible refine (l12Say_c (grpL f1 f2).length true _ hgl).mono ?_
          rintro e w3 ⟨rfl, hb3⟩
          have HB3 := Lib.hid (Below.chain HB2.out hb3)
          clear hb3
          go_wp2
          go_ret
          exact SayOut.mk' (by rw [HM.out]; rfl) HB3.out
       · skip
         by_cases e3 : s.data.toList = wHarmless
         · as_aux_lemma =>
            have q0 : (s.toList == [100, 105, 103, 105, 116, 115]) = false := by rw [Lib.toList_data]; exact beq_false_of_ne e0
            have q1 : (s.toList == [116, 111, 108, 100]) = false := by rw [Lib.toList_data]; exact beq_false_of_ne e1
            have q2 : (s.toList == [105, 109, 97, 103, 101, 115]) = false := by rw [Lib.toList_data]; exact beq_false_of_ne e2
            have q3 : (s.toList == [104, 97, 114, 109, 108, 101, 115, 115]) = true := by rw [Lib.toList_data, e3]; rfl
            have HM := Lib.hid (show placeM b s.data.toList (kn : Int) = some (yesT (decide ((grpL f1 f2).length = 10))) by rw [HMM.out]; unfold placeF; rw [if_neg e0]; rw [if_neg e1]; rw [if_neg e2]; rw [if_pos e3])
            clear HMM
            clear e0 e1 e2 e3
            have HCI := Lib.hid (fun W => sCountImagesH_c f1 f2 W)
            rw [show ihV f1 f2 = .tuple #[.bool (decide ((grpL f1 f2).length = 10)), .bool true] by unfold ihV; rw [P.ok]; rfl] at HCI
            go_wp2_with fail
            with_reducible refine (HCI.out _).mono ?_
            rintro e w2 ⟨rfl, hb2⟩
            have HB2 := Lib.hid (Below.chain HB.out hb2)
            clear hb2
            obtain ⟨hh, hhe⟩ : ∃ hh, decide ((grpL f1 f2).length = 10) = hh := ⟨_, rfl⟩
            rw [hhe]
            have HH := Lib.hid hhe
            clear hhe
            go_wp2_with fail
            with_reducible refine (l12Yes_c hh true _).mono ?_
            rintro e _ ⟨rfl, rfl⟩
            go_wp2
            go_ret
            exact SayOut.mk' (by rw [HM.out, HH.out]; rfl) HB2.out
         · skip
           by_cases e4 : s.data.toList = wNear
           · as_aux_lemma =>
              have q0 : (s.toList == [100, 105, 103, 105, 116, 115]) = false := by rw [Lib.toList_data]; exact beq_false_of_ne e0
              have q1 : (s.toList == [116, 111, 108, 100]) = false := by rw [Lib.toList_data]; exact beq_false_of_ne e1
              have q2 : (s.toList == [105, 109, 97, 103, 101, 115]) = false := by rw [Lib.toList_data]; exact beq_false_of_ne e2
              have q3 : (s.toList == [104, 97, 114, 109, 108, 101, 115, 115]) = false := by rw [Lib.toList_data]; exact beq_false_of_ne e3
              have q4 : (s.toList == [110, 101, 97, 114]) = true := by rw [Lib.toList_data, e4]; rfl
              have HM := Lib.hid (show placeM b s.data.toList (kn : Int) = some (listT (nearL c)) by rw [HMM.out]; unfold placeF; rw [if_neg e0]; rw [if_neg e1]; rw [if_neg e2]; rw [if_neg e3]; rw [if_pos e4])
              clear HMM
              clear e0 e1 e2 e3 e4
              go_wp2_with fail
              with_reducible refine (l7Ten_c _).mono ?_
              rintro e w2 ⟨u, rfl, ho, hb2⟩
              have HB2 := Lib.hid (Below.chain HB.out hb2)
              have HT2 := Lib.hid (show Ints w2 u tenI from Ints.of_own ho)
              obtain ⟨la, lc, rfl, _⟩ := (Sl.of_own ho).slice
              clear ho
              clear hb2
              go_wp2_with fail
              with_reducible refine (DigitCode_c _ _ HT2.out).mono ?_
              rintro e w3 ⟨u, rfl, ho, hb3⟩
              have HB3 := Lib.hid (Below.chain HB2.out hb3)
              have HD := Lib.hid (show Ints w3 u dig from Ints.of_own ho)
              obtain ⟨la2, lc2, rfl, _⟩ := (Sl.of_own ho).slice
              clear ho
              clear hb3
              go_wp2_with fail
              with_reducible refine (l5Nearest_c _ c P.c0 P.c1 _ HD.out).mono ?_
              rintro e w4 ⟨u, m, rfl, ho, hb4⟩
              have HB4 := Lib.hid (Below.chain HB3.out hb4)
              have HL4 := Lib.hid (Ints.of_own ho)
              obtain ⟨la3, lc3, rfl, _⟩ := (Sl.of_own ho).slice
              clear ho
              clear hb4
              go_wp2_with fail
              with_reducible refine (l12List_c _ (nearL c) true _ HL4.out (by have := nearL_le c; omega) (fun _ => nearL_bd c)).mono ?_
              rintro e w5 ⟨rfl, hb5⟩
              have HB5 := Lib.hid (Below.chain HB4.out hb5)
              clear hb5
              go_wp2
              go_ret
              exact SayOut.mk' (by rw [HM.out]; rfl) HB5.out
           · skip
             by_cases e5 : s.data.toList = wSame
             · as_aux_lemma =>
                have q0 : (s.toList == [100, 105, 103, 105, 116, 115]) = false := by rw [Lib.toList_data]; exact beq_false_of_ne e0
                have q1 : (s.toList == [116, 111, 108, 100]) = false := by rw [Lib.toList_data]; exact beq_false_of_ne e1
                have q2 : (s.toList == [105, 109, 97, 103, 101, 115]) = false := by rw [Lib.toList_data]; exact beq_false_of_ne e2
                have q3 : (s.toList == [104, 97, 114, 109, 108, 101, 115, 115]) = false := by rw [Lib.toList_data]; exact beq_false_of_ne e3
                have q4 : (s.toList == [110, 101, 97, 114]) = false := by rw [Lib.toList_data]; exact beq_false_of_ne e4
                have q5 : (s.toList == [115, 97, 109, 101]) = true := by rw [Lib.toList_data, e5]; rfl
                have HM := Lib.hid (show placeM b s.data.toList (kn : Int) = some (partT (csA f1 f2) (csB f1 f2)) by rw [HMM.out]; unfold placeF; rw [if_neg e0]; rw [if_neg e1]; rw [if_neg e2]; rw [if_neg e3]; rw [if_neg e4]; rw [if_pos e5])
                clear HMM
                clear e0 e1 e2 e3 e4 e5
                have hcs := csA_le f1 f2
                have HCI := Lib.hid (fun W => sChanceSameDigit_c f1 f2 W)
                rw [show csV f1 f2 = .tuple #[.agg #[.int .i64 (csA f1 f2 : Int), .int .i64 (csB f1 f2 : Int)], .bool true] by rw [csV_fr, P.ok]] at HCI
                obtain ⟨ca, hca⟩ : ∃ ca, csA f1 f2 = ca := ⟨_, rfl⟩
                obtain ⟨cb, hcb⟩ : ∃ cb, csB f1 f2 = cb := ⟨_, rfl⟩
                rw [hca, hcb] at hcs HCI
                have HCA := Lib.hid hca
                have HCB := Lib.hid hcb
                clear hca hcb
                go_wp2_with fail
                with_reducible refine (HCI.out _).mono ?_
                rintro e w2 ⟨rfl, hb2⟩
                have HB2 := Lib.hid (Below.chain HB.out hb2)
                clear hb2
                go_wp2_with fail
                with_reducible refine (l12Part_c ca cb true hcs.1 hcs.2 _).mono ?_
                rintro e w3 ⟨rfl, hb3⟩
                have HB3 := Lib.hid (Below.chain HB2.out hb3)
                clear hb3
                go_wp2
                go_ret
                exact SayOut.mk' (by rw [HM.out, HCA.out, HCB.out]; rfl) HB3.out
             · skip
               as_aux_lemma =>
                have q0 : (s.toList == [100, 105, 103, 105, 116, 115]) = false := by rw [Lib.toList_data]; exact beq_false_of_ne e0
                have q1 : (s.toList == [116, 111, 108, 100]) = false := by rw [Lib.toList_data]; exact beq_false_of_ne e1
                have q2 : (s.toList == [105, 109, 97, 103, 101, 115]) = false := by rw [Lib.toList_data]; exact beq_false_of_ne e2
                have q3 : (s.toList == [104, 97, 114, 109, 108, 101, 115, 115]) = false := by rw [Lib.toList_data]; exact beq_false_of_ne e3
                have q4 : (s.toList == [110, 101, 97, 114]) = false := by rw [Lib.toList_data]; exact beq_false_of_ne e4
                have q5 : (s.toList == [115, 97, 109, 101]) = false := by rw [Lib.toList_data]; exact beq_false_of_ne e5
                have HM := Lib.hid (show placeM b s.data.toList (kn : Int) = none by rw [HMM.out]; unfold placeF; rw [if_neg e0]; rw [if_neg e1]; rw [if_neg e2]; rw [if_neg e3]; rw [if_neg e4]; rw [if_neg e5])
                clear e0 e1 e2 e3 e4 e5
                go_wp2
                go_ret
                exact SayOut.mk' (by rw [HM.out]; rfl) HB.out
theorem mbA_all (n : Int) : mbA n ≤ 999999 ∧ mbB n ≤ 999999 := by
 cases h : inB n 0 9999 with
 | true => exact mbA_le h
 | false => unfold mbA mbB frA frB; rw [h]; exact ⟨Nat.zero_le _, Nat.zero_le _⟩
theorem AnsOut.ite {c : Bool} {s : Bs} {t : ByteArray} {w w' : World} (ht : c = true → t = bs s) (hb : Below w.heap.size w w') : AnsOut (if c then some s else none) w (.returned (.tuple #[.string t, .bool c])) w' := by
 cases c with
 | true => exact ⟨t, rfl, fun q hq => by rw [ht rfl, Option.some.inj hq], hb⟩
 | false => exact ⟨t, rfl, (fun q hq => by cases hq), hb⟩
theorem full_ne {s : Bs} (h : s = wFull) : s ≠ wBulbs := by rw [h]; decide
theorem bulbs_ne {s : Bs} (h : s = wBulbs) : s ≠ wFull := by rw [h]; decide
set_option maxHeartbeats 20000000 in
theorem answer_c (b : List Int) (s : ByteArray) (v : Value) (xs : List Int) (w : World) (hb : b.length = 19) (hg : goodB b = true) (hv : Ints w v xs) (hn : xs.length ≤ 2) (ht : TabC w) :
 Calls Tryz.prog 102 #[aggI b, .string s, v] w (AnsOut (askM b s.data.toList xs) w) := by
 have HT := Lib.hid ht
 have HPC := Lib.hid (fun (x : Int) (W : World) (h : TabC W) => placed_c b s x W hb hg h)
 unfold aggI at HPC
 have HB0 := Lib.hid (below_one (w := w) (.cells (ints b).toArray 26))
 have r0 := range_new w (ints b) 26
 have HV := Lib.hid (hv.below (below_one (.cells (ints b).toArray 26)))
 obtain ⟨a, c, rfl, hc1, hc2, _⟩ := hv.parts
 clear ht hv
 unfold aggI
 rcases xs with _ | ⟨x, _ | ⟨y, _ | ⟨z, t⟩⟩⟩
 · as_aux_lemma =>
    have HM : Hid (askM b s.data.toList [] = tellM b s.data.toList) := rfl
    rw [HM.out]
    go_enter Tryz.func102, Tryz.ntmps102
    go_wp2_with (refine wpList_loadB rfl _ rfl _ rfl b r0 hb ?_)
    refine (plain_c b s _ hb hg (HT.out.on HB0.out)).mono ?_
    rintro e w1 ⟨t, rfl, hans, hb1⟩
    have HA := Lib.hid hans
    clear hans
    generalize tellM b s.data.toList = o at *
    go_wp2
    exact bodyPost_ret (v := .tuple #[.string t, .bool o.isSome]) (by simp [results, Tryz.results102, go_sem]) rfl ⟨t, rfl, HA.out, Below.chain HB0.out hb1⟩
 · have HX : Hid (∃ bb oo, a = some ⟨bb, oo, none⟩ ∧ (w.alloc (.cells (ints b).toArray 26)).cell? ⟨bb, oo, none⟩ = some (.int .i64 x)) := by
    obtain ⟨_, _, he, _, _, HC⟩ := HV.out.parts
    obtain ⟨bb, oo, h1, h2⟩ := HC.out 0 x rfl
    injection he with h3
    exact ⟨bb, oo, by rw [h3]; exact h1, h2⟩
   obtain ⟨bb, oo, rfl, hx0⟩ := HX.out
   clear HX HV
   rw [show ([x] : List Int).length = 1 from rfl] at *
   by_cases eB : s.data.toList = wBulbs
   · as_aux_lemma =>
      have eF := bulbs_ne eB
      have fB : (s.toList == [98, 117, 108, 98, 115]) = true := by rw [Lib.toList_data, eB]; rfl
      have fF : (s.toList == [102, 117, 108, 108]) = false := by rw [Lib.toList_data]; exact beq_false_of_ne eF
      have HM := Lib.hid (show askM b s.data.toList [x] = (if inB x 0 9999 then some (partT (mbA x) (mbB x)) else none) from if_pos eB)
      have hma := mbA_all x
      clear eB eF
      go_enter Tryz.func102, Tryz.ntmps102
      go_upto_region 7 with fail
      generalize World.alloc _ _ = w0 at *
      have HMB := Lib.hid (fun W hW => MeanBars_c x W hW)
      go_wp2_with fail
      refine (HMB.out _ (HT.out.on HB0.out).pow).mono ?_
      rintro e w1 ⟨he, hb1⟩
      rw [mbV_fr] at he
      subst he
      have HB1 := Lib.hid (Below.chain HB0.out hb1)
      clear hb1 HMB r0
      generalize mbA x = ma at *
      generalize mbB x = mb at *
      have HP := Lib.hid (Bk.new w1 174 #[.int .i64 (ma : Int), .int .i64 (mb : Int)])
      have HB2 := Lib.hid (Below.alc HB1.out (.cells #[.int .i64 (ma : Int), .int .i64 (mb : Int)] 174))
      go_wp2_with fail
      refine (fractionText_c ma mb hma.1 hma.2 _ (HT.out.on (by have hb := HB1.out; (repeat (first | exact Below.refl _ _ | exact (Below.refl _ _).drew | assumption | exact below_one _ | refine Below.chain ?_ (by assumption) | refine Below.drew ?_ | refine Below.alc ?_ _ | refine below_drewN ?_ | (refine Below.setCell ?_ ?_ _) | exact Nat.le_refl _ | (simp; done) | (simp; omega))))).pow).mono ?_
      rintro e w3 ⟨rfl, hb3⟩
      generalize hq : inB x 0 9999 = qb at *
      go_wp2
      exact bodyPost_ret (v := .tuple #[.string (bs (partT ma mb)), .bool qb]) (by simp [results, Tryz.results102, go_sem]) rfl (by rw [HM.out]; exact AnsOut.ite (fun _ => rfl) (by have hb := HB1.out; have hb4 := hb3; (repeat (first | exact Below.refl _ _ | exact (Below.refl _ _).drew | assumption | exact below_one _ | refine Below.chain ?_ (by assumption) | refine Below.drew ?_ | refine Below.alc ?_ _ | refine below_drewN ?_ | (refine Below.setCell ?_ ?_ _) | exact Nat.le_refl _ | (simp; done) | (simp; omega)))))
   · have HM0 : askM b s.data.toList [x] = placeM b s.data.toList x := if_neg eB
     have HM := Lib.hid HM0
     by_cases eF : s.data.toList = wFull
     · as_aux_lemma =>
        have fF : (s.toList == [102, 117, 108, 108]) = true := by rw [Lib.toList_data, eF]; rfl
        have fB : (s.toList == [98, 117, 108, 98, 115]) = false := by rw [Lib.toList_data]; exact beq_false_of_ne eB
        clear eB eF HM0
        go_enter Tryz.func102, Tryz.ntmps102
        go_upto_region 10 with fail
        generalize World.alloc _ _ = w0 at *
        refine wp_region_noPanic ?_
        have S_wd : Below w0.heap.size w0 w0.drew := (Below.refl _ _).drew
        refine wp_region_held_drew (S := fun w' : World => Below w0.heap.size w0 w') (by kernel_rfl) S_wd (fun hHeld => ?_)
        generalize w0.drew = wd at *
        refine' tkX 0 hHeld ?y_t1 ?r_t1
        case y_t1 =>
         refine' yieldsIf_load_mid ?hw_t1 _ _ rfl _ _ rfl (ints b) _ ?hS_t1 ?hu_t1 ?hd_t1 ?hi_t1
         case hw_t1 => rfl
         case hS_t1 => exact fun (w' : World) (h : Below w0.heap.size w0 w') => range_below r0 h
         case hu_t1 => exact Tryz.underlying26
         case hd_t1 => rfl
         case hi_t1 => exact (by rw [show (ints b).length = 19 by simp [ints, hb]]; kernel_rfl)
        try simp only [Act.put, xqA, xqB, xqC]
        refine' tkY 1 hHeld ?r_t2
        try simp only [Act.put, xqA, xqB, xqC]
        refine' tkY 2 hHeld ?r_t3
        try simp only [Act.put, xqA, xqB, xqC]
        refine' tkY 3 hHeld ?r_t4
        try simp only [Act.put, xqA, xqB, xqC]
        refine' tkX 4 hHeld ?y_t5 ?r_t5
        case y_t5 => exact Or.inl ⟨by rfl, by (intro w hSw; have c0 := cell_later hSw hx0; go_simp; first | done | with_reducible rfl)⟩
        try simp only [Act.put, xqA, xqB, xqC]
        refine wpAnyH_ready (rs := [5]) (by kernel_rfl) (by simp) ?_
        refine' AllReadyH.cons (o := _) ?e_k6 ?st_k6 AllReadyH.nil
        case e_k6 => (simp only [xeA, xeB, xeC]; exact rfl)
        intro K hK
        go_simp
        with_reducible refine (HPC.out x wd (HT.out.on (Below.chain HB0.out S_wd))).mono ?_
        rintro e we7 ⟨t, rfl, hans, hx8⟩
        have S_we7 := Below.chain S_wd hx8
        clear S_wd hx8
        generalize hq : (placeM b s.data.toList x).isSome = qb at *
        refine hK.out _ _ S_we7 (fun hHeld => ?_)
        clear hK K
        try simp only [Act.put, xqA, xqB, xqC]
        refine' tkY 6 hHeld ?r_t9
        try simp only [Act.put, xqA, xqB, xqC]
        refine' tkY 7 hHeld ?r_t10
        try simp only [Act.put, xqA, xqB, xqC]
        refine' tkY 8 hHeld ?r_t11
        try simp only [Act.put, xqA, xqB, xqC]
        refine' tkY 9 hHeld ?r_t12
        try simp only [Act.put, xqA, xqB, xqC]
        refine wpAnyH_done (by kernel_rfl) ?_ _
        refine NoPanic.normal ?_
        go_wp2
        exact bodyPost_ret (v := .tuple #[.string t, .bool qb]) (by simp [results, Tryz.results102, go_sem]) rfl ⟨t, by rw [HM.out, hq], by rw [HM.out]; exact hans, Below.chain HB0.out S_we7⟩
     · as_aux_lemma =>
        have fF : (s.toList == [102, 117, 108, 108]) = false := by rw [Lib.toList_data]; exact beq_false_of_ne eF
        have fB : (s.toList == [98, 117, 108, 98, 115]) = false := by rw [Lib.toList_data]; exact beq_false_of_ne eB
        clear eB eF HM0
        go_enter Tryz.func102, Tryz.ntmps102
        go_upto_region 10 with fail
        generalize World.alloc _ _ = w0 at *
        refine wp_region_noPanic ?_
        have S_wd : Below w0.heap.size w0 w0.drew := (Below.refl _ _).drew
        refine wp_region_held_drew (S := fun w' : World => Below w0.heap.size w0 w') (by kernel_rfl) S_wd (fun hHeld => ?_)
        generalize w0.drew = wd at *
        refine' tkX 0 hHeld ?y_t13 ?r_t13
        case y_t13 =>
         refine' yieldsIf_load_mid ?hw_t13 _ _ rfl _ _ rfl (ints b) _ ?hS_t13 ?hu_t13 ?hd_t13 ?hi_t13
         case hw_t13 => rfl
         case hS_t13 => exact fun (w' : World) (h : Below w0.heap.size w0 w') => range_below r0 h
         case hu_t13 => exact Tryz.underlying26
         case hd_t13 => rfl
         case hi_t13 => exact (by rw [show (ints b).length = 19 by simp [ints, hb]]; kernel_rfl)
        try simp only [Act.put, xqA, xqB, xqC]
        refine' tkY 1 hHeld ?r_t14
        try simp only [Act.put, xqA, xqB, xqC]
        refine' tkY 2 hHeld ?r_t15
        try simp only [Act.put, xqA, xqB, xqC]
        refine' tkY 3 hHeld ?r_t16
        try simp only [Act.put, xqA, xqB, xqC]
        refine' tkX 4 hHeld ?y_t17 ?r_t17
        case y_t17 => exact Or.inl ⟨by rfl, by (intro w hSw; have c0 := cell_later hSw hx0; go_simp; first | done | with_reducible rfl)⟩
        try simp only [Act.put, xqA, xqB, xqC]
        refine wpAnyH_ready (rs := [5]) (by kernel_rfl) (by simp) ?_
        refine' AllReadyH.cons (o := _) ?e_k18 ?st_k18 AllReadyH.nil
        case e_k18 => (simp only [xeA, xeB, xeC]; exact rfl)
        intro K hK
        go_simp
        with_reducible refine (HPC.out x wd (HT.out.on (Below.chain HB0.out S_wd))).mono ?_
        rintro e we19 ⟨t, rfl, hans, hx20⟩
        have S_we19 := Below.chain S_wd hx20
        clear S_wd hx20
        generalize hq : (placeM b s.data.toList x).isSome = qb at *
        refine hK.out _ _ S_we19 (fun hHeld => ?_)
        clear hK K
        try simp only [Act.put, xqA, xqB, xqC]
        refine' tkY 6 hHeld ?r_t21
        try simp only [Act.put, xqA, xqB, xqC]
        refine' tkY 7 hHeld ?r_t22
        try simp only [Act.put, xqA, xqB, xqC]
        refine' tkY 8 hHeld ?r_t23
        try simp only [Act.put, xqA, xqB, xqC]
        refine' tkY 9 hHeld ?r_t24
        try simp only [Act.put, xqA, xqB, xqC]
        refine wpAnyH_done (by kernel_rfl) ?_ _
        refine NoPanic.normal ?_
        go_wp2
        exact bodyPost_ret (v := .tuple #[.string t, .bool qb]) (by simp [results, Tryz.results102, go_sem]) rfl ⟨t, by rw [HM.out, hq], by rw [HM.out]; exact hans, Below.chain HB0.out S_we19⟩
 · rw [show ([x, y] : List Int).length = 2 from rfl] at *
   by_cases eF : s.data.toList = wFull
   · as_aux_lemma =>
      have fF : (s.toList == [102, 117, 108, 108]) = true := by rw [Lib.toList_data, eF]; rfl
      have HM := Lib.hid (show askM b s.data.toList [x, y] = (if testB [x, y] then some (yesT (fullB [x, y])) else none) from if_pos eF)
      clear eF
      go_enter Tryz.func102, Tryz.ntmps102
      go_upto_region 4 with fail
      generalize World.alloc _ _ = w0 at *
      have HFT := Lib.hid (IsFullTest_c _ [x, y] w0 HV.out)
      clear r0 HV
      go_wp2_with fail
      refine HFT.out.mono ?_
      rintro e w1 ⟨rfl, hb1⟩
      have HB1 := Lib.hid (Below.chain HB0.out hb1)
      clear hb1 HFT
      unfold isFullV
      have HY : Hid (testB [x, y] = true → (testB [x, y] && fullB [x, y]) = fullB [x, y]) := fun h => by rw [h]; rfl
      generalize (testB [x, y] && fullB [x, y]) = fb at *
      generalize testB [x, y] = tb at *
      generalize fullB [x, y] = gb at *
      go_wp2_with fail
      refine (reportText_c fb _).mono ?_
      rintro e _ ⟨rfl, rfl⟩
      go_wp2
      exact bodyPost_ret (v := .tuple #[.string (bs (yesT fb)), .bool tb]) (by simp [results, Tryz.results102, go_sem]) rfl (by rw [HM.out]; exact AnsOut.ite (fun h => by rw [HY.out h]) HB1.out)
   · have HM := Lib.hid (show askM b s.data.toList [x, y] = none from if_neg eF)
     by_cases eB : s.data.toList = wBulbs
     · as_aux_lemma =>
        have fF : (s.toList == [102, 117, 108, 108]) = false := by rw [Lib.toList_data]; exact beq_false_of_ne eF
        have fB : (s.toList == [98, 117, 108, 98, 115]) = true := by rw [Lib.toList_data, eB]; rfl
        clear eB eF
        go_enter Tryz.func102, Tryz.ntmps102
        go_wp2
        exact bodyPost_ret (v := .tuple #[.string ⟨#[]⟩, .bool false]) (by simp [results, Tryz.results102, go_sem]) rfl (AnsOut.no HM.out HB0.out)
     · as_aux_lemma =>
        have fF : (s.toList == [102, 117, 108, 108]) = false := by rw [Lib.toList_data]; exact beq_false_of_ne eF
        have fB : (s.toList == [98, 117, 108, 98, 115]) = false := by rw [Lib.toList_data]; exact beq_false_of_ne eB
        clear eB eF
        go_enter Tryz.func102, Tryz.ntmps102
        go_wp2
        exact bodyPost_ret (v := .tuple #[.string ⟨#[]⟩, .bool false]) (by simp [results, Tryz.results102, go_sem]) rfl (AnsOut.no HM.out HB0.out)
 · exact absurd hn (by simp)
set_option maxHeartbeats 20000000 in
theorem l12Ask_c (b : List Int) (s : ByteArray) (v : Value) (xs : List Int) (w : World) (hb : b.length = 19) (hg : goodB b = true) (hv : Ints w v xs) (hne : xs ≠ []) :
 Calls Tryz.prog 130 #[aggI b, .string s, v] w (SayOut (askM b s.data.toList xs) w) := by
 have HPC := Lib.hid (fun (x : Int) (W : World) => l12Place_c b s x W hb hg)
 unfold aggI SayOut at HPC
 have HB0 := Lib.hid (below_one (w := w) (.cells (ints b).toArray 26))
 have r0 := range_new w (ints b) 26
 have HV := Lib.hid (hv.below (below_one (.cells (ints b).toArray 26)))
 obtain ⟨a, c, rfl, hc1, hc2, _⟩ := hv.parts
 clear hv
 unfold aggI
 rcases xs with _ | ⟨x, _ | ⟨y, _ | ⟨z, t⟩⟩⟩
 · exact absurd rfl hne
 · have HX : Hid (∃ bb oo, a = some ⟨bb, oo, none⟩ ∧ (w.alloc (.cells (ints b).toArray 26)).cell? ⟨bb, oo, none⟩ = some (.int .i64 x)) := by
    obtain ⟨_, _, he, _, _, HC⟩ := HV.out.parts
    obtain ⟨bb, oo, h1, h2⟩ := HC.out 0 x rfl
    injection he with h3
    exact ⟨bb, oo, by rw [h3]; exact h1, h2⟩
   obtain ⟨bb, oo, rfl, hx0⟩ := HX.out
   clear HX HV hne
   rw [show ([x] : List Int).length = 1 from rfl] at *
   by_cases eB : s.data.toList = wBulbs
   · as_aux_lemma =>
      have eF := bulbs_ne eB
      have fB : (s.toList == [98, 117, 108, 98, 115]) = true := by rw [Lib.toList_data, eB]; rfl
      have fF : (s.toList == [102, 117, 108, 108]) = false := by rw [Lib.toList_data]; exact beq_false_of_ne eF
      have HM := Lib.hid (show askM b s.data.toList [x] = (if inB x 0 9999 then some (partT (mbA x) (mbB x)) else none) from if_pos eB)
      have hma := mbA_all x
      clear eB eF
      go_enter Tryz.func130, Tryz.ntmps130
      go_upto_region 2 with fail
      generalize World.alloc _ _ = w0 at *
      have HMB := Lib.hid (fun W => sMeanBars_c x W)
      go_wp2_with fail
      refine (HMB.out _).mono ?_
      rintro e w1 ⟨he, hb1⟩
      rw [mbV_fr] at he
      subst he
      have HB1 := Lib.hid (Below.chain HB0.out hb1)
      clear hb1 HMB r0
      generalize mbA x = ma at *
      generalize mbB x = mb at *
      generalize inB x 0 9999 = qb at *
      have HLP := Lib.hid (fun W => l12Part_c ma mb qb hma.1 hma.2 W)
      obtain ⟨t, ht⟩ : ∃ t, (if qb then partT ma mb else [63]) = t := ⟨_, rfl⟩
      rw [ht] at HLP
      have HTT := Lib.hid ht
      clear ht
      go_wp2_with fail
      refine (HLP.out _).mono ?_
      rintro e w3 ⟨rfl, hb3⟩
      have HB3 := Lib.hid (Below.chain HB1.out hb3)
      clear hb3
      go_wp2
      go_ret
      exact ⟨by rw [HM.out, ← HTT.out]; cases qb <;> rfl, HB3.out⟩
   · have HM0 : askM b s.data.toList [x] = placeM b s.data.toList x := if_neg eB
     have HM := Lib.hid HM0
     by_cases eF : s.data.toList = wFull
     · as_aux_lemma =>
        have fF : (s.toList == [102, 117, 108, 108]) = true := by rw [Lib.toList_data, eF]; rfl
        have fB : (s.toList == [98, 117, 108, 98, 115]) = false := by rw [Lib.toList_data]; exact beq_false_of_ne eB
        clear eB eF HM0
        go_enter Tryz.func130, Tryz.ntmps130
        go_upto_region 6 with fail
        generalize World.alloc _ _ = w0 at *
        refine wp_region_noPanic ?_
        have S_wd : Below w0.heap.size w0 w0.drew := (Below.refl _ _).drew
        refine wp_region_held_drew (S := fun w' : World => Below w0.heap.size w0 w') (by kernel_rfl) S_wd (fun hHeld => ?_)
        generalize w0.drew = wd at *
        refine' tkX 0 hHeld ?y_t25 ?r_t25
        case y_t25 =>
         refine' yieldsIf_load_mid ?hw_t25 _ _ rfl _ _ rfl (ints b) _ ?hS_t25 ?hu_t25 ?hd_t25 ?hi_t25
         case hw_t25 => rfl
         case hS_t25 => exact fun (w' : World) (h : Below w0.heap.size w0 w') => range_below r0 h
         case hu_t25 => exact Tryz.underlying26
         case hd_t25 => rfl
         case hi_t25 => exact (by rw [show (ints b).length = 19 by simp [ints, hb]]; kernel_rfl)
        try simp only [Act.put, xqA, xqB, xqC]
        refine' tkY 1 hHeld ?r_t26
        try simp only [Act.put, xqA, xqB, xqC]
        refine' tkY 2 hHeld ?r_t27
        try simp only [Act.put, xqA, xqB, xqC]
        refine' tkY 3 hHeld ?r_t28
        try simp only [Act.put, xqA, xqB, xqC]
        refine' tkX 4 hHeld ?y_t29 ?r_t29
        case y_t29 => exact Or.inl ⟨by rfl, by (intro w hSw; have c0 := cell_later hSw hx0; go_simp; first | done | with_reducible rfl)⟩
        try simp only [Act.put, xqA, xqB, xqC]
        refine wpAnyH_ready (rs := [5]) (by kernel_rfl) (by simp) ?_
        refine' AllReadyH.cons (o := _) ?e_k30 ?st_k30 AllReadyH.nil
        case e_k30 => (simp only [xeA, xeB, xeC]; exact rfl)
        intro K hK
        go_simp
        with_reducible refine (HPC.out x wd).mono ?_
        rintro e we31 ⟨rfl, hx32⟩
        have S_we31 := Below.chain S_wd hx32
        clear S_wd hx32
        refine hK.out _ _ S_we31 (fun hHeld => ?_)
        clear hK K
        try simp only [Act.put, xqA, xqB, xqC]
        refine' tkY 6 hHeld ?r_t33
        try simp only [Act.put, xqA, xqB, xqC]
        refine wpAnyH_done (by kernel_rfl) ?_ _
        refine NoPanic.normal ?_
        go_wp2
        go_ret
        exact ⟨by rw [HM.out]; rfl, Below.chain HB0.out S_we31⟩
     · as_aux_lemma =>
        have fF : (s.toList == [102, 117, 108, 108]) = false := by rw [Lib.toList_data]; exact beq_false_of_ne eF
        have fB : (s.toList == [98, 117, 108, 98, 115]) = false := by rw [Lib.toList_data]; exact beq_false_of_ne eB
        clear eB eF HM0
        go_enter Tryz.func130, Tryz.ntmps130
        go_upto_region 6 with fail
        generalize World.alloc _ _ = w0 at *
        refine wp_region_noPanic ?_
        have S_wd : Below w0.heap.size w0 w0.drew := (Below.refl _ _).drew
        refine wp_region_held_drew (S := fun w' : World => Below w0.heap.size w0 w') (by kernel_rfl) S_wd (fun hHeld => ?_)
        generalize w0.drew = wd at *
        refine' tkX 0 hHeld ?y_t34 ?r_t34
        case y_t34 =>
         refine' yieldsIf_load_mid ?hw_t34 _ _ rfl _ _ rfl (ints b) _ ?hS_t34 ?hu_t34 ?hd_t34 ?hi_t34
         case hw_t34 => rfl
         case hS_t34 => exact fun (w' : World) (h : Below w0.heap.size w0 w') => range_below r0 h
         case hu_t34 => exact Tryz.underlying26
         case hd_t34 => rfl
         case hi_t34 => exact (by rw [show (ints b).length = 19 by simp [ints, hb]]; kernel_rfl)
        try simp only [Act.put, xqA, xqB, xqC]
        refine' tkY 1 hHeld ?r_t35
        try simp only [Act.put, xqA, xqB, xqC]
        refine' tkY 2 hHeld ?r_t36
        try simp only [Act.put, xqA, xqB, xqC]
        refine' tkY 3 hHeld ?r_t37
        try simp only [Act.put, xqA, xqB, xqC]
        refine' tkX 4 hHeld ?y_t38 ?r_t38
        case y_t38 => exact Or.inl ⟨by rfl, by (intro w hSw; have c0 := cell_later hSw hx0; go_simp; first | done | with_reducible rfl)⟩
        try simp only [Act.put, xqA, xqB, xqC]
        refine wpAnyH_ready (rs := [5]) (by kernel_rfl) (by simp) ?_
        refine' AllReadyH.cons (o := _) ?e_k39 ?st_k39 AllReadyH.nil
        case e_k39 => (simp only [xeA, xeB, xeC]; exact rfl)
        intro K hK
        go_simp
        with_reducible refine (HPC.out x wd).mono ?_
        rintro e we40 ⟨rfl, hx41⟩
        have S_we40 := Below.chain S_wd hx41
        clear S_wd hx41
        refine hK.out _ _ S_we40 (fun hHeld => ?_)
        clear hK K
        try simp only [Act.put, xqA, xqB, xqC]
        refine' tkY 6 hHeld ?r_t42
        try simp only [Act.put, xqA, xqB, xqC]
        refine wpAnyH_done (by kernel_rfl) ?_ _
        refine NoPanic.normal ?_
        go_wp2
        go_ret
        exact ⟨by rw [HM.out]; rfl, Below.chain HB0.out S_we40⟩
 · rw [show ([x, y] : List Int).length = 2 from rfl] at *
   by_cases eF : s.data.toList = wFull
   · as_aux_lemma =>
      have eB := full_ne eF
      have fF : (s.toList == [102, 117, 108, 108]) = true := by rw [Lib.toList_data, eF]; rfl
      have fB : (s.toList == [98, 117, 108, 98, 115]) = false := by rw [Lib.toList_data]; exact beq_false_of_ne eB
      have HM := Lib.hid (show askM b s.data.toList [x, y] = (if testB [x, y] then some (yesT (fullB [x, y])) else none) from if_pos eF)
      clear eF eB
      go_enter Tryz.func130, Tryz.ntmps130
      go_upto_region 4 with fail
      generalize World.alloc _ _ = w0 at *
      have HFT := Lib.hid (sIsFullTest_c _ [x, y] w0 HV.out)
      clear r0 HV
      go_wp2_with fail
      refine HFT.out.mono ?_
      rintro e w1 ⟨rfl, hb1⟩
      have HB1 := Lib.hid (Below.chain HB0.out hb1)
      clear hb1 HFT
      unfold isFullV
      have HY : Hid (testB [x, y] = true → (testB [x, y] && fullB [x, y]) = fullB [x, y]) := fun h => by rw [h]; rfl
      generalize (testB [x, y] && fullB [x, y]) = fb at *
      generalize testB [x, y] = tb at *
      generalize fullB [x, y] = gb at *
      have HLP := Lib.hid (fun W => l12Yes_c fb tb W)
      obtain ⟨t, ht⟩ : ∃ t, (if tb then yesT fb else [63]) = t := ⟨_, rfl⟩
      rw [ht] at HLP
      have HTT := Lib.hid ht
      clear ht
      go_wp2_with fail
      refine (HLP.out _).mono ?_
      rintro e _ ⟨rfl, rfl⟩
      go_wp2
      go_ret
      exact ⟨by rw [HM.out, ← HTT.out]; cases tb with | true => rw [HY.out rfl]; rfl | false => rfl, HB1.out⟩
   · have HM := Lib.hid (show askM b s.data.toList [x, y] = none from if_neg eF)
     by_cases eB : s.data.toList = wBulbs
     · as_aux_lemma =>
        have fF : (s.toList == [102, 117, 108, 108]) = false := by rw [Lib.toList_data]; exact beq_false_of_ne eF
        have fB : (s.toList == [98, 117, 108, 98, 115]) = true := by rw [Lib.toList_data, eB]; rfl
        clear eB eF
        go_enter Tryz.func130, Tryz.ntmps130
        go_wp2
        go_ret
        exact ⟨by rw [HM.out]; rfl, HB0.out⟩
     · as_aux_lemma =>
        have fF : (s.toList == [102, 117, 108, 108]) = false := by rw [Lib.toList_data]; exact beq_false_of_ne eF
        have fB : (s.toList == [98, 117, 108, 98, 115]) = false := by rw [Lib.toList_data]; exact beq_false_of_ne eB
        clear eB eF
        go_enter Tryz.func130, Tryz.ntmps130
        go_wp2
        go_ret
        exact ⟨by rw [HM.out]; rfl, HB0.out⟩
 · have HM : Hid (askM b s.data.toList (x :: y :: z :: t) = none) := rfl
   obtain ⟨n, hn⟩ : ∃ n, (x :: y :: z :: t).length = n := ⟨_, rfl⟩
   have hn3 : 3 ≤ n := by rw [← hn]; simp
   have h1 : ((n : Int) == 1) = false := by simp; omega
   have h2 : ((n : Int) == 2) = false := by simp; omega
   rw [HM.out]
   rw [hn] at *
   clear HV HM
   by_cases eB : s.data.toList = wBulbs
   · as_aux_lemma =>
      have eF := bulbs_ne eB
      have fB : (s.toList == [98, 117, 108, 98, 115]) = true := by rw [Lib.toList_data, eB]; rfl
      have fF : (s.toList == [102, 117, 108, 108]) = false := by rw [Lib.toList_data]; exact beq_false_of_ne eF
      clear eB eF hn
      go_enter Tryz.func130, Tryz.ntmps130
      go_wp2
      go_ret
      exact ⟨rfl, HB0.out⟩
   · by_cases eF : s.data.toList = wFull
     · as_aux_lemma =>
        have fF : (s.toList == [102, 117, 108, 108]) = true := by rw [Lib.toList_data, eF]; rfl
        have fB : (s.toList == [98, 117, 108, 98, 115]) = false := by rw [Lib.toList_data]; exact beq_false_of_ne eB
        clear eB eF hn
        go_enter Tryz.func130, Tryz.ntmps130
        go_wp2
        go_ret
        exact ⟨rfl, HB0.out⟩
     · as_aux_lemma =>
        have fF : (s.toList == [102, 117, 108, 108]) = false := by rw [Lib.toList_data]; exact beq_false_of_ne eF
        have fB : (s.toList == [98, 117, 108, 98, 115]) = false := by rw [Lib.toList_data]; exact beq_false_of_ne eB
        clear eB eF hn
        go_enter Tryz.func130, Tryz.ntmps130
        go_wp2
        go_ret
        exact ⟨rfl, HB0.out⟩
end Go.Proofs.YtohgjfdbnkjefaaGreatDoor
