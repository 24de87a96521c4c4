import Derived.Test.YtohgjfdbnkjefaaGreatDoorKc22
import Derived.Deep.RegionHeld3
open Go.Lib (hid)
namespace Go.Proofs.YtohgjfdbnkjefaaGreatDoor
open Go.RowKit
set_option linter.unusedVariables false
set_option linter.unusedSimpArgs false
set_option maxRecDepth 100000
theorem mbA_all (n : Int) : mbA n ≤ 999999 ∧ mbB n ≤ 999999 := by
 cases h : inB n 0 9999 with
 | true => exact mbA_le h
 | false => unfold mbA mbB frA frB; rw [h]; exact ⟨Nat.zero_le _, Nat.zero_le _⟩
theorem AnsOut.ite {c : Bool} {s : Bs} {t : ByteArray} {w w' : World} (ht : c = true → t = bs s) (hb : Below w.heap.size w w') : AnsOut (if c then some s else none) w (.returned (.tuple #[.string t, .bool c])) w' := by
 cases c with
 | true => exact ⟨t, rfl, fun q hq => by rw [ht rfl, Option.some.inj hq], hb⟩
 | false => exact ⟨t, rfl, (fun q hq => by cases hq), hb⟩
theorem full_ne {s : Bs} (h : s = wFull) : s ≠ wBulbs := by rw [h]; decide
theorem bulbs_ne {s : Bs} (h : s = wBulbs) : s ≠ wFull := by rw [h]; decide
set_option maxHeartbeats 20000000 in
theorem answer_c (b : List Int) (s : ByteArray) (v : Value) (xs : List Int) (w : World) (hb : b.length = 19) (hg : goodB b = true) (hv : Ints w v xs) (hn : xs.length ≤ 2) (ht : TabC w) :
 Calls Tryz.prog 102 #[aggI b, .string s, v] w (AnsOut (askM b s.data.toList xs) w) := by
 have HT := hid ht
 have HPC := hid (fun (x : Int) (W : World) (h : TabC W) => placed_c b s x W hb hg h)
 unfold aggI at HPC
 have HB0 := hid (below_one (w := w) (.cells (ints b).toArray 26))
 have r0 := range_new w (ints b) 26
 have HV := hid (hv.below (below_one (.cells (ints b).toArray 26)))
 obtain ⟨a, c, rfl, hc1, hc2, _⟩ := hv.parts
 clear ht hv
 unfold aggI
 rcases xs with _ | ⟨x, _ | ⟨y, _ | ⟨z, t⟩⟩⟩
 · as_aux_lemma =>
    have HM : Hid (askM b s.data.toList [] = tellM b s.data.toList) := rfl
    rw [HM.out]
    go_enter Tryz.func102, Tryz.ntmps102
    go_wp2_with (refine wpList_loadB rfl _ rfl _ rfl b r0 hb ?_)
    refine (plain_c b s _ hb hg (HT.out.on HB0.out)).mono ?_
    rintro e w1 ⟨t, rfl, hans, hb1⟩
    have HA := hid hans
    clear hans
    generalize tellM b s.data.toList = o at *
    go_wp2
    exact bodyPost_ret (v := .tuple #[.string t, .bool o.isSome]) (by simp [results, Tryz.results102, go_sem]) rfl ⟨t, rfl, HA.out, Below.chain HB0.out hb1⟩
 · have HX : Hid (∃ bb oo, a = some ⟨bb, oo, none⟩ ∧ (w.alloc (.cells (ints b).toArray 26)).cell? ⟨bb, oo, none⟩ = some (.int .i64 x)) := by
    obtain ⟨_, _, he, _, _, HC⟩ := HV.out.parts
    obtain ⟨bb, oo, h1, h2⟩ := HC.out 0 x rfl
    injection he with h3
    exact ⟨bb, oo, by rw [h3]; exact h1, h2⟩
   obtain ⟨bb, oo, rfl, hx0⟩ := HX.out
   clear HX HV
   rw [show ([x] : List Int).length = 1 from rfl] at *
   by_cases eB : s.data.toList = wBulbs
   · as_aux_lemma =>
      have eF := bulbs_ne eB
      have fB : (s.toList == [98, 117, 108, 98, 115]) = true := by rw [Lib.toList_data, eB]; rfl
      have fF : (s.toList == [102, 117, 108, 108]) = false := by rw [Lib.toList_data]; exact beq_false_of_ne eF
      have HM := hid (show askM b s.data.toList [x] = (if inB x 0 9999 then some (partT (mbA x) (mbB x)) else none) from if_pos eB)
      have hma := mbA_all x
      clear eB eF
      go_enter Tryz.func102, Tryz.ntmps102
      go_upto_region 7 with fail
      generalize World.alloc _ _ = w0 at *
      have HMB := hid (fun W hW => MeanBars_c x W hW)
      go_wp2_with fail
      refine (HMB.out _ (HT.out.on HB0.out).pow).mono ?_
      rintro e w1 ⟨he, hb1⟩
      rw [mbV_fr] at he
      subst he
      have HB1 := hid (Below.chain HB0.out hb1)
      clear hb1 HMB r0
      generalize mbA x = ma at *
      generalize mbB x = mb at *
      have HP := hid (Bk.new w1 174 #[.int .i64 (ma : Int), .int .i64 (mb : Int)])
      have HB2 := hid (Below.alc HB1.out (.cells #[.int .i64 (ma : Int), .int .i64 (mb : Int)] 174))
      go_wp2_with fail
      refine (fractionText_c ma mb hma.1 hma.2 _ (HT.out.on (by have hb := HB1.out; (repeat (first | exact Below.refl _ _ | exact (Below.refl _ _).drew | assumption | exact below_one _ | refine Below.chain ?_ (by assumption) | refine Below.drew ?_ | refine Below.alc ?_ _ | refine below_drewN ?_ | (refine Below.setCell ?_ ?_ _) | exact Nat.le_refl _ | (simp; done) | (simp; omega))))).pow).mono ?_
      rintro e w3 ⟨rfl, hb3⟩
      generalize hq : inB x 0 9999 = qb at *
      go_wp2
      exact bodyPost_ret (v := .tuple #[.string (bs (partT ma mb)), .bool qb]) (by simp [results, Tryz.results102, go_sem]) rfl (by rw [HM.out]; exact AnsOut.ite (fun _ => rfl) (by have hb := HB1.out; have hb4 := hb3; (repeat (first | exact Below.refl _ _ | exact (Below.refl _ _).drew | assumption | exact below_one _ | refine Below.chain ?_ (by assumption) | refine Below.drew ?_ | refine Below.alc ?_ _ | refine below_drewN ?_ | (refine Below.setCell ?_ ?_ _) | exact Nat.le_refl _ | (simp; done) | (simp; omega)))))
   · have HM0 : askM b s.data.toList [x] = placeM b s.data.toList x := if_neg eB
     have HM := hid HM0
     by_cases eF : s.data.toList = wFull
     · as_aux_lemma =>
        have fF : (s.toList == [102, 117, 108, 108]) = true := by rw [Lib.toList_data, eF]; rfl
        have fB : (s.toList == [98, 117, 108, 98, 115]) = false := by rw [Lib.toList_data]; exact beq_false_of_ne eB
        clear eB eF HM0
        go_enter Tryz.func102, Tryz.ntmps102
        go_upto_region 10 with fail
        generalize World.alloc _ _ = w0 at *
        refine wp_region_noPanic ?_
        have S_wd : Below w0.heap.size w0 w0.drew := (Below.refl _ _).drew
        refine wp_region_held_drew (S := fun w' : World => Below w0.heap.size w0 w') (by kernel_rfl) S_wd (fun hHeld => ?_)
        generalize w0.drew = wd at *
        refine' tkX 0 hHeld ?y_t1 ?r_t1
        case y_t1 =>
         refine' yieldsIf_load_mid ?hw_t1 _ _ rfl _ _ rfl (ints b) _ ?hS_t1 ?hu_t1 ?hd_t1 ?hi_t1
         case hw_t1 => rfl
         case hS_t1 => exact fun (w' : World) (h : Below w0.heap.size w0 w') => range_below r0 h
         case hu_t1 => exact Tryz.underlying26
         case hd_t1 => rfl
         case hi_t1 => exact (by rw [show (ints b).length = 19 by simp [ints, hb]]; kernel_rfl)
        try simp only [Act.put, xqA, xqB, xqC]
        refine' tkY 1 hHeld ?r_t2
        try simp only [Act.put, xqA, xqB, xqC]
        refine' tkY 2 hHeld ?r_t3
        try simp only [Act.put, xqA, xqB, xqC]
        refine' tkY 3 hHeld ?r_t4
        try simp only [Act.put, xqA, xqB, xqC]
        refine' tkX 4 hHeld ?y_t5 ?r_t5
        case y_t5 => exact Or.inl ⟨by rfl, by (intro w hSw; have c0 := cell_later hSw hx0; go_simp; first | done | with_reducible rfl)⟩
        try simp only [Act.put, xqA, xqB, xqC]
        refine wpAnyH_ready (rs := [5]) (by kernel_rfl) (by simp) ?_
        refine' AllReadyH.cons (o := _) ?e_k6 ?st_k6 AllReadyH.nil
        case e_k6 => (simp only [xeA, xeB, xeC]; exact rfl)
        intro K hK
        go_simp
        with_reducible refine (HPC.out x wd (HT.out.on (Below.chain HB0.out S_wd))).mono ?_
        rintro e we7 ⟨t, rfl, hans, hx8⟩
        have S_we7 := Below.chain S_wd hx8
        clear S_wd hx8
        generalize hq : (placeM b s.data.toList x).isSome = qb at *
        refine hK.out _ _ S_we7 (fun hHeld => ?_)
        clear hK K
        try simp only [Act.put, xqA, xqB, xqC]
        refine' tkY 6 hHeld ?r_t9
        try simp only [Act.put, xqA, xqB, xqC]
        refine' tkY 7 hHeld ?r_t10
        try simp only [Act.put, xqA, xqB, xqC]
        refine' tkY 8 hHeld ?r_t11
        try simp only [Act.put, xqA, xqB, xqC]
        refine' tkY 9 hHeld ?r_t12
        try simp only [Act.put, xqA, xqB, xqC]
        refine wpAnyH_done (by kernel_rfl) ?_ _
        refine NoPanic.normal ?_
        go_wp2
        exact bodyPost_ret (v := .tuple #[.string t, .bool qb]) (by simp [results, Tryz.results102, go_sem]) rfl ⟨t, by rw [HM.out, hq], by rw [HM.out]; exact hans, Below.chain HB0.out S_we7⟩
     · as_aux_lemma =>
        have fF : (s.toList == [102, 117, 108, 108]) = false := by rw [Lib.toList_data]; exact beq_false_of_ne eF
        have fB : (s.toList == [98, 117, 108, 98, 115]) = false := by rw [Lib.toList_data]; exact beq_false_of_ne eB
        clear eB eF HM0
        go_enter Tryz.func102, Tryz.ntmps102
        go_upto_region 10 with fail
        generalize World.alloc _ _ = w0 at *
        refine wp_region_noPanic ?_
        have S_wd : Below w0.heap.size w0 w0.drew := (Below.refl _ _).drew
        refine wp_region_held_drew (S := fun w' : World => Below w0.heap.size w0 w') (by kernel_rfl) S_wd (fun hHeld => ?_)
        generalize w0.drew = wd at *
        refine' tkX 0 hHeld ?y_t13 ?r_t13
        case y_t13 =>
         refine' yieldsIf_load_mid ?hw_t13 _ _ rfl _ _ rfl (ints b) _ ?hS_t13 ?hu_t13 ?hd_t13 ?hi_t13
         case hw_t13 => rfl
         case hS_t13 => exact fun (w' : World) (h : Below w0.heap.size w0 w') => range_below r0 h
         case hu_t13 => exact Tryz.underlying26
         case hd_t13 => rfl
         case hi_t13 => exact (by rw [show (ints b).length = 19 by simp [ints, hb]]; kernel_rfl)
        try simp only [Act.put, xqA, xqB, xqC]
        refine' tkY 1 hHeld ?r_t14
        try simp only [Act.put, xqA, xqB, xqC]
        refine' tkY 2 hHeld ?r_t15
        try simp only [Act.put, xqA, xqB, xqC]
        refine' tkY 3 hHeld ?r_t16
        try simp only [Act.put, xqA, xqB, xqC]
        refine' tkX 4 hHeld ?y_t17 ?r_t17
        case y_t17 => exact Or.inl ⟨by rfl, by (intro w hSw; have c0 := cell_later hSw hx0; go_simp; first | done | with_reducible rfl)⟩
        try simp only [Act.put, xqA, xqB, xqC]
        refine wpAnyH_ready (rs := [5]) (by kernel_rfl) (by simp) ?_
        refine' AllReadyH.cons (o := _) ?e_k18 ?st_k18 AllReadyH.nil
        case e_k18 => (simp only [xeA, xeB, xeC]; exact rfl)
        intro K hK
        go_simp
        with_reducible refine (HPC.out x wd (HT.out.on (Below.chain HB0.out S_wd))).mono ?_
        rintro e we19 ⟨t, rfl, hans, hx20⟩
        have S_we19 := Below.chain S_wd hx20
        clear S_wd hx20
        generalize hq : (placeM b s.data.toList x).isSome = qb at *
        refine hK.out _ _ S_we19 (fun hHeld => ?_)
        clear hK K
        try simp only [Act.put, xqA, xqB, xqC]
        refine' tkY 6 hHeld ?r_t21
        try simp only [Act.put, xqA, xqB, xqC]
        refine' tkY 7 hHeld ?r_t22
        try simp only [Act.put, xqA, xqB, xqC]
        refine' tkY 8 hHeld ?r_t23
        try simp only [Act.put, xqA, xqB, xqC]
        refine' tkY 9 hHeld ?r_t24
        try simp only [Act.put, xqA, xqB, xqC]
        refine wpAnyH_done (by kernel_rfl) ?_ _
        refine NoPanic.normal ?_
        go_wp2
        exact bodyPost_ret (v := .tuple #[.string t, .bool qb]) (by simp [results, Tryz.results102, go_sem]) rfl ⟨t, by rw [HM.out, hq], by rw [HM.out]; exact hans, Below.chain HB0.out S_we19⟩
 · rw [show ([x, y] : List Int).length = 2 from rfl] at *
   by_cases eF : s.data.toList = wFull
   · as_aux_lemma =>
      have fF : (s.toList == [102, 117, 108, 108]) = true := by rw [Lib.toList_data, eF]; rfl
      have HM := hid (show askM b s.data.toList [x, y] = (if testB [x, y] then some (yesT (fullB [x, y])) else none) from if_pos eF)
      clear eF
      go_enter Tryz.func102, Tryz.ntmps102
      go_upto_region 4 with fail
      generalize World.alloc _ _ = w0 at *
      have HFT := hid (IsFullTest_c _ [x, y] w0 HV.out)
      clear r0 HV
      go_wp2_with fail
      refine HFT.out.mono ?_
      rintro e w1 ⟨rfl, hb1⟩
      have HB1 := hid (Below.chain HB0.out hb1)
      clear hb1 HFT
      unfold isFullV
      have HY : Hid (testB [x, y] = true → (testB [x, y] && fullB [x, y]) = fullB [x, y]) := fun h => by rw [h]; rfl
      generalize (testB [x, y] && fullB [x, y]) = fb at *
      generalize testB [x, y] = tb at *
      generalize fullB [x, y] = gb at *
      go_wp2_with fail
      refine (reportText_c fb _).mono ?_
      rintro e _ ⟨rfl, rfl⟩
      go_wp2
      exact bodyPost_ret (v := .tuple #[.string (bs (yesT fb)), .bool tb]) (by simp [results, Tryz.results102, go_sem]) rfl (by rw [HM.out]; exact AnsOut.ite (fun h => by rw [HY.out h]) HB1.out)
   · have HM := hid (show askM b s.data.toList [x, y] = none from if_neg eF)
     by_cases eB : s.data.toList = wBulbs
     · as_aux_lemma =>
        have fF : (s.toList == [102, 117, 108, 108]) = false := by rw [Lib.toList_data]; exact beq_false_of_ne eF
        have fB : (s.toList == [98, 117, 108, 98, 115]) = true := by rw [Lib.toList_data, eB]; rfl
        clear eB eF
        go_enter Tryz.func102, Tryz.ntmps102
        go_wp2
        exact bodyPost_ret (v := .tuple #[.string ⟨#[]⟩, .bool false]) (by simp [results, Tryz.results102, go_sem]) rfl (AnsOut.no HM.out HB0.out)
     · as_aux_lemma =>
        have fF : (s.toList == [102, 117, 108, 108]) = false := by rw [Lib.toList_data]; exact beq_false_of_ne eF
        have fB : (s.toList == [98, 117, 108, 98, 115]) = false := by rw [Lib.toList_data]; exact beq_false_of_ne eB
        clear eB eF
        go_enter Tryz.func102, Tryz.ntmps102
        go_wp2
        exact bodyPost_ret (v := .tuple #[.string ⟨#[]⟩, .bool false]) (by simp [results, Tryz.results102, go_sem]) rfl (AnsOut.no HM.out HB0.out)
 · exact absurd hn (by simp)
set_option maxHeartbeats 20000000 in
theorem l12Ask_c (b : List Int) (s : ByteArray) (v : Value) (xs : List Int) (w : World) (hb : b.length = 19) (hg : goodB b = true) (hv : Ints w v xs) (hne : xs ≠ []) :
 Calls Tryz.prog 130 #[aggI b, .string s, v] w (SayOut (askM b s.data.toList xs) w) := by
 have HPC := hid (fun (x : Int) (W : World) => l12Place_c b s x W hb hg)
 unfold aggI SayOut at HPC
 have HB0 := hid (below_one (w := w) (.cells (ints b).toArray 26))
 have r0 := range_new w (ints b) 26
 have HV := hid (hv.below (below_one (.cells (ints b).toArray 26)))
 obtain ⟨a, c, rfl, hc1, hc2, _⟩ := hv.parts
 clear hv
 unfold aggI
 rcases xs with _ | ⟨x, _ | ⟨y, _ | ⟨z, t⟩⟩⟩
 · exact absurd rfl hne
 · have HX : Hid (∃ bb oo, a = some ⟨bb, oo, none⟩ ∧ (w.alloc (.cells (ints b).toArray 26)).cell? ⟨bb, oo, none⟩ = some (.int .i64 x)) := by
    obtain ⟨_, _, he, _, _, HC⟩ := HV.out.parts
    obtain ⟨bb, oo, h1, h2⟩ := HC.out 0 x rfl
    injection he with h3
    exact ⟨bb, oo, by rw [h3]; exact h1, h2⟩
   obtain ⟨bb, oo, rfl, hx0⟩ := HX.out
   clear HX HV hne
   rw [show ([x] : List Int).length = 1 from rfl] at *
   by_cases eB : s.data.toList = wBulbs
   · as_aux_lemma =>
      have eF := bulbs_ne eB
      have fB : (s.toList == [98, 117, 108, 98, 115]) = true := by rw [Lib.toList_data, eB]; rfl
      have fF : (s.toList == [102, 117, 108, 108]) = false := by rw [Lib.toList_data]; exact beq_false_of_ne eF
      have HM := hid (show askM b s.data.toList [x] = (if inB x 0 9999 then some (partT (mbA x) (mbB x)) else none) from if_pos eB)
      have hma := mbA_all x
      clear eB eF
      go_enter Tryz.func130, Tryz.ntmps130
      go_upto_region 2 with fail
      generalize World.alloc _ _ = w0 at *
      have HMB := hid (fun W => sMeanBars_c x W)
      go_wp2_with fail
      refine (HMB.out _).mono ?_
      rintro e w1 ⟨he, hb1⟩
      rw [mbV_fr] at he
      subst he
      have HB1 := hid (Below.chain HB0.out hb1)
      clear hb1 HMB r0
      generalize mbA x = ma at *
      generalize mbB x = mb at *
      generalize inB x 0 9999 = qb at *
      have HLP := hid (fun W => l12Part_c ma mb qb hma.1 hma.2 W)
      obtain ⟨t, ht⟩ : ∃ t, (if qb then partT ma mb else [63]) = t := ⟨_, rfl⟩
      rw [ht] at HLP
      have HTT := hid ht
      clear ht
      go_wp2_with fail
      refine (HLP.out _).mono ?_
      rintro e w3 ⟨rfl, hb3⟩
      have HB3 := hid (Below.chain HB1.out hb3)
      clear hb3
      go_wp2
      go_ret
      exact ⟨by rw [HM.out, ← HTT.out]; cases qb <;> rfl, HB3.out⟩
   · have HM0 : askM b s.data.toList [x] = placeM b s.data.toList x := if_neg eB
     have HM := hid HM0
     by_cases eF : s.data.toList = wFull
     · as_aux_lemma =>
        have fF : (s.toList == [102, 117, 108, 108]) = true := by rw [Lib.toList_data, eF]; rfl
        have fB : (s.toList == [98, 117, 108, 98, 115]) = false := by rw [Lib.toList_data]; exact beq_false_of_ne eB
        clear eB eF HM0
        go_enter Tryz.func130, Tryz.ntmps130
        go_upto_region 6 with fail
        generalize World.alloc _ _ = w0 at *
        refine wp_region_noPanic ?_
        have S_wd : Below w0.heap.size w0 w0.drew := (Below.refl _ _).drew
        refine wp_region_held_drew (S := fun w' : World => Below w0.heap.size w0 w') (by kernel_rfl) S_wd (fun hHeld => ?_)
        generalize w0.drew = wd at *
        refine' tkX 0 hHeld ?y_t25 ?r_t25
        case y_t25 =>
         refine' yieldsIf_load_mid ?hw_t25 _ _ rfl _ _ rfl (ints b) _ ?hS_t25 ?hu_t25 ?hd_t25 ?hi_t25
         case hw_t25 => rfl
         case hS_t25 => exact fun (w' : World) (h : Below w0.heap.size w0 w') => range_below r0 h
         case hu_t25 => exact Tryz.underlying26
         case hd_t25 => rfl
         case hi_t25 => exact (by rw [show (ints b).length = 19 by simp [ints, hb]]; kernel_rfl)
        try simp only [Act.put, xqA, xqB, xqC]
        refine' tkY 1 hHeld ?r_t26
        try simp only [Act.put, xqA, xqB, xqC]
        refine' tkY 2 hHeld ?r_t27
        try simp only [Act.put, xqA, xqB, xqC]
        refine' tkY 3 hHeld ?r_t28
        try simp only [Act.put, xqA, xqB, xqC]
        refine' tkX 4 hHeld ?y_t29 ?r_t29
        case y_t29 => exact Or.inl ⟨by rfl, by (intro w hSw; have c0 := cell_later hSw hx0; go_simp; first | done | with_reducible rfl)⟩
        try simp only [Act.put, xqA, xqB, xqC]
        refine wpAnyH_ready (rs := [5]) (by kernel_rfl) (by simp) ?_
        refine' AllReadyH.cons (o := _) ?e_k30 ?st_k30 AllReadyH.nil
        case e_k30 => (simp only [xeA, xeB, xeC]; exact rfl)
        intro K hK
        go_simp
        with_reducible refine (HPC.out x wd).mono ?_
        rintro e we31 ⟨rfl, hx32⟩
        have S_we31 := Below.chain S_wd hx32
        clear S_wd hx32
        refine hK.out _ _ S_we31 (fun hHeld => ?_)
        clear hK K
        try simp only [Act.put, xqA, xqB, xqC]
        refine' tkY 6 hHeld ?r_t33
        try simp only [Act.put, xqA, xqB, xqC]
        refine wpAnyH_done (by kernel_rfl) ?_ _
        refine NoPanic.normal ?_
        go_wp2
        go_ret
        exact ⟨by rw [HM.out]; rfl, Below.chain HB0.out S_we31⟩
     · as_aux_lemma =>
        have fF : (s.toList == [102, 117, 108, 108]) = false := by rw [Lib.toList_data]; exact beq_false_of_ne eF
        have fB : (s.toList == [98, 117, 108, 98, 115]) = false := by rw [Lib.toList_data]; exact beq_false_of_ne eB
        clear eB eF HM0
        go_enter Tryz.func130, Tryz.ntmps130
        go_upto_region 6 with fail
        generalize World.alloc _ _ = w0 at *
        refine wp_region_noPanic ?_
        have S_wd : Below w0.heap.size w0 w0.drew := (Below.refl _ _).drew
        refine wp_region_held_drew (S := fun w' : World => Below w0.heap.size w0 w') (by kernel_rfl) S_wd (fun hHeld => ?_)
        generalize w0.drew = wd at *
        refine' tkX 0 hHeld ?y_t34 ?r_t34
        case y_t34 =>
         refine' yieldsIf_load_mid ?hw_t34 _ _ rfl _ _ rfl (ints b) _ ?hS_t34 ?hu_t34 ?hd_t34 ?hi_t34
         case hw_t34 => rfl
         case hS_t34 => exact fun (w' : World) (h : Below w0.heap.size w0 w') => range_below r0 h
         case hu_t34 => exact Tryz.underlying26
         case hd_t34 => rfl
         case hi_t34 => exact (by rw [show (ints b).length = 19 by simp [ints, hb]]; kernel_rfl)
        try simp only [Act.put, xqA, xqB, xqC]
        refine' tkY 1 hHeld ?r_t35
        try simp only [Act.put, xqA, xqB, xqC]
        refine' tkY 2 hHeld ?r_t36
        try simp only [Act.put, xqA, xqB, xqC]
        refine' tkY 3 hHeld ?r_t37
        try simp only [Act.put, xqA, xqB, xqC]
        refine' tkX 4 hHeld ?y_t38 ?r_t38
        case y_t38 => exact Or.inl ⟨by rfl, by (intro w hSw; have c0 := cell_later hSw hx0; go_simp; first | done | with_reducible rfl)⟩
        try simp only [Act.put, xqA, xqB, xqC]
        refine wpAnyH_ready (rs := [5]) (by kernel_rfl) (by simp) ?_
        refine' AllReadyH.cons (o := _) ?e_k39 ?st_k39 AllReadyH.nil
        case e_k39 => (simp only [xeA, xeB, xeC]; exact rfl)
        intro K hK
        go_simp
        with_reducible refine (HPC.out x wd).mono ?_
        rintro e we40 ⟨rfl, hx41⟩
        have S_we40 := Below.chain S_wd hx41
        clear S_wd hx41
        refine hK.out _ _ S_we40 (fun hHeld => ?_)
        clear hK K
        try simp only [Act.put, xqA, xqB, xqC]
        refine' tkY 6 hHeld ?r_t42
        try simp only [Act.put, xqA, xqB, xqC]
        refine wpAnyH_done (by kernel_rfl) ?_ _
        refine NoPanic.normal ?_
        go_wp2
        go_ret
        exact ⟨by rw [HM.out]; rfl, Below.chain HB0.out S_we40⟩
 · rw [show ([x, y] : List Int).length = 2 from rfl] at *
   by_cases eF : s.data.toList = wFull
   · as_aux_lemma =>
      have eB := full_ne eF
      have fF : (s.toList == [102, 117, 108, 108]) = true := by rw [Lib.toList_data, eF]; rfl
      have fB : (s.toList == [98, 117, 108, 98, 115]) = false := by rw [Lib.toList_data]; exact beq_false_of_ne eB
      have HM := hid (show askM b s.data.toList [x, y] = (if testB [x, y] then some (yesT (fullB [x, y])) else none) from if_pos eF)
      clear eF eB
      go_enter Tryz.func130, Tryz.ntmps130
      go_upto_region 4 with fail
      generalize World.alloc _ _ = w0 at *
      have HFT := hid (sIsFullTest_c _ [x, y] w0 HV.out)
      clear r0 HV
      go_wp2_with fail
      refine HFT.out.mono ?_
      rintro e w1 ⟨rfl, hb1⟩
      have HB1 := hid (Below.chain HB0.out hb1)
      clear hb1 HFT
      unfold isFullV
      have HY : Hid (testB [x, y] = true → (testB [x, y] && fullB [x, y]) = fullB [x, y]) := fun h => by rw [h]; rfl
      generalize (testB [x, y] && fullB [x, y]) = fb at *
      generalize testB [x, y] = tb at *
      generalize fullB [x, y] = gb at *
      have HLP := hid (fun W => l12Yes_c fb tb W)
      obtain ⟨t, ht⟩ : ∃ t, (if tb then yesT fb else [63]) = t := ⟨_, rfl⟩
      rw [ht] at HLP
      have HTT := hid ht
      clear ht
      go_wp2_with fail
      refine (HLP.out _).mono ?_
      rintro e _ ⟨rfl, rfl⟩
      go_wp2
      go_ret
      exact ⟨by rw [HM.out, ← HTT.out]; cases tb with | true => rw [HY.out rfl]; rfl | false => rfl, HB1.out⟩
   · have HM := hid (show askM b s.data.toList [x, y] = none from if_neg eF)
     by_cases eB : s.data.toList = wBulbs
     · as_aux_lemma =>
        have fF : (s.toList == [102, 117, 108, 108]) = false := by rw [Lib.toList_data]; exact beq_false_of_ne eF
        have fB : (s.toList == [98, 117, 108, 98, 115]) = true := by rw [Lib.toList_data, eB]; rfl
        clear eB eF
        go_enter Tryz.func130, Tryz.ntmps130
        go_wp2
        go_ret
        exact ⟨by rw [HM.out]; rfl, HB0.out⟩
     · as_aux_lemma =>
        have fF : (s.toList == [102, 117, 108, 108]) = false := by rw [Lib.toList_data]; exact beq_false_of_ne eF
        have fB : (s.toList == [98, 117, 108, 98, 115]) = false := by rw [Lib.toList_data]; exact beq_false_of_ne eB
        clear eB eF
        go_enter Tryz.func130, Tryz.ntmps130
        go_wp2
        go_ret
        exact ⟨by rw [HM.out]; rfl, HB0.out⟩
 · have HM : Hid (askM b s.data.toList (x :: y :: z :: t) = none) := rfl
   obtain ⟨n, hn⟩ : ∃ n, (x :: y :: z :: t).length = n := ⟨_, rfl⟩
   have hn3 : 3 ≤ n := by rw [← hn]; simp
   have h1 : ((n : Int) == 1) = false := by simp; omega
   have h2 : ((n : Int) == 2) = false := by simp; omega
   rw [HM.out]
   rw [hn] at *
   clear HV HM
   by_cases eB : s.data.toList = wBulbs
   · as_aux_lemma =>
      have eF := bulbs_ne eB
      have fB : (s.toList == [98, 117, 108, 98, 115]) = true := by rw [Lib.toList_data, eB]; rfl
      have fF : (s.toList == [102, 117, 108, 108]) = false := by rw [Lib.toList_data]; exact beq_false_of_ne eF
      clear eB eF hn
      go_enter Tryz.func130, Tryz.ntmps130
      go_wp2
      go_ret
      exact ⟨rfl, HB0.out⟩
   · by_cases eF : s.data.toList = wFull
     · as_aux_lemma =>
        have fF : (s.toList == [102, 117, 108, 108]) = true := by rw [Lib.toList_data, eF]; rfl
        have fB : (s.toList == [98, 117, 108, 98, 115]) = false := by rw [Lib.toList_data]; exact beq_false_of_ne eB
        clear eB eF hn
        go_enter Tryz.func130, Tryz.ntmps130
        go_wp2
        go_ret
        exact ⟨rfl, HB0.out⟩
     · as_aux_lemma =>
        have fF : (s.toList == [102, 117, 108, 108]) = false := by rw [Lib.toList_data]; exact beq_false_of_ne eF
        have fB : (s.toList == [98, 117, 108, 98, 115]) = false := by rw [Lib.toList_data]; exact beq_false_of_ne eB
        clear eB eF hn
        go_enter Tryz.func130, Tryz.ntmps130
        go_wp2
        go_ret
        exact ⟨rfl, HB0.out⟩
theorem sayM_done {b : List Int} {line : Bs} {l : List Int} {k : Int} {n : Nat} (h : numsM (wsL line).tail = some l) (hk : kindM (hdL line) = some (k, n)) (hn : l.length = n) :
 (execM b line).1 = doneB b k (l.getD 0 0) (l.getD 1 0) ∧ sayO (execM b line).2 = doneT b k (l.getD 0 0) (l.getD 1 0) := by
 have hl : ¬ 2 < l.length := by have := (kind_le hk).2.2; omega
 unfold doneB doneT
 cases hp : possB b k (l.getD 0 0) (l.getD 1 0) with
 | true => rw [execM_do h hl hk hn hp]; exact ⟨rfl, rfl⟩
 | false => rw [execM_no h hl hk (fun hh => by rw [hp] at hh; exact absurd hh.2 (by simp))]; exact ⟨rfl, rfl⟩
def ExeS (b : List Int) (line : Bs) (w : World) (e : Ending) (w' : World) : Prop := e = .returned (.tuple #[aggI (execM b line).1, .string (bs (sayO (execM b line).2))]) ∧ Below w.heap.size w w'
set_option maxHeartbeats 8000000 in
theorem l12Exec_c (b : List Int) (line : ByteArray) (w : World) (hb : b.length = 19) (hg : goodB b = true) (hl : line.size ≤ 160) :
 Calls Tryz.prog 72 #[aggI b, .string line] w (ExeS b line.data.toList w) := by
 have r0 := World.rangeAt_alloc (range_new w (ints b) 26) zB
 have t0 := there_new (w.alloc (.cells (ints b).toArray 26)) _ 26 (n := 19) (show 19 ≤ (zBA : Array Value).size by decide)
 have hb0 : Below w.heap.size w ((w.alloc (.cells (ints b).toArray 26)).alloc zB) := qBl
 simp only [World.size_alloc] at t0
 have hsz : w.heap.size + 1 < ((w.alloc (.cells (ints b).toArray 26)).alloc zB).heap.size := by simp
 have hwl := split_len 32 line.data.toList
 have hwm := split_mem 32 line.data.toList
 have hwp := split_pos 32 line.data.toList
 have hwh := split_head 32 line.data.toList
 rw [ba_len] at hwl hwm
 have HE : Hid (∀ (x : List Int × Option Bs) (w' : World), execM b line.data.toList = x → Below w.heap.size w w' → ExeS b line.data.toList w (.returned (.tuple #[aggI x.1, .string (bs (sayO x.2))])) w') := fun x w' hx hw => by
  subst hx; exact ⟨rfl, hw⟩
 obtain ⟨ws, hws⟩ : ∃ ws, splitS 32 line.data.toList = ws := ⟨_, rfl⟩
 obtain ⟨w0, hw0⟩ : ∃ w0, hdL line.data.toList = w0 := ⟨_, rfl⟩
 have hwh2 : ws[0]? = some w0 := by rw [← hws, ← hw0]; exact hwh
 have HSP := hid (fun W => l1Split_c line 32 W (by omega))
 unfold SplOut at HSP
 have hT : (wsL line.data.toList).tail = ws.tail := by rw [← hws]; rfl
 rw [hws] at hwl hwm hwp HSP
 have hcz : ((32 : UInt8).toNat : Int) = 32 := rfl
 rw [hcz] at HSP
 unfold aggI zB zBA at *
 clear hwh hws
 go_enter Tryz.func72, Tryz.ntmps72
 go_wp2_with fail
 refine (HSP.out _).mono ?_
 rintro e w1 ⟨v, rfl, ho, hb1⟩
 have HSL := hid (Sl.of_own ho)
 have HRD := hid (l12Read_c v ws w1 (Sl.of_own ho) (by omega) hwp (fun x hx => by have := hwm x hx; omega))
 unfold ReadsOut at HRD
 obtain ⟨va, vc, rfl, hv1, hv2, hv3, hv4⟩ := Sl.of_own ho
 obtain ⟨vb, vo, rfl, hvc⟩ := hv4 (by omega)
 have hw01 : w1.cell? ⟨vb, vo, none⟩ = some (.string (bs w0)) := by
  have := hvc 0 (by omega)
  rw [List.getElem?_map, hwh2] at this
  exact this
 have r1 := range_below r0 hb1
 have t1 := there_below t0 hb1
 have HB1 := hid (Below.chain hb0 hb1)
 have z1 := Nat.lt_of_lt_of_le hsz hb1.size
 have hvb : w.heap.size + 1 < vb := Nat.lt_of_lt_of_le hsz (ho.lt vb rfl).1
 have hwp0 : (0 : Int) < (ws.length : Int) := by omega
 have hwpn : 0 < ws.length := by omega
 clear r0 t0 hb0 hb1 hsz ho hvc hv4 hv3 HSP HSL
 cases hn : numsM ws.tail with
 | none =>
  as_aux_lemma =>
   have HF := hid (HE.out (b, none))
   have HX := hid (show execM b line.data.toList = (b, none) from execM_bad (by rw [hT, hn]))
   rw [hn] at HRD
   clear hn
   go_wp2_with fail
   refine HRD.out.mono ?_
   rintro e w2 ⟨u, rfl, ho2, hb2⟩
   obtain ⟨ua, uc, rfl, _⟩ := (Sl.of_own ho2).slice
   have r2 := range_below r1 hb2
   have t2 := there_below t1 hb2
   have HB2 := hid (Below.chain HB1.out hb2)
   have K5 := loadVarB (World.rangeAt_setCells_same _ (w.heap.size + 1) 0 (ints b) (by simpa [ints, hb] using t2)) hb
   have K6 := below_cells (ints b) _ (w.heap.size + 1) 0 HB2.out (by omega)
   clear r1 t1 hb2 ho2 HRD
   go_wp2_with (first | (refine wpList_loadB rfl _ rfl _ rfl b r2 hb ?_) | (refine wpList_storeB rfl _ _ rfl _ b rfl rfl t2 hb ?_))
   exact bodyPost_ret (v := .tuple #[aggI b, .string (bs [63])]) (res_cell2 Tryz.results72 rfl K5) rfl (HF.out _ HX.out K6)
 | some q =>
  rw [hn] at HRD
  have hnq := hn
  have hql : q.length ≤ 160 := by have := nums_len _ _ hn; rw [List.length_tail] at this; omega
  have HNS := hid (show numsM (wsL line.data.toList).tail = some q by rw [hT, hn])
  have HNT := hid (show q = [] → tellM b line.data.toList = askM b (hdL line.data.toList) q from fun h => by
   rw [h] at hn ⊢
   rw [line_one (show (wsL line.data.toList).tail = [] by rw [hT]; exact nums_nil hn)]; rfl)
  clear hn
  go_wp2_with fail
  refine HRD.out.mono ?_
  rintro e w2 ⟨u, rfl, ho2x, hb2⟩
  have ho2 : w2.ownsRow w1.heap.size 3 1 u q.length (q.map (Value.int .i64)) := ho2x
  clear ho2x
  have hIq : Ints w2 u q := Ints.of_own ho2
  have HJ := hid (fun (W : World) (h : Below w2.heap.size w2 W) => l12Job_c (bs w0) u q W (hIq.below h) (by omega))
  obtain ⟨ua', uc, rfl, _⟩ := (Sl.of_own ho2).slice
  have Iq := hid hIq
  have r2 := range_below r1 hb2
  have t2 := there_below t1 hb2
  have hw02 := cell_later hb2 hw01
  have HB2 := hid (Below.chain HB1.out hb2)
  have z2 := Nat.lt_of_lt_of_le z1 hb2.size
  clear r1 t1 hb2 ho2 HRD hw01 z1 hIq HB1
  rw [bs_list] at HJ
  obtain ⟨j1, j2, j3, hj⟩ : ∃ j1 j2 j3, jobE w0 q = (j1, j2, j3) := ⟨_, _, _, rfl⟩
  rw [hj] at HJ
  unfold jobV at HJ
  go_wp2_with fail
  refine (HJ.out _ (Below.refl _ _)).mono ?_
  rintro e w3 ⟨rfl, hb3⟩
  have r3 := World.rangeAt_alloc (range_below r2 hb3) (.cells #[.int .i64 j1, .int .i64 j2, .int .i64 j3] 123)
  have t3 := World.there_alloc (there_below t2 hb3) (.cells #[.int .i64 j1, .int .i64 j2, .int .i64 j3] 123)
  have hw03 := cell_later (below_one (.cells #[.int .i64 j1, .int .i64 j2, .int .i64 j3] 123)) (cell_later hb3 hw02)
  have I3 := hid ((Iq.out.below hb3).below (below_one (.cells #[.int .i64 j1, .int .i64 j2, .int .i64 j3] 123)))
  have HB3 := hid (Below.alc (Below.chain HB2.out hb3) (.cells #[.int .i64 j1, .int .i64 j2, .int .i64 j3] 123))
  have q0 : (w3.alloc (.cells #[.int .i64 j1, .int .i64 j2, .int .i64 j3] 123)).cell? ⟨w3.heap.size, 0, none⟩ = some (.int .i64 j1) := (Bk.new w3 123 #[.int .i64 j1, .int .i64 j2, .int .i64 j3]).cell 0
  have q1 : (w3.alloc (.cells #[.int .i64 j1, .int .i64 j2, .int .i64 j3] 123)).cell? ⟨w3.heap.size, 1, none⟩ = some (.int .i64 j2) := (Bk.new w3 123 #[.int .i64 j1, .int .i64 j2, .int .i64 j3]).cell 1
  have q2 : (w3.alloc (.cells #[.int .i64 j1, .int .i64 j2, .int .i64 j3] 123)).cell? ⟨w3.heap.size, 2, none⟩ = some (.int .i64 j3) := (Bk.new w3 123 #[.int .i64 j1, .int .i64 j2, .int .i64 j3]).cell 2
  have z3 := Nat.lt_of_lt_of_le z2 (show _ ≤ (w3.alloc (.cells #[.int .i64 j1, .int .i64 j2, .int .i64 j3] 123)).heap.size by have := hb3.size; rw [World.size_alloc]; omega)
  clear r2 t2 hw02 Iq HB2 z2 hb3 HJ
  go_upto_region 6 with fail
  generalize w3.heap.size = g9 at *
  generalize World.alloc _ _ = wa at *
  by_cases hkk : ∃ k n, kindM w0 = some (k, n) ∧ q.length = n
  · as_aux_lemma =>
     obtain ⟨k, n, hkd, hqn⟩ := hkk
     obtain ⟨hd1, hd2⟩ := sayM_done HNS.out (by rw [hw0]; exact hkd) hqn (b := b)
     have hje : (j1, j2, j3) = (k, q.getD 0 0, q.getD 1 0) := by
      rw [← hj]; unfold jobE; rw [hkd]; simp only; rw [if_pos hqn]
     simp only [Prod.mk.injEq] at hje
     obtain ⟨e1, e2, e3⟩ := hje
     rw [← e1, ← e2, ← e3] at hd1 hd2
     have hj1 := (kind_le hkd).1
     have hd : decide (0 < j1) = true := by rw [e1]; simp; omega
     have hXl := (execM_ok hb hg line.data.toList).1.1
     have HD := hid (fun W => l12Done_c b j1 j2 j3 W hb hg)
     rw [← hd1, ← hd2] at HD
     have HF := hid (fun w' => HE.out _ w' rfl)
     obtain ⟨X, hX⟩ : ∃ X, (execM b line.data.toList).1 = X := ⟨_, rfl⟩
     obtain ⟨T, hTT⟩ : ∃ T, sayO (execM b line.data.toList).2 = T := ⟨_, rfl⟩
     rw [hX, hTT] at HD HF
     rw [hX] at hXl
     unfold aggI jobV at HD
     clear hX hTT hd1 hd2 e1 e2 e3 hkd hqn hj1 hj HNS HNT hw03 I3
     go_wp2_with (refine wpList_loadB rfl _ rfl _ rfl b r3 hb ?_)
     refine (HD.out _).mono ?_
     rintro e w4 ⟨rfl, hb4⟩
     have t4 := there_below t3 hb4
     have HB4 := hid (Below.chain HB3.out hb4)
     have K5 := loadVarB (World.rangeAt_setCells_same _ (w.heap.size + 1) 0 (ints X) (by simpa [ints, hXl] using t4)) hXl
     have K6 := below_cells (ints X) _ (w.heap.size + 1) 0 HB4.out (by omega)
     clear r3 t3 hb4 HD
     go_wp2_with (refine wpList_storeB rfl _ _ rfl _ X rfl rfl t4 hXl ?_)
     exact bodyPost_ret (v := .tuple #[aggI X, .string (bs T)]) (res_cell2 Tryz.results72 rfl K5) rfl (HF.out _ K6)
  · have hje : (j1, j2, j3) = (0, 0, 0) := by
     rw [← hj]; unfold jobE
     cases hc : kindM w0 with
     | none => rfl
     | some p =>
      obtain ⟨k, n⟩ := p
      simp only
      rw [if_neg (fun h => hkk ⟨k, n, hc, h⟩)]
    simp only [Prod.mk.injEq] at hje
    obtain ⟨rfl, rfl, rfl⟩ := hje
    have HX := hid (sayM_ask (b := b) HNS.out (fun k n hk hn => hkk ⟨k, n, by rw [← hw0]; exact hk, hn⟩))
    rw [hw0] at HX HNT
    have ra := r3
    have ua := t3
    clear hkk hj r3 t3 HNS
    by_cases hq0 : q = []
    · as_aux_lemma =>
       have HT2 := hid (HNT.out hq0)
       have HTELL := hid (fun W => l12Tell_c b line W hb hg)
       unfold SayOut at HTELL
       rw [HT2.out] at HTELL
       have HBC := HB3
       have HF := hid (fun w' => HE.out _ w' HX.out)
       unfold aggI at HTELL
       subst hq0
       rw [show ([] : List Int).length = 0 from rfl] at *
       clear HX HT2 HNT I3 hw03 HB3 HE
       go_upto_region 9 with fail
       refine wp_region_noPanic ?_
       have S_wd : Below wa.heap.size wa wa.drew := (Below.refl _ _).drew
       have R_wd := (show World.rangeAt (wa.drew) w.heap.size 0 (ints b) from ra)
       have U_wd := (show World.there (wa.drew) (w.heap.size + 1) 0 19 from ua)
       clear ra ua
       refine wp_region_held_drew (S := fun w' : World => w'.rangeAt w.heap.size 0 (ints b)) (by kernel_rfl) R_wd (fun hHeld => ?_)
       generalize wa.drew = wd at *
       refine' tkX 0 hHeld ?y_t1 ?r_t1
       case y_t1 =>
        refine' yieldsIf_load_mid ?hw_t1 _ _ rfl _ _ rfl (ints b) _ ?hS_t1 ?hu_t1 ?hd_t1 ?hi_t1
        case hw_t1 => rfl
        case hS_t1 => exact fun (w' : World) (h : w'.rangeAt w.heap.size 0 (ints b)) => h
        case hu_t1 => exact Tryz.underlying26
        case hd_t1 => rfl
        case hi_t1 => exact (by rw [show (ints b).length = 19 by simp [ints, hb]]; kernel_rfl)
       try simp only [Act.put, xqA, xqB, xqC]
       refine' tkX 1 hHeld ?y_t2 ?r_t2
       case y_t2 =>
        refine' yieldsIf_load_mid ?hw_t2 _ _ rfl _ _ rfl (ints b) _ ?hS_t2 ?hu_t2 ?hd_t2 ?hi_t2
        case hw_t2 => rfl
        case hS_t2 => exact fun (w' : World) (h : w'.rangeAt w.heap.size 0 (ints b)) => h
        case hu_t2 => exact Tryz.underlying26
        case hd_t2 => rfl
        case hi_t2 => exact (by rw [show (ints b).length = 19 by simp [ints, hb]]; kernel_rfl)
       try simp only [Act.put, xqA, xqB, xqC]
       refine' tkY 2 hHeld ?r_t3
       try simp only [Act.put, xqA, xqB, xqC]
       refine wpAnyH_ready (rs := [3]) (by kernel_rfl) (by simp) ?_
       refine' AllReadyH.cons (o := _) ?e_k4 ?st_k4 AllReadyH.nil
       case e_k4 => (simp only [xeA, xeB, xeC]; exact rfl)
       intro K hK
       go_simp
       with_reducible refine (HTELL.out wd).mono ?_
       rintro e we5 ⟨rfl, hx6⟩
       have R_we5 := range_below R_wd hx6
       clear R_wd
       have U_we5 := there_below U_wd hx6
       clear U_wd
       have S_we5 := Below.chain S_wd hx6
       clear S_wd hx6
       refine hK.out _ _ R_we5 (fun hHeld => ?_)
       clear hK K
       try simp only [Act.put, xqA, xqB, xqC]
       refine wpAnyH_ready (rs := [4]) (by kernel_rfl) (by simp) ?_
       refine' AllReadyH.cons (o := _) ?e_k7 ?st_k7 AllReadyH.nil
       case e_k7 => (simp only [xeA, xeB, xeC]; exact rfl)
       intro K hK
       rw [if_pos (by rfl)]
       refine wp_store_mid _ _ _ rfl _ _ (ints b).toArray rfl rfl (by rw [show (ints b).toArray.size = 19 by simp [ints, hb]]; exact U_we5) (by simpa using hi19 hb) (all_oneCell_toArray ints_one) ?_
       simp only [Act.put, xqA, xqB, xqC, List.toList_toArray]
       have R_we8 := World.rangeAt_setCells_apart R_we5 (w.heap.size + 1) 0 (ints b) (.inl (by omega))
       have K5 := loadVarB (World.rangeAt_setCells_same we5 (w.heap.size + 1) 0 (ints b) (by rw [show (ints b).length = 19 by simp [ints, hb]]; exact U_we5)) hb
       have K6 := below_cells (ints b) we5 (w.heap.size + 1) 0 (Below.chain HBC.out S_we5) (by omega)
       generalize World.setCells _ _ _ _ = we8 at *
       clear S_we5 U_we5
       refine hK.out _ _ R_we8 (fun hHeld => ?_)
       clear hK K
       try simp only [Act.put, xqA, xqB, xqC]
       refine' tkY 5 hHeld ?r_t9
       try simp only [Act.put, xqA, xqB, xqC]
       refine wpAnyH_done (by kernel_rfl) ?_ _
       refine NoPanic.normal ?_
       go_wp2
       exact bodyPost_ret (v := .tuple #[aggI b, .string (bs (sayO (askM b w0 [])))]) (res_cell2 Tryz.results72 rfl K5) rfl (HF.out _ K6)
    · as_aux_lemma =>
       have hql2 : ((q.length : Int) == 0) = false := by
        have : q.length ≠ 0 := fun h => hq0 (List.eq_nil_of_length_eq_zero h)
        simp; omega
       have HASK := hid (fun W (h : Ints W (.slice ua' q.length uc) q) => l12Ask_c b (bs w0) _ q W hb hg h hq0)
       unfold SayOut aggI at HASK
       rw [bs_list] at HASK
       have HBC := HB3
       have HF := hid (fun w' => HE.out _ w' HX.out)
       have ca := hw03
       have ia := I3.out
       clear HX HNT I3 hw03 HB3 HE hq0
       go_upto_region 10 with fail
       refine wp_region_noPanic ?_
       have S_wd : Below wa.heap.size wa wa.drew := (Below.refl _ _).drew
       have R_wd := (show World.rangeAt (wa.drew) w.heap.size 0 (ints b) from ra)
       have U_wd := (show World.there (wa.drew) (w.heap.size + 1) 0 19 from ua)
       have C_wd := (show World.cell? (wa.drew) _ = some _ from ca)
       have I_wd := Ints.below ia (show Below wa.heap.size wa wa.drew from S_wd)
       clear ra ua ca ia
       refine wp_region_held_drew (S := fun w' : World => w'.rangeAt w.heap.size 0 (ints b) ∧ w'.cell? ⟨vb, vo, none⟩ = some (.string (bs w0))) (by kernel_rfl) ⟨R_wd, C_wd⟩ (fun hHeld => ?_)
       generalize wa.drew = wd at *
       refine' tkX 0 hHeld ?y_t10 ?r_t10
       case y_t10 =>
        refine' yieldsIf_load_mid ?hw_t10 _ _ rfl _ _ rfl (ints b) _ ?hS_t10 ?hu_t10 ?hd_t10 ?hi_t10
        case hw_t10 => rfl
        case hS_t10 => exact fun (w' : World) (h : w'.rangeAt w.heap.size 0 (ints b) ∧ w'.cell? ⟨vb, vo, none⟩ = some (.string (bs w0))) => h.1
        case hu_t10 => exact Tryz.underlying26
        case hd_t10 => rfl
        case hi_t10 => exact (by rw [show (ints b).length = 19 by simp [ints, hb]]; kernel_rfl)
       try simp only [Act.put, xqA, xqB, xqC]
       refine' tkX 1 hHeld ?y_t11 ?r_t11
       case y_t11 =>
        refine' yieldsIf_load_mid ?hw_t11 _ _ rfl _ _ rfl (ints b) _ ?hS_t11 ?hu_t11 ?hd_t11 ?hi_t11
        case hw_t11 => rfl
        case hS_t11 => exact fun (w' : World) (h : w'.rangeAt w.heap.size 0 (ints b) ∧ w'.cell? ⟨vb, vo, none⟩ = some (.string (bs w0))) => h.1
        case hu_t11 => exact Tryz.underlying26
        case hd_t11 => rfl
        case hi_t11 => exact (by rw [show (ints b).length = 19 by simp [ints, hb]]; kernel_rfl)
       try simp only [Act.put, xqA, xqB, xqC]
       refine' tkY 2 hHeld ?r_t12
       try simp only [Act.put, xqA, xqB, xqC]
       refine' tkY 3 hHeld ?r_t13
       try simp only [Act.put, xqA, xqB, xqC]
       refine' tkX 4 hHeld ?y_t14 ?r_t14
       case y_t14 => exact Or.inl ⟨by rfl, by (intro w hSw; obtain ⟨_, c0⟩ := hSw; go_simp; first | done | with_reducible rfl)⟩
       try simp only [Act.put, xqA, xqB, xqC]
       refine' tkY 5 hHeld ?r_t15
       try simp only [Act.put, xqA, xqB, xqC]
       refine wpAnyH_ready (rs := [6]) (by kernel_rfl) (by simp) ?_
       refine' AllReadyH.cons (o := _) ?e_k16 ?st_k16 AllReadyH.nil
       case e_k16 => (simp only [xeA, xeB, xeC]; exact rfl)
       intro K hK
       go_simp
       with_reducible refine (HASK.out wd I_wd).mono ?_
       rintro e we17 ⟨rfl, hx18⟩
       clear I_wd
       have R_we17 := range_below R_wd hx18
       clear R_wd
       have U_we17 := there_below U_wd hx18
       clear U_wd
       have C_we17 := cell_later hx18 C_wd
       clear C_wd
       have S_we17 := Below.chain S_wd hx18
       clear S_wd hx18
       refine hK.out _ _ ⟨R_we17, C_we17⟩ (fun hHeld => ?_)
       clear hK K
       try simp only [Act.put, xqA, xqB, xqC]
       refine wpAnyH_ready (rs := [7]) (by kernel_rfl) (by simp) ?_
       refine' AllReadyH.cons (o := _) ?e_k19 ?st_k19 AllReadyH.nil
       case e_k19 => (simp only [xeA, xeB, xeC]; exact rfl)
       intro K hK
       rw [if_pos (by rfl)]
       refine wp_store_mid _ _ _ rfl _ _ (ints b).toArray rfl rfl (by rw [show (ints b).toArray.size = 19 by simp [ints, hb]]; exact U_we17) (by simpa using hi19 hb) (all_oneCell_toArray ints_one) ?_
       simp only [Act.put, xqA, xqB, xqC, List.toList_toArray]
       have R_we20 := World.rangeAt_setCells_apart R_we17 (w.heap.size + 1) 0 (ints b) (.inl (by omega))
       have C_we20 := cell_far2 (g2 := w.heap.size + 1) (o2 := 0) (vs := ints b) C_we17 (by omega)
       have K5 := loadVarB (World.rangeAt_setCells_same we17 (w.heap.size + 1) 0 (ints b) (by rw [show (ints b).length = 19 by simp [ints, hb]]; exact U_we17)) hb
       have K6 := below_cells (ints b) we17 (w.heap.size + 1) 0 (Below.chain HBC.out S_we17) (by omega)
       generalize World.setCells _ _ _ _ = we20 at *
       clear S_we17 U_we17
       refine hK.out _ _ ⟨R_we20, C_we20⟩ (fun hHeld => ?_)
       clear hK K
       try simp only [Act.put, xqA, xqB, xqC]
       refine' tkY 8 hHeld ?r_t21
       try simp only [Act.put, xqA, xqB, xqC]
       refine wpAnyH_done (by kernel_rfl) ?_ _
       refine NoPanic.normal ?_
       go_wp2
       exact bodyPost_ret (v := .tuple #[aggI b, .string (bs (sayO (askM b w0 q)))]) (res_cell2 Tryz.results72 rfl K5) rfl (HF.out _ K6)
end Go.Proofs.YtohgjfdbnkjefaaGreatDoor
