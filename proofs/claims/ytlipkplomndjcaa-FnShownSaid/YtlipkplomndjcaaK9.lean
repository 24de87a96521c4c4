/- Texts of this claim, gathered: LwLShown. -/
import Derived.Test.YtlipkplomndjcaaK8
namespace Go.Proofs.Ytlipkplomndjcaa
open Go.RowKit
set_option linter.unusedVariables false
set_option linter.unusedSimpArgs false
set_option maxRecDepth 100000
set_option maxHeartbeats 4000000 in
theorem FnShown_walk (v : Value) (xs : List Nat) (w : World) (h : Code w v xs) :
    Calls Try.prog 4 #[v] w fun e w' => e = .returned (.bool true) ∧ Below w.heap.size w w' := by
  have HK := Lib.hid h
  obtain ⟨a, c, rfl, _⟩ := h
  have HV := Lib.hid (vBig_c _ _ _ HK.out)
  by_cases hbig : 65536 < xs.length
  · have hd : decide (65536 < xs.length) = true := decide_eq_true hbig
    go_enter Try.func4, Try.ntmps4
    go_wp2_with fail
    refine HV.out.mono ?_
    rintro e w1 ⟨rfl, rfl⟩
    go_wp2
    go_ret
    exact ⟨rfl, Below.refl _ _⟩
  have hd : decide (65536 < xs.length) = false := decide_eq_false hbig
  go_enter Try.func4, Try.ntmps4
  go_wp2_with fail
  refine HV.out.mono ?_
  rintro e _ ⟨rfl, rfl⟩
  have BX := Lib.hid (Below.refl w.heap.size w)
  go_wp2_with fail
  refine (DrawShownCell_c _ xs _ HK.out).mono ?_
  rintro e w1 ⟨d, l, c0, rfl, hb1⟩
  replace BX := Lib.hid (Below.chain BX.out hb1)
  replace HK := Lib.hid (HK.out.below hb1)
  clear hb1
  have SC1 := fun W => ShownCell_c d l c0 W
  have SC2 := fun W => sShownCell_c d l c0 W
  have TF1 := fun W => TurnFault_c d l W
  have TF2 := fun W => sTurnFault_c d l W
  have IF1 := fun W => IsFault_c d l W
  have IF2 := fun W => sIsFault_c d l W
  have IC := fun W => IsCell_c c0 W
  have HP := fun (h1 : faultB d l = true) (h2 : cellB c0 = true) => shown_all h1 h2
  have HQ := fun (h2 : cellB c0 = true) => TurnCell_c c0
  have HS1 := fun W => ShownCell_c d l (shC d l c0) W
  have HS2 := fun W => ShownCell_c (mvC true d) (mvC true l) (mvC true c0) W
  have HT1 := fun W => TurnCell_c c0 W
  have HT2 := fun W => TurnCell_c (shC d l c0) W
  have HT3 := fun W => TurnFault_c (mvC true d) (mvC true l) W
  unfold scV scOk at SC1 SC2
  unfold tfV tfA at TF1 TF2
  clear HQ
  replace SC1 := Lib.hid SC1
  replace SC2 := Lib.hid SC2
  replace TF1 := Lib.hid TF1
  replace TF2 := Lib.hid TF2
  replace IF1 := Lib.hid IF1
  replace IF2 := Lib.hid IF2
  replace IC := Lib.hid IC
  replace HP := Lib.hid HP
  replace HS1 := Lib.hid HS1
  replace HS2 := Lib.hid HS2
  replace HT1 := Lib.hid HT1
  replace HT2 := Lib.hid HT2
  replace HT3 := Lib.hid HT3
  generalize hfb : faultB d l = fb at *
  generalize hcb : cellB c0 = cb at *
  clear hfb hcb
  cases fb with
  | false =>
    as_aux_lemma =>
      simp only [Bool.false_and, Bool.false_eq_true, if_false] at SC1 SC2 TF1 TF2
      have al1 := Lib.hid (below_one (w := w1) (.cells #[.int .i64 d, .int .i64 l] 42))
      replace BX := Lib.hid (Below.alc BX.out (.cells #[.int .i64 d, .int .i64 l] 42))
      replace HK := Lib.hid (HK.out.below al1.out)
      have X3 := Lib.hid (Bk.new w1 42 #[.int .i64 d, .int .i64 l])
      clear al1
      obtain ⟨q0a, q0b, _, _⟩ := X3.out.two'
      go_wp2_with fail
      refine (SC1.out _).mono ?_
      rintro e w2 ⟨rfl, hb2⟩
      replace BX := Lib.hid (Below.chain BX.out hb2)
      replace HK := Lib.hid (HK.out.below hb2)
      replace X3 := Lib.hid (X3.out.below hb2)
      clear hb2
      clear q0a q0b
      obtain ⟨q0a, q0b, _, _⟩ := X3.out.two'
      go_wp2_with fail
      refine (SC2.out _).mono ?_
      rintro e w3 ⟨rfl, hb3⟩
      replace BX := Lib.hid (Below.chain BX.out hb3)
      replace HK := Lib.hid (HK.out.below hb3)
      replace X3 := Lib.hid (X3.out.below hb3)
      clear hb3
      clear q0a q0b
      obtain ⟨q0a, q0b, _, _⟩ := X3.out.two'
      go_wp2_with fail
      refine (TF1.out _).mono ?_
      rintro e w4 ⟨rfl, hb4⟩
      replace BX := Lib.hid (Below.chain BX.out hb4)
      replace HK := Lib.hid (HK.out.below hb4)
      replace X3 := Lib.hid (X3.out.below hb4)
      clear hb4
      clear q0a q0b
      have al1 := Lib.hid (below_one (w := w4) (.cells #[.int .i64 (0), .int .i64 (0)] 42))
      replace BX := Lib.hid (Below.alc BX.out (.cells #[.int .i64 (0), .int .i64 (0)] 42))
      replace HK := Lib.hid (HK.out.below al1.out)
      replace X3 := Lib.hid (X3.out.below al1.out)
      have X9 := Lib.hid (Bk.new w4 42 #[.int .i64 (0), .int .i64 (0)])
      clear al1
      obtain ⟨q0a, q0b, _, _⟩ := X3.out.two'
      go_wp2_with fail
      refine (TF2.out _).mono ?_
      rintro e w5 ⟨rfl, hb5⟩
      replace BX := Lib.hid (Below.chain BX.out hb5)
      replace HK := Lib.hid (HK.out.below hb5)
      replace X3 := Lib.hid (X3.out.below hb5)
      replace X9 := Lib.hid (X9.out.below hb5)
      clear hb5
      clear q0a q0b
      have al1 := Lib.hid (below_one (w := w5) (.cells #[.int .i64 (0), .int .i64 (0)] 42))
      replace BX := Lib.hid (Below.alc BX.out (.cells #[.int .i64 (0), .int .i64 (0)] 42))
      replace HK := Lib.hid (HK.out.below al1.out)
      replace X3 := Lib.hid (X3.out.below al1.out)
      replace X9 := Lib.hid (X9.out.below al1.out)
      have X11 := Lib.hid (Bk.new w5 42 #[.int .i64 (0), .int .i64 (0)])
      clear al1
      go_wp2_with fail
      refine (vCut_c 1 _ xs _ HK.out (by omega) (by decide)).mono ?_
      rintro e w6 ⟨vc1, ys1, rfl, hcy, _, hb6⟩
      replace BX := Lib.hid (Below.chain BX.out hb6)
      replace HK := Lib.hid (HK.out.below hb6)
      replace X3 := Lib.hid (X3.out.below hb6)
      replace X9 := Lib.hid (X9.out.below hb6)
      replace X11 := Lib.hid (X11.out.below hb6)
      have HY := Lib.hid (hcy)
      clear hb6
      clear hcy
      go_wp2_with fail
      refine (DrawShownRow_c _ ys1 _ HY.out).mono ?_
      rintro e w7 ⟨v13, v14, ps, r, rfl, _, hr7, hi1, hi2, hb7⟩
      replace BX := Lib.hid (Below.chain BX.out hb7)
      replace HK := Lib.hid (HK.out.below hb7)
      replace X3 := Lib.hid (X3.out.below hb7)
      replace X9 := Lib.hid (X9.out.below hb7)
      replace X11 := Lib.hid (X11.out.below hb7)
      replace HY := Lib.hid (HY.out.below hb7)
      have HPs := Lib.hid (hi1)
      have HR := Lib.hid (hi2)
      clear hb7
      clear hi1 hi2
      clear HY
      go_wp2_with fail
      refine (ShownRow_c _ _ ps r _ HPs.out HR.out).mono ?_
      rintro e w8 ⟨u15, rfl, ho, hb8⟩
      replace BX := Lib.hid (Below.chain BX.out hb8)
      replace HK := Lib.hid (HK.out.below hb8)
      replace X3 := Lib.hid (X3.out.below hb8)
      replace X9 := Lib.hid (X9.out.below hb8)
      replace X11 := Lib.hid (X11.out.below hb8)
      replace HPs := Lib.hid (HPs.out.below hb8)
      replace HR := Lib.hid (HR.out.below hb8)
      have H15 := Lib.hid (Ints.of_own ho)
      clear hb8
      clear ho
      go_wp2_with fail
      refine (sShownRow_c _ _ ps r _ HPs.out HR.out).mono ?_
      rintro e w9 ⟨u17, rfl, ho, hb9⟩
      replace BX := Lib.hid (Below.chain BX.out hb9)
      replace HK := Lib.hid (HK.out.below hb9)
      replace X3 := Lib.hid (X3.out.below hb9)
      replace X9 := Lib.hid (X9.out.below hb9)
      replace X11 := Lib.hid (X11.out.below hb9)
      replace HPs := Lib.hid (HPs.out.below hb9)
      replace HR := Lib.hid (HR.out.below hb9)
      replace H15 := Lib.hid (H15.out.below hb9)
      have H17 := Lib.hid (Ints.of_own ho)
      clear hb9
      clear ho
      go_wp2_with fail
      refine (vCut_c 2 _ xs _ HK.out (by omega) (by decide)).mono ?_
      rintro e w10 ⟨vc2, ys2, rfl, hcy, _, hb10⟩
      replace BX := Lib.hid (Below.chain BX.out hb10)
      replace HK := Lib.hid (HK.out.below hb10)
      replace X3 := Lib.hid (X3.out.below hb10)
      replace X9 := Lib.hid (X9.out.below hb10)
      replace X11 := Lib.hid (X11.out.below hb10)
      replace HPs := Lib.hid (HPs.out.below hb10)
      replace HR := Lib.hid (HR.out.below hb10)
      replace H15 := Lib.hid (H15.out.below hb10)
      replace H17 := Lib.hid (H17.out.below hb10)
      have HY := Lib.hid (hcy)
      clear hb10
      clear hcy
      clear HK
      go_wp2_with fail
      refine (DrawJoinFaults_c _ ys2 _ HY.out).mono ?_
      rintro e w11 ⟨ja, jb, jc, jd, rfl, hb11⟩
      replace BX := Lib.hid (Below.chain BX.out hb11)
      replace X3 := Lib.hid (X3.out.below hb11)
      replace X9 := Lib.hid (X9.out.below hb11)
      replace X11 := Lib.hid (X11.out.below hb11)
      replace HPs := Lib.hid (HPs.out.below hb11)
      replace HR := Lib.hid (HR.out.below hb11)
      replace H15 := Lib.hid (H15.out.below hb11)
      replace H17 := Lib.hid (H17.out.below hb11)
      replace HY := Lib.hid (HY.out.below hb11)
      clear hb11
      clear HY
      have al1 := Lib.hid (below_one (w := w11) (.cells #[.int .i64 ja, .int .i64 jb] 42))
      replace BX := Lib.hid (Below.alc BX.out (.cells #[.int .i64 ja, .int .i64 jb] 42))
      replace X3 := Lib.hid (X3.out.below al1.out)
      replace X9 := Lib.hid (X9.out.below al1.out)
      replace X11 := Lib.hid (X11.out.below al1.out)
      replace HPs := Lib.hid (HPs.out.below al1.out)
      replace HR := Lib.hid (HR.out.below al1.out)
      replace H15 := Lib.hid (H15.out.below al1.out)
      replace H17 := Lib.hid (H17.out.below al1.out)
      have X19 := Lib.hid (Bk.new w11 42 #[.int .i64 ja, .int .i64 jb])
      clear al1
      have al1 := Lib.hid (below_one (w := (w11.alloc (.cells #[.int .i64 ja, .int .i64 jb] 42))) (.cells #[.int .i64 jc, .int .i64 jd] 42))
      replace BX := Lib.hid (Below.alc BX.out (.cells #[.int .i64 jc, .int .i64 jd] 42))
      replace X3 := Lib.hid (X3.out.below al1.out)
      replace X9 := Lib.hid (X9.out.below al1.out)
      replace X11 := Lib.hid (X11.out.below al1.out)
      replace HPs := Lib.hid (HPs.out.below al1.out)
      replace HR := Lib.hid (HR.out.below al1.out)
      replace H15 := Lib.hid (H15.out.below al1.out)
      replace H17 := Lib.hid (H17.out.below al1.out)
      replace X19 := Lib.hid (X19.out.below al1.out)
      have X20 := Lib.hid (Bk.new (w11.alloc (.cells #[.int .i64 ja, .int .i64 jb] 42)) 42 #[.int .i64 jc, .int .i64 jd])
      simp only [World.size_alloc] at X20
      clear al1
      have JF1 := fun W => JoinFaults_c ja jb jc jd W
      have JF2 := fun W => sJoinFaults_c ja jb jc jd W
      have HJ0 : jfOk ja jb jc jd = true → faultB (if jfOk ja jb jc jd = true then orI ja jc else 0) (if jfOk ja jb jc jd = true then orI jb jd else 0) = true ∧ (if jfOk ja jb jc jd = true then orI ja jc else 0) = orI ja jc ∧ (if jfOk ja jb jc jd = true then orI jb jd else 0) = orI jb jd := fun h => by
        rw [if_pos h, if_pos h]
        refine ⟨?_, rfl, rfl⟩
        unfold jfOk at h
        simp only [Bool.and_eq_true] at h
        exact h.2.2
      unfold jfV at JF1 JF2
      replace JF1 := Lib.hid JF1
      replace JF2 := Lib.hid JF2
      have HJ := Lib.hid HJ0
      clear HJ0
      generalize (if jfOk ja jb jc jd = true then orI ja jc else 0) = jx at *
      generalize (if jfOk ja jb jc jd = true then orI jb jd else 0) = jy at *
      generalize jfOk ja jb jc jd = one at *
      obtain ⟨q0a, q0b, _, _⟩ := X19.out.two'
      obtain ⟨q1a, q1b, _, _⟩ := X20.out.two'
      go_wp2_with fail
      refine (JF1.out _).mono ?_
      rintro e w12 ⟨rfl, hb12⟩
      replace BX := Lib.hid (Below.chain BX.out hb12)
      replace X3 := Lib.hid (X3.out.below hb12)
      replace X9 := Lib.hid (X9.out.below hb12)
      replace X11 := Lib.hid (X11.out.below hb12)
      replace HPs := Lib.hid (HPs.out.below hb12)
      replace HR := Lib.hid (HR.out.below hb12)
      replace H15 := Lib.hid (H15.out.below hb12)
      replace H17 := Lib.hid (H17.out.below hb12)
      replace X19 := Lib.hid (X19.out.below hb12)
      replace X20 := Lib.hid (X20.out.below hb12)
      clear hb12
      clear q0a q0b q1a q1b
      have al1 := Lib.hid (below_one (w := w12) (.cells #[.int .i64 jx, .int .i64 jy] 42))
      replace BX := Lib.hid (Below.alc BX.out (.cells #[.int .i64 jx, .int .i64 jy] 42))
      replace X3 := Lib.hid (X3.out.below al1.out)
      replace X9 := Lib.hid (X9.out.below al1.out)
      replace X11 := Lib.hid (X11.out.below al1.out)
      replace HPs := Lib.hid (HPs.out.below al1.out)
      replace HR := Lib.hid (HR.out.below al1.out)
      replace H15 := Lib.hid (H15.out.below al1.out)
      replace H17 := Lib.hid (H17.out.below al1.out)
      replace X19 := Lib.hid (X19.out.below al1.out)
      replace X20 := Lib.hid (X20.out.below al1.out)
      have X21 := Lib.hid (Bk.new w12 42 #[.int .i64 jx, .int .i64 jy])
      clear al1
      obtain ⟨q0a, q0b, _, _⟩ := X19.out.two'
      obtain ⟨q1a, q1b, _, _⟩ := X20.out.two'
      go_wp2_with fail
      refine (JF2.out _).mono ?_
      rintro e w13 ⟨rfl, hb13⟩
      replace BX := Lib.hid (Below.chain BX.out hb13)
      replace X3 := Lib.hid (X3.out.below hb13)
      replace X9 := Lib.hid (X9.out.below hb13)
      replace X11 := Lib.hid (X11.out.below hb13)
      replace HPs := Lib.hid (HPs.out.below hb13)
      replace HR := Lib.hid (HR.out.below hb13)
      replace H15 := Lib.hid (H15.out.below hb13)
      replace H17 := Lib.hid (H17.out.below hb13)
      replace X19 := Lib.hid (X19.out.below hb13)
      replace X20 := Lib.hid (X20.out.below hb13)
      replace X21 := Lib.hid (X21.out.below hb13)
      clear hb13
      clear q0a q0b q1a q1b
      have al1 := Lib.hid (below_one (w := w13) (.cells #[.int .i64 jx, .int .i64 jy] 42))
      replace BX := Lib.hid (Below.alc BX.out (.cells #[.int .i64 jx, .int .i64 jy] 42))
      replace X3 := Lib.hid (X3.out.below al1.out)
      replace X9 := Lib.hid (X9.out.below al1.out)
      replace X11 := Lib.hid (X11.out.below al1.out)
      replace HPs := Lib.hid (HPs.out.below al1.out)
      replace HR := Lib.hid (HR.out.below al1.out)
      replace H15 := Lib.hid (H15.out.below al1.out)
      replace H17 := Lib.hid (H17.out.below al1.out)
      replace X19 := Lib.hid (X19.out.below al1.out)
      replace X20 := Lib.hid (X20.out.below al1.out)
      replace X21 := Lib.hid (X21.out.below al1.out)
      have X23 := Lib.hid (Bk.new w13 42 #[.int .i64 jx, .int .i64 jy])
      clear al1
      have hsl := fun (h : areB ps r = true) => srL_len h
      have hsa := fun (h : areB ps r = true) (k : Nat) (f : Int × Int) (c : Int) (hf : ps[k]? = some f) (hc : r[k]? = some c) => srL_at h hf hc
      have hal := fun (h : areB ps r = true) => areB_len h
      have HSL := Lib.hid hsl
      have HSA := Lib.hid hsa
      have HAL := Lib.hid hal
      clear hsl hsa hal
      generalize srL ps r = S at *
      generalize areB ps r = there at *
      obtain ⟨x3a, x3b, _, _⟩ := X3.out.two'
      obtain ⟨x9a, x9b, _, _⟩ := X9.out.two'
      obtain ⟨x11a, x11b, _, _⟩ := X11.out.two'
      obtain ⟨x21a, x21b, _, _⟩ := X21.out.two'
      obtain ⟨x23a, x23b, _, _⟩ := X23.out.two'
      go_wp2_with fail
      generalize hw0 : (w13.alloc (.cells #[.int .i64 jx, .int .i64 jy] 42)) = w0 at *
      clear hw0
      refine wp_region_noPanic ?_
      refine wp_region_held_drew (S := fun w' : World => w'.cell? ⟨w1.heap.size, 0, none⟩ = some (.int .i64 (d)) ∧ w'.cell? ⟨w1.heap.size, 1, none⟩ = some (.int .i64 (l)) ∧ w'.cell? ⟨w4.heap.size, 0, none⟩ = some (.int .i64 (0)) ∧ w'.cell? ⟨w4.heap.size, 1, none⟩ = some (.int .i64 (0)) ∧ w'.cell? ⟨w5.heap.size, 0, none⟩ = some (.int .i64 (0)) ∧ w'.cell? ⟨w5.heap.size, 1, none⟩ = some (.int .i64 (0)) ∧ w'.cell? ⟨w12.heap.size, 0, none⟩ = some (.int .i64 (jx)) ∧ w'.cell? ⟨w12.heap.size, 1, none⟩ = some (.int .i64 (jy)) ∧ w'.cell? ⟨w13.heap.size, 0, none⟩ = some (.int .i64 (jx)) ∧ w'.cell? ⟨w13.heap.size, 1, none⟩ = some (.int .i64 (jy)) ∧ Below w0.heap.size w0 w') (by kernel_rfl) ⟨x3a, x3b, x9a, x9b, x11a, x11b, x21a, x21b, x23a, x23b, (Below.refl _ _).drew⟩ (fun hHeld => ?_)
      refine' wpAnyH_take (i := 0) (oi := _) (v := _) ?e_1 ?a_1 ?b_1 ?c_1 ?q_1 ?y_1 hHeld ?r_1
      case e_1 => (simp only [List.getElem?_toArray, List.getElem?_cons_zero, List.getElem?_cons_succ]; exact rfl)
      case a_1 => kernel_rfl
      case b_1 => kernel_rfl
      case c_1 => kernel_rfl
      case q_1 => exact fun _ _ _ h => h
      case y_1 => exact Or.inl ⟨by rfl, by (intro w hSw; (try dsimp only at hSw); go_simp; first | done | with_reducible rfl)⟩
      try simp only [Act.put, List.setIfInBounds_toArray, List.set_cons_zero, List.set_cons_succ]
      refine' wpAnyH_take (i := 1) (oi := _) (v := _) ?e_2 ?a_2 ?b_2 ?c_2 ?q_2 ?y_2 hHeld ?r_2
      case e_2 => (simp only [List.getElem?_toArray, List.getElem?_cons_zero, List.getElem?_cons_succ]; exact rfl)
      case a_2 => kernel_rfl
      case b_2 => kernel_rfl
      case c_2 => kernel_rfl
      case q_2 => exact fun _ _ _ h => h
      case y_2 => exact Or.inl ⟨by rfl, by (intro w hSw; (try dsimp only at hSw); go_simp; first | done | with_reducible rfl)⟩
      try simp only [Act.put, List.setIfInBounds_toArray, List.set_cons_zero, List.set_cons_succ]
      refine' wpAnyH_take (i := 2) (oi := _) (v := _) ?e_3 ?a_3 ?b_3 ?c_3 ?q_3 ?y_3 hHeld ?r_3
      case e_3 => (simp only [List.getElem?_toArray, List.getElem?_cons_zero, List.getElem?_cons_succ]; exact rfl)
      case a_3 => kernel_rfl
      case b_3 => kernel_rfl
      case c_3 => kernel_rfl
      case q_3 => exact fun _ _ _ h => h
      case y_3 => exact Or.inl ⟨by rfl, by (intro w hSw; (try dsimp only at hSw); go_simp; first | done | with_reducible rfl)⟩
      try simp only [Act.put, List.setIfInBounds_toArray, List.set_cons_zero, List.set_cons_succ]
      refine' wpAnyH_take (i := 3) (oi := _) (v := _) ?e_4 ?a_4 ?b_4 ?c_4 ?q_4 ?y_4 hHeld ?r_4
      case e_4 => (simp only [List.getElem?_toArray, List.getElem?_cons_zero, List.getElem?_cons_succ]; exact rfl)
      case a_4 => kernel_rfl
      case b_4 => kernel_rfl
      case c_4 => kernel_rfl
      case q_4 => exact fun _ _ _ h => h
      case y_4 => exact Or.inl ⟨by rfl, by (intro w hSw; (try dsimp only at hSw); go_simp; first | done | with_reducible rfl)⟩
      try simp only [Act.put, List.setIfInBounds_toArray, List.set_cons_zero, List.set_cons_succ]
      refine' wpAnyH_take (i := 4) (oi := _) (v := _) ?e_5 ?a_5 ?b_5 ?c_5 ?q_5 ?y_5 hHeld ?r_5
      case e_5 => (simp only [List.getElem?_toArray, List.getElem?_cons_zero, List.getElem?_cons_succ]; exact rfl)
      case a_5 => kernel_rfl
      case b_5 => kernel_rfl
      case c_5 => kernel_rfl
      case q_5 => exact fun _ _ _ h => h
      case y_5 => exact Or.inl ⟨by rfl, by (intro w hSw; (try dsimp only at hSw); go_simp; first | done | with_reducible rfl)⟩
      try simp only [Act.put, List.setIfInBounds_toArray, List.set_cons_zero, List.set_cons_succ]
      refine' wpAnyH_take (i := 5) (oi := _) (v := _) ?e_6 ?a_6 ?b_6 ?c_6 ?q_6 ?y_6 hHeld ?r_6
      case e_6 => (simp only [List.getElem?_toArray, List.getElem?_cons_zero, List.getElem?_cons_succ]; exact rfl)
      case a_6 => kernel_rfl
      case b_6 => kernel_rfl
      case c_6 => kernel_rfl
      case q_6 => exact fun _ _ _ h => h
      case y_6 => exact Or.inl ⟨by rfl, by (intro w hSw; (try dsimp only at hSw); go_simp; first | done | with_reducible rfl)⟩
      try simp only [Act.put, List.setIfInBounds_toArray, List.set_cons_zero, List.set_cons_succ]
      refine' wpAnyH_take (i := 6) (oi := _) (v := _) ?e_7 ?a_7 ?b_7 ?c_7 ?q_7 ?y_7 hHeld ?r_7
      case e_7 => (simp only [List.getElem?_toArray, List.getElem?_cons_zero, List.getElem?_cons_succ]; exact rfl)
      case a_7 => kernel_rfl
      case b_7 => kernel_rfl
      case c_7 => kernel_rfl
      case q_7 => exact fun _ _ _ h => h
      case y_7 => exact Or.inl ⟨by rfl, by (intro w hSw; (try dsimp only at hSw); go_simp; first | done | with_reducible rfl)⟩
      try simp only [Act.put, List.setIfInBounds_toArray, List.set_cons_zero, List.set_cons_succ]
      refine' wpAnyH_take (i := 7) (oi := _) (v := _) ?e_8 ?a_8 ?b_8 ?c_8 ?q_8 ?y_8 hHeld ?r_8
      case e_8 => (simp only [List.getElem?_toArray, List.getElem?_cons_zero, List.getElem?_cons_succ]; exact rfl)
      case a_8 => kernel_rfl
      case b_8 => kernel_rfl
      case c_8 => kernel_rfl
      case q_8 => exact fun _ _ _ h => h
      case y_8 => exact Or.inl ⟨by rfl, by (intro w hSw; (try dsimp only at hSw); go_simp; first | done | with_reducible rfl)⟩
      try simp only [Act.put, List.setIfInBounds_toArray, List.set_cons_zero, List.set_cons_succ]
      refine' wpAnyH_take (i := 8) (oi := _) (v := _) ?e_9 ?a_9 ?b_9 ?c_9 ?q_9 ?y_9 hHeld ?r_9
      case e_9 => (simp only [List.getElem?_toArray, List.getElem?_cons_zero, List.getElem?_cons_succ]; exact rfl)
      case a_9 => kernel_rfl
      case b_9 => kernel_rfl
      case c_9 => kernel_rfl
      case q_9 => exact fun _ _ _ h => h
      case y_9 => exact Or.inl ⟨by rfl, by (intro w hSw; (try dsimp only at hSw); go_simp; first | done | with_reducible rfl)⟩
      try simp only [Act.put, List.setIfInBounds_toArray, List.set_cons_zero, List.set_cons_succ]
      refine' wpAnyH_take (i := 9) (oi := _) (v := _) ?e_10 ?a_10 ?b_10 ?c_10 ?q_10 ?y_10 hHeld ?r_10
      case e_10 => (simp only [List.getElem?_toArray, List.getElem?_cons_zero, List.getElem?_cons_succ]; exact rfl)
      case a_10 => kernel_rfl
      case b_10 => kernel_rfl
      case c_10 => kernel_rfl
      case q_10 => exact fun _ _ _ h => h
      case y_10 => exact Or.inl ⟨by rfl, by (intro w hSw; (try dsimp only at hSw); go_simp; first | done | with_reducible rfl)⟩
      try simp only [Act.put, List.setIfInBounds_toArray, List.set_cons_zero, List.set_cons_succ]
      refine' wpAnyH_take (i := 10) (oi := _) (v := _) ?e_11 ?a_11 ?b_11 ?c_11 ?q_11 ?y_11 hHeld ?r_11
      case e_11 => (simp only [List.getElem?_toArray, List.getElem?_cons_zero, List.getElem?_cons_succ]; exact rfl)
      case a_11 => kernel_rfl
      case b_11 => kernel_rfl
      case c_11 => kernel_rfl
      case q_11 => exact fun _ _ _ h => h
      case y_11 => exact Or.inl ⟨by rfl, by (intro w hSw; (try dsimp only at hSw); go_simp; first | done | with_reducible rfl)⟩
      try simp only [Act.put, List.setIfInBounds_toArray, List.set_cons_zero, List.set_cons_succ]
      refine' wpAnyH_take (i := 11) (oi := _) (v := _) ?e_12 ?a_12 ?b_12 ?c_12 ?q_12 ?y_12 hHeld ?r_12
      case e_12 => (simp only [List.getElem?_toArray, List.getElem?_cons_zero, List.getElem?_cons_succ]; exact rfl)
      case a_12 => kernel_rfl
      case b_12 => kernel_rfl
      case c_12 => kernel_rfl
      case q_12 => exact fun _ _ _ h => h
      case y_12 => exact Or.inl ⟨by rfl, by (intro w hSw; (try dsimp only at hSw); go_simp; first | done | with_reducible rfl)⟩
      try simp only [Act.put, List.setIfInBounds_toArray, List.set_cons_zero, List.set_cons_succ]
      refine' wpAnyH_take (i := 12) (oi := _) (v := _) ?e_13 ?a_13 ?b_13 ?c_13 ?q_13 ?y_13 hHeld ?r_13
      case e_13 => (simp only [List.getElem?_toArray, List.getElem?_cons_zero, List.getElem?_cons_succ]; exact rfl)
      case a_13 => kernel_rfl
      case b_13 => kernel_rfl
      case c_13 => kernel_rfl
      case q_13 => exact fun _ _ _ h => h
      case y_13 => exact Or.inl ⟨by rfl, by (intro w hSw; (try dsimp only at hSw); go_simp; first | done | with_reducible rfl)⟩
      try simp only [Act.put, List.setIfInBounds_toArray, List.set_cons_zero, List.set_cons_succ]
      refine' wpAnyH_take (i := 13) (oi := _) (v := _) ?e_14 ?a_14 ?b_14 ?c_14 ?q_14 ?y_14 hHeld ?r_14
      case e_14 => (simp only [List.getElem?_toArray, List.getElem?_cons_zero, List.getElem?_cons_succ]; exact rfl)
      case a_14 => kernel_rfl
      case b_14 => kernel_rfl
      case c_14 => kernel_rfl
      case q_14 => exact fun _ _ _ h => h
      case y_14 => exact Or.inl ⟨by rfl, by (intro w hSw; (try dsimp only at hSw); go_simp; first | done | with_reducible rfl)⟩
      try simp only [Act.put, List.setIfInBounds_toArray, List.set_cons_zero, List.set_cons_succ]
      refine' wpAnyH_take (i := 14) (oi := _) (v := _) ?e_15 ?a_15 ?b_15 ?c_15 ?q_15 ?y_15 hHeld ?r_15
      case e_15 => (simp only [List.getElem?_toArray, List.getElem?_cons_zero, List.getElem?_cons_succ]; exact rfl)
      case a_15 => kernel_rfl
      case b_15 => kernel_rfl
      case c_15 => kernel_rfl
      case q_15 => exact fun _ _ _ h => h
      case y_15 => exact Or.inl ⟨by rfl, by (intro w hSw; (try dsimp only at hSw); go_simp; first | done | with_reducible rfl)⟩
      try simp only [Act.put, List.setIfInBounds_toArray, List.set_cons_zero, List.set_cons_succ]
      refine' wpAnyH_take (i := 15) (oi := _) (v := _) ?e_16 ?a_16 ?b_16 ?c_16 ?q_16 ?y_16 hHeld ?r_16
      case e_16 => (simp only [List.getElem?_toArray, List.getElem?_cons_zero, List.getElem?_cons_succ]; exact rfl)
      case a_16 => kernel_rfl
      case b_16 => kernel_rfl
      case c_16 => kernel_rfl
      case q_16 => exact fun _ _ _ h => h
      case y_16 => exact Or.inl ⟨by rfl, by (intro w hSw; (try dsimp only at hSw); go_simp; first | done | with_reducible rfl)⟩
      try simp only [Act.put, List.setIfInBounds_toArray, List.set_cons_zero, List.set_cons_succ]
      refine' wpAnyH_take (i := 16) (oi := _) (v := _) ?e_17 ?a_17 ?b_17 ?c_17 ?q_17 ?y_17 hHeld ?r_17
      case e_17 => (simp only [List.getElem?_toArray, List.getElem?_cons_zero, List.getElem?_cons_succ]; exact rfl)
      case a_17 => kernel_rfl
      case b_17 => kernel_rfl
      case c_17 => kernel_rfl
      case q_17 => exact fun _ _ _ h => h
      case y_17 => exact Or.inl ⟨by rfl, by (intro w hSw; (try dsimp only at hSw); go_simp; first | done | with_reducible rfl)⟩
      try simp only [Act.put, List.setIfInBounds_toArray, List.set_cons_zero, List.set_cons_succ]
      refine' wpAnyH_take (i := 17) (oi := _) (v := _) ?e_18 ?a_18 ?b_18 ?c_18 ?q_18 ?y_18 hHeld ?r_18
      case e_18 => (simp only [List.getElem?_toArray, List.getElem?_cons_zero, List.getElem?_cons_succ]; exact rfl)
      case a_18 => kernel_rfl
      case b_18 => kernel_rfl
      case c_18 => kernel_rfl
      case q_18 => exact fun _ _ _ h => h
      case y_18 => exact Or.inl ⟨by rfl, by (intro w hSw; (try dsimp only at hSw); go_simp; first | done | with_reducible rfl)⟩
      try simp only [Act.put, List.setIfInBounds_toArray, List.set_cons_zero, List.set_cons_succ]
      refine' wpAnyH_take (i := 18) (oi := _) (v := _) ?e_19 ?a_19 ?b_19 ?c_19 ?q_19 ?y_19 hHeld ?r_19
      case e_19 => (simp only [List.getElem?_toArray, List.getElem?_cons_zero, List.getElem?_cons_succ]; exact rfl)
      case a_19 => kernel_rfl
      case b_19 => kernel_rfl
      case c_19 => kernel_rfl
      case q_19 => exact fun _ _ _ h => h
      case y_19 => exact Or.inl ⟨by rfl, by (intro w hSw; (try dsimp only at hSw); go_simp; first | done | with_reducible rfl)⟩
      try simp only [Act.put, List.setIfInBounds_toArray, List.set_cons_zero, List.set_cons_succ]
      refine' wpAnyH_take (i := 19) (oi := _) (v := _) ?e_20 ?a_20 ?b_20 ?c_20 ?q_20 ?y_20 hHeld ?r_20
      case e_20 => (simp only [List.getElem?_toArray, List.getElem?_cons_zero, List.getElem?_cons_succ]; exact rfl)
      case a_20 => kernel_rfl
      case b_20 => kernel_rfl
      case c_20 => kernel_rfl
      case q_20 => exact fun _ _ _ h => h
      case y_20 => exact Or.inl ⟨by rfl, by (intro w hSw; (try dsimp only at hSw); go_simp; first | done | with_reducible rfl)⟩
      try simp only [Act.put, List.setIfInBounds_toArray, List.set_cons_zero, List.set_cons_succ]
      refine' wpAnyH_take (i := 20) (oi := _) (v := _) ?e_21 ?a_21 ?b_21 ?c_21 ?q_21 ?y_21 hHeld ?r_21
      case e_21 => (simp only [List.getElem?_toArray, List.getElem?_cons_zero, List.getElem?_cons_succ]; exact rfl)
      case a_21 => kernel_rfl
      case b_21 => kernel_rfl
      case c_21 => kernel_rfl
      case q_21 => exact fun _ _ _ h => h
      case y_21 => exact Or.inl ⟨by rfl, by (intro w hSw; (try dsimp only at hSw); go_simp; first | done | with_reducible rfl)⟩
      try simp only [Act.put, List.setIfInBounds_toArray, List.set_cons_zero, List.set_cons_succ]
      refine' wpAnyH_take (i := 21) (oi := _) (v := _) ?e_22 ?a_22 ?b_22 ?c_22 ?q_22 ?y_22 hHeld ?r_22
      case e_22 => (simp only [List.getElem?_toArray, List.getElem?_cons_zero, List.getElem?_cons_succ]; exact rfl)
      case a_22 => kernel_rfl
      case b_22 => kernel_rfl
      case c_22 => kernel_rfl
      case q_22 => exact fun _ _ _ h => h
      case y_22 => exact Or.inl ⟨by rfl, by (intro w hSw; (try dsimp only at hSw); go_simp; first | done | with_reducible rfl)⟩
      try simp only [Act.put, List.setIfInBounds_toArray, List.set_cons_zero, List.set_cons_succ]
      refine' wpAnyH_take (i := 22) (oi := _) (v := _) ?e_23 ?a_23 ?b_23 ?c_23 ?q_23 ?y_23 hHeld ?r_23
      case e_23 => (simp only [List.getElem?_toArray, List.getElem?_cons_zero, List.getElem?_cons_succ]; exact rfl)
      case a_23 => kernel_rfl
      case b_23 => kernel_rfl
      case c_23 => kernel_rfl
      case q_23 => exact fun _ _ _ h => h
      case y_23 => exact Or.inl ⟨by rfl, by (intro w hSw; (try dsimp only at hSw); go_simp; first | done | with_reducible rfl)⟩
      try simp only [Act.put, List.setIfInBounds_toArray, List.set_cons_zero, List.set_cons_succ]
      refine' wpAnyH_take (i := 23) (oi := _) (v := _) ?e_24 ?a_24 ?b_24 ?c_24 ?q_24 ?y_24 hHeld ?r_24
      case e_24 => (simp only [List.getElem?_toArray, List.getElem?_cons_zero, List.getElem?_cons_succ]; exact rfl)
      case a_24 => kernel_rfl
      case b_24 => kernel_rfl
      case c_24 => kernel_rfl
      case q_24 => exact fun _ _ _ h => h
      case y_24 => exact Or.inl ⟨by rfl, by (intro w hSw; (try dsimp only at hSw); go_simp; first | done | with_reducible rfl)⟩
      try simp only [Act.put, List.setIfInBounds_toArray, List.set_cons_zero, List.set_cons_succ]
      refine' wpAnyH_take (i := 24) (oi := _) (v := _) ?e_25 ?a_25 ?b_25 ?c_25 ?q_25 ?y_25 hHeld ?r_25
      case e_25 => (simp only [List.getElem?_toArray, List.getElem?_cons_zero, List.getElem?_cons_succ]; exact rfl)
      case a_25 => kernel_rfl
      case b_25 => kernel_rfl
      case c_25 => kernel_rfl
      case q_25 => exact fun _ _ _ h => h
      case y_25 => exact Or.inl ⟨by rfl, by (intro w hSw; (try dsimp only at hSw); go_simp; first | done | with_reducible rfl)⟩
      try simp only [Act.put, List.setIfInBounds_toArray, List.set_cons_zero, List.set_cons_succ]
      refine' wpAnyH_take (i := 25) (oi := _) (v := _) ?e_26 ?a_26 ?b_26 ?c_26 ?q_26 ?y_26 hHeld ?r_26
      case e_26 => (simp only [List.getElem?_toArray, List.getElem?_cons_zero, List.getElem?_cons_succ]; exact rfl)
      case a_26 => kernel_rfl
      case b_26 => kernel_rfl
      case c_26 => kernel_rfl
      case q_26 => exact fun _ _ _ h => h
      case y_26 => exact Or.inl ⟨by rfl, by (intro w hSw; (try dsimp only at hSw); go_simp; first | done | with_reducible rfl)⟩
      try simp only [Act.put, List.setIfInBounds_toArray, List.set_cons_zero, List.set_cons_succ]
      refine wpAnyH_ready (rs := [26]) (by kernel_rfl) (by simp) ?_
      refine' AllReadyH.cons (o := _) ?e_27 ?st_27 AllReadyH.nil
      case e_27 => (simp only [List.getElem?_toArray, List.getElem?_cons_zero, List.getElem?_cons_succ]; exact rfl)
      intro K hK
      go_simp
      obtain ⟨l0, l1, l2, l3, l4, l5, l6, l7, l8, l9, lB⟩ := hHeld
      refine (vIntsSame_c u15 u17 S _ (Ints.below H15.out lB) (Ints.below H17.out lB)).mono ?_
      rintro e c1 ⟨rfl, hb1⟩
      go_wp2_with fail
      refine hK.out _ _ ⟨cell_later hb1 l0, cell_later hb1 l1, cell_later hb1 l2, cell_later hb1 l3, cell_later hb1 l4, cell_later hb1 l5, cell_later hb1 l6, cell_later hb1 l7, cell_later hb1 l8, cell_later hb1 l9, chain_back hb1 lB⟩ (fun hHeld => ?_)
      clear l0 l1 l2 l3 l4 l5 l6 l7 l8 l9 lB hb1
      clear hK K
      try simp only [Act.put, List.setIfInBounds_toArray, List.set_cons_zero, List.set_cons_succ]
      refine' wpAnyH_take (i := 27) (oi := _) (v := _) ?e_28 ?a_28 ?b_28 ?c_28 ?q_28 ?y_28 hHeld ?r_28
      case e_28 => (simp only [List.getElem?_toArray, List.getElem?_cons_zero, List.getElem?_cons_succ]; exact rfl)
      case a_28 => kernel_rfl
      case b_28 => kernel_rfl
      case c_28 => kernel_rfl
      case q_28 => exact fun _ _ _ h => h
      case y_28 => exact Or.inl ⟨by rfl, by (intro w hSw; (try dsimp only at hSw); go_simp; first | done | with_reducible rfl)⟩
      try simp only [Act.put, List.setIfInBounds_toArray, List.set_cons_zero, List.set_cons_succ]
      refine' wpAnyH_take (i := 28) (oi := _) (v := _) ?e_29 ?a_29 ?b_29 ?c_29 ?q_29 ?y_29 hHeld ?r_29
      case e_29 => (simp only [List.getElem?_toArray, List.getElem?_cons_zero, List.getElem?_cons_succ]; exact rfl)
      case a_29 => kernel_rfl
      case b_29 => kernel_rfl
      case c_29 => kernel_rfl
      case q_29 => exact fun _ _ _ h => h
      case y_29 => exact Or.inl ⟨by rfl, by (intro w hSw; (try dsimp only at hSw); go_simp; first | done | with_reducible rfl)⟩
      try simp only [Act.put, List.setIfInBounds_toArray, List.set_cons_zero, List.set_cons_succ]
      refine' wpAnyH_take (i := 29) (oi := _) (v := _) ?e_30 ?a_30 ?b_30 ?c_30 ?q_30 ?y_30 hHeld ?r_30
      case e_30 => (simp only [List.getElem?_toArray, List.getElem?_cons_zero, List.getElem?_cons_succ]; exact rfl)
      case a_30 => kernel_rfl
      case b_30 => kernel_rfl
      case c_30 => kernel_rfl
      case q_30 => exact fun _ _ _ h => h
      case y_30 => exact Or.inl ⟨by rfl, by (intro w hSw; (try dsimp only at hSw); go_simp; first | done | with_reducible rfl)⟩
      try simp only [Act.put, List.setIfInBounds_toArray, List.set_cons_zero, List.set_cons_succ]
      refine' wpAnyH_take (i := 30) (oi := _) (v := _) ?e_31 ?a_31 ?b_31 ?c_31 ?q_31 ?y_31 hHeld ?r_31
      case e_31 => (simp only [List.getElem?_toArray, List.getElem?_cons_zero, List.getElem?_cons_succ]; exact rfl)
      case a_31 => kernel_rfl
      case b_31 => kernel_rfl
      case c_31 => kernel_rfl
      case q_31 => exact fun _ _ _ h => h
      case y_31 => exact Or.inl ⟨by rfl, by (intro w hSw; (try dsimp only at hSw); go_simp; first | done | with_reducible rfl)⟩
      try simp only [Act.put, List.setIfInBounds_toArray, List.set_cons_zero, List.set_cons_succ]
      refine' wpAnyH_take (i := 31) (oi := _) (v := _) ?e_32 ?a_32 ?b_32 ?c_32 ?q_32 ?y_32 hHeld ?r_32
      case e_32 => (simp only [List.getElem?_toArray, List.getElem?_cons_zero, List.getElem?_cons_succ]; exact rfl)
      case a_32 => kernel_rfl
      case b_32 => kernel_rfl
      case c_32 => kernel_rfl
      case q_32 => exact fun _ _ _ h => h
      case y_32 => exact Or.inl ⟨by rfl, by (intro w hSw; (try dsimp only at hSw); go_simp; first | done | with_reducible rfl)⟩
      try simp only [Act.put, List.setIfInBounds_toArray, List.set_cons_zero, List.set_cons_succ]
      refine' wpAnyH_take (i := 32) (oi := _) (v := _) ?e_33 ?a_33 ?b_33 ?c_33 ?q_33 ?y_33 hHeld ?r_33
      case e_33 => (simp only [List.getElem?_toArray, List.getElem?_cons_zero, List.getElem?_cons_succ]; exact rfl)
      case a_33 => kernel_rfl
      case b_33 => kernel_rfl
      case c_33 => kernel_rfl
      case q_33 => exact fun _ _ _ h => h
      case y_33 => exact Or.inl ⟨by rfl, by (intro w hSw; (try dsimp only at hSw); go_simp; first | done | with_reducible rfl)⟩
      try simp only [Act.put, List.setIfInBounds_toArray, List.set_cons_zero, List.set_cons_succ]
      refine' wpAnyH_take (i := 33) (oi := _) (v := _) ?e_34 ?a_34 ?b_34 ?c_34 ?q_34 ?y_34 hHeld ?r_34
      case e_34 => (simp only [List.getElem?_toArray, List.getElem?_cons_zero, List.getElem?_cons_succ]; exact rfl)
      case a_34 => kernel_rfl
      case b_34 => kernel_rfl
      case c_34 => kernel_rfl
      case q_34 => exact fun _ _ _ h => h
      case y_34 => exact Or.inl ⟨by rfl, by (intro w hSw; (try dsimp only at hSw); go_simp; first | done | with_reducible rfl)⟩
      try simp only [Act.put, List.setIfInBounds_toArray, List.set_cons_zero, List.set_cons_succ]
      refine' wpAnyH_take (i := 34) (oi := _) (v := _) ?e_35 ?a_35 ?b_35 ?c_35 ?q_35 ?y_35 hHeld ?r_35
      case e_35 => (simp only [List.getElem?_toArray, List.getElem?_cons_zero, List.getElem?_cons_succ]; exact rfl)
      case a_35 => kernel_rfl
      case b_35 => kernel_rfl
      case c_35 => kernel_rfl
      case q_35 => exact fun _ _ _ h => h
      case y_35 => exact Or.inl ⟨by rfl, by (intro w hSw; (try dsimp only at hSw); go_simp; first | done | with_reducible rfl)⟩
      try simp only [Act.put, List.setIfInBounds_toArray, List.set_cons_zero, List.set_cons_succ]
      refine' wpAnyH_take (i := 35) (oi := _) (v := _) ?e_36 ?a_36 ?b_36 ?c_36 ?q_36 ?y_36 hHeld ?r_36
      case e_36 => (simp only [List.getElem?_toArray, List.getElem?_cons_zero, List.getElem?_cons_succ]; exact rfl)
      case a_36 => kernel_rfl
      case b_36 => kernel_rfl
      case c_36 => kernel_rfl
      case q_36 => exact fun _ _ _ h => h
      case y_36 => exact Or.inl ⟨by rfl, by (intro w hSw; (try dsimp only at hSw); go_simp; first | done | with_reducible rfl)⟩
      try simp only [Act.put, List.setIfInBounds_toArray, List.set_cons_zero, List.set_cons_succ]
      refine' wpAnyH_take (i := 36) (oi := _) (v := _) ?e_37 ?a_37 ?b_37 ?c_37 ?q_37 ?y_37 hHeld ?r_37
      case e_37 => (simp only [List.getElem?_toArray, List.getElem?_cons_zero, List.getElem?_cons_succ]; exact rfl)
      case a_37 => kernel_rfl
      case b_37 => kernel_rfl
      case c_37 => kernel_rfl
      case q_37 => exact fun _ _ _ h => h
      case y_37 => exact Or.inl ⟨by rfl, by (intro w hSw; (try dsimp only at hSw); go_simp; first | done | with_reducible rfl)⟩
      try simp only [Act.put, List.setIfInBounds_toArray, List.set_cons_zero, List.set_cons_succ]
      refine' wpAnyH_take (i := 37) (oi := _) (v := _) ?e_38 ?a_38 ?b_38 ?c_38 ?q_38 ?y_38 hHeld ?r_38
      case e_38 => (simp only [List.getElem?_toArray, List.getElem?_cons_zero, List.getElem?_cons_succ]; exact rfl)
      case a_38 => kernel_rfl
      case b_38 => kernel_rfl
      case c_38 => kernel_rfl
      case q_38 => exact fun _ _ _ h => h
      case y_38 => exact Or.inl ⟨by rfl, by (intro w hSw; (try dsimp only at hSw); go_simp; first | done | with_reducible rfl)⟩
      try simp only [Act.put, List.setIfInBounds_toArray, List.set_cons_zero, List.set_cons_succ]
      refine' wpAnyH_take (i := 38) (oi := _) (v := _) ?e_39 ?a_39 ?b_39 ?c_39 ?q_39 ?y_39 hHeld ?r_39
      case e_39 => (simp only [List.getElem?_toArray, List.getElem?_cons_zero, List.getElem?_cons_succ]; exact rfl)
      case a_39 => kernel_rfl
      case b_39 => kernel_rfl
      case c_39 => kernel_rfl
      case q_39 => exact fun _ _ _ h => h
      case y_39 => exact Or.inl ⟨by rfl, by (intro w hSw; (try dsimp only at hSw); go_simp; first | done | with_reducible rfl)⟩
      try simp only [Act.put, List.setIfInBounds_toArray, List.set_cons_zero, List.set_cons_succ]
      refine' wpAnyH_take (i := 39) (oi := _) (v := _) ?e_40 ?a_40 ?b_40 ?c_40 ?q_40 ?y_40 hHeld ?r_40
      case e_40 => (simp only [List.getElem?_toArray, List.getElem?_cons_zero, List.getElem?_cons_succ]; exact rfl)
      case a_40 => kernel_rfl
      case b_40 => kernel_rfl
      case c_40 => kernel_rfl
      case q_40 => exact fun _ _ _ h => h
      case y_40 => exact Or.inl ⟨by rfl, by (intro w hSw; (try dsimp only at hSw); go_simp; first | done | with_reducible rfl)⟩
      try simp only [Act.put, List.setIfInBounds_toArray, List.set_cons_zero, List.set_cons_succ]
      refine' wpAnyH_take (i := 40) (oi := _) (v := _) ?e_41 ?a_41 ?b_41 ?c_41 ?q_41 ?y_41 hHeld ?r_41
      case e_41 => (simp only [List.getElem?_toArray, List.getElem?_cons_zero, List.getElem?_cons_succ]; exact rfl)
      case a_41 => kernel_rfl
      case b_41 => kernel_rfl
      case c_41 => kernel_rfl
      case q_41 => exact fun _ _ _ h => h
      case y_41 => exact Or.inl ⟨by rfl, by (intro w hSw; (try dsimp only at hSw); go_simp; first | done | with_reducible rfl)⟩
      try simp only [Act.put, List.setIfInBounds_toArray, List.set_cons_zero, List.set_cons_succ]
      refine' wpAnyH_take (i := 42) (oi := _) (v := _) ?e_42 ?a_42 ?b_42 ?c_42 ?q_42 ?y_42 hHeld ?r_42
      case e_42 => (simp only [List.getElem?_toArray, List.getElem?_cons_zero, List.getElem?_cons_succ]; exact rfl)
      case a_42 => kernel_rfl
      case b_42 => kernel_rfl
      case c_42 => kernel_rfl
      case q_42 => exact fun _ _ _ h => h
      case y_42 => exact Or.inl ⟨by rfl, by (intro w hSw; (try dsimp only at hSw); go_simp; first | done | with_reducible rfl)⟩
      try simp only [Act.put, List.setIfInBounds_toArray, List.set_cons_zero, List.set_cons_succ]
      refine wpAnyH_ready (rs := [41]) (by kernel_rfl) (by simp) ?_
      refine' AllReadyH.cons (o := _) ?e_43 ?st_43 AllReadyH.nil
      case e_43 => (simp only [List.getElem?_toArray, List.getElem?_cons_zero, List.getElem?_cons_succ]; exact rfl)
      intro K hK
      go_simp
      obtain ⟨l0, l1, l2, l3, l4, l5, l6, l7, l8, l9, lB⟩ := hHeld
      refine (IF1.out _).mono ?_
      rintro e c2 ⟨rfl, hb2⟩
      go_wp2_with fail
      refine hK.out _ _ ⟨cell_later hb2 l0, cell_later hb2 l1, cell_later hb2 l2, cell_later hb2 l3, cell_later hb2 l4, cell_later hb2 l5, cell_later hb2 l6, cell_later hb2 l7, cell_later hb2 l8, cell_later hb2 l9, chain_back hb2 lB⟩ (fun hHeld => ?_)
      clear l0 l1 l2 l3 l4 l5 l6 l7 l8 l9 lB hb2
      clear hK K
      try simp only [Act.put, List.setIfInBounds_toArray, List.set_cons_zero, List.set_cons_succ]
      refine wpAnyH_ready (rs := [43]) (by kernel_rfl) (by simp) ?_
      refine' AllReadyH.cons (o := _) ?e_44 ?st_44 AllReadyH.nil
      case e_44 => (simp only [List.getElem?_toArray, List.getElem?_cons_zero, List.getElem?_cons_succ]; exact rfl)
      intro K hK
      go_simp
      obtain ⟨l0, l1, l2, l3, l4, l5, l6, l7, l8, l9, lB⟩ := hHeld
      refine (IF2.out _).mono ?_
      rintro e c3 ⟨rfl, hb3⟩
      go_wp2_with fail
      refine hK.out _ _ ⟨cell_later hb3 l0, cell_later hb3 l1, cell_later hb3 l2, cell_later hb3 l3, cell_later hb3 l4, cell_later hb3 l5, cell_later hb3 l6, cell_later hb3 l7, cell_later hb3 l8, cell_later hb3 l9, chain_back hb3 lB⟩ (fun hHeld => ?_)
      clear l0 l1 l2 l3 l4 l5 l6 l7 l8 l9 lB hb3
      clear hK K
      try simp only [Act.put, List.setIfInBounds_toArray, List.set_cons_zero, List.set_cons_succ]
      refine' wpAnyH_take (i := 44) (oi := _) (v := _) ?e_45 ?a_45 ?b_45 ?c_45 ?q_45 ?y_45 hHeld ?r_45
      case e_45 => (simp only [List.getElem?_toArray, List.getElem?_cons_zero, List.getElem?_cons_succ]; exact rfl)
      case a_45 => kernel_rfl
      case b_45 => kernel_rfl
      case c_45 => kernel_rfl
      case q_45 => exact fun _ _ _ h => h
      case y_45 => exact Or.inl ⟨by rfl, by (intro w hSw; (try dsimp only at hSw); go_simp; first | done | with_reducible rfl)⟩
      try simp only [Act.put, List.setIfInBounds_toArray, List.set_cons_zero, List.set_cons_succ]
      refine' wpAnyH_take (i := 45) (oi := _) (v := _) ?e_46 ?a_46 ?b_46 ?c_46 ?q_46 ?y_46 hHeld ?r_46
      case e_46 => (simp only [List.getElem?_toArray, List.getElem?_cons_zero, List.getElem?_cons_succ]; exact rfl)
      case a_46 => kernel_rfl
      case b_46 => kernel_rfl
      case c_46 => kernel_rfl
      case q_46 => exact fun _ _ _ h => h
      case y_46 => exact Or.inl ⟨by rfl, by (intro w hSw; (try dsimp only at hSw); go_simp; first | done | with_reducible rfl)⟩
      try simp only [Act.put, List.setIfInBounds_toArray, List.set_cons_zero, List.set_cons_succ]
      refine' wpAnyH_take (i := 46) (oi := _) (v := _) ?e_47 ?a_47 ?b_47 ?c_47 ?q_47 ?y_47 hHeld ?r_47
      case e_47 => (simp only [List.getElem?_toArray, List.getElem?_cons_zero, List.getElem?_cons_succ]; exact rfl)
      case a_47 => kernel_rfl
      case b_47 => kernel_rfl
      case c_47 => kernel_rfl
      case q_47 => exact fun _ _ _ h => h
      case y_47 => exact Or.inl ⟨by rfl, by (intro w hSw; (try dsimp only at hSw); go_simp; first | done | with_reducible rfl)⟩
      try simp only [Act.put, List.setIfInBounds_toArray, List.set_cons_zero, List.set_cons_succ]
      refine' wpAnyH_take (i := 47) (oi := _) (v := _) ?e_48 ?a_48 ?b_48 ?c_48 ?q_48 ?y_48 hHeld ?r_48
      case e_48 => (simp only [List.getElem?_toArray, List.getElem?_cons_zero, List.getElem?_cons_succ]; exact rfl)
      case a_48 => kernel_rfl
      case b_48 => kernel_rfl
      case c_48 => kernel_rfl
      case q_48 => exact fun _ _ _ h => h
      case y_48 => exact Or.inl ⟨by rfl, by (intro w hSw; (try dsimp only at hSw); go_simp; first | done | with_reducible rfl)⟩
      try simp only [Act.put, List.setIfInBounds_toArray, List.set_cons_zero, List.set_cons_succ]
      refine' wpAnyH_take (i := 48) (oi := _) (v := _) ?e_49 ?a_49 ?b_49 ?c_49 ?q_49 ?y_49 hHeld ?r_49
      case e_49 => (simp only [List.getElem?_toArray, List.getElem?_cons_zero, List.getElem?_cons_succ]; exact rfl)
      case a_49 => kernel_rfl
      case b_49 => kernel_rfl
      case c_49 => kernel_rfl
      case q_49 => exact fun _ _ _ h => h
      case y_49 => exact Or.inl ⟨by rfl, by (intro w hSw; (try dsimp only at hSw); go_simp; first | done | with_reducible rfl)⟩
      try simp only [Act.put, List.setIfInBounds_toArray, List.set_cons_zero, List.set_cons_succ]
      refine wpAnyH_ready (rs := [49]) (by kernel_rfl) (by simp) ?_
      refine' AllReadyH.cons (o := _) ?e_50 ?st_50 AllReadyH.nil
      case e_50 => (simp only [List.getElem?_toArray, List.getElem?_cons_zero, List.getElem?_cons_succ]; exact rfl)
      intro K hK
      go_simp
      obtain ⟨l0, l1, l2, l3, l4, l5, l6, l7, l8, l9, lB⟩ := hHeld
      refine (IF1.out _).mono ?_
      rintro e c4 ⟨rfl, hb4⟩
      go_wp2_with fail
      refine hK.out _ _ ⟨cell_later hb4 l0, cell_later hb4 l1, cell_later hb4 l2, cell_later hb4 l3, cell_later hb4 l4, cell_later hb4 l5, cell_later hb4 l6, cell_later hb4 l7, cell_later hb4 l8, cell_later hb4 l9, chain_back hb4 lB⟩ (fun hHeld => ?_)
      clear l0 l1 l2 l3 l4 l5 l6 l7 l8 l9 lB hb4
      clear hK K
      try simp only [Act.put, List.setIfInBounds_toArray, List.set_cons_zero, List.set_cons_succ]
      refine' wpAnyH_take (i := 50) (oi := _) (v := _) ?e_51 ?a_51 ?b_51 ?c_51 ?q_51 ?y_51 hHeld ?r_51
      case e_51 => (simp only [List.getElem?_toArray, List.getElem?_cons_zero, List.getElem?_cons_succ]; exact rfl)
      case a_51 => kernel_rfl
      case b_51 => kernel_rfl
      case c_51 => kernel_rfl
      case q_51 => exact fun _ _ _ h => h
      case y_51 => exact Or.inl ⟨by rfl, by (intro w hSw; (try dsimp only at hSw); go_simp; first | done | with_reducible rfl)⟩
      try simp only [Act.put, List.setIfInBounds_toArray, List.set_cons_zero, List.set_cons_succ]
      refine' wpAnyH_take (i := 51) (oi := _) (v := _) ?e_52 ?a_52 ?b_52 ?c_52 ?q_52 ?y_52 hHeld ?r_52
      case e_52 => (simp only [List.getElem?_toArray, List.getElem?_cons_zero, List.getElem?_cons_succ]; exact rfl)
      case a_52 => kernel_rfl
      case b_52 => kernel_rfl
      case c_52 => kernel_rfl
      case q_52 => exact fun _ _ _ h => h
      case y_52 => exact Or.inl ⟨by rfl, by (intro w hSw; (try dsimp only at hSw); go_simp; first | done | with_reducible rfl)⟩
      try simp only [Act.put, List.setIfInBounds_toArray, List.set_cons_zero, List.set_cons_succ]
      refine' wpAnyH_take (i := 52) (oi := _) (v := _) ?e_53 ?a_53 ?b_53 ?c_53 ?q_53 ?y_53 hHeld ?r_53
      case e_53 => (simp only [List.getElem?_toArray, List.getElem?_cons_zero, List.getElem?_cons_succ]; exact rfl)
      case a_53 => kernel_rfl
      case b_53 => kernel_rfl
      case c_53 => kernel_rfl
      case q_53 => exact fun _ _ _ h => h
      case y_53 => exact Or.inl ⟨by rfl, by (intro w hSw; (try dsimp only at hSw); go_simp; first | done | with_reducible rfl)⟩
      try simp only [Act.put, List.setIfInBounds_toArray, List.set_cons_zero, List.set_cons_succ]
      refine' wpAnyH_take (i := 53) (oi := _) (v := _) ?e_54 ?a_54 ?b_54 ?c_54 ?q_54 ?y_54 hHeld ?r_54
      case e_54 => (simp only [List.getElem?_toArray, List.getElem?_cons_zero, List.getElem?_cons_succ]; exact rfl)
      case a_54 => kernel_rfl
      case b_54 => kernel_rfl
      case c_54 => kernel_rfl
      case q_54 => exact fun _ _ _ h => h
      case y_54 => exact Or.inl ⟨by rfl, by (intro w hSw; (try dsimp only at hSw); go_simp; first | done | with_reducible rfl)⟩
      try simp only [Act.put, List.setIfInBounds_toArray, List.set_cons_zero, List.set_cons_succ]
      refine' wpAnyH_take (i := 54) (oi := _) (v := _) ?e_55 ?a_55 ?b_55 ?c_55 ?q_55 ?y_55 hHeld ?r_55
      case e_55 => (simp only [List.getElem?_toArray, List.getElem?_cons_zero, List.getElem?_cons_succ]; exact rfl)
      case a_55 => kernel_rfl
      case b_55 => kernel_rfl
      case c_55 => kernel_rfl
      case q_55 => exact fun _ _ _ h => h
      case y_55 => exact Or.inl ⟨by rfl, by (intro w hSw; (try dsimp only at hSw); go_simp; first | done | with_reducible rfl)⟩
      try simp only [Act.put, List.setIfInBounds_toArray, List.set_cons_zero, List.set_cons_succ]
      refine' wpAnyH_take (i := 55) (oi := _) (v := _) ?e_56 ?a_56 ?b_56 ?c_56 ?q_56 ?y_56 hHeld ?r_56
      case e_56 => (simp only [List.getElem?_toArray, List.getElem?_cons_zero, List.getElem?_cons_succ]; exact rfl)
      case a_56 => kernel_rfl
      case b_56 => kernel_rfl
      case c_56 => kernel_rfl
      case q_56 => exact fun _ _ _ h => h
      case y_56 => exact Or.inl ⟨by rfl, by (intro w hSw; (try dsimp only at hSw); go_simp; first | done | with_reducible rfl)⟩
      try simp only [Act.put, List.setIfInBounds_toArray, List.set_cons_zero, List.set_cons_succ]
      refine' wpAnyH_take (i := 56) (oi := _) (v := undef) ?e_57 ?a_57 ?b_57 ?c_57 ?q_57 ?y_57 hHeld ?r_57
      case e_57 => (simp only [List.getElem?_toArray, List.getElem?_cons_zero, List.getElem?_cons_succ]; exact rfl)
      case a_57 => kernel_rfl
      case b_57 => kernel_rfl
      case c_57 => kernel_rfl
      case q_57 => exact fun _ _ _ h => h
      case y_57 => exact Or.inr ⟨by rfl, rfl⟩
      try simp only [Act.put, List.setIfInBounds_toArray, List.set_cons_zero, List.set_cons_succ]
      refine' wpAnyH_take (i := 57) (oi := _) (v := undef) ?e_58 ?a_58 ?b_58 ?c_58 ?q_58 ?y_58 hHeld ?r_58
      case e_58 => (simp only [List.getElem?_toArray, List.getElem?_cons_zero, List.getElem?_cons_succ]; exact rfl)
      case a_58 => kernel_rfl
      case b_58 => kernel_rfl
      case c_58 => kernel_rfl
      case q_58 => exact fun _ _ _ h => h
      case y_58 => exact Or.inr ⟨by rfl, rfl⟩
      try simp only [Act.put, List.setIfInBounds_toArray, List.set_cons_zero, List.set_cons_succ]
      refine' wpAnyH_take (i := 58) (oi := _) (v := _) ?e_59 ?a_59 ?b_59 ?c_59 ?q_59 ?y_59 hHeld ?r_59
      case e_59 => (simp only [List.getElem?_toArray, List.getElem?_cons_zero, List.getElem?_cons_succ]; exact rfl)
      case a_59 => kernel_rfl
      case b_59 => kernel_rfl
      case c_59 => kernel_rfl
      case q_59 => exact fun _ _ _ h => h
      case y_59 => exact Or.inl ⟨by rfl, by (intro w hSw; (try dsimp only at hSw); go_simp; first | done | with_reducible rfl)⟩
      try simp only [Act.put, List.setIfInBounds_toArray, List.set_cons_zero, List.set_cons_succ]
      refine' wpAnyH_take (i := 59) (oi := _) (v := _) ?e_60 ?a_60 ?b_60 ?c_60 ?q_60 ?y_60 hHeld ?r_60
      case e_60 => (simp only [List.getElem?_toArray, List.getElem?_cons_zero, List.getElem?_cons_succ]; exact rfl)
      case a_60 => kernel_rfl
      case b_60 => kernel_rfl
      case c_60 => kernel_rfl
      case q_60 => exact fun _ _ _ h => h
      case y_60 => exact Or.inl ⟨by rfl, by (intro w hSw; (try dsimp only at hSw); go_simp; first | done | with_reducible rfl)⟩
      try simp only [Act.put, List.setIfInBounds_toArray, List.set_cons_zero, List.set_cons_succ]
      refine' wpAnyH_take (i := 60) (oi := _) (v := _) ?e_61 ?a_61 ?b_61 ?c_61 ?q_61 ?y_61 hHeld ?r_61
      case e_61 => (simp only [List.getElem?_toArray, List.getElem?_cons_zero, List.getElem?_cons_succ]; exact rfl)
      case a_61 => kernel_rfl
      case b_61 => kernel_rfl
      case c_61 => kernel_rfl
      case q_61 => exact fun _ _ _ h => h
      case y_61 => exact Or.inl ⟨by rfl, by (intro w hSw; (try dsimp only at hSw); go_simp; first | done | with_reducible rfl)⟩
      try simp only [Act.put, List.setIfInBounds_toArray, List.set_cons_zero, List.set_cons_succ]
      refine wpAnyH_done (by kernel_rfl) ?_ _
      refine NoPanic.normal ?_
      clear x3a x3b x9a x9b x11a x11b x21a x21b x23a x23b
      obtain ⟨l0, l1, l2, l3, l4, l5, l6, l7, l8, l9, lB⟩ := hHeld
      clear l0 l1 l2 l3 l4 l5 l6 l7 l8 l9
      replace BX := Lib.hid (Below.chain BX.out lB)
      replace HPs := Lib.hid (HPs.out.below lB)
      replace HR := Lib.hid (HR.out.below lB)
      replace H15 := Lib.hid (H15.out.below lB)
      replace X3 := Lib.hid (X3.out.below lB)
      replace X9 := Lib.hid (X9.out.below lB)
      replace X19 := Lib.hid (X19.out.below lB)
      replace X20 := Lib.hid (X20.out.below lB)
      replace X21 := Lib.hid (X21.out.below lB)
      clear lB H17 X11 X23
      cases there with
      | false =>
        cases one with
        | false =>
          go_wp2
          go_ret
          exact ⟨rfl, BX.out⟩
        | true =>
          obtain ⟨j1, j2, j3⟩ := HJ.out (by trivial)
          have hor1 : (jx != bits .or .i64 ja jc) = false := by rw [j2]; unfold orI; simp
          have hor2 : (jy != bits .or .i64 jb jd) = false := by rw [j3]; unfold orI; simp
          have HJ1 := Lib.hid j1
          clear j1 j2 j3
          obtain ⟨q0a, q0b, _, _⟩ := X21.out.two'
          have CI := Lib.hid (IsFault_c jx jy c4)
          rw [HJ1.out] at CI
          go_wp2_with fail
          refine CI.out.mono ?_
          rintro e wq ⟨rfl, hbq⟩
          have BQ := Lib.hid (Below.chain BX.out hbq)
          have Y21 := Lib.hid (X21.out.below hbq)
          have Y19 := Lib.hid (X19.out.below hbq)
          have Y20 := Lib.hid (X20.out.below hbq)
          clear hbq CI q0a q0b
          obtain ⟨q0a, q0b, _, _⟩ := Y21.out.two'
          obtain ⟨q1a, q1b, _, _⟩ := Y19.out.two'
          obtain ⟨q2a, q2b, _, _⟩ := Y20.out.two'
          go_wp2
          go_ret
          exact ⟨rfl, BQ.out⟩
      | true =>
        have hsl := HSL.out (by trivial)
        have hal := HAL.out (by trivial)
        have HSA2 := Lib.hid (HSA.out (by trivial))
        have HAL2 := Lib.hid hal
        have HSL2 := Lib.hid hsl
        have hne : ((S.length : Int) != (r.length : Int)) = false := by rw [hsl]; simp
        clear hsl hal
        obtain ⟨a13, c13, rfl, _, _, _⟩ := Pairs.parts HPs.out
        obtain ⟨a14, c14, rfl, _, _, _⟩ := HR.out.parts
        obtain ⟨a15, c15, rfl, _, _, _⟩ := H15.out.parts
        go_wp2
        go_loopw [35] (fun j wr => ∃ k : Nat, k ≤ r.length ∧ j = .int .i64 (k : Int) ∧ Hid (Below c4.heap.size c4 wr)) (fun j _ => r.length - (intOf j).toNat)
        case atStart => exact ⟨0, by omega, rfl, Below.refl _ _⟩
        case round =>
          obtain ⟨k, hk, rfl, HBr⟩ := hrel
          by_cases hlt : k < r.length
          · have hdk : decide ((k : Int) < (r.length : Int)) = true := by simp; omega
            have hlp : k < ps.length := by rw [HAL2.out]; exact hlt
            have hlp2 : (k : Int) < (ps.length : Int) := by omega
            obtain ⟨f, hf⟩ := elem_at hlp
            obtain ⟨cc, hc⟩ := elem_at hlt
            obtain ⟨x, hx, hsc⟩ := HSA2.out k f cc hf.out hc.out
            have hlS : k < S.length := by rw [HSL2.out]; exact hlt
            have hlS2 : (k : Int) < (S.length : Int) := by omega
            obtain ⟨ax, cx, ex, _, _, HPp⟩ := Pairs.parts (Pairs.below HPs.out HBr.out)
            cases ex
            obtain ⟨ay, cy, ey, _, _, HRp⟩ := (HR.out.below HBr.out).parts
            cases ey
            obtain ⟨b1, o1, rfl, g0, g1⟩ := HPp.out k f hf.out
            obtain ⟨b2, o2, rfl, g2⟩ := HRp.out k cc hc.out
            have SCf := Lib.hid (fun W => ShownCell_c f.1 f.2 cc W)
            rw [hsc] at SCf
            have HX := Lib.hid hx
            clear HPp HRp hsc hx
            go_wp2_with fail
            go_region_held3 (fun w' => w'.cell? ⟨b1, o1 + k * 2, none⟩ = some (.int .i64 f.1) ∧ w'.cell? ⟨b1, o1 + k * 2 + 1, none⟩ = some (.int .i64 f.2) ∧ w'.cell? ⟨b2, o2 + k, none⟩ = some (.int .i64 cc))
              (first | go_keep | (go_split_ands; exact ⟨cell_later ‹_› ‹_›, cell_later ‹_› ‹_›, cell_later ‹_› ‹_›⟩))
              (first | (go_at_call 21; refine (SCf.out _).mono ?_; rintro e wa ⟨rfl, hba⟩))
            have HBa := Lib.hid (Below.chain HBr.out.drew hba)
            clear hba SCf g0 g1 g2
            obtain ⟨az, cz, ez, _, _, H15p⟩ := (H15.out.below HBa.out).parts
            cases ez
            obtain ⟨b3, o3, rfl, g3⟩ := H15p.out k x HX.out
            clear H15p
            go_wp2
            go_roundw
            case rel => exact ⟨k + 1, by omega, by go_num, HBa⟩
            case measure => simp [intOf]; omega
          · have hdk : decide ((k : Int) < (r.length : Int)) = false := by simp; omega
            rename World => wo
            have BL := Lib.hid (Below.chain BX.out HBr.out)
            have Z19 := Lib.hid (X19.out.below HBr.out)
            have Z20 := Lib.hid (X20.out.below HBr.out)
            have Z21 := Lib.hid (X21.out.below HBr.out)
            cases one with
            | false =>
              go_wp2
              go_ret
              exact ⟨rfl, BL.out⟩
            | true =>
              obtain ⟨j1, j2, j3⟩ := HJ.out (by trivial)
              have hor1 : (jx != bits .or .i64 ja jc) = false := by rw [j2]; unfold orI; simp
              have hor2 : (jy != bits .or .i64 jb jd) = false := by rw [j3]; unfold orI; simp
              have HJ1 := Lib.hid j1
              clear j1 j2 j3
              obtain ⟨q0a, q0b, _, _⟩ := Z21.out.two'
              have CI := Lib.hid (IsFault_c jx jy wo)
              rw [HJ1.out] at CI
              go_wp2_with fail
              refine CI.out.mono ?_
              rintro e wq ⟨rfl, hbq⟩
              have BQ := Lib.hid (Below.chain BL.out hbq)
              have Y21 := Lib.hid (Z21.out.below hbq)
              have Y19 := Lib.hid (Z19.out.below hbq)
              have Y20 := Lib.hid (Z20.out.below hbq)
              clear hbq CI q0a q0b
              obtain ⟨q0a, q0b, _, _⟩ := Y21.out.two'
              obtain ⟨q1a, q1b, _, _⟩ := Y19.out.two'
              obtain ⟨q2a, q2b, _, _⟩ := Y20.out.two'
              go_wp2
              go_ret
              exact ⟨rfl, BQ.out⟩
  | true =>
    as_aux_lemma =>
      simp only [if_true, Bool.true_and] at SC1 SC2 TF1 TF2
      generalize hout : (if cb = true then shC d l c0 else 0) = out at *
      have HOUT := Lib.hid hout
      clear hout
      have al1 := Lib.hid (below_one (w := w1) (.cells #[.int .i64 d, .int .i64 l] 42))
      replace BX := Lib.hid (Below.alc BX.out (.cells #[.int .i64 d, .int .i64 l] 42))
      replace HK := Lib.hid (HK.out.below al1.out)
      have X3 := Lib.hid (Bk.new w1 42 #[.int .i64 d, .int .i64 l])
      clear al1
      obtain ⟨q0a, q0b, _, _⟩ := X3.out.two'
      go_wp2_with fail
      refine (SC1.out _).mono ?_
      rintro e w2 ⟨rfl, hb2⟩
      replace BX := Lib.hid (Below.chain BX.out hb2)
      replace HK := Lib.hid (HK.out.below hb2)
      replace X3 := Lib.hid (X3.out.below hb2)
      clear hb2
      clear q0a q0b
      obtain ⟨q0a, q0b, _, _⟩ := X3.out.two'
      go_wp2_with fail
      refine (SC2.out _).mono ?_
      rintro e w3 ⟨rfl, hb3⟩
      replace BX := Lib.hid (Below.chain BX.out hb3)
      replace HK := Lib.hid (HK.out.below hb3)
      replace X3 := Lib.hid (X3.out.below hb3)
      clear hb3
      clear q0a q0b
      obtain ⟨q0a, q0b, _, _⟩ := X3.out.two'
      go_wp2_with fail
      refine (TF1.out _).mono ?_
      rintro e w4 ⟨rfl, hb4⟩
      replace BX := Lib.hid (Below.chain BX.out hb4)
      replace HK := Lib.hid (HK.out.below hb4)
      replace X3 := Lib.hid (X3.out.below hb4)
      clear hb4
      clear q0a q0b
      have al1 := Lib.hid (below_one (w := w4) (.cells #[.int .i64 (mvC true d), .int .i64 (mvC true l)] 42))
      replace BX := Lib.hid (Below.alc BX.out (.cells #[.int .i64 (mvC true d), .int .i64 (mvC true l)] 42))
      replace HK := Lib.hid (HK.out.below al1.out)
      replace X3 := Lib.hid (X3.out.below al1.out)
      have X9 := Lib.hid (Bk.new w4 42 #[.int .i64 (mvC true d), .int .i64 (mvC true l)])
      clear al1
      obtain ⟨q0a, q0b, _, _⟩ := X3.out.two'
      go_wp2_with fail
      refine (TF2.out _).mono ?_
      rintro e w5 ⟨rfl, hb5⟩
      replace BX := Lib.hid (Below.chain BX.out hb5)
      replace HK := Lib.hid (HK.out.below hb5)
      replace X3 := Lib.hid (X3.out.below hb5)
      replace X9 := Lib.hid (X9.out.below hb5)
      clear hb5
      clear q0a q0b
      have al1 := Lib.hid (below_one (w := w5) (.cells #[.int .i64 (mvC true d), .int .i64 (mvC true l)] 42))
      replace BX := Lib.hid (Below.alc BX.out (.cells #[.int .i64 (mvC true d), .int .i64 (mvC true l)] 42))
      replace HK := Lib.hid (HK.out.below al1.out)
      replace X3 := Lib.hid (X3.out.below al1.out)
      replace X9 := Lib.hid (X9.out.below al1.out)
      have X11 := Lib.hid (Bk.new w5 42 #[.int .i64 (mvC true d), .int .i64 (mvC true l)])
      clear al1
      go_wp2_with fail
      refine (vCut_c 1 _ xs _ HK.out (by omega) (by decide)).mono ?_
      rintro e w6 ⟨vc1, ys1, rfl, hcy, _, hb6⟩
      replace BX := Lib.hid (Below.chain BX.out hb6)
      replace HK := Lib.hid (HK.out.below hb6)
      replace X3 := Lib.hid (X3.out.below hb6)
      replace X9 := Lib.hid (X9.out.below hb6)
      replace X11 := Lib.hid (X11.out.below hb6)
      have HY := Lib.hid (hcy)
      clear hb6
      clear hcy
      go_wp2_with fail
      refine (DrawShownRow_c _ ys1 _ HY.out).mono ?_
      rintro e w7 ⟨v13, v14, ps, r, rfl, _, hr7, hi1, hi2, hb7⟩
      replace BX := Lib.hid (Below.chain BX.out hb7)
      replace HK := Lib.hid (HK.out.below hb7)
      replace X3 := Lib.hid (X3.out.below hb7)
      replace X9 := Lib.hid (X9.out.below hb7)
      replace X11 := Lib.hid (X11.out.below hb7)
      replace HY := Lib.hid (HY.out.below hb7)
      have HPs := Lib.hid (hi1)
      have HR := Lib.hid (hi2)
      clear hb7
      clear hi1 hi2
      clear HY
      go_wp2_with fail
      refine (ShownRow_c _ _ ps r _ HPs.out HR.out).mono ?_
      rintro e w8 ⟨u15, rfl, ho, hb8⟩
      replace BX := Lib.hid (Below.chain BX.out hb8)
      replace HK := Lib.hid (HK.out.below hb8)
      replace X3 := Lib.hid (X3.out.below hb8)
      replace X9 := Lib.hid (X9.out.below hb8)
      replace X11 := Lib.hid (X11.out.below hb8)
      replace HPs := Lib.hid (HPs.out.below hb8)
      replace HR := Lib.hid (HR.out.below hb8)
      have H15 := Lib.hid (Ints.of_own ho)
      clear hb8
      clear ho
      go_wp2_with fail
      refine (sShownRow_c _ _ ps r _ HPs.out HR.out).mono ?_
      rintro e w9 ⟨u17, rfl, ho, hb9⟩
      replace BX := Lib.hid (Below.chain BX.out hb9)
      replace HK := Lib.hid (HK.out.below hb9)
      replace X3 := Lib.hid (X3.out.below hb9)
      replace X9 := Lib.hid (X9.out.below hb9)
      replace X11 := Lib.hid (X11.out.below hb9)
      replace HPs := Lib.hid (HPs.out.below hb9)
      replace HR := Lib.hid (HR.out.below hb9)
      replace H15 := Lib.hid (H15.out.below hb9)
      have H17 := Lib.hid (Ints.of_own ho)
      clear hb9
      clear ho
      go_wp2_with fail
      refine (vCut_c 2 _ xs _ HK.out (by omega) (by decide)).mono ?_
      rintro e w10 ⟨vc2, ys2, rfl, hcy, _, hb10⟩
      replace BX := Lib.hid (Below.chain BX.out hb10)
      replace HK := Lib.hid (HK.out.below hb10)
      replace X3 := Lib.hid (X3.out.below hb10)
      replace X9 := Lib.hid (X9.out.below hb10)
      replace X11 := Lib.hid (X11.out.below hb10)
      replace HPs := Lib.hid (HPs.out.below hb10)
      replace HR := Lib.hid (HR.out.below hb10)
      replace H15 := Lib.hid (H15.out.below hb10)
      replace H17 := Lib.hid (H17.out.below hb10)
      have HY := Lib.hid (hcy)
      clear hb10
      clear hcy
      clear HK
      go_wp2_with fail
      refine (DrawJoinFaults_c _ ys2 _ HY.out).mono ?_
      rintro e w11 ⟨ja, jb, jc, jd, rfl, hb11⟩
      replace BX := Lib.hid (Below.chain BX.out hb11)
      replace X3 := Lib.hid (X3.out.below hb11)
      replace X9 := Lib.hid (X9.out.below hb11)
      replace X11 := Lib.hid (X11.out.below hb11)
      replace HPs := Lib.hid (HPs.out.below hb11)
      replace HR := Lib.hid (HR.out.below hb11)
      replace H15 := Lib.hid (H15.out.below hb11)
      replace H17 := Lib.hid (H17.out.below hb11)
      replace HY := Lib.hid (HY.out.below hb11)
      clear hb11
      clear HY
      have al1 := Lib.hid (below_one (w := w11) (.cells #[.int .i64 ja, .int .i64 jb] 42))
      replace BX := Lib.hid (Below.alc BX.out (.cells #[.int .i64 ja, .int .i64 jb] 42))
      replace X3 := Lib.hid (X3.out.below al1.out)
      replace X9 := Lib.hid (X9.out.below al1.out)
      replace X11 := Lib.hid (X11.out.below al1.out)
      replace HPs := Lib.hid (HPs.out.below al1.out)
      replace HR := Lib.hid (HR.out.below al1.out)
      replace H15 := Lib.hid (H15.out.below al1.out)
      replace H17 := Lib.hid (H17.out.below al1.out)
      have X19 := Lib.hid (Bk.new w11 42 #[.int .i64 ja, .int .i64 jb])
      clear al1
      have al1 := Lib.hid (below_one (w := (w11.alloc (.cells #[.int .i64 ja, .int .i64 jb] 42))) (.cells #[.int .i64 jc, .int .i64 jd] 42))
      replace BX := Lib.hid (Below.alc BX.out (.cells #[.int .i64 jc, .int .i64 jd] 42))
      replace X3 := Lib.hid (X3.out.below al1.out)
      replace X9 := Lib.hid (X9.out.below al1.out)
      replace X11 := Lib.hid (X11.out.below al1.out)
      replace HPs := Lib.hid (HPs.out.below al1.out)
      replace HR := Lib.hid (HR.out.below al1.out)
      replace H15 := Lib.hid (H15.out.below al1.out)
      replace H17 := Lib.hid (H17.out.below al1.out)
      replace X19 := Lib.hid (X19.out.below al1.out)
      have X20 := Lib.hid (Bk.new (w11.alloc (.cells #[.int .i64 ja, .int .i64 jb] 42)) 42 #[.int .i64 jc, .int .i64 jd])
      simp only [World.size_alloc] at X20
      clear al1
      have JF1 := fun W => JoinFaults_c ja jb jc jd W
      have JF2 := fun W => sJoinFaults_c ja jb jc jd W
      have HJ0 : jfOk ja jb jc jd = true → faultB (if jfOk ja jb jc jd = true then orI ja jc else 0) (if jfOk ja jb jc jd = true then orI jb jd else 0) = true ∧ (if jfOk ja jb jc jd = true then orI ja jc else 0) = orI ja jc ∧ (if jfOk ja jb jc jd = true then orI jb jd else 0) = orI jb jd := fun h => by
        rw [if_pos h, if_pos h]
        refine ⟨?_, rfl, rfl⟩
        unfold jfOk at h
        simp only [Bool.and_eq_true] at h
        exact h.2.2
      unfold jfV at JF1 JF2
      replace JF1 := Lib.hid JF1
      replace JF2 := Lib.hid JF2
      have HJ := Lib.hid HJ0
      clear HJ0
      generalize (if jfOk ja jb jc jd = true then orI ja jc else 0) = jx at *
      generalize (if jfOk ja jb jc jd = true then orI jb jd else 0) = jy at *
      generalize jfOk ja jb jc jd = one at *
      obtain ⟨q0a, q0b, _, _⟩ := X19.out.two'
      obtain ⟨q1a, q1b, _, _⟩ := X20.out.two'
      go_wp2_with fail
      refine (JF1.out _).mono ?_
      rintro e w12 ⟨rfl, hb12⟩
      replace BX := Lib.hid (Below.chain BX.out hb12)
      replace X3 := Lib.hid (X3.out.below hb12)
      replace X9 := Lib.hid (X9.out.below hb12)
      replace X11 := Lib.hid (X11.out.below hb12)
      replace HPs := Lib.hid (HPs.out.below hb12)
      replace HR := Lib.hid (HR.out.below hb12)
      replace H15 := Lib.hid (H15.out.below hb12)
      replace H17 := Lib.hid (H17.out.below hb12)
      replace X19 := Lib.hid (X19.out.below hb12)
      replace X20 := Lib.hid (X20.out.below hb12)
      clear hb12
      clear q0a q0b q1a q1b
      have al1 := Lib.hid (below_one (w := w12) (.cells #[.int .i64 jx, .int .i64 jy] 42))
      replace BX := Lib.hid (Below.alc BX.out (.cells #[.int .i64 jx, .int .i64 jy] 42))
      replace X3 := Lib.hid (X3.out.below al1.out)
      replace X9 := Lib.hid (X9.out.below al1.out)
      replace X11 := Lib.hid (X11.out.below al1.out)
      replace HPs := Lib.hid (HPs.out.below al1.out)
      replace HR := Lib.hid (HR.out.below al1.out)
      replace H15 := Lib.hid (H15.out.below al1.out)
      replace H17 := Lib.hid (H17.out.below al1.out)
      replace X19 := Lib.hid (X19.out.below al1.out)
      replace X20 := Lib.hid (X20.out.below al1.out)
      have X21 := Lib.hid (Bk.new w12 42 #[.int .i64 jx, .int .i64 jy])
      clear al1
      obtain ⟨q0a, q0b, _, _⟩ := X19.out.two'
      obtain ⟨q1a, q1b, _, _⟩ := X20.out.two'
      go_wp2_with fail
      refine (JF2.out _).mono ?_
      rintro e w13 ⟨rfl, hb13⟩
      replace BX := Lib.hid (Below.chain BX.out hb13)
      replace X3 := Lib.hid (X3.out.below hb13)
      replace X9 := Lib.hid (X9.out.below hb13)
      replace X11 := Lib.hid (X11.out.below hb13)
      replace HPs := Lib.hid (HPs.out.below hb13)
      replace HR := Lib.hid (HR.out.below hb13)
      replace H15 := Lib.hid (H15.out.below hb13)
      replace H17 := Lib.hid (H17.out.below hb13)
      replace X19 := Lib.hid (X19.out.below hb13)
      replace X20 := Lib.hid (X20.out.below hb13)
      replace X21 := Lib.hid (X21.out.below hb13)
      clear hb13
      clear q0a q0b q1a q1b
      have al1 := Lib.hid (below_one (w := w13) (.cells #[.int .i64 jx, .int .i64 jy] 42))
      replace BX := Lib.hid (Below.alc BX.out (.cells #[.int .i64 jx, .int .i64 jy] 42))
      replace X3 := Lib.hid (X3.out.below al1.out)
      replace X9 := Lib.hid (X9.out.below al1.out)
      replace X11 := Lib.hid (X11.out.below al1.out)
      replace HPs := Lib.hid (HPs.out.below al1.out)
      replace HR := Lib.hid (HR.out.below al1.out)
      replace H15 := Lib.hid (H15.out.below al1.out)
      replace H17 := Lib.hid (H17.out.below al1.out)
      replace X19 := Lib.hid (X19.out.below al1.out)
      replace X20 := Lib.hid (X20.out.below al1.out)
      replace X21 := Lib.hid (X21.out.below al1.out)
      have X23 := Lib.hid (Bk.new w13 42 #[.int .i64 jx, .int .i64 jy])
      clear al1
      have hsl := fun (h : areB ps r = true) => srL_len h
      have hsa := fun (h : areB ps r = true) (k : Nat) (f : Int × Int) (c : Int) (hf : ps[k]? = some f) (hc : r[k]? = some c) => srL_at h hf hc
      have hal := fun (h : areB ps r = true) => areB_len h
      have HSL := Lib.hid hsl
      have HSA := Lib.hid hsa
      have HAL := Lib.hid hal
      clear hsl hsa hal
      generalize srL ps r = S at *
      generalize areB ps r = there at *
      obtain ⟨x3a, x3b, _, _⟩ := X3.out.two'
      obtain ⟨x9a, x9b, _, _⟩ := X9.out.two'
      obtain ⟨x11a, x11b, _, _⟩ := X11.out.two'
      obtain ⟨x21a, x21b, _, _⟩ := X21.out.two'
      obtain ⟨x23a, x23b, _, _⟩ := X23.out.two'
      go_wp2_with fail
      generalize hw0 : (w13.alloc (.cells #[.int .i64 jx, .int .i64 jy] 42)) = w0 at *
      clear hw0
      refine wp_region_noPanic ?_
      refine wp_region_held_drew (S := fun w' : World => w'.cell? ⟨w1.heap.size, 0, none⟩ = some (.int .i64 (d)) ∧ w'.cell? ⟨w1.heap.size, 1, none⟩ = some (.int .i64 (l)) ∧ w'.cell? ⟨w4.heap.size, 0, none⟩ = some (.int .i64 (mvC true d)) ∧ w'.cell? ⟨w4.heap.size, 1, none⟩ = some (.int .i64 (mvC true l)) ∧ w'.cell? ⟨w5.heap.size, 0, none⟩ = some (.int .i64 (mvC true d)) ∧ w'.cell? ⟨w5.heap.size, 1, none⟩ = some (.int .i64 (mvC true l)) ∧ w'.cell? ⟨w12.heap.size, 0, none⟩ = some (.int .i64 (jx)) ∧ w'.cell? ⟨w12.heap.size, 1, none⟩ = some (.int .i64 (jy)) ∧ w'.cell? ⟨w13.heap.size, 0, none⟩ = some (.int .i64 (jx)) ∧ w'.cell? ⟨w13.heap.size, 1, none⟩ = some (.int .i64 (jy)) ∧ Below w0.heap.size w0 w') (by kernel_rfl) ⟨x3a, x3b, x9a, x9b, x11a, x11b, x21a, x21b, x23a, x23b, (Below.refl _ _).drew⟩ (fun hHeld => ?_)
      refine' wpAnyH_take (i := 0) (oi := _) (v := _) ?e_62 ?a_62 ?b_62 ?c_62 ?q_62 ?y_62 hHeld ?r_62
      case e_62 => (simp only [List.getElem?_toArray, List.getElem?_cons_zero, List.getElem?_cons_succ]; exact rfl)
      case a_62 => kernel_rfl
      case b_62 => kernel_rfl
      case c_62 => kernel_rfl
      case q_62 => exact fun _ _ _ h => h
      case y_62 => exact Or.inl ⟨by rfl, by (intro w hSw; (try dsimp only at hSw); go_simp; first | done | with_reducible rfl)⟩
      try simp only [Act.put, List.setIfInBounds_toArray, List.set_cons_zero, List.set_cons_succ]
      refine' wpAnyH_take (i := 1) (oi := _) (v := _) ?e_63 ?a_63 ?b_63 ?c_63 ?q_63 ?y_63 hHeld ?r_63
      case e_63 => (simp only [List.getElem?_toArray, List.getElem?_cons_zero, List.getElem?_cons_succ]; exact rfl)
      case a_63 => kernel_rfl
      case b_63 => kernel_rfl
      case c_63 => kernel_rfl
      case q_63 => exact fun _ _ _ h => h
      case y_63 => exact Or.inl ⟨by rfl, by (intro w hSw; (try dsimp only at hSw); go_simp; first | done | with_reducible rfl)⟩
      try simp only [Act.put, List.setIfInBounds_toArray, List.set_cons_zero, List.set_cons_succ]
      refine' wpAnyH_take (i := 2) (oi := _) (v := _) ?e_64 ?a_64 ?b_64 ?c_64 ?q_64 ?y_64 hHeld ?r_64
      case e_64 => (simp only [List.getElem?_toArray, List.getElem?_cons_zero, List.getElem?_cons_succ]; exact rfl)
      case a_64 => kernel_rfl
      case b_64 => kernel_rfl
      case c_64 => kernel_rfl
      case q_64 => exact fun _ _ _ h => h
      case y_64 => exact Or.inl ⟨by rfl, by (intro w hSw; (try dsimp only at hSw); go_simp; first | done | with_reducible rfl)⟩
      try simp only [Act.put, List.setIfInBounds_toArray, List.set_cons_zero, List.set_cons_succ]
      refine' wpAnyH_take (i := 3) (oi := _) (v := _) ?e_65 ?a_65 ?b_65 ?c_65 ?q_65 ?y_65 hHeld ?r_65
      case e_65 => (simp only [List.getElem?_toArray, List.getElem?_cons_zero, List.getElem?_cons_succ]; exact rfl)
      case a_65 => kernel_rfl
      case b_65 => kernel_rfl
      case c_65 => kernel_rfl
      case q_65 => exact fun _ _ _ h => h
      case y_65 => exact Or.inl ⟨by rfl, by (intro w hSw; (try dsimp only at hSw); go_simp; first | done | with_reducible rfl)⟩
      try simp only [Act.put, List.setIfInBounds_toArray, List.set_cons_zero, List.set_cons_succ]
      refine' wpAnyH_take (i := 4) (oi := _) (v := _) ?e_66 ?a_66 ?b_66 ?c_66 ?q_66 ?y_66 hHeld ?r_66
      case e_66 => (simp only [List.getElem?_toArray, List.getElem?_cons_zero, List.getElem?_cons_succ]; exact rfl)
      case a_66 => kernel_rfl
      case b_66 => kernel_rfl
      case c_66 => kernel_rfl
      case q_66 => exact fun _ _ _ h => h
      case y_66 => exact Or.inl ⟨by rfl, by (intro w hSw; (try dsimp only at hSw); go_simp; first | done | with_reducible rfl)⟩
      try simp only [Act.put, List.setIfInBounds_toArray, List.set_cons_zero, List.set_cons_succ]
      refine' wpAnyH_take (i := 5) (oi := _) (v := _) ?e_67 ?a_67 ?b_67 ?c_67 ?q_67 ?y_67 hHeld ?r_67
      case e_67 => (simp only [List.getElem?_toArray, List.getElem?_cons_zero, List.getElem?_cons_succ]; exact rfl)
      case a_67 => kernel_rfl
      case b_67 => kernel_rfl
      case c_67 => kernel_rfl
      case q_67 => exact fun _ _ _ h => h
      case y_67 => exact Or.inl ⟨by rfl, by (intro w hSw; (try dsimp only at hSw); go_simp; first | done | with_reducible rfl)⟩
      try simp only [Act.put, List.setIfInBounds_toArray, List.set_cons_zero, List.set_cons_succ]
      refine' wpAnyH_take (i := 6) (oi := _) (v := _) ?e_68 ?a_68 ?b_68 ?c_68 ?q_68 ?y_68 hHeld ?r_68
      case e_68 => (simp only [List.getElem?_toArray, List.getElem?_cons_zero, List.getElem?_cons_succ]; exact rfl)
      case a_68 => kernel_rfl
      case b_68 => kernel_rfl
      case c_68 => kernel_rfl
      case q_68 => exact fun _ _ _ h => h
      case y_68 => exact Or.inl ⟨by rfl, by (intro w hSw; (try dsimp only at hSw); go_simp; first | done | with_reducible rfl)⟩
      try simp only [Act.put, List.setIfInBounds_toArray, List.set_cons_zero, List.set_cons_succ]
      refine' wpAnyH_take (i := 7) (oi := _) (v := _) ?e_69 ?a_69 ?b_69 ?c_69 ?q_69 ?y_69 hHeld ?r_69
      case e_69 => (simp only [List.getElem?_toArray, List.getElem?_cons_zero, List.getElem?_cons_succ]; exact rfl)
      case a_69 => kernel_rfl
      case b_69 => kernel_rfl
      case c_69 => kernel_rfl
      case q_69 => exact fun _ _ _ h => h
      case y_69 => exact Or.inl ⟨by rfl, by (intro w hSw; (try dsimp only at hSw); go_simp; first | done | with_reducible rfl)⟩
      try simp only [Act.put, List.setIfInBounds_toArray, List.set_cons_zero, List.set_cons_succ]
      refine' wpAnyH_take (i := 8) (oi := _) (v := _) ?e_70 ?a_70 ?b_70 ?c_70 ?q_70 ?y_70 hHeld ?r_70
      case e_70 => (simp only [List.getElem?_toArray, List.getElem?_cons_zero, List.getElem?_cons_succ]; exact rfl)
      case a_70 => kernel_rfl
      case b_70 => kernel_rfl
      case c_70 => kernel_rfl
      case q_70 => exact fun _ _ _ h => h
      case y_70 => exact Or.inl ⟨by rfl, by (intro w hSw; (try dsimp only at hSw); go_simp; first | done | with_reducible rfl)⟩
      try simp only [Act.put, List.setIfInBounds_toArray, List.set_cons_zero, List.set_cons_succ]
      refine' wpAnyH_take (i := 9) (oi := _) (v := _) ?e_71 ?a_71 ?b_71 ?c_71 ?q_71 ?y_71 hHeld ?r_71
      case e_71 => (simp only [List.getElem?_toArray, List.getElem?_cons_zero, List.getElem?_cons_succ]; exact rfl)
      case a_71 => kernel_rfl
      case b_71 => kernel_rfl
      case c_71 => kernel_rfl
      case q_71 => exact fun _ _ _ h => h
      case y_71 => exact Or.inl ⟨by rfl, by (intro w hSw; (try dsimp only at hSw); go_simp; first | done | with_reducible rfl)⟩
      try simp only [Act.put, List.setIfInBounds_toArray, List.set_cons_zero, List.set_cons_succ]
      refine' wpAnyH_take (i := 10) (oi := _) (v := _) ?e_72 ?a_72 ?b_72 ?c_72 ?q_72 ?y_72 hHeld ?r_72
      case e_72 => (simp only [List.getElem?_toArray, List.getElem?_cons_zero, List.getElem?_cons_succ]; exact rfl)
      case a_72 => kernel_rfl
      case b_72 => kernel_rfl
      case c_72 => kernel_rfl
      case q_72 => exact fun _ _ _ h => h
      case y_72 => exact Or.inl ⟨by rfl, by (intro w hSw; (try dsimp only at hSw); go_simp; first | done | with_reducible rfl)⟩
      try simp only [Act.put, List.setIfInBounds_toArray, List.set_cons_zero, List.set_cons_succ]
      refine' wpAnyH_take (i := 11) (oi := _) (v := _) ?e_73 ?a_73 ?b_73 ?c_73 ?q_73 ?y_73 hHeld ?r_73
      case e_73 => (simp only [List.getElem?_toArray, List.getElem?_cons_zero, List.getElem?_cons_succ]; exact rfl)
      case a_73 => kernel_rfl
      case b_73 => kernel_rfl
      case c_73 => kernel_rfl
      case q_73 => exact fun _ _ _ h => h
      case y_73 => exact Or.inl ⟨by rfl, by (intro w hSw; (try dsimp only at hSw); go_simp; first | done | with_reducible rfl)⟩
      try simp only [Act.put, List.setIfInBounds_toArray, List.set_cons_zero, List.set_cons_succ]
      refine' wpAnyH_take (i := 12) (oi := _) (v := _) ?e_74 ?a_74 ?b_74 ?c_74 ?q_74 ?y_74 hHeld ?r_74
      case e_74 => (simp only [List.getElem?_toArray, List.getElem?_cons_zero, List.getElem?_cons_succ]; exact rfl)
      case a_74 => kernel_rfl
      case b_74 => kernel_rfl
      case c_74 => kernel_rfl
      case q_74 => exact fun _ _ _ h => h
      case y_74 => exact Or.inl ⟨by rfl, by (intro w hSw; (try dsimp only at hSw); go_simp; first | done | with_reducible rfl)⟩
      try simp only [Act.put, List.setIfInBounds_toArray, List.set_cons_zero, List.set_cons_succ]
      refine' wpAnyH_take (i := 13) (oi := _) (v := _) ?e_75 ?a_75 ?b_75 ?c_75 ?q_75 ?y_75 hHeld ?r_75
      case e_75 => (simp only [List.getElem?_toArray, List.getElem?_cons_zero, List.getElem?_cons_succ]; exact rfl)
      case a_75 => kernel_rfl
      case b_75 => kernel_rfl
      case c_75 => kernel_rfl
      case q_75 => exact fun _ _ _ h => h
      case y_75 => exact Or.inl ⟨by rfl, by (intro w hSw; (try dsimp only at hSw); go_simp; first | done | with_reducible rfl)⟩
      try simp only [Act.put, List.setIfInBounds_toArray, List.set_cons_zero, List.set_cons_succ]
      refine' wpAnyH_take (i := 14) (oi := _) (v := _) ?e_76 ?a_76 ?b_76 ?c_76 ?q_76 ?y_76 hHeld ?r_76
      case e_76 => (simp only [List.getElem?_toArray, List.getElem?_cons_zero, List.getElem?_cons_succ]; exact rfl)
      case a_76 => kernel_rfl
      case b_76 => kernel_rfl
      case c_76 => kernel_rfl
      case q_76 => exact fun _ _ _ h => h
      case y_76 => exact Or.inl ⟨by rfl, by (intro w hSw; (try dsimp only at hSw); go_simp; first | done | with_reducible rfl)⟩
      try simp only [Act.put, List.setIfInBounds_toArray, List.set_cons_zero, List.set_cons_succ]
      refine' wpAnyH_take (i := 15) (oi := _) (v := _) ?e_77 ?a_77 ?b_77 ?c_77 ?q_77 ?y_77 hHeld ?r_77
      case e_77 => (simp only [List.getElem?_toArray, List.getElem?_cons_zero, List.getElem?_cons_succ]; exact rfl)
      case a_77 => kernel_rfl
      case b_77 => kernel_rfl
      case c_77 => kernel_rfl
      case q_77 => exact fun _ _ _ h => h
      case y_77 => exact Or.inl ⟨by rfl, by (intro w hSw; (try dsimp only at hSw); go_simp; first | done | with_reducible rfl)⟩
      try simp only [Act.put, List.setIfInBounds_toArray, List.set_cons_zero, List.set_cons_succ]
      refine' wpAnyH_take (i := 16) (oi := _) (v := _) ?e_78 ?a_78 ?b_78 ?c_78 ?q_78 ?y_78 hHeld ?r_78
      case e_78 => (simp only [List.getElem?_toArray, List.getElem?_cons_zero, List.getElem?_cons_succ]; exact rfl)
      case a_78 => kernel_rfl
      case b_78 => kernel_rfl
      case c_78 => kernel_rfl
      case q_78 => exact fun _ _ _ h => h
      case y_78 => exact Or.inl ⟨by rfl, by (intro w hSw; (try dsimp only at hSw); go_simp; first | done | with_reducible rfl)⟩
      try simp only [Act.put, List.setIfInBounds_toArray, List.set_cons_zero, List.set_cons_succ]
      refine' wpAnyH_take (i := 17) (oi := _) (v := _) ?e_79 ?a_79 ?b_79 ?c_79 ?q_79 ?y_79 hHeld ?r_79
      case e_79 => (simp only [List.getElem?_toArray, List.getElem?_cons_zero, List.getElem?_cons_succ]; exact rfl)
      case a_79 => kernel_rfl
      case b_79 => kernel_rfl
      case c_79 => kernel_rfl
      case q_79 => exact fun _ _ _ h => h
      case y_79 => exact Or.inl ⟨by rfl, by (intro w hSw; (try dsimp only at hSw); go_simp; first | done | with_reducible rfl)⟩
      try simp only [Act.put, List.setIfInBounds_toArray, List.set_cons_zero, List.set_cons_succ]
      refine' wpAnyH_take (i := 18) (oi := _) (v := _) ?e_80 ?a_80 ?b_80 ?c_80 ?q_80 ?y_80 hHeld ?r_80
      case e_80 => (simp only [List.getElem?_toArray, List.getElem?_cons_zero, List.getElem?_cons_succ]; exact rfl)
      case a_80 => kernel_rfl
      case b_80 => kernel_rfl
      case c_80 => kernel_rfl
      case q_80 => exact fun _ _ _ h => h
      case y_80 => exact Or.inl ⟨by rfl, by (intro w hSw; (try dsimp only at hSw); go_simp; first | done | with_reducible rfl)⟩
      try simp only [Act.put, List.setIfInBounds_toArray, List.set_cons_zero, List.set_cons_succ]
      refine' wpAnyH_take (i := 19) (oi := _) (v := _) ?e_81 ?a_81 ?b_81 ?c_81 ?q_81 ?y_81 hHeld ?r_81
      case e_81 => (simp only [List.getElem?_toArray, List.getElem?_cons_zero, List.getElem?_cons_succ]; exact rfl)
      case a_81 => kernel_rfl
      case b_81 => kernel_rfl
      case c_81 => kernel_rfl
      case q_81 => exact fun _ _ _ h => h
      case y_81 => exact Or.inl ⟨by rfl, by (intro w hSw; (try dsimp only at hSw); go_simp; first | done | with_reducible rfl)⟩
      try simp only [Act.put, List.setIfInBounds_toArray, List.set_cons_zero, List.set_cons_succ]
      refine' wpAnyH_take (i := 20) (oi := _) (v := _) ?e_82 ?a_82 ?b_82 ?c_82 ?q_82 ?y_82 hHeld ?r_82
      case e_82 => (simp only [List.getElem?_toArray, List.getElem?_cons_zero, List.getElem?_cons_succ]; exact rfl)
      case a_82 => kernel_rfl
      case b_82 => kernel_rfl
      case c_82 => kernel_rfl
      case q_82 => exact fun _ _ _ h => h
      case y_82 => exact Or.inl ⟨by rfl, by (intro w hSw; (try dsimp only at hSw); go_simp; first | done | with_reducible rfl)⟩
      try simp only [Act.put, List.setIfInBounds_toArray, List.set_cons_zero, List.set_cons_succ]
      refine' wpAnyH_take (i := 21) (oi := _) (v := _) ?e_83 ?a_83 ?b_83 ?c_83 ?q_83 ?y_83 hHeld ?r_83
      case e_83 => (simp only [List.getElem?_toArray, List.getElem?_cons_zero, List.getElem?_cons_succ]; exact rfl)
      case a_83 => kernel_rfl
      case b_83 => kernel_rfl
      case c_83 => kernel_rfl
      case q_83 => exact fun _ _ _ h => h
      case y_83 => exact Or.inl ⟨by rfl, by (intro w hSw; (try dsimp only at hSw); go_simp; first | done | with_reducible rfl)⟩
      try simp only [Act.put, List.setIfInBounds_toArray, List.set_cons_zero, List.set_cons_succ]
      refine' wpAnyH_take (i := 22) (oi := _) (v := _) ?e_84 ?a_84 ?b_84 ?c_84 ?q_84 ?y_84 hHeld ?r_84
      case e_84 => (simp only [List.getElem?_toArray, List.getElem?_cons_zero, List.getElem?_cons_succ]; exact rfl)
      case a_84 => kernel_rfl
      case b_84 => kernel_rfl
      case c_84 => kernel_rfl
      case q_84 => exact fun _ _ _ h => h
      case y_84 => exact Or.inl ⟨by rfl, by (intro w hSw; (try dsimp only at hSw); go_simp; first | done | with_reducible rfl)⟩
      try simp only [Act.put, List.setIfInBounds_toArray, List.set_cons_zero, List.set_cons_succ]
      refine' wpAnyH_take (i := 23) (oi := _) (v := _) ?e_85 ?a_85 ?b_85 ?c_85 ?q_85 ?y_85 hHeld ?r_85
      case e_85 => (simp only [List.getElem?_toArray, List.getElem?_cons_zero, List.getElem?_cons_succ]; exact rfl)
      case a_85 => kernel_rfl
      case b_85 => kernel_rfl
      case c_85 => kernel_rfl
      case q_85 => exact fun _ _ _ h => h
      case y_85 => exact Or.inl ⟨by rfl, by (intro w hSw; (try dsimp only at hSw); go_simp; first | done | with_reducible rfl)⟩
      try simp only [Act.put, List.setIfInBounds_toArray, List.set_cons_zero, List.set_cons_succ]
      refine' wpAnyH_take (i := 24) (oi := _) (v := _) ?e_86 ?a_86 ?b_86 ?c_86 ?q_86 ?y_86 hHeld ?r_86
      case e_86 => (simp only [List.getElem?_toArray, List.getElem?_cons_zero, List.getElem?_cons_succ]; exact rfl)
      case a_86 => kernel_rfl
      case b_86 => kernel_rfl
      case c_86 => kernel_rfl
      case q_86 => exact fun _ _ _ h => h
      case y_86 => exact Or.inl ⟨by rfl, by (intro w hSw; (try dsimp only at hSw); go_simp; first | done | with_reducible rfl)⟩
      try simp only [Act.put, List.setIfInBounds_toArray, List.set_cons_zero, List.set_cons_succ]
      refine' wpAnyH_take (i := 25) (oi := _) (v := _) ?e_87 ?a_87 ?b_87 ?c_87 ?q_87 ?y_87 hHeld ?r_87
      case e_87 => (simp only [List.getElem?_toArray, List.getElem?_cons_zero, List.getElem?_cons_succ]; exact rfl)
      case a_87 => kernel_rfl
      case b_87 => kernel_rfl
      case c_87 => kernel_rfl
      case q_87 => exact fun _ _ _ h => h
      case y_87 => exact Or.inl ⟨by rfl, by (intro w hSw; (try dsimp only at hSw); go_simp; first | done | with_reducible rfl)⟩
      try simp only [Act.put, List.setIfInBounds_toArray, List.set_cons_zero, List.set_cons_succ]
      refine wpAnyH_ready (rs := [26]) (by kernel_rfl) (by simp) ?_
      refine' AllReadyH.cons (o := _) ?e_88 ?st_88 AllReadyH.nil
      case e_88 => (simp only [List.getElem?_toArray, List.getElem?_cons_zero, List.getElem?_cons_succ]; exact rfl)
      intro K hK
      go_simp
      obtain ⟨l0, l1, l2, l3, l4, l5, l6, l7, l8, l9, lB⟩ := hHeld
      refine (vIntsSame_c u15 u17 S _ (Ints.below H15.out lB) (Ints.below H17.out lB)).mono ?_
      rintro e c1 ⟨rfl, hb1⟩
      go_wp2_with fail
      refine hK.out _ _ ⟨cell_later hb1 l0, cell_later hb1 l1, cell_later hb1 l2, cell_later hb1 l3, cell_later hb1 l4, cell_later hb1 l5, cell_later hb1 l6, cell_later hb1 l7, cell_later hb1 l8, cell_later hb1 l9, chain_back hb1 lB⟩ (fun hHeld => ?_)
      clear l0 l1 l2 l3 l4 l5 l6 l7 l8 l9 lB hb1
      clear hK K
      try simp only [Act.put, List.setIfInBounds_toArray, List.set_cons_zero, List.set_cons_succ]
      refine' wpAnyH_take (i := 27) (oi := _) (v := _) ?e_89 ?a_89 ?b_89 ?c_89 ?q_89 ?y_89 hHeld ?r_89
      case e_89 => (simp only [List.getElem?_toArray, List.getElem?_cons_zero, List.getElem?_cons_succ]; exact rfl)
      case a_89 => kernel_rfl
      case b_89 => kernel_rfl
      case c_89 => kernel_rfl
      case q_89 => exact fun _ _ _ h => h
      case y_89 => exact Or.inl ⟨by rfl, by (intro w hSw; (try dsimp only at hSw); go_simp; first | done | with_reducible rfl)⟩
      try simp only [Act.put, List.setIfInBounds_toArray, List.set_cons_zero, List.set_cons_succ]
      refine' wpAnyH_take (i := 28) (oi := _) (v := _) ?e_90 ?a_90 ?b_90 ?c_90 ?q_90 ?y_90 hHeld ?r_90
      case e_90 => (simp only [List.getElem?_toArray, List.getElem?_cons_zero, List.getElem?_cons_succ]; exact rfl)
      case a_90 => kernel_rfl
      case b_90 => kernel_rfl
      case c_90 => kernel_rfl
      case q_90 => exact fun _ _ _ h => h
      case y_90 => exact Or.inl ⟨by rfl, by (intro w hSw; (try dsimp only at hSw); go_simp; first | done | with_reducible rfl)⟩
      try simp only [Act.put, List.setIfInBounds_toArray, List.set_cons_zero, List.set_cons_succ]
      refine' wpAnyH_take (i := 29) (oi := _) (v := _) ?e_91 ?a_91 ?b_91 ?c_91 ?q_91 ?y_91 hHeld ?r_91
      case e_91 => (simp only [List.getElem?_toArray, List.getElem?_cons_zero, List.getElem?_cons_succ]; exact rfl)
      case a_91 => kernel_rfl
      case b_91 => kernel_rfl
      case c_91 => kernel_rfl
      case q_91 => exact fun _ _ _ h => h
      case y_91 => exact Or.inl ⟨by rfl, by (intro w hSw; (try dsimp only at hSw); go_simp; first | done | with_reducible rfl)⟩
      try simp only [Act.put, List.setIfInBounds_toArray, List.set_cons_zero, List.set_cons_succ]
      refine' wpAnyH_take (i := 30) (oi := _) (v := _) ?e_92 ?a_92 ?b_92 ?c_92 ?q_92 ?y_92 hHeld ?r_92
      case e_92 => (simp only [List.getElem?_toArray, List.getElem?_cons_zero, List.getElem?_cons_succ]; exact rfl)
      case a_92 => kernel_rfl
      case b_92 => kernel_rfl
      case c_92 => kernel_rfl
      case q_92 => exact fun _ _ _ h => h
      case y_92 => exact Or.inl ⟨by rfl, by (intro w hSw; (try dsimp only at hSw); go_simp; first | done | with_reducible rfl)⟩
      try simp only [Act.put, List.setIfInBounds_toArray, List.set_cons_zero, List.set_cons_succ]
      refine' wpAnyH_take (i := 31) (oi := _) (v := _) ?e_93 ?a_93 ?b_93 ?c_93 ?q_93 ?y_93 hHeld ?r_93
      case e_93 => (simp only [List.getElem?_toArray, List.getElem?_cons_zero, List.getElem?_cons_succ]; exact rfl)
      case a_93 => kernel_rfl
      case b_93 => kernel_rfl
      case c_93 => kernel_rfl
      case q_93 => exact fun _ _ _ h => h
      case y_93 => exact Or.inl ⟨by rfl, by (intro w hSw; (try dsimp only at hSw); go_simp; first | done | with_reducible rfl)⟩
      try simp only [Act.put, List.setIfInBounds_toArray, List.set_cons_zero, List.set_cons_succ]
      refine' wpAnyH_take (i := 32) (oi := _) (v := _) ?e_94 ?a_94 ?b_94 ?c_94 ?q_94 ?y_94 hHeld ?r_94
      case e_94 => (simp only [List.getElem?_toArray, List.getElem?_cons_zero, List.getElem?_cons_succ]; exact rfl)
      case a_94 => kernel_rfl
      case b_94 => kernel_rfl
      case c_94 => kernel_rfl
      case q_94 => exact fun _ _ _ h => h
      case y_94 => exact Or.inl ⟨by rfl, by (intro w hSw; (try dsimp only at hSw); go_simp; first | done | with_reducible rfl)⟩
      try simp only [Act.put, List.setIfInBounds_toArray, List.set_cons_zero, List.set_cons_succ]
      refine' wpAnyH_take (i := 33) (oi := _) (v := _) ?e_95 ?a_95 ?b_95 ?c_95 ?q_95 ?y_95 hHeld ?r_95
      case e_95 => (simp only [List.getElem?_toArray, List.getElem?_cons_zero, List.getElem?_cons_succ]; exact rfl)
      case a_95 => kernel_rfl
      case b_95 => kernel_rfl
      case c_95 => kernel_rfl
      case q_95 => exact fun _ _ _ h => h
      case y_95 => exact Or.inl ⟨by rfl, by (intro w hSw; (try dsimp only at hSw); go_simp; first | done | with_reducible rfl)⟩
      try simp only [Act.put, List.setIfInBounds_toArray, List.set_cons_zero, List.set_cons_succ]
      refine' wpAnyH_take (i := 34) (oi := _) (v := _) ?e_96 ?a_96 ?b_96 ?c_96 ?q_96 ?y_96 hHeld ?r_96
      case e_96 => (simp only [List.getElem?_toArray, List.getElem?_cons_zero, List.getElem?_cons_succ]; exact rfl)
      case a_96 => kernel_rfl
      case b_96 => kernel_rfl
      case c_96 => kernel_rfl
      case q_96 => exact fun _ _ _ h => h
      case y_96 => exact Or.inl ⟨by rfl, by (intro w hSw; (try dsimp only at hSw); go_simp; first | done | with_reducible rfl)⟩
      try simp only [Act.put, List.setIfInBounds_toArray, List.set_cons_zero, List.set_cons_succ]
      refine' wpAnyH_take (i := 35) (oi := _) (v := _) ?e_97 ?a_97 ?b_97 ?c_97 ?q_97 ?y_97 hHeld ?r_97
      case e_97 => (simp only [List.getElem?_toArray, List.getElem?_cons_zero, List.getElem?_cons_succ]; exact rfl)
      case a_97 => kernel_rfl
      case b_97 => kernel_rfl
      case c_97 => kernel_rfl
      case q_97 => exact fun _ _ _ h => h
      case y_97 => exact Or.inl ⟨by rfl, by (intro w hSw; (try dsimp only at hSw); go_simp; first | done | with_reducible rfl)⟩
      try simp only [Act.put, List.setIfInBounds_toArray, List.set_cons_zero, List.set_cons_succ]
      refine' wpAnyH_take (i := 36) (oi := _) (v := _) ?e_98 ?a_98 ?b_98 ?c_98 ?q_98 ?y_98 hHeld ?r_98
      case e_98 => (simp only [List.getElem?_toArray, List.getElem?_cons_zero, List.getElem?_cons_succ]; exact rfl)
      case a_98 => kernel_rfl
      case b_98 => kernel_rfl
      case c_98 => kernel_rfl
      case q_98 => exact fun _ _ _ h => h
      case y_98 => exact Or.inl ⟨by rfl, by (intro w hSw; (try dsimp only at hSw); go_simp; first | done | with_reducible rfl)⟩
      try simp only [Act.put, List.setIfInBounds_toArray, List.set_cons_zero, List.set_cons_succ]
      refine' wpAnyH_take (i := 37) (oi := _) (v := _) ?e_99 ?a_99 ?b_99 ?c_99 ?q_99 ?y_99 hHeld ?r_99
      case e_99 => (simp only [List.getElem?_toArray, List.getElem?_cons_zero, List.getElem?_cons_succ]; exact rfl)
      case a_99 => kernel_rfl
      case b_99 => kernel_rfl
      case c_99 => kernel_rfl
      case q_99 => exact fun _ _ _ h => h
      case y_99 => exact Or.inl ⟨by rfl, by (intro w hSw; (try dsimp only at hSw); go_simp; first | done | with_reducible rfl)⟩
      try simp only [Act.put, List.setIfInBounds_toArray, List.set_cons_zero, List.set_cons_succ]
      refine' wpAnyH_take (i := 38) (oi := _) (v := _) ?e_100 ?a_100 ?b_100 ?c_100 ?q_100 ?y_100 hHeld ?r_100
      case e_100 => (simp only [List.getElem?_toArray, List.getElem?_cons_zero, List.getElem?_cons_succ]; exact rfl)
      case a_100 => kernel_rfl
      case b_100 => kernel_rfl
      case c_100 => kernel_rfl
      case q_100 => exact fun _ _ _ h => h
      case y_100 => exact Or.inl ⟨by rfl, by (intro w hSw; (try dsimp only at hSw); go_simp; first | done | with_reducible rfl)⟩
      try simp only [Act.put, List.setIfInBounds_toArray, List.set_cons_zero, List.set_cons_succ]
      refine' wpAnyH_take (i := 39) (oi := _) (v := _) ?e_101 ?a_101 ?b_101 ?c_101 ?q_101 ?y_101 hHeld ?r_101
      case e_101 => (simp only [List.getElem?_toArray, List.getElem?_cons_zero, List.getElem?_cons_succ]; exact rfl)
      case a_101 => kernel_rfl
      case b_101 => kernel_rfl
      case c_101 => kernel_rfl
      case q_101 => exact fun _ _ _ h => h
      case y_101 => exact Or.inl ⟨by rfl, by (intro w hSw; (try dsimp only at hSw); go_simp; first | done | with_reducible rfl)⟩
      try simp only [Act.put, List.setIfInBounds_toArray, List.set_cons_zero, List.set_cons_succ]
      refine' wpAnyH_take (i := 40) (oi := _) (v := _) ?e_102 ?a_102 ?b_102 ?c_102 ?q_102 ?y_102 hHeld ?r_102
      case e_102 => (simp only [List.getElem?_toArray, List.getElem?_cons_zero, List.getElem?_cons_succ]; exact rfl)
      case a_102 => kernel_rfl
      case b_102 => kernel_rfl
      case c_102 => kernel_rfl
      case q_102 => exact fun _ _ _ h => h
      case y_102 => exact Or.inl ⟨by rfl, by (intro w hSw; (try dsimp only at hSw); go_simp; first | done | with_reducible rfl)⟩
      try simp only [Act.put, List.setIfInBounds_toArray, List.set_cons_zero, List.set_cons_succ]
      refine' wpAnyH_take (i := 42) (oi := _) (v := _) ?e_103 ?a_103 ?b_103 ?c_103 ?q_103 ?y_103 hHeld ?r_103
      case e_103 => (simp only [List.getElem?_toArray, List.getElem?_cons_zero, List.getElem?_cons_succ]; exact rfl)
      case a_103 => kernel_rfl
      case b_103 => kernel_rfl
      case c_103 => kernel_rfl
      case q_103 => exact fun _ _ _ h => h
      case y_103 => exact Or.inl ⟨by rfl, by (intro w hSw; (try dsimp only at hSw); go_simp; first | done | with_reducible rfl)⟩
      try simp only [Act.put, List.setIfInBounds_toArray, List.set_cons_zero, List.set_cons_succ]
      refine wpAnyH_ready (rs := [41]) (by kernel_rfl) (by simp) ?_
      refine' AllReadyH.cons (o := _) ?e_104 ?st_104 AllReadyH.nil
      case e_104 => (simp only [List.getElem?_toArray, List.getElem?_cons_zero, List.getElem?_cons_succ]; exact rfl)
      intro K hK
      go_simp
      obtain ⟨l0, l1, l2, l3, l4, l5, l6, l7, l8, l9, lB⟩ := hHeld
      refine (IF1.out _).mono ?_
      rintro e c2 ⟨rfl, hb2⟩
      go_wp2_with fail
      refine hK.out _ _ ⟨cell_later hb2 l0, cell_later hb2 l1, cell_later hb2 l2, cell_later hb2 l3, cell_later hb2 l4, cell_later hb2 l5, cell_later hb2 l6, cell_later hb2 l7, cell_later hb2 l8, cell_later hb2 l9, chain_back hb2 lB⟩ (fun hHeld => ?_)
      clear l0 l1 l2 l3 l4 l5 l6 l7 l8 l9 lB hb2
      clear hK K
      try simp only [Act.put, List.setIfInBounds_toArray, List.set_cons_zero, List.set_cons_succ]
      refine wpAnyH_ready (rs := [43]) (by kernel_rfl) (by simp) ?_
      refine' AllReadyH.cons (o := _) ?e_105 ?st_105 AllReadyH.nil
      case e_105 => (simp only [List.getElem?_toArray, List.getElem?_cons_zero, List.getElem?_cons_succ]; exact rfl)
      intro K hK
      go_simp
      obtain ⟨l0, l1, l2, l3, l4, l5, l6, l7, l8, l9, lB⟩ := hHeld
      refine (IF2.out _).mono ?_
      rintro e c3 ⟨rfl, hb3⟩
      go_wp2_with fail
      refine hK.out _ _ ⟨cell_later hb3 l0, cell_later hb3 l1, cell_later hb3 l2, cell_later hb3 l3, cell_later hb3 l4, cell_later hb3 l5, cell_later hb3 l6, cell_later hb3 l7, cell_later hb3 l8, cell_later hb3 l9, chain_back hb3 lB⟩ (fun hHeld => ?_)
      clear l0 l1 l2 l3 l4 l5 l6 l7 l8 l9 lB hb3
      clear hK K
      try simp only [Act.put, List.setIfInBounds_toArray, List.set_cons_zero, List.set_cons_succ]
      refine' wpAnyH_take (i := 44) (oi := _) (v := _) ?e_106 ?a_106 ?b_106 ?c_106 ?q_106 ?y_106 hHeld ?r_106
      case e_106 => (simp only [List.getElem?_toArray, List.getElem?_cons_zero, List.getElem?_cons_succ]; exact rfl)
      case a_106 => kernel_rfl
      case b_106 => kernel_rfl
      case c_106 => kernel_rfl
      case q_106 => exact fun _ _ _ h => h
      case y_106 => exact Or.inl ⟨by rfl, by (intro w hSw; (try dsimp only at hSw); go_simp; first | done | with_reducible rfl)⟩
      try simp only [Act.put, List.setIfInBounds_toArray, List.set_cons_zero, List.set_cons_succ]
      refine' wpAnyH_take (i := 45) (oi := _) (v := _) ?e_107 ?a_107 ?b_107 ?c_107 ?q_107 ?y_107 hHeld ?r_107
      case e_107 => (simp only [List.getElem?_toArray, List.getElem?_cons_zero, List.getElem?_cons_succ]; exact rfl)
      case a_107 => kernel_rfl
      case b_107 => kernel_rfl
      case c_107 => kernel_rfl
      case q_107 => exact fun _ _ _ h => h
      case y_107 => exact Or.inl ⟨by rfl, by (intro w hSw; (try dsimp only at hSw); go_simp; first | done | with_reducible rfl)⟩
      try simp only [Act.put, List.setIfInBounds_toArray, List.set_cons_zero, List.set_cons_succ]
      refine' wpAnyH_take (i := 46) (oi := _) (v := _) ?e_108 ?a_108 ?b_108 ?c_108 ?q_108 ?y_108 hHeld ?r_108
      case e_108 => (simp only [List.getElem?_toArray, List.getElem?_cons_zero, List.getElem?_cons_succ]; exact rfl)
      case a_108 => kernel_rfl
      case b_108 => kernel_rfl
      case c_108 => kernel_rfl
      case q_108 => exact fun _ _ _ h => h
      case y_108 => exact Or.inl ⟨by rfl, by (intro w hSw; (try dsimp only at hSw); go_simp; first | done | with_reducible rfl)⟩
      try simp only [Act.put, List.setIfInBounds_toArray, List.set_cons_zero, List.set_cons_succ]
      refine' wpAnyH_take (i := 47) (oi := _) (v := _) ?e_109 ?a_109 ?b_109 ?c_109 ?q_109 ?y_109 hHeld ?r_109
      case e_109 => (simp only [List.getElem?_toArray, List.getElem?_cons_zero, List.getElem?_cons_succ]; exact rfl)
      case a_109 => kernel_rfl
      case b_109 => kernel_rfl
      case c_109 => kernel_rfl
      case q_109 => exact fun _ _ _ h => h
      case y_109 => exact Or.inl ⟨by rfl, by (intro w hSw; (try dsimp only at hSw); go_simp; first | done | with_reducible rfl)⟩
      try simp only [Act.put, List.setIfInBounds_toArray, List.set_cons_zero, List.set_cons_succ]
      refine' wpAnyH_take (i := 48) (oi := _) (v := _) ?e_110 ?a_110 ?b_110 ?c_110 ?q_110 ?y_110 hHeld ?r_110
      case e_110 => (simp only [List.getElem?_toArray, List.getElem?_cons_zero, List.getElem?_cons_succ]; exact rfl)
      case a_110 => kernel_rfl
      case b_110 => kernel_rfl
      case c_110 => kernel_rfl
      case q_110 => exact fun _ _ _ h => h
      case y_110 => exact Or.inl ⟨by rfl, by (intro w hSw; (try dsimp only at hSw); go_simp; first | done | with_reducible rfl)⟩
      try simp only [Act.put, List.setIfInBounds_toArray, List.set_cons_zero, List.set_cons_succ]
      refine wpAnyH_ready (rs := [49]) (by kernel_rfl) (by simp) ?_
      refine' AllReadyH.cons (o := _) ?e_111 ?st_111 AllReadyH.nil
      case e_111 => (simp only [List.getElem?_toArray, List.getElem?_cons_zero, List.getElem?_cons_succ]; exact rfl)
      intro K hK
      go_simp
      obtain ⟨l0, l1, l2, l3, l4, l5, l6, l7, l8, l9, lB⟩ := hHeld
      refine (IF1.out _).mono ?_
      rintro e c4 ⟨rfl, hb4⟩
      go_wp2_with fail
      refine hK.out _ _ ⟨cell_later hb4 l0, cell_later hb4 l1, cell_later hb4 l2, cell_later hb4 l3, cell_later hb4 l4, cell_later hb4 l5, cell_later hb4 l6, cell_later hb4 l7, cell_later hb4 l8, cell_later hb4 l9, chain_back hb4 lB⟩ (fun hHeld => ?_)
      clear l0 l1 l2 l3 l4 l5 l6 l7 l8 l9 lB hb4
      clear hK K
      try simp only [Act.put, List.setIfInBounds_toArray, List.set_cons_zero, List.set_cons_succ]
      refine' wpAnyH_take (i := 50) (oi := _) (v := _) ?e_112 ?a_112 ?b_112 ?c_112 ?q_112 ?y_112 hHeld ?r_112
      case e_112 => (simp only [List.getElem?_toArray, List.getElem?_cons_zero, List.getElem?_cons_succ]; exact rfl)
      case a_112 => kernel_rfl
      case b_112 => kernel_rfl
      case c_112 => kernel_rfl
      case q_112 => exact fun _ _ _ h => h
      case y_112 => exact Or.inl ⟨by rfl, by (intro w hSw; (try dsimp only at hSw); go_simp; first | done | with_reducible rfl)⟩
      try simp only [Act.put, List.setIfInBounds_toArray, List.set_cons_zero, List.set_cons_succ]
      refine' wpAnyH_take (i := 51) (oi := _) (v := _) ?e_113 ?a_113 ?b_113 ?c_113 ?q_113 ?y_113 hHeld ?r_113
      case e_113 => (simp only [List.getElem?_toArray, List.getElem?_cons_zero, List.getElem?_cons_succ]; exact rfl)
      case a_113 => kernel_rfl
      case b_113 => kernel_rfl
      case c_113 => kernel_rfl
      case q_113 => exact fun _ _ _ h => h
      case y_113 => exact Or.inl ⟨by rfl, by (intro w hSw; (try dsimp only at hSw); go_simp; first | done | with_reducible rfl)⟩
      try simp only [Act.put, List.setIfInBounds_toArray, List.set_cons_zero, List.set_cons_succ]
      refine' wpAnyH_take (i := 52) (oi := _) (v := _) ?e_114 ?a_114 ?b_114 ?c_114 ?q_114 ?y_114 hHeld ?r_114
      case e_114 => (simp only [List.getElem?_toArray, List.getElem?_cons_zero, List.getElem?_cons_succ]; exact rfl)
      case a_114 => kernel_rfl
      case b_114 => kernel_rfl
      case c_114 => kernel_rfl
      case q_114 => exact fun _ _ _ h => h
      case y_114 => exact Or.inl ⟨by rfl, by (intro w hSw; (try dsimp only at hSw); go_simp; first | done | with_reducible rfl)⟩
      try simp only [Act.put, List.setIfInBounds_toArray, List.set_cons_zero, List.set_cons_succ]
      refine' wpAnyH_take (i := 53) (oi := _) (v := _) ?e_115 ?a_115 ?b_115 ?c_115 ?q_115 ?y_115 hHeld ?r_115
      case e_115 => (simp only [List.getElem?_toArray, List.getElem?_cons_zero, List.getElem?_cons_succ]; exact rfl)
      case a_115 => kernel_rfl
      case b_115 => kernel_rfl
      case c_115 => kernel_rfl
      case q_115 => exact fun _ _ _ h => h
      case y_115 => exact Or.inl ⟨by rfl, by (intro w hSw; (try dsimp only at hSw); go_simp; first | done | with_reducible rfl)⟩
      try simp only [Act.put, List.setIfInBounds_toArray, List.set_cons_zero, List.set_cons_succ]
      refine' wpAnyH_take (i := 54) (oi := _) (v := _) ?e_116 ?a_116 ?b_116 ?c_116 ?q_116 ?y_116 hHeld ?r_116
      case e_116 => (simp only [List.getElem?_toArray, List.getElem?_cons_zero, List.getElem?_cons_succ]; exact rfl)
      case a_116 => kernel_rfl
      case b_116 => kernel_rfl
      case c_116 => kernel_rfl
      case q_116 => exact fun _ _ _ h => h
      case y_116 => exact Or.inl ⟨by rfl, by (intro w hSw; (try dsimp only at hSw); go_simp; first | done | with_reducible rfl)⟩
      try simp only [Act.put, List.setIfInBounds_toArray, List.set_cons_zero, List.set_cons_succ]
      refine' wpAnyH_take (i := 55) (oi := _) (v := _) ?e_117 ?a_117 ?b_117 ?c_117 ?q_117 ?y_117 hHeld ?r_117
      case e_117 => (simp only [List.getElem?_toArray, List.getElem?_cons_zero, List.getElem?_cons_succ]; exact rfl)
      case a_117 => kernel_rfl
      case b_117 => kernel_rfl
      case c_117 => kernel_rfl
      case q_117 => exact fun _ _ _ h => h
      case y_117 => exact Or.inl ⟨by rfl, by (intro w hSw; (try dsimp only at hSw); go_simp; first | done | with_reducible rfl)⟩
      try simp only [Act.put, List.setIfInBounds_toArray, List.set_cons_zero, List.set_cons_succ]
      refine' wpAnyH_take (i := 56) (oi := _) (v := _) ?e_118 ?a_118 ?b_118 ?c_118 ?q_118 ?y_118 hHeld ?r_118
      case e_118 => (simp only [List.getElem?_toArray, List.getElem?_cons_zero, List.getElem?_cons_succ]; exact rfl)
      case a_118 => kernel_rfl
      case b_118 => kernel_rfl
      case c_118 => kernel_rfl
      case q_118 => exact fun _ _ _ h => h
      case y_118 => exact Or.inl ⟨by rfl, by (intro w hSw; (try dsimp only at hSw); go_simp; first | done | with_reducible rfl)⟩
      try simp only [Act.put, List.setIfInBounds_toArray, List.set_cons_zero, List.set_cons_succ]
      refine wpAnyH_ready (rs := [57]) (by kernel_rfl) (by simp) ?_
      refine' AllReadyH.cons (o := _) ?e_119 ?st_119 AllReadyH.nil
      case e_119 => (simp only [List.getElem?_toArray, List.getElem?_cons_zero, List.getElem?_cons_succ]; exact rfl)
      intro K hK
      go_simp
      obtain ⟨l0, l1, l2, l3, l4, l5, l6, l7, l8, l9, lB⟩ := hHeld
      refine (IC.out _).mono ?_
      rintro e _ ⟨rfl, rfl⟩
      go_wp2_with fail
      refine hK.out _ _ ⟨l0, l1, l2, l3, l4, l5, l6, l7, l8, l9, lB⟩ (fun hHeld => ?_)
      clear l0 l1 l2 l3 l4 l5 l6 l7 l8 l9 lB
      clear hK K
      try simp only [Act.put, List.setIfInBounds_toArray, List.set_cons_zero, List.set_cons_succ]
      refine' wpAnyH_take (i := 58) (oi := _) (v := _) ?e_120 ?a_120 ?b_120 ?c_120 ?q_120 ?y_120 hHeld ?r_120
      case e_120 => (simp only [List.getElem?_toArray, List.getElem?_cons_zero, List.getElem?_cons_succ]; exact rfl)
      case a_120 => kernel_rfl
      case b_120 => kernel_rfl
      case c_120 => kernel_rfl
      case q_120 => exact fun _ _ _ h => h
      case y_120 => exact Or.inl ⟨by rfl, by (intro w hSw; (try dsimp only at hSw); go_simp; first | done | with_reducible rfl)⟩
      try simp only [Act.put, List.setIfInBounds_toArray, List.set_cons_zero, List.set_cons_succ]
      refine' wpAnyH_take (i := 59) (oi := _) (v := _) ?e_121 ?a_121 ?b_121 ?c_121 ?q_121 ?y_121 hHeld ?r_121
      case e_121 => (simp only [List.getElem?_toArray, List.getElem?_cons_zero, List.getElem?_cons_succ]; exact rfl)
      case a_121 => kernel_rfl
      case b_121 => kernel_rfl
      case c_121 => kernel_rfl
      case q_121 => exact fun _ _ _ h => h
      case y_121 => exact Or.inl ⟨by rfl, by (intro w hSw; (try dsimp only at hSw); go_simp; first | done | with_reducible rfl)⟩
      try simp only [Act.put, List.setIfInBounds_toArray, List.set_cons_zero, List.set_cons_succ]
      refine' wpAnyH_take (i := 60) (oi := _) (v := _) ?e_122 ?a_122 ?b_122 ?c_122 ?q_122 ?y_122 hHeld ?r_122
      case e_122 => (simp only [List.getElem?_toArray, List.getElem?_cons_zero, List.getElem?_cons_succ]; exact rfl)
      case a_122 => kernel_rfl
      case b_122 => kernel_rfl
      case c_122 => kernel_rfl
      case q_122 => exact fun _ _ _ h => h
      case y_122 => exact Or.inl ⟨by rfl, by (intro w hSw; (try dsimp only at hSw); go_simp; first | done | with_reducible rfl)⟩
      try simp only [Act.put, List.setIfInBounds_toArray, List.set_cons_zero, List.set_cons_succ]
      refine wpAnyH_done (by kernel_rfl) ?_ _
      refine NoPanic.normal ?_
      clear x3a x3b x9a x9b x11a x11b x21a x21b x23a x23b
      obtain ⟨l0, l1, l2, l3, l4, l5, l6, l7, l8, l9, lB⟩ := hHeld
      clear l0 l1 l2 l3 l4 l5 l6 l7 l8 l9
      replace BX := Lib.hid (Below.chain BX.out lB)
      replace HPs := Lib.hid (HPs.out.below lB)
      replace HR := Lib.hid (HR.out.below lB)
      replace H15 := Lib.hid (H15.out.below lB)
      replace X3 := Lib.hid (X3.out.below lB)
      replace X9 := Lib.hid (X9.out.below lB)
      replace X19 := Lib.hid (X19.out.below lB)
      replace X20 := Lib.hid (X20.out.below lB)
      replace X21 := Lib.hid (X21.out.below lB)
      clear lB H17 X11 X23
      cases cb with
      | false =>
        clear HOUT
        cases there with
        | false =>
          cases one with
          | false =>
            go_wp2
            go_ret
            exact ⟨rfl, BX.out⟩
          | true =>
            obtain ⟨j1, j2, j3⟩ := HJ.out (by trivial)
            have hor1 : (jx != bits .or .i64 ja jc) = false := by rw [j2]; unfold orI; simp
            have hor2 : (jy != bits .or .i64 jb jd) = false := by rw [j3]; unfold orI; simp
            have HJ1 := Lib.hid j1
            clear j1 j2 j3
            obtain ⟨q0a, q0b, _, _⟩ := X21.out.two'
            have CI := Lib.hid (IsFault_c jx jy c4)
            rw [HJ1.out] at CI
            go_wp2_with fail
            refine CI.out.mono ?_
            rintro e wq ⟨rfl, hbq⟩
            have BQ := Lib.hid (Below.chain BX.out hbq)
            have Y21 := Lib.hid (X21.out.below hbq)
            have Y19 := Lib.hid (X19.out.below hbq)
            have Y20 := Lib.hid (X20.out.below hbq)
            clear hbq CI q0a q0b
            obtain ⟨q0a, q0b, _, _⟩ := Y21.out.two'
            obtain ⟨q1a, q1b, _, _⟩ := Y19.out.two'
            obtain ⟨q2a, q2b, _, _⟩ := Y20.out.two'
            go_wp2
            go_ret
            exact ⟨rfl, BQ.out⟩
        | true =>
          have hsl := HSL.out (by trivial)
          have hal := HAL.out (by trivial)
          have HSA2 := Lib.hid (HSA.out (by trivial))
          have HAL2 := Lib.hid hal
          have HSL2 := Lib.hid hsl
          have hne : ((S.length : Int) != (r.length : Int)) = false := by rw [hsl]; simp
          clear hsl hal
          obtain ⟨a13, c13, rfl, _, _, _⟩ := Pairs.parts HPs.out
          obtain ⟨a14, c14, rfl, _, _, _⟩ := HR.out.parts
          obtain ⟨a15, c15, rfl, _, _, _⟩ := H15.out.parts
          go_wp2
          go_loopw [35] (fun j wr => ∃ k : Nat, k ≤ r.length ∧ j = .int .i64 (k : Int) ∧ Hid (Below c4.heap.size c4 wr)) (fun j _ => r.length - (intOf j).toNat)
          case atStart => exact ⟨0, by omega, rfl, Below.refl _ _⟩
          case round =>
            obtain ⟨k, hk, rfl, HBr⟩ := hrel
            by_cases hlt : k < r.length
            · have hdk : decide ((k : Int) < (r.length : Int)) = true := by simp; omega
              have hlp : k < ps.length := by rw [HAL2.out]; exact hlt
              have hlp2 : (k : Int) < (ps.length : Int) := by omega
              obtain ⟨f, hf⟩ := elem_at hlp
              obtain ⟨cc, hc⟩ := elem_at hlt
              obtain ⟨x, hx, hsc⟩ := HSA2.out k f cc hf.out hc.out
              have hlS : k < S.length := by rw [HSL2.out]; exact hlt
              have hlS2 : (k : Int) < (S.length : Int) := by omega
              obtain ⟨ax, cx, ex, _, _, HPp⟩ := Pairs.parts (Pairs.below HPs.out HBr.out)
              cases ex
              obtain ⟨ay, cy, ey, _, _, HRp⟩ := (HR.out.below HBr.out).parts
              cases ey
              obtain ⟨b1, o1, rfl, g0, g1⟩ := HPp.out k f hf.out
              obtain ⟨b2, o2, rfl, g2⟩ := HRp.out k cc hc.out
              have SCf := Lib.hid (fun W => ShownCell_c f.1 f.2 cc W)
              rw [hsc] at SCf
              have HX := Lib.hid hx
              clear HPp HRp hsc hx
              go_wp2_with fail
              go_region_held3 (fun w' => w'.cell? ⟨b1, o1 + k * 2, none⟩ = some (.int .i64 f.1) ∧ w'.cell? ⟨b1, o1 + k * 2 + 1, none⟩ = some (.int .i64 f.2) ∧ w'.cell? ⟨b2, o2 + k, none⟩ = some (.int .i64 cc))
                (first | go_keep | (go_split_ands; exact ⟨cell_later ‹_› ‹_›, cell_later ‹_› ‹_›, cell_later ‹_› ‹_›⟩))
                (first | (go_at_call 21; refine (SCf.out _).mono ?_; rintro e wa ⟨rfl, hba⟩))
              have HBa := Lib.hid (Below.chain HBr.out.drew hba)
              clear hba SCf g0 g1 g2
              obtain ⟨az, cz, ez, _, _, H15p⟩ := (H15.out.below HBa.out).parts
              cases ez
              obtain ⟨b3, o3, rfl, g3⟩ := H15p.out k x HX.out
              clear H15p
              go_wp2
              go_roundw
              case rel => exact ⟨k + 1, by omega, by go_num, HBa⟩
              case measure => simp [intOf]; omega
            · have hdk : decide ((k : Int) < (r.length : Int)) = false := by simp; omega
              rename World => wo
              have BL := Lib.hid (Below.chain BX.out HBr.out)
              have Z19 := Lib.hid (X19.out.below HBr.out)
              have Z20 := Lib.hid (X20.out.below HBr.out)
              have Z21 := Lib.hid (X21.out.below HBr.out)
              cases one with
              | false =>
                go_wp2
                go_ret
                exact ⟨rfl, BL.out⟩
              | true =>
                obtain ⟨j1, j2, j3⟩ := HJ.out (by trivial)
                have hor1 : (jx != bits .or .i64 ja jc) = false := by rw [j2]; unfold orI; simp
                have hor2 : (jy != bits .or .i64 jb jd) = false := by rw [j3]; unfold orI; simp
                have HJ1 := Lib.hid j1
                clear j1 j2 j3
                obtain ⟨q0a, q0b, _, _⟩ := Z21.out.two'
                have CI := Lib.hid (IsFault_c jx jy wo)
                rw [HJ1.out] at CI
                go_wp2_with fail
                refine CI.out.mono ?_
                rintro e wq ⟨rfl, hbq⟩
                have BQ := Lib.hid (Below.chain BL.out hbq)
                have Y21 := Lib.hid (Z21.out.below hbq)
                have Y19 := Lib.hid (Z19.out.below hbq)
                have Y20 := Lib.hid (Z20.out.below hbq)
                clear hbq CI q0a q0b
                obtain ⟨q0a, q0b, _, _⟩ := Y21.out.two'
                obtain ⟨q1a, q1b, _, _⟩ := Y19.out.two'
                obtain ⟨q2a, q2b, _, _⟩ := Y20.out.two'
                go_wp2
                go_ret
                exact ⟨rfl, BQ.out⟩
      | true =>
        obtain rfl : shC d l c0 = out := HOUT.out
        obtain ⟨p1, p2, p3, p4⟩ := HP.out (by trivial) (by trivial)
        have A1 := Lib.hid HS1.out
        rw [p1] at A1
        have A2 := Lib.hid HT1.out
        have A3 := Lib.hid HS2.out
        rw [p3] at A3
        have A4 := Lib.hid HT2.out
        rw [p2] at A4
        have A5 := Lib.hid HT3.out
        rw [p4] at A5
        simp only [if_true] at A2 A4
        clear p1 p2 p3 p4 HOUT
        obtain ⟨qa, qb, _, _⟩ := X3.out.two'
        go_wp2_with fail
        refine (A1.out _).mono ?_
        rintro e d1 ⟨rfl, hbn⟩
        replace BX := Lib.hid (Below.chain BX.out hbn)
        replace HPs := Lib.hid (HPs.out.below hbn)
        replace HR := Lib.hid (HR.out.below hbn)
        replace H15 := Lib.hid (H15.out.below hbn)
        replace X3 := Lib.hid (X3.out.below hbn)
        replace X9 := Lib.hid (X9.out.below hbn)
        replace X19 := Lib.hid (X19.out.below hbn)
        replace X20 := Lib.hid (X20.out.below hbn)
        replace X21 := Lib.hid (X21.out.below hbn)
        clear hbn qa qb
        go_wp2_with fail
        refine (A2.out _).mono ?_
        rintro e d2 ⟨rfl, hbn⟩
        replace BX := Lib.hid (Below.chain BX.out hbn)
        replace HPs := Lib.hid (HPs.out.below hbn)
        replace HR := Lib.hid (HR.out.below hbn)
        replace H15 := Lib.hid (H15.out.below hbn)
        replace X3 := Lib.hid (X3.out.below hbn)
        replace X9 := Lib.hid (X9.out.below hbn)
        replace X19 := Lib.hid (X19.out.below hbn)
        replace X20 := Lib.hid (X20.out.below hbn)
        replace X21 := Lib.hid (X21.out.below hbn)
        clear hbn
        obtain ⟨qa, qb, _, _⟩ := X9.out.two'
        go_wp2_with fail
        refine (A3.out _).mono ?_
        rintro e d3 ⟨rfl, hbn⟩
        replace BX := Lib.hid (Below.chain BX.out hbn)
        replace HPs := Lib.hid (HPs.out.below hbn)
        replace HR := Lib.hid (HR.out.below hbn)
        replace H15 := Lib.hid (H15.out.below hbn)
        replace X3 := Lib.hid (X3.out.below hbn)
        replace X9 := Lib.hid (X9.out.below hbn)
        replace X19 := Lib.hid (X19.out.below hbn)
        replace X20 := Lib.hid (X20.out.below hbn)
        replace X21 := Lib.hid (X21.out.below hbn)
        clear hbn qa qb
        go_wp2_with fail
        refine (A4.out _).mono ?_
        rintro e d4 ⟨rfl, hbn⟩
        replace BX := Lib.hid (Below.chain BX.out hbn)
        replace HPs := Lib.hid (HPs.out.below hbn)
        replace HR := Lib.hid (HR.out.below hbn)
        replace H15 := Lib.hid (H15.out.below hbn)
        replace X3 := Lib.hid (X3.out.below hbn)
        replace X9 := Lib.hid (X9.out.below hbn)
        replace X19 := Lib.hid (X19.out.below hbn)
        replace X20 := Lib.hid (X20.out.below hbn)
        replace X21 := Lib.hid (X21.out.below hbn)
        clear hbn
        obtain ⟨qa, qb, _, _⟩ := X9.out.two'
        go_wp2_with fail
        refine (A5.out _).mono ?_
        rintro e d5 ⟨rfl, hbn⟩
        replace BX := Lib.hid (Below.chain BX.out hbn)
        replace HPs := Lib.hid (HPs.out.below hbn)
        replace HR := Lib.hid (HR.out.below hbn)
        replace H15 := Lib.hid (H15.out.below hbn)
        replace X3 := Lib.hid (X3.out.below hbn)
        replace X9 := Lib.hid (X9.out.below hbn)
        replace X19 := Lib.hid (X19.out.below hbn)
        replace X20 := Lib.hid (X20.out.below hbn)
        replace X21 := Lib.hid (X21.out.below hbn)
        clear hbn qa qb
        have al1 := Lib.hid (below_one (w := d5) (.cells #[.int .i64 d, .int .i64 l] 42))
        replace BX := Lib.hid (Below.alc BX.out (.cells #[.int .i64 d, .int .i64 l] 42))
        replace HPs := Lib.hid (HPs.out.below al1.out)
        replace HR := Lib.hid (HR.out.below al1.out)
        replace H15 := Lib.hid (H15.out.below al1.out)
        replace X3 := Lib.hid (X3.out.below al1.out)
        replace X9 := Lib.hid (X9.out.below al1.out)
        replace X19 := Lib.hid (X19.out.below al1.out)
        replace X20 := Lib.hid (X20.out.below al1.out)
        replace X21 := Lib.hid (X21.out.below al1.out)
        have X33 := Lib.hid (Bk.new d5 42 #[.int .i64 d, .int .i64 l])
        clear al1
        obtain ⟨q3a, q3b, _, _⟩ := X3.out.two'
        obtain ⟨q33a, q33b, _, _⟩ := X33.out.two'
        cases there with
        | false =>
          cases one with
          | false =>
            go_wp2
            go_ret
            exact ⟨rfl, BX.out⟩
          | true =>
            obtain ⟨j1, j2, j3⟩ := HJ.out (by trivial)
            have hor1 : (jx != bits .or .i64 ja jc) = false := by rw [j2]; unfold orI; simp
            have hor2 : (jy != bits .or .i64 jb jd) = false := by rw [j3]; unfold orI; simp
            have HJ1 := Lib.hid j1
            clear j1 j2 j3
            obtain ⟨q0a, q0b, _, _⟩ := X21.out.two'
            have CI := Lib.hid (IsFault_c jx jy (d5.alloc (.cells #[.int .i64 d, .int .i64 l] 42)))
            rw [HJ1.out] at CI
            go_wp2_with fail
            refine CI.out.mono ?_
            rintro e wq ⟨rfl, hbq⟩
            have BQ := Lib.hid (Below.chain BX.out hbq)
            have Y21 := Lib.hid (X21.out.below hbq)
            have Y19 := Lib.hid (X19.out.below hbq)
            have Y20 := Lib.hid (X20.out.below hbq)
            clear hbq CI q0a q0b
            obtain ⟨q0a, q0b, _, _⟩ := Y21.out.two'
            obtain ⟨q1a, q1b, _, _⟩ := Y19.out.two'
            obtain ⟨q2a, q2b, _, _⟩ := Y20.out.two'
            go_wp2
            go_ret
            exact ⟨rfl, BQ.out⟩
        | true =>
          have hsl := HSL.out (by trivial)
          have hal := HAL.out (by trivial)
          have HSA2 := Lib.hid (HSA.out (by trivial))
          have HAL2 := Lib.hid hal
          have HSL2 := Lib.hid hsl
          have hne : ((S.length : Int) != (r.length : Int)) = false := by rw [hsl]; simp
          clear hsl hal
          obtain ⟨a13, c13, rfl, _, _, _⟩ := Pairs.parts HPs.out
          obtain ⟨a14, c14, rfl, _, _, _⟩ := HR.out.parts
          obtain ⟨a15, c15, rfl, _, _, _⟩ := H15.out.parts
          go_wp2
          go_loopw [35] (fun j wr => ∃ k : Nat, k ≤ r.length ∧ j = .int .i64 (k : Int) ∧ Hid (Below (d5.alloc (.cells #[.int .i64 d, .int .i64 l] 42)).heap.size (d5.alloc (.cells #[.int .i64 d, .int .i64 l] 42)) wr)) (fun j _ => r.length - (intOf j).toNat)
          case atStart => exact ⟨0, by omega, rfl, Below.refl _ _⟩
          case round =>
            obtain ⟨k, hk, rfl, HBr⟩ := hrel
            by_cases hlt : k < r.length
            · have hdk : decide ((k : Int) < (r.length : Int)) = true := by simp; omega
              have hlp : k < ps.length := by rw [HAL2.out]; exact hlt
              have hlp2 : (k : Int) < (ps.length : Int) := by omega
              obtain ⟨f, hf⟩ := elem_at hlp
              obtain ⟨cc, hc⟩ := elem_at hlt
              obtain ⟨x, hx, hsc⟩ := HSA2.out k f cc hf.out hc.out
              have hlS : k < S.length := by rw [HSL2.out]; exact hlt
              have hlS2 : (k : Int) < (S.length : Int) := by omega
              obtain ⟨ax, cx, ex, _, _, HPp⟩ := Pairs.parts (Pairs.below HPs.out HBr.out)
              cases ex
              obtain ⟨ay, cy, ey, _, _, HRp⟩ := (HR.out.below HBr.out).parts
              cases ey
              obtain ⟨b1, o1, rfl, g0, g1⟩ := HPp.out k f hf.out
              obtain ⟨b2, o2, rfl, g2⟩ := HRp.out k cc hc.out
              have SCf := Lib.hid (fun W => ShownCell_c f.1 f.2 cc W)
              rw [hsc] at SCf
              have HX := Lib.hid hx
              clear HPp HRp hsc hx
              go_wp2_with fail
              go_region_held3 (fun w' => w'.cell? ⟨b1, o1 + k * 2, none⟩ = some (.int .i64 f.1) ∧ w'.cell? ⟨b1, o1 + k * 2 + 1, none⟩ = some (.int .i64 f.2) ∧ w'.cell? ⟨b2, o2 + k, none⟩ = some (.int .i64 cc))
                (first | go_keep | (go_split_ands; exact ⟨cell_later ‹_› ‹_›, cell_later ‹_› ‹_›, cell_later ‹_› ‹_›⟩))
                (first | (go_at_call 21; refine (SCf.out _).mono ?_; rintro e wa ⟨rfl, hba⟩))
              have HBa := Lib.hid (Below.chain HBr.out.drew hba)
              clear hba SCf g0 g1 g2
              obtain ⟨az, cz, ez, _, _, H15p⟩ := (H15.out.below HBa.out).parts
              cases ez
              obtain ⟨b3, o3, rfl, g3⟩ := H15p.out k x HX.out
              clear H15p
              go_wp2
              go_roundw
              case rel => exact ⟨k + 1, by omega, by go_num, HBa⟩
              case measure => simp [intOf]; omega
            · have hdk : decide ((k : Int) < (r.length : Int)) = false := by simp; omega
              rename World => wo
              have BL := Lib.hid (Below.chain BX.out HBr.out)
              have Z19 := Lib.hid (X19.out.below HBr.out)
              have Z20 := Lib.hid (X20.out.below HBr.out)
              have Z21 := Lib.hid (X21.out.below HBr.out)
              cases one with
              | false =>
                go_wp2
                go_ret
                exact ⟨rfl, BL.out⟩
              | true =>
                obtain ⟨j1, j2, j3⟩ := HJ.out (by trivial)
                have hor1 : (jx != bits .or .i64 ja jc) = false := by rw [j2]; unfold orI; simp
                have hor2 : (jy != bits .or .i64 jb jd) = false := by rw [j3]; unfold orI; simp
                have HJ1 := Lib.hid j1
                clear j1 j2 j3
                obtain ⟨q0a, q0b, _, _⟩ := Z21.out.two'
                have CI := Lib.hid (IsFault_c jx jy wo)
                rw [HJ1.out] at CI
                go_wp2_with fail
                refine CI.out.mono ?_
                rintro e wq ⟨rfl, hbq⟩
                have BQ := Lib.hid (Below.chain BL.out hbq)
                have Y21 := Lib.hid (Z21.out.below hbq)
                have Y19 := Lib.hid (Z19.out.below hbq)
                have Y20 := Lib.hid (Z20.out.below hbq)
                clear hbq CI q0a q0b
                obtain ⟨q0a, q0b, _, _⟩ := Y21.out.two'
                obtain ⟨q1a, q1b, _, _⟩ := Y19.out.two'
                obtain ⟨q2a, q2b, _, _⟩ := Y20.out.two'
                go_wp2
                go_ret
                exact ⟨rfl, BQ.out⟩
end Go.Proofs.Ytlipkplomndjcaa
