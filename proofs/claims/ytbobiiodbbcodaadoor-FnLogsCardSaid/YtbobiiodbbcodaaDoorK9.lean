/- Texts of this claim, gathered: LwLLogs. -/
import Derived.Test.YtbobiiodbbcodaaDoorK8
namespace Go.Proofs.YtbobiiodbbcodaaDoor
open Go.RowKit
set_option linter.unusedVariables false
set_option linter.unusedSimpArgs false
set_option maxRecDepth 100000
theorem chain_back {w a b : World} (k : Below a.heap.size a b) (h : Below w.heap.size w a) : Below w.heap.size w b := Below.chain h k
set_option maxHeartbeats 100000000 in
theorem FnLogs_walk (v : Value) (xs : List Nat) (w : World) (h : Code w v xs) (htab : Tab w) :
    Calls Tryd.prog 3 #[v] w fun e w' => e = .returned (.bool true) ∧ Below w.heap.size w w' := by
  have HK := Lib.hid h
  obtain ⟨a, c, rfl, _⟩ := h
  have HV := Lib.hid (vBig_c _ _ _ HK.out)
  by_cases hbig : 65536 < xs.length
  · have hd : decide (65536 < xs.length) = true := decide_eq_true hbig
    go_enter Tryd.func3, Tryd.ntmps3
    go_wp2_with fail
    refine HV.out.mono ?_
    rintro e w1 ⟨rfl, rfl⟩
    go_wp2
    go_ret
    exact ⟨rfl, Below.refl _ _⟩
  have hd : decide (65536 < xs.length) = false := decide_eq_false hbig
  go_enter Tryd.func3, Tryd.ntmps3
  go_wp2_with fail
  refine HV.out.mono ?_
  rintro e _ ⟨rfl, rfl⟩
  have BX := Lib.hid (Below.refl w.heap.size w)
  have HT := Lib.hid htab
  clear htab
  have HD := Lib.hid (DrawIsValidRecord_c _ xs _ HK.out)
  unfold recV at HD
  go_wp2_with fail
  refine (HD.out).mono ?_
  rintro e w1 ⟨e1, e2, rfl, he1, he2, hb1⟩
  replace BX := Lib.hid (Below.chain BX.out hb1)
  replace HK := Lib.hid (HK.out.below hb1)
  replace HT := Lib.hid (HT.out.below hb1)
  clear hb1
  clear HD
  have al1 := Lib.hid (below_one (w := w1) (.cells #[.string e1, .string e2] 25))
  replace BX := Lib.hid (Below.alc BX.out (.cells #[.string e1, .string e2] 25))
  replace HK := Lib.hid (HK.out.below al1.out)
  replace HT := Lib.hid (HT.out.below al1.out)
  have X3 := Lib.hid (Bk.new w1 25 #[.string e1, .string e2])
  clear al1
  go_wp2_with fail
  refine (vCut_c 1 _ xs _ HK.out (by omega) (by decide)).mono ?_
  rintro e w2 ⟨vc1, ys1, rfl, hcy, _, hb2⟩
  replace BX := Lib.hid (Below.chain BX.out hb2)
  replace HK := Lib.hid (HK.out.below hb2)
  replace HT := Lib.hid (HT.out.below hb2)
  replace X3 := Lib.hid (X3.out.below hb2)
  have HY := Lib.hid (hcy)
  clear hb2
  clear hcy
  have HD := Lib.hid (DrawEncodeRecord_c _ ys1 _ HY.out)
  unfold recV at HD
  go_wp2_with fail
  refine (HD.out).mono ?_
  rintro e w3 ⟨k, f1, f2, rfl, hf1, hf2, hb3⟩
  replace BX := Lib.hid (Below.chain BX.out hb3)
  replace HK := Lib.hid (HK.out.below hb3)
  replace HT := Lib.hid (HT.out.below hb3)
  replace X3 := Lib.hid (X3.out.below hb3)
  replace HY := Lib.hid (HY.out.below hb3)
  clear hb3
  clear HD
  clear HY
  have al1 := Lib.hid (below_one (w := w3) (.cells #[.string f1, .string f2] 25))
  replace BX := Lib.hid (Below.alc BX.out (.cells #[.string f1, .string f2] 25))
  replace HK := Lib.hid (HK.out.below al1.out)
  replace HT := Lib.hid (HT.out.below al1.out)
  replace X3 := Lib.hid (X3.out.below al1.out)
  have X5 := Lib.hid (Bk.new w3 25 #[.string f1, .string f2])
  clear al1
  have ER1 := fun W h => EncodeRecord_c k f1 f2 W (by omega) (by omega) h
  have ER2 := fun W => EncodeRecordS_c k f1 f2 W (by omega) (by omega)
  unfold EncPost recV at ER1 ER2
  generalize bs (encR k f1 f2).1 = s at *
  generalize (encR k f1 f2).2 = ok at *
  replace ER1 := Lib.hid ER1
  replace ER2 := Lib.hid ER2
  obtain ⟨q0a, q0b, _, _⟩ := X5.out.two'
  go_wp2_with fail
  refine (ER1.out _ HT.out).mono ?_
  rintro e w4 ⟨rfl, hb4⟩
  replace BX := Lib.hid (Below.chain BX.out hb4)
  replace HK := Lib.hid (HK.out.below hb4)
  replace HT := Lib.hid (HT.out.below hb4)
  replace X3 := Lib.hid (X3.out.below hb4)
  replace X5 := Lib.hid (X5.out.below hb4)
  clear hb4
  clear q0a q0b
  obtain ⟨q0a, q0b, _, _⟩ := X5.out.two'
  go_wp2_with fail
  refine (ER2.out _).mono ?_
  rintro e w5 ⟨rfl, hb5⟩
  replace BX := Lib.hid (Below.chain BX.out hb5)
  replace HK := Lib.hid (HK.out.below hb5)
  replace HT := Lib.hid (HT.out.below hb5)
  replace X3 := Lib.hid (X3.out.below hb5)
  replace X5 := Lib.hid (X5.out.below hb5)
  clear hb5
  clear q0a q0b
  clear ER1 ER2
  clear X5
  go_wp2_with fail
  refine (vCut_c 2 _ xs _ HK.out (by omega) (by decide)).mono ?_
  rintro e w6 ⟨vc2, ys2, rfl, hcy, _, hb6⟩
  replace BX := Lib.hid (Below.chain BX.out hb6)
  replace HK := Lib.hid (HK.out.below hb6)
  replace HT := Lib.hid (HT.out.below hb6)
  replace X3 := Lib.hid (X3.out.below hb6)
  have HY := Lib.hid (hcy)
  clear hb6
  clear hcy
  have HD := Lib.hid (DrawIsValidLog_c _ ys2 _ HY.out)
  unfold logV at HD
  go_wp2_with fail
  refine (HD.out).mono ?_
  rintro e w7 ⟨d0, p0, n0, rfl, hdp0, hb7⟩
  replace BX := Lib.hid (Below.chain BX.out hb7)
  replace HK := Lib.hid (HK.out.below hb7)
  replace HT := Lib.hid (HT.out.below hb7)
  replace X3 := Lib.hid (X3.out.below hb7)
  replace HY := Lib.hid (HY.out.below hb7)
  clear hb7
  clear HD
  clear HY
  have al1 := Lib.hid (below_one (w := w7) (.cells #[.string d0, .string p0, .int .i64 n0] 33))
  replace BX := Lib.hid (Below.alc BX.out (.cells #[.string d0, .string p0, .int .i64 n0] 33))
  replace HK := Lib.hid (HK.out.below al1.out)
  replace HT := Lib.hid (HT.out.below al1.out)
  replace X3 := Lib.hid (X3.out.below al1.out)
  have X10 := Lib.hid (Bk.new w7 33 #[.string d0, .string p0, .int .i64 n0])
  clear al1
  go_wp2_with fail
  refine (vCut_c 3 _ xs _ HK.out (by omega) (by decide)).mono ?_
  rintro e w8 ⟨vc3, ys3, rfl, hcy, _, hb8⟩
  replace BX := Lib.hid (Below.chain BX.out hb8)
  replace HK := Lib.hid (HK.out.below hb8)
  replace HT := Lib.hid (HT.out.below hb8)
  replace X3 := Lib.hid (X3.out.below hb8)
  replace X10 := Lib.hid (X10.out.below hb8)
  have HY := Lib.hid (hcy)
  clear hb8
  clear hcy
  have HD := Lib.hid (DrawAppendRecord_c _ ys3 _ HY.out)
  unfold recV logV at HD
  go_wp2_with fail
  refine (HD.out).mono ?_
  rintro e w9 ⟨d, p, n, g1, g2, rfl, hdp, hg1, hg2, hb9⟩
  replace BX := Lib.hid (Below.chain BX.out hb9)
  replace HK := Lib.hid (HK.out.below hb9)
  replace HT := Lib.hid (HT.out.below hb9)
  replace X3 := Lib.hid (X3.out.below hb9)
  replace X10 := Lib.hid (X10.out.below hb9)
  replace HY := Lib.hid (HY.out.below hb9)
  clear hb9
  clear HD
  clear HY HK
  have al1 := Lib.hid (below_one (w := w9) (.cells #[.string d, .string p, .int .i64 n] 33))
  replace BX := Lib.hid (Below.alc BX.out (.cells #[.string d, .string p, .int .i64 n] 33))
  replace HT := Lib.hid (HT.out.below al1.out)
  replace X3 := Lib.hid (X3.out.below al1.out)
  replace X10 := Lib.hid (X10.out.below al1.out)
  have X11 := Lib.hid (Bk.new w9 33 #[.string d, .string p, .int .i64 n])
  clear al1
  have al1 := Lib.hid (below_one (w := (w9.alloc (.cells #[.string d, .string p, .int .i64 n] 33))) (.cells #[.string g1, .string g2] 25))
  replace BX := Lib.hid (Below.alc BX.out (.cells #[.string g1, .string g2] 25))
  replace HT := Lib.hid (HT.out.below al1.out)
  replace X3 := Lib.hid (X3.out.below al1.out)
  replace X10 := Lib.hid (X10.out.below al1.out)
  replace X11 := Lib.hid (X11.out.below al1.out)
  have X12 := Lib.hid (Bk.new (w9.alloc (.cells #[.string d, .string p, .int .i64 n] 33)) 25 #[.string g1, .string g2])
  simp only [World.size_alloc] at X12
  clear al1
  obtain ⟨d1, p1, n1, st, had, hdet⟩ := app_det d p n g1 g2
  have hsz1 := had.sz
  have AP1 := Lib.hid (fun W h => (AppendRecord_c d p n g1 g2 W (by omega) (by omega) (by omega) (by omega) h).mono fun e w' h => hdet W e w' h)
  have AP2 := Lib.hid (fun W => (AppendRecordS_c d p n g1 g2 W (by omega) (by omega) (by omega) (by omega)).mono fun e w' h => hdet W e w' h)
  have HAD := Lib.hid had
  clear had hdet
  unfold logV recV at AP1 AP2
  obtain ⟨q0a, q0b, q0c, _, _, _⟩ := X11.out.three'
  obtain ⟨q1a, q1b, _, _⟩ := X12.out.two'
  go_wp2_with fail
  refine (AP1.out _ HT.out).mono ?_
  rintro e w10 ⟨rfl, hb10⟩
  replace BX := Lib.hid (Below.chain BX.out hb10)
  replace HT := Lib.hid (HT.out.below hb10)
  replace X3 := Lib.hid (X3.out.below hb10)
  replace X10 := Lib.hid (X10.out.below hb10)
  replace X11 := Lib.hid (X11.out.below hb10)
  replace X12 := Lib.hid (X12.out.below hb10)
  clear hb10
  clear q0a q0b q0c q1a q1b
  have al1 := Lib.hid (below_one (w := w10) (.cells #[.string d1, .string p1, .int .i64 n1] 33))
  replace BX := Lib.hid (Below.alc BX.out (.cells #[.string d1, .string p1, .int .i64 n1] 33))
  replace HT := Lib.hid (HT.out.below al1.out)
  replace X3 := Lib.hid (X3.out.below al1.out)
  replace X10 := Lib.hid (X10.out.below al1.out)
  replace X11 := Lib.hid (X11.out.below al1.out)
  replace X12 := Lib.hid (X12.out.below al1.out)
  have X13 := Lib.hid (Bk.new w10 33 #[.string d1, .string p1, .int .i64 n1])
  clear al1
  obtain ⟨q0a, q0b, q0c, _, _, _⟩ := X11.out.three'
  obtain ⟨q1a, q1b, _, _⟩ := X12.out.two'
  go_wp2_with fail
  refine (AP2.out _).mono ?_
  rintro e w11 ⟨rfl, hb11⟩
  replace BX := Lib.hid (Below.chain BX.out hb11)
  replace HT := Lib.hid (HT.out.below hb11)
  replace X3 := Lib.hid (X3.out.below hb11)
  replace X10 := Lib.hid (X10.out.below hb11)
  replace X11 := Lib.hid (X11.out.below hb11)
  replace X12 := Lib.hid (X12.out.below hb11)
  replace X13 := Lib.hid (X13.out.below hb11)
  clear hb11
  clear q0a q0b q0c q1a q1b
  have al1 := Lib.hid (below_one (w := w11) (.cells #[.string d1, .string p1, .int .i64 n1] 33))
  replace BX := Lib.hid (Below.alc BX.out (.cells #[.string d1, .string p1, .int .i64 n1] 33))
  replace HT := Lib.hid (HT.out.below al1.out)
  replace X3 := Lib.hid (X3.out.below al1.out)
  replace X10 := Lib.hid (X10.out.below al1.out)
  replace X11 := Lib.hid (X11.out.below al1.out)
  replace X12 := Lib.hid (X12.out.below al1.out)
  replace X13 := Lib.hid (X13.out.below al1.out)
  have X15 := Lib.hid (Bk.new w11 33 #[.string d1, .string p1, .int .i64 n1])
  clear al1
  clear AP1 AP2
  obtain ⟨v0, hv0⟩ := val_det d0 p0 n0
  have IR1 := Lib.hid (fun W => IsValidRecord_c e1 e2 W (by omega) (by omega))
  have IR2 := Lib.hid (fun W => sIsValidRecord_c e1 e2 W (by omega) (by omega))
  have IL1 := Lib.hid (fun W h => (IsValidLog_c d0 p0 n0 W (by omega) (by omega) h).mono fun e w' h => hv0 W e w' h)
  have IL2 := Lib.hid (fun W => (IsValidLogS_c d0 p0 n0 W (by omega) (by omega)).mono fun e w' h => hv0 W e w' h)
  clear hv0
  unfold recV at IR1 IR2
  unfold logV at IL1 IL2
  generalize recB e1 e2 = rb at *
  have eD := str_eq (rfl : d1 = d1)
  have eP := str_eq (rfl : p1 = p1)
  have eS := str_eq (rfl : s = s)
  go_wp2_with fail
  generalize World.alloc w11 (.cells #[.string d1, .string p1, .int .i64 n1] 33) = wz1 at *
  refine wp_region_noPanic ?_
  refine wp_region_held_drew (S := fun w' : World => Below wz1.heap.size wz1 w') (by kernel_rfl) (Below.refl _ _).drew (fun hHeld => ?_)
  refine' wpAnyH_take (i := 0) (oi := _) (v := _) ?e_1 ?a_1 ?b_1 ?c_1 ?q_1 ?y_1 hHeld ?r_1
  case e_1 => (simp only [List.getElem?_toArray, List.getElem?_cons_zero, List.getElem?_cons_succ]; exact rfl)
  case a_1 => kernel_rfl
  case b_1 => kernel_rfl
  case c_1 => kernel_rfl
  case q_1 => exact fun _ _ _ h => h
  case y_1 =>
    refine' yieldsIf_load_mid ?hw_1 _ _ rfl _ _ rfl [.string e1, .string e2] _ ?hS_1 ?hu_1 ?hd_1 ?hi_1
    case hw_1 => rfl
    case hS_1 => exact fun (w' : World) (h : Below wz1.heap.size wz1 w') => Bk.rangeL (b := [.string e1, .string e2]) (X3.out.below h)
    case hu_1 => exact Tryd.underlying25
    case hd_1 => rfl
    case hi_1 => exact info_Rec2
  try simp only [Act.put, List.setIfInBounds_toArray, List.set_cons_zero, List.set_cons_succ]
  refine' wpAnyH_take (i := 2) (oi := _) (v := _) ?e_2 ?a_2 ?b_2 ?c_2 ?q_2 ?y_2 hHeld ?r_2
  case e_2 => (simp only [List.getElem?_toArray, List.getElem?_cons_zero, List.getElem?_cons_succ]; exact rfl)
  case a_2 => kernel_rfl
  case b_2 => kernel_rfl
  case c_2 => kernel_rfl
  case q_2 => exact fun _ _ _ h => h
  case y_2 =>
    refine' yieldsIf_load_mid ?hw_2 _ _ rfl _ _ rfl [.string e1, .string e2] _ ?hS_2 ?hu_2 ?hd_2 ?hi_2
    case hw_2 => rfl
    case hS_2 => exact fun (w' : World) (h : Below wz1.heap.size wz1 w') => Bk.rangeL (b := [.string e1, .string e2]) (X3.out.below h)
    case hu_2 => exact Tryd.underlying25
    case hd_2 => rfl
    case hi_2 => exact info_Rec2
  try simp only [Act.put, List.setIfInBounds_toArray, List.set_cons_zero, List.set_cons_succ]
  refine wpAnyH_ready (rs := [1]) (by kernel_rfl) (by simp) ?_
  refine' AllReadyH.cons (o := _) ?e_3 ?st_3 AllReadyH.nil
  case e_3 => (simp only [List.getElem?_toArray, List.getElem?_cons_zero, List.getElem?_cons_succ]; exact rfl)
  intro K hK
  go_simp
  have lB := hHeld
  refine (IR1.out _).mono ?_
  rintro e c1_1 ⟨rfl, hb1_1⟩
  go_wp2_with fail
  refine hK.out _ _ (chain_back hb1_1 lB) (fun hHeld => ?_)
  clear lB hb1_1
  clear hK K
  try simp only [Act.put, List.setIfInBounds_toArray, List.set_cons_zero, List.set_cons_succ]
  refine wpAnyH_ready (rs := [3]) (by kernel_rfl) (by simp) ?_
  refine' AllReadyH.cons (o := _) ?e_4 ?st_4 AllReadyH.nil
  case e_4 => (simp only [List.getElem?_toArray, List.getElem?_cons_zero, List.getElem?_cons_succ]; exact rfl)
  intro K hK
  go_simp
  have lB := hHeld
  refine (IR2.out _).mono ?_
  rintro e c1_2 ⟨rfl, hb1_2⟩
  go_wp2_with fail
  refine hK.out _ _ (chain_back hb1_2 lB) (fun hHeld => ?_)
  clear lB hb1_2
  clear hK K
  try simp only [Act.put, List.setIfInBounds_toArray, List.set_cons_zero, List.set_cons_succ]
  refine' wpAnyH_take (i := 4) (oi := _) (v := _) ?e_5 ?a_5 ?b_5 ?c_5 ?q_5 ?y_5 hHeld ?r_5
  case e_5 => (simp only [List.getElem?_toArray, List.getElem?_cons_zero, List.getElem?_cons_succ]; exact rfl)
  case a_5 => kernel_rfl
  case b_5 => kernel_rfl
  case c_5 => kernel_rfl
  case q_5 => exact fun _ _ _ h => h
  case y_5 => exact Or.inl ⟨by rfl, by (intro w hSw; (try dsimp only at hSw); go_simp; first | done | with_reducible rfl)⟩
  try simp only [Act.put, List.setIfInBounds_toArray, List.set_cons_zero, List.set_cons_succ]
  refine' wpAnyH_take (i := 5) (oi := _) (v := _) ?e_6 ?a_6 ?b_6 ?c_6 ?q_6 ?y_6 hHeld ?r_6
  case e_6 => (simp only [List.getElem?_toArray, List.getElem?_cons_zero, List.getElem?_cons_succ]; exact rfl)
  case a_6 => kernel_rfl
  case b_6 => kernel_rfl
  case c_6 => kernel_rfl
  case q_6 => exact fun _ _ _ h => h
  case y_6 => exact Or.inl ⟨by rfl, by (intro w hSw; (try dsimp only at hSw); go_simp; first | done | with_reducible rfl)⟩
  try simp only [Act.put, List.setIfInBounds_toArray, List.set_cons_zero, List.set_cons_succ]
  refine' wpAnyH_take (i := 6) (oi := _) (v := _) ?e_7 ?a_7 ?b_7 ?c_7 ?q_7 ?y_7 hHeld ?r_7
  case e_7 => (simp only [List.getElem?_toArray, List.getElem?_cons_zero, List.getElem?_cons_succ]; exact rfl)
  case a_7 => kernel_rfl
  case b_7 => kernel_rfl
  case c_7 => kernel_rfl
  case q_7 => exact fun _ _ _ h => h
  case y_7 => exact Or.inl ⟨by rfl, by (intro w hSw; (try dsimp only at hSw); go_simp; first | done | with_reducible rfl)⟩
  try simp only [Act.put, List.setIfInBounds_toArray, List.set_cons_zero, List.set_cons_succ]
  refine' wpAnyH_take (i := 7) (oi := _) (v := _) ?e_8 ?a_8 ?b_8 ?c_8 ?q_8 ?y_8 hHeld ?r_8
  case e_8 => (simp only [List.getElem?_toArray, List.getElem?_cons_zero, List.getElem?_cons_succ]; exact rfl)
  case a_8 => kernel_rfl
  case b_8 => kernel_rfl
  case c_8 => kernel_rfl
  case q_8 => exact fun _ _ _ h => h
  case y_8 => exact Or.inl ⟨by rfl, by (intro w hSw; (try dsimp only at hSw); go_simp; first | done | with_reducible rfl)⟩
  try simp only [Act.put, List.setIfInBounds_toArray, List.set_cons_zero, List.set_cons_succ]
  refine' wpAnyH_take (i := 8) (oi := _) (v := _) ?e_9 ?a_9 ?b_9 ?c_9 ?q_9 ?y_9 hHeld ?r_9
  case e_9 => (simp only [List.getElem?_toArray, List.getElem?_cons_zero, List.getElem?_cons_succ]; exact rfl)
  case a_9 => kernel_rfl
  case b_9 => kernel_rfl
  case c_9 => kernel_rfl
  case q_9 => exact fun _ _ _ h => h
  case y_9 => exact Or.inl ⟨by rfl, by (intro w hSw; (try dsimp only at hSw); go_simp; first | done | with_reducible rfl)⟩
  try simp only [Act.put, List.setIfInBounds_toArray, List.set_cons_zero, List.set_cons_succ]
  refine' wpAnyH_take (i := 9) (oi := _) (v := _) ?e_10 ?a_10 ?b_10 ?c_10 ?q_10 ?y_10 hHeld ?r_10
  case e_10 => (simp only [List.getElem?_toArray, List.getElem?_cons_zero, List.getElem?_cons_succ]; exact rfl)
  case a_10 => kernel_rfl
  case b_10 => kernel_rfl
  case c_10 => kernel_rfl
  case q_10 => exact fun _ _ _ h => h
  case y_10 => exact Or.inl ⟨by rfl, by (intro w hSw; (try dsimp only at hSw); go_simp; first | done | with_reducible rfl)⟩
  try simp only [Act.put, List.setIfInBounds_toArray, List.set_cons_zero, List.set_cons_succ]
  refine' wpAnyH_take (i := 10) (oi := _) (v := _) ?e_11 ?a_11 ?b_11 ?c_11 ?q_11 ?y_11 hHeld ?r_11
  case e_11 => (simp only [List.getElem?_toArray, List.getElem?_cons_zero, List.getElem?_cons_succ]; exact rfl)
  case a_11 => kernel_rfl
  case b_11 => kernel_rfl
  case c_11 => kernel_rfl
  case q_11 => exact fun _ _ _ h => h
  case y_11 => exact Or.inl ⟨by rfl, by (intro w hSw; (try dsimp only at hSw); go_simp; first | done | with_reducible rfl)⟩
  try simp only [Act.put, List.setIfInBounds_toArray, List.set_cons_zero, List.set_cons_succ]
  refine' wpAnyH_take (i := 11) (oi := _) (v := _) ?e_12 ?a_12 ?b_12 ?c_12 ?q_12 ?y_12 hHeld ?r_12
  case e_12 => (simp only [List.getElem?_toArray, List.getElem?_cons_zero, List.getElem?_cons_succ]; exact rfl)
  case a_12 => kernel_rfl
  case b_12 => kernel_rfl
  case c_12 => kernel_rfl
  case q_12 => exact fun _ _ _ h => h
  case y_12 => exact Or.inl ⟨by rfl, by (intro w hSw; (try dsimp only at hSw); go_simp; first | done | with_reducible rfl)⟩
  try simp only [Act.put, List.setIfInBounds_toArray, List.set_cons_zero, List.set_cons_succ]
  refine' wpAnyH_take (i := 12) (oi := _) (v := _) ?e_13 ?a_13 ?b_13 ?c_13 ?q_13 ?y_13 hHeld ?r_13
  case e_13 => (simp only [List.getElem?_toArray, List.getElem?_cons_zero, List.getElem?_cons_succ]; exact rfl)
  case a_13 => kernel_rfl
  case b_13 => kernel_rfl
  case c_13 => kernel_rfl
  case q_13 => exact fun _ _ _ h => h
  case y_13 => exact Or.inl ⟨by rfl, by (intro w hSw; (try dsimp only at hSw); go_simp; first | done | with_reducible rfl)⟩
  try simp only [Act.put, List.setIfInBounds_toArray, List.set_cons_zero, List.set_cons_succ]
  refine' wpAnyH_take (i := 13) (oi := _) (v := _) ?e_14 ?a_14 ?b_14 ?c_14 ?q_14 ?y_14 hHeld ?r_14
  case e_14 => (simp only [List.getElem?_toArray, List.getElem?_cons_zero, List.getElem?_cons_succ]; exact rfl)
  case a_14 => kernel_rfl
  case b_14 => kernel_rfl
  case c_14 => kernel_rfl
  case q_14 => exact fun _ _ _ h => h
  case y_14 => exact Or.inl ⟨by rfl, by (intro w hSw; (try dsimp only at hSw); go_simp; first | done | with_reducible rfl)⟩
  try simp only [Act.put, List.setIfInBounds_toArray, List.set_cons_zero, List.set_cons_succ]
  refine' wpAnyH_take (i := 14) (oi := _) (v := _) ?e_15 ?a_15 ?b_15 ?c_15 ?q_15 ?y_15 hHeld ?r_15
  case e_15 => (simp only [List.getElem?_toArray, List.getElem?_cons_zero, List.getElem?_cons_succ]; exact rfl)
  case a_15 => kernel_rfl
  case b_15 => kernel_rfl
  case c_15 => kernel_rfl
  case q_15 => exact fun _ _ _ h => h
  case y_15 => exact Or.inl ⟨by rfl, by (intro w hSw; (try dsimp only at hSw); go_simp; first | done | with_reducible rfl)⟩
  try simp only [Act.put, List.setIfInBounds_toArray, List.set_cons_zero, List.set_cons_succ]
  refine' wpAnyH_take (i := 15) (oi := _) (v := _) ?e_16 ?a_16 ?b_16 ?c_16 ?q_16 ?y_16 hHeld ?r_16
  case e_16 => (simp only [List.getElem?_toArray, List.getElem?_cons_zero, List.getElem?_cons_succ]; exact rfl)
  case a_16 => kernel_rfl
  case b_16 => kernel_rfl
  case c_16 => kernel_rfl
  case q_16 => exact fun _ _ _ h => h
  case y_16 => exact Or.inl ⟨by rfl, by (intro w hSw; (try dsimp only at hSw); go_simp; first | done | with_reducible rfl)⟩
  try simp only [Act.put, List.setIfInBounds_toArray, List.set_cons_zero, List.set_cons_succ]
  refine' wpAnyH_take (i := 16) (oi := _) (v := _) ?e_17 ?a_17 ?b_17 ?c_17 ?q_17 ?y_17 hHeld ?r_17
  case e_17 => (simp only [List.getElem?_toArray, List.getElem?_cons_zero, List.getElem?_cons_succ]; exact rfl)
  case a_17 => kernel_rfl
  case b_17 => kernel_rfl
  case c_17 => kernel_rfl
  case q_17 => exact fun _ _ _ h => h
  case y_17 =>
    refine' yieldsIf_load_mid ?hw_17 _ _ rfl _ _ rfl [.string d0, .string p0, .int .i64 n0] _ ?hS_17 ?hu_17 ?hd_17 ?hi_17
    case hw_17 => rfl
    case hS_17 => exact fun (w' : World) (h : Below wz1.heap.size wz1 w') => Bk.rangeL (b := [.string d0, .string p0, .int .i64 n0]) (X10.out.below h)
    case hu_17 => exact Tryd.underlying33
    case hd_17 => rfl
    case hi_17 => exact info_Log3
  try simp only [Act.put, List.setIfInBounds_toArray, List.set_cons_zero, List.set_cons_succ]
  refine' wpAnyH_take (i := 18) (oi := _) (v := _) ?e_18 ?a_18 ?b_18 ?c_18 ?q_18 ?y_18 hHeld ?r_18
  case e_18 => (simp only [List.getElem?_toArray, List.getElem?_cons_zero, List.getElem?_cons_succ]; exact rfl)
  case a_18 => kernel_rfl
  case b_18 => kernel_rfl
  case c_18 => kernel_rfl
  case q_18 => exact fun _ _ _ h => h
  case y_18 =>
    refine' yieldsIf_load_mid ?hw_18 _ _ rfl _ _ rfl [.string d0, .string p0, .int .i64 n0] _ ?hS_18 ?hu_18 ?hd_18 ?hi_18
    case hw_18 => rfl
    case hS_18 => exact fun (w' : World) (h : Below wz1.heap.size wz1 w') => Bk.rangeL (b := [.string d0, .string p0, .int .i64 n0]) (X10.out.below h)
    case hu_18 => exact Tryd.underlying33
    case hd_18 => rfl
    case hi_18 => exact info_Log3
  try simp only [Act.put, List.setIfInBounds_toArray, List.set_cons_zero, List.set_cons_succ]
  refine wpAnyH_ready (rs := [17]) (by kernel_rfl) (by simp) ?_
  refine' AllReadyH.cons (o := _) ?e_19 ?st_19 AllReadyH.nil
  case e_19 => (simp only [List.getElem?_toArray, List.getElem?_cons_zero, List.getElem?_cons_succ]; exact rfl)
  intro K hK
  go_simp
  have lB := hHeld
  refine (IL1.out _ (HT.out.below lB)).mono ?_
  rintro e c1_3 ⟨rfl, hb1_3⟩
  go_wp2_with fail
  refine hK.out _ _ (chain_back hb1_3 lB) (fun hHeld => ?_)
  clear lB hb1_3
  clear hK K
  try simp only [Act.put, List.setIfInBounds_toArray, List.set_cons_zero, List.set_cons_succ]
  refine wpAnyH_ready (rs := [19]) (by kernel_rfl) (by simp) ?_
  refine' AllReadyH.cons (o := _) ?e_20 ?st_20 AllReadyH.nil
  case e_20 => (simp only [List.getElem?_toArray, List.getElem?_cons_zero, List.getElem?_cons_succ]; exact rfl)
  intro K hK
  go_simp
  have lB := hHeld
  refine (IL2.out _).mono ?_
  rintro e c1_4 ⟨rfl, hb1_4⟩
  go_wp2_with fail
  refine hK.out _ _ (chain_back hb1_4 lB) (fun hHeld => ?_)
  clear lB hb1_4
  clear hK K
  try simp only [Act.put, List.setIfInBounds_toArray, List.set_cons_zero, List.set_cons_succ]
  refine' wpAnyH_take (i := 20) (oi := _) (v := _) ?e_21 ?a_21 ?b_21 ?c_21 ?q_21 ?y_21 hHeld ?r_21
  case e_21 => (simp only [List.getElem?_toArray, List.getElem?_cons_zero, List.getElem?_cons_succ]; exact rfl)
  case a_21 => kernel_rfl
  case b_21 => kernel_rfl
  case c_21 => kernel_rfl
  case q_21 => exact fun _ _ _ h => h
  case y_21 => exact Or.inl ⟨by rfl, by (intro w hSw; (try dsimp only at hSw); go_simp; first | done | with_reducible rfl)⟩
  try simp only [Act.put, List.setIfInBounds_toArray, List.set_cons_zero, List.set_cons_succ]
  refine' wpAnyH_take (i := 21) (oi := _) (v := _) ?e_22 ?a_22 ?b_22 ?c_22 ?q_22 ?y_22 hHeld ?r_22
  case e_22 => (simp only [List.getElem?_toArray, List.getElem?_cons_zero, List.getElem?_cons_succ]; exact rfl)
  case a_22 => kernel_rfl
  case b_22 => kernel_rfl
  case c_22 => kernel_rfl
  case q_22 => exact fun _ _ _ h => h
  case y_22 => exact Or.inl ⟨by rfl, by (intro w hSw; (try dsimp only at hSw); go_simp; first | done | with_reducible rfl)⟩
  try simp only [Act.put, List.setIfInBounds_toArray, List.set_cons_zero, List.set_cons_succ]
  refine' wpAnyH_take (i := 22) (oi := _) (v := _) ?e_23 ?a_23 ?b_23 ?c_23 ?q_23 ?y_23 hHeld ?r_23
  case e_23 => (simp only [List.getElem?_toArray, List.getElem?_cons_zero, List.getElem?_cons_succ]; exact rfl)
  case a_23 => kernel_rfl
  case b_23 => kernel_rfl
  case c_23 => kernel_rfl
  case q_23 => exact fun _ _ _ h => h
  case y_23 => exact Or.inl ⟨by rfl, by (intro w hSw; (try dsimp only at hSw); go_simp; first | done | with_reducible rfl)⟩
  try simp only [Act.put, List.setIfInBounds_toArray, List.set_cons_zero, List.set_cons_succ]
  refine' wpAnyH_take (i := 23) (oi := _) (v := _) ?e_24 ?a_24 ?b_24 ?c_24 ?q_24 ?y_24 hHeld ?r_24
  case e_24 => (simp only [List.getElem?_toArray, List.getElem?_cons_zero, List.getElem?_cons_succ]; exact rfl)
  case a_24 => kernel_rfl
  case b_24 => kernel_rfl
  case c_24 => kernel_rfl
  case q_24 => exact fun _ _ _ h => h
  case y_24 =>
    refine' yieldsIf_load_mid ?hw_24 _ _ rfl _ _ rfl [.string d1, .string p1, .int .i64 n1] _ ?hS_24 ?hu_24 ?hd_24 ?hi_24
    case hw_24 => rfl
    case hS_24 => exact fun (w' : World) (h : Below wz1.heap.size wz1 w') => Bk.rangeL (b := [.string d1, .string p1, .int .i64 n1]) (X13.out.below h)
    case hu_24 => exact Tryd.underlying33
    case hd_24 => rfl
    case hi_24 => exact info_Log3
  try simp only [Act.put, List.setIfInBounds_toArray, List.set_cons_zero, List.set_cons_succ]
  refine' wpAnyH_take (i := 24) (oi := _) (v := _) ?e_25 ?a_25 ?b_25 ?c_25 ?q_25 ?y_25 hHeld ?r_25
  case e_25 => (simp only [List.getElem?_toArray, List.getElem?_cons_zero, List.getElem?_cons_succ]; exact rfl)
  case a_25 => kernel_rfl
  case b_25 => kernel_rfl
  case c_25 => kernel_rfl
  case q_25 => exact fun _ _ _ h => h
  case y_25 =>
    refine' yieldsIf_load_mid ?hw_25 _ _ rfl _ _ rfl [.string d1, .string p1, .int .i64 n1] _ ?hS_25 ?hu_25 ?hd_25 ?hi_25
    case hw_25 => rfl
    case hS_25 => exact fun (w' : World) (h : Below wz1.heap.size wz1 w') => Bk.rangeL (b := [.string d1, .string p1, .int .i64 n1]) (X15.out.below h)
    case hu_25 => exact Tryd.underlying33
    case hd_25 => rfl
    case hi_25 => exact info_Log3
  try simp only [Act.put, List.setIfInBounds_toArray, List.set_cons_zero, List.set_cons_succ]
  refine' wpAnyH_take (i := 25) (oi := _) (v := _) ?e_26 ?a_26 ?b_26 ?c_26 ?q_26 ?y_26 hHeld ?r_26
  case e_26 => (simp only [List.getElem?_toArray, List.getElem?_cons_zero, List.getElem?_cons_succ]; exact rfl)
  case a_26 => kernel_rfl
  case b_26 => kernel_rfl
  case c_26 => kernel_rfl
  case q_26 => exact fun _ _ _ h => h
  case y_26 => exact Or.inl ⟨by rfl, by (intro w hSw; (try dsimp only at hSw); go_simp; first | done | with_reducible rfl)⟩
  try simp only [Act.put, List.setIfInBounds_toArray, List.set_cons_zero, List.set_cons_succ]
  refine' wpAnyH_take (i := 26) (oi := _) (v := _) ?e_27 ?a_27 ?b_27 ?c_27 ?q_27 ?y_27 hHeld ?r_27
  case e_27 => (simp only [List.getElem?_toArray, List.getElem?_cons_zero, List.getElem?_cons_succ]; exact rfl)
  case a_27 => kernel_rfl
  case b_27 => kernel_rfl
  case c_27 => kernel_rfl
  case q_27 => exact fun _ _ _ h => h
  case y_27 => exact Or.inl ⟨by rfl, by (intro w hSw; (try dsimp only at hSw); go_simp; first | done | with_reducible rfl)⟩
  try simp only [Act.put, List.setIfInBounds_toArray, List.set_cons_zero, List.set_cons_succ]
  refine' wpAnyH_take (i := 27) (oi := _) (v := _) ?e_28 ?a_28 ?b_28 ?c_28 ?q_28 ?y_28 hHeld ?r_28
  case e_28 => (simp only [List.getElem?_toArray, List.getElem?_cons_zero, List.getElem?_cons_succ]; exact rfl)
  case a_28 => kernel_rfl
  case b_28 => kernel_rfl
  case c_28 => kernel_rfl
  case q_28 => exact fun _ _ _ h => h
  case y_28 => exact Or.inl ⟨by rfl, by (intro w hSw; (try dsimp only at hSw); go_simp; first | done | with_reducible rfl)⟩
  try simp only [Act.put, List.setIfInBounds_toArray, List.set_cons_zero, List.set_cons_succ]
  refine' wpAnyH_take (i := 28) (oi := _) (v := _) ?e_29 ?a_29 ?b_29 ?c_29 ?q_29 ?y_29 hHeld ?r_29
  case e_29 => (simp only [List.getElem?_toArray, List.getElem?_cons_zero, List.getElem?_cons_succ]; exact rfl)
  case a_29 => kernel_rfl
  case b_29 => kernel_rfl
  case c_29 => kernel_rfl
  case q_29 => exact fun _ _ _ h => h
  case y_29 => exact Or.inl ⟨by rfl, by (intro w hSw; (try dsimp only at hSw); go_simp; first | done | with_reducible rfl)⟩
  try simp only [Act.put, List.setIfInBounds_toArray, List.set_cons_zero, List.set_cons_succ]
  refine' wpAnyH_take (i := 29) (oi := _) (v := _) ?e_30 ?a_30 ?b_30 ?c_30 ?q_30 ?y_30 hHeld ?r_30
  case e_30 => (simp only [List.getElem?_toArray, List.getElem?_cons_zero, List.getElem?_cons_succ]; exact rfl)
  case a_30 => kernel_rfl
  case b_30 => kernel_rfl
  case c_30 => kernel_rfl
  case q_30 => exact fun _ _ _ h => h
  case y_30 => exact Or.inl ⟨by rfl, by (intro w hSw; (try dsimp only at hSw); go_simp; first | done | with_reducible rfl)⟩
  try simp only [Act.put, List.setIfInBounds_toArray, List.set_cons_zero, List.set_cons_succ]
  refine' wpAnyH_take (i := 30) (oi := _) (v := _) ?e_31 ?a_31 ?b_31 ?c_31 ?q_31 ?y_31 hHeld ?r_31
  case e_31 => (simp only [List.getElem?_toArray, List.getElem?_cons_zero, List.getElem?_cons_succ]; exact rfl)
  case a_31 => kernel_rfl
  case b_31 => kernel_rfl
  case c_31 => kernel_rfl
  case q_31 => exact fun _ _ _ h => h
  case y_31 => exact Or.inl ⟨by rfl, by (intro w hSw; (try dsimp only at hSw); go_simp; first | done | with_reducible rfl)⟩
  try simp only [Act.put, List.setIfInBounds_toArray, List.set_cons_zero, List.set_cons_succ]
  refine' wpAnyH_take (i := 31) (oi := _) (v := _) ?e_32 ?a_32 ?b_32 ?c_32 ?q_32 ?y_32 hHeld ?r_32
  case e_32 => (simp only [List.getElem?_toArray, List.getElem?_cons_zero, List.getElem?_cons_succ]; exact rfl)
  case a_32 => kernel_rfl
  case b_32 => kernel_rfl
  case c_32 => kernel_rfl
  case q_32 => exact fun _ _ _ h => h
  case y_32 => exact Or.inl ⟨by rfl, by (intro w hSw; (try dsimp only at hSw); go_simp; first | done | with_reducible rfl)⟩
  try simp only [Act.put, List.setIfInBounds_toArray, List.set_cons_zero, List.set_cons_succ]
  refine wpAnyH_done (by kernel_rfl) ?_ _
  refine NoPanic.normal ?_
  have lB := hHeld
  replace BX := Lib.hid (Below.chain BX.out lB)
  replace HT := Lib.hid (HT.out.below lB)
  replace X3 := Lib.hid (X3.out.below lB)
  replace X10 := Lib.hid (X10.out.below lB)
  replace X11 := Lib.hid (X11.out.below lB)
  replace X12 := Lib.hid (X12.out.below lB)
  replace X13 := Lib.hid (X13.out.below lB)
  replace X15 := Lib.hid (X15.out.below lB)
  clear lB hHeld
  rename World => wy1
  clear IR1 IR2 IL1 IL2 eS
  clear X3 X10
  obtain ⟨d2, p2, n2, fine, hsd, hdet⟩ := sync_det d p n
  have hsz2 := hsd.sz
  have SY1 := Lib.hid (fun W h => (SyncLog_c d p n W (by omega) (by omega) h).mono fun e w' h => hdet W e w' h)
  have SY2 := Lib.hid (fun W => (SyncLogS_c d p n W (by omega) (by omega)).mono fun e w' h => hdet W e w' h)
  have HSD := Lib.hid hsd
  clear hsd hdet
  obtain ⟨es, there, hesl, huq, hdet⟩ := lrec_det d p n
  have LR1 := Lib.hid (fun W h => (LogRecords_c d p n W (by omega) (by omega) h).mono fun e w' h => hdet W e w' h)
  have LR2 := Lib.hid (fun W => (LogRecordsS_c d p n W (by omega) (by omega)).mono fun e w' h => hdet W e w' h)
  have HUQ := Lib.hid huq
  clear huq hdet
  obtain ⟨es2, there2, hesl2, huq, hdet⟩ := lrec_det d2 p2 n2
  have LR3 := Lib.hid (fun W h => (LogRecords_c d2 p2 n2 W (by omega) (by omega) h).mono fun e w' h => hdet W e w' h)
  have HUQ2 := Lib.hid huq
  clear huq hdet
  have HE2 : Hid (fine = true → es2 = es) := fun hf => by
    obtain ⟨x, h1, h2⟩ := HSD.out.yes hf
    rw [← HUQ2.out x h2, ← HUQ.out x h1]
  unfold logV at SY1 SY2 LR1 LR2 LR3
  clear HSD HUQ2
  obtain ⟨q0a, q0b, q0c, _, _, _⟩ := X11.out.three'
  go_wp2_with fail
  refine (SY1.out _ HT.out).mono ?_
  rintro e w12 ⟨rfl, hb12⟩
  replace BX := Lib.hid (Below.chain BX.out hb12)
  replace HT := Lib.hid (HT.out.below hb12)
  replace X11 := Lib.hid (X11.out.below hb12)
  replace X12 := Lib.hid (X12.out.below hb12)
  replace X13 := Lib.hid (X13.out.below hb12)
  replace X15 := Lib.hid (X15.out.below hb12)
  clear hb12
  clear q0a q0b q0c
  have al1 := Lib.hid (below_one (w := w12) (.cells #[.string d2, .string p2, .int .i64 n2] 33))
  replace BX := Lib.hid (Below.alc BX.out (.cells #[.string d2, .string p2, .int .i64 n2] 33))
  replace HT := Lib.hid (HT.out.below al1.out)
  replace X11 := Lib.hid (X11.out.below al1.out)
  replace X12 := Lib.hid (X12.out.below al1.out)
  replace X13 := Lib.hid (X13.out.below al1.out)
  replace X15 := Lib.hid (X15.out.below al1.out)
  have X17 := Lib.hid (Bk.new w12 33 #[.string d2, .string p2, .int .i64 n2])
  clear al1
  obtain ⟨q0a, q0b, q0c, _, _, _⟩ := X11.out.three'
  go_wp2_with fail
  refine (SY2.out _).mono ?_
  rintro e w13 ⟨rfl, hb13⟩
  replace BX := Lib.hid (Below.chain BX.out hb13)
  replace HT := Lib.hid (HT.out.below hb13)
  replace X11 := Lib.hid (X11.out.below hb13)
  replace X12 := Lib.hid (X12.out.below hb13)
  replace X13 := Lib.hid (X13.out.below hb13)
  replace X15 := Lib.hid (X15.out.below hb13)
  replace X17 := Lib.hid (X17.out.below hb13)
  clear hb13
  clear q0a q0b q0c
  have al1 := Lib.hid (below_one (w := w13) (.cells #[.string d2, .string p2, .int .i64 n2] 33))
  replace BX := Lib.hid (Below.alc BX.out (.cells #[.string d2, .string p2, .int .i64 n2] 33))
  replace HT := Lib.hid (HT.out.below al1.out)
  replace X11 := Lib.hid (X11.out.below al1.out)
  replace X12 := Lib.hid (X12.out.below al1.out)
  replace X13 := Lib.hid (X13.out.below al1.out)
  replace X15 := Lib.hid (X15.out.below al1.out)
  replace X17 := Lib.hid (X17.out.below al1.out)
  have X19 := Lib.hid (Bk.new w13 33 #[.string d2, .string p2, .int .i64 n2])
  clear al1
  obtain ⟨q0a, q0b, q0c, _, _, _⟩ := X11.out.three'
  go_wp2_with fail
  refine (LR1.out _ HT.out).mono ?_
  rintro e w14 ⟨aa, ca, rfl, hsa, hca, hca2, hb14⟩
  replace BX := Lib.hid (Below.chain BX.out hb14)
  replace HT := Lib.hid (HT.out.below hb14)
  replace X11 := Lib.hid (X11.out.below hb14)
  replace X12 := Lib.hid (X12.out.below hb14)
  replace X13 := Lib.hid (X13.out.below hb14)
  replace X15 := Lib.hid (X15.out.below hb14)
  replace X17 := Lib.hid (X17.out.below hb14)
  replace X19 := Lib.hid (X19.out.below hb14)
  have SA := Lib.hid (hsa)
  clear hb14
  clear q0a q0b q0c
  clear hsa
  obtain ⟨q0a, q0b, q0c, _, _, _⟩ := X11.out.three'
  go_wp2_with fail
  refine (LR2.out _).mono ?_
  rintro e w15 ⟨ab, cb, rfl, hsb, hcb, hcb2, hb15⟩
  replace BX := Lib.hid (Below.chain BX.out hb15)
  replace HT := Lib.hid (HT.out.below hb15)
  replace X11 := Lib.hid (X11.out.below hb15)
  replace X12 := Lib.hid (X12.out.below hb15)
  replace X13 := Lib.hid (X13.out.below hb15)
  replace X15 := Lib.hid (X15.out.below hb15)
  replace X17 := Lib.hid (X17.out.below hb15)
  replace X19 := Lib.hid (X19.out.below hb15)
  replace SA := Lib.hid (SA.out.below hb15)
  have SB := Lib.hid (hsb)
  clear hb15
  clear q0a q0b q0c
  clear hsb SY1 SY2 LR1 LR2
  have eD2 := str_eq (rfl : d2 = d2)
  have eP2 := str_eq (rfl : p2 = p2)
  have VR := Lib.hid (fun W h1 h2 => vRecords_c (.slice aa es.length ca) (.slice ab es.length cb) es W h1 h2)
  obtain ⟨q0a, q0b, q0c, _, _, _⟩ := X17.out.three'
  obtain ⟨q1a, q1b, q1c, _, _, _⟩ := X19.out.three'
  go_wp2_with fail
  refine (VR.out _ SA.out SB.out).mono ?_
  rintro e w16 ⟨rfl, hb16⟩
  replace BX := Lib.hid (Below.chain BX.out hb16)
  replace HT := Lib.hid (HT.out.below hb16)
  replace X11 := Lib.hid (X11.out.below hb16)
  replace X12 := Lib.hid (X12.out.below hb16)
  replace X13 := Lib.hid (X13.out.below hb16)
  replace X15 := Lib.hid (X15.out.below hb16)
  replace X17 := Lib.hid (X17.out.below hb16)
  replace X19 := Lib.hid (X19.out.below hb16)
  replace SA := Lib.hid (SA.out.below hb16)
  replace SB := Lib.hid (SB.out.below hb16)
  clear hb16
  clear q0a q0b q0c q1a q1b q1c
  clear VR
  clear SB X19
  obtain ⟨q0a, q0b, q0c, _, _, _⟩ := X17.out.three'
  go_wp2_with fail
  refine (LR3.out _ HT.out).mono ?_
  rintro e w17 ⟨ac, cc, rfl, hsc, hcc, hcc2, hb17⟩
  replace BX := Lib.hid (Below.chain BX.out hb17)
  replace HT := Lib.hid (HT.out.below hb17)
  replace X11 := Lib.hid (X11.out.below hb17)
  replace X12 := Lib.hid (X12.out.below hb17)
  replace X13 := Lib.hid (X13.out.below hb17)
  replace X15 := Lib.hid (X15.out.below hb17)
  replace X17 := Lib.hid (X17.out.below hb17)
  replace SA := Lib.hid (SA.out.below hb17)
  have SC := Lib.hid (hsc)
  clear hb17
  clear q0a q0b q0c
  clear hsc LR3
  clear X17
  cases fine with
  | false =>
    as_aux_lemma =>
      clear SC HE2
      by_cases hst : st = 0
      · as_aux_lemma =>
          subst hst
          obtain ⟨x, hx1, hx2⟩ := HAD.out.yes rfl
          obtain rfl : x = es := HUQ.out x hx1
          have HM := Lib.hid hx2
          have hmlen := hx2.le
          rw [List.length_append] at hmlen
          simp only [List.length_cons, List.length_nil] at hmlen
          have LR4 := Lib.hid (fun W h => (LogRecords_c d1 p1 n1 W (by omega) (by omega) h).mono fun e w' h => lrec_yes h hx2)
          have IV := Lib.hid (fun W h => (IsValidLog_c d1 p1 n1 W (by omega) (by omega) h).mono fun e w' h => val_yes h hx2)
          unfold logV at LR4 IV
          clear hx1 hx2 HAD HUQ
          obtain ⟨q0a, q0b, q0c, _, _, _⟩ := X13.out.three'
          go_wp2_with fail
          refine (LR4.out _ HT.out).mono ?_
          rintro e w48 ⟨am, cm, rfl, hsm, hcm, hcm2, hb48⟩
          replace BX := Lib.hid (Below.chain BX.out hb48)
          replace HT := Lib.hid (HT.out.below hb48)
          replace X11 := Lib.hid (X11.out.below hb48)
          replace X12 := Lib.hid (X12.out.below hb48)
          replace X13 := Lib.hid (X13.out.below hb48)
          replace X15 := Lib.hid (X15.out.below hb48)
          replace SA := Lib.hid (SA.out.below hb48)
          have SM := Lib.hid (hsm)
          clear hb48
          clear q0a q0b q0c
          clear hsm LR4
          have hML : (x ++ [(g1.data.toList, g2.data.toList)]).length = x.length + 1 := by simp
          have SP := Lib.hid (Sl.pre2 (es := x) (t := [(g1.data.toList, g2.data.toList)]) (n := (x ++ [(g1.data.toList, g2.data.toList)]).length) (a := am) (c := cm) SM.out)
          obtain ⟨mb, mo, rfl, m0, m1⟩ := SM.out.last2
          clear SM
          generalize (x ++ [(g1.data.toList, g2.data.toList)]).length = mm at *
          have hgt : ((mm : Int) == (x.length : Int) + 1) = true := by rw [hML]; simp
          have hwr : IntKind.i64.wrap ((x.length : Int) + 1) = (mm : Int) := by rw [IntWalk.i64_in _ (by omega), hML]; rfl
          have hxc : x.length ≤ cm := by omega
          have hxm : x.length < mm := by omega
          have hmm : mm ≤ 60 := by omega
          clear hML
          have VR := Lib.hid (fun W h1 h2 => vRecords_c (.slice (some ⟨mb, mo, none⟩) x.length cm) (.slice aa x.length ca) x W h1 h2)
          have eG1 := str_eq (rfl : g1 = g1)
          have eG2 := str_eq (rfl : g2 = g2)
          go_wp2_with fail
          rename World => wz2
          have HLAST : Hid (∀ w' : World, Below wz2.heap.size wz2 w' → w'.rangeAt mb (mo + x.length * 2) [.string g1, .string g2]) := fun w' h => by
            have z0 := cell_later h m0
            have z1 := cell_later h m1
            intro j v hv
            match j, hv with
            | 0, hv => simp only [List.getElem?_cons_zero, Option.some.injEq] at hv; rw [← hv]; exact z0
            | 1, hv => simp only [List.getElem?_cons_succ, List.getElem?_cons_zero, Option.some.injEq] at hv; rw [← hv]; exact z1
          clear m0 m1
          refine wp_region_noPanic ?_
          refine wp_region_held_drew (S := fun w' : World => Below wz2.heap.size wz2 w') (by kernel_rfl) (Below.refl _ _).drew (fun hHeld => ?_)
          refine' wpAnyH_take (i := 0) (oi := _) (v := _) ?e_33 ?a_33 ?b_33 ?c_33 ?q_33 ?y_33 hHeld ?r_33
          case e_33 => (simp only [List.getElem?_toArray, List.getElem?_cons_zero, List.getElem?_cons_succ]; exact rfl)
          case a_33 => kernel_rfl
          case b_33 => kernel_rfl
          case c_33 => kernel_rfl
          case q_33 => exact fun _ _ _ h => h
          case y_33 =>
            refine' yieldsIf_load_mid ?hw_33 _ _ rfl _ _ rfl [.string d1, .string p1, .int .i64 n1] _ ?hS_33 ?hu_33 ?hd_33 ?hi_33
            case hw_33 => rfl
            case hS_33 => exact fun (w' : World) (h : Below wz2.heap.size wz2 w') => Bk.rangeL (b := [.string d1, .string p1, .int .i64 n1]) (X13.out.below h)
            case hu_33 => exact Tryd.underlying33
            case hd_33 => rfl
            case hi_33 => exact info_Log3
          try simp only [Act.put, List.setIfInBounds_toArray, List.set_cons_zero, List.set_cons_succ]
          refine wpAnyH_ready (rs := [1]) (by kernel_rfl) (by simp) ?_
          refine' AllReadyH.cons (o := _) ?e_34 ?st_34 AllReadyH.nil
          case e_34 => (simp only [List.getElem?_toArray, List.getElem?_cons_zero, List.getElem?_cons_succ]; exact rfl)
          intro K hK
          go_simp
          have lB := hHeld
          refine (IV.out _ (HT.out.below lB)).mono ?_
          rintro e c2_1 ⟨rfl, hb2_1⟩
          go_wp2_with fail
          refine hK.out _ _ (chain_back hb2_1 lB) (fun hHeld => ?_)
          clear lB hb2_1
          clear hK K
          try simp only [Act.put, List.setIfInBounds_toArray, List.set_cons_zero, List.set_cons_succ]
          refine' wpAnyH_take (i := 2) (oi := _) (v := _) ?e_35 ?a_35 ?b_35 ?c_35 ?q_35 ?y_35 hHeld ?r_35
          case e_35 => (simp only [List.getElem?_toArray, List.getElem?_cons_zero, List.getElem?_cons_succ]; exact rfl)
          case a_35 => kernel_rfl
          case b_35 => kernel_rfl
          case c_35 => kernel_rfl
          case q_35 => exact fun _ _ _ h => h
          case y_35 => exact Or.inl ⟨by rfl, by (intro w hSw; (try dsimp only at hSw); go_simp; first | done | with_reducible rfl)⟩
          try simp only [Act.put, List.setIfInBounds_toArray, List.set_cons_zero, List.set_cons_succ]
          refine' wpAnyH_take (i := 3) (oi := _) (v := _) ?e_36 ?a_36 ?b_36 ?c_36 ?q_36 ?y_36 hHeld ?r_36
          case e_36 => (simp only [List.getElem?_toArray, List.getElem?_cons_zero, List.getElem?_cons_succ]; exact rfl)
          case a_36 => kernel_rfl
          case b_36 => kernel_rfl
          case c_36 => kernel_rfl
          case q_36 => exact fun _ _ _ h => h
          case y_36 => exact Or.inl ⟨by rfl, by (intro w hSw; (try dsimp only at hSw); go_simp; first | done | with_reducible rfl)⟩
          try simp only [Act.put, List.setIfInBounds_toArray, List.set_cons_zero, List.set_cons_succ]
          refine' wpAnyH_take (i := 4) (oi := _) (v := _) ?e_37 ?a_37 ?b_37 ?c_37 ?q_37 ?y_37 hHeld ?r_37
          case e_37 => (simp only [List.getElem?_toArray, List.getElem?_cons_zero, List.getElem?_cons_succ]; exact rfl)
          case a_37 => kernel_rfl
          case b_37 => kernel_rfl
          case c_37 => kernel_rfl
          case q_37 => exact fun _ _ _ h => h
          case y_37 => exact Or.inl ⟨by rfl, by (intro w hSw; (try dsimp only at hSw); go_simp; first | done | with_reducible rfl)⟩
          try simp only [Act.put, List.setIfInBounds_toArray, List.set_cons_zero, List.set_cons_succ]
          refine' wpAnyH_take (i := 5) (oi := _) (v := _) ?e_38 ?a_38 ?b_38 ?c_38 ?q_38 ?y_38 hHeld ?r_38
          case e_38 => (simp only [List.getElem?_toArray, List.getElem?_cons_zero, List.getElem?_cons_succ]; exact rfl)
          case a_38 => kernel_rfl
          case b_38 => kernel_rfl
          case c_38 => kernel_rfl
          case q_38 => exact fun _ _ _ h => h
          case y_38 => exact Or.inl ⟨by rfl, by (intro w hSw; (try dsimp only at hSw); go_simp; first | done | with_reducible rfl)⟩
          try simp only [Act.put, List.setIfInBounds_toArray, List.set_cons_zero, List.set_cons_succ]
          refine' wpAnyH_take (i := 6) (oi := _) (v := _) ?e_39 ?a_39 ?b_39 ?c_39 ?q_39 ?y_39 hHeld ?r_39
          case e_39 => (simp only [List.getElem?_toArray, List.getElem?_cons_zero, List.getElem?_cons_succ]; exact rfl)
          case a_39 => kernel_rfl
          case b_39 => kernel_rfl
          case c_39 => kernel_rfl
          case q_39 => exact fun _ _ _ h => h
          case y_39 => exact Or.inl ⟨by rfl, by (intro w hSw; (try dsimp only at hSw); go_simp; first | done | with_reducible rfl)⟩
          try simp only [Act.put, List.setIfInBounds_toArray, List.set_cons_zero, List.set_cons_succ]
          refine' wpAnyH_take (i := 7) (oi := _) (v := _) ?e_40 ?a_40 ?b_40 ?c_40 ?q_40 ?y_40 hHeld ?r_40
          case e_40 => (simp only [List.getElem?_toArray, List.getElem?_cons_zero, List.getElem?_cons_succ]; exact rfl)
          case a_40 => kernel_rfl
          case b_40 => kernel_rfl
          case c_40 => kernel_rfl
          case q_40 => exact fun _ _ _ h => h
          case y_40 => exact Or.inl ⟨by rfl, by (intro w hSw; (try dsimp only at hSw); go_simp; first | done | with_reducible rfl)⟩
          try simp only [Act.put, List.setIfInBounds_toArray, List.set_cons_zero, List.set_cons_succ]
          refine' wpAnyH_take (i := 8) (oi := _) (v := .bool true) ?e_41 ?a_41 ?b_41 ?c_41 ?q_41 ?y_41 hHeld ?r_41
          case e_41 => (simp only [List.getElem?_toArray, List.getElem?_cons_zero, List.getElem?_cons_succ]; exact rfl)
          case a_41 => kernel_rfl
          case b_41 => kernel_rfl
          case c_41 => kernel_rfl
          case q_41 => exact fun _ _ _ h => h
          case y_41 => exact Or.inl ⟨by rfl, by (intro w hSw; (try dsimp only at hSw); go_simp; first | done | with_reducible rfl)⟩
          try simp only [Act.put, List.setIfInBounds_toArray, List.set_cons_zero, List.set_cons_succ]
          refine' wpAnyH_take (i := 9) (oi := _) (v := _) ?e_42 ?a_42 ?b_42 ?c_42 ?q_42 ?y_42 hHeld ?r_42
          case e_42 => (simp only [List.getElem?_toArray, List.getElem?_cons_zero, List.getElem?_cons_succ]; exact rfl)
          case a_42 => kernel_rfl
          case b_42 => kernel_rfl
          case c_42 => kernel_rfl
          case q_42 => exact fun _ _ _ h => h
          case y_42 => exact Or.inl ⟨by rfl, by (intro w hSw; (try dsimp only at hSw); go_simp; first | done | with_reducible rfl)⟩
          try simp only [Act.put, List.setIfInBounds_toArray, List.set_cons_zero, List.set_cons_succ]
          refine' wpAnyH_take (i := 10) (oi := _) (v := _) ?e_43 ?a_43 ?b_43 ?c_43 ?q_43 ?y_43 hHeld ?r_43
          case e_43 => (simp only [List.getElem?_toArray, List.getElem?_cons_zero, List.getElem?_cons_succ]; exact rfl)
          case a_43 => kernel_rfl
          case b_43 => kernel_rfl
          case c_43 => kernel_rfl
          case q_43 => exact fun _ _ _ h => h
          case y_43 => exact Or.inl ⟨by rfl, by (intro w hSw; (try dsimp only at hSw); go_simp; first | done | with_reducible rfl)⟩
          try simp only [Act.put, List.setIfInBounds_toArray, List.set_cons_zero, List.set_cons_succ]
          refine' wpAnyH_take (i := 11) (oi := _) (v := _) ?e_44 ?a_44 ?b_44 ?c_44 ?q_44 ?y_44 hHeld ?r_44
          case e_44 => (simp only [List.getElem?_toArray, List.getElem?_cons_zero, List.getElem?_cons_succ]; exact rfl)
          case a_44 => kernel_rfl
          case b_44 => kernel_rfl
          case c_44 => kernel_rfl
          case q_44 => exact fun _ _ _ h => h
          case y_44 => exact Or.inl ⟨by rfl, by (intro w hSw; (try dsimp only at hSw); go_simp; first | done | with_reducible rfl)⟩
          try simp only [Act.put, List.setIfInBounds_toArray, List.set_cons_zero, List.set_cons_succ]
          refine' wpAnyH_take (i := 12) (oi := _) (v := _) ?e_45 ?a_45 ?b_45 ?c_45 ?q_45 ?y_45 hHeld ?r_45
          case e_45 => (simp only [List.getElem?_toArray, List.getElem?_cons_zero, List.getElem?_cons_succ]; exact rfl)
          case a_45 => kernel_rfl
          case b_45 => kernel_rfl
          case c_45 => kernel_rfl
          case q_45 => exact fun _ _ _ h => h
          case y_45 => exact Or.inl ⟨by rfl, by (intro w hSw; (try dsimp only at hSw); go_simp; first | done | with_reducible rfl)⟩
          try simp only [Act.put, List.setIfInBounds_toArray, List.set_cons_zero, List.set_cons_succ]
          refine' wpAnyH_take (i := 13) (oi := _) (v := _) ?e_46 ?a_46 ?b_46 ?c_46 ?q_46 ?y_46 hHeld ?r_46
          case e_46 => (simp only [List.getElem?_toArray, List.getElem?_cons_zero, List.getElem?_cons_succ]; exact rfl)
          case a_46 => kernel_rfl
          case b_46 => kernel_rfl
          case c_46 => kernel_rfl
          case q_46 => exact fun _ _ _ h => h
          case y_46 => exact Or.inl ⟨by rfl, by (intro w hSw; (try dsimp only at hSw); go_simp; first | done | with_reducible rfl)⟩
          try simp only [Act.put, List.setIfInBounds_toArray, List.set_cons_zero, List.set_cons_succ]
          refine' wpAnyH_take (i := 14) (oi := _) (v := _) ?e_47 ?a_47 ?b_47 ?c_47 ?q_47 ?y_47 hHeld ?r_47
          case e_47 => (simp only [List.getElem?_toArray, List.getElem?_cons_zero, List.getElem?_cons_succ]; exact rfl)
          case a_47 => kernel_rfl
          case b_47 => kernel_rfl
          case c_47 => kernel_rfl
          case q_47 => exact fun _ _ _ h => h
          case y_47 => exact Or.inl ⟨by rfl, by (intro w hSw; (try dsimp only at hSw); go_simp; first | done | with_reducible rfl)⟩
          try simp only [Act.put, List.setIfInBounds_toArray, List.set_cons_zero, List.set_cons_succ]
          refine' wpAnyH_take (i := 15) (oi := _) (v := _) ?e_48 ?a_48 ?b_48 ?c_48 ?q_48 ?y_48 hHeld ?r_48
          case e_48 => (simp only [List.getElem?_toArray, List.getElem?_cons_zero, List.getElem?_cons_succ]; exact rfl)
          case a_48 => kernel_rfl
          case b_48 => kernel_rfl
          case c_48 => kernel_rfl
          case q_48 => exact fun _ _ _ h => h
          case y_48 => exact Or.inl ⟨by rfl, by (intro w hSw; (try dsimp only at hSw); go_simp; first | done | with_reducible rfl)⟩
          try simp only [Act.put, List.setIfInBounds_toArray, List.set_cons_zero, List.set_cons_succ]
          refine wpAnyH_ready (rs := [16]) (by kernel_rfl) (by simp) ?_
          refine' AllReadyH.cons (o := _) ?e_49 ?st_49 AllReadyH.nil
          case e_49 => (simp only [List.getElem?_toArray, List.getElem?_cons_zero, List.getElem?_cons_succ]; exact rfl)
          intro K hK
          go_simp
          have lB := hHeld
          refine (VR.out _ (SP.out.below lB) (SA.out.below lB)).mono ?_
          rintro e c2_2 ⟨rfl, hb2_2⟩
          go_wp2_with fail
          refine hK.out _ _ (chain_back hb2_2 lB) (fun hHeld => ?_)
          clear lB hb2_2
          clear hK K
          try simp only [Act.put, List.setIfInBounds_toArray, List.set_cons_zero, List.set_cons_succ]
          refine' wpAnyH_take (i := 17) (oi := _) (v := _) ?e_50 ?a_50 ?b_50 ?c_50 ?q_50 ?y_50 hHeld ?r_50
          case e_50 => (simp only [List.getElem?_toArray, List.getElem?_cons_zero, List.getElem?_cons_succ]; exact rfl)
          case a_50 => kernel_rfl
          case b_50 => kernel_rfl
          case c_50 => kernel_rfl
          case q_50 => exact fun _ _ _ h => h
          case y_50 => exact Or.inl ⟨by rfl, by (intro w hSw; (try dsimp only at hSw); go_simp; first | done | with_reducible rfl)⟩
          try simp only [Act.put, List.setIfInBounds_toArray, List.set_cons_zero, List.set_cons_succ]
          refine' wpAnyH_take (i := 18) (oi := _) (v := _) ?e_51 ?a_51 ?b_51 ?c_51 ?q_51 ?y_51 hHeld ?r_51
          case e_51 => (simp only [List.getElem?_toArray, List.getElem?_cons_zero, List.getElem?_cons_succ]; exact rfl)
          case a_51 => kernel_rfl
          case b_51 => kernel_rfl
          case c_51 => kernel_rfl
          case q_51 => exact fun _ _ _ h => h
          case y_51 => exact Or.inl ⟨by rfl, by (intro w hSw; (try dsimp only at hSw); go_simp; first | done | with_reducible rfl)⟩
          try simp only [Act.put, List.setIfInBounds_toArray, List.set_cons_zero, List.set_cons_succ]
          refine' wpAnyH_take (i := 19) (oi := _) (v := _) ?e_52 ?a_52 ?b_52 ?c_52 ?q_52 ?y_52 hHeld ?r_52
          case e_52 => (simp only [List.getElem?_toArray, List.getElem?_cons_zero, List.getElem?_cons_succ]; exact rfl)
          case a_52 => kernel_rfl
          case b_52 => kernel_rfl
          case c_52 => kernel_rfl
          case q_52 => exact fun _ _ _ h => h
          case y_52 => exact Or.inl ⟨by rfl, by (intro w hSw; (try dsimp only at hSw); go_simp; first | done | with_reducible rfl)⟩
          try simp only [Act.put, List.setIfInBounds_toArray, List.set_cons_zero, List.set_cons_succ]
          refine' wpAnyH_take (i := 20) (oi := _) (v := _) ?e_53 ?a_53 ?b_53 ?c_53 ?q_53 ?y_53 hHeld ?r_53
          case e_53 => (simp only [List.getElem?_toArray, List.getElem?_cons_zero, List.getElem?_cons_succ]; exact rfl)
          case a_53 => kernel_rfl
          case b_53 => kernel_rfl
          case c_53 => kernel_rfl
          case q_53 => exact fun _ _ _ h => h
          case y_53 => exact Or.inl ⟨by rfl, by (intro w hSw; (try dsimp only at hSw); go_simp; first | done | with_reducible rfl)⟩
          try simp only [Act.put, List.setIfInBounds_toArray, List.set_cons_zero, List.set_cons_succ]
          refine' wpAnyH_take (i := 21) (oi := _) (v := _) ?e_54 ?a_54 ?b_54 ?c_54 ?q_54 ?y_54 hHeld ?r_54
          case e_54 => (simp only [List.getElem?_toArray, List.getElem?_cons_zero, List.getElem?_cons_succ]; exact rfl)
          case a_54 => kernel_rfl
          case b_54 => kernel_rfl
          case c_54 => kernel_rfl
          case q_54 => exact fun _ _ _ h => h
          case y_54 => exact Or.inl ⟨by rfl, by (intro w hSw; (try dsimp only at hSw); go_simp; first | done | with_reducible rfl)⟩
          try simp only [Act.put, List.setIfInBounds_toArray, List.set_cons_zero, List.set_cons_succ]
          refine' wpAnyH_take (i := 22) (oi := _) (v := _) ?e_55 ?a_55 ?b_55 ?c_55 ?q_55 ?y_55 hHeld ?r_55
          case e_55 => (simp only [List.getElem?_toArray, List.getElem?_cons_zero, List.getElem?_cons_succ]; exact rfl)
          case a_55 => kernel_rfl
          case b_55 => kernel_rfl
          case c_55 => kernel_rfl
          case q_55 => exact fun _ _ _ h => h
          case y_55 => exact Or.inl ⟨by rfl, by (intro w hSw; (try dsimp only at hSw); go_simp; first | done | with_reducible rfl)⟩
          try simp only [Act.put, List.setIfInBounds_toArray, List.set_cons_zero, List.set_cons_succ]
          refine' wpAnyH_take (i := 23) (oi := _) (v := _) ?e_56 ?a_56 ?b_56 ?c_56 ?q_56 ?y_56 hHeld ?r_56
          case e_56 => (simp only [List.getElem?_toArray, List.getElem?_cons_zero, List.getElem?_cons_succ]; exact rfl)
          case a_56 => kernel_rfl
          case b_56 => kernel_rfl
          case c_56 => kernel_rfl
          case q_56 => exact fun _ _ _ h => h
          case y_56 =>
            refine' yieldsIf_load_mid ?hw_56 _ _ rfl _ _ rfl [.string g1, .string g2] _ ?hS_56 ?hu_56 ?hd_56 ?hi_56
            case hw_56 => rfl
            case hS_56 => exact fun (w' : World) (h : Below wz2.heap.size wz2 w') => HLAST.out w' h
            case hu_56 => exact Tryd.underlying25
            case hd_56 => rfl
            case hi_56 => exact info_Rec2
          try simp only [Act.put, List.setIfInBounds_toArray, List.set_cons_zero, List.set_cons_succ]
          refine' wpAnyH_take (i := 24) (oi := _) (v := _) ?e_57 ?a_57 ?b_57 ?c_57 ?q_57 ?y_57 hHeld ?r_57
          case e_57 => (simp only [List.getElem?_toArray, List.getElem?_cons_zero, List.getElem?_cons_succ]; exact rfl)
          case a_57 => kernel_rfl
          case b_57 => kernel_rfl
          case c_57 => kernel_rfl
          case q_57 => exact fun _ _ _ h => h
          case y_57 =>
            refine' yieldsIf_load_mid ?hw_57 _ _ rfl _ _ rfl [.string g1, .string g2] _ ?hS_57 ?hu_57 ?hd_57 ?hi_57
            case hw_57 => rfl
            case hS_57 => exact fun (w' : World) (h : Below wz2.heap.size wz2 w') => Bk.rangeL (b := [.string g1, .string g2]) (X12.out.below h)
            case hu_57 => exact Tryd.underlying25
            case hd_57 => rfl
            case hi_57 => exact info_Rec2
          try simp only [Act.put, List.setIfInBounds_toArray, List.set_cons_zero, List.set_cons_succ]
          refine' wpAnyH_take (i := 25) (oi := _) (v := _) ?e_58 ?a_58 ?b_58 ?c_58 ?q_58 ?y_58 hHeld ?r_58
          case e_58 => (simp only [List.getElem?_toArray, List.getElem?_cons_zero, List.getElem?_cons_succ]; exact rfl)
          case a_58 => kernel_rfl
          case b_58 => kernel_rfl
          case c_58 => kernel_rfl
          case q_58 => exact fun _ _ _ h => h
          case y_58 => exact Or.inl ⟨by rfl, by (intro w hSw; (try dsimp only at hSw); go_simp; first | done | with_reducible rfl)⟩
          try simp only [Act.put, List.setIfInBounds_toArray, List.set_cons_zero, List.set_cons_succ]
          refine' wpAnyH_take (i := 26) (oi := _) (v := _) ?e_59 ?a_59 ?b_59 ?c_59 ?q_59 ?y_59 hHeld ?r_59
          case e_59 => (simp only [List.getElem?_toArray, List.getElem?_cons_zero, List.getElem?_cons_succ]; exact rfl)
          case a_59 => kernel_rfl
          case b_59 => kernel_rfl
          case c_59 => kernel_rfl
          case q_59 => exact fun _ _ _ h => h
          case y_59 => exact Or.inl ⟨by rfl, by (intro w hSw; (try dsimp only at hSw); go_simp; first | done | with_reducible rfl)⟩
          try simp only [Act.put, List.setIfInBounds_toArray, List.set_cons_zero, List.set_cons_succ]
          refine' wpAnyH_take (i := 27) (oi := _) (v := _) ?e_60 ?a_60 ?b_60 ?c_60 ?q_60 ?y_60 hHeld ?r_60
          case e_60 => (simp only [List.getElem?_toArray, List.getElem?_cons_zero, List.getElem?_cons_succ]; exact rfl)
          case a_60 => kernel_rfl
          case b_60 => kernel_rfl
          case c_60 => kernel_rfl
          case q_60 => exact fun _ _ _ h => h
          case y_60 => exact Or.inl ⟨by rfl, by (intro w hSw; (try dsimp only at hSw); go_simp; first | done | with_reducible rfl)⟩
          try simp only [Act.put, List.setIfInBounds_toArray, List.set_cons_zero, List.set_cons_succ]
          refine wpAnyH_done (by kernel_rfl) ?_ _
          refine NoPanic.normal ?_
          have lB := hHeld
          replace BX := Lib.hid (Below.chain BX.out lB)
          clear lB hHeld
          go_wp2
          go_ret
          exact ⟨rfl, BX.out⟩
      · as_aux_lemma =>
          obtain ⟨rfl, rfl, rfl⟩ := HAD.out.no hst
          have hst0 : (st == 0) = false := by simp; exact hst
          obtain ⟨q0a, q0b, q0c, _, _, _⟩ := X11.out.three'
          obtain ⟨q1a, q1b, q1c, _, _, _⟩ := X13.out.three'
          clear HAD HUQ
          go_wp2
          go_ret
          exact ⟨rfl, BX.out⟩
  | true =>
    as_aux_lemma =>
      obtain rfl : es2 = es := HE2.out rfl
      clear HE2
      have VR2 := Lib.hid (fun W h1 h2 => vRecords_c (.slice ac es2.length cc) (.slice aa es2.length ca) es2 W h1 h2)
      go_wp2_with fail
      refine (VR2.out _ SC.out SA.out).mono ?_
      rintro e w28 ⟨rfl, hb28⟩
      replace BX := Lib.hid (Below.chain BX.out hb28)
      replace HT := Lib.hid (HT.out.below hb28)
      replace X11 := Lib.hid (X11.out.below hb28)
      replace X12 := Lib.hid (X12.out.below hb28)
      replace X13 := Lib.hid (X13.out.below hb28)
      replace X15 := Lib.hid (X15.out.below hb28)
      replace SA := Lib.hid (SA.out.below hb28)
      replace SC := Lib.hid (SC.out.below hb28)
      clear hb28
      clear VR2
      clear SC
      by_cases hst : st = 0
      · as_aux_lemma =>
          subst hst
          obtain ⟨x, hx1, hx2⟩ := HAD.out.yes rfl
          obtain rfl : x = es2 := HUQ.out x hx1
          have HM := Lib.hid hx2
          have hmlen := hx2.le
          rw [List.length_append] at hmlen
          simp only [List.length_cons, List.length_nil] at hmlen
          have LR4 := Lib.hid (fun W h => (LogRecords_c d1 p1 n1 W (by omega) (by omega) h).mono fun e w' h => lrec_yes h hx2)
          have IV := Lib.hid (fun W h => (IsValidLog_c d1 p1 n1 W (by omega) (by omega) h).mono fun e w' h => val_yes h hx2)
          unfold logV at LR4 IV
          clear hx1 hx2 HAD HUQ
          obtain ⟨q0a, q0b, q0c, _, _, _⟩ := X13.out.three'
          go_wp2_with fail
          refine (LR4.out _ HT.out).mono ?_
          rintro e w78 ⟨am, cm, rfl, hsm, hcm, hcm2, hb78⟩
          replace BX := Lib.hid (Below.chain BX.out hb78)
          replace HT := Lib.hid (HT.out.below hb78)
          replace X11 := Lib.hid (X11.out.below hb78)
          replace X12 := Lib.hid (X12.out.below hb78)
          replace X13 := Lib.hid (X13.out.below hb78)
          replace X15 := Lib.hid (X15.out.below hb78)
          replace SA := Lib.hid (SA.out.below hb78)
          have SM := Lib.hid (hsm)
          clear hb78
          clear q0a q0b q0c
          clear hsm LR4
          have hML : (x ++ [(g1.data.toList, g2.data.toList)]).length = x.length + 1 := by simp
          have SP := Lib.hid (Sl.pre2 (es := x) (t := [(g1.data.toList, g2.data.toList)]) (n := (x ++ [(g1.data.toList, g2.data.toList)]).length) (a := am) (c := cm) SM.out)
          obtain ⟨mb, mo, rfl, m0, m1⟩ := SM.out.last2
          clear SM
          generalize (x ++ [(g1.data.toList, g2.data.toList)]).length = mm at *
          have hgt : ((mm : Int) == (x.length : Int) + 1) = true := by rw [hML]; simp
          have hwr : IntKind.i64.wrap ((x.length : Int) + 1) = (mm : Int) := by rw [IntWalk.i64_in _ (by omega), hML]; rfl
          have hxc : x.length ≤ cm := by omega
          have hxm : x.length < mm := by omega
          have hmm : mm ≤ 60 := by omega
          clear hML
          have VR := Lib.hid (fun W h1 h2 => vRecords_c (.slice (some ⟨mb, mo, none⟩) x.length cm) (.slice aa x.length ca) x W h1 h2)
          have eG1 := str_eq (rfl : g1 = g1)
          have eG2 := str_eq (rfl : g2 = g2)
          go_wp2_with fail
          rename World => wz2
          have HLAST : Hid (∀ w' : World, Below wz2.heap.size wz2 w' → w'.rangeAt mb (mo + x.length * 2) [.string g1, .string g2]) := fun w' h => by
            have z0 := cell_later h m0
            have z1 := cell_later h m1
            intro j v hv
            match j, hv with
            | 0, hv => simp only [List.getElem?_cons_zero, Option.some.injEq] at hv; rw [← hv]; exact z0
            | 1, hv => simp only [List.getElem?_cons_succ, List.getElem?_cons_zero, Option.some.injEq] at hv; rw [← hv]; exact z1
          clear m0 m1
          refine wp_region_noPanic ?_
          refine wp_region_held_drew (S := fun w' : World => Below wz2.heap.size wz2 w') (by kernel_rfl) (Below.refl _ _).drew (fun hHeld => ?_)
          refine' wpAnyH_take (i := 0) (oi := _) (v := _) ?e_61 ?a_61 ?b_61 ?c_61 ?q_61 ?y_61 hHeld ?r_61
          case e_61 => (simp only [List.getElem?_toArray, List.getElem?_cons_zero, List.getElem?_cons_succ]; exact rfl)
          case a_61 => kernel_rfl
          case b_61 => kernel_rfl
          case c_61 => kernel_rfl
          case q_61 => exact fun _ _ _ h => h
          case y_61 =>
            refine' yieldsIf_load_mid ?hw_61 _ _ rfl _ _ rfl [.string d1, .string p1, .int .i64 n1] _ ?hS_61 ?hu_61 ?hd_61 ?hi_61
            case hw_61 => rfl
            case hS_61 => exact fun (w' : World) (h : Below wz2.heap.size wz2 w') => Bk.rangeL (b := [.string d1, .string p1, .int .i64 n1]) (X13.out.below h)
            case hu_61 => exact Tryd.underlying33
            case hd_61 => rfl
            case hi_61 => exact info_Log3
          try simp only [Act.put, List.setIfInBounds_toArray, List.set_cons_zero, List.set_cons_succ]
          refine wpAnyH_ready (rs := [1]) (by kernel_rfl) (by simp) ?_
          refine' AllReadyH.cons (o := _) ?e_62 ?st_62 AllReadyH.nil
          case e_62 => (simp only [List.getElem?_toArray, List.getElem?_cons_zero, List.getElem?_cons_succ]; exact rfl)
          intro K hK
          go_simp
          have lB := hHeld
          refine (IV.out _ (HT.out.below lB)).mono ?_
          rintro e c2_1 ⟨rfl, hb2_1⟩
          go_wp2_with fail
          refine hK.out _ _ (chain_back hb2_1 lB) (fun hHeld => ?_)
          clear lB hb2_1
          clear hK K
          try simp only [Act.put, List.setIfInBounds_toArray, List.set_cons_zero, List.set_cons_succ]
          refine' wpAnyH_take (i := 2) (oi := _) (v := _) ?e_63 ?a_63 ?b_63 ?c_63 ?q_63 ?y_63 hHeld ?r_63
          case e_63 => (simp only [List.getElem?_toArray, List.getElem?_cons_zero, List.getElem?_cons_succ]; exact rfl)
          case a_63 => kernel_rfl
          case b_63 => kernel_rfl
          case c_63 => kernel_rfl
          case q_63 => exact fun _ _ _ h => h
          case y_63 => exact Or.inl ⟨by rfl, by (intro w hSw; (try dsimp only at hSw); go_simp; first | done | with_reducible rfl)⟩
          try simp only [Act.put, List.setIfInBounds_toArray, List.set_cons_zero, List.set_cons_succ]
          refine' wpAnyH_take (i := 3) (oi := _) (v := _) ?e_64 ?a_64 ?b_64 ?c_64 ?q_64 ?y_64 hHeld ?r_64
          case e_64 => (simp only [List.getElem?_toArray, List.getElem?_cons_zero, List.getElem?_cons_succ]; exact rfl)
          case a_64 => kernel_rfl
          case b_64 => kernel_rfl
          case c_64 => kernel_rfl
          case q_64 => exact fun _ _ _ h => h
          case y_64 => exact Or.inl ⟨by rfl, by (intro w hSw; (try dsimp only at hSw); go_simp; first | done | with_reducible rfl)⟩
          try simp only [Act.put, List.setIfInBounds_toArray, List.set_cons_zero, List.set_cons_succ]
          refine' wpAnyH_take (i := 4) (oi := _) (v := _) ?e_65 ?a_65 ?b_65 ?c_65 ?q_65 ?y_65 hHeld ?r_65
          case e_65 => (simp only [List.getElem?_toArray, List.getElem?_cons_zero, List.getElem?_cons_succ]; exact rfl)
          case a_65 => kernel_rfl
          case b_65 => kernel_rfl
          case c_65 => kernel_rfl
          case q_65 => exact fun _ _ _ h => h
          case y_65 => exact Or.inl ⟨by rfl, by (intro w hSw; (try dsimp only at hSw); go_simp; first | done | with_reducible rfl)⟩
          try simp only [Act.put, List.setIfInBounds_toArray, List.set_cons_zero, List.set_cons_succ]
          refine' wpAnyH_take (i := 5) (oi := _) (v := _) ?e_66 ?a_66 ?b_66 ?c_66 ?q_66 ?y_66 hHeld ?r_66
          case e_66 => (simp only [List.getElem?_toArray, List.getElem?_cons_zero, List.getElem?_cons_succ]; exact rfl)
          case a_66 => kernel_rfl
          case b_66 => kernel_rfl
          case c_66 => kernel_rfl
          case q_66 => exact fun _ _ _ h => h
          case y_66 => exact Or.inl ⟨by rfl, by (intro w hSw; (try dsimp only at hSw); go_simp; first | done | with_reducible rfl)⟩
          try simp only [Act.put, List.setIfInBounds_toArray, List.set_cons_zero, List.set_cons_succ]
          refine' wpAnyH_take (i := 6) (oi := _) (v := _) ?e_67 ?a_67 ?b_67 ?c_67 ?q_67 ?y_67 hHeld ?r_67
          case e_67 => (simp only [List.getElem?_toArray, List.getElem?_cons_zero, List.getElem?_cons_succ]; exact rfl)
          case a_67 => kernel_rfl
          case b_67 => kernel_rfl
          case c_67 => kernel_rfl
          case q_67 => exact fun _ _ _ h => h
          case y_67 => exact Or.inl ⟨by rfl, by (intro w hSw; (try dsimp only at hSw); go_simp; first | done | with_reducible rfl)⟩
          try simp only [Act.put, List.setIfInBounds_toArray, List.set_cons_zero, List.set_cons_succ]
          refine' wpAnyH_take (i := 7) (oi := _) (v := _) ?e_68 ?a_68 ?b_68 ?c_68 ?q_68 ?y_68 hHeld ?r_68
          case e_68 => (simp only [List.getElem?_toArray, List.getElem?_cons_zero, List.getElem?_cons_succ]; exact rfl)
          case a_68 => kernel_rfl
          case b_68 => kernel_rfl
          case c_68 => kernel_rfl
          case q_68 => exact fun _ _ _ h => h
          case y_68 => exact Or.inl ⟨by rfl, by (intro w hSw; (try dsimp only at hSw); go_simp; first | done | with_reducible rfl)⟩
          try simp only [Act.put, List.setIfInBounds_toArray, List.set_cons_zero, List.set_cons_succ]
          refine' wpAnyH_take (i := 8) (oi := _) (v := .bool true) ?e_69 ?a_69 ?b_69 ?c_69 ?q_69 ?y_69 hHeld ?r_69
          case e_69 => (simp only [List.getElem?_toArray, List.getElem?_cons_zero, List.getElem?_cons_succ]; exact rfl)
          case a_69 => kernel_rfl
          case b_69 => kernel_rfl
          case c_69 => kernel_rfl
          case q_69 => exact fun _ _ _ h => h
          case y_69 => exact Or.inl ⟨by rfl, by (intro w hSw; (try dsimp only at hSw); go_simp; first | done | with_reducible rfl)⟩
          try simp only [Act.put, List.setIfInBounds_toArray, List.set_cons_zero, List.set_cons_succ]
          refine' wpAnyH_take (i := 9) (oi := _) (v := _) ?e_70 ?a_70 ?b_70 ?c_70 ?q_70 ?y_70 hHeld ?r_70
          case e_70 => (simp only [List.getElem?_toArray, List.getElem?_cons_zero, List.getElem?_cons_succ]; exact rfl)
          case a_70 => kernel_rfl
          case b_70 => kernel_rfl
          case c_70 => kernel_rfl
          case q_70 => exact fun _ _ _ h => h
          case y_70 => exact Or.inl ⟨by rfl, by (intro w hSw; (try dsimp only at hSw); go_simp; first | done | with_reducible rfl)⟩
          try simp only [Act.put, List.setIfInBounds_toArray, List.set_cons_zero, List.set_cons_succ]
          refine' wpAnyH_take (i := 10) (oi := _) (v := _) ?e_71 ?a_71 ?b_71 ?c_71 ?q_71 ?y_71 hHeld ?r_71
          case e_71 => (simp only [List.getElem?_toArray, List.getElem?_cons_zero, List.getElem?_cons_succ]; exact rfl)
          case a_71 => kernel_rfl
          case b_71 => kernel_rfl
          case c_71 => kernel_rfl
          case q_71 => exact fun _ _ _ h => h
          case y_71 => exact Or.inl ⟨by rfl, by (intro w hSw; (try dsimp only at hSw); go_simp; first | done | with_reducible rfl)⟩
          try simp only [Act.put, List.setIfInBounds_toArray, List.set_cons_zero, List.set_cons_succ]
          refine' wpAnyH_take (i := 11) (oi := _) (v := _) ?e_72 ?a_72 ?b_72 ?c_72 ?q_72 ?y_72 hHeld ?r_72
          case e_72 => (simp only [List.getElem?_toArray, List.getElem?_cons_zero, List.getElem?_cons_succ]; exact rfl)
          case a_72 => kernel_rfl
          case b_72 => kernel_rfl
          case c_72 => kernel_rfl
          case q_72 => exact fun _ _ _ h => h
          case y_72 => exact Or.inl ⟨by rfl, by (intro w hSw; (try dsimp only at hSw); go_simp; first | done | with_reducible rfl)⟩
          try simp only [Act.put, List.setIfInBounds_toArray, List.set_cons_zero, List.set_cons_succ]
          refine' wpAnyH_take (i := 12) (oi := _) (v := _) ?e_73 ?a_73 ?b_73 ?c_73 ?q_73 ?y_73 hHeld ?r_73
          case e_73 => (simp only [List.getElem?_toArray, List.getElem?_cons_zero, List.getElem?_cons_succ]; exact rfl)
          case a_73 => kernel_rfl
          case b_73 => kernel_rfl
          case c_73 => kernel_rfl
          case q_73 => exact fun _ _ _ h => h
          case y_73 => exact Or.inl ⟨by rfl, by (intro w hSw; (try dsimp only at hSw); go_simp; first | done | with_reducible rfl)⟩
          try simp only [Act.put, List.setIfInBounds_toArray, List.set_cons_zero, List.set_cons_succ]
          refine' wpAnyH_take (i := 13) (oi := _) (v := _) ?e_74 ?a_74 ?b_74 ?c_74 ?q_74 ?y_74 hHeld ?r_74
          case e_74 => (simp only [List.getElem?_toArray, List.getElem?_cons_zero, List.getElem?_cons_succ]; exact rfl)
          case a_74 => kernel_rfl
          case b_74 => kernel_rfl
          case c_74 => kernel_rfl
          case q_74 => exact fun _ _ _ h => h
          case y_74 => exact Or.inl ⟨by rfl, by (intro w hSw; (try dsimp only at hSw); go_simp; first | done | with_reducible rfl)⟩
          try simp only [Act.put, List.setIfInBounds_toArray, List.set_cons_zero, List.set_cons_succ]
          refine' wpAnyH_take (i := 14) (oi := _) (v := _) ?e_75 ?a_75 ?b_75 ?c_75 ?q_75 ?y_75 hHeld ?r_75
          case e_75 => (simp only [List.getElem?_toArray, List.getElem?_cons_zero, List.getElem?_cons_succ]; exact rfl)
          case a_75 => kernel_rfl
          case b_75 => kernel_rfl
          case c_75 => kernel_rfl
          case q_75 => exact fun _ _ _ h => h
          case y_75 => exact Or.inl ⟨by rfl, by (intro w hSw; (try dsimp only at hSw); go_simp; first | done | with_reducible rfl)⟩
          try simp only [Act.put, List.setIfInBounds_toArray, List.set_cons_zero, List.set_cons_succ]
          refine' wpAnyH_take (i := 15) (oi := _) (v := _) ?e_76 ?a_76 ?b_76 ?c_76 ?q_76 ?y_76 hHeld ?r_76
          case e_76 => (simp only [List.getElem?_toArray, List.getElem?_cons_zero, List.getElem?_cons_succ]; exact rfl)
          case a_76 => kernel_rfl
          case b_76 => kernel_rfl
          case c_76 => kernel_rfl
          case q_76 => exact fun _ _ _ h => h
          case y_76 => exact Or.inl ⟨by rfl, by (intro w hSw; (try dsimp only at hSw); go_simp; first | done | with_reducible rfl)⟩
          try simp only [Act.put, List.setIfInBounds_toArray, List.set_cons_zero, List.set_cons_succ]
          refine wpAnyH_ready (rs := [16]) (by kernel_rfl) (by simp) ?_
          refine' AllReadyH.cons (o := _) ?e_77 ?st_77 AllReadyH.nil
          case e_77 => (simp only [List.getElem?_toArray, List.getElem?_cons_zero, List.getElem?_cons_succ]; exact rfl)
          intro K hK
          go_simp
          have lB := hHeld
          refine (VR.out _ (SP.out.below lB) (SA.out.below lB)).mono ?_
          rintro e c2_2 ⟨rfl, hb2_2⟩
          go_wp2_with fail
          refine hK.out _ _ (chain_back hb2_2 lB) (fun hHeld => ?_)
          clear lB hb2_2
          clear hK K
          try simp only [Act.put, List.setIfInBounds_toArray, List.set_cons_zero, List.set_cons_succ]
          refine' wpAnyH_take (i := 17) (oi := _) (v := _) ?e_78 ?a_78 ?b_78 ?c_78 ?q_78 ?y_78 hHeld ?r_78
          case e_78 => (simp only [List.getElem?_toArray, List.getElem?_cons_zero, List.getElem?_cons_succ]; exact rfl)
          case a_78 => kernel_rfl
          case b_78 => kernel_rfl
          case c_78 => kernel_rfl
          case q_78 => exact fun _ _ _ h => h
          case y_78 => exact Or.inl ⟨by rfl, by (intro w hSw; (try dsimp only at hSw); go_simp; first | done | with_reducible rfl)⟩
          try simp only [Act.put, List.setIfInBounds_toArray, List.set_cons_zero, List.set_cons_succ]
          refine' wpAnyH_take (i := 18) (oi := _) (v := _) ?e_79 ?a_79 ?b_79 ?c_79 ?q_79 ?y_79 hHeld ?r_79
          case e_79 => (simp only [List.getElem?_toArray, List.getElem?_cons_zero, List.getElem?_cons_succ]; exact rfl)
          case a_79 => kernel_rfl
          case b_79 => kernel_rfl
          case c_79 => kernel_rfl
          case q_79 => exact fun _ _ _ h => h
          case y_79 => exact Or.inl ⟨by rfl, by (intro w hSw; (try dsimp only at hSw); go_simp; first | done | with_reducible rfl)⟩
          try simp only [Act.put, List.setIfInBounds_toArray, List.set_cons_zero, List.set_cons_succ]
          refine' wpAnyH_take (i := 19) (oi := _) (v := _) ?e_80 ?a_80 ?b_80 ?c_80 ?q_80 ?y_80 hHeld ?r_80
          case e_80 => (simp only [List.getElem?_toArray, List.getElem?_cons_zero, List.getElem?_cons_succ]; exact rfl)
          case a_80 => kernel_rfl
          case b_80 => kernel_rfl
          case c_80 => kernel_rfl
          case q_80 => exact fun _ _ _ h => h
          case y_80 => exact Or.inl ⟨by rfl, by (intro w hSw; (try dsimp only at hSw); go_simp; first | done | with_reducible rfl)⟩
          try simp only [Act.put, List.setIfInBounds_toArray, List.set_cons_zero, List.set_cons_succ]
          refine' wpAnyH_take (i := 20) (oi := _) (v := _) ?e_81 ?a_81 ?b_81 ?c_81 ?q_81 ?y_81 hHeld ?r_81
          case e_81 => (simp only [List.getElem?_toArray, List.getElem?_cons_zero, List.getElem?_cons_succ]; exact rfl)
          case a_81 => kernel_rfl
          case b_81 => kernel_rfl
          case c_81 => kernel_rfl
          case q_81 => exact fun _ _ _ h => h
          case y_81 => exact Or.inl ⟨by rfl, by (intro w hSw; (try dsimp only at hSw); go_simp; first | done | with_reducible rfl)⟩
          try simp only [Act.put, List.setIfInBounds_toArray, List.set_cons_zero, List.set_cons_succ]
          refine' wpAnyH_take (i := 21) (oi := _) (v := _) ?e_82 ?a_82 ?b_82 ?c_82 ?q_82 ?y_82 hHeld ?r_82
          case e_82 => (simp only [List.getElem?_toArray, List.getElem?_cons_zero, List.getElem?_cons_succ]; exact rfl)
          case a_82 => kernel_rfl
          case b_82 => kernel_rfl
          case c_82 => kernel_rfl
          case q_82 => exact fun _ _ _ h => h
          case y_82 => exact Or.inl ⟨by rfl, by (intro w hSw; (try dsimp only at hSw); go_simp; first | done | with_reducible rfl)⟩
          try simp only [Act.put, List.setIfInBounds_toArray, List.set_cons_zero, List.set_cons_succ]
          refine' wpAnyH_take (i := 22) (oi := _) (v := _) ?e_83 ?a_83 ?b_83 ?c_83 ?q_83 ?y_83 hHeld ?r_83
          case e_83 => (simp only [List.getElem?_toArray, List.getElem?_cons_zero, List.getElem?_cons_succ]; exact rfl)
          case a_83 => kernel_rfl
          case b_83 => kernel_rfl
          case c_83 => kernel_rfl
          case q_83 => exact fun _ _ _ h => h
          case y_83 => exact Or.inl ⟨by rfl, by (intro w hSw; (try dsimp only at hSw); go_simp; first | done | with_reducible rfl)⟩
          try simp only [Act.put, List.setIfInBounds_toArray, List.set_cons_zero, List.set_cons_succ]
          refine' wpAnyH_take (i := 23) (oi := _) (v := _) ?e_84 ?a_84 ?b_84 ?c_84 ?q_84 ?y_84 hHeld ?r_84
          case e_84 => (simp only [List.getElem?_toArray, List.getElem?_cons_zero, List.getElem?_cons_succ]; exact rfl)
          case a_84 => kernel_rfl
          case b_84 => kernel_rfl
          case c_84 => kernel_rfl
          case q_84 => exact fun _ _ _ h => h
          case y_84 =>
            refine' yieldsIf_load_mid ?hw_84 _ _ rfl _ _ rfl [.string g1, .string g2] _ ?hS_84 ?hu_84 ?hd_84 ?hi_84
            case hw_84 => rfl
            case hS_84 => exact fun (w' : World) (h : Below wz2.heap.size wz2 w') => HLAST.out w' h
            case hu_84 => exact Tryd.underlying25
            case hd_84 => rfl
            case hi_84 => exact info_Rec2
          try simp only [Act.put, List.setIfInBounds_toArray, List.set_cons_zero, List.set_cons_succ]
          refine' wpAnyH_take (i := 24) (oi := _) (v := _) ?e_85 ?a_85 ?b_85 ?c_85 ?q_85 ?y_85 hHeld ?r_85
          case e_85 => (simp only [List.getElem?_toArray, List.getElem?_cons_zero, List.getElem?_cons_succ]; exact rfl)
          case a_85 => kernel_rfl
          case b_85 => kernel_rfl
          case c_85 => kernel_rfl
          case q_85 => exact fun _ _ _ h => h
          case y_85 =>
            refine' yieldsIf_load_mid ?hw_85 _ _ rfl _ _ rfl [.string g1, .string g2] _ ?hS_85 ?hu_85 ?hd_85 ?hi_85
            case hw_85 => rfl
            case hS_85 => exact fun (w' : World) (h : Below wz2.heap.size wz2 w') => Bk.rangeL (b := [.string g1, .string g2]) (X12.out.below h)
            case hu_85 => exact Tryd.underlying25
            case hd_85 => rfl
            case hi_85 => exact info_Rec2
          try simp only [Act.put, List.setIfInBounds_toArray, List.set_cons_zero, List.set_cons_succ]
          refine' wpAnyH_take (i := 25) (oi := _) (v := _) ?e_86 ?a_86 ?b_86 ?c_86 ?q_86 ?y_86 hHeld ?r_86
          case e_86 => (simp only [List.getElem?_toArray, List.getElem?_cons_zero, List.getElem?_cons_succ]; exact rfl)
          case a_86 => kernel_rfl
          case b_86 => kernel_rfl
          case c_86 => kernel_rfl
          case q_86 => exact fun _ _ _ h => h
          case y_86 => exact Or.inl ⟨by rfl, by (intro w hSw; (try dsimp only at hSw); go_simp; first | done | with_reducible rfl)⟩
          try simp only [Act.put, List.setIfInBounds_toArray, List.set_cons_zero, List.set_cons_succ]
          refine' wpAnyH_take (i := 26) (oi := _) (v := _) ?e_87 ?a_87 ?b_87 ?c_87 ?q_87 ?y_87 hHeld ?r_87
          case e_87 => (simp only [List.getElem?_toArray, List.getElem?_cons_zero, List.getElem?_cons_succ]; exact rfl)
          case a_87 => kernel_rfl
          case b_87 => kernel_rfl
          case c_87 => kernel_rfl
          case q_87 => exact fun _ _ _ h => h
          case y_87 => exact Or.inl ⟨by rfl, by (intro w hSw; (try dsimp only at hSw); go_simp; first | done | with_reducible rfl)⟩
          try simp only [Act.put, List.setIfInBounds_toArray, List.set_cons_zero, List.set_cons_succ]
          refine' wpAnyH_take (i := 27) (oi := _) (v := _) ?e_88 ?a_88 ?b_88 ?c_88 ?q_88 ?y_88 hHeld ?r_88
          case e_88 => (simp only [List.getElem?_toArray, List.getElem?_cons_zero, List.getElem?_cons_succ]; exact rfl)
          case a_88 => kernel_rfl
          case b_88 => kernel_rfl
          case c_88 => kernel_rfl
          case q_88 => exact fun _ _ _ h => h
          case y_88 => exact Or.inl ⟨by rfl, by (intro w hSw; (try dsimp only at hSw); go_simp; first | done | with_reducible rfl)⟩
          try simp only [Act.put, List.setIfInBounds_toArray, List.set_cons_zero, List.set_cons_succ]
          refine wpAnyH_done (by kernel_rfl) ?_ _
          refine NoPanic.normal ?_
          have lB := hHeld
          replace BX := Lib.hid (Below.chain BX.out lB)
          clear lB hHeld
          go_wp2
          go_ret
          exact ⟨rfl, BX.out⟩
      · as_aux_lemma =>
          obtain ⟨rfl, rfl, rfl⟩ := HAD.out.no hst
          have hst0 : (st == 0) = false := by simp; exact hst
          obtain ⟨q0a, q0b, q0c, _, _, _⟩ := X11.out.three'
          obtain ⟨q1a, q1b, q1c, _, _, _⟩ := X13.out.three'
          clear HAD HUQ
          go_wp2
          go_ret
          exact ⟨rfl, BX.out⟩
end Go.Proofs.YtbobiiodbbcodaaDoor
