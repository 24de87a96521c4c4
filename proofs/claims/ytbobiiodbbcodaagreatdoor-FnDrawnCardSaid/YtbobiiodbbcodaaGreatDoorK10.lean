/- Texts of this claim, gathered: LwLDrawn. -/
import Derived.Test.YtbobiiodbbcodaaGreatDoorK9
namespace Go.Proofs.YtbobiiodbbcodaaGreatDoor
open Go.RowKit
set_option linter.unusedVariables false
set_option linter.unusedSimpArgs false
set_option maxRecDepth 100000
set_option maxHeartbeats 100000000 in
theorem FnDrawn_walk (v : Value) (xs : List Nat) (w : World) (h : Code w v xs) (htab : TabM w) :
    Calls Tryz.prog 3 #[v] w fun e w' => e = .returned (.bool true) ∧ Below w.heap.size w w' := by
  have HK := Lib.hid h
  obtain ⟨a, c, rfl, _⟩ := h
  have HV := Lib.hid (vBig_c _ _ _ HK.out)
  by_cases hbig : 65536 < xs.length
  · have hd : decide (65536 < xs.length) = true := decide_eq_true hbig
    go_enter Tryz.func3, Tryz.ntmps3
    go_wp2_with fail
    refine HV.out.mono ?_
    rintro e w1 ⟨rfl, rfl⟩
    go_wp2
    go_ret
    exact ⟨rfl, Below.refl _ _⟩
  have hd : decide (65536 < xs.length) = false := decide_eq_false hbig
  go_enter Tryz.func3, Tryz.ntmps3
  go_wp2_with fail
  refine HV.out.mono ?_
  rintro e _ ⟨rfl, rfl⟩
  have BX := Lib.hid (Below.refl w.heap.size w)
  have HT := Lib.hid htab
  clear htab
  have hi2 : (Tryz.prog.info? 25).map (·.size) = some 2 := by kernel_rfl
  go_wp2_with fail
  refine (DrawChanceTold_c _ xs _ HK.out).mono ?_
  rintro e w1 ⟨k, rfl, hb1⟩
  replace BX := Lib.hid (Below.chain BX.out hb1)
  replace HK := Lib.hid (HK.out.below hb1)
  replace HT := Lib.hid (HT.out.below hb1)
  clear hb1
  have CT1 := fun W => ChanceTold_c k W
  have CT2 := fun W => sChanceTold_c k W
  have MI1 := fun W => MeanImages_c k W
  have MI2 := fun W => sMeanImages_c k W
  have CH1 := fun W => ChanceHarmless_c k W
  have CH2 := fun W => sChanceHarmless_c k W
  have PT := fun W => ChanceTold_c (k - 1) W
  have PI := fun W => MeanImages_c (k - 1) W
  have PH := fun W => ChanceHarmless_c (k - 1) W
  have DM := fun (h : dkOk k = true) (h0 : 0 < k) => dk_more h h0
  have D1 := fun (h : dkOk k = true) => dk_one h
  simp only [dkV_fr] at CT1 CT2 MI1 MI2 CH1 CH2 PT PI PH
  generalize dkA 2 10 (k - 1) = pa at *
  generalize dkB 2 10 (k - 1) = pb at *
  generalize dkA 1 1 (k - 1) = qa at *
  generalize dkB 1 1 (k - 1) = qb at *
  generalize dkA 3 1 (k - 1) = ra at *
  generalize dkB 3 1 (k - 1) = rb at *
  generalize dkA 2 10 k = ta at *
  generalize dkB 2 10 k = tb at *
  generalize dkA 1 1 k = ia at *
  generalize dkB 1 1 k = ib at *
  generalize dkA 3 1 k = ha at *
  generalize dkB 3 1 k = hb at *
  generalize dkOk (k - 1) = okp at *
  generalize dkOk k = ok at *
  replace CT1 := Lib.hid CT1
  replace CT2 := Lib.hid CT2
  replace MI1 := Lib.hid MI1
  replace MI2 := Lib.hid MI2
  replace CH1 := Lib.hid CH1
  replace CH2 := Lib.hid CH2
  replace PT := Lib.hid PT
  replace PI := Lib.hid PI
  replace PH := Lib.hid PH
  replace DM := Lib.hid DM
  replace D1 := Lib.hid D1
  go_wp2_with fail
  refine (CT1.out _).mono ?_
  rintro e w2 ⟨rfl, hb2⟩
  replace BX := Lib.hid (Below.chain BX.out hb2)
  replace HK := Lib.hid (HK.out.below hb2)
  replace HT := Lib.hid (HT.out.below hb2)
  clear hb2
  have al1 := Lib.hid (below_one (w := w2) (.cells #[.int .i64 (ta : Int), .int .i64 (tb : Int)] 25))
  replace BX := Lib.hid (Below.alc BX.out (.cells #[.int .i64 (ta : Int), .int .i64 (tb : Int)] 25))
  replace HK := Lib.hid (HK.out.below al1.out)
  replace HT := Lib.hid (HT.out.below al1.out)
  have X4 := Lib.hid (Bk.new w2 25 #[.int .i64 (ta : Int), .int .i64 (tb : Int)])
  clear al1
  go_wp2_with fail
  refine (CT2.out _).mono ?_
  rintro e w3 ⟨rfl, hb3⟩
  replace BX := Lib.hid (Below.chain BX.out hb3)
  replace HK := Lib.hid (HK.out.below hb3)
  replace HT := Lib.hid (HT.out.below hb3)
  replace X4 := Lib.hid (X4.out.below hb3)
  clear hb3
  have al1 := Lib.hid (below_one (w := w3) (.cells #[.int .i64 (ta : Int), .int .i64 (tb : Int)] 25))
  replace BX := Lib.hid (Below.alc BX.out (.cells #[.int .i64 (ta : Int), .int .i64 (tb : Int)] 25))
  replace HK := Lib.hid (HK.out.below al1.out)
  replace HT := Lib.hid (HT.out.below al1.out)
  replace X4 := Lib.hid (X4.out.below al1.out)
  have X6 := Lib.hid (Bk.new w3 25 #[.int .i64 (ta : Int), .int .i64 (tb : Int)])
  clear al1
  go_wp2_with fail
  refine (MI1.out _).mono ?_
  rintro e w4 ⟨rfl, hb4⟩
  replace BX := Lib.hid (Below.chain BX.out hb4)
  replace HK := Lib.hid (HK.out.below hb4)
  replace HT := Lib.hid (HT.out.below hb4)
  replace X4 := Lib.hid (X4.out.below hb4)
  replace X6 := Lib.hid (X6.out.below hb4)
  clear hb4
  have al1 := Lib.hid (below_one (w := w4) (.cells #[.int .i64 (ia : Int), .int .i64 (ib : Int)] 25))
  replace BX := Lib.hid (Below.alc BX.out (.cells #[.int .i64 (ia : Int), .int .i64 (ib : Int)] 25))
  replace HK := Lib.hid (HK.out.below al1.out)
  replace HT := Lib.hid (HT.out.below al1.out)
  replace X4 := Lib.hid (X4.out.below al1.out)
  replace X6 := Lib.hid (X6.out.below al1.out)
  have X8 := Lib.hid (Bk.new w4 25 #[.int .i64 (ia : Int), .int .i64 (ib : Int)])
  clear al1
  go_wp2_with fail
  refine (MI2.out _).mono ?_
  rintro e w5 ⟨rfl, hb5⟩
  replace BX := Lib.hid (Below.chain BX.out hb5)
  replace HK := Lib.hid (HK.out.below hb5)
  replace HT := Lib.hid (HT.out.below hb5)
  replace X4 := Lib.hid (X4.out.below hb5)
  replace X6 := Lib.hid (X6.out.below hb5)
  replace X8 := Lib.hid (X8.out.below hb5)
  clear hb5
  have al1 := Lib.hid (below_one (w := w5) (.cells #[.int .i64 (ia : Int), .int .i64 (ib : Int)] 25))
  replace BX := Lib.hid (Below.alc BX.out (.cells #[.int .i64 (ia : Int), .int .i64 (ib : Int)] 25))
  replace HK := Lib.hid (HK.out.below al1.out)
  replace HT := Lib.hid (HT.out.below al1.out)
  replace X4 := Lib.hid (X4.out.below al1.out)
  replace X6 := Lib.hid (X6.out.below al1.out)
  replace X8 := Lib.hid (X8.out.below al1.out)
  have X10 := Lib.hid (Bk.new w5 25 #[.int .i64 (ia : Int), .int .i64 (ib : Int)])
  clear al1
  go_wp2_with fail
  refine (CH1.out _).mono ?_
  rintro e w6 ⟨rfl, hb6⟩
  replace BX := Lib.hid (Below.chain BX.out hb6)
  replace HK := Lib.hid (HK.out.below hb6)
  replace HT := Lib.hid (HT.out.below hb6)
  replace X4 := Lib.hid (X4.out.below hb6)
  replace X6 := Lib.hid (X6.out.below hb6)
  replace X8 := Lib.hid (X8.out.below hb6)
  replace X10 := Lib.hid (X10.out.below hb6)
  clear hb6
  have al1 := Lib.hid (below_one (w := w6) (.cells #[.int .i64 (ha : Int), .int .i64 (hb : Int)] 25))
  replace BX := Lib.hid (Below.alc BX.out (.cells #[.int .i64 (ha : Int), .int .i64 (hb : Int)] 25))
  replace HK := Lib.hid (HK.out.below al1.out)
  replace HT := Lib.hid (HT.out.below al1.out)
  replace X4 := Lib.hid (X4.out.below al1.out)
  replace X6 := Lib.hid (X6.out.below al1.out)
  replace X8 := Lib.hid (X8.out.below al1.out)
  replace X10 := Lib.hid (X10.out.below al1.out)
  have X12 := Lib.hid (Bk.new w6 25 #[.int .i64 (ha : Int), .int .i64 (hb : Int)])
  clear al1
  go_wp2_with fail
  refine (CH2.out _).mono ?_
  rintro e w7 ⟨rfl, hb7⟩
  replace BX := Lib.hid (Below.chain BX.out hb7)
  replace HK := Lib.hid (HK.out.below hb7)
  replace HT := Lib.hid (HT.out.below hb7)
  replace X4 := Lib.hid (X4.out.below hb7)
  replace X6 := Lib.hid (X6.out.below hb7)
  replace X8 := Lib.hid (X8.out.below hb7)
  replace X10 := Lib.hid (X10.out.below hb7)
  replace X12 := Lib.hid (X12.out.below hb7)
  clear hb7
  have al1 := Lib.hid (below_one (w := w7) (.cells #[.int .i64 (ha : Int), .int .i64 (hb : Int)] 25))
  replace BX := Lib.hid (Below.alc BX.out (.cells #[.int .i64 (ha : Int), .int .i64 (hb : Int)] 25))
  replace HK := Lib.hid (HK.out.below al1.out)
  replace HT := Lib.hid (HT.out.below al1.out)
  replace X4 := Lib.hid (X4.out.below al1.out)
  replace X6 := Lib.hid (X6.out.below al1.out)
  replace X8 := Lib.hid (X8.out.below al1.out)
  replace X10 := Lib.hid (X10.out.below al1.out)
  replace X12 := Lib.hid (X12.out.below al1.out)
  have X14 := Lib.hid (Bk.new w7 25 #[.int .i64 (ha : Int), .int .i64 (hb : Int)])
  clear al1
  clear CT1 CT2 MI1 MI2 CH1 CH2
  go_wp2_with fail
  refine (vCut_c 1 _ xs _ HK.out (by omega) (by decide)).mono ?_
  rintro e w8 ⟨vc1, ys1, rfl, hcy, _, hb8⟩
  replace BX := Lib.hid (Below.chain BX.out hb8)
  replace HK := Lib.hid (HK.out.below hb8)
  replace HT := Lib.hid (HT.out.below hb8)
  replace X4 := Lib.hid (X4.out.below hb8)
  replace X6 := Lib.hid (X6.out.below hb8)
  replace X8 := Lib.hid (X8.out.below hb8)
  replace X10 := Lib.hid (X10.out.below hb8)
  replace X12 := Lib.hid (X12.out.below hb8)
  replace X14 := Lib.hid (X14.out.below hb8)
  have HY := Lib.hid (hcy)
  clear hb8
  clear hcy
  go_wp2_with fail
  refine (DrawMeanBars_c _ ys1 _ HY.out).mono ?_
  rintro e w9 ⟨n, rfl, hb9⟩
  replace BX := Lib.hid (Below.chain BX.out hb9)
  replace HK := Lib.hid (HK.out.below hb9)
  replace HT := Lib.hid (HT.out.below hb9)
  replace X4 := Lib.hid (X4.out.below hb9)
  replace X6 := Lib.hid (X6.out.below hb9)
  replace X8 := Lib.hid (X8.out.below hb9)
  replace X10 := Lib.hid (X10.out.below hb9)
  replace X12 := Lib.hid (X12.out.below hb9)
  replace X14 := Lib.hid (X14.out.below hb9)
  replace HY := Lib.hid (HY.out.below hb9)
  clear hb9
  clear HY
  have MB1 := fun W h => MeanBars_c n W h
  have MB2 := fun W => sMeanBars_c n W
  simp only [mbV_fr] at MB1 MB2
  generalize mbA n = ba at *
  generalize mbB n = bb at *
  generalize inB n 0 9999 = one at *
  replace MB1 := Lib.hid MB1
  replace MB2 := Lib.hid MB2
  go_wp2_with fail
  refine (MB1.out _ HT.out).mono ?_
  rintro e w10 ⟨rfl, hb10⟩
  replace BX := Lib.hid (Below.chain BX.out hb10)
  replace HK := Lib.hid (HK.out.below hb10)
  replace HT := Lib.hid (HT.out.below hb10)
  replace X4 := Lib.hid (X4.out.below hb10)
  replace X6 := Lib.hid (X6.out.below hb10)
  replace X8 := Lib.hid (X8.out.below hb10)
  replace X10 := Lib.hid (X10.out.below hb10)
  replace X12 := Lib.hid (X12.out.below hb10)
  replace X14 := Lib.hid (X14.out.below hb10)
  clear hb10
  have al1 := Lib.hid (below_one (w := w10) (.cells #[.int .i64 (ba : Int), .int .i64 (bb : Int)] 25))
  replace BX := Lib.hid (Below.alc BX.out (.cells #[.int .i64 (ba : Int), .int .i64 (bb : Int)] 25))
  replace HK := Lib.hid (HK.out.below al1.out)
  replace HT := Lib.hid (HT.out.below al1.out)
  replace X4 := Lib.hid (X4.out.below al1.out)
  replace X6 := Lib.hid (X6.out.below al1.out)
  replace X8 := Lib.hid (X8.out.below al1.out)
  replace X10 := Lib.hid (X10.out.below al1.out)
  replace X12 := Lib.hid (X12.out.below al1.out)
  replace X14 := Lib.hid (X14.out.below al1.out)
  have X17 := Lib.hid (Bk.new w10 25 #[.int .i64 (ba : Int), .int .i64 (bb : Int)])
  clear al1
  go_wp2_with fail
  refine (MB2.out _).mono ?_
  rintro e w11 ⟨rfl, hb11⟩
  replace BX := Lib.hid (Below.chain BX.out hb11)
  replace HK := Lib.hid (HK.out.below hb11)
  replace HT := Lib.hid (HT.out.below hb11)
  replace X4 := Lib.hid (X4.out.below hb11)
  replace X6 := Lib.hid (X6.out.below hb11)
  replace X8 := Lib.hid (X8.out.below hb11)
  replace X10 := Lib.hid (X10.out.below hb11)
  replace X12 := Lib.hid (X12.out.below hb11)
  replace X14 := Lib.hid (X14.out.below hb11)
  replace X17 := Lib.hid (X17.out.below hb11)
  clear hb11
  have al1 := Lib.hid (below_one (w := w11) (.cells #[.int .i64 (ba : Int), .int .i64 (bb : Int)] 25))
  replace BX := Lib.hid (Below.alc BX.out (.cells #[.int .i64 (ba : Int), .int .i64 (bb : Int)] 25))
  replace HK := Lib.hid (HK.out.below al1.out)
  replace HT := Lib.hid (HT.out.below al1.out)
  replace X4 := Lib.hid (X4.out.below al1.out)
  replace X6 := Lib.hid (X6.out.below al1.out)
  replace X8 := Lib.hid (X8.out.below al1.out)
  replace X10 := Lib.hid (X10.out.below al1.out)
  replace X12 := Lib.hid (X12.out.below al1.out)
  replace X14 := Lib.hid (X14.out.below al1.out)
  replace X17 := Lib.hid (X17.out.below al1.out)
  have X19 := Lib.hid (Bk.new w11 25 #[.int .i64 (ba : Int), .int .i64 (bb : Int)])
  clear al1
  clear HT
  clear MB1 MB2
  go_wp2_with fail
  refine (vCut_c 2 _ xs _ HK.out (by omega) (by decide)).mono ?_
  rintro e w12 ⟨vc2, ys2, rfl, hcy, _, hb12⟩
  replace BX := Lib.hid (Below.chain BX.out hb12)
  replace HK := Lib.hid (HK.out.below hb12)
  replace X4 := Lib.hid (X4.out.below hb12)
  replace X6 := Lib.hid (X6.out.below hb12)
  replace X8 := Lib.hid (X8.out.below hb12)
  replace X10 := Lib.hid (X10.out.below hb12)
  replace X12 := Lib.hid (X12.out.below hb12)
  replace X14 := Lib.hid (X14.out.below hb12)
  replace X17 := Lib.hid (X17.out.below hb12)
  replace X19 := Lib.hid (X19.out.below hb12)
  have HY := Lib.hid (hcy)
  clear hb12
  clear hcy
  go_wp2_with fail
  refine (DrawChanceFull_c _ ys2 _ HY.out).mono ?_
  rintro e w13 ⟨m, rfl, hb13⟩
  replace BX := Lib.hid (Below.chain BX.out hb13)
  replace HK := Lib.hid (HK.out.below hb13)
  replace X4 := Lib.hid (X4.out.below hb13)
  replace X6 := Lib.hid (X6.out.below hb13)
  replace X8 := Lib.hid (X8.out.below hb13)
  replace X10 := Lib.hid (X10.out.below hb13)
  replace X12 := Lib.hid (X12.out.below hb13)
  replace X14 := Lib.hid (X14.out.below hb13)
  replace X17 := Lib.hid (X17.out.below hb13)
  replace X19 := Lib.hid (X19.out.below hb13)
  replace HY := Lib.hid (HY.out.below hb13)
  clear hb13
  clear HY
  have CF1 := fun W => ChanceFull_c m W
  have CF2 := fun W => sChanceFull_c m W
  have MF1 := fun W => MeanFound_c m W
  have MF2 := fun W => sMeanFound_c m W
  have QF := fun W => ChanceFull_c (m - 1) W
  have QD := fun W => MeanFound_c (m - 1) W
  have OM := fun (h : inB m 0 4 = true) (h0 : 0 < m) => ot_more h h0
  simp only [otV_fr] at CF1 CF2 MF1 MF2 QF QD
  generalize otA gFull (m - 1) = ga at *
  generalize otB gFull (m - 1) = gb at *
  generalize otA gFound (m - 1) = ea at *
  generalize otB gFound (m - 1) = eb at *
  generalize otA gFull m = fa at *
  generalize otB gFull m = fb at *
  generalize otA gFound m = da at *
  generalize otB gFound m = db at *
  generalize inB (m - 1) 0 4 = twop at *
  generalize inB m 0 4 = two at *
  replace CF1 := Lib.hid CF1
  replace CF2 := Lib.hid CF2
  replace MF1 := Lib.hid MF1
  replace MF2 := Lib.hid MF2
  replace QF := Lib.hid QF
  replace QD := Lib.hid QD
  replace OM := Lib.hid OM
  go_wp2_with fail
  refine (CF1.out _).mono ?_
  rintro e w14 ⟨rfl, hb14⟩
  replace BX := Lib.hid (Below.chain BX.out hb14)
  replace HK := Lib.hid (HK.out.below hb14)
  replace X4 := Lib.hid (X4.out.below hb14)
  replace X6 := Lib.hid (X6.out.below hb14)
  replace X8 := Lib.hid (X8.out.below hb14)
  replace X10 := Lib.hid (X10.out.below hb14)
  replace X12 := Lib.hid (X12.out.below hb14)
  replace X14 := Lib.hid (X14.out.below hb14)
  replace X17 := Lib.hid (X17.out.below hb14)
  replace X19 := Lib.hid (X19.out.below hb14)
  clear hb14
  have al1 := Lib.hid (below_one (w := w14) (.cells #[.int .i64 (fa : Int), .int .i64 (fb : Int)] 25))
  replace BX := Lib.hid (Below.alc BX.out (.cells #[.int .i64 (fa : Int), .int .i64 (fb : Int)] 25))
  replace HK := Lib.hid (HK.out.below al1.out)
  replace X4 := Lib.hid (X4.out.below al1.out)
  replace X6 := Lib.hid (X6.out.below al1.out)
  replace X8 := Lib.hid (X8.out.below al1.out)
  replace X10 := Lib.hid (X10.out.below al1.out)
  replace X12 := Lib.hid (X12.out.below al1.out)
  replace X14 := Lib.hid (X14.out.below al1.out)
  replace X17 := Lib.hid (X17.out.below al1.out)
  replace X19 := Lib.hid (X19.out.below al1.out)
  have X22 := Lib.hid (Bk.new w14 25 #[.int .i64 (fa : Int), .int .i64 (fb : Int)])
  clear al1
  go_wp2_with fail
  refine (CF2.out _).mono ?_
  rintro e w15 ⟨rfl, hb15⟩
  replace BX := Lib.hid (Below.chain BX.out hb15)
  replace HK := Lib.hid (HK.out.below hb15)
  replace X4 := Lib.hid (X4.out.below hb15)
  replace X6 := Lib.hid (X6.out.below hb15)
  replace X8 := Lib.hid (X8.out.below hb15)
  replace X10 := Lib.hid (X10.out.below hb15)
  replace X12 := Lib.hid (X12.out.below hb15)
  replace X14 := Lib.hid (X14.out.below hb15)
  replace X17 := Lib.hid (X17.out.below hb15)
  replace X19 := Lib.hid (X19.out.below hb15)
  replace X22 := Lib.hid (X22.out.below hb15)
  clear hb15
  have al1 := Lib.hid (below_one (w := w15) (.cells #[.int .i64 (fa : Int), .int .i64 (fb : Int)] 25))
  replace BX := Lib.hid (Below.alc BX.out (.cells #[.int .i64 (fa : Int), .int .i64 (fb : Int)] 25))
  replace HK := Lib.hid (HK.out.below al1.out)
  replace X4 := Lib.hid (X4.out.below al1.out)
  replace X6 := Lib.hid (X6.out.below al1.out)
  replace X8 := Lib.hid (X8.out.below al1.out)
  replace X10 := Lib.hid (X10.out.below al1.out)
  replace X12 := Lib.hid (X12.out.below al1.out)
  replace X14 := Lib.hid (X14.out.below al1.out)
  replace X17 := Lib.hid (X17.out.below al1.out)
  replace X19 := Lib.hid (X19.out.below al1.out)
  replace X22 := Lib.hid (X22.out.below al1.out)
  have X24 := Lib.hid (Bk.new w15 25 #[.int .i64 (fa : Int), .int .i64 (fb : Int)])
  clear al1
  go_wp2_with fail
  refine (MF1.out _).mono ?_
  rintro e w16 ⟨rfl, hb16⟩
  replace BX := Lib.hid (Below.chain BX.out hb16)
  replace HK := Lib.hid (HK.out.below hb16)
  replace X4 := Lib.hid (X4.out.below hb16)
  replace X6 := Lib.hid (X6.out.below hb16)
  replace X8 := Lib.hid (X8.out.below hb16)
  replace X10 := Lib.hid (X10.out.below hb16)
  replace X12 := Lib.hid (X12.out.below hb16)
  replace X14 := Lib.hid (X14.out.below hb16)
  replace X17 := Lib.hid (X17.out.below hb16)
  replace X19 := Lib.hid (X19.out.below hb16)
  replace X22 := Lib.hid (X22.out.below hb16)
  replace X24 := Lib.hid (X24.out.below hb16)
  clear hb16
  have al1 := Lib.hid (below_one (w := w16) (.cells #[.int .i64 (da : Int), .int .i64 (db : Int)] 25))
  replace BX := Lib.hid (Below.alc BX.out (.cells #[.int .i64 (da : Int), .int .i64 (db : Int)] 25))
  replace HK := Lib.hid (HK.out.below al1.out)
  replace X4 := Lib.hid (X4.out.below al1.out)
  replace X6 := Lib.hid (X6.out.below al1.out)
  replace X8 := Lib.hid (X8.out.below al1.out)
  replace X10 := Lib.hid (X10.out.below al1.out)
  replace X12 := Lib.hid (X12.out.below al1.out)
  replace X14 := Lib.hid (X14.out.below al1.out)
  replace X17 := Lib.hid (X17.out.below al1.out)
  replace X19 := Lib.hid (X19.out.below al1.out)
  replace X22 := Lib.hid (X22.out.below al1.out)
  replace X24 := Lib.hid (X24.out.below al1.out)
  have X26 := Lib.hid (Bk.new w16 25 #[.int .i64 (da : Int), .int .i64 (db : Int)])
  clear al1
  go_wp2_with fail
  refine (MF2.out _).mono ?_
  rintro e w17 ⟨rfl, hb17⟩
  replace BX := Lib.hid (Below.chain BX.out hb17)
  replace HK := Lib.hid (HK.out.below hb17)
  replace X4 := Lib.hid (X4.out.below hb17)
  replace X6 := Lib.hid (X6.out.below hb17)
  replace X8 := Lib.hid (X8.out.below hb17)
  replace X10 := Lib.hid (X10.out.below hb17)
  replace X12 := Lib.hid (X12.out.below hb17)
  replace X14 := Lib.hid (X14.out.below hb17)
  replace X17 := Lib.hid (X17.out.below hb17)
  replace X19 := Lib.hid (X19.out.below hb17)
  replace X22 := Lib.hid (X22.out.below hb17)
  replace X24 := Lib.hid (X24.out.below hb17)
  replace X26 := Lib.hid (X26.out.below hb17)
  clear hb17
  have al1 := Lib.hid (below_one (w := w17) (.cells #[.int .i64 (da : Int), .int .i64 (db : Int)] 25))
  replace BX := Lib.hid (Below.alc BX.out (.cells #[.int .i64 (da : Int), .int .i64 (db : Int)] 25))
  replace HK := Lib.hid (HK.out.below al1.out)
  replace X4 := Lib.hid (X4.out.below al1.out)
  replace X6 := Lib.hid (X6.out.below al1.out)
  replace X8 := Lib.hid (X8.out.below al1.out)
  replace X10 := Lib.hid (X10.out.below al1.out)
  replace X12 := Lib.hid (X12.out.below al1.out)
  replace X14 := Lib.hid (X14.out.below al1.out)
  replace X17 := Lib.hid (X17.out.below al1.out)
  replace X19 := Lib.hid (X19.out.below al1.out)
  replace X22 := Lib.hid (X22.out.below al1.out)
  replace X24 := Lib.hid (X24.out.below al1.out)
  replace X26 := Lib.hid (X26.out.below al1.out)
  have X28 := Lib.hid (Bk.new w17 25 #[.int .i64 (da : Int), .int .i64 (db : Int)])
  clear al1
  clear CF1 CF2 MF1 MF2
  go_wp2_with fail
  refine (DrawChanceSameDigit_c _ xs _ HK.out).mono ?_
  rintro e w18 ⟨fd, fl, rfl, hb18⟩
  replace BX := Lib.hid (Below.chain BX.out hb18)
  replace HK := Lib.hid (HK.out.below hb18)
  replace X4 := Lib.hid (X4.out.below hb18)
  replace X6 := Lib.hid (X6.out.below hb18)
  replace X8 := Lib.hid (X8.out.below hb18)
  replace X10 := Lib.hid (X10.out.below hb18)
  replace X12 := Lib.hid (X12.out.below hb18)
  replace X14 := Lib.hid (X14.out.below hb18)
  replace X17 := Lib.hid (X17.out.below hb18)
  replace X19 := Lib.hid (X19.out.below hb18)
  replace X22 := Lib.hid (X22.out.below hb18)
  replace X24 := Lib.hid (X24.out.below hb18)
  replace X26 := Lib.hid (X26.out.below hb18)
  replace X28 := Lib.hid (X28.out.below hb18)
  clear hb18
  clear HK
  have CS1 := fun W => ChanceSameDigit_c fd fl W
  have CS2 := fun W => sChanceSameDigit_c fd fl W
  have CI := fun W => CountImages_c fd fl W
  have CL := fun (h : faultB fd fl = true) => cs_law h
  unfold ciV at CI
  simp only [csV_fr] at CS1 CS2
  generalize (grpL fd fl).length = im at *
  generalize csA fd fl = sa at *
  generalize csB fd fl = sb at *
  generalize faultB fd fl = four at *
  obtain ⟨ca, cb, hmc⟩ := mcV_fr
  have MC1 := fun W => MeanChanges_c W
  have MC2 := fun W => sMeanChanges_c W
  simp only [hmc] at MC1 MC2
  clear hmc
  replace CS1 := Lib.hid CS1
  replace CS2 := Lib.hid CS2
  replace CI := Lib.hid CI
  replace CL := Lib.hid CL
  replace MC1 := Lib.hid MC1
  replace MC2 := Lib.hid MC2
  have al1 := Lib.hid (below_one (w := w18) (.cells #[.int .i64 fd, .int .i64 fl] 30))
  replace BX := Lib.hid (Below.alc BX.out (.cells #[.int .i64 fd, .int .i64 fl] 30))
  replace X4 := Lib.hid (X4.out.below al1.out)
  replace X6 := Lib.hid (X6.out.below al1.out)
  replace X8 := Lib.hid (X8.out.below al1.out)
  replace X10 := Lib.hid (X10.out.below al1.out)
  replace X12 := Lib.hid (X12.out.below al1.out)
  replace X14 := Lib.hid (X14.out.below al1.out)
  replace X17 := Lib.hid (X17.out.below al1.out)
  replace X19 := Lib.hid (X19.out.below al1.out)
  replace X22 := Lib.hid (X22.out.below al1.out)
  replace X24 := Lib.hid (X24.out.below al1.out)
  replace X26 := Lib.hid (X26.out.below al1.out)
  replace X28 := Lib.hid (X28.out.below al1.out)
  have X30 := Lib.hid (Bk.new w18 30 #[.int .i64 fd, .int .i64 fl])
  clear al1
  obtain ⟨q0a, q0b, _, _⟩ := X30.out.two'
  go_wp2_with fail
  refine (CS1.out _).mono ?_
  rintro e w19 ⟨rfl, hb19⟩
  replace BX := Lib.hid (Below.chain BX.out hb19)
  replace X4 := Lib.hid (X4.out.below hb19)
  replace X6 := Lib.hid (X6.out.below hb19)
  replace X8 := Lib.hid (X8.out.below hb19)
  replace X10 := Lib.hid (X10.out.below hb19)
  replace X12 := Lib.hid (X12.out.below hb19)
  replace X14 := Lib.hid (X14.out.below hb19)
  replace X17 := Lib.hid (X17.out.below hb19)
  replace X19 := Lib.hid (X19.out.below hb19)
  replace X22 := Lib.hid (X22.out.below hb19)
  replace X24 := Lib.hid (X24.out.below hb19)
  replace X26 := Lib.hid (X26.out.below hb19)
  replace X28 := Lib.hid (X28.out.below hb19)
  replace X30 := Lib.hid (X30.out.below hb19)
  clear hb19
  clear q0a q0b
  have al1 := Lib.hid (below_one (w := w19) (.cells #[.int .i64 (sa : Int), .int .i64 (sb : Int)] 25))
  replace BX := Lib.hid (Below.alc BX.out (.cells #[.int .i64 (sa : Int), .int .i64 (sb : Int)] 25))
  replace X4 := Lib.hid (X4.out.below al1.out)
  replace X6 := Lib.hid (X6.out.below al1.out)
  replace X8 := Lib.hid (X8.out.below al1.out)
  replace X10 := Lib.hid (X10.out.below al1.out)
  replace X12 := Lib.hid (X12.out.below al1.out)
  replace X14 := Lib.hid (X14.out.below al1.out)
  replace X17 := Lib.hid (X17.out.below al1.out)
  replace X19 := Lib.hid (X19.out.below al1.out)
  replace X22 := Lib.hid (X22.out.below al1.out)
  replace X24 := Lib.hid (X24.out.below al1.out)
  replace X26 := Lib.hid (X26.out.below al1.out)
  replace X28 := Lib.hid (X28.out.below al1.out)
  replace X30 := Lib.hid (X30.out.below al1.out)
  have X31 := Lib.hid (Bk.new w19 25 #[.int .i64 (sa : Int), .int .i64 (sb : Int)])
  clear al1
  obtain ⟨q0a, q0b, _, _⟩ := X30.out.two'
  go_wp2_with fail
  refine (CS2.out _).mono ?_
  rintro e w20 ⟨rfl, hb20⟩
  replace BX := Lib.hid (Below.chain BX.out hb20)
  replace X4 := Lib.hid (X4.out.below hb20)
  replace X6 := Lib.hid (X6.out.below hb20)
  replace X8 := Lib.hid (X8.out.below hb20)
  replace X10 := Lib.hid (X10.out.below hb20)
  replace X12 := Lib.hid (X12.out.below hb20)
  replace X14 := Lib.hid (X14.out.below hb20)
  replace X17 := Lib.hid (X17.out.below hb20)
  replace X19 := Lib.hid (X19.out.below hb20)
  replace X22 := Lib.hid (X22.out.below hb20)
  replace X24 := Lib.hid (X24.out.below hb20)
  replace X26 := Lib.hid (X26.out.below hb20)
  replace X28 := Lib.hid (X28.out.below hb20)
  replace X30 := Lib.hid (X30.out.below hb20)
  replace X31 := Lib.hid (X31.out.below hb20)
  clear hb20
  clear q0a q0b
  have al1 := Lib.hid (below_one (w := w20) (.cells #[.int .i64 (sa : Int), .int .i64 (sb : Int)] 25))
  replace BX := Lib.hid (Below.alc BX.out (.cells #[.int .i64 (sa : Int), .int .i64 (sb : Int)] 25))
  replace X4 := Lib.hid (X4.out.below al1.out)
  replace X6 := Lib.hid (X6.out.below al1.out)
  replace X8 := Lib.hid (X8.out.below al1.out)
  replace X10 := Lib.hid (X10.out.below al1.out)
  replace X12 := Lib.hid (X12.out.below al1.out)
  replace X14 := Lib.hid (X14.out.below al1.out)
  replace X17 := Lib.hid (X17.out.below al1.out)
  replace X19 := Lib.hid (X19.out.below al1.out)
  replace X22 := Lib.hid (X22.out.below al1.out)
  replace X24 := Lib.hid (X24.out.below al1.out)
  replace X26 := Lib.hid (X26.out.below al1.out)
  replace X28 := Lib.hid (X28.out.below al1.out)
  replace X30 := Lib.hid (X30.out.below al1.out)
  replace X31 := Lib.hid (X31.out.below al1.out)
  have X33 := Lib.hid (Bk.new w20 25 #[.int .i64 (sa : Int), .int .i64 (sb : Int)])
  clear al1
  clear CS1 CS2
  have eqP := fun x y W => pair_same x y W
  have eqG := pair_guard
  obtain ⟨q0a, q0b, _, _⟩ := X4.out.two'
  obtain ⟨q1a, q1b, _, _⟩ := X6.out.two'
  obtain ⟨q2a, q2b, _, _⟩ := X8.out.two'
  obtain ⟨q3a, q3b, _, _⟩ := X10.out.two'
  obtain ⟨q4a, q4b, _, _⟩ := X12.out.two'
  obtain ⟨q5a, q5b, _, _⟩ := X14.out.two'
  obtain ⟨q6a, q6b, _, _⟩ := X17.out.two'
  obtain ⟨q7a, q7b, _, _⟩ := X19.out.two'
  obtain ⟨q8a, q8b, _, _⟩ := X22.out.two'
  obtain ⟨q9a, q9b, _, _⟩ := X24.out.two'
  obtain ⟨q10a, q10b, _, _⟩ := X26.out.two'
  obtain ⟨q11a, q11b, _, _⟩ := X28.out.two'
  obtain ⟨q12a, q12b, _, _⟩ := X31.out.two'
  obtain ⟨q13a, q13b, _, _⟩ := X33.out.two'
  go_wp2_with fail
  refine (MC1.out _).mono ?_
  rintro e w21 ⟨rfl, hb21⟩
  replace BX := Lib.hid (Below.chain BX.out hb21)
  replace X4 := Lib.hid (X4.out.below hb21)
  replace X6 := Lib.hid (X6.out.below hb21)
  replace X8 := Lib.hid (X8.out.below hb21)
  replace X10 := Lib.hid (X10.out.below hb21)
  replace X12 := Lib.hid (X12.out.below hb21)
  replace X14 := Lib.hid (X14.out.below hb21)
  replace X17 := Lib.hid (X17.out.below hb21)
  replace X19 := Lib.hid (X19.out.below hb21)
  replace X22 := Lib.hid (X22.out.below hb21)
  replace X24 := Lib.hid (X24.out.below hb21)
  replace X26 := Lib.hid (X26.out.below hb21)
  replace X28 := Lib.hid (X28.out.below hb21)
  replace X30 := Lib.hid (X30.out.below hb21)
  replace X31 := Lib.hid (X31.out.below hb21)
  replace X33 := Lib.hid (X33.out.below hb21)
  clear hb21
  clear q0a q0b q1a q1b q2a q2b q3a q3b q4a q4b q5a q5b q6a q6b q7a q7b q8a q8b q9a q9b q10a q10b q11a q11b q12a q12b q13a q13b
  go_wp2_with fail
  refine (MC2.out _).mono ?_
  rintro e w22 ⟨rfl, hb22⟩
  replace BX := Lib.hid (Below.chain BX.out hb22)
  replace X4 := Lib.hid (X4.out.below hb22)
  replace X6 := Lib.hid (X6.out.below hb22)
  replace X8 := Lib.hid (X8.out.below hb22)
  replace X10 := Lib.hid (X10.out.below hb22)
  replace X12 := Lib.hid (X12.out.below hb22)
  replace X14 := Lib.hid (X14.out.below hb22)
  replace X17 := Lib.hid (X17.out.below hb22)
  replace X19 := Lib.hid (X19.out.below hb22)
  replace X22 := Lib.hid (X22.out.below hb22)
  replace X24 := Lib.hid (X24.out.below hb22)
  replace X26 := Lib.hid (X26.out.below hb22)
  replace X28 := Lib.hid (X28.out.below hb22)
  replace X30 := Lib.hid (X30.out.below hb22)
  replace X31 := Lib.hid (X31.out.below hb22)
  replace X33 := Lib.hid (X33.out.below hb22)
  clear hb22
  clear X6 X10 X14 X17 X19 X24 X28 X33 MC1 MC2
  cases ok with
  | false =>
    as_aux_lemma =>

      cases two with
      | false =>
        as_aux_lemma =>
          cases four with
          | false =>
            go_wp2
            go_ret
            exact ⟨rfl, BX.out⟩
          | true =>
            obtain ⟨l1, l2⟩ := CL.out (by trivial)
            have V38a := Lib.hid (fun W => vless_no l1 W)
            have V38b : Hid (∀ W, Calls Tryz.prog 26 #[.agg #[.int .i64 1, .int .i64 1], .agg #[.int .i64 (sa : Int), .int .i64 (sb : Int)]] W fun e w' => e = .returned (.bool false) ∧ Below W.heap.size W w') := fun W => vless_no l2 W
            simp only [if_true] at CI
            clear l1 l2
            obtain ⟨q0a, q0b, _, _⟩ := X30.out.two'
            go_wp2_with fail
            refine (CI.out _).mono ?_
            rintro e w201 ⟨rfl, hb201⟩
            replace BX := Lib.hid (Below.chain BX.out hb201)
            replace X30 := Lib.hid (X30.out.below hb201)
            replace X31 := Lib.hid (X31.out.below hb201)
            clear hb201
            clear q0a q0b
            obtain ⟨q0a, q0b, _, _⟩ := X31.out.two'
            go_wp2_with fail
            refine (V38a.out _).mono ?_
            rintro e w202 ⟨rfl, hb202⟩
            replace BX := Lib.hid (Below.chain BX.out hb202)
            replace X30 := Lib.hid (X30.out.below hb202)
            replace X31 := Lib.hid (X31.out.below hb202)
            clear hb202
            clear q0a q0b
            obtain ⟨q0a, q0b, _, _⟩ := X31.out.two'
            go_wp2_with fail
            refine (V38b.out _).mono ?_
            rintro e w203 ⟨rfl, hb203⟩
            replace BX := Lib.hid (Below.chain BX.out hb203)
            replace X30 := Lib.hid (X30.out.below hb203)
            replace X31 := Lib.hid (X31.out.below hb203)
            clear hb203
            clear q0a q0b
            go_wp2
            go_ret
            exact ⟨rfl, BX.out⟩
      | true =>
        by_cases hm0 : 0 < m
        · as_aux_lemma =>
            obtain ⟨o1, o2, o3, o4, o5⟩ := OM.out (by trivial) hm0
            subst o1
            have V34a := Lib.hid (fun W => vless_no o3 W)
            have V34b := Lib.hid (fun W => vless_no o4 W)
            have V34c : Hid (∀ W, Calls Tryz.prog 26 #[.agg #[.int .i64 14, .int .i64 1], .agg #[.int .i64 (da : Int), .int .i64 (db : Int)]] W fun e w' => e = .returned (.bool false) ∧ Below W.heap.size W w') := fun W => vless_no o5 W
            have hmd : decide (0 < m) = true := decide_eq_true hm0
            have hmw : IntKind.i64.wrap (m - 1) = m - 1 := IntWalk.i64_in _ (by omega)
            clear o3 o4 o5
            go_wp2_with fail
            refine (QF.out _).mono ?_
            rintro e w101 ⟨rfl, hb101⟩
            replace BX := Lib.hid (Below.chain BX.out hb101)
            replace X4 := Lib.hid (X4.out.below hb101)
            replace X8 := Lib.hid (X8.out.below hb101)
            replace X12 := Lib.hid (X12.out.below hb101)
            replace X22 := Lib.hid (X22.out.below hb101)
            replace X26 := Lib.hid (X26.out.below hb101)
            replace X30 := Lib.hid (X30.out.below hb101)
            replace X31 := Lib.hid (X31.out.below hb101)
            clear hb101
            have al1 := Lib.hid (below_one (w := w101) (.cells #[.int .i64 (ga : Int), .int .i64 (gb : Int)] 25))
            replace BX := Lib.hid (Below.alc BX.out (.cells #[.int .i64 (ga : Int), .int .i64 (gb : Int)] 25))
            replace X4 := Lib.hid (X4.out.below al1.out)
            replace X8 := Lib.hid (X8.out.below al1.out)
            replace X12 := Lib.hid (X12.out.below al1.out)
            replace X22 := Lib.hid (X22.out.below al1.out)
            replace X26 := Lib.hid (X26.out.below al1.out)
            replace X30 := Lib.hid (X30.out.below al1.out)
            replace X31 := Lib.hid (X31.out.below al1.out)
            have X41 := Lib.hid (Bk.new w101 25 #[.int .i64 (ga : Int), .int .i64 (gb : Int)])
            clear al1
            go_wp2_with fail
            refine (QD.out _).mono ?_
            rintro e w102 ⟨rfl, hb102⟩
            replace BX := Lib.hid (Below.chain BX.out hb102)
            replace X4 := Lib.hid (X4.out.below hb102)
            replace X8 := Lib.hid (X8.out.below hb102)
            replace X12 := Lib.hid (X12.out.below hb102)
            replace X22 := Lib.hid (X22.out.below hb102)
            replace X26 := Lib.hid (X26.out.below hb102)
            replace X30 := Lib.hid (X30.out.below hb102)
            replace X31 := Lib.hid (X31.out.below hb102)
            replace X41 := Lib.hid (X41.out.below hb102)
            clear hb102
            have al1 := Lib.hid (below_one (w := w102) (.cells #[.int .i64 (ea : Int), .int .i64 (eb : Int)] 25))
            replace BX := Lib.hid (Below.alc BX.out (.cells #[.int .i64 (ea : Int), .int .i64 (eb : Int)] 25))
            replace X4 := Lib.hid (X4.out.below al1.out)
            replace X8 := Lib.hid (X8.out.below al1.out)
            replace X12 := Lib.hid (X12.out.below al1.out)
            replace X22 := Lib.hid (X22.out.below al1.out)
            replace X26 := Lib.hid (X26.out.below al1.out)
            replace X30 := Lib.hid (X30.out.below al1.out)
            replace X31 := Lib.hid (X31.out.below al1.out)
            replace X41 := Lib.hid (X41.out.below al1.out)
            have X43 := Lib.hid (Bk.new w102 25 #[.int .i64 (ea : Int), .int .i64 (eb : Int)])
            clear al1
            obtain ⟨q0a, q0b, _, _⟩ := X22.out.two'
            obtain ⟨q1a, q1b, _, _⟩ := X41.out.two'
            go_wp2_with fail
            refine (V34a.out _).mono ?_
            rintro e w103 ⟨rfl, hb103⟩
            replace BX := Lib.hid (Below.chain BX.out hb103)
            replace X4 := Lib.hid (X4.out.below hb103)
            replace X8 := Lib.hid (X8.out.below hb103)
            replace X12 := Lib.hid (X12.out.below hb103)
            replace X22 := Lib.hid (X22.out.below hb103)
            replace X26 := Lib.hid (X26.out.below hb103)
            replace X30 := Lib.hid (X30.out.below hb103)
            replace X31 := Lib.hid (X31.out.below hb103)
            replace X41 := Lib.hid (X41.out.below hb103)
            replace X43 := Lib.hid (X43.out.below hb103)
            clear hb103
            clear q0a q0b q1a q1b
            obtain ⟨q0a, q0b, _, _⟩ := X26.out.two'
            obtain ⟨q1a, q1b, _, _⟩ := X43.out.two'
            go_wp2_with fail
            refine (V34b.out _).mono ?_
            rintro e w104 ⟨rfl, hb104⟩
            replace BX := Lib.hid (Below.chain BX.out hb104)
            replace X4 := Lib.hid (X4.out.below hb104)
            replace X8 := Lib.hid (X8.out.below hb104)
            replace X12 := Lib.hid (X12.out.below hb104)
            replace X22 := Lib.hid (X22.out.below hb104)
            replace X26 := Lib.hid (X26.out.below hb104)
            replace X30 := Lib.hid (X30.out.below hb104)
            replace X31 := Lib.hid (X31.out.below hb104)
            replace X41 := Lib.hid (X41.out.below hb104)
            replace X43 := Lib.hid (X43.out.below hb104)
            clear hb104
            clear q0a q0b q1a q1b
            obtain ⟨q0a, q0b, _, _⟩ := X26.out.two'
            go_wp2_with fail
            refine (V34c.out _).mono ?_
            rintro e w105 ⟨rfl, hb105⟩
            replace BX := Lib.hid (Below.chain BX.out hb105)
            replace X4 := Lib.hid (X4.out.below hb105)
            replace X8 := Lib.hid (X8.out.below hb105)
            replace X12 := Lib.hid (X12.out.below hb105)
            replace X22 := Lib.hid (X22.out.below hb105)
            replace X26 := Lib.hid (X26.out.below hb105)
            replace X30 := Lib.hid (X30.out.below hb105)
            replace X31 := Lib.hid (X31.out.below hb105)
            replace X41 := Lib.hid (X41.out.below hb105)
            replace X43 := Lib.hid (X43.out.below hb105)
            clear hb105
            clear q0a q0b
            cases four with
            | false =>
              go_wp2
              go_ret
              exact ⟨rfl, BX.out⟩
            | true =>
              obtain ⟨l1, l2⟩ := CL.out (by trivial)
              have V38a := Lib.hid (fun W => vless_no l1 W)
              have V38b : Hid (∀ W, Calls Tryz.prog 26 #[.agg #[.int .i64 1, .int .i64 1], .agg #[.int .i64 (sa : Int), .int .i64 (sb : Int)]] W fun e w' => e = .returned (.bool false) ∧ Below W.heap.size W w') := fun W => vless_no l2 W
              simp only [if_true] at CI
              clear l1 l2
              obtain ⟨q0a, q0b, _, _⟩ := X30.out.two'
              go_wp2_with fail
              refine (CI.out _).mono ?_
              rintro e w201 ⟨rfl, hb201⟩
              replace BX := Lib.hid (Below.chain BX.out hb201)
              replace X30 := Lib.hid (X30.out.below hb201)
              replace X31 := Lib.hid (X31.out.below hb201)
              clear hb201
              clear q0a q0b
              obtain ⟨q0a, q0b, _, _⟩ := X31.out.two'
              go_wp2_with fail
              refine (V38a.out _).mono ?_
              rintro e w202 ⟨rfl, hb202⟩
              replace BX := Lib.hid (Below.chain BX.out hb202)
              replace X30 := Lib.hid (X30.out.below hb202)
              replace X31 := Lib.hid (X31.out.below hb202)
              clear hb202
              clear q0a q0b
              obtain ⟨q0a, q0b, _, _⟩ := X31.out.two'
              go_wp2_with fail
              refine (V38b.out _).mono ?_
              rintro e w203 ⟨rfl, hb203⟩
              replace BX := Lib.hid (Below.chain BX.out hb203)
              replace X30 := Lib.hid (X30.out.below hb203)
              replace X31 := Lib.hid (X31.out.below hb203)
              clear hb203
              clear q0a q0b
              go_wp2
              go_ret
              exact ⟨rfl, BX.out⟩
        · as_aux_lemma =>
            have hmd : decide (0 < m) = false := decide_eq_false hm0
            cases four with
            | false =>
              go_wp2
              go_ret
              exact ⟨rfl, BX.out⟩
            | true =>
              obtain ⟨l1, l2⟩ := CL.out (by trivial)
              have V38a := Lib.hid (fun W => vless_no l1 W)
              have V38b : Hid (∀ W, Calls Tryz.prog 26 #[.agg #[.int .i64 1, .int .i64 1], .agg #[.int .i64 (sa : Int), .int .i64 (sb : Int)]] W fun e w' => e = .returned (.bool false) ∧ Below W.heap.size W w') := fun W => vless_no l2 W
              simp only [if_true] at CI
              clear l1 l2
              obtain ⟨q0a, q0b, _, _⟩ := X30.out.two'
              go_wp2_with fail
              refine (CI.out _).mono ?_
              rintro e w201 ⟨rfl, hb201⟩
              replace BX := Lib.hid (Below.chain BX.out hb201)
              replace X30 := Lib.hid (X30.out.below hb201)
              replace X31 := Lib.hid (X31.out.below hb201)
              clear hb201
              clear q0a q0b
              obtain ⟨q0a, q0b, _, _⟩ := X31.out.two'
              go_wp2_with fail
              refine (V38a.out _).mono ?_
              rintro e w202 ⟨rfl, hb202⟩
              replace BX := Lib.hid (Below.chain BX.out hb202)
              replace X30 := Lib.hid (X30.out.below hb202)
              replace X31 := Lib.hid (X31.out.below hb202)
              clear hb202
              clear q0a q0b
              obtain ⟨q0a, q0b, _, _⟩ := X31.out.two'
              go_wp2_with fail
              refine (V38b.out _).mono ?_
              rintro e w203 ⟨rfl, hb203⟩
              replace BX := Lib.hid (Below.chain BX.out hb203)
              replace X30 := Lib.hid (X30.out.below hb203)
              replace X31 := Lib.hid (X31.out.below hb203)
              clear hb203
              clear q0a q0b
              go_wp2
              go_ret
              exact ⟨rfl, BX.out⟩
  | true =>
    obtain ⟨k1, k2⟩ := D1.out (by trivial)
    have V29a : Hid (∀ W, Calls Tryz.prog 26 #[.agg #[.int .i64 10, .int .i64 1], .agg #[.int .i64 (ia : Int), .int .i64 (ib : Int)]] W fun e w' => e = .returned (.bool false) ∧ Below W.heap.size W w') := fun W => vless_no k1 W
    have V29b := Lib.hid (fun W => vless_no k2 W)
    clear k1 k2

    by_cases hk0 : 0 < k
    · as_aux_lemma =>
        obtain ⟨o1, o2, o3, o4, o5⟩ := DM.out (by trivial) hk0
        subst o1
        have V27a := Lib.hid (fun W => vless_no o3 W)
        have V27b := Lib.hid (fun W => vless_no o4 W)
        have V27c := Lib.hid (fun W => vless_no o5 W)
        have hkd : decide (0 < k) = true := decide_eq_true hk0
        have hkw : IntKind.i64.wrap (k - 1) = k - 1 := IntWalk.i64_in _ (by omega)
        clear o3 o4 o5
        go_wp2_with fail
        refine (PT.out _).mono ?_
        rintro e w401 ⟨rfl, hb401⟩
        replace BX := Lib.hid (Below.chain BX.out hb401)
        replace X4 := Lib.hid (X4.out.below hb401)
        replace X8 := Lib.hid (X8.out.below hb401)
        replace X12 := Lib.hid (X12.out.below hb401)
        replace X22 := Lib.hid (X22.out.below hb401)
        replace X26 := Lib.hid (X26.out.below hb401)
        replace X30 := Lib.hid (X30.out.below hb401)
        replace X31 := Lib.hid (X31.out.below hb401)
        clear hb401
        have al1 := Lib.hid (below_one (w := w401) (.cells #[.int .i64 (pa : Int), .int .i64 (pb : Int)] 25))
        replace BX := Lib.hid (Below.alc BX.out (.cells #[.int .i64 (pa : Int), .int .i64 (pb : Int)] 25))
        replace X4 := Lib.hid (X4.out.below al1.out)
        replace X8 := Lib.hid (X8.out.below al1.out)
        replace X12 := Lib.hid (X12.out.below al1.out)
        replace X22 := Lib.hid (X22.out.below al1.out)
        replace X26 := Lib.hid (X26.out.below al1.out)
        replace X30 := Lib.hid (X30.out.below al1.out)
        replace X31 := Lib.hid (X31.out.below al1.out)
        have X35 := Lib.hid (Bk.new w401 25 #[.int .i64 (pa : Int), .int .i64 (pb : Int)])
        clear al1
        go_wp2_with fail
        refine (PI.out _).mono ?_
        rintro e w402 ⟨rfl, hb402⟩
        replace BX := Lib.hid (Below.chain BX.out hb402)
        replace X4 := Lib.hid (X4.out.below hb402)
        replace X8 := Lib.hid (X8.out.below hb402)
        replace X12 := Lib.hid (X12.out.below hb402)
        replace X22 := Lib.hid (X22.out.below hb402)
        replace X26 := Lib.hid (X26.out.below hb402)
        replace X30 := Lib.hid (X30.out.below hb402)
        replace X31 := Lib.hid (X31.out.below hb402)
        replace X35 := Lib.hid (X35.out.below hb402)
        clear hb402
        have al1 := Lib.hid (below_one (w := w402) (.cells #[.int .i64 (qa : Int), .int .i64 (qb : Int)] 25))
        replace BX := Lib.hid (Below.alc BX.out (.cells #[.int .i64 (qa : Int), .int .i64 (qb : Int)] 25))
        replace X4 := Lib.hid (X4.out.below al1.out)
        replace X8 := Lib.hid (X8.out.below al1.out)
        replace X12 := Lib.hid (X12.out.below al1.out)
        replace X22 := Lib.hid (X22.out.below al1.out)
        replace X26 := Lib.hid (X26.out.below al1.out)
        replace X30 := Lib.hid (X30.out.below al1.out)
        replace X31 := Lib.hid (X31.out.below al1.out)
        replace X35 := Lib.hid (X35.out.below al1.out)
        have X37 := Lib.hid (Bk.new w402 25 #[.int .i64 (qa : Int), .int .i64 (qb : Int)])
        clear al1
        go_wp2_with fail
        refine (PH.out _).mono ?_
        rintro e w403 ⟨rfl, hb403⟩
        replace BX := Lib.hid (Below.chain BX.out hb403)
        replace X4 := Lib.hid (X4.out.below hb403)
        replace X8 := Lib.hid (X8.out.below hb403)
        replace X12 := Lib.hid (X12.out.below hb403)
        replace X22 := Lib.hid (X22.out.below hb403)
        replace X26 := Lib.hid (X26.out.below hb403)
        replace X30 := Lib.hid (X30.out.below hb403)
        replace X31 := Lib.hid (X31.out.below hb403)
        replace X35 := Lib.hid (X35.out.below hb403)
        replace X37 := Lib.hid (X37.out.below hb403)
        clear hb403
        have al1 := Lib.hid (below_one (w := w403) (.cells #[.int .i64 (ra : Int), .int .i64 (rb : Int)] 25))
        replace BX := Lib.hid (Below.alc BX.out (.cells #[.int .i64 (ra : Int), .int .i64 (rb : Int)] 25))
        replace X4 := Lib.hid (X4.out.below al1.out)
        replace X8 := Lib.hid (X8.out.below al1.out)
        replace X12 := Lib.hid (X12.out.below al1.out)
        replace X22 := Lib.hid (X22.out.below al1.out)
        replace X26 := Lib.hid (X26.out.below al1.out)
        replace X30 := Lib.hid (X30.out.below al1.out)
        replace X31 := Lib.hid (X31.out.below al1.out)
        replace X35 := Lib.hid (X35.out.below al1.out)
        replace X37 := Lib.hid (X37.out.below al1.out)
        have X39 := Lib.hid (Bk.new w403 25 #[.int .i64 (ra : Int), .int .i64 (rb : Int)])
        clear al1
        obtain ⟨q0a, q0b, _, _⟩ := X35.out.two'
        obtain ⟨q1a, q1b, _, _⟩ := X4.out.two'
        go_wp2_with fail
        refine (V27a.out _).mono ?_
        rintro e w404 ⟨rfl, hb404⟩
        replace BX := Lib.hid (Below.chain BX.out hb404)
        replace X4 := Lib.hid (X4.out.below hb404)
        replace X8 := Lib.hid (X8.out.below hb404)
        replace X12 := Lib.hid (X12.out.below hb404)
        replace X22 := Lib.hid (X22.out.below hb404)
        replace X26 := Lib.hid (X26.out.below hb404)
        replace X30 := Lib.hid (X30.out.below hb404)
        replace X31 := Lib.hid (X31.out.below hb404)
        replace X35 := Lib.hid (X35.out.below hb404)
        replace X37 := Lib.hid (X37.out.below hb404)
        replace X39 := Lib.hid (X39.out.below hb404)
        clear hb404
        clear q0a q0b q1a q1b
        obtain ⟨q0a, q0b, _, _⟩ := X37.out.two'
        obtain ⟨q1a, q1b, _, _⟩ := X8.out.two'
        go_wp2_with fail
        refine (V27b.out _).mono ?_
        rintro e w405 ⟨rfl, hb405⟩
        replace BX := Lib.hid (Below.chain BX.out hb405)
        replace X4 := Lib.hid (X4.out.below hb405)
        replace X8 := Lib.hid (X8.out.below hb405)
        replace X12 := Lib.hid (X12.out.below hb405)
        replace X22 := Lib.hid (X22.out.below hb405)
        replace X26 := Lib.hid (X26.out.below hb405)
        replace X30 := Lib.hid (X30.out.below hb405)
        replace X31 := Lib.hid (X31.out.below hb405)
        replace X35 := Lib.hid (X35.out.below hb405)
        replace X37 := Lib.hid (X37.out.below hb405)
        replace X39 := Lib.hid (X39.out.below hb405)
        clear hb405
        clear q0a q0b q1a q1b
        obtain ⟨q0a, q0b, _, _⟩ := X39.out.two'
        obtain ⟨q1a, q1b, _, _⟩ := X12.out.two'
        go_wp2_with fail
        refine (V27c.out _).mono ?_
        rintro e w406 ⟨rfl, hb406⟩
        replace BX := Lib.hid (Below.chain BX.out hb406)
        replace X4 := Lib.hid (X4.out.below hb406)
        replace X8 := Lib.hid (X8.out.below hb406)
        replace X12 := Lib.hid (X12.out.below hb406)
        replace X22 := Lib.hid (X22.out.below hb406)
        replace X26 := Lib.hid (X26.out.below hb406)
        replace X30 := Lib.hid (X30.out.below hb406)
        replace X31 := Lib.hid (X31.out.below hb406)
        replace X35 := Lib.hid (X35.out.below hb406)
        replace X37 := Lib.hid (X37.out.below hb406)
        replace X39 := Lib.hid (X39.out.below hb406)
        clear hb406
        clear q0a q0b q1a q1b
        clear X35 X37 X39
        obtain ⟨q0a, q0b, _, _⟩ := X8.out.two'
        go_wp2_with fail
        refine (V29a.out _).mono ?_
        rintro e w407 ⟨rfl, hb407⟩
        replace BX := Lib.hid (Below.chain BX.out hb407)
        replace X4 := Lib.hid (X4.out.below hb407)
        replace X8 := Lib.hid (X8.out.below hb407)
        replace X12 := Lib.hid (X12.out.below hb407)
        replace X22 := Lib.hid (X22.out.below hb407)
        replace X26 := Lib.hid (X26.out.below hb407)
        replace X30 := Lib.hid (X30.out.below hb407)
        replace X31 := Lib.hid (X31.out.below hb407)
        clear hb407
        clear q0a q0b
        obtain ⟨q0a, q0b, _, _⟩ := X4.out.two'
        obtain ⟨q1a, q1b, _, _⟩ := X12.out.two'
        go_wp2_with fail
        refine (V29b.out _).mono ?_
        rintro e w408 ⟨rfl, hb408⟩
        replace BX := Lib.hid (Below.chain BX.out hb408)
        replace X4 := Lib.hid (X4.out.below hb408)
        replace X8 := Lib.hid (X8.out.below hb408)
        replace X12 := Lib.hid (X12.out.below hb408)
        replace X22 := Lib.hid (X22.out.below hb408)
        replace X26 := Lib.hid (X26.out.below hb408)
        replace X30 := Lib.hid (X30.out.below hb408)
        replace X31 := Lib.hid (X31.out.below hb408)
        clear hb408
        clear q0a q0b q1a q1b
        cases two with
        | false =>
          as_aux_lemma =>
            cases four with
            | false =>
              go_wp2
              go_ret
              exact ⟨rfl, BX.out⟩
            | true =>
              obtain ⟨l1, l2⟩ := CL.out (by trivial)
              have V38a := Lib.hid (fun W => vless_no l1 W)
              have V38b : Hid (∀ W, Calls Tryz.prog 26 #[.agg #[.int .i64 1, .int .i64 1], .agg #[.int .i64 (sa : Int), .int .i64 (sb : Int)]] W fun e w' => e = .returned (.bool false) ∧ Below W.heap.size W w') := fun W => vless_no l2 W
              simp only [if_true] at CI
              clear l1 l2
              obtain ⟨q0a, q0b, _, _⟩ := X30.out.two'
              go_wp2_with fail
              refine (CI.out _).mono ?_
              rintro e w201 ⟨rfl, hb201⟩
              replace BX := Lib.hid (Below.chain BX.out hb201)
              replace X30 := Lib.hid (X30.out.below hb201)
              replace X31 := Lib.hid (X31.out.below hb201)
              clear hb201
              clear q0a q0b
              obtain ⟨q0a, q0b, _, _⟩ := X31.out.two'
              go_wp2_with fail
              refine (V38a.out _).mono ?_
              rintro e w202 ⟨rfl, hb202⟩
              replace BX := Lib.hid (Below.chain BX.out hb202)
              replace X30 := Lib.hid (X30.out.below hb202)
              replace X31 := Lib.hid (X31.out.below hb202)
              clear hb202
              clear q0a q0b
              obtain ⟨q0a, q0b, _, _⟩ := X31.out.two'
              go_wp2_with fail
              refine (V38b.out _).mono ?_
              rintro e w203 ⟨rfl, hb203⟩
              replace BX := Lib.hid (Below.chain BX.out hb203)
              replace X30 := Lib.hid (X30.out.below hb203)
              replace X31 := Lib.hid (X31.out.below hb203)
              clear hb203
              clear q0a q0b
              go_wp2
              go_ret
              exact ⟨rfl, BX.out⟩
        | true =>
          by_cases hm0 : 0 < m
          · as_aux_lemma =>
              obtain ⟨o1, o2, o3, o4, o5⟩ := OM.out (by trivial) hm0
              subst o1
              have V34a := Lib.hid (fun W => vless_no o3 W)
              have V34b := Lib.hid (fun W => vless_no o4 W)
              have V34c : Hid (∀ W, Calls Tryz.prog 26 #[.agg #[.int .i64 14, .int .i64 1], .agg #[.int .i64 (da : Int), .int .i64 (db : Int)]] W fun e w' => e = .returned (.bool false) ∧ Below W.heap.size W w') := fun W => vless_no o5 W
              have hmd : decide (0 < m) = true := decide_eq_true hm0
              have hmw : IntKind.i64.wrap (m - 1) = m - 1 := IntWalk.i64_in _ (by omega)
              clear o3 o4 o5
              go_wp2_with fail
              refine (QF.out _).mono ?_
              rintro e w101 ⟨rfl, hb101⟩
              replace BX := Lib.hid (Below.chain BX.out hb101)
              replace X4 := Lib.hid (X4.out.below hb101)
              replace X8 := Lib.hid (X8.out.below hb101)
              replace X12 := Lib.hid (X12.out.below hb101)
              replace X22 := Lib.hid (X22.out.below hb101)
              replace X26 := Lib.hid (X26.out.below hb101)
              replace X30 := Lib.hid (X30.out.below hb101)
              replace X31 := Lib.hid (X31.out.below hb101)
              clear hb101
              have al1 := Lib.hid (below_one (w := w101) (.cells #[.int .i64 (ga : Int), .int .i64 (gb : Int)] 25))
              replace BX := Lib.hid (Below.alc BX.out (.cells #[.int .i64 (ga : Int), .int .i64 (gb : Int)] 25))
              replace X4 := Lib.hid (X4.out.below al1.out)
              replace X8 := Lib.hid (X8.out.below al1.out)
              replace X12 := Lib.hid (X12.out.below al1.out)
              replace X22 := Lib.hid (X22.out.below al1.out)
              replace X26 := Lib.hid (X26.out.below al1.out)
              replace X30 := Lib.hid (X30.out.below al1.out)
              replace X31 := Lib.hid (X31.out.below al1.out)
              have X41 := Lib.hid (Bk.new w101 25 #[.int .i64 (ga : Int), .int .i64 (gb : Int)])
              clear al1
              go_wp2_with fail
              refine (QD.out _).mono ?_
              rintro e w102 ⟨rfl, hb102⟩
              replace BX := Lib.hid (Below.chain BX.out hb102)
              replace X4 := Lib.hid (X4.out.below hb102)
              replace X8 := Lib.hid (X8.out.below hb102)
              replace X12 := Lib.hid (X12.out.below hb102)
              replace X22 := Lib.hid (X22.out.below hb102)
              replace X26 := Lib.hid (X26.out.below hb102)
              replace X30 := Lib.hid (X30.out.below hb102)
              replace X31 := Lib.hid (X31.out.below hb102)
              replace X41 := Lib.hid (X41.out.below hb102)
              clear hb102
              have al1 := Lib.hid (below_one (w := w102) (.cells #[.int .i64 (ea : Int), .int .i64 (eb : Int)] 25))
              replace BX := Lib.hid (Below.alc BX.out (.cells #[.int .i64 (ea : Int), .int .i64 (eb : Int)] 25))
              replace X4 := Lib.hid (X4.out.below al1.out)
              replace X8 := Lib.hid (X8.out.below al1.out)
              replace X12 := Lib.hid (X12.out.below al1.out)
              replace X22 := Lib.hid (X22.out.below al1.out)
              replace X26 := Lib.hid (X26.out.below al1.out)
              replace X30 := Lib.hid (X30.out.below al1.out)
              replace X31 := Lib.hid (X31.out.below al1.out)
              replace X41 := Lib.hid (X41.out.below al1.out)
              have X43 := Lib.hid (Bk.new w102 25 #[.int .i64 (ea : Int), .int .i64 (eb : Int)])
              clear al1
              obtain ⟨q0a, q0b, _, _⟩ := X22.out.two'
              obtain ⟨q1a, q1b, _, _⟩ := X41.out.two'
              go_wp2_with fail
              refine (V34a.out _).mono ?_
              rintro e w103 ⟨rfl, hb103⟩
              replace BX := Lib.hid (Below.chain BX.out hb103)
              replace X4 := Lib.hid (X4.out.below hb103)
              replace X8 := Lib.hid (X8.out.below hb103)
              replace X12 := Lib.hid (X12.out.below hb103)
              replace X22 := Lib.hid (X22.out.below hb103)
              replace X26 := Lib.hid (X26.out.below hb103)
              replace X30 := Lib.hid (X30.out.below hb103)
              replace X31 := Lib.hid (X31.out.below hb103)
              replace X41 := Lib.hid (X41.out.below hb103)
              replace X43 := Lib.hid (X43.out.below hb103)
              clear hb103
              clear q0a q0b q1a q1b
              obtain ⟨q0a, q0b, _, _⟩ := X26.out.two'
              obtain ⟨q1a, q1b, _, _⟩ := X43.out.two'
              go_wp2_with fail
              refine (V34b.out _).mono ?_
              rintro e w104 ⟨rfl, hb104⟩
              replace BX := Lib.hid (Below.chain BX.out hb104)
              replace X4 := Lib.hid (X4.out.below hb104)
              replace X8 := Lib.hid (X8.out.below hb104)
              replace X12 := Lib.hid (X12.out.below hb104)
              replace X22 := Lib.hid (X22.out.below hb104)
              replace X26 := Lib.hid (X26.out.below hb104)
              replace X30 := Lib.hid (X30.out.below hb104)
              replace X31 := Lib.hid (X31.out.below hb104)
              replace X41 := Lib.hid (X41.out.below hb104)
              replace X43 := Lib.hid (X43.out.below hb104)
              clear hb104
              clear q0a q0b q1a q1b
              obtain ⟨q0a, q0b, _, _⟩ := X26.out.two'
              go_wp2_with fail
              refine (V34c.out _).mono ?_
              rintro e w105 ⟨rfl, hb105⟩
              replace BX := Lib.hid (Below.chain BX.out hb105)
              replace X4 := Lib.hid (X4.out.below hb105)
              replace X8 := Lib.hid (X8.out.below hb105)
              replace X12 := Lib.hid (X12.out.below hb105)
              replace X22 := Lib.hid (X22.out.below hb105)
              replace X26 := Lib.hid (X26.out.below hb105)
              replace X30 := Lib.hid (X30.out.below hb105)
              replace X31 := Lib.hid (X31.out.below hb105)
              replace X41 := Lib.hid (X41.out.below hb105)
              replace X43 := Lib.hid (X43.out.below hb105)
              clear hb105
              clear q0a q0b
              cases four with
              | false =>
                go_wp2
                go_ret
                exact ⟨rfl, BX.out⟩
              | true =>
                obtain ⟨l1, l2⟩ := CL.out (by trivial)
                have V38a := Lib.hid (fun W => vless_no l1 W)
                have V38b : Hid (∀ W, Calls Tryz.prog 26 #[.agg #[.int .i64 1, .int .i64 1], .agg #[.int .i64 (sa : Int), .int .i64 (sb : Int)]] W fun e w' => e = .returned (.bool false) ∧ Below W.heap.size W w') := fun W => vless_no l2 W
                simp only [if_true] at CI
                clear l1 l2
                obtain ⟨q0a, q0b, _, _⟩ := X30.out.two'
                go_wp2_with fail
                refine (CI.out _).mono ?_
                rintro e w201 ⟨rfl, hb201⟩
                replace BX := Lib.hid (Below.chain BX.out hb201)
                replace X30 := Lib.hid (X30.out.below hb201)
                replace X31 := Lib.hid (X31.out.below hb201)
                clear hb201
                clear q0a q0b
                obtain ⟨q0a, q0b, _, _⟩ := X31.out.two'
                go_wp2_with fail
                refine (V38a.out _).mono ?_
                rintro e w202 ⟨rfl, hb202⟩
                replace BX := Lib.hid (Below.chain BX.out hb202)
                replace X30 := Lib.hid (X30.out.below hb202)
                replace X31 := Lib.hid (X31.out.below hb202)
                clear hb202
                clear q0a q0b
                obtain ⟨q0a, q0b, _, _⟩ := X31.out.two'
                go_wp2_with fail
                refine (V38b.out _).mono ?_
                rintro e w203 ⟨rfl, hb203⟩
                replace BX := Lib.hid (Below.chain BX.out hb203)
                replace X30 := Lib.hid (X30.out.below hb203)
                replace X31 := Lib.hid (X31.out.below hb203)
                clear hb203
                clear q0a q0b
                go_wp2
                go_ret
                exact ⟨rfl, BX.out⟩
          · as_aux_lemma =>
              have hmd : decide (0 < m) = false := decide_eq_false hm0
              cases four with
              | false =>
                go_wp2
                go_ret
                exact ⟨rfl, BX.out⟩
              | true =>
                obtain ⟨l1, l2⟩ := CL.out (by trivial)
                have V38a := Lib.hid (fun W => vless_no l1 W)
                have V38b : Hid (∀ W, Calls Tryz.prog 26 #[.agg #[.int .i64 1, .int .i64 1], .agg #[.int .i64 (sa : Int), .int .i64 (sb : Int)]] W fun e w' => e = .returned (.bool false) ∧ Below W.heap.size W w') := fun W => vless_no l2 W
                simp only [if_true] at CI
                clear l1 l2
                obtain ⟨q0a, q0b, _, _⟩ := X30.out.two'
                go_wp2_with fail
                refine (CI.out _).mono ?_
                rintro e w201 ⟨rfl, hb201⟩
                replace BX := Lib.hid (Below.chain BX.out hb201)
                replace X30 := Lib.hid (X30.out.below hb201)
                replace X31 := Lib.hid (X31.out.below hb201)
                clear hb201
                clear q0a q0b
                obtain ⟨q0a, q0b, _, _⟩ := X31.out.two'
                go_wp2_with fail
                refine (V38a.out _).mono ?_
                rintro e w202 ⟨rfl, hb202⟩
                replace BX := Lib.hid (Below.chain BX.out hb202)
                replace X30 := Lib.hid (X30.out.below hb202)
                replace X31 := Lib.hid (X31.out.below hb202)
                clear hb202
                clear q0a q0b
                obtain ⟨q0a, q0b, _, _⟩ := X31.out.two'
                go_wp2_with fail
                refine (V38b.out _).mono ?_
                rintro e w203 ⟨rfl, hb203⟩
                replace BX := Lib.hid (Below.chain BX.out hb203)
                replace X30 := Lib.hid (X30.out.below hb203)
                replace X31 := Lib.hid (X31.out.below hb203)
                clear hb203
                clear q0a q0b
                go_wp2
                go_ret
                exact ⟨rfl, BX.out⟩
    · as_aux_lemma =>
        have hkd : decide (0 < k) = false := decide_eq_false hk0
        obtain ⟨q0a, q0b, _, _⟩ := X8.out.two'
        go_wp2_with fail
        refine (V29a.out _).mono ?_
        rintro e w501 ⟨rfl, hb501⟩
        replace BX := Lib.hid (Below.chain BX.out hb501)
        replace X4 := Lib.hid (X4.out.below hb501)
        replace X8 := Lib.hid (X8.out.below hb501)
        replace X12 := Lib.hid (X12.out.below hb501)
        replace X22 := Lib.hid (X22.out.below hb501)
        replace X26 := Lib.hid (X26.out.below hb501)
        replace X30 := Lib.hid (X30.out.below hb501)
        replace X31 := Lib.hid (X31.out.below hb501)
        clear hb501
        clear q0a q0b
        obtain ⟨q0a, q0b, _, _⟩ := X4.out.two'
        obtain ⟨q1a, q1b, _, _⟩ := X12.out.two'
        go_wp2_with fail
        refine (V29b.out _).mono ?_
        rintro e w502 ⟨rfl, hb502⟩
        replace BX := Lib.hid (Below.chain BX.out hb502)
        replace X4 := Lib.hid (X4.out.below hb502)
        replace X8 := Lib.hid (X8.out.below hb502)
        replace X12 := Lib.hid (X12.out.below hb502)
        replace X22 := Lib.hid (X22.out.below hb502)
        replace X26 := Lib.hid (X26.out.below hb502)
        replace X30 := Lib.hid (X30.out.below hb502)
        replace X31 := Lib.hid (X31.out.below hb502)
        clear hb502
        clear q0a q0b q1a q1b
        cases two with
        | false =>
          as_aux_lemma =>
            cases four with
            | false =>
              go_wp2
              go_ret
              exact ⟨rfl, BX.out⟩
            | true =>
              obtain ⟨l1, l2⟩ := CL.out (by trivial)
              have V38a := Lib.hid (fun W => vless_no l1 W)
              have V38b : Hid (∀ W, Calls Tryz.prog 26 #[.agg #[.int .i64 1, .int .i64 1], .agg #[.int .i64 (sa : Int), .int .i64 (sb : Int)]] W fun e w' => e = .returned (.bool false) ∧ Below W.heap.size W w') := fun W => vless_no l2 W
              simp only [if_true] at CI
              clear l1 l2
              obtain ⟨q0a, q0b, _, _⟩ := X30.out.two'
              go_wp2_with fail
              refine (CI.out _).mono ?_
              rintro e w201 ⟨rfl, hb201⟩
              replace BX := Lib.hid (Below.chain BX.out hb201)
              replace X30 := Lib.hid (X30.out.below hb201)
              replace X31 := Lib.hid (X31.out.below hb201)
              clear hb201
              clear q0a q0b
              obtain ⟨q0a, q0b, _, _⟩ := X31.out.two'
              go_wp2_with fail
              refine (V38a.out _).mono ?_
              rintro e w202 ⟨rfl, hb202⟩
              replace BX := Lib.hid (Below.chain BX.out hb202)
              replace X30 := Lib.hid (X30.out.below hb202)
              replace X31 := Lib.hid (X31.out.below hb202)
              clear hb202
              clear q0a q0b
              obtain ⟨q0a, q0b, _, _⟩ := X31.out.two'
              go_wp2_with fail
              refine (V38b.out _).mono ?_
              rintro e w203 ⟨rfl, hb203⟩
              replace BX := Lib.hid (Below.chain BX.out hb203)
              replace X30 := Lib.hid (X30.out.below hb203)
              replace X31 := Lib.hid (X31.out.below hb203)
              clear hb203
              clear q0a q0b
              go_wp2
              go_ret
              exact ⟨rfl, BX.out⟩
        | true =>
          by_cases hm0 : 0 < m
          · as_aux_lemma =>
              obtain ⟨o1, o2, o3, o4, o5⟩ := OM.out (by trivial) hm0
              subst o1
              have V34a := Lib.hid (fun W => vless_no o3 W)
              have V34b := Lib.hid (fun W => vless_no o4 W)
              have V34c : Hid (∀ W, Calls Tryz.prog 26 #[.agg #[.int .i64 14, .int .i64 1], .agg #[.int .i64 (da : Int), .int .i64 (db : Int)]] W fun e w' => e = .returned (.bool false) ∧ Below W.heap.size W w') := fun W => vless_no o5 W
              have hmd : decide (0 < m) = true := decide_eq_true hm0
              have hmw : IntKind.i64.wrap (m - 1) = m - 1 := IntWalk.i64_in _ (by omega)
              clear o3 o4 o5
              go_wp2_with fail
              refine (QF.out _).mono ?_
              rintro e w101 ⟨rfl, hb101⟩
              replace BX := Lib.hid (Below.chain BX.out hb101)
              replace X4 := Lib.hid (X4.out.below hb101)
              replace X8 := Lib.hid (X8.out.below hb101)
              replace X12 := Lib.hid (X12.out.below hb101)
              replace X22 := Lib.hid (X22.out.below hb101)
              replace X26 := Lib.hid (X26.out.below hb101)
              replace X30 := Lib.hid (X30.out.below hb101)
              replace X31 := Lib.hid (X31.out.below hb101)
              clear hb101
              have al1 := Lib.hid (below_one (w := w101) (.cells #[.int .i64 (ga : Int), .int .i64 (gb : Int)] 25))
              replace BX := Lib.hid (Below.alc BX.out (.cells #[.int .i64 (ga : Int), .int .i64 (gb : Int)] 25))
              replace X4 := Lib.hid (X4.out.below al1.out)
              replace X8 := Lib.hid (X8.out.below al1.out)
              replace X12 := Lib.hid (X12.out.below al1.out)
              replace X22 := Lib.hid (X22.out.below al1.out)
              replace X26 := Lib.hid (X26.out.below al1.out)
              replace X30 := Lib.hid (X30.out.below al1.out)
              replace X31 := Lib.hid (X31.out.below al1.out)
              have X41 := Lib.hid (Bk.new w101 25 #[.int .i64 (ga : Int), .int .i64 (gb : Int)])
              clear al1
              go_wp2_with fail
              refine (QD.out _).mono ?_
              rintro e w102 ⟨rfl, hb102⟩
              replace BX := Lib.hid (Below.chain BX.out hb102)
              replace X4 := Lib.hid (X4.out.below hb102)
              replace X8 := Lib.hid (X8.out.below hb102)
              replace X12 := Lib.hid (X12.out.below hb102)
              replace X22 := Lib.hid (X22.out.below hb102)
              replace X26 := Lib.hid (X26.out.below hb102)
              replace X30 := Lib.hid (X30.out.below hb102)
              replace X31 := Lib.hid (X31.out.below hb102)
              replace X41 := Lib.hid (X41.out.below hb102)
              clear hb102
              have al1 := Lib.hid (below_one (w := w102) (.cells #[.int .i64 (ea : Int), .int .i64 (eb : Int)] 25))
              replace BX := Lib.hid (Below.alc BX.out (.cells #[.int .i64 (ea : Int), .int .i64 (eb : Int)] 25))
              replace X4 := Lib.hid (X4.out.below al1.out)
              replace X8 := Lib.hid (X8.out.below al1.out)
              replace X12 := Lib.hid (X12.out.below al1.out)
              replace X22 := Lib.hid (X22.out.below al1.out)
              replace X26 := Lib.hid (X26.out.below al1.out)
              replace X30 := Lib.hid (X30.out.below al1.out)
              replace X31 := Lib.hid (X31.out.below al1.out)
              replace X41 := Lib.hid (X41.out.below al1.out)
              have X43 := Lib.hid (Bk.new w102 25 #[.int .i64 (ea : Int), .int .i64 (eb : Int)])
              clear al1
              obtain ⟨q0a, q0b, _, _⟩ := X22.out.two'
              obtain ⟨q1a, q1b, _, _⟩ := X41.out.two'
              go_wp2_with fail
              refine (V34a.out _).mono ?_
              rintro e w103 ⟨rfl, hb103⟩
              replace BX := Lib.hid (Below.chain BX.out hb103)
              replace X4 := Lib.hid (X4.out.below hb103)
              replace X8 := Lib.hid (X8.out.below hb103)
              replace X12 := Lib.hid (X12.out.below hb103)
              replace X22 := Lib.hid (X22.out.below hb103)
              replace X26 := Lib.hid (X26.out.below hb103)
              replace X30 := Lib.hid (X30.out.below hb103)
              replace X31 := Lib.hid (X31.out.below hb103)
              replace X41 := Lib.hid (X41.out.below hb103)
              replace X43 := Lib.hid (X43.out.below hb103)
              clear hb103
              clear q0a q0b q1a q1b
              obtain ⟨q0a, q0b, _, _⟩ := X26.out.two'
              obtain ⟨q1a, q1b, _, _⟩ := X43.out.two'
              go_wp2_with fail
              refine (V34b.out _).mono ?_
              rintro e w104 ⟨rfl, hb104⟩
              replace BX := Lib.hid (Below.chain BX.out hb104)
              replace X4 := Lib.hid (X4.out.below hb104)
              replace X8 := Lib.hid (X8.out.below hb104)
              replace X12 := Lib.hid (X12.out.below hb104)
              replace X22 := Lib.hid (X22.out.below hb104)
              replace X26 := Lib.hid (X26.out.below hb104)
              replace X30 := Lib.hid (X30.out.below hb104)
              replace X31 := Lib.hid (X31.out.below hb104)
              replace X41 := Lib.hid (X41.out.below hb104)
              replace X43 := Lib.hid (X43.out.below hb104)
              clear hb104
              clear q0a q0b q1a q1b
              obtain ⟨q0a, q0b, _, _⟩ := X26.out.two'
              go_wp2_with fail
              refine (V34c.out _).mono ?_
              rintro e w105 ⟨rfl, hb105⟩
              replace BX := Lib.hid (Below.chain BX.out hb105)
              replace X4 := Lib.hid (X4.out.below hb105)
              replace X8 := Lib.hid (X8.out.below hb105)
              replace X12 := Lib.hid (X12.out.below hb105)
              replace X22 := Lib.hid (X22.out.below hb105)
              replace X26 := Lib.hid (X26.out.below hb105)
              replace X30 := Lib.hid (X30.out.below hb105)
              replace X31 := Lib.hid (X31.out.below hb105)
              replace X41 := Lib.hid (X41.out.below hb105)
              replace X43 := Lib.hid (X43.out.below hb105)
              clear hb105
              clear q0a q0b
              cases four with
              | false =>
                go_wp2
                go_ret
                exact ⟨rfl, BX.out⟩
              | true =>
                obtain ⟨l1, l2⟩ := CL.out (by trivial)
                have V38a := Lib.hid (fun W => vless_no l1 W)
                have V38b : Hid (∀ W, Calls Tryz.prog 26 #[.agg #[.int .i64 1, .int .i64 1], .agg #[.int .i64 (sa : Int), .int .i64 (sb : Int)]] W fun e w' => e = .returned (.bool false) ∧ Below W.heap.size W w') := fun W => vless_no l2 W
                simp only [if_true] at CI
                clear l1 l2
                obtain ⟨q0a, q0b, _, _⟩ := X30.out.two'
                go_wp2_with fail
                refine (CI.out _).mono ?_
                rintro e w201 ⟨rfl, hb201⟩
                replace BX := Lib.hid (Below.chain BX.out hb201)
                replace X30 := Lib.hid (X30.out.below hb201)
                replace X31 := Lib.hid (X31.out.below hb201)
                clear hb201
                clear q0a q0b
                obtain ⟨q0a, q0b, _, _⟩ := X31.out.two'
                go_wp2_with fail
                refine (V38a.out _).mono ?_
                rintro e w202 ⟨rfl, hb202⟩
                replace BX := Lib.hid (Below.chain BX.out hb202)
                replace X30 := Lib.hid (X30.out.below hb202)
                replace X31 := Lib.hid (X31.out.below hb202)
                clear hb202
                clear q0a q0b
                obtain ⟨q0a, q0b, _, _⟩ := X31.out.two'
                go_wp2_with fail
                refine (V38b.out _).mono ?_
                rintro e w203 ⟨rfl, hb203⟩
                replace BX := Lib.hid (Below.chain BX.out hb203)
                replace X30 := Lib.hid (X30.out.below hb203)
                replace X31 := Lib.hid (X31.out.below hb203)
                clear hb203
                clear q0a q0b
                go_wp2
                go_ret
                exact ⟨rfl, BX.out⟩
          · as_aux_lemma =>
              have hmd : decide (0 < m) = false := decide_eq_false hm0
              cases four with
              | false =>
                go_wp2
                go_ret
                exact ⟨rfl, BX.out⟩
              | true =>
                obtain ⟨l1, l2⟩ := CL.out (by trivial)
                have V38a := Lib.hid (fun W => vless_no l1 W)
                have V38b : Hid (∀ W, Calls Tryz.prog 26 #[.agg #[.int .i64 1, .int .i64 1], .agg #[.int .i64 (sa : Int), .int .i64 (sb : Int)]] W fun e w' => e = .returned (.bool false) ∧ Below W.heap.size W w') := fun W => vless_no l2 W
                simp only [if_true] at CI
                clear l1 l2
                obtain ⟨q0a, q0b, _, _⟩ := X30.out.two'
                go_wp2_with fail
                refine (CI.out _).mono ?_
                rintro e w201 ⟨rfl, hb201⟩
                replace BX := Lib.hid (Below.chain BX.out hb201)
                replace X30 := Lib.hid (X30.out.below hb201)
                replace X31 := Lib.hid (X31.out.below hb201)
                clear hb201
                clear q0a q0b
                obtain ⟨q0a, q0b, _, _⟩ := X31.out.two'
                go_wp2_with fail
                refine (V38a.out _).mono ?_
                rintro e w202 ⟨rfl, hb202⟩
                replace BX := Lib.hid (Below.chain BX.out hb202)
                replace X30 := Lib.hid (X30.out.below hb202)
                replace X31 := Lib.hid (X31.out.below hb202)
                clear hb202
                clear q0a q0b
                obtain ⟨q0a, q0b, _, _⟩ := X31.out.two'
                go_wp2_with fail
                refine (V38b.out _).mono ?_
                rintro e w203 ⟨rfl, hb203⟩
                replace BX := Lib.hid (Below.chain BX.out hb203)
                replace X30 := Lib.hid (X30.out.below hb203)
                replace X31 := Lib.hid (X31.out.below hb203)
                clear hb203
                clear q0a q0b
                go_wp2
                go_ret
                exact ⟨rfl, BX.out⟩
end Go.Proofs.YtbobiiodbbcodaaGreatDoor
