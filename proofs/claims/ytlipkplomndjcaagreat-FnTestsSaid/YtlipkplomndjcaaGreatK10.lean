/- Texts of this claim, gathered: LwLTests. -/
import Derived.Test.YtlipkplomndjcaaGreatK9
namespace Go.Proofs.YtlipkplomndjcaaGreat
open Go.RowKit
set_option linter.unusedVariables false
set_option linter.unusedSimpArgs false
set_option maxRecDepth 100000
set_option maxHeartbeats 40000000 in
theorem FnTests_walk (v : Value) (xs : List Nat) (w : World) (h : Code w v xs) :
    Calls Tryz.prog 3 #[v] w fun e w' => e = .returned (.bool true) ∧ Below w.heap.size w w' := by
  have HK := Lib.hid h
  obtain ⟨a, c, rfl, _⟩ := h
  have HV := Lib.hid (vBig_c _ _ _ HK.out)
  by_cases hbig : 65536 < xs.length
  · have hd : decide (65536 < xs.length) = true := decide_eq_true hbig
    go_enter Tryz.func3, Tryz.ntmps3
    go_wp2_with fail
    refine HV.out.mono ?_
    rintro e w1 ⟨rfl, rfl⟩
    go_wp2
    go_ret
    exact ⟨rfl, Below.refl _ _⟩
  have hd : decide (65536 < xs.length) = false := decide_eq_false hbig
  go_enter Tryz.func3, Tryz.ntmps3
  go_wp2_with fail
  refine HV.out.mono ?_
  rintro e _ ⟨rfl, rfl⟩
  go_wp2_with fail
  refine (DrawFoundStates_c _ xs _ HK.out).mono ?_
  rintro e w1 ⟨v3, ts, rfl, _, ho, hb1⟩
  have B1 := Lib.hid (hb1)
  have z1 := Lib.hid (hb1.size)
  replace HK := Lib.hid (HK.out.below hb1)
  have HT := Lib.hid (Ints.of_own ho)
  clear hb1
  clear ho
  go_wp2_with fail
  refine (FoundStates_c _ ts _ HT.out).mono ?_
  rintro e w2 ⟨u4, rfl, ho, hb2⟩
  have B2 := Lib.hid (Below.chain B1.out hb2)
  have z2 := Lib.hid (hb2.size)
  clear B1
  replace HK := Lib.hid (HK.out.below hb2)
  replace HT := Lib.hid (HT.out.below hb2)
  have H4 := Lib.hid (Pairs.of_own ho)
  clear hb2
  clear ho
  go_wp2_with fail
  refine (sFoundStates_c _ ts _ HT.out).mono ?_
  rintro e w3 ⟨u6, rfl, ho, hb3⟩
  have B3 := Lib.hid (Below.chain B2.out hb3)
  have z3 := Lib.hid (hb3.size)
  clear B2
  replace HK := Lib.hid (HK.out.below hb3)
  replace HT := Lib.hid (HT.out.below hb3)
  replace H4 := Lib.hid (H4.out.below hb3)
  have H6 := Lib.hid (Pairs.of_own ho)
  clear hb3
  clear ho
  go_wp2_with fail
  refine (HiddenStates_c _ ts _ HT.out).mono ?_
  rintro e w4 ⟨u8, rfl, ho, hb4⟩
  have B4 := Lib.hid (Below.chain B3.out hb4)
  have z4 := Lib.hid (hb4.size)
  clear B3
  replace HK := Lib.hid (HK.out.below hb4)
  replace HT := Lib.hid (HT.out.below hb4)
  replace H4 := Lib.hid (H4.out.below hb4)
  replace H6 := Lib.hid (H6.out.below hb4)
  have H8 := Lib.hid (Pairs.of_own ho)
  clear hb4
  clear ho
  go_wp2_with fail
  refine (sHiddenStates_c _ ts _ HT.out).mono ?_
  rintro e w5 ⟨u10, rfl, ho, hb5⟩
  have B5 := Lib.hid (Below.chain B4.out hb5)
  have z5 := Lib.hid (hb5.size)
  clear B4
  replace HK := Lib.hid (HK.out.below hb5)
  replace HT := Lib.hid (HT.out.below hb5)
  replace H4 := Lib.hid (H4.out.below hb5)
  replace H6 := Lib.hid (H6.out.below hb5)
  replace H8 := Lib.hid (H8.out.below hb5)
  have H10 := Lib.hid (Pairs.of_own ho)
  clear hb5
  clear ho
  go_wp2_with fail
  refine (IsFullTest_c _ ts _ HT.out).mono ?_
  rintro e w6 ⟨rfl, hb6⟩
  have B6 := Lib.hid (Below.chain B5.out hb6)
  have z6 := Lib.hid (hb6.size)
  clear B5
  replace HK := Lib.hid (HK.out.below hb6)
  replace HT := Lib.hid (HT.out.below hb6)
  replace H4 := Lib.hid (H4.out.below hb6)
  replace H6 := Lib.hid (H6.out.below hb6)
  replace H8 := Lib.hid (H8.out.below hb6)
  replace H10 := Lib.hid (H10.out.below hb6)
  clear hb6
  unfold isFullV
  go_wp2_with fail
  refine (sIsFullTest_c _ ts _ HT.out).mono ?_
  rintro e w7 ⟨rfl, hb7⟩
  have B7 := Lib.hid (Below.chain B6.out hb7)
  have z7 := Lib.hid (hb7.size)
  clear B6
  replace HK := Lib.hid (HK.out.below hb7)
  replace HT := Lib.hid (HT.out.below hb7)
  replace H4 := Lib.hid (H4.out.below hb7)
  replace H6 := Lib.hid (H6.out.below hb7)
  replace H8 := Lib.hid (H8.out.below hb7)
  replace H10 := Lib.hid (H10.out.below hb7)
  clear hb7
  unfold isFullV
  go_wp2_with fail
  refine (vCut_c 1 _ xs _ HK.out (by omega) (by decide)).mono ?_
  rintro e w8 ⟨vc1, ys1, rfl, hcy, _, hb8⟩
  have B8 := Lib.hid (Below.chain B7.out hb8)
  have z8 := Lib.hid (hb8.size)
  clear B7
  replace HK := Lib.hid (HK.out.below hb8)
  replace HT := Lib.hid (HT.out.below hb8)
  replace H4 := Lib.hid (H4.out.below hb8)
  replace H6 := Lib.hid (H6.out.below hb8)
  replace H8 := Lib.hid (H8.out.below hb8)
  replace H10 := Lib.hid (H10.out.below hb8)
  have HY := Lib.hid (hcy)
  clear hb8
  clear hcy
  go_wp2_with fail
  refine (DrawIsLeastTest_c _ ys1 _ HY.out).mono ?_
  rintro e w9 ⟨v16, us, rfl, ho, hb9⟩
  have B9 := Lib.hid (Below.chain B8.out hb9)
  have z9 := Lib.hid (hb9.size)
  clear B8
  replace HK := Lib.hid (HK.out.below hb9)
  replace HT := Lib.hid (HT.out.below hb9)
  replace H4 := Lib.hid (H4.out.below hb9)
  replace H6 := Lib.hid (H6.out.below hb9)
  replace H8 := Lib.hid (H8.out.below hb9)
  replace H10 := Lib.hid (H10.out.below hb9)
  replace HY := Lib.hid (HY.out.below hb9)
  have HU := Lib.hid (Ints.of_own ho)
  clear hb9
  clear ho
  clear HY
  go_wp2_with fail
  refine (IsLeastTest_c _ us _ HU.out).mono ?_
  rintro e w10 ⟨rfl, hb10⟩
  have B10 := Lib.hid (Below.chain B9.out hb10)
  have z10 := Lib.hid (hb10.size)
  clear B9
  replace HK := Lib.hid (HK.out.below hb10)
  replace HT := Lib.hid (HT.out.below hb10)
  replace H4 := Lib.hid (H4.out.below hb10)
  replace H6 := Lib.hid (H6.out.below hb10)
  replace H8 := Lib.hid (H8.out.below hb10)
  replace H10 := Lib.hid (H10.out.below hb10)
  replace HU := Lib.hid (HU.out.below hb10)
  clear hb10
  unfold ltV
  go_wp2_with fail
  refine (sIsLeastTest_c _ us _ HU.out).mono ?_
  rintro e w11 ⟨rfl, hb11⟩
  have B11 := Lib.hid (Below.chain B10.out hb11)
  have z11 := Lib.hid (hb11.size)
  clear B10
  replace HK := Lib.hid (HK.out.below hb11)
  replace HT := Lib.hid (HT.out.below hb11)
  replace H4 := Lib.hid (H4.out.below hb11)
  replace H6 := Lib.hid (H6.out.below hb11)
  replace H8 := Lib.hid (H8.out.below hb11)
  replace H10 := Lib.hid (H10.out.below hb11)
  replace HU := Lib.hid (HU.out.below hb11)
  clear hb11
  unfold ltV
  go_wp2_with fail
  refine (vCut_c 2 _ xs _ HK.out (by omega) (by decide)).mono ?_
  rintro e w12 ⟨vc2, ys2, rfl, hcy, _, hb12⟩
  have B12 := Lib.hid (Below.chain B11.out hb12)
  have z12 := Lib.hid (hb12.size)
  clear B11
  replace HK := Lib.hid (HK.out.below hb12)
  replace HT := Lib.hid (HT.out.below hb12)
  replace H4 := Lib.hid (H4.out.below hb12)
  replace H6 := Lib.hid (H6.out.below hb12)
  replace H8 := Lib.hid (H8.out.below hb12)
  replace H10 := Lib.hid (H10.out.below hb12)
  replace HU := Lib.hid (HU.out.below hb12)
  have HY := Lib.hid (hcy)
  clear hb12
  clear hcy
  go_wp2_with fail
  refine (DrawShortestTest_c _ ys2 _ HY.out).mono ?_
  rintro e w13 ⟨v21, vs, rfl, _, ho, hb13⟩
  have B13 := Lib.hid (Below.chain B12.out hb13)
  have z13 := Lib.hid (hb13.size)
  clear B12
  replace HK := Lib.hid (HK.out.below hb13)
  replace HT := Lib.hid (HT.out.below hb13)
  replace H4 := Lib.hid (H4.out.below hb13)
  replace H6 := Lib.hid (H6.out.below hb13)
  replace H8 := Lib.hid (H8.out.below hb13)
  replace H10 := Lib.hid (H10.out.below hb13)
  replace HU := Lib.hid (HU.out.below hb13)
  replace HY := Lib.hid (HY.out.below hb13)
  have HW := Lib.hid (Ints.of_own ho)
  clear hb13
  clear ho
  clear HY
  go_wp2_with fail
  refine (ShortestTest_c _ vs _ HW.out).mono ?_
  rintro e w14 ⟨u22, rfl, ho, hb14⟩
  have B14 := Lib.hid (Below.chain B13.out hb14)
  have z14 := Lib.hid (hb14.size)
  clear B13
  replace HK := Lib.hid (HK.out.below hb14)
  replace HT := Lib.hid (HT.out.below hb14)
  replace H4 := Lib.hid (H4.out.below hb14)
  replace H6 := Lib.hid (H6.out.below hb14)
  replace H8 := Lib.hid (H8.out.below hb14)
  replace H10 := Lib.hid (H10.out.below hb14)
  replace HU := Lib.hid (HU.out.below hb14)
  replace HW := Lib.hid (HW.out.below hb14)
  have HS := Lib.hid (Ints.of_own ho)
  clear hb14
  clear ho
  go_wp2_with fail
  refine (sShortestTest_c _ vs _ HW.out).mono ?_
  rintro e w15 ⟨u24, rfl, ho, hb15⟩
  have B15 := Lib.hid (Below.chain B14.out hb15)
  have z15 := Lib.hid (hb15.size)
  clear B14
  replace HK := Lib.hid (HK.out.below hb15)
  replace HT := Lib.hid (HT.out.below hb15)
  replace H4 := Lib.hid (H4.out.below hb15)
  replace H6 := Lib.hid (H6.out.below hb15)
  replace H8 := Lib.hid (H8.out.below hb15)
  replace H10 := Lib.hid (H10.out.below hb15)
  replace HU := Lib.hid (HU.out.below hb15)
  replace HW := Lib.hid (HW.out.below hb15)
  replace HS := Lib.hid (HS.out.below hb15)
  have HS2 := Lib.hid (Ints.of_own ho)
  clear hb15
  clear ho
  go_wp2_with fail
  refine (DrawFaultOfState_c _ xs _ HK.out).mono ?_
  rintro e w16 ⟨sb, sk, rfl, hb16⟩
  have B16 := Lib.hid (Below.chain B15.out hb16)
  have z16 := Lib.hid (hb16.size)
  clear B15
  replace HK := Lib.hid (HK.out.below hb16)
  replace HT := Lib.hid (HT.out.below hb16)
  replace H4 := Lib.hid (H4.out.below hb16)
  replace H6 := Lib.hid (H6.out.below hb16)
  replace H8 := Lib.hid (H8.out.below hb16)
  replace H10 := Lib.hid (H10.out.below hb16)
  replace HU := Lib.hid (HU.out.below hb16)
  replace HW := Lib.hid (HW.out.below hb16)
  replace HS := Lib.hid (HS.out.below hb16)
  replace HS2 := Lib.hid (HS2.out.below hb16)
  clear hb16
  clear HK
  have X26 := Lib.hid (Bk.new w16 35 #[.int .i64 sb, .int .i64 sk])
  have BX := Lib.hid (Below.alc B16.out (.cells #[.int .i64 sb, .int .i64 sk] 35))
  have al1 := Lib.hid (below_one (w := w16) (.cells #[.int .i64 sb, .int .i64 sk] 35))
  replace HT := Lib.hid (HT.out.below al1.out)
  replace H4 := Lib.hid (H4.out.below al1.out)
  replace H6 := Lib.hid (H6.out.below al1.out)
  replace H8 := Lib.hid (H8.out.below al1.out)
  replace H10 := Lib.hid (H10.out.below al1.out)
  replace HU := Lib.hid (HU.out.below al1.out)
  replace HW := Lib.hid (HW.out.below al1.out)
  replace HS := Lib.hid (HS.out.below al1.out)
  replace HS2 := Lib.hid (HS2.out.below al1.out)
  clear al1
  go_wp2_with fail
  refine (FaultOfState_c sb sk _).mono ?_
  rintro e w17 ⟨rfl, hb17⟩
  have BX := Lib.hid (Below.chain BX.out hb17)
  replace HT := Lib.hid (HT.out.below hb17)
  replace H4 := Lib.hid (H4.out.below hb17)
  replace H6 := Lib.hid (H6.out.below hb17)
  replace H8 := Lib.hid (H8.out.below hb17)
  replace H10 := Lib.hid (H10.out.below hb17)
  replace HU := Lib.hid (HU.out.below hb17)
  replace HW := Lib.hid (HW.out.below hb17)
  replace HS := Lib.hid (HS.out.below hb17)
  replace HS2 := Lib.hid (HS2.out.below hb17)
  replace X26 := Lib.hid (X26.out.below hb17)
  clear hb17
  unfold fsV
  have X27 := Lib.hid (Bk.new w17 38 #[.int .i64 (fsD sb sk), .int .i64 (fsK sb sk)])
  have al1 := Lib.hid (below_one (w := w17) (.cells #[.int .i64 (fsD sb sk), .int .i64 (fsK sb sk)] 38))
  replace BX := Lib.hid (Below.alc BX.out (.cells #[.int .i64 (fsD sb sk), .int .i64 (fsK sb sk)] 38))
  replace HT := Lib.hid (HT.out.below al1.out)
  replace H4 := Lib.hid (H4.out.below al1.out)
  replace H6 := Lib.hid (H6.out.below al1.out)
  replace H8 := Lib.hid (H8.out.below al1.out)
  replace H10 := Lib.hid (H10.out.below al1.out)
  replace HU := Lib.hid (HU.out.below al1.out)
  replace HW := Lib.hid (HW.out.below al1.out)
  replace HS := Lib.hid (HS.out.below al1.out)
  replace HS2 := Lib.hid (HS2.out.below al1.out)
  replace X26 := Lib.hid (X26.out.below al1.out)
  clear al1
  obtain ⟨x26a, x26b, _, _⟩ := X26.out.two'
  go_wp2_with fail
  refine (sFaultOfState_c sb sk _).mono ?_
  rintro e w18 ⟨rfl, hb18⟩
  have BX := Lib.hid (Below.chain BX.out hb18)
  replace HT := Lib.hid (HT.out.below hb18)
  replace H4 := Lib.hid (H4.out.below hb18)
  replace H6 := Lib.hid (H6.out.below hb18)
  replace H8 := Lib.hid (H8.out.below hb18)
  replace H10 := Lib.hid (H10.out.below hb18)
  replace HU := Lib.hid (HU.out.below hb18)
  replace HW := Lib.hid (HW.out.below hb18)
  replace HS := Lib.hid (HS.out.below hb18)
  replace HS2 := Lib.hid (HS2.out.below hb18)
  replace X26 := Lib.hid (X26.out.below hb18)
  replace X27 := Lib.hid (X27.out.below hb18)
  clear hb18
  clear x26a x26b
  unfold fsV
  have X29 := Lib.hid (Bk.new w18 38 #[.int .i64 (fsD sb sk), .int .i64 (fsK sb sk)])
  have al1 := Lib.hid (below_one (w := w18) (.cells #[.int .i64 (fsD sb sk), .int .i64 (fsK sb sk)] 38))
  replace BX := Lib.hid (Below.alc BX.out (.cells #[.int .i64 (fsD sb sk), .int .i64 (fsK sb sk)] 38))
  replace HT := Lib.hid (HT.out.below al1.out)
  replace H4 := Lib.hid (H4.out.below al1.out)
  replace H6 := Lib.hid (H6.out.below al1.out)
  replace H8 := Lib.hid (H8.out.below al1.out)
  replace H10 := Lib.hid (H10.out.below al1.out)
  replace HU := Lib.hid (HU.out.below al1.out)
  replace HW := Lib.hid (HW.out.below al1.out)
  replace HS := Lib.hid (HS.out.below al1.out)
  replace HS2 := Lib.hid (HS2.out.below al1.out)
  replace X26 := Lib.hid (X26.out.below al1.out)
  replace X27 := Lib.hid (X27.out.below al1.out)
  clear al1
  have hff := fs_fault sb sk
  have HFF := Lib.hid hff
  generalize fsD sb sk = fd at *
  generalize fsK sb sk = fk at *
  have HFI0 : testB ts = true → ∀ s ∈ toldSt ts (foundSt ts), firstFindingV ts s.1 s.2 = .tuple #[.int .i64 (placeOf s.1 s.2 ts), .bool true] ∧ 0 ≤ placeOf s.1 s.2 ts ∧ placeOf s.1 s.2 ts < (ts.length : Int) := fun ht s hs => found_ff ht (by rw [toldSt_yes ht] at hs; exact hs)
  have HHI0 : testB ts = true → ∀ s ∈ toldSt ts (hiddenSt ts), firstFindingV ts s.1 s.2 = .tuple #[.int .i64 0, .bool false] := fun ht s hs => hidden_ff (by rw [toldSt_yes ht] at hs; exact hs)
  have HSUM0 : testB ts = true → (toldSt ts (foundSt ts)).length + (toldSt ts (hiddenSt ts)).length = 14 := fun ht => by rw [toldSt_yes ht, toldSt_yes ht]; exact found_hidden ts
  have HFU0 : testB ts = true → fullB ts = decide ((toldSt ts (hiddenSt ts)).length = 0) := fun ht => by rw [toldSt_yes ht]; exact fullB_hidden ts
  have hFl := toldSt_le ts (foundSt ts) (foundSt_le ts)
  have hGl := toldSt_le ts (hiddenSt ts) (hiddenSt_le ts)
  generalize toldSt ts (foundSt ts) = F at *
  generalize toldSt ts (hiddenSt ts) = G at *
  generalize fullB ts = fb at *
  generalize testB ts = t at *
  have HLF0 : testB us = true → leastL (setS us) = true → isFullV us = .tuple #[.bool true, .bool true] := fun h1 h2 => by unfold isFullV; rw [h1, least_full h2]; rfl
  have HLG0 : testB us = true → ∃ z, isFullV us = .tuple #[.bool z, .bool true] := fun h1 => ⟨fullB us, by unfold isFullV; rw [h1]; rfl⟩
  generalize leastL (setS us) = lb at *
  generalize testB us = one at *
  have HSF0 : shB vs = true → isFullV (shL vs) = .tuple #[.bool true, .bool true] ∧ ltV (shL vs) = .tuple #[.bool true, .bool true] ∧ ∀ x ∈ shL vs, decide (x ∈ vs) = true := fun h => by
    obtain ⟨h1, h2, h3, h4⟩ := short_facts h
    refine ⟨by unfold isFullV; rw [h1, h2]; rfl, by unfold ltV; rw [h1, h3]; rfl, fun x hx => decide_eq_true (h4 x hx)⟩
  have HSN0 : shB vs = false → ∃ p q, isFullV vs = .tuple #[.bool p, .bool q] ∧ (p = false ∨ q = false) := fun h => ⟨_, _, rfl, by
    have := short_not h
    cases hq : testB vs
    · exact .inr rfl
    · rw [hq] at this; exact .inl this⟩
  have IS1 := Lib.hid (fun W => IsState_c sb sk W)
  have IS2 := Lib.hid (fun W => sIsState_c sb sk W)
  generalize shB vs = two at *
  generalize shL vs = S at *
  generalize stateB sb sk = three at *
  have HFI := Lib.hid HFI0
  have HHI := Lib.hid HHI0
  have HSUM := Lib.hid HSUM0
  have HFU := Lib.hid HFU0
  have HLF := Lib.hid HLF0
  have HLG := Lib.hid HLG0
  have HSF := Lib.hid HSF0
  have HSN := Lib.hid HSN0
  clear HFI0 HHI0 HSUM0 HFU0 HLF0 HLG0 HSF0 HSN0 hff
  have hm : ∀ (t : Int), (t != t) = false := by simp
  have hmb : ∀ (t : Bool), (t != t) = false := by simp
  obtain ⟨x27a, x27b, _, _⟩ := X27.out.two'
  obtain ⟨x29a, x29b, _, _⟩ := X29.out.two'
  obtain ⟨x26a, x26b, _, _⟩ := X26.out.two'
  go_wp2_with fail
  generalize (w18.alloc (.cells #[.int .i64 fd, .int .i64 fk] 38)) = w0 at *
  simp only [List.append_eq, List.cons_append, List.nil_append]
  as_aux_lemma =>
    refine wp_region_noPanic ?_
    refine wp_region_held_drew (S := fun w' : World => w'.cell? ⟨w16.heap.size, 0, none⟩ = some (.int .i64 sb) ∧ w'.cell? ⟨w16.heap.size, 1, none⟩ = some (.int .i64 sk) ∧ w'.cell? ⟨w17.heap.size, 0, none⟩ = some (.int .i64 fd) ∧ w'.cell? ⟨w17.heap.size, 1, none⟩ = some (.int .i64 fk) ∧ w'.cell? ⟨w18.heap.size, 0, none⟩ = some (.int .i64 fd) ∧ w'.cell? ⟨w18.heap.size, 1, none⟩ = some (.int .i64 fk) ∧ Below w0.heap.size w0 w') (by kernel_rfl) ⟨x26a, x26b, x27a, x27b, x29a, x29b, (Below.refl _ _).drew⟩ (fun hHeld => ?_)
    refine' wpAnyH_take (i := 0) (oi := _) (v := _) ?e_1 ?a_1 ?b_1 ?c_1 ?q_1 ?y_1 hHeld ?r_1
    case e_1 => (simp only [List.getElem?_toArray, List.getElem?_cons_zero, List.getElem?_cons_succ]; exact rfl)
    case a_1 => kernel_rfl
    case b_1 => kernel_rfl
    case c_1 => kernel_rfl
    case q_1 => exact fun _ _ _ h => h
    case y_1 => exact Or.inl ⟨by rfl, by (intro w hSw; (try dsimp only at hSw); go_simp; first | done | with_reducible rfl)⟩
    try simp only [Act.put, List.setIfInBounds_toArray, List.set_cons_zero, List.set_cons_succ]
    refine' wpAnyH_take (i := 1) (oi := _) (v := _) ?e_2 ?a_2 ?b_2 ?c_2 ?q_2 ?y_2 hHeld ?r_2
    case e_2 => (simp only [List.getElem?_toArray, List.getElem?_cons_zero, List.getElem?_cons_succ]; exact rfl)
    case a_2 => kernel_rfl
    case b_2 => kernel_rfl
    case c_2 => kernel_rfl
    case q_2 => exact fun _ _ _ h => h
    case y_2 => exact Or.inl ⟨by rfl, by (intro w hSw; (try dsimp only at hSw); go_simp; first | done | with_reducible rfl)⟩
    try simp only [Act.put, List.setIfInBounds_toArray, List.set_cons_zero, List.set_cons_succ]
    refine' wpAnyH_take (i := 2) (oi := _) (v := _) ?e_3 ?a_3 ?b_3 ?c_3 ?q_3 ?y_3 hHeld ?r_3
    case e_3 => (simp only [List.getElem?_toArray, List.getElem?_cons_zero, List.getElem?_cons_succ]; exact rfl)
    case a_3 => kernel_rfl
    case b_3 => kernel_rfl
    case c_3 => kernel_rfl
    case q_3 => exact fun _ _ _ h => h
    case y_3 => exact Or.inl ⟨by rfl, by (intro w hSw; (try dsimp only at hSw); go_simp; first | done | with_reducible rfl)⟩
    try simp only [Act.put, List.setIfInBounds_toArray, List.set_cons_zero, List.set_cons_succ]
    refine' wpAnyH_take (i := 3) (oi := _) (v := _) ?e_4 ?a_4 ?b_4 ?c_4 ?q_4 ?y_4 hHeld ?r_4
    case e_4 => (simp only [List.getElem?_toArray, List.getElem?_cons_zero, List.getElem?_cons_succ]; exact rfl)
    case a_4 => kernel_rfl
    case b_4 => kernel_rfl
    case c_4 => kernel_rfl
    case q_4 => exact fun _ _ _ h => h
    case y_4 => exact Or.inl ⟨by rfl, by (intro w hSw; (try dsimp only at hSw); go_simp; first | done | with_reducible rfl)⟩
    try simp only [Act.put, List.setIfInBounds_toArray, List.set_cons_zero, List.set_cons_succ]
    refine' wpAnyH_take (i := 4) (oi := _) (v := _) ?e_5 ?a_5 ?b_5 ?c_5 ?q_5 ?y_5 hHeld ?r_5
    case e_5 => (simp only [List.getElem?_toArray, List.getElem?_cons_zero, List.getElem?_cons_succ]; exact rfl)
    case a_5 => kernel_rfl
    case b_5 => kernel_rfl
    case c_5 => kernel_rfl
    case q_5 => exact fun _ _ _ h => h
    case y_5 => exact Or.inl ⟨by rfl, by (intro w hSw; (try dsimp only at hSw); go_simp; first | done | with_reducible rfl)⟩
    try simp only [Act.put, List.setIfInBounds_toArray, List.set_cons_zero, List.set_cons_succ]
    refine' wpAnyH_take (i := 5) (oi := _) (v := _) ?e_6 ?a_6 ?b_6 ?c_6 ?q_6 ?y_6 hHeld ?r_6
    case e_6 => (simp only [List.getElem?_toArray, List.getElem?_cons_zero, List.getElem?_cons_succ]; exact rfl)
    case a_6 => kernel_rfl
    case b_6 => kernel_rfl
    case c_6 => kernel_rfl
    case q_6 => exact fun _ _ _ h => h
    case y_6 => exact Or.inl ⟨by rfl, by (intro w hSw; (try dsimp only at hSw); go_simp; first | done | with_reducible rfl)⟩
    try simp only [Act.put, List.setIfInBounds_toArray, List.set_cons_zero, List.set_cons_succ]
    refine wpAnyH_ready (rs := [6]) (by kernel_rfl) (by simp) ?_
    refine' AllReadyH.cons (o := _) ?e_7 ?st_7 AllReadyH.nil
    case e_7 => (simp only [List.getElem?_toArray, List.getElem?_cons_zero, List.getElem?_cons_succ]; exact rfl)
    intro K hK
    go_simp
    obtain ⟨l0, l1, l2, l3, l4, l5, lB⟩ := hHeld
    refine (vStatesSame_c u4 u6 F _ (Pairs.below H4.out lB) (Pairs.below H6.out lB)).mono ?_
    rintro e c1 ⟨rfl, hb1⟩
    go_wp2_with fail
    refine hK.out _ _ ⟨cell_later hb1 l0, cell_later hb1 l1, cell_later hb1 l2, cell_later hb1 l3, cell_later hb1 l4, cell_later hb1 l5, chain_back hb1 lB⟩ (fun hHeld => ?_)
    clear l0 l1 l2 l3 l4 l5 lB hb1
    clear hK K
    try simp only [Act.put, List.setIfInBounds_toArray, List.set_cons_zero, List.set_cons_succ]
    refine' wpAnyH_take (i := 7) (oi := _) (v := _) ?e_8 ?a_8 ?b_8 ?c_8 ?q_8 ?y_8 hHeld ?r_8
    case e_8 => (simp only [List.getElem?_toArray, List.getElem?_cons_zero, List.getElem?_cons_succ]; exact rfl)
    case a_8 => kernel_rfl
    case b_8 => kernel_rfl
    case c_8 => kernel_rfl
    case q_8 => exact fun _ _ _ h => h
    case y_8 => exact Or.inl ⟨by rfl, by (intro w hSw; (try dsimp only at hSw); go_simp; first | done | with_reducible rfl)⟩
    try simp only [Act.put, List.setIfInBounds_toArray, List.set_cons_zero, List.set_cons_succ]
    refine' wpAnyH_take (i := 8) (oi := _) (v := _) ?e_9 ?a_9 ?b_9 ?c_9 ?q_9 ?y_9 hHeld ?r_9
    case e_9 => (simp only [List.getElem?_toArray, List.getElem?_cons_zero, List.getElem?_cons_succ]; exact rfl)
    case a_9 => kernel_rfl
    case b_9 => kernel_rfl
    case c_9 => kernel_rfl
    case q_9 => exact fun _ _ _ h => h
    case y_9 => exact Or.inl ⟨by rfl, by (intro w hSw; (try dsimp only at hSw); go_simp; first | done | with_reducible rfl)⟩
    try simp only [Act.put, List.setIfInBounds_toArray, List.set_cons_zero, List.set_cons_succ]
    refine' wpAnyH_take (i := 9) (oi := _) (v := _) ?e_10 ?a_10 ?b_10 ?c_10 ?q_10 ?y_10 hHeld ?r_10
    case e_10 => (simp only [List.getElem?_toArray, List.getElem?_cons_zero, List.getElem?_cons_succ]; exact rfl)
    case a_10 => kernel_rfl
    case b_10 => kernel_rfl
    case c_10 => kernel_rfl
    case q_10 => exact fun _ _ _ h => h
    case y_10 => exact Or.inl ⟨by rfl, by (intro w hSw; (try dsimp only at hSw); go_simp; first | done | with_reducible rfl)⟩
    try simp only [Act.put, List.setIfInBounds_toArray, List.set_cons_zero, List.set_cons_succ]
    refine' wpAnyH_take (i := 10) (oi := _) (v := _) ?e_11 ?a_11 ?b_11 ?c_11 ?q_11 ?y_11 hHeld ?r_11
    case e_11 => (simp only [List.getElem?_toArray, List.getElem?_cons_zero, List.getElem?_cons_succ]; exact rfl)
    case a_11 => kernel_rfl
    case b_11 => kernel_rfl
    case c_11 => kernel_rfl
    case q_11 => exact fun _ _ _ h => h
    case y_11 => exact Or.inl ⟨by rfl, by (intro w hSw; (try dsimp only at hSw); go_simp; first | done | with_reducible rfl)⟩
    try simp only [Act.put, List.setIfInBounds_toArray, List.set_cons_zero, List.set_cons_succ]
    refine' wpAnyH_take (i := 11) (oi := _) (v := _) ?e_12 ?a_12 ?b_12 ?c_12 ?q_12 ?y_12 hHeld ?r_12
    case e_12 => (simp only [List.getElem?_toArray, List.getElem?_cons_zero, List.getElem?_cons_succ]; exact rfl)
    case a_12 => kernel_rfl
    case b_12 => kernel_rfl
    case c_12 => kernel_rfl
    case q_12 => exact fun _ _ _ h => h
    case y_12 => exact Or.inl ⟨by rfl, by (intro w hSw; (try dsimp only at hSw); go_simp; first | done | with_reducible rfl)⟩
    try simp only [Act.put, List.setIfInBounds_toArray, List.set_cons_zero, List.set_cons_succ]
    refine' wpAnyH_take (i := 12) (oi := _) (v := _) ?e_13 ?a_13 ?b_13 ?c_13 ?q_13 ?y_13 hHeld ?r_13
    case e_13 => (simp only [List.getElem?_toArray, List.getElem?_cons_zero, List.getElem?_cons_succ]; exact rfl)
    case a_13 => kernel_rfl
    case b_13 => kernel_rfl
    case c_13 => kernel_rfl
    case q_13 => exact fun _ _ _ h => h
    case y_13 => exact Or.inl ⟨by rfl, by (intro w hSw; (try dsimp only at hSw); go_simp; first | done | with_reducible rfl)⟩
    try simp only [Act.put, List.setIfInBounds_toArray, List.set_cons_zero, List.set_cons_succ]
    refine' wpAnyH_take (i := 13) (oi := _) (v := _) ?e_14 ?a_14 ?b_14 ?c_14 ?q_14 ?y_14 hHeld ?r_14
    case e_14 => (simp only [List.getElem?_toArray, List.getElem?_cons_zero, List.getElem?_cons_succ]; exact rfl)
    case a_14 => kernel_rfl
    case b_14 => kernel_rfl
    case c_14 => kernel_rfl
    case q_14 => exact fun _ _ _ h => h
    case y_14 => exact Or.inl ⟨by rfl, by (intro w hSw; (try dsimp only at hSw); go_simp; first | done | with_reducible rfl)⟩
    try simp only [Act.put, List.setIfInBounds_toArray, List.set_cons_zero, List.set_cons_succ]
    refine' wpAnyH_take (i := 14) (oi := _) (v := _) ?e_15 ?a_15 ?b_15 ?c_15 ?q_15 ?y_15 hHeld ?r_15
    case e_15 => (simp only [List.getElem?_toArray, List.getElem?_cons_zero, List.getElem?_cons_succ]; exact rfl)
    case a_15 => kernel_rfl
    case b_15 => kernel_rfl
    case c_15 => kernel_rfl
    case q_15 => exact fun _ _ _ h => h
    case y_15 => exact Or.inl ⟨by rfl, by (intro w hSw; (try dsimp only at hSw); go_simp; first | done | with_reducible rfl)⟩
    try simp only [Act.put, List.setIfInBounds_toArray, List.set_cons_zero, List.set_cons_succ]
    refine' wpAnyH_take (i := 15) (oi := _) (v := _) ?e_16 ?a_16 ?b_16 ?c_16 ?q_16 ?y_16 hHeld ?r_16
    case e_16 => (simp only [List.getElem?_toArray, List.getElem?_cons_zero, List.getElem?_cons_succ]; exact rfl)
    case a_16 => kernel_rfl
    case b_16 => kernel_rfl
    case c_16 => kernel_rfl
    case q_16 => exact fun _ _ _ h => h
    case y_16 => exact Or.inl ⟨by rfl, by (intro w hSw; (try dsimp only at hSw); go_simp; first | done | with_reducible rfl)⟩
    try simp only [Act.put, List.setIfInBounds_toArray, List.set_cons_zero, List.set_cons_succ]
    refine' wpAnyH_take (i := 16) (oi := _) (v := _) ?e_17 ?a_17 ?b_17 ?c_17 ?q_17 ?y_17 hHeld ?r_17
    case e_17 => (simp only [List.getElem?_toArray, List.getElem?_cons_zero, List.getElem?_cons_succ]; exact rfl)
    case a_17 => kernel_rfl
    case b_17 => kernel_rfl
    case c_17 => kernel_rfl
    case q_17 => exact fun _ _ _ h => h
    case y_17 => exact Or.inl ⟨by rfl, by (intro w hSw; (try dsimp only at hSw); go_simp; first | done | with_reducible rfl)⟩
    try simp only [Act.put, List.setIfInBounds_toArray, List.set_cons_zero, List.set_cons_succ]
    refine wpAnyH_ready (rs := [17]) (by kernel_rfl) (by simp) ?_
    refine' AllReadyH.cons (o := _) ?e_18 ?st_18 AllReadyH.nil
    case e_18 => (simp only [List.getElem?_toArray, List.getElem?_cons_zero, List.getElem?_cons_succ]; exact rfl)
    intro K hK
    go_simp
    obtain ⟨l0, l1, l2, l3, l4, l5, lB⟩ := hHeld
    refine (vStatesSame_c u8 u10 G _ (Pairs.below H8.out lB) (Pairs.below H10.out lB)).mono ?_
    rintro e c2 ⟨rfl, hb2⟩
    go_wp2_with fail
    refine hK.out _ _ ⟨cell_later hb2 l0, cell_later hb2 l1, cell_later hb2 l2, cell_later hb2 l3, cell_later hb2 l4, cell_later hb2 l5, chain_back hb2 lB⟩ (fun hHeld => ?_)
    clear l0 l1 l2 l3 l4 l5 lB hb2
    clear hK K
    try simp only [Act.put, List.setIfInBounds_toArray, List.set_cons_zero, List.set_cons_succ]
    refine' wpAnyH_take (i := 18) (oi := _) (v := _) ?e_19 ?a_19 ?b_19 ?c_19 ?q_19 ?y_19 hHeld ?r_19
    case e_19 => (simp only [List.getElem?_toArray, List.getElem?_cons_zero, List.getElem?_cons_succ]; exact rfl)
    case a_19 => kernel_rfl
    case b_19 => kernel_rfl
    case c_19 => kernel_rfl
    case q_19 => exact fun _ _ _ h => h
    case y_19 => exact Or.inl ⟨by rfl, by (intro w hSw; (try dsimp only at hSw); go_simp; first | done | with_reducible rfl)⟩
    try simp only [Act.put, List.setIfInBounds_toArray, List.set_cons_zero, List.set_cons_succ]
    refine' wpAnyH_take (i := 19) (oi := _) (v := _) ?e_20 ?a_20 ?b_20 ?c_20 ?q_20 ?y_20 hHeld ?r_20
    case e_20 => (simp only [List.getElem?_toArray, List.getElem?_cons_zero, List.getElem?_cons_succ]; exact rfl)
    case a_20 => kernel_rfl
    case b_20 => kernel_rfl
    case c_20 => kernel_rfl
    case q_20 => exact fun _ _ _ h => h
    case y_20 => exact Or.inl ⟨by rfl, by (intro w hSw; (try dsimp only at hSw); go_simp; first | done | with_reducible rfl)⟩
    try simp only [Act.put, List.setIfInBounds_toArray, List.set_cons_zero, List.set_cons_succ]
    refine' wpAnyH_take (i := 20) (oi := _) (v := _) ?e_21 ?a_21 ?b_21 ?c_21 ?q_21 ?y_21 hHeld ?r_21
    case e_21 => (simp only [List.getElem?_toArray, List.getElem?_cons_zero, List.getElem?_cons_succ]; exact rfl)
    case a_21 => kernel_rfl
    case b_21 => kernel_rfl
    case c_21 => kernel_rfl
    case q_21 => exact fun _ _ _ h => h
    case y_21 => exact Or.inl ⟨by rfl, by (intro w hSw; (try dsimp only at hSw); go_simp; first | done | with_reducible rfl)⟩
    try simp only [Act.put, List.setIfInBounds_toArray, List.set_cons_zero, List.set_cons_succ]
    refine' wpAnyH_take (i := 21) (oi := _) (v := _) ?e_22 ?a_22 ?b_22 ?c_22 ?q_22 ?y_22 hHeld ?r_22
    case e_22 => (simp only [List.getElem?_toArray, List.getElem?_cons_zero, List.getElem?_cons_succ]; exact rfl)
    case a_22 => kernel_rfl
    case b_22 => kernel_rfl
    case c_22 => kernel_rfl
    case q_22 => exact fun _ _ _ h => h
    case y_22 => exact Or.inl ⟨by rfl, by (intro w hSw; (try dsimp only at hSw); go_simp; first | done | with_reducible rfl)⟩
    try simp only [Act.put, List.setIfInBounds_toArray, List.set_cons_zero, List.set_cons_succ]
    refine' wpAnyH_take (i := 22) (oi := _) (v := _) ?e_23 ?a_23 ?b_23 ?c_23 ?q_23 ?y_23 hHeld ?r_23
    case e_23 => (simp only [List.getElem?_toArray, List.getElem?_cons_zero, List.getElem?_cons_succ]; exact rfl)
    case a_23 => kernel_rfl
    case b_23 => kernel_rfl
    case c_23 => kernel_rfl
    case q_23 => exact fun _ _ _ h => h
    case y_23 => exact Or.inl ⟨by rfl, by (intro w hSw; (try dsimp only at hSw); go_simp; first | done | with_reducible rfl)⟩
    try simp only [Act.put, List.setIfInBounds_toArray, List.set_cons_zero, List.set_cons_succ]
    refine' wpAnyH_take (i := 23) (oi := _) (v := _) ?e_24 ?a_24 ?b_24 ?c_24 ?q_24 ?y_24 hHeld ?r_24
    case e_24 => (simp only [List.getElem?_toArray, List.getElem?_cons_zero, List.getElem?_cons_succ]; exact rfl)
    case a_24 => kernel_rfl
    case b_24 => kernel_rfl
    case c_24 => kernel_rfl
    case q_24 => exact fun _ _ _ h => h
    case y_24 => exact Or.inl ⟨by rfl, by (intro w hSw; (try dsimp only at hSw); go_simp; first | done | with_reducible rfl)⟩
    try simp only [Act.put, List.setIfInBounds_toArray, List.set_cons_zero, List.set_cons_succ]
    refine' wpAnyH_take (i := 24) (oi := _) (v := _) ?e_25 ?a_25 ?b_25 ?c_25 ?q_25 ?y_25 hHeld ?r_25
    case e_25 => (simp only [List.getElem?_toArray, List.getElem?_cons_zero, List.getElem?_cons_succ]; exact rfl)
    case a_25 => kernel_rfl
    case b_25 => kernel_rfl
    case c_25 => kernel_rfl
    case q_25 => exact fun _ _ _ h => h
    case y_25 => exact Or.inl ⟨by rfl, by (intro w hSw; (try dsimp only at hSw); go_simp; first | done | with_reducible rfl)⟩
    try simp only [Act.put, List.setIfInBounds_toArray, List.set_cons_zero, List.set_cons_succ]
    refine' wpAnyH_take (i := 25) (oi := _) (v := _) ?e_26 ?a_26 ?b_26 ?c_26 ?q_26 ?y_26 hHeld ?r_26
    case e_26 => (simp only [List.getElem?_toArray, List.getElem?_cons_zero, List.getElem?_cons_succ]; exact rfl)
    case a_26 => kernel_rfl
    case b_26 => kernel_rfl
    case c_26 => kernel_rfl
    case q_26 => exact fun _ _ _ h => h
    case y_26 => exact Or.inl ⟨by rfl, by (intro w hSw; (try dsimp only at hSw); go_simp; first | done | with_reducible rfl)⟩
    try simp only [Act.put, List.setIfInBounds_toArray, List.set_cons_zero, List.set_cons_succ]
    refine' wpAnyH_take (i := 26) (oi := _) (v := _) ?e_27 ?a_27 ?b_27 ?c_27 ?q_27 ?y_27 hHeld ?r_27
    case e_27 => (simp only [List.getElem?_toArray, List.getElem?_cons_zero, List.getElem?_cons_succ]; exact rfl)
    case a_27 => kernel_rfl
    case b_27 => kernel_rfl
    case c_27 => kernel_rfl
    case q_27 => exact fun _ _ _ h => h
    case y_27 => exact Or.inl ⟨by rfl, by (intro w hSw; (try dsimp only at hSw); go_simp; first | done | with_reducible rfl)⟩
    try simp only [Act.put, List.setIfInBounds_toArray, List.set_cons_zero, List.set_cons_succ]
    refine' wpAnyH_take (i := 27) (oi := _) (v := _) ?e_28 ?a_28 ?b_28 ?c_28 ?q_28 ?y_28 hHeld ?r_28
    case e_28 => (simp only [List.getElem?_toArray, List.getElem?_cons_zero, List.getElem?_cons_succ]; exact rfl)
    case a_28 => kernel_rfl
    case b_28 => kernel_rfl
    case c_28 => kernel_rfl
    case q_28 => exact fun _ _ _ h => h
    case y_28 => exact Or.inl ⟨by rfl, by (intro w hSw; (try dsimp only at hSw); go_simp; first | done | with_reducible rfl)⟩
    try simp only [Act.put, List.setIfInBounds_toArray, List.set_cons_zero, List.set_cons_succ]
    refine' wpAnyH_take (i := 28) (oi := _) (v := _) ?e_29 ?a_29 ?b_29 ?c_29 ?q_29 ?y_29 hHeld ?r_29
    case e_29 => (simp only [List.getElem?_toArray, List.getElem?_cons_zero, List.getElem?_cons_succ]; exact rfl)
    case a_29 => kernel_rfl
    case b_29 => kernel_rfl
    case c_29 => kernel_rfl
    case q_29 => exact fun _ _ _ h => h
    case y_29 => exact Or.inl ⟨by rfl, by (intro w hSw; (try dsimp only at hSw); go_simp; first | done | with_reducible rfl)⟩
    try simp only [Act.put, List.setIfInBounds_toArray, List.set_cons_zero, List.set_cons_succ]
    refine' wpAnyH_take (i := 29) (oi := _) (v := _) ?e_30 ?a_30 ?b_30 ?c_30 ?q_30 ?y_30 hHeld ?r_30
    case e_30 => (simp only [List.getElem?_toArray, List.getElem?_cons_zero, List.getElem?_cons_succ]; exact rfl)
    case a_30 => kernel_rfl
    case b_30 => kernel_rfl
    case c_30 => kernel_rfl
    case q_30 => exact fun _ _ _ h => h
    case y_30 => exact Or.inl ⟨by rfl, by (intro w hSw; (try dsimp only at hSw); go_simp; first | done | with_reducible rfl)⟩
    try simp only [Act.put, List.setIfInBounds_toArray, List.set_cons_zero, List.set_cons_succ]
    refine' wpAnyH_take (i := 30) (oi := _) (v := _) ?e_31 ?a_31 ?b_31 ?c_31 ?q_31 ?y_31 hHeld ?r_31
    case e_31 => (simp only [List.getElem?_toArray, List.getElem?_cons_zero, List.getElem?_cons_succ]; exact rfl)
    case a_31 => kernel_rfl
    case b_31 => kernel_rfl
    case c_31 => kernel_rfl
    case q_31 => exact fun _ _ _ h => h
    case y_31 => exact Or.inl ⟨by rfl, by (intro w hSw; (try dsimp only at hSw); go_simp; first | done | with_reducible rfl)⟩
    try simp only [Act.put, List.setIfInBounds_toArray, List.set_cons_zero, List.set_cons_succ]
    refine' wpAnyH_take (i := 31) (oi := _) (v := _) ?e_32 ?a_32 ?b_32 ?c_32 ?q_32 ?y_32 hHeld ?r_32
    case e_32 => (simp only [List.getElem?_toArray, List.getElem?_cons_zero, List.getElem?_cons_succ]; exact rfl)
    case a_32 => kernel_rfl
    case b_32 => kernel_rfl
    case c_32 => kernel_rfl
    case q_32 => exact fun _ _ _ h => h
    case y_32 => exact Or.inl ⟨by rfl, by (intro w hSw; (try dsimp only at hSw); go_simp; first | done | with_reducible rfl)⟩
    try simp only [Act.put, List.setIfInBounds_toArray, List.set_cons_zero, List.set_cons_succ]
    refine' wpAnyH_take (i := 32) (oi := _) (v := _) ?e_33 ?a_33 ?b_33 ?c_33 ?q_33 ?y_33 hHeld ?r_33
    case e_33 => (simp only [List.getElem?_toArray, List.getElem?_cons_zero, List.getElem?_cons_succ]; exact rfl)
    case a_33 => kernel_rfl
    case b_33 => kernel_rfl
    case c_33 => kernel_rfl
    case q_33 => exact fun _ _ _ h => h
    case y_33 => exact Or.inl ⟨by rfl, by (intro w hSw; (try dsimp only at hSw); go_simp; first | done | with_reducible rfl)⟩
    try simp only [Act.put, List.setIfInBounds_toArray, List.set_cons_zero, List.set_cons_succ]
    refine' wpAnyH_take (i := 33) (oi := _) (v := _) ?e_34 ?a_34 ?b_34 ?c_34 ?q_34 ?y_34 hHeld ?r_34
    case e_34 => (simp only [List.getElem?_toArray, List.getElem?_cons_zero, List.getElem?_cons_succ]; exact rfl)
    case a_34 => kernel_rfl
    case b_34 => kernel_rfl
    case c_34 => kernel_rfl
    case q_34 => exact fun _ _ _ h => h
    case y_34 => exact Or.inl ⟨by rfl, by (intro w hSw; (try dsimp only at hSw); go_simp; first | done | with_reducible rfl)⟩
    try simp only [Act.put, List.setIfInBounds_toArray, List.set_cons_zero, List.set_cons_succ]
    refine' wpAnyH_take (i := 34) (oi := _) (v := _) ?e_35 ?a_35 ?b_35 ?c_35 ?q_35 ?y_35 hHeld ?r_35
    case e_35 => (simp only [List.getElem?_toArray, List.getElem?_cons_zero, List.getElem?_cons_succ]; exact rfl)
    case a_35 => kernel_rfl
    case b_35 => kernel_rfl
    case c_35 => kernel_rfl
    case q_35 => exact fun _ _ _ h => h
    case y_35 => exact Or.inl ⟨by rfl, by (intro w hSw; (try dsimp only at hSw); go_simp; first | done | with_reducible rfl)⟩
    try simp only [Act.put, List.setIfInBounds_toArray, List.set_cons_zero, List.set_cons_succ]
    refine' wpAnyH_take (i := 35) (oi := _) (v := _) ?e_36 ?a_36 ?b_36 ?c_36 ?q_36 ?y_36 hHeld ?r_36
    case e_36 => (simp only [List.getElem?_toArray, List.getElem?_cons_zero, List.getElem?_cons_succ]; exact rfl)
    case a_36 => kernel_rfl
    case b_36 => kernel_rfl
    case c_36 => kernel_rfl
    case q_36 => exact fun _ _ _ h => h
    case y_36 => exact Or.inl ⟨by rfl, by (intro w hSw; (try dsimp only at hSw); go_simp; first | done | with_reducible rfl)⟩
    try simp only [Act.put, List.setIfInBounds_toArray, List.set_cons_zero, List.set_cons_succ]
    refine' wpAnyH_take (i := 36) (oi := _) (v := _) ?e_37 ?a_37 ?b_37 ?c_37 ?q_37 ?y_37 hHeld ?r_37
    case e_37 => (simp only [List.getElem?_toArray, List.getElem?_cons_zero, List.getElem?_cons_succ]; exact rfl)
    case a_37 => kernel_rfl
    case b_37 => kernel_rfl
    case c_37 => kernel_rfl
    case q_37 => exact fun _ _ _ h => h
    case y_37 => exact Or.inl ⟨by rfl, by (intro w hSw; (try dsimp only at hSw); go_simp; first | done | with_reducible rfl)⟩
    try simp only [Act.put, List.setIfInBounds_toArray, List.set_cons_zero, List.set_cons_succ]
    refine' wpAnyH_take (i := 37) (oi := _) (v := _) ?e_38 ?a_38 ?b_38 ?c_38 ?q_38 ?y_38 hHeld ?r_38
    case e_38 => (simp only [List.getElem?_toArray, List.getElem?_cons_zero, List.getElem?_cons_succ]; exact rfl)
    case a_38 => kernel_rfl
    case b_38 => kernel_rfl
    case c_38 => kernel_rfl
    case q_38 => exact fun _ _ _ h => h
    case y_38 => exact Or.inl ⟨by rfl, by (intro w hSw; (try dsimp only at hSw); go_simp; first | done | with_reducible rfl)⟩
    try simp only [Act.put, List.setIfInBounds_toArray, List.set_cons_zero, List.set_cons_succ]
    refine' wpAnyH_take (i := 38) (oi := _) (v := _) ?e_39 ?a_39 ?b_39 ?c_39 ?q_39 ?y_39 hHeld ?r_39
    case e_39 => (simp only [List.getElem?_toArray, List.getElem?_cons_zero, List.getElem?_cons_succ]; exact rfl)
    case a_39 => kernel_rfl
    case b_39 => kernel_rfl
    case c_39 => kernel_rfl
    case q_39 => exact fun _ _ _ h => h
    case y_39 => exact Or.inl ⟨by rfl, by (intro w hSw; (try dsimp only at hSw); go_simp; first | done | with_reducible rfl)⟩
    try simp only [Act.put, List.setIfInBounds_toArray, List.set_cons_zero, List.set_cons_succ]
    refine' wpAnyH_take (i := 39) (oi := _) (v := _) ?e_40 ?a_40 ?b_40 ?c_40 ?q_40 ?y_40 hHeld ?r_40
    case e_40 => (simp only [List.getElem?_toArray, List.getElem?_cons_zero, List.getElem?_cons_succ]; exact rfl)
    case a_40 => kernel_rfl
    case b_40 => kernel_rfl
    case c_40 => kernel_rfl
    case q_40 => exact fun _ _ _ h => h
    case y_40 => exact Or.inl ⟨by rfl, by (intro w hSw; (try dsimp only at hSw); go_simp; first | done | with_reducible rfl)⟩
    try simp only [Act.put, List.setIfInBounds_toArray, List.set_cons_zero, List.set_cons_succ]
    refine' wpAnyH_take (i := 40) (oi := _) (v := _) ?e_41 ?a_41 ?b_41 ?c_41 ?q_41 ?y_41 hHeld ?r_41
    case e_41 => (simp only [List.getElem?_toArray, List.getElem?_cons_zero, List.getElem?_cons_succ]; exact rfl)
    case a_41 => kernel_rfl
    case b_41 => kernel_rfl
    case c_41 => kernel_rfl
    case q_41 => exact fun _ _ _ h => h
    case y_41 => exact Or.inl ⟨by rfl, by (intro w hSw; (try dsimp only at hSw); go_simp; first | done | with_reducible rfl)⟩
    try simp only [Act.put, List.setIfInBounds_toArray, List.set_cons_zero, List.set_cons_succ]
    refine' wpAnyH_take (i := 41) (oi := _) (v := _) ?e_42 ?a_42 ?b_42 ?c_42 ?q_42 ?y_42 hHeld ?r_42
    case e_42 => (simp only [List.getElem?_toArray, List.getElem?_cons_zero, List.getElem?_cons_succ]; exact rfl)
    case a_42 => kernel_rfl
    case b_42 => kernel_rfl
    case c_42 => kernel_rfl
    case q_42 => exact fun _ _ _ h => h
    case y_42 => exact Or.inl ⟨by rfl, by (intro w hSw; (try dsimp only at hSw); go_simp; first | done | with_reducible rfl)⟩
    try simp only [Act.put, List.setIfInBounds_toArray, List.set_cons_zero, List.set_cons_succ]
    refine' wpAnyH_take (i := 42) (oi := _) (v := _) ?e_43 ?a_43 ?b_43 ?c_43 ?q_43 ?y_43 hHeld ?r_43
    case e_43 => (simp only [List.getElem?_toArray, List.getElem?_cons_zero, List.getElem?_cons_succ]; exact rfl)
    case a_43 => kernel_rfl
    case b_43 => kernel_rfl
    case c_43 => kernel_rfl
    case q_43 => exact fun _ _ _ h => h
    case y_43 => exact Or.inl ⟨by rfl, by (intro w hSw; (try dsimp only at hSw); go_simp; first | done | with_reducible rfl)⟩
    try simp only [Act.put, List.setIfInBounds_toArray, List.set_cons_zero, List.set_cons_succ]
    refine' wpAnyH_take (i := 43) (oi := _) (v := _) ?e_44 ?a_44 ?b_44 ?c_44 ?q_44 ?y_44 hHeld ?r_44
    case e_44 => (simp only [List.getElem?_toArray, List.getElem?_cons_zero, List.getElem?_cons_succ]; exact rfl)
    case a_44 => kernel_rfl
    case b_44 => kernel_rfl
    case c_44 => kernel_rfl
    case q_44 => exact fun _ _ _ h => h
    case y_44 => exact Or.inl ⟨by rfl, by (intro w hSw; (try dsimp only at hSw); go_simp; first | done | with_reducible rfl)⟩
    try simp only [Act.put, List.setIfInBounds_toArray, List.set_cons_zero, List.set_cons_succ]
    refine' wpAnyH_take (i := 44) (oi := _) (v := _) ?e_45 ?a_45 ?b_45 ?c_45 ?q_45 ?y_45 hHeld ?r_45
    case e_45 => (simp only [List.getElem?_toArray, List.getElem?_cons_zero, List.getElem?_cons_succ]; exact rfl)
    case a_45 => kernel_rfl
    case b_45 => kernel_rfl
    case c_45 => kernel_rfl
    case q_45 => exact fun _ _ _ h => h
    case y_45 => exact Or.inl ⟨by rfl, by (intro w hSw; (try dsimp only at hSw); go_simp; first | done | with_reducible rfl)⟩
    try simp only [Act.put, List.setIfInBounds_toArray, List.set_cons_zero, List.set_cons_succ]
    refine' wpAnyH_take (i := 45) (oi := _) (v := _) ?e_46 ?a_46 ?b_46 ?c_46 ?q_46 ?y_46 hHeld ?r_46
    case e_46 => (simp only [List.getElem?_toArray, List.getElem?_cons_zero, List.getElem?_cons_succ]; exact rfl)
    case a_46 => kernel_rfl
    case b_46 => kernel_rfl
    case c_46 => kernel_rfl
    case q_46 => exact fun _ _ _ h => h
    case y_46 => exact Or.inl ⟨by rfl, by (intro w hSw; (try dsimp only at hSw); go_simp; first | done | with_reducible rfl)⟩
    try simp only [Act.put, List.setIfInBounds_toArray, List.set_cons_zero, List.set_cons_succ]
    refine' wpAnyH_take (i := 46) (oi := _) (v := _) ?e_47 ?a_47 ?b_47 ?c_47 ?q_47 ?y_47 hHeld ?r_47
    case e_47 => (simp only [List.getElem?_toArray, List.getElem?_cons_zero, List.getElem?_cons_succ]; exact rfl)
    case a_47 => kernel_rfl
    case b_47 => kernel_rfl
    case c_47 => kernel_rfl
    case q_47 => exact fun _ _ _ h => h
    case y_47 => exact Or.inl ⟨by rfl, by (intro w hSw; (try dsimp only at hSw); go_simp; first | done | with_reducible rfl)⟩
    try simp only [Act.put, List.setIfInBounds_toArray, List.set_cons_zero, List.set_cons_succ]
    refine' wpAnyH_take (i := 47) (oi := _) (v := _) ?e_48 ?a_48 ?b_48 ?c_48 ?q_48 ?y_48 hHeld ?r_48
    case e_48 => (simp only [List.getElem?_toArray, List.getElem?_cons_zero, List.getElem?_cons_succ]; exact rfl)
    case a_48 => kernel_rfl
    case b_48 => kernel_rfl
    case c_48 => kernel_rfl
    case q_48 => exact fun _ _ _ h => h
    case y_48 => exact Or.inl ⟨by rfl, by (intro w hSw; (try dsimp only at hSw); go_simp; first | done | with_reducible rfl)⟩
    try simp only [Act.put, List.setIfInBounds_toArray, List.set_cons_zero, List.set_cons_succ]
    refine wpAnyH_ready (rs := [48]) (by kernel_rfl) (by simp) ?_
    refine' AllReadyH.cons (o := _) ?e_49 ?st_49 AllReadyH.nil
    case e_49 => (simp only [List.getElem?_toArray, List.getElem?_cons_zero, List.getElem?_cons_succ]; exact rfl)
    intro K hK
    go_simp
    obtain ⟨l0, l1, l2, l3, l4, l5, lB⟩ := hHeld
    refine (vIntsSame_c u22 u24 S _ (Ints.below HS.out lB) (Ints.below HS2.out lB)).mono ?_
    rintro e c3 ⟨rfl, hb3⟩
    go_wp2_with fail
    refine hK.out _ _ ⟨cell_later hb3 l0, cell_later hb3 l1, cell_later hb3 l2, cell_later hb3 l3, cell_later hb3 l4, cell_later hb3 l5, chain_back hb3 lB⟩ (fun hHeld => ?_)
    clear l0 l1 l2 l3 l4 l5 lB hb3
    clear hK K
    try simp only [Act.put, List.setIfInBounds_toArray, List.set_cons_zero, List.set_cons_succ]
    refine' wpAnyH_take (i := 49) (oi := _) (v := _) ?e_50 ?a_50 ?b_50 ?c_50 ?q_50 ?y_50 hHeld ?r_50
    case e_50 => (simp only [List.getElem?_toArray, List.getElem?_cons_zero, List.getElem?_cons_succ]; exact rfl)
    case a_50 => kernel_rfl
    case b_50 => kernel_rfl
    case c_50 => kernel_rfl
    case q_50 => exact fun _ _ _ h => h
    case y_50 => exact Or.inl ⟨by rfl, by (intro w hSw; (try dsimp only at hSw); go_simp; first | done | with_reducible rfl)⟩
    try simp only [Act.put, List.setIfInBounds_toArray, List.set_cons_zero, List.set_cons_succ]
    refine' wpAnyH_take (i := 50) (oi := _) (v := _) ?e_51 ?a_51 ?b_51 ?c_51 ?q_51 ?y_51 hHeld ?r_51
    case e_51 => (simp only [List.getElem?_toArray, List.getElem?_cons_zero, List.getElem?_cons_succ]; exact rfl)
    case a_51 => kernel_rfl
    case b_51 => kernel_rfl
    case c_51 => kernel_rfl
    case q_51 => exact fun _ _ _ h => h
    case y_51 => exact Or.inl ⟨by rfl, by (intro w hSw; (try dsimp only at hSw); go_simp; first | done | with_reducible rfl)⟩
    try simp only [Act.put, List.setIfInBounds_toArray, List.set_cons_zero, List.set_cons_succ]
    refine' wpAnyH_take (i := 51) (oi := _) (v := _) ?e_52 ?a_52 ?b_52 ?c_52 ?q_52 ?y_52 hHeld ?r_52
    case e_52 => (simp only [List.getElem?_toArray, List.getElem?_cons_zero, List.getElem?_cons_succ]; exact rfl)
    case a_52 => kernel_rfl
    case b_52 => kernel_rfl
    case c_52 => kernel_rfl
    case q_52 => exact fun _ _ _ h => h
    case y_52 => exact Or.inl ⟨by rfl, by (intro w hSw; (try dsimp only at hSw); go_simp; first | done | with_reducible rfl)⟩
    try simp only [Act.put, List.setIfInBounds_toArray, List.set_cons_zero, List.set_cons_succ]
    refine' wpAnyH_take (i := 52) (oi := _) (v := _) ?e_53 ?a_53 ?b_53 ?c_53 ?q_53 ?y_53 hHeld ?r_53
    case e_53 => (simp only [List.getElem?_toArray, List.getElem?_cons_zero, List.getElem?_cons_succ]; exact rfl)
    case a_53 => kernel_rfl
    case b_53 => kernel_rfl
    case c_53 => kernel_rfl
    case q_53 => exact fun _ _ _ h => h
    case y_53 => exact Or.inl ⟨by rfl, by (intro w hSw; (try dsimp only at hSw); go_simp; first | done | with_reducible rfl)⟩
    try simp only [Act.put, List.setIfInBounds_toArray, List.set_cons_zero, List.set_cons_succ]
    refine' wpAnyH_take (i := 53) (oi := _) (v := _) ?e_54 ?a_54 ?b_54 ?c_54 ?q_54 ?y_54 hHeld ?r_54
    case e_54 => (simp only [List.getElem?_toArray, List.getElem?_cons_zero, List.getElem?_cons_succ]; exact rfl)
    case a_54 => kernel_rfl
    case b_54 => kernel_rfl
    case c_54 => kernel_rfl
    case q_54 => exact fun _ _ _ h => h
    case y_54 => exact Or.inl ⟨by rfl, by (intro w hSw; (try dsimp only at hSw); go_simp; first | done | with_reducible rfl)⟩
    try simp only [Act.put, List.setIfInBounds_toArray, List.set_cons_zero, List.set_cons_succ]
    refine' wpAnyH_take (i := 54) (oi := _) (v := _) ?e_55 ?a_55 ?b_55 ?c_55 ?q_55 ?y_55 hHeld ?r_55
    case e_55 => (simp only [List.getElem?_toArray, List.getElem?_cons_zero, List.getElem?_cons_succ]; exact rfl)
    case a_55 => kernel_rfl
    case b_55 => kernel_rfl
    case c_55 => kernel_rfl
    case q_55 => exact fun _ _ _ h => h
    case y_55 => exact Or.inl ⟨by rfl, by (intro w hSw; (try dsimp only at hSw); go_simp; first | done | with_reducible rfl)⟩
    try simp only [Act.put, List.setIfInBounds_toArray, List.set_cons_zero, List.set_cons_succ]
    refine' wpAnyH_take (i := 55) (oi := _) (v := _) ?e_56 ?a_56 ?b_56 ?c_56 ?q_56 ?y_56 hHeld ?r_56
    case e_56 => (simp only [List.getElem?_toArray, List.getElem?_cons_zero, List.getElem?_cons_succ]; exact rfl)
    case a_56 => kernel_rfl
    case b_56 => kernel_rfl
    case c_56 => kernel_rfl
    case q_56 => exact fun _ _ _ h => h
    case y_56 => exact Or.inl ⟨by rfl, by (intro w hSw; (try dsimp only at hSw); go_simp; first | done | with_reducible rfl)⟩
    try simp only [Act.put, List.setIfInBounds_toArray, List.set_cons_zero, List.set_cons_succ]
    refine' wpAnyH_take (i := 56) (oi := _) (v := _) ?e_57 ?a_57 ?b_57 ?c_57 ?q_57 ?y_57 hHeld ?r_57
    case e_57 => (simp only [List.getElem?_toArray, List.getElem?_cons_zero, List.getElem?_cons_succ]; exact rfl)
    case a_57 => kernel_rfl
    case b_57 => kernel_rfl
    case c_57 => kernel_rfl
    case q_57 => exact fun _ _ _ h => h
    case y_57 => exact Or.inl ⟨by rfl, by (intro w hSw; (try dsimp only at hSw); go_simp; first | done | with_reducible rfl)⟩
    try simp only [Act.put, List.setIfInBounds_toArray, List.set_cons_zero, List.set_cons_succ]
    refine' wpAnyH_take (i := 57) (oi := _) (v := _) ?e_58 ?a_58 ?b_58 ?c_58 ?q_58 ?y_58 hHeld ?r_58
    case e_58 => (simp only [List.getElem?_toArray, List.getElem?_cons_zero, List.getElem?_cons_succ]; exact rfl)
    case a_58 => kernel_rfl
    case b_58 => kernel_rfl
    case c_58 => kernel_rfl
    case q_58 => exact fun _ _ _ h => h
    case y_58 => exact Or.inl ⟨by rfl, by (intro w hSw; (try dsimp only at hSw); go_simp; first | done | with_reducible rfl)⟩
    try simp only [Act.put, List.setIfInBounds_toArray, List.set_cons_zero, List.set_cons_succ]
    refine' wpAnyH_take (i := 58) (oi := _) (v := _) ?e_59 ?a_59 ?b_59 ?c_59 ?q_59 ?y_59 hHeld ?r_59
    case e_59 => (simp only [List.getElem?_toArray, List.getElem?_cons_zero, List.getElem?_cons_succ]; exact rfl)
    case a_59 => kernel_rfl
    case b_59 => kernel_rfl
    case c_59 => kernel_rfl
    case q_59 => exact fun _ _ _ h => h
    case y_59 => exact Or.inl ⟨by rfl, by (intro w hSw; (try dsimp only at hSw); go_simp; first | done | with_reducible rfl)⟩
    try simp only [Act.put, List.setIfInBounds_toArray, List.set_cons_zero, List.set_cons_succ]
    refine' wpAnyH_take (i := 59) (oi := _) (v := _) ?e_60 ?a_60 ?b_60 ?c_60 ?q_60 ?y_60 hHeld ?r_60
    case e_60 => (simp only [List.getElem?_toArray, List.getElem?_cons_zero, List.getElem?_cons_succ]; exact rfl)
    case a_60 => kernel_rfl
    case b_60 => kernel_rfl
    case c_60 => kernel_rfl
    case q_60 => exact fun _ _ _ h => h
    case y_60 => exact Or.inl ⟨by rfl, by (intro w hSw; (try dsimp only at hSw); go_simp; first | done | with_reducible rfl)⟩
    try simp only [Act.put, List.setIfInBounds_toArray, List.set_cons_zero, List.set_cons_succ]
    refine' wpAnyH_take (i := 60) (oi := _) (v := _) ?e_61 ?a_61 ?b_61 ?c_61 ?q_61 ?y_61 hHeld ?r_61
    case e_61 => (simp only [List.getElem?_toArray, List.getElem?_cons_zero, List.getElem?_cons_succ]; exact rfl)
    case a_61 => kernel_rfl
    case b_61 => kernel_rfl
    case c_61 => kernel_rfl
    case q_61 => exact fun _ _ _ h => h
    case y_61 => exact Or.inl ⟨by rfl, by (intro w hSw; (try dsimp only at hSw); go_simp; first | done | with_reducible rfl)⟩
    try simp only [Act.put, List.setIfInBounds_toArray, List.set_cons_zero, List.set_cons_succ]
    refine' wpAnyH_take (i := 61) (oi := _) (v := _) ?e_62 ?a_62 ?b_62 ?c_62 ?q_62 ?y_62 hHeld ?r_62
    case e_62 => (simp only [List.getElem?_toArray, List.getElem?_cons_zero, List.getElem?_cons_succ]; exact rfl)
    case a_62 => kernel_rfl
    case b_62 => kernel_rfl
    case c_62 => kernel_rfl
    case q_62 => exact fun _ _ _ h => h
    case y_62 => exact Or.inl ⟨by rfl, by (intro w hSw; (try dsimp only at hSw); go_simp; first | done | with_reducible rfl)⟩
    try simp only [Act.put, List.setIfInBounds_toArray, List.set_cons_zero, List.set_cons_succ]
    refine' wpAnyH_take (i := 62) (oi := _) (v := _) ?e_63 ?a_63 ?b_63 ?c_63 ?q_63 ?y_63 hHeld ?r_63
    case e_63 => (simp only [List.getElem?_toArray, List.getElem?_cons_zero, List.getElem?_cons_succ]; exact rfl)
    case a_63 => kernel_rfl
    case b_63 => kernel_rfl
    case c_63 => kernel_rfl
    case q_63 => exact fun _ _ _ h => h
    case y_63 => exact Or.inl ⟨by rfl, by (intro w hSw; (try dsimp only at hSw); go_simp; first | done | with_reducible rfl)⟩
    try simp only [Act.put, List.setIfInBounds_toArray, List.set_cons_zero, List.set_cons_succ]
    refine' wpAnyH_take (i := 64) (oi := _) (v := _) ?e_64 ?a_64 ?b_64 ?c_64 ?q_64 ?y_64 hHeld ?r_64
    case e_64 => (simp only [List.getElem?_toArray, List.getElem?_cons_zero, List.getElem?_cons_succ]; exact rfl)
    case a_64 => kernel_rfl
    case b_64 => kernel_rfl
    case c_64 => kernel_rfl
    case q_64 => exact fun _ _ _ h => h
    case y_64 => exact Or.inl ⟨by rfl, by (intro w hSw; (try dsimp only at hSw); go_simp; first | done | with_reducible rfl)⟩
    try simp only [Act.put, List.setIfInBounds_toArray, List.set_cons_zero, List.set_cons_succ]
    refine wpAnyH_ready (rs := [63]) (by kernel_rfl) (by simp) ?_
    refine' AllReadyH.cons (o := _) ?e_65 ?st_65 AllReadyH.nil
    case e_65 => (simp only [List.getElem?_toArray, List.getElem?_cons_zero, List.getElem?_cons_succ]; exact rfl)
    intro K hK
    go_simp
    obtain ⟨l0, l1, l2, l3, l4, l5, lB⟩ := hHeld
    refine (IS1.out _).mono ?_
    rintro e c4 ⟨rfl, hb4⟩
    go_wp2_with fail
    refine hK.out _ _ ⟨cell_later hb4 l0, cell_later hb4 l1, cell_later hb4 l2, cell_later hb4 l3, cell_later hb4 l4, cell_later hb4 l5, chain_back hb4 lB⟩ (fun hHeld => ?_)
    clear l0 l1 l2 l3 l4 l5 lB hb4
    clear hK K
    try simp only [Act.put, List.setIfInBounds_toArray, List.set_cons_zero, List.set_cons_succ]
    refine wpAnyH_ready (rs := [65]) (by kernel_rfl) (by simp) ?_
    refine' AllReadyH.cons (o := _) ?e_66 ?st_66 AllReadyH.nil
    case e_66 => (simp only [List.getElem?_toArray, List.getElem?_cons_zero, List.getElem?_cons_succ]; exact rfl)
    intro K hK
    go_simp
    obtain ⟨l0, l1, l2, l3, l4, l5, lB⟩ := hHeld
    refine (IS2.out _).mono ?_
    rintro e c5 ⟨rfl, hb5⟩
    go_wp2_with fail
    refine hK.out _ _ ⟨cell_later hb5 l0, cell_later hb5 l1, cell_later hb5 l2, cell_later hb5 l3, cell_later hb5 l4, cell_later hb5 l5, chain_back hb5 lB⟩ (fun hHeld => ?_)
    clear l0 l1 l2 l3 l4 l5 lB hb5
    clear hK K
    try simp only [Act.put, List.setIfInBounds_toArray, List.set_cons_zero, List.set_cons_succ]
    refine' wpAnyH_take (i := 66) (oi := _) (v := _) ?e_67 ?a_67 ?b_67 ?c_67 ?q_67 ?y_67 hHeld ?r_67
    case e_67 => (simp only [List.getElem?_toArray, List.getElem?_cons_zero, List.getElem?_cons_succ]; exact rfl)
    case a_67 => kernel_rfl
    case b_67 => kernel_rfl
    case c_67 => kernel_rfl
    case q_67 => exact fun _ _ _ h => h
    case y_67 => exact Or.inl ⟨by rfl, by (intro w hSw; (try dsimp only at hSw); go_simp; first | done | with_reducible rfl)⟩
    try simp only [Act.put, List.setIfInBounds_toArray, List.set_cons_zero, List.set_cons_succ]
    refine' wpAnyH_take (i := 67) (oi := _) (v := _) ?e_68 ?a_68 ?b_68 ?c_68 ?q_68 ?y_68 hHeld ?r_68
    case e_68 => (simp only [List.getElem?_toArray, List.getElem?_cons_zero, List.getElem?_cons_succ]; exact rfl)
    case a_68 => kernel_rfl
    case b_68 => kernel_rfl
    case c_68 => kernel_rfl
    case q_68 => exact fun _ _ _ h => h
    case y_68 => exact Or.inl ⟨by rfl, by (intro w hSw; (try dsimp only at hSw); go_simp; first | done | with_reducible rfl)⟩
    try simp only [Act.put, List.setIfInBounds_toArray, List.set_cons_zero, List.set_cons_succ]
    refine' wpAnyH_take (i := 68) (oi := _) (v := _) ?e_69 ?a_69 ?b_69 ?c_69 ?q_69 ?y_69 hHeld ?r_69
    case e_69 => (simp only [List.getElem?_toArray, List.getElem?_cons_zero, List.getElem?_cons_succ]; exact rfl)
    case a_69 => kernel_rfl
    case b_69 => kernel_rfl
    case c_69 => kernel_rfl
    case q_69 => exact fun _ _ _ h => h
    case y_69 => exact Or.inl ⟨by rfl, by (intro w hSw; (try dsimp only at hSw); go_simp; first | done | with_reducible rfl)⟩
    try simp only [Act.put, List.setIfInBounds_toArray, List.set_cons_zero, List.set_cons_succ]
    refine' wpAnyH_take (i := 69) (oi := _) (v := _) ?e_70 ?a_70 ?b_70 ?c_70 ?q_70 ?y_70 hHeld ?r_70
    case e_70 => (simp only [List.getElem?_toArray, List.getElem?_cons_zero, List.getElem?_cons_succ]; exact rfl)
    case a_70 => kernel_rfl
    case b_70 => kernel_rfl
    case c_70 => kernel_rfl
    case q_70 => exact fun _ _ _ h => h
    case y_70 => exact Or.inl ⟨by rfl, by (intro w hSw; (try dsimp only at hSw); go_simp; first | done | with_reducible rfl)⟩
    try simp only [Act.put, List.setIfInBounds_toArray, List.set_cons_zero, List.set_cons_succ]
    refine' wpAnyH_take (i := 70) (oi := _) (v := _) ?e_71 ?a_71 ?b_71 ?c_71 ?q_71 ?y_71 hHeld ?r_71
    case e_71 => (simp only [List.getElem?_toArray, List.getElem?_cons_zero, List.getElem?_cons_succ]; exact rfl)
    case a_71 => kernel_rfl
    case b_71 => kernel_rfl
    case c_71 => kernel_rfl
    case q_71 => exact fun _ _ _ h => h
    case y_71 => exact Or.inl ⟨by rfl, by (intro w hSw; (try dsimp only at hSw); go_simp; first | done | with_reducible rfl)⟩
    try simp only [Act.put, List.setIfInBounds_toArray, List.set_cons_zero, List.set_cons_succ]
    refine wpAnyH_ready (rs := [71]) (by kernel_rfl) (by simp) ?_
    refine' AllReadyH.cons (o := _) ?e_72 ?st_72 AllReadyH.nil
    case e_72 => (simp only [List.getElem?_toArray, List.getElem?_cons_zero, List.getElem?_cons_succ]; exact rfl)
    intro K hK
    go_simp
    obtain ⟨l0, l1, l2, l3, l4, l5, lB⟩ := hHeld
    refine (IS1.out _).mono ?_
    rintro e c6 ⟨rfl, hb6⟩
    go_wp2_with fail
    refine hK.out _ _ ⟨cell_later hb6 l0, cell_later hb6 l1, cell_later hb6 l2, cell_later hb6 l3, cell_later hb6 l4, cell_later hb6 l5, chain_back hb6 lB⟩ (fun hHeld => ?_)
    clear l0 l1 l2 l3 l4 l5 lB hb6
    clear hK K
    try simp only [Act.put, List.setIfInBounds_toArray, List.set_cons_zero, List.set_cons_succ]
    refine' wpAnyH_take (i := 72) (oi := _) (v := _) ?e_73 ?a_73 ?b_73 ?c_73 ?q_73 ?y_73 hHeld ?r_73
    case e_73 => (simp only [List.getElem?_toArray, List.getElem?_cons_zero, List.getElem?_cons_succ]; exact rfl)
    case a_73 => kernel_rfl
    case b_73 => kernel_rfl
    case c_73 => kernel_rfl
    case q_73 => exact fun _ _ _ h => h
    case y_73 => exact Or.inl ⟨by rfl, by (intro w hSw; (try dsimp only at hSw); go_simp; first | done | with_reducible rfl)⟩
    try simp only [Act.put, List.setIfInBounds_toArray, List.set_cons_zero, List.set_cons_succ]
    refine' wpAnyH_take (i := 73) (oi := _) (v := _) ?e_74 ?a_74 ?b_74 ?c_74 ?q_74 ?y_74 hHeld ?r_74
    case e_74 => (simp only [List.getElem?_toArray, List.getElem?_cons_zero, List.getElem?_cons_succ]; exact rfl)
    case a_74 => kernel_rfl
    case b_74 => kernel_rfl
    case c_74 => kernel_rfl
    case q_74 => exact fun _ _ _ h => h
    case y_74 => exact Or.inl ⟨by rfl, by (intro w hSw; (try dsimp only at hSw); go_simp; first | done | with_reducible rfl)⟩
    try simp only [Act.put, List.setIfInBounds_toArray, List.set_cons_zero, List.set_cons_succ]
    refine' wpAnyH_take (i := 74) (oi := _) (v := _) ?e_75 ?a_75 ?b_75 ?c_75 ?q_75 ?y_75 hHeld ?r_75
    case e_75 => (simp only [List.getElem?_toArray, List.getElem?_cons_zero, List.getElem?_cons_succ]; exact rfl)
    case a_75 => kernel_rfl
    case b_75 => kernel_rfl
    case c_75 => kernel_rfl
    case q_75 => exact fun _ _ _ h => h
    case y_75 => exact Or.inl ⟨by rfl, by (intro w hSw; (try dsimp only at hSw); go_simp; first | done | with_reducible rfl)⟩
    try simp only [Act.put, List.setIfInBounds_toArray, List.set_cons_zero, List.set_cons_succ]
    refine' wpAnyH_take (i := 75) (oi := _) (v := _) ?e_76 ?a_76 ?b_76 ?c_76 ?q_76 ?y_76 hHeld ?r_76
    case e_76 => (simp only [List.getElem?_toArray, List.getElem?_cons_zero, List.getElem?_cons_succ]; exact rfl)
    case a_76 => kernel_rfl
    case b_76 => kernel_rfl
    case c_76 => kernel_rfl
    case q_76 => exact fun _ _ _ h => h
    case y_76 => exact Or.inl ⟨by rfl, by (intro w hSw; (try dsimp only at hSw); go_simp; first | done | with_reducible rfl)⟩
    try simp only [Act.put, List.setIfInBounds_toArray, List.set_cons_zero, List.set_cons_succ]
    refine' wpAnyH_take (i := 76) (oi := _) (v := _) ?e_77 ?a_77 ?b_77 ?c_77 ?q_77 ?y_77 hHeld ?r_77
    case e_77 => (simp only [List.getElem?_toArray, List.getElem?_cons_zero, List.getElem?_cons_succ]; exact rfl)
    case a_77 => kernel_rfl
    case b_77 => kernel_rfl
    case c_77 => kernel_rfl
    case q_77 => exact fun _ _ _ h => h
    case y_77 => exact Or.inl ⟨by rfl, by (intro w hSw; (try dsimp only at hSw); go_simp; first | done | with_reducible rfl)⟩
    try simp only [Act.put, List.setIfInBounds_toArray, List.set_cons_zero, List.set_cons_succ]
    refine' wpAnyH_take (i := 77) (oi := _) (v := _) ?e_78 ?a_78 ?b_78 ?c_78 ?q_78 ?y_78 hHeld ?r_78
    case e_78 => (simp only [List.getElem?_toArray, List.getElem?_cons_zero, List.getElem?_cons_succ]; exact rfl)
    case a_78 => kernel_rfl
    case b_78 => kernel_rfl
    case c_78 => kernel_rfl
    case q_78 => exact fun _ _ _ h => h
    case y_78 => exact Or.inl ⟨by rfl, by (intro w hSw; (try dsimp only at hSw); go_simp; first | done | with_reducible rfl)⟩
    try simp only [Act.put, List.setIfInBounds_toArray, List.set_cons_zero, List.set_cons_succ]
    refine' wpAnyH_take (i := 78) (oi := _) (v := _) ?e_79 ?a_79 ?b_79 ?c_79 ?q_79 ?y_79 hHeld ?r_79
    case e_79 => (simp only [List.getElem?_toArray, List.getElem?_cons_zero, List.getElem?_cons_succ]; exact rfl)
    case a_79 => kernel_rfl
    case b_79 => kernel_rfl
    case c_79 => kernel_rfl
    case q_79 => exact fun _ _ _ h => h
    case y_79 => exact Or.inl ⟨by rfl, by (intro w hSw; (try dsimp only at hSw); go_simp; first | done | with_reducible rfl)⟩
    try simp only [Act.put, List.setIfInBounds_toArray, List.set_cons_zero, List.set_cons_succ]
    refine' wpAnyH_take (i := 79) (oi := _) (v := _) ?e_80 ?a_80 ?b_80 ?c_80 ?q_80 ?y_80 hHeld ?r_80
    case e_80 => (simp only [List.getElem?_toArray, List.getElem?_cons_zero, List.getElem?_cons_succ]; exact rfl)
    case a_80 => kernel_rfl
    case b_80 => kernel_rfl
    case c_80 => kernel_rfl
    case q_80 => exact fun _ _ _ h => h
    case y_80 => exact Or.inl ⟨by rfl, by (intro w hSw; (try dsimp only at hSw); go_simp; first | done | with_reducible rfl)⟩
    try simp only [Act.put, List.setIfInBounds_toArray, List.set_cons_zero, List.set_cons_succ]
    refine' wpAnyH_take (i := 80) (oi := _) (v := _) ?e_81 ?a_81 ?b_81 ?c_81 ?q_81 ?y_81 hHeld ?r_81
    case e_81 => (simp only [List.getElem?_toArray, List.getElem?_cons_zero, List.getElem?_cons_succ]; exact rfl)
    case a_81 => kernel_rfl
    case b_81 => kernel_rfl
    case c_81 => kernel_rfl
    case q_81 => exact fun _ _ _ h => h
    case y_81 => exact Or.inl ⟨by rfl, by (intro w hSw; (try dsimp only at hSw); go_simp; first | done | with_reducible rfl)⟩
    try simp only [Act.put, List.setIfInBounds_toArray, List.set_cons_zero, List.set_cons_succ]
    refine' wpAnyH_take (i := 81) (oi := _) (v := _) ?e_82 ?a_82 ?b_82 ?c_82 ?q_82 ?y_82 hHeld ?r_82
    case e_82 => (simp only [List.getElem?_toArray, List.getElem?_cons_zero, List.getElem?_cons_succ]; exact rfl)
    case a_82 => kernel_rfl
    case b_82 => kernel_rfl
    case c_82 => kernel_rfl
    case q_82 => exact fun _ _ _ h => h
    case y_82 => exact Or.inl ⟨by rfl, by (intro w hSw; (try dsimp only at hSw); go_simp; first | done | with_reducible rfl)⟩
    try simp only [Act.put, List.setIfInBounds_toArray, List.set_cons_zero, List.set_cons_succ]
    refine' wpAnyH_take (i := 82) (oi := _) (v := _) ?e_83 ?a_83 ?b_83 ?c_83 ?q_83 ?y_83 hHeld ?r_83
    case e_83 => (simp only [List.getElem?_toArray, List.getElem?_cons_zero, List.getElem?_cons_succ]; exact rfl)
    case a_83 => kernel_rfl
    case b_83 => kernel_rfl
    case c_83 => kernel_rfl
    case q_83 => exact fun _ _ _ h => h
    case y_83 => exact Or.inl ⟨by rfl, by (intro w hSw; (try dsimp only at hSw); go_simp; first | done | with_reducible rfl)⟩
    try simp only [Act.put, List.setIfInBounds_toArray, List.set_cons_zero, List.set_cons_succ]
    refine' wpAnyH_take (i := 83) (oi := _) (v := _) ?e_84 ?a_84 ?b_84 ?c_84 ?q_84 ?y_84 hHeld ?r_84
    case e_84 => (simp only [List.getElem?_toArray, List.getElem?_cons_zero, List.getElem?_cons_succ]; exact rfl)
    case a_84 => kernel_rfl
    case b_84 => kernel_rfl
    case c_84 => kernel_rfl
    case q_84 => exact fun _ _ _ h => h
    case y_84 => exact Or.inl ⟨by rfl, by (intro w hSw; (try dsimp only at hSw); go_simp; first | done | with_reducible rfl)⟩
    try simp only [Act.put, List.setIfInBounds_toArray, List.set_cons_zero, List.set_cons_succ]
    refine wpAnyH_done (by kernel_rfl) ?_ _
    refine NoPanic.normal ?_
    obtain ⟨l0, l1, l2, l3, l4, l5, hw9⟩ := hHeld
    clear l0 l1 l2 l3 l4 l5 x26a x26b x27a x27b x29a x29b
    replace BX := Lib.hid (Below.chain BX.out hw9)
    replace HT := Lib.hid (HT.out.below hw9)
    replace H4 := Lib.hid (H4.out.below hw9)
    replace H8 := Lib.hid (H8.out.below hw9)
    replace HU := Lib.hid (HU.out.below hw9)
    replace HW := Lib.hid (HW.out.below hw9)
    replace HS := Lib.hid (HS.out.below hw9)
    replace X27 := Lib.hid (X27.out.below hw9)
    clear H6 H10 HS2 X26 X29 hw9
    cases three with
    | false =>
      as_aux_lemma =>
        cases t with
        | false =>
          as_aux_lemma =>
            cases one with
            | false =>
              cases two with
              | true =>
                as_aux_lemma =>
                  obtain ⟨hs1, hs2, hs3⟩ := HSF.out rfl
                  have C1 := Lib.hid (IsFullTest_c _ S _ HS.out)
                  rw [hs1] at C1
                  have C2 := Lib.hid (fun (W : World) (hi : Ints W u22 S) => IsLeastTest_c u22 S W hi)
                  rw [hs2] at C2
                  have HM := Lib.hid hs3
                  clear hs1 hs2 hs3
                  go_wp2_with fail
                  refine C1.out.mono ?_
                  rintro e wx ⟨rfl, hbx⟩
                  have BD1 := Lib.hid (Below.chain BX.out hbx)
                  have HS1 := Lib.hid (HS.out.below hbx)
                  have HW1 := Lib.hid (HW.out.below hbx)
                  clear hbx C1
                  go_wp2_with fail
                  refine (C2.out _ HS1.out).mono ?_
                  rintro e wy ⟨rfl, hby⟩
                  have BD2 := Lib.hid (Below.chain BD1.out hby)
                  have HS2 := Lib.hid (HS1.out.below hby)
                  have HW2 := Lib.hid (HW1.out.below hby)
                  clear hby C2 BD1 HS1 HW1
                  obtain ⟨a22, c22, rfl, _, _, HSp⟩ := HS2.out.parts
                  go_wp2
                  go_loopw [43] (fun j wr => ∃ m : Nat, m ≤ S.length ∧ j = .int .i64 (m : Int) ∧ wy = wr) (fun j _ => S.length - (intOf j).toNat)
                  case atStart => exact ⟨0, by omega, rfl, rfl⟩
                  case round =>
                    obtain ⟨m, hm2, rfl, rfl⟩ := hrel
                    by_cases hltm : m < S.length
                    · have hdm : decide ((m : Int) < (S.length : Int)) = true := by simp; omega
                      obtain ⟨x, hx⟩ := elem_at hltm
                      obtain ⟨b, off, rfl, f1⟩ := HSp.out m x hx.out
                      have HC := Lib.hid (vHas_c _ vs x wy HW2.out)
                      rw [HM.out x (List.mem_of_getElem? hx.out)] at HC
                      go_wp2_with fail
                      refine HC.out.mono ?_
                      rintro e _ ⟨rfl, rfl⟩
                      go_wp2
                      go_roundw
                      case rel => exact ⟨m + 1, by omega, by go_num, trivial⟩
                      case measure => simp [intOf]; omega
                    · have hdm : decide ((m : Int) < (S.length : Int)) = false := by simp; omega
                      go_wp2
                      go_ret
                      exact ⟨rfl, BD2.out⟩
              | false =>
                as_aux_lemma =>
                  obtain ⟨p, q, hpq, hor⟩ := HSN.out rfl
                  have C1 := Lib.hid (IsFullTest_c _ vs _ HW.out)
                  rw [hpq] at C1
                  clear hpq
                  go_wp2_with fail
                  refine C1.out.mono ?_
                  rintro e wx ⟨rfl, hbx⟩
                  have BD1 := Lib.hid (Below.chain BX.out hbx)
                  clear hbx C1
                  cases q with
                  | false =>
                    go_wp2
                    go_ret
                    exact ⟨rfl, BD1.out⟩
                  | true =>
                    have hp : p = false := by rcases hor with h | h; exact h; cases h
                    subst hp
                    go_wp2
                    go_ret
                    exact ⟨rfl, BD1.out⟩
            | true =>
              cases lb with
              | true =>
                have C0 := Lib.hid (IsFullTest_c _ us _ HU.out)
                rw [HLF.out rfl rfl] at C0
                go_wp2_with fail
                refine C0.out.mono ?_
                rintro e wu ⟨rfl, hbu⟩
                have BC := Lib.hid (Below.chain BX.out hbu)
                have HSc := Lib.hid (HS.out.below hbu)
                have HWc := Lib.hid (HW.out.below hbu)
                clear hbu C0
                cases two with
                | true =>
                  as_aux_lemma =>
                    obtain ⟨hs1, hs2, hs3⟩ := HSF.out rfl
                    have C1 := Lib.hid (IsFullTest_c _ S _ HSc.out)
                    rw [hs1] at C1
                    have C2 := Lib.hid (fun (W : World) (hi : Ints W u22 S) => IsLeastTest_c u22 S W hi)
                    rw [hs2] at C2
                    have HM := Lib.hid hs3
                    clear hs1 hs2 hs3
                    go_wp2_with fail
                    refine C1.out.mono ?_
                    rintro e wx ⟨rfl, hbx⟩
                    have BD1 := Lib.hid (Below.chain BC.out hbx)
                    have HS1 := Lib.hid (HSc.out.below hbx)
                    have HW1 := Lib.hid (HWc.out.below hbx)
                    clear hbx C1
                    go_wp2_with fail
                    refine (C2.out _ HS1.out).mono ?_
                    rintro e wy ⟨rfl, hby⟩
                    have BD2 := Lib.hid (Below.chain BD1.out hby)
                    have HS2 := Lib.hid (HS1.out.below hby)
                    have HW2 := Lib.hid (HW1.out.below hby)
                    clear hby C2 BD1 HS1 HW1
                    obtain ⟨a22, c22, rfl, _, _, HSp⟩ := HS2.out.parts
                    go_wp2
                    go_loopw [43] (fun j wr => ∃ m : Nat, m ≤ S.length ∧ j = .int .i64 (m : Int) ∧ wy = wr) (fun j _ => S.length - (intOf j).toNat)
                    case atStart => exact ⟨0, by omega, rfl, rfl⟩
                    case round =>
                      obtain ⟨m, hm2, rfl, rfl⟩ := hrel
                      by_cases hltm : m < S.length
                      · have hdm : decide ((m : Int) < (S.length : Int)) = true := by simp; omega
                        obtain ⟨x, hx⟩ := elem_at hltm
                        obtain ⟨b, off, rfl, f1⟩ := HSp.out m x hx.out
                        have HC := Lib.hid (vHas_c _ vs x wy HW2.out)
                        rw [HM.out x (List.mem_of_getElem? hx.out)] at HC
                        go_wp2_with fail
                        refine HC.out.mono ?_
                        rintro e _ ⟨rfl, rfl⟩
                        go_wp2
                        go_roundw
                        case rel => exact ⟨m + 1, by omega, by go_num, trivial⟩
                        case measure => simp [intOf]; omega
                      · have hdm : decide ((m : Int) < (S.length : Int)) = false := by simp; omega
                        go_wp2
                        go_ret
                        exact ⟨rfl, BD2.out⟩
                | false =>
                  as_aux_lemma =>
                    obtain ⟨p, q, hpq, hor⟩ := HSN.out rfl
                    have C1 := Lib.hid (IsFullTest_c _ vs _ HWc.out)
                    rw [hpq] at C1
                    clear hpq
                    go_wp2_with fail
                    refine C1.out.mono ?_
                    rintro e wx ⟨rfl, hbx⟩
                    have BD1 := Lib.hid (Below.chain BC.out hbx)
                    clear hbx C1
                    cases q with
                    | false =>
                      go_wp2
                      go_ret
                      exact ⟨rfl, BD1.out⟩
                    | true =>
                      have hp : p = false := by rcases hor with h | h; exact h; cases h
                      subst hp
                      go_wp2
                      go_ret
                      exact ⟨rfl, BD1.out⟩
              | false =>
                obtain ⟨z, hz⟩ := HLG.out rfl
                have C0 := Lib.hid (IsFullTest_c _ us _ HU.out)
                rw [hz] at C0
                clear hz
                go_wp2_with fail
                refine C0.out.mono ?_
                rintro e wu ⟨rfl, hbu⟩
                have BC := Lib.hid (Below.chain BX.out hbu)
                have HSc := Lib.hid (HS.out.below hbu)
                have HWc := Lib.hid (HW.out.below hbu)
                clear hbu C0
                cases two with
                | true =>
                  as_aux_lemma =>
                    obtain ⟨hs1, hs2, hs3⟩ := HSF.out rfl
                    have C1 := Lib.hid (IsFullTest_c _ S _ HSc.out)
                    rw [hs1] at C1
                    have C2 := Lib.hid (fun (W : World) (hi : Ints W u22 S) => IsLeastTest_c u22 S W hi)
                    rw [hs2] at C2
                    have HM := Lib.hid hs3
                    clear hs1 hs2 hs3
                    go_wp2_with fail
                    refine C1.out.mono ?_
                    rintro e wx ⟨rfl, hbx⟩
                    have BD1 := Lib.hid (Below.chain BC.out hbx)
                    have HS1 := Lib.hid (HSc.out.below hbx)
                    have HW1 := Lib.hid (HWc.out.below hbx)
                    clear hbx C1
                    go_wp2_with fail
                    refine (C2.out _ HS1.out).mono ?_
                    rintro e wy ⟨rfl, hby⟩
                    have BD2 := Lib.hid (Below.chain BD1.out hby)
                    have HS2 := Lib.hid (HS1.out.below hby)
                    have HW2 := Lib.hid (HW1.out.below hby)
                    clear hby C2 BD1 HS1 HW1
                    obtain ⟨a22, c22, rfl, _, _, HSp⟩ := HS2.out.parts
                    go_wp2
                    go_loopw [43] (fun j wr => ∃ m : Nat, m ≤ S.length ∧ j = .int .i64 (m : Int) ∧ wy = wr) (fun j _ => S.length - (intOf j).toNat)
                    case atStart => exact ⟨0, by omega, rfl, rfl⟩
                    case round =>
                      obtain ⟨m, hm2, rfl, rfl⟩ := hrel
                      by_cases hltm : m < S.length
                      · have hdm : decide ((m : Int) < (S.length : Int)) = true := by simp; omega
                        obtain ⟨x, hx⟩ := elem_at hltm
                        obtain ⟨b, off, rfl, f1⟩ := HSp.out m x hx.out
                        have HC := Lib.hid (vHas_c _ vs x wy HW2.out)
                        rw [HM.out x (List.mem_of_getElem? hx.out)] at HC
                        go_wp2_with fail
                        refine HC.out.mono ?_
                        rintro e _ ⟨rfl, rfl⟩
                        go_wp2
                        go_roundw
                        case rel => exact ⟨m + 1, by omega, by go_num, trivial⟩
                        case measure => simp [intOf]; omega
                      · have hdm : decide ((m : Int) < (S.length : Int)) = false := by simp; omega
                        go_wp2
                        go_ret
                        exact ⟨rfl, BD2.out⟩
                | false =>
                  as_aux_lemma =>
                    obtain ⟨p, q, hpq, hor⟩ := HSN.out rfl
                    have C1 := Lib.hid (IsFullTest_c _ vs _ HWc.out)
                    rw [hpq] at C1
                    clear hpq
                    go_wp2_with fail
                    refine C1.out.mono ?_
                    rintro e wx ⟨rfl, hbx⟩
                    have BD1 := Lib.hid (Below.chain BC.out hbx)
                    clear hbx C1
                    cases q with
                    | false =>
                      go_wp2
                      go_ret
                      exact ⟨rfl, BD1.out⟩
                    | true =>
                      have hp : p = false := by rcases hor with h | h; exact h; cases h
                      subst hp
                      go_wp2
                      go_ret
                      exact ⟨rfl, BD1.out⟩
        | true =>
          as_aux_lemma =>
            have hFI := HFI.out rfl
            have hHI := HHI.out rfl
            have hsum := HSUM.out rfl
            have hfu := HFU.out rfl
            have HF2 := Lib.hid hFI
            have HH2 := Lib.hid hHI
            have h14 : (F.length : Int) + (G.length : Int) = 14 := by omega
            have HG0 : (fb = true ∧ (((G.length : Int) == 0) = true)) ∨ (fb = false ∧ (((G.length : Int) == 0) = false)) := by
              rw [hfu]
              by_cases h : G.length = 0
              · exact .inl ⟨decide_eq_true h, by rw [h]; rfl⟩
              · exact .inr ⟨decide_eq_false h, by rw [beq_eq_false_iff_ne]; omega⟩
            clear hFI hHI hsum hfu
            obtain ⟨a3, c3, rfl, _, _, _⟩ := HT.out.parts
            obtain ⟨a4, c4, rfl, _, _, _⟩ := Pairs.parts H4.out
            obtain ⟨a8, c8, rfl, _, _, _⟩ := Pairs.parts H8.out
            rcases HG0 with ⟨rfl, hg0⟩ | ⟨rfl, hg0⟩
            · as_aux_lemma =>
                go_wp2
                go_loopw [31] (fun j wr => ∃ k : Nat, k ≤ F.length ∧ j = .int .i64 (k : Int) ∧ Hid (Below c6.heap.size c6 wr)) (fun j _ => F.length - (intOf j).toNat)
                case atStart => exact ⟨0, by omega, rfl, Below.refl _ _⟩
                case round =>
                  obtain ⟨k, hk, rfl, HBr⟩ := hrel
                  obtain ⟨ax, cx, ex, _, _, HFp⟩ := Pairs.parts (Pairs.below H4.out HBr.out)
                  cases ex
                  by_cases hlt : k < F.length
                  · have hdk : decide ((k : Int) < (F.length : Int)) = true := by simp; omega
                    obtain ⟨s, hs⟩ := elem_at hlt
                    obtain ⟨b, off, rfl, g0, g1⟩ := HFp.out k s hs.out
                    obtain ⟨q1, q2, q3⟩ := HF2.out s (List.mem_of_getElem? hs.out)
                    have HC := Lib.hid (FirstFinding_c _ ts s.1 s.2 wr (HT.out.below HBr.out))
                    rw [q1] at HC
                    clear q1 HFp
                    generalize placeOf s.1 s.2 ts = pl at *
                    have hd1 : decide (pl < 0) = false := by simp; omega
                    have hd2 : decide ((ts.length : Int) ≤ pl) = false := by simp; omega
                    go_wp2_with fail
                    refine HC.out.mono ?_
                    rintro e wa ⟨rfl, hba⟩
                    have HBa := Lib.hid (Below.chain HBr.out hba)
                    clear hba HC
                    go_wp2
                    go_roundw
                    case rel => exact ⟨k + 1, by omega, by go_num, HBa⟩
                    case measure => simp [intOf]; omega
                  · have hdk : decide ((k : Int) < (F.length : Int)) = false := by simp; omega
                    clear HFp
                    rename World => wo
                    go_wp2
                    go_loopw [34] (fun j wr => ∃ k : Nat, k ≤ G.length ∧ j = .int .i64 (k : Int) ∧ Hid (Below c6.heap.size c6 wr)) (fun j _ => G.length - (intOf j).toNat)
                    case atStart => exact ⟨0, by omega, rfl, HBr⟩
                    case round =>
                      obtain ⟨m, hm2, rfl, HBs⟩ := hrel
                      obtain ⟨ay, cy, ey, _, _, HGp⟩ := Pairs.parts (Pairs.below H8.out HBs.out)
                      cases ey
                      by_cases hlt2 : m < G.length
                      · have hdm : decide ((m : Int) < (G.length : Int)) = true := by simp; omega
                        obtain ⟨s, hs⟩ := elem_at hlt2
                        obtain ⟨b, off, rfl, g0, g1⟩ := HGp.out m s hs.out
                        have HC := Lib.hid (FirstFinding_c _ ts s.1 s.2 wr (HT.out.below HBs.out))
                        rw [HH2.out s (List.mem_of_getElem? hs.out)] at HC
                        clear HGp
                        go_wp2_with fail
                        refine HC.out.mono ?_
                        rintro e wa ⟨rfl, hba⟩
                        have HBa := Lib.hid (Below.chain HBs.out hba)
                        clear hba HC
                        go_wp2
                        go_roundw
                        case rel => exact ⟨m + 1, by omega, by go_num, HBa⟩
                        case measure => simp [intOf]; omega
                      · have hdm : decide ((m : Int) < (G.length : Int)) = false := by simp; omega
                        clear HGp
                        rename World => wp
                        have HU9 := Lib.hid (HU.out.below HBs.out)
                        have HS9 := Lib.hid (HS.out.below HBs.out)
                        have HW9 := Lib.hid (HW.out.below HBs.out)
                        have B9 := Lib.hid (Below.chain BX.out HBs.out)
                        as_aux_lemma =>
                          cases one with
                          | false =>
                            cases two with
                            | true =>
                              as_aux_lemma =>
                                obtain ⟨hs1, hs2, hs3⟩ := HSF.out rfl
                                have C1 := Lib.hid (IsFullTest_c _ S _ HS9.out)
                                rw [hs1] at C1
                                have C2 := Lib.hid (fun (W : World) (hi : Ints W u22 S) => IsLeastTest_c u22 S W hi)
                                rw [hs2] at C2
                                have HM := Lib.hid hs3
                                clear hs1 hs2 hs3
                                go_wp2_with fail
                                refine C1.out.mono ?_
                                rintro e wx ⟨rfl, hbx⟩
                                have BD1 := Lib.hid (Below.chain B9.out hbx)
                                have HS1 := Lib.hid (HS9.out.below hbx)
                                have HW1 := Lib.hid (HW9.out.below hbx)
                                clear hbx C1
                                go_wp2_with fail
                                refine (C2.out _ HS1.out).mono ?_
                                rintro e wy ⟨rfl, hby⟩
                                have BD2 := Lib.hid (Below.chain BD1.out hby)
                                have HS2 := Lib.hid (HS1.out.below hby)
                                have HW2 := Lib.hid (HW1.out.below hby)
                                clear hby C2 BD1 HS1 HW1
                                obtain ⟨a22, c22, rfl, _, _, HSp⟩ := HS2.out.parts
                                go_wp2
                                go_loopw [43] (fun j wr => ∃ m : Nat, m ≤ S.length ∧ j = .int .i64 (m : Int) ∧ wy = wr) (fun j _ => S.length - (intOf j).toNat)
                                case atStart => exact ⟨0, by omega, rfl, rfl⟩
                                case round =>
                                  obtain ⟨m, hm2, rfl, rfl⟩ := hrel
                                  by_cases hltm : m < S.length
                                  · have hdm : decide ((m : Int) < (S.length : Int)) = true := by simp; omega
                                    obtain ⟨x, hx⟩ := elem_at hltm
                                    obtain ⟨b, off, rfl, f1⟩ := HSp.out m x hx.out
                                    have HC := Lib.hid (vHas_c _ vs x wy HW2.out)
                                    rw [HM.out x (List.mem_of_getElem? hx.out)] at HC
                                    go_wp2_with fail
                                    refine HC.out.mono ?_
                                    rintro e _ ⟨rfl, rfl⟩
                                    go_wp2
                                    go_roundw
                                    case rel => exact ⟨m + 1, by omega, by go_num, trivial⟩
                                    case measure => simp [intOf]; omega
                                  · have hdm : decide ((m : Int) < (S.length : Int)) = false := by simp; omega
                                    go_wp2
                                    go_ret
                                    exact ⟨rfl, BD2.out⟩
                            | false =>
                              as_aux_lemma =>
                                obtain ⟨p, q, hpq, hor⟩ := HSN.out rfl
                                have C1 := Lib.hid (IsFullTest_c _ vs _ HW9.out)
                                rw [hpq] at C1
                                clear hpq
                                go_wp2_with fail
                                refine C1.out.mono ?_
                                rintro e wx ⟨rfl, hbx⟩
                                have BD1 := Lib.hid (Below.chain B9.out hbx)
                                clear hbx C1
                                cases q with
                                | false =>
                                  go_wp2
                                  go_ret
                                  exact ⟨rfl, BD1.out⟩
                                | true =>
                                  have hp : p = false := by rcases hor with h | h; exact h; cases h
                                  subst hp
                                  go_wp2
                                  go_ret
                                  exact ⟨rfl, BD1.out⟩
                          | true =>
                            cases lb with
                            | true =>
                              have C0 := Lib.hid (IsFullTest_c _ us _ HU9.out)
                              rw [HLF.out rfl rfl] at C0
                              go_wp2_with fail
                              refine C0.out.mono ?_
                              rintro e wu ⟨rfl, hbu⟩
                              have BC := Lib.hid (Below.chain B9.out hbu)
                              have HSc := Lib.hid (HS9.out.below hbu)
                              have HWc := Lib.hid (HW9.out.below hbu)
                              clear hbu C0
                              cases two with
                              | true =>
                                as_aux_lemma =>
                                  obtain ⟨hs1, hs2, hs3⟩ := HSF.out rfl
                                  have C1 := Lib.hid (IsFullTest_c _ S _ HSc.out)
                                  rw [hs1] at C1
                                  have C2 := Lib.hid (fun (W : World) (hi : Ints W u22 S) => IsLeastTest_c u22 S W hi)
                                  rw [hs2] at C2
                                  have HM := Lib.hid hs3
                                  clear hs1 hs2 hs3
                                  go_wp2_with fail
                                  refine C1.out.mono ?_
                                  rintro e wx ⟨rfl, hbx⟩
                                  have BD1 := Lib.hid (Below.chain BC.out hbx)
                                  have HS1 := Lib.hid (HSc.out.below hbx)
                                  have HW1 := Lib.hid (HWc.out.below hbx)
                                  clear hbx C1
                                  go_wp2_with fail
                                  refine (C2.out _ HS1.out).mono ?_
                                  rintro e wy ⟨rfl, hby⟩
                                  have BD2 := Lib.hid (Below.chain BD1.out hby)
                                  have HS2 := Lib.hid (HS1.out.below hby)
                                  have HW2 := Lib.hid (HW1.out.below hby)
                                  clear hby C2 BD1 HS1 HW1
                                  obtain ⟨a22, c22, rfl, _, _, HSp⟩ := HS2.out.parts
                                  go_wp2
                                  go_loopw [43] (fun j wr => ∃ m : Nat, m ≤ S.length ∧ j = .int .i64 (m : Int) ∧ wy = wr) (fun j _ => S.length - (intOf j).toNat)
                                  case atStart => exact ⟨0, by omega, rfl, rfl⟩
                                  case round =>
                                    obtain ⟨m, hm2, rfl, rfl⟩ := hrel
                                    by_cases hltm : m < S.length
                                    · have hdm : decide ((m : Int) < (S.length : Int)) = true := by simp; omega
                                      obtain ⟨x, hx⟩ := elem_at hltm
                                      obtain ⟨b, off, rfl, f1⟩ := HSp.out m x hx.out
                                      have HC := Lib.hid (vHas_c _ vs x wy HW2.out)
                                      rw [HM.out x (List.mem_of_getElem? hx.out)] at HC
                                      go_wp2_with fail
                                      refine HC.out.mono ?_
                                      rintro e _ ⟨rfl, rfl⟩
                                      go_wp2
                                      go_roundw
                                      case rel => exact ⟨m + 1, by omega, by go_num, trivial⟩
                                      case measure => simp [intOf]; omega
                                    · have hdm : decide ((m : Int) < (S.length : Int)) = false := by simp; omega
                                      go_wp2
                                      go_ret
                                      exact ⟨rfl, BD2.out⟩
                              | false =>
                                as_aux_lemma =>
                                  obtain ⟨p, q, hpq, hor⟩ := HSN.out rfl
                                  have C1 := Lib.hid (IsFullTest_c _ vs _ HWc.out)
                                  rw [hpq] at C1
                                  clear hpq
                                  go_wp2_with fail
                                  refine C1.out.mono ?_
                                  rintro e wx ⟨rfl, hbx⟩
                                  have BD1 := Lib.hid (Below.chain BC.out hbx)
                                  clear hbx C1
                                  cases q with
                                  | false =>
                                    go_wp2
                                    go_ret
                                    exact ⟨rfl, BD1.out⟩
                                  | true =>
                                    have hp : p = false := by rcases hor with h | h; exact h; cases h
                                    subst hp
                                    go_wp2
                                    go_ret
                                    exact ⟨rfl, BD1.out⟩
                            | false =>
                              obtain ⟨z, hz⟩ := HLG.out rfl
                              have C0 := Lib.hid (IsFullTest_c _ us _ HU9.out)
                              rw [hz] at C0
                              clear hz
                              go_wp2_with fail
                              refine C0.out.mono ?_
                              rintro e wu ⟨rfl, hbu⟩
                              have BC := Lib.hid (Below.chain B9.out hbu)
                              have HSc := Lib.hid (HS9.out.below hbu)
                              have HWc := Lib.hid (HW9.out.below hbu)
                              clear hbu C0
                              cases two with
                              | true =>
                                as_aux_lemma =>
                                  obtain ⟨hs1, hs2, hs3⟩ := HSF.out rfl
                                  have C1 := Lib.hid (IsFullTest_c _ S _ HSc.out)
                                  rw [hs1] at C1
                                  have C2 := Lib.hid (fun (W : World) (hi : Ints W u22 S) => IsLeastTest_c u22 S W hi)
                                  rw [hs2] at C2
                                  have HM := Lib.hid hs3
                                  clear hs1 hs2 hs3
                                  go_wp2_with fail
                                  refine C1.out.mono ?_
                                  rintro e wx ⟨rfl, hbx⟩
                                  have BD1 := Lib.hid (Below.chain BC.out hbx)
                                  have HS1 := Lib.hid (HSc.out.below hbx)
                                  have HW1 := Lib.hid (HWc.out.below hbx)
                                  clear hbx C1
                                  go_wp2_with fail
                                  refine (C2.out _ HS1.out).mono ?_
                                  rintro e wy ⟨rfl, hby⟩
                                  have BD2 := Lib.hid (Below.chain BD1.out hby)
                                  have HS2 := Lib.hid (HS1.out.below hby)
                                  have HW2 := Lib.hid (HW1.out.below hby)
                                  clear hby C2 BD1 HS1 HW1
                                  obtain ⟨a22, c22, rfl, _, _, HSp⟩ := HS2.out.parts
                                  go_wp2
                                  go_loopw [43] (fun j wr => ∃ m : Nat, m ≤ S.length ∧ j = .int .i64 (m : Int) ∧ wy = wr) (fun j _ => S.length - (intOf j).toNat)
                                  case atStart => exact ⟨0, by omega, rfl, rfl⟩
                                  case round =>
                                    obtain ⟨m, hm2, rfl, rfl⟩ := hrel
                                    by_cases hltm : m < S.length
                                    · have hdm : decide ((m : Int) < (S.length : Int)) = true := by simp; omega
                                      obtain ⟨x, hx⟩ := elem_at hltm
                                      obtain ⟨b, off, rfl, f1⟩ := HSp.out m x hx.out
                                      have HC := Lib.hid (vHas_c _ vs x wy HW2.out)
                                      rw [HM.out x (List.mem_of_getElem? hx.out)] at HC
                                      go_wp2_with fail
                                      refine HC.out.mono ?_
                                      rintro e _ ⟨rfl, rfl⟩
                                      go_wp2
                                      go_roundw
                                      case rel => exact ⟨m + 1, by omega, by go_num, trivial⟩
                                      case measure => simp [intOf]; omega
                                    · have hdm : decide ((m : Int) < (S.length : Int)) = false := by simp; omega
                                      go_wp2
                                      go_ret
                                      exact ⟨rfl, BD2.out⟩
                              | false =>
                                as_aux_lemma =>
                                  obtain ⟨p, q, hpq, hor⟩ := HSN.out rfl
                                  have C1 := Lib.hid (IsFullTest_c _ vs _ HWc.out)
                                  rw [hpq] at C1
                                  clear hpq
                                  go_wp2_with fail
                                  refine C1.out.mono ?_
                                  rintro e wx ⟨rfl, hbx⟩
                                  have BD1 := Lib.hid (Below.chain BC.out hbx)
                                  clear hbx C1
                                  cases q with
                                  | false =>
                                    go_wp2
                                    go_ret
                                    exact ⟨rfl, BD1.out⟩
                                  | true =>
                                    have hp : p = false := by rcases hor with h | h; exact h; cases h
                                    subst hp
                                    go_wp2
                                    go_ret
                                    exact ⟨rfl, BD1.out⟩
            · as_aux_lemma =>
                go_wp2
                go_loopw [31] (fun j wr => ∃ k : Nat, k ≤ F.length ∧ j = .int .i64 (k : Int) ∧ Hid (Below c6.heap.size c6 wr)) (fun j _ => F.length - (intOf j).toNat)
                case atStart => exact ⟨0, by omega, rfl, Below.refl _ _⟩
                case round =>
                  obtain ⟨k, hk, rfl, HBr⟩ := hrel
                  obtain ⟨ax, cx, ex, _, _, HFp⟩ := Pairs.parts (Pairs.below H4.out HBr.out)
                  cases ex
                  by_cases hlt : k < F.length
                  · have hdk : decide ((k : Int) < (F.length : Int)) = true := by simp; omega
                    obtain ⟨s, hs⟩ := elem_at hlt
                    obtain ⟨b, off, rfl, g0, g1⟩ := HFp.out k s hs.out
                    obtain ⟨q1, q2, q3⟩ := HF2.out s (List.mem_of_getElem? hs.out)
                    have HC := Lib.hid (FirstFinding_c _ ts s.1 s.2 wr (HT.out.below HBr.out))
                    rw [q1] at HC
                    clear q1 HFp
                    generalize placeOf s.1 s.2 ts = pl at *
                    have hd1 : decide (pl < 0) = false := by simp; omega
                    have hd2 : decide ((ts.length : Int) ≤ pl) = false := by simp; omega
                    go_wp2_with fail
                    refine HC.out.mono ?_
                    rintro e wa ⟨rfl, hba⟩
                    have HBa := Lib.hid (Below.chain HBr.out hba)
                    clear hba HC
                    go_wp2
                    go_roundw
                    case rel => exact ⟨k + 1, by omega, by go_num, HBa⟩
                    case measure => simp [intOf]; omega
                  · have hdk : decide ((k : Int) < (F.length : Int)) = false := by simp; omega
                    clear HFp
                    rename World => wo
                    go_wp2
                    go_loopw [34] (fun j wr => ∃ k : Nat, k ≤ G.length ∧ j = .int .i64 (k : Int) ∧ Hid (Below c6.heap.size c6 wr)) (fun j _ => G.length - (intOf j).toNat)
                    case atStart => exact ⟨0, by omega, rfl, HBr⟩
                    case round =>
                      obtain ⟨m, hm2, rfl, HBs⟩ := hrel
                      obtain ⟨ay, cy, ey, _, _, HGp⟩ := Pairs.parts (Pairs.below H8.out HBs.out)
                      cases ey
                      by_cases hlt2 : m < G.length
                      · have hdm : decide ((m : Int) < (G.length : Int)) = true := by simp; omega
                        obtain ⟨s, hs⟩ := elem_at hlt2
                        obtain ⟨b, off, rfl, g0, g1⟩ := HGp.out m s hs.out
                        have HC := Lib.hid (FirstFinding_c _ ts s.1 s.2 wr (HT.out.below HBs.out))
                        rw [HH2.out s (List.mem_of_getElem? hs.out)] at HC
                        clear HGp
                        go_wp2_with fail
                        refine HC.out.mono ?_
                        rintro e wa ⟨rfl, hba⟩
                        have HBa := Lib.hid (Below.chain HBs.out hba)
                        clear hba HC
                        go_wp2
                        go_roundw
                        case rel => exact ⟨m + 1, by omega, by go_num, HBa⟩
                        case measure => simp [intOf]; omega
                      · have hdm : decide ((m : Int) < (G.length : Int)) = false := by simp; omega
                        clear HGp
                        rename World => wp
                        have HU9 := Lib.hid (HU.out.below HBs.out)
                        have HS9 := Lib.hid (HS.out.below HBs.out)
                        have HW9 := Lib.hid (HW.out.below HBs.out)
                        have B9 := Lib.hid (Below.chain BX.out HBs.out)
                        as_aux_lemma =>
                          cases one with
                          | false =>
                            cases two with
                            | true =>
                              as_aux_lemma =>
                                obtain ⟨hs1, hs2, hs3⟩ := HSF.out rfl
                                have C1 := Lib.hid (IsFullTest_c _ S _ HS9.out)
                                rw [hs1] at C1
                                have C2 := Lib.hid (fun (W : World) (hi : Ints W u22 S) => IsLeastTest_c u22 S W hi)
                                rw [hs2] at C2
                                have HM := Lib.hid hs3
                                clear hs1 hs2 hs3
                                go_wp2_with fail
                                refine C1.out.mono ?_
                                rintro e wx ⟨rfl, hbx⟩
                                have BD1 := Lib.hid (Below.chain B9.out hbx)
                                have HS1 := Lib.hid (HS9.out.below hbx)
                                have HW1 := Lib.hid (HW9.out.below hbx)
                                clear hbx C1
                                go_wp2_with fail
                                refine (C2.out _ HS1.out).mono ?_
                                rintro e wy ⟨rfl, hby⟩
                                have BD2 := Lib.hid (Below.chain BD1.out hby)
                                have HS2 := Lib.hid (HS1.out.below hby)
                                have HW2 := Lib.hid (HW1.out.below hby)
                                clear hby C2 BD1 HS1 HW1
                                obtain ⟨a22, c22, rfl, _, _, HSp⟩ := HS2.out.parts
                                go_wp2
                                go_loopw [43] (fun j wr => ∃ m : Nat, m ≤ S.length ∧ j = .int .i64 (m : Int) ∧ wy = wr) (fun j _ => S.length - (intOf j).toNat)
                                case atStart => exact ⟨0, by omega, rfl, rfl⟩
                                case round =>
                                  obtain ⟨m, hm2, rfl, rfl⟩ := hrel
                                  by_cases hltm : m < S.length
                                  · have hdm : decide ((m : Int) < (S.length : Int)) = true := by simp; omega
                                    obtain ⟨x, hx⟩ := elem_at hltm
                                    obtain ⟨b, off, rfl, f1⟩ := HSp.out m x hx.out
                                    have HC := Lib.hid (vHas_c _ vs x wy HW2.out)
                                    rw [HM.out x (List.mem_of_getElem? hx.out)] at HC
                                    go_wp2_with fail
                                    refine HC.out.mono ?_
                                    rintro e _ ⟨rfl, rfl⟩
                                    go_wp2
                                    go_roundw
                                    case rel => exact ⟨m + 1, by omega, by go_num, trivial⟩
                                    case measure => simp [intOf]; omega
                                  · have hdm : decide ((m : Int) < (S.length : Int)) = false := by simp; omega
                                    go_wp2
                                    go_ret
                                    exact ⟨rfl, BD2.out⟩
                            | false =>
                              as_aux_lemma =>
                                obtain ⟨p, q, hpq, hor⟩ := HSN.out rfl
                                have C1 := Lib.hid (IsFullTest_c _ vs _ HW9.out)
                                rw [hpq] at C1
                                clear hpq
                                go_wp2_with fail
                                refine C1.out.mono ?_
                                rintro e wx ⟨rfl, hbx⟩
                                have BD1 := Lib.hid (Below.chain B9.out hbx)
                                clear hbx C1
                                cases q with
                                | false =>
                                  go_wp2
                                  go_ret
                                  exact ⟨rfl, BD1.out⟩
                                | true =>
                                  have hp : p = false := by rcases hor with h | h; exact h; cases h
                                  subst hp
                                  go_wp2
                                  go_ret
                                  exact ⟨rfl, BD1.out⟩
                          | true =>
                            cases lb with
                            | true =>
                              have C0 := Lib.hid (IsFullTest_c _ us _ HU9.out)
                              rw [HLF.out rfl rfl] at C0
                              go_wp2_with fail
                              refine C0.out.mono ?_
                              rintro e wu ⟨rfl, hbu⟩
                              have BC := Lib.hid (Below.chain B9.out hbu)
                              have HSc := Lib.hid (HS9.out.below hbu)
                              have HWc := Lib.hid (HW9.out.below hbu)
                              clear hbu C0
                              cases two with
                              | true =>
                                as_aux_lemma =>
                                  obtain ⟨hs1, hs2, hs3⟩ := HSF.out rfl
                                  have C1 := Lib.hid (IsFullTest_c _ S _ HSc.out)
                                  rw [hs1] at C1
                                  have C2 := Lib.hid (fun (W : World) (hi : Ints W u22 S) => IsLeastTest_c u22 S W hi)
                                  rw [hs2] at C2
                                  have HM := Lib.hid hs3
                                  clear hs1 hs2 hs3
                                  go_wp2_with fail
                                  refine C1.out.mono ?_
                                  rintro e wx ⟨rfl, hbx⟩
                                  have BD1 := Lib.hid (Below.chain BC.out hbx)
                                  have HS1 := Lib.hid (HSc.out.below hbx)
                                  have HW1 := Lib.hid (HWc.out.below hbx)
                                  clear hbx C1
                                  go_wp2_with fail
                                  refine (C2.out _ HS1.out).mono ?_
                                  rintro e wy ⟨rfl, hby⟩
                                  have BD2 := Lib.hid (Below.chain BD1.out hby)
                                  have HS2 := Lib.hid (HS1.out.below hby)
                                  have HW2 := Lib.hid (HW1.out.below hby)
                                  clear hby C2 BD1 HS1 HW1
                                  obtain ⟨a22, c22, rfl, _, _, HSp⟩ := HS2.out.parts
                                  go_wp2
                                  go_loopw [43] (fun j wr => ∃ m : Nat, m ≤ S.length ∧ j = .int .i64 (m : Int) ∧ wy = wr) (fun j _ => S.length - (intOf j).toNat)
                                  case atStart => exact ⟨0, by omega, rfl, rfl⟩
                                  case round =>
                                    obtain ⟨m, hm2, rfl, rfl⟩ := hrel
                                    by_cases hltm : m < S.length
                                    · have hdm : decide ((m : Int) < (S.length : Int)) = true := by simp; omega
                                      obtain ⟨x, hx⟩ := elem_at hltm
                                      obtain ⟨b, off, rfl, f1⟩ := HSp.out m x hx.out
                                      have HC := Lib.hid (vHas_c _ vs x wy HW2.out)
                                      rw [HM.out x (List.mem_of_getElem? hx.out)] at HC
                                      go_wp2_with fail
                                      refine HC.out.mono ?_
                                      rintro e _ ⟨rfl, rfl⟩
                                      go_wp2
                                      go_roundw
                                      case rel => exact ⟨m + 1, by omega, by go_num, trivial⟩
                                      case measure => simp [intOf]; omega
                                    · have hdm : decide ((m : Int) < (S.length : Int)) = false := by simp; omega
                                      go_wp2
                                      go_ret
                                      exact ⟨rfl, BD2.out⟩
                              | false =>
                                as_aux_lemma =>
                                  obtain ⟨p, q, hpq, hor⟩ := HSN.out rfl
                                  have C1 := Lib.hid (IsFullTest_c _ vs _ HWc.out)
                                  rw [hpq] at C1
                                  clear hpq
                                  go_wp2_with fail
                                  refine C1.out.mono ?_
                                  rintro e wx ⟨rfl, hbx⟩
                                  have BD1 := Lib.hid (Below.chain BC.out hbx)
                                  clear hbx C1
                                  cases q with
                                  | false =>
                                    go_wp2
                                    go_ret
                                    exact ⟨rfl, BD1.out⟩
                                  | true =>
                                    have hp : p = false := by rcases hor with h | h; exact h; cases h
                                    subst hp
                                    go_wp2
                                    go_ret
                                    exact ⟨rfl, BD1.out⟩
                            | false =>
                              obtain ⟨z, hz⟩ := HLG.out rfl
                              have C0 := Lib.hid (IsFullTest_c _ us _ HU9.out)
                              rw [hz] at C0
                              clear hz
                              go_wp2_with fail
                              refine C0.out.mono ?_
                              rintro e wu ⟨rfl, hbu⟩
                              have BC := Lib.hid (Below.chain B9.out hbu)
                              have HSc := Lib.hid (HS9.out.below hbu)
                              have HWc := Lib.hid (HW9.out.below hbu)
                              clear hbu C0
                              cases two with
                              | true =>
                                as_aux_lemma =>
                                  obtain ⟨hs1, hs2, hs3⟩ := HSF.out rfl
                                  have C1 := Lib.hid (IsFullTest_c _ S _ HSc.out)
                                  rw [hs1] at C1
                                  have C2 := Lib.hid (fun (W : World) (hi : Ints W u22 S) => IsLeastTest_c u22 S W hi)
                                  rw [hs2] at C2
                                  have HM := Lib.hid hs3
                                  clear hs1 hs2 hs3
                                  go_wp2_with fail
                                  refine C1.out.mono ?_
                                  rintro e wx ⟨rfl, hbx⟩
                                  have BD1 := Lib.hid (Below.chain BC.out hbx)
                                  have HS1 := Lib.hid (HSc.out.below hbx)
                                  have HW1 := Lib.hid (HWc.out.below hbx)
                                  clear hbx C1
                                  go_wp2_with fail
                                  refine (C2.out _ HS1.out).mono ?_
                                  rintro e wy ⟨rfl, hby⟩
                                  have BD2 := Lib.hid (Below.chain BD1.out hby)
                                  have HS2 := Lib.hid (HS1.out.below hby)
                                  have HW2 := Lib.hid (HW1.out.below hby)
                                  clear hby C2 BD1 HS1 HW1
                                  obtain ⟨a22, c22, rfl, _, _, HSp⟩ := HS2.out.parts
                                  go_wp2
                                  go_loopw [43] (fun j wr => ∃ m : Nat, m ≤ S.length ∧ j = .int .i64 (m : Int) ∧ wy = wr) (fun j _ => S.length - (intOf j).toNat)
                                  case atStart => exact ⟨0, by omega, rfl, rfl⟩
                                  case round =>
                                    obtain ⟨m, hm2, rfl, rfl⟩ := hrel
                                    by_cases hltm : m < S.length
                                    · have hdm : decide ((m : Int) < (S.length : Int)) = true := by simp; omega
                                      obtain ⟨x, hx⟩ := elem_at hltm
                                      obtain ⟨b, off, rfl, f1⟩ := HSp.out m x hx.out
                                      have HC := Lib.hid (vHas_c _ vs x wy HW2.out)
                                      rw [HM.out x (List.mem_of_getElem? hx.out)] at HC
                                      go_wp2_with fail
                                      refine HC.out.mono ?_
                                      rintro e _ ⟨rfl, rfl⟩
                                      go_wp2
                                      go_roundw
                                      case rel => exact ⟨m + 1, by omega, by go_num, trivial⟩
                                      case measure => simp [intOf]; omega
                                    · have hdm : decide ((m : Int) < (S.length : Int)) = false := by simp; omega
                                      go_wp2
                                      go_ret
                                      exact ⟨rfl, BD2.out⟩
                              | false =>
                                as_aux_lemma =>
                                  obtain ⟨p, q, hpq, hor⟩ := HSN.out rfl
                                  have C1 := Lib.hid (IsFullTest_c _ vs _ HWc.out)
                                  rw [hpq] at C1
                                  clear hpq
                                  go_wp2_with fail
                                  refine C1.out.mono ?_
                                  rintro e wx ⟨rfl, hbx⟩
                                  have BD1 := Lib.hid (Below.chain BC.out hbx)
                                  clear hbx C1
                                  cases q with
                                  | false =>
                                    go_wp2
                                    go_ret
                                    exact ⟨rfl, BD1.out⟩
                                  | true =>
                                    have hp : p = false := by rcases hor with h | h; exact h; cases h
                                    subst hp
                                    go_wp2
                                    go_ret
                                    exact ⟨rfl, BD1.out⟩
    | true =>
      as_aux_lemma =>
        obtain ⟨x27a, x27b, _, _⟩ := X27.out.two'
        go_wp2_with fail
        refine (IsFault_c fd fk _).mono ?_
        rintro e wz ⟨rfl, hbz⟩
        clear x27a x27b X27
        rw [HFF.out]
        replace BX := Lib.hid (Below.chain BX.out hbz)
        replace HT := Lib.hid (HT.out.below hbz)
        replace H4 := Lib.hid (H4.out.below hbz)
        replace H8 := Lib.hid (H8.out.below hbz)
        replace HU := Lib.hid (HU.out.below hbz)
        replace HS := Lib.hid (HS.out.below hbz)
        replace HW := Lib.hid (HW.out.below hbz)
        clear hbz
        cases t with
        | false =>
          as_aux_lemma =>
            cases one with
            | false =>
              cases two with
              | true =>
                as_aux_lemma =>
                  obtain ⟨hs1, hs2, hs3⟩ := HSF.out rfl
                  have C1 := Lib.hid (IsFullTest_c _ S _ HS.out)
                  rw [hs1] at C1
                  have C2 := Lib.hid (fun (W : World) (hi : Ints W u22 S) => IsLeastTest_c u22 S W hi)
                  rw [hs2] at C2
                  have HM := Lib.hid hs3
                  clear hs1 hs2 hs3
                  go_wp2_with fail
                  refine C1.out.mono ?_
                  rintro e wx ⟨rfl, hbx⟩
                  have BD1 := Lib.hid (Below.chain BX.out hbx)
                  have HS1 := Lib.hid (HS.out.below hbx)
                  have HW1 := Lib.hid (HW.out.below hbx)
                  clear hbx C1
                  go_wp2_with fail
                  refine (C2.out _ HS1.out).mono ?_
                  rintro e wy ⟨rfl, hby⟩
                  have BD2 := Lib.hid (Below.chain BD1.out hby)
                  have HS2 := Lib.hid (HS1.out.below hby)
                  have HW2 := Lib.hid (HW1.out.below hby)
                  clear hby C2 BD1 HS1 HW1
                  obtain ⟨a22, c22, rfl, _, _, HSp⟩ := HS2.out.parts
                  go_wp2
                  go_loopw [43] (fun j wr => ∃ m : Nat, m ≤ S.length ∧ j = .int .i64 (m : Int) ∧ wy = wr) (fun j _ => S.length - (intOf j).toNat)
                  case atStart => exact ⟨0, by omega, rfl, rfl⟩
                  case round =>
                    obtain ⟨m, hm2, rfl, rfl⟩ := hrel
                    by_cases hltm : m < S.length
                    · have hdm : decide ((m : Int) < (S.length : Int)) = true := by simp; omega
                      obtain ⟨x, hx⟩ := elem_at hltm
                      obtain ⟨b, off, rfl, f1⟩ := HSp.out m x hx.out
                      have HC := Lib.hid (vHas_c _ vs x wy HW2.out)
                      rw [HM.out x (List.mem_of_getElem? hx.out)] at HC
                      go_wp2_with fail
                      refine HC.out.mono ?_
                      rintro e _ ⟨rfl, rfl⟩
                      go_wp2
                      go_roundw
                      case rel => exact ⟨m + 1, by omega, by go_num, trivial⟩
                      case measure => simp [intOf]; omega
                    · have hdm : decide ((m : Int) < (S.length : Int)) = false := by simp; omega
                      go_wp2
                      go_ret
                      exact ⟨rfl, BD2.out⟩
              | false =>
                as_aux_lemma =>
                  obtain ⟨p, q, hpq, hor⟩ := HSN.out rfl
                  have C1 := Lib.hid (IsFullTest_c _ vs _ HW.out)
                  rw [hpq] at C1
                  clear hpq
                  go_wp2_with fail
                  refine C1.out.mono ?_
                  rintro e wx ⟨rfl, hbx⟩
                  have BD1 := Lib.hid (Below.chain BX.out hbx)
                  clear hbx C1
                  cases q with
                  | false =>
                    go_wp2
                    go_ret
                    exact ⟨rfl, BD1.out⟩
                  | true =>
                    have hp : p = false := by rcases hor with h | h; exact h; cases h
                    subst hp
                    go_wp2
                    go_ret
                    exact ⟨rfl, BD1.out⟩
            | true =>
              cases lb with
              | true =>
                have C0 := Lib.hid (IsFullTest_c _ us _ HU.out)
                rw [HLF.out rfl rfl] at C0
                go_wp2_with fail
                refine C0.out.mono ?_
                rintro e wu ⟨rfl, hbu⟩
                have BC := Lib.hid (Below.chain BX.out hbu)
                have HSc := Lib.hid (HS.out.below hbu)
                have HWc := Lib.hid (HW.out.below hbu)
                clear hbu C0
                cases two with
                | true =>
                  as_aux_lemma =>
                    obtain ⟨hs1, hs2, hs3⟩ := HSF.out rfl
                    have C1 := Lib.hid (IsFullTest_c _ S _ HSc.out)
                    rw [hs1] at C1
                    have C2 := Lib.hid (fun (W : World) (hi : Ints W u22 S) => IsLeastTest_c u22 S W hi)
                    rw [hs2] at C2
                    have HM := Lib.hid hs3
                    clear hs1 hs2 hs3
                    go_wp2_with fail
                    refine C1.out.mono ?_
                    rintro e wx ⟨rfl, hbx⟩
                    have BD1 := Lib.hid (Below.chain BC.out hbx)
                    have HS1 := Lib.hid (HSc.out.below hbx)
                    have HW1 := Lib.hid (HWc.out.below hbx)
                    clear hbx C1
                    go_wp2_with fail
                    refine (C2.out _ HS1.out).mono ?_
                    rintro e wy ⟨rfl, hby⟩
                    have BD2 := Lib.hid (Below.chain BD1.out hby)
                    have HS2 := Lib.hid (HS1.out.below hby)
                    have HW2 := Lib.hid (HW1.out.below hby)
                    clear hby C2 BD1 HS1 HW1
                    obtain ⟨a22, c22, rfl, _, _, HSp⟩ := HS2.out.parts
                    go_wp2
                    go_loopw [43] (fun j wr => ∃ m : Nat, m ≤ S.length ∧ j = .int .i64 (m : Int) ∧ wy = wr) (fun j _ => S.length - (intOf j).toNat)
                    case atStart => exact ⟨0, by omega, rfl, rfl⟩
                    case round =>
                      obtain ⟨m, hm2, rfl, rfl⟩ := hrel
                      by_cases hltm : m < S.length
                      · have hdm : decide ((m : Int) < (S.length : Int)) = true := by simp; omega
                        obtain ⟨x, hx⟩ := elem_at hltm
                        obtain ⟨b, off, rfl, f1⟩ := HSp.out m x hx.out
                        have HC := Lib.hid (vHas_c _ vs x wy HW2.out)
                        rw [HM.out x (List.mem_of_getElem? hx.out)] at HC
                        go_wp2_with fail
                        refine HC.out.mono ?_
                        rintro e _ ⟨rfl, rfl⟩
                        go_wp2
                        go_roundw
                        case rel => exact ⟨m + 1, by omega, by go_num, trivial⟩
                        case measure => simp [intOf]; omega
                      · have hdm : decide ((m : Int) < (S.length : Int)) = false := by simp; omega
                        go_wp2
                        go_ret
                        exact ⟨rfl, BD2.out⟩
                | false =>
                  as_aux_lemma =>
                    obtain ⟨p, q, hpq, hor⟩ := HSN.out rfl
                    have C1 := Lib.hid (IsFullTest_c _ vs _ HWc.out)
                    rw [hpq] at C1
                    clear hpq
                    go_wp2_with fail
                    refine C1.out.mono ?_
                    rintro e wx ⟨rfl, hbx⟩
                    have BD1 := Lib.hid (Below.chain BC.out hbx)
                    clear hbx C1
                    cases q with
                    | false =>
                      go_wp2
                      go_ret
                      exact ⟨rfl, BD1.out⟩
                    | true =>
                      have hp : p = false := by rcases hor with h | h; exact h; cases h
                      subst hp
                      go_wp2
                      go_ret
                      exact ⟨rfl, BD1.out⟩
              | false =>
                obtain ⟨z, hz⟩ := HLG.out rfl
                have C0 := Lib.hid (IsFullTest_c _ us _ HU.out)
                rw [hz] at C0
                clear hz
                go_wp2_with fail
                refine C0.out.mono ?_
                rintro e wu ⟨rfl, hbu⟩
                have BC := Lib.hid (Below.chain BX.out hbu)
                have HSc := Lib.hid (HS.out.below hbu)
                have HWc := Lib.hid (HW.out.below hbu)
                clear hbu C0
                cases two with
                | true =>
                  as_aux_lemma =>
                    obtain ⟨hs1, hs2, hs3⟩ := HSF.out rfl
                    have C1 := Lib.hid (IsFullTest_c _ S _ HSc.out)
                    rw [hs1] at C1
                    have C2 := Lib.hid (fun (W : World) (hi : Ints W u22 S) => IsLeastTest_c u22 S W hi)
                    rw [hs2] at C2
                    have HM := Lib.hid hs3
                    clear hs1 hs2 hs3
                    go_wp2_with fail
                    refine C1.out.mono ?_
                    rintro e wx ⟨rfl, hbx⟩
                    have BD1 := Lib.hid (Below.chain BC.out hbx)
                    have HS1 := Lib.hid (HSc.out.below hbx)
                    have HW1 := Lib.hid (HWc.out.below hbx)
                    clear hbx C1
                    go_wp2_with fail
                    refine (C2.out _ HS1.out).mono ?_
                    rintro e wy ⟨rfl, hby⟩
                    have BD2 := Lib.hid (Below.chain BD1.out hby)
                    have HS2 := Lib.hid (HS1.out.below hby)
                    have HW2 := Lib.hid (HW1.out.below hby)
                    clear hby C2 BD1 HS1 HW1
                    obtain ⟨a22, c22, rfl, _, _, HSp⟩ := HS2.out.parts
                    go_wp2
                    go_loopw [43] (fun j wr => ∃ m : Nat, m ≤ S.length ∧ j = .int .i64 (m : Int) ∧ wy = wr) (fun j _ => S.length - (intOf j).toNat)
                    case atStart => exact ⟨0, by omega, rfl, rfl⟩
                    case round =>
                      obtain ⟨m, hm2, rfl, rfl⟩ := hrel
                      by_cases hltm : m < S.length
                      · have hdm : decide ((m : Int) < (S.length : Int)) = true := by simp; omega
                        obtain ⟨x, hx⟩ := elem_at hltm
                        obtain ⟨b, off, rfl, f1⟩ := HSp.out m x hx.out
                        have HC := Lib.hid (vHas_c _ vs x wy HW2.out)
                        rw [HM.out x (List.mem_of_getElem? hx.out)] at HC
                        go_wp2_with fail
                        refine HC.out.mono ?_
                        rintro e _ ⟨rfl, rfl⟩
                        go_wp2
                        go_roundw
                        case rel => exact ⟨m + 1, by omega, by go_num, trivial⟩
                        case measure => simp [intOf]; omega
                      · have hdm : decide ((m : Int) < (S.length : Int)) = false := by simp; omega
                        go_wp2
                        go_ret
                        exact ⟨rfl, BD2.out⟩
                | false =>
                  as_aux_lemma =>
                    obtain ⟨p, q, hpq, hor⟩ := HSN.out rfl
                    have C1 := Lib.hid (IsFullTest_c _ vs _ HWc.out)
                    rw [hpq] at C1
                    clear hpq
                    go_wp2_with fail
                    refine C1.out.mono ?_
                    rintro e wx ⟨rfl, hbx⟩
                    have BD1 := Lib.hid (Below.chain BC.out hbx)
                    clear hbx C1
                    cases q with
                    | false =>
                      go_wp2
                      go_ret
                      exact ⟨rfl, BD1.out⟩
                    | true =>
                      have hp : p = false := by rcases hor with h | h; exact h; cases h
                      subst hp
                      go_wp2
                      go_ret
                      exact ⟨rfl, BD1.out⟩
        | true =>
          as_aux_lemma =>
            have hFI := HFI.out rfl
            have hHI := HHI.out rfl
            have hsum := HSUM.out rfl
            have hfu := HFU.out rfl
            have HF2 := Lib.hid hFI
            have HH2 := Lib.hid hHI
            have h14 : (F.length : Int) + (G.length : Int) = 14 := by omega
            have HG0 : (fb = true ∧ (((G.length : Int) == 0) = true)) ∨ (fb = false ∧ (((G.length : Int) == 0) = false)) := by
              rw [hfu]
              by_cases h : G.length = 0
              · exact .inl ⟨decide_eq_true h, by rw [h]; rfl⟩
              · exact .inr ⟨decide_eq_false h, by rw [beq_eq_false_iff_ne]; omega⟩
            clear hFI hHI hsum hfu
            obtain ⟨a3, c3, rfl, _, _, _⟩ := HT.out.parts
            obtain ⟨a4, c4, rfl, _, _, _⟩ := Pairs.parts H4.out
            obtain ⟨a8, c8, rfl, _, _, _⟩ := Pairs.parts H8.out
            rcases HG0 with ⟨rfl, hg0⟩ | ⟨rfl, hg0⟩
            · as_aux_lemma =>
                go_wp2
                go_loopw [31] (fun j wr => ∃ k : Nat, k ≤ F.length ∧ j = .int .i64 (k : Int) ∧ Hid (Below wz.heap.size wz wr)) (fun j _ => F.length - (intOf j).toNat)
                case atStart => exact ⟨0, by omega, rfl, Below.refl _ _⟩
                case round =>
                  obtain ⟨k, hk, rfl, HBr⟩ := hrel
                  obtain ⟨ax, cx, ex, _, _, HFp⟩ := Pairs.parts (Pairs.below H4.out HBr.out)
                  cases ex
                  by_cases hlt : k < F.length
                  · have hdk : decide ((k : Int) < (F.length : Int)) = true := by simp; omega
                    obtain ⟨s, hs⟩ := elem_at hlt
                    obtain ⟨b, off, rfl, g0, g1⟩ := HFp.out k s hs.out
                    obtain ⟨q1, q2, q3⟩ := HF2.out s (List.mem_of_getElem? hs.out)
                    have HC := Lib.hid (FirstFinding_c _ ts s.1 s.2 wr (HT.out.below HBr.out))
                    rw [q1] at HC
                    clear q1 HFp
                    generalize placeOf s.1 s.2 ts = pl at *
                    have hd1 : decide (pl < 0) = false := by simp; omega
                    have hd2 : decide ((ts.length : Int) ≤ pl) = false := by simp; omega
                    go_wp2_with fail
                    refine HC.out.mono ?_
                    rintro e wa ⟨rfl, hba⟩
                    have HBa := Lib.hid (Below.chain HBr.out hba)
                    clear hba HC
                    go_wp2
                    go_roundw
                    case rel => exact ⟨k + 1, by omega, by go_num, HBa⟩
                    case measure => simp [intOf]; omega
                  · have hdk : decide ((k : Int) < (F.length : Int)) = false := by simp; omega
                    clear HFp
                    rename World => wo
                    go_wp2
                    go_loopw [34] (fun j wr => ∃ k : Nat, k ≤ G.length ∧ j = .int .i64 (k : Int) ∧ Hid (Below wz.heap.size wz wr)) (fun j _ => G.length - (intOf j).toNat)
                    case atStart => exact ⟨0, by omega, rfl, HBr⟩
                    case round =>
                      obtain ⟨m, hm2, rfl, HBs⟩ := hrel
                      obtain ⟨ay, cy, ey, _, _, HGp⟩ := Pairs.parts (Pairs.below H8.out HBs.out)
                      cases ey
                      by_cases hlt2 : m < G.length
                      · have hdm : decide ((m : Int) < (G.length : Int)) = true := by simp; omega
                        obtain ⟨s, hs⟩ := elem_at hlt2
                        obtain ⟨b, off, rfl, g0, g1⟩ := HGp.out m s hs.out
                        have HC := Lib.hid (FirstFinding_c _ ts s.1 s.2 wr (HT.out.below HBs.out))
                        rw [HH2.out s (List.mem_of_getElem? hs.out)] at HC
                        clear HGp
                        go_wp2_with fail
                        refine HC.out.mono ?_
                        rintro e wa ⟨rfl, hba⟩
                        have HBa := Lib.hid (Below.chain HBs.out hba)
                        clear hba HC
                        go_wp2
                        go_roundw
                        case rel => exact ⟨m + 1, by omega, by go_num, HBa⟩
                        case measure => simp [intOf]; omega
                      · have hdm : decide ((m : Int) < (G.length : Int)) = false := by simp; omega
                        clear HGp
                        rename World => wp
                        have HU9 := Lib.hid (HU.out.below HBs.out)
                        have HS9 := Lib.hid (HS.out.below HBs.out)
                        have HW9 := Lib.hid (HW.out.below HBs.out)
                        have B9 := Lib.hid (Below.chain BX.out HBs.out)
                        as_aux_lemma =>
                          cases one with
                          | false =>
                            cases two with
                            | true =>
                              as_aux_lemma =>
                                obtain ⟨hs1, hs2, hs3⟩ := HSF.out rfl
                                have C1 := Lib.hid (IsFullTest_c _ S _ HS9.out)
                                rw [hs1] at C1
                                have C2 := Lib.hid (fun (W : World) (hi : Ints W u22 S) => IsLeastTest_c u22 S W hi)
                                rw [hs2] at C2
                                have HM := Lib.hid hs3
                                clear hs1 hs2 hs3
                                go_wp2_with fail
                                refine C1.out.mono ?_
                                rintro e wx ⟨rfl, hbx⟩
                                have BD1 := Lib.hid (Below.chain B9.out hbx)
                                have HS1 := Lib.hid (HS9.out.below hbx)
                                have HW1 := Lib.hid (HW9.out.below hbx)
                                clear hbx C1
                                go_wp2_with fail
                                refine (C2.out _ HS1.out).mono ?_
                                rintro e wy ⟨rfl, hby⟩
                                have BD2 := Lib.hid (Below.chain BD1.out hby)
                                have HS2 := Lib.hid (HS1.out.below hby)
                                have HW2 := Lib.hid (HW1.out.below hby)
                                clear hby C2 BD1 HS1 HW1
                                obtain ⟨a22, c22, rfl, _, _, HSp⟩ := HS2.out.parts
                                go_wp2
                                go_loopw [43] (fun j wr => ∃ m : Nat, m ≤ S.length ∧ j = .int .i64 (m : Int) ∧ wy = wr) (fun j _ => S.length - (intOf j).toNat)
                                case atStart => exact ⟨0, by omega, rfl, rfl⟩
                                case round =>
                                  obtain ⟨m, hm2, rfl, rfl⟩ := hrel
                                  by_cases hltm : m < S.length
                                  · have hdm : decide ((m : Int) < (S.length : Int)) = true := by simp; omega
                                    obtain ⟨x, hx⟩ := elem_at hltm
                                    obtain ⟨b, off, rfl, f1⟩ := HSp.out m x hx.out
                                    have HC := Lib.hid (vHas_c _ vs x wy HW2.out)
                                    rw [HM.out x (List.mem_of_getElem? hx.out)] at HC
                                    go_wp2_with fail
                                    refine HC.out.mono ?_
                                    rintro e _ ⟨rfl, rfl⟩
                                    go_wp2
                                    go_roundw
                                    case rel => exact ⟨m + 1, by omega, by go_num, trivial⟩
                                    case measure => simp [intOf]; omega
                                  · have hdm : decide ((m : Int) < (S.length : Int)) = false := by simp; omega
                                    go_wp2
                                    go_ret
                                    exact ⟨rfl, BD2.out⟩
                            | false =>
                              as_aux_lemma =>
                                obtain ⟨p, q, hpq, hor⟩ := HSN.out rfl
                                have C1 := Lib.hid (IsFullTest_c _ vs _ HW9.out)
                                rw [hpq] at C1
                                clear hpq
                                go_wp2_with fail
                                refine C1.out.mono ?_
                                rintro e wx ⟨rfl, hbx⟩
                                have BD1 := Lib.hid (Below.chain B9.out hbx)
                                clear hbx C1
                                cases q with
                                | false =>
                                  go_wp2
                                  go_ret
                                  exact ⟨rfl, BD1.out⟩
                                | true =>
                                  have hp : p = false := by rcases hor with h | h; exact h; cases h
                                  subst hp
                                  go_wp2
                                  go_ret
                                  exact ⟨rfl, BD1.out⟩
                          | true =>
                            cases lb with
                            | true =>
                              have C0 := Lib.hid (IsFullTest_c _ us _ HU9.out)
                              rw [HLF.out rfl rfl] at C0
                              go_wp2_with fail
                              refine C0.out.mono ?_
                              rintro e wu ⟨rfl, hbu⟩
                              have BC := Lib.hid (Below.chain B9.out hbu)
                              have HSc := Lib.hid (HS9.out.below hbu)
                              have HWc := Lib.hid (HW9.out.below hbu)
                              clear hbu C0
                              cases two with
                              | true =>
                                as_aux_lemma =>
                                  obtain ⟨hs1, hs2, hs3⟩ := HSF.out rfl
                                  have C1 := Lib.hid (IsFullTest_c _ S _ HSc.out)
                                  rw [hs1] at C1
                                  have C2 := Lib.hid (fun (W : World) (hi : Ints W u22 S) => IsLeastTest_c u22 S W hi)
                                  rw [hs2] at C2
                                  have HM := Lib.hid hs3
                                  clear hs1 hs2 hs3
                                  go_wp2_with fail
                                  refine C1.out.mono ?_
                                  rintro e wx ⟨rfl, hbx⟩
                                  have BD1 := Lib.hid (Below.chain BC.out hbx)
                                  have HS1 := Lib.hid (HSc.out.below hbx)
                                  have HW1 := Lib.hid (HWc.out.below hbx)
                                  clear hbx C1
                                  go_wp2_with fail
                                  refine (C2.out _ HS1.out).mono ?_
                                  rintro e wy ⟨rfl, hby⟩
                                  have BD2 := Lib.hid (Below.chain BD1.out hby)
                                  have HS2 := Lib.hid (HS1.out.below hby)
                                  have HW2 := Lib.hid (HW1.out.below hby)
                                  clear hby C2 BD1 HS1 HW1
                                  obtain ⟨a22, c22, rfl, _, _, HSp⟩ := HS2.out.parts
                                  go_wp2
                                  go_loopw [43] (fun j wr => ∃ m : Nat, m ≤ S.length ∧ j = .int .i64 (m : Int) ∧ wy = wr) (fun j _ => S.length - (intOf j).toNat)
                                  case atStart => exact ⟨0, by omega, rfl, rfl⟩
                                  case round =>
                                    obtain ⟨m, hm2, rfl, rfl⟩ := hrel
                                    by_cases hltm : m < S.length
                                    · have hdm : decide ((m : Int) < (S.length : Int)) = true := by simp; omega
                                      obtain ⟨x, hx⟩ := elem_at hltm
                                      obtain ⟨b, off, rfl, f1⟩ := HSp.out m x hx.out
                                      have HC := Lib.hid (vHas_c _ vs x wy HW2.out)
                                      rw [HM.out x (List.mem_of_getElem? hx.out)] at HC
                                      go_wp2_with fail
                                      refine HC.out.mono ?_
                                      rintro e _ ⟨rfl, rfl⟩
                                      go_wp2
                                      go_roundw
                                      case rel => exact ⟨m + 1, by omega, by go_num, trivial⟩
                                      case measure => simp [intOf]; omega
                                    · have hdm : decide ((m : Int) < (S.length : Int)) = false := by simp; omega
                                      go_wp2
                                      go_ret
                                      exact ⟨rfl, BD2.out⟩
                              | false =>
                                as_aux_lemma =>
                                  obtain ⟨p, q, hpq, hor⟩ := HSN.out rfl
                                  have C1 := Lib.hid (IsFullTest_c _ vs _ HWc.out)
                                  rw [hpq] at C1
                                  clear hpq
                                  go_wp2_with fail
                                  refine C1.out.mono ?_
                                  rintro e wx ⟨rfl, hbx⟩
                                  have BD1 := Lib.hid (Below.chain BC.out hbx)
                                  clear hbx C1
                                  cases q with
                                  | false =>
                                    go_wp2
                                    go_ret
                                    exact ⟨rfl, BD1.out⟩
                                  | true =>
                                    have hp : p = false := by rcases hor with h | h; exact h; cases h
                                    subst hp
                                    go_wp2
                                    go_ret
                                    exact ⟨rfl, BD1.out⟩
                            | false =>
                              obtain ⟨z, hz⟩ := HLG.out rfl
                              have C0 := Lib.hid (IsFullTest_c _ us _ HU9.out)
                              rw [hz] at C0
                              clear hz
                              go_wp2_with fail
                              refine C0.out.mono ?_
                              rintro e wu ⟨rfl, hbu⟩
                              have BC := Lib.hid (Below.chain B9.out hbu)
                              have HSc := Lib.hid (HS9.out.below hbu)
                              have HWc := Lib.hid (HW9.out.below hbu)
                              clear hbu C0
                              cases two with
                              | true =>
                                as_aux_lemma =>
                                  obtain ⟨hs1, hs2, hs3⟩ := HSF.out rfl
                                  have C1 := Lib.hid (IsFullTest_c _ S _ HSc.out)
                                  rw [hs1] at C1
                                  have C2 := Lib.hid (fun (W : World) (hi : Ints W u22 S) => IsLeastTest_c u22 S W hi)
                                  rw [hs2] at C2
                                  have HM := Lib.hid hs3
                                  clear hs1 hs2 hs3
                                  go_wp2_with fail
                                  refine C1.out.mono ?_
                                  rintro e wx ⟨rfl, hbx⟩
                                  have BD1 := Lib.hid (Below.chain BC.out hbx)
                                  have HS1 := Lib.hid (HSc.out.below hbx)
                                  have HW1 := Lib.hid (HWc.out.below hbx)
                                  clear hbx C1
                                  go_wp2_with fail
                                  refine (C2.out _ HS1.out).mono ?_
                                  rintro e wy ⟨rfl, hby⟩
                                  have BD2 := Lib.hid (Below.chain BD1.out hby)
                                  have HS2 := Lib.hid (HS1.out.below hby)
                                  have HW2 := Lib.hid (HW1.out.below hby)
                                  clear hby C2 BD1 HS1 HW1
                                  obtain ⟨a22, c22, rfl, _, _, HSp⟩ := HS2.out.parts
                                  go_wp2
                                  go_loopw [43] (fun j wr => ∃ m : Nat, m ≤ S.length ∧ j = .int .i64 (m : Int) ∧ wy = wr) (fun j _ => S.length - (intOf j).toNat)
                                  case atStart => exact ⟨0, by omega, rfl, rfl⟩
                                  case round =>
                                    obtain ⟨m, hm2, rfl, rfl⟩ := hrel
                                    by_cases hltm : m < S.length
                                    · have hdm : decide ((m : Int) < (S.length : Int)) = true := by simp; omega
                                      obtain ⟨x, hx⟩ := elem_at hltm
                                      obtain ⟨b, off, rfl, f1⟩ := HSp.out m x hx.out
                                      have HC := Lib.hid (vHas_c _ vs x wy HW2.out)
                                      rw [HM.out x (List.mem_of_getElem? hx.out)] at HC
                                      go_wp2_with fail
                                      refine HC.out.mono ?_
                                      rintro e _ ⟨rfl, rfl⟩
                                      go_wp2
                                      go_roundw
                                      case rel => exact ⟨m + 1, by omega, by go_num, trivial⟩
                                      case measure => simp [intOf]; omega
                                    · have hdm : decide ((m : Int) < (S.length : Int)) = false := by simp; omega
                                      go_wp2
                                      go_ret
                                      exact ⟨rfl, BD2.out⟩
                              | false =>
                                as_aux_lemma =>
                                  obtain ⟨p, q, hpq, hor⟩ := HSN.out rfl
                                  have C1 := Lib.hid (IsFullTest_c _ vs _ HWc.out)
                                  rw [hpq] at C1
                                  clear hpq
                                  go_wp2_with fail
                                  refine C1.out.mono ?_
                                  rintro e wx ⟨rfl, hbx⟩
                                  have BD1 := Lib.hid (Below.chain BC.out hbx)
                                  clear hbx C1
                                  cases q with
                                  | false =>
                                    go_wp2
                                    go_ret
                                    exact ⟨rfl, BD1.out⟩
                                  | true =>
                                    have hp : p = false := by rcases hor with h | h; exact h; cases h
                                    subst hp
                                    go_wp2
                                    go_ret
                                    exact ⟨rfl, BD1.out⟩
            · as_aux_lemma =>
                go_wp2
                go_loopw [31] (fun j wr => ∃ k : Nat, k ≤ F.length ∧ j = .int .i64 (k : Int) ∧ Hid (Below wz.heap.size wz wr)) (fun j _ => F.length - (intOf j).toNat)
                case atStart => exact ⟨0, by omega, rfl, Below.refl _ _⟩
                case round =>
                  obtain ⟨k, hk, rfl, HBr⟩ := hrel
                  obtain ⟨ax, cx, ex, _, _, HFp⟩ := Pairs.parts (Pairs.below H4.out HBr.out)
                  cases ex
                  by_cases hlt : k < F.length
                  · have hdk : decide ((k : Int) < (F.length : Int)) = true := by simp; omega
                    obtain ⟨s, hs⟩ := elem_at hlt
                    obtain ⟨b, off, rfl, g0, g1⟩ := HFp.out k s hs.out
                    obtain ⟨q1, q2, q3⟩ := HF2.out s (List.mem_of_getElem? hs.out)
                    have HC := Lib.hid (FirstFinding_c _ ts s.1 s.2 wr (HT.out.below HBr.out))
                    rw [q1] at HC
                    clear q1 HFp
                    generalize placeOf s.1 s.2 ts = pl at *
                    have hd1 : decide (pl < 0) = false := by simp; omega
                    have hd2 : decide ((ts.length : Int) ≤ pl) = false := by simp; omega
                    go_wp2_with fail
                    refine HC.out.mono ?_
                    rintro e wa ⟨rfl, hba⟩
                    have HBa := Lib.hid (Below.chain HBr.out hba)
                    clear hba HC
                    go_wp2
                    go_roundw
                    case rel => exact ⟨k + 1, by omega, by go_num, HBa⟩
                    case measure => simp [intOf]; omega
                  · have hdk : decide ((k : Int) < (F.length : Int)) = false := by simp; omega
                    clear HFp
                    rename World => wo
                    go_wp2
                    go_loopw [34] (fun j wr => ∃ k : Nat, k ≤ G.length ∧ j = .int .i64 (k : Int) ∧ Hid (Below wz.heap.size wz wr)) (fun j _ => G.length - (intOf j).toNat)
                    case atStart => exact ⟨0, by omega, rfl, HBr⟩
                    case round =>
                      obtain ⟨m, hm2, rfl, HBs⟩ := hrel
                      obtain ⟨ay, cy, ey, _, _, HGp⟩ := Pairs.parts (Pairs.below H8.out HBs.out)
                      cases ey
                      by_cases hlt2 : m < G.length
                      · have hdm : decide ((m : Int) < (G.length : Int)) = true := by simp; omega
                        obtain ⟨s, hs⟩ := elem_at hlt2
                        obtain ⟨b, off, rfl, g0, g1⟩ := HGp.out m s hs.out
                        have HC := Lib.hid (FirstFinding_c _ ts s.1 s.2 wr (HT.out.below HBs.out))
                        rw [HH2.out s (List.mem_of_getElem? hs.out)] at HC
                        clear HGp
                        go_wp2_with fail
                        refine HC.out.mono ?_
                        rintro e wa ⟨rfl, hba⟩
                        have HBa := Lib.hid (Below.chain HBs.out hba)
                        clear hba HC
                        go_wp2
                        go_roundw
                        case rel => exact ⟨m + 1, by omega, by go_num, HBa⟩
                        case measure => simp [intOf]; omega
                      · have hdm : decide ((m : Int) < (G.length : Int)) = false := by simp; omega
                        clear HGp
                        rename World => wp
                        have HU9 := Lib.hid (HU.out.below HBs.out)
                        have HS9 := Lib.hid (HS.out.below HBs.out)
                        have HW9 := Lib.hid (HW.out.below HBs.out)
                        have B9 := Lib.hid (Below.chain BX.out HBs.out)
                        as_aux_lemma =>
                          cases one with
                          | false =>
                            cases two with
                            | true =>
                              as_aux_lemma =>
                                obtain ⟨hs1, hs2, hs3⟩ := HSF.out rfl
                                have C1 := Lib.hid (IsFullTest_c _ S _ HS9.out)
                                rw [hs1] at C1
                                have C2 := Lib.hid (fun (W : World) (hi : Ints W u22 S) => IsLeastTest_c u22 S W hi)
                                rw [hs2] at C2
                                have HM := Lib.hid hs3
                                clear hs1 hs2 hs3
                                go_wp2_with fail
                                refine C1.out.mono ?_
                                rintro e wx ⟨rfl, hbx⟩
                                have BD1 := Lib.hid (Below.chain B9.out hbx)
                                have HS1 := Lib.hid (HS9.out.below hbx)
                                have HW1 := Lib.hid (HW9.out.below hbx)
                                clear hbx C1
                                go_wp2_with fail
                                refine (C2.out _ HS1.out).mono ?_
                                rintro e wy ⟨rfl, hby⟩
                                have BD2 := Lib.hid (Below.chain BD1.out hby)
                                have HS2 := Lib.hid (HS1.out.below hby)
                                have HW2 := Lib.hid (HW1.out.below hby)
                                clear hby C2 BD1 HS1 HW1
                                obtain ⟨a22, c22, rfl, _, _, HSp⟩ := HS2.out.parts
                                go_wp2
                                go_loopw [43] (fun j wr => ∃ m : Nat, m ≤ S.length ∧ j = .int .i64 (m : Int) ∧ wy = wr) (fun j _ => S.length - (intOf j).toNat)
                                case atStart => exact ⟨0, by omega, rfl, rfl⟩
                                case round =>
                                  obtain ⟨m, hm2, rfl, rfl⟩ := hrel
                                  by_cases hltm : m < S.length
                                  · have hdm : decide ((m : Int) < (S.length : Int)) = true := by simp; omega
                                    obtain ⟨x, hx⟩ := elem_at hltm
                                    obtain ⟨b, off, rfl, f1⟩ := HSp.out m x hx.out
                                    have HC := Lib.hid (vHas_c _ vs x wy HW2.out)
                                    rw [HM.out x (List.mem_of_getElem? hx.out)] at HC
                                    go_wp2_with fail
                                    refine HC.out.mono ?_
                                    rintro e _ ⟨rfl, rfl⟩
                                    go_wp2
                                    go_roundw
                                    case rel => exact ⟨m + 1, by omega, by go_num, trivial⟩
                                    case measure => simp [intOf]; omega
                                  · have hdm : decide ((m : Int) < (S.length : Int)) = false := by simp; omega
                                    go_wp2
                                    go_ret
                                    exact ⟨rfl, BD2.out⟩
                            | false =>
                              as_aux_lemma =>
                                obtain ⟨p, q, hpq, hor⟩ := HSN.out rfl
                                have C1 := Lib.hid (IsFullTest_c _ vs _ HW9.out)
                                rw [hpq] at C1
                                clear hpq
                                go_wp2_with fail
                                refine C1.out.mono ?_
                                rintro e wx ⟨rfl, hbx⟩
                                have BD1 := Lib.hid (Below.chain B9.out hbx)
                                clear hbx C1
                                cases q with
                                | false =>
                                  go_wp2
                                  go_ret
                                  exact ⟨rfl, BD1.out⟩
                                | true =>
                                  have hp : p = false := by rcases hor with h | h; exact h; cases h
                                  subst hp
                                  go_wp2
                                  go_ret
                                  exact ⟨rfl, BD1.out⟩
                          | true =>
                            cases lb with
                            | true =>
                              have C0 := Lib.hid (IsFullTest_c _ us _ HU9.out)
                              rw [HLF.out rfl rfl] at C0
                              go_wp2_with fail
                              refine C0.out.mono ?_
                              rintro e wu ⟨rfl, hbu⟩
                              have BC := Lib.hid (Below.chain B9.out hbu)
                              have HSc := Lib.hid (HS9.out.below hbu)
                              have HWc := Lib.hid (HW9.out.below hbu)
                              clear hbu C0
                              cases two with
                              | true =>
                                as_aux_lemma =>
                                  obtain ⟨hs1, hs2, hs3⟩ := HSF.out rfl
                                  have C1 := Lib.hid (IsFullTest_c _ S _ HSc.out)
                                  rw [hs1] at C1
                                  have C2 := Lib.hid (fun (W : World) (hi : Ints W u22 S) => IsLeastTest_c u22 S W hi)
                                  rw [hs2] at C2
                                  have HM := Lib.hid hs3
                                  clear hs1 hs2 hs3
                                  go_wp2_with fail
                                  refine C1.out.mono ?_
                                  rintro e wx ⟨rfl, hbx⟩
                                  have BD1 := Lib.hid (Below.chain BC.out hbx)
                                  have HS1 := Lib.hid (HSc.out.below hbx)
                                  have HW1 := Lib.hid (HWc.out.below hbx)
                                  clear hbx C1
                                  go_wp2_with fail
                                  refine (C2.out _ HS1.out).mono ?_
                                  rintro e wy ⟨rfl, hby⟩
                                  have BD2 := Lib.hid (Below.chain BD1.out hby)
                                  have HS2 := Lib.hid (HS1.out.below hby)
                                  have HW2 := Lib.hid (HW1.out.below hby)
                                  clear hby C2 BD1 HS1 HW1
                                  obtain ⟨a22, c22, rfl, _, _, HSp⟩ := HS2.out.parts
                                  go_wp2
                                  go_loopw [43] (fun j wr => ∃ m : Nat, m ≤ S.length ∧ j = .int .i64 (m : Int) ∧ wy = wr) (fun j _ => S.length - (intOf j).toNat)
                                  case atStart => exact ⟨0, by omega, rfl, rfl⟩
                                  case round =>
                                    obtain ⟨m, hm2, rfl, rfl⟩ := hrel
                                    by_cases hltm : m < S.length
                                    · have hdm : decide ((m : Int) < (S.length : Int)) = true := by simp; omega
                                      obtain ⟨x, hx⟩ := elem_at hltm
                                      obtain ⟨b, off, rfl, f1⟩ := HSp.out m x hx.out
                                      have HC := Lib.hid (vHas_c _ vs x wy HW2.out)
                                      rw [HM.out x (List.mem_of_getElem? hx.out)] at HC
                                      go_wp2_with fail
                                      refine HC.out.mono ?_
                                      rintro e _ ⟨rfl, rfl⟩
                                      go_wp2
                                      go_roundw
                                      case rel => exact ⟨m + 1, by omega, by go_num, trivial⟩
                                      case measure => simp [intOf]; omega
                                    · have hdm : decide ((m : Int) < (S.length : Int)) = false := by simp; omega
                                      go_wp2
                                      go_ret
                                      exact ⟨rfl, BD2.out⟩
                              | false =>
                                as_aux_lemma =>
                                  obtain ⟨p, q, hpq, hor⟩ := HSN.out rfl
                                  have C1 := Lib.hid (IsFullTest_c _ vs _ HWc.out)
                                  rw [hpq] at C1
                                  clear hpq
                                  go_wp2_with fail
                                  refine C1.out.mono ?_
                                  rintro e wx ⟨rfl, hbx⟩
                                  have BD1 := Lib.hid (Below.chain BC.out hbx)
                                  clear hbx C1
                                  cases q with
                                  | false =>
                                    go_wp2
                                    go_ret
                                    exact ⟨rfl, BD1.out⟩
                                  | true =>
                                    have hp : p = false := by rcases hor with h | h; exact h; cases h
                                    subst hp
                                    go_wp2
                                    go_ret
                                    exact ⟨rfl, BD1.out⟩
                            | false =>
                              obtain ⟨z, hz⟩ := HLG.out rfl
                              have C0 := Lib.hid (IsFullTest_c _ us _ HU9.out)
                              rw [hz] at C0
                              clear hz
                              go_wp2_with fail
                              refine C0.out.mono ?_
                              rintro e wu ⟨rfl, hbu⟩
                              have BC := Lib.hid (Below.chain B9.out hbu)
                              have HSc := Lib.hid (HS9.out.below hbu)
                              have HWc := Lib.hid (HW9.out.below hbu)
                              clear hbu C0
                              cases two with
                              | true =>
                                as_aux_lemma =>
                                  obtain ⟨hs1, hs2, hs3⟩ := HSF.out rfl
                                  have C1 := Lib.hid (IsFullTest_c _ S _ HSc.out)
                                  rw [hs1] at C1
                                  have C2 := Lib.hid (fun (W : World) (hi : Ints W u22 S) => IsLeastTest_c u22 S W hi)
                                  rw [hs2] at C2
                                  have HM := Lib.hid hs3
                                  clear hs1 hs2 hs3
                                  go_wp2_with fail
                                  refine C1.out.mono ?_
                                  rintro e wx ⟨rfl, hbx⟩
                                  have BD1 := Lib.hid (Below.chain BC.out hbx)
                                  have HS1 := Lib.hid (HSc.out.below hbx)
                                  have HW1 := Lib.hid (HWc.out.below hbx)
                                  clear hbx C1
                                  go_wp2_with fail
                                  refine (C2.out _ HS1.out).mono ?_
                                  rintro e wy ⟨rfl, hby⟩
                                  have BD2 := Lib.hid (Below.chain BD1.out hby)
                                  have HS2 := Lib.hid (HS1.out.below hby)
                                  have HW2 := Lib.hid (HW1.out.below hby)
                                  clear hby C2 BD1 HS1 HW1
                                  obtain ⟨a22, c22, rfl, _, _, HSp⟩ := HS2.out.parts
                                  go_wp2
                                  go_loopw [43] (fun j wr => ∃ m : Nat, m ≤ S.length ∧ j = .int .i64 (m : Int) ∧ wy = wr) (fun j _ => S.length - (intOf j).toNat)
                                  case atStart => exact ⟨0, by omega, rfl, rfl⟩
                                  case round =>
                                    obtain ⟨m, hm2, rfl, rfl⟩ := hrel
                                    by_cases hltm : m < S.length
                                    · have hdm : decide ((m : Int) < (S.length : Int)) = true := by simp; omega
                                      obtain ⟨x, hx⟩ := elem_at hltm
                                      obtain ⟨b, off, rfl, f1⟩ := HSp.out m x hx.out
                                      have HC := Lib.hid (vHas_c _ vs x wy HW2.out)
                                      rw [HM.out x (List.mem_of_getElem? hx.out)] at HC
                                      go_wp2_with fail
                                      refine HC.out.mono ?_
                                      rintro e _ ⟨rfl, rfl⟩
                                      go_wp2
                                      go_roundw
                                      case rel => exact ⟨m + 1, by omega, by go_num, trivial⟩
                                      case measure => simp [intOf]; omega
                                    · have hdm : decide ((m : Int) < (S.length : Int)) = false := by simp; omega
                                      go_wp2
                                      go_ret
                                      exact ⟨rfl, BD2.out⟩
                              | false =>
                                as_aux_lemma =>
                                  obtain ⟨p, q, hpq, hor⟩ := HSN.out rfl
                                  have C1 := Lib.hid (IsFullTest_c _ vs _ HWc.out)
                                  rw [hpq] at C1
                                  clear hpq
                                  go_wp2_with fail
                                  refine C1.out.mono ?_
                                  rintro e wx ⟨rfl, hbx⟩
                                  have BD1 := Lib.hid (Below.chain BC.out hbx)
                                  clear hbx C1
                                  cases q with
                                  | false =>
                                    go_wp2
                                    go_ret
                                    exact ⟨rfl, BD1.out⟩
                                  | true =>
                                    have hp : p = false := by rcases hor with h | h; exact h; cases h
                                    subst hp
                                    go_wp2
                                    go_ret
                                    exact ⟨rfl, BD1.out⟩
end Go.Proofs.YtlipkplomndjcaaGreat
