/- Texts of this claim, gathered: LwLReadTests. -/
import Derived.Test.YtfbnmkpkihfocaaGreatK10
namespace Go.Proofs.YtfbnmkpkihfocaaGreat
open Go.RowKit
set_option linter.unusedVariables false
set_option linter.unusedSimpArgs false
set_option maxRecDepth 100000
set_option maxHeartbeats 100000000 in
theorem FnReadTests_walk (v : Value) (xs : List Nat) (w : World) (h : Code w v xs) :
    Calls Tryz.prog 3 #[v] w fun e w' => e = .returned (.bool true) ∧ Below w.heap.size w w' := by
  have HK := Lib.hid h
  obtain ⟨a, c, rfl, _⟩ := h
  have HV := Lib.hid (vBig_c _ _ _ HK.out)
  by_cases hbig : 65536 < xs.length
  · have hd : decide (65536 < xs.length) = true := decide_eq_true hbig
    go_enter Tryz.func3, Tryz.ntmps3
    go_wp2_with fail
    refine HV.out.mono ?_
    rintro e w1 ⟨rfl, rfl⟩
    go_wp2
    go_ret
    exact ⟨rfl, Below.refl _ _⟩
  have hd : decide (65536 < xs.length) = false := decide_eq_false hbig
  go_enter Tryz.func3, Tryz.ntmps3
  go_wp2_with fail
  refine HV.out.mono ?_
  rintro e _ ⟨rfl, rfl⟩
  have BX := Lib.hid (Below.refl w.heap.size w)
  go_wp2_with fail
  refine (DrawReadStates_c _ xs _ HK.out).mono ?_
  rintro e w1 ⟨u1, u2, ds, cs, rfl, i1, i2, hb1⟩
  replace BX := Lib.hid (Below.chain BX.out hb1)
  replace HK := Lib.hid (HK.out.below hb1)
  have I1 := Lib.hid (i1)
  have I2 := Lib.hid (i2)
  clear hb1
  clear i1 i2
  have RD1 := fun W h1 h2 => ReadStates_c u1 u2 ds cs W h1 h2
  have RD2 := fun W h1 h2 => sReadStates_c u1 u2 ds cs W h1 h2
  have IF := fun W h => IsFullTest_c u1 ds W h
  have SF := fun (h : readOk ds cs = true) s hs => rt_state (s := s) h hs
  have TF : readOk ds cs = true → testB ds = true ∧ ((testB ds && fullB ds) = true → (readL ds cs).length ≤ 1) := fun h => ⟨(readOk_parts h).1, fun h2 => rt_full h (by simp only [Bool.and_eq_true] at h2; exact h2.2)⟩
  have hRL := readL_le ds cs
  unfold RdPost at RD1 RD2
  unfold isFullV at IF
  generalize readL ds cs = RDl at *
  generalize readOk ds cs = ok at *
  generalize (testB ds && fullB ds) = fu at *
  generalize testB ds = tb at *
  replace RD1 := Lib.hid RD1
  replace RD2 := Lib.hid RD2
  replace IF := Lib.hid IF
  replace SF := Lib.hid SF
  replace TF := Lib.hid TF
  go_wp2_with fail
  refine (RD1.out _ I1.out I2.out).mono ?_
  rintro e w2 ⟨u5, rfl, ho, hb2⟩
  replace BX := Lib.hid (Below.chain BX.out hb2)
  replace HK := Lib.hid (HK.out.below hb2)
  replace I1 := Lib.hid (I1.out.below hb2)
  replace I2 := Lib.hid (I2.out.below hb2)
  have P5 := Lib.hid (Pairs.of_own ho)
  clear hb2
  clear ho
  go_wp2_with fail
  refine (RD2.out _ I1.out I2.out).mono ?_
  rintro e w3 ⟨u7, rfl, ho, hb3⟩
  replace BX := Lib.hid (Below.chain BX.out hb3)
  replace HK := Lib.hid (HK.out.below hb3)
  replace I1 := Lib.hid (I1.out.below hb3)
  replace I2 := Lib.hid (I2.out.below hb3)
  replace P5 := Lib.hid (P5.out.below hb3)
  have P7 := Lib.hid (Pairs.of_own ho)
  clear hb3
  clear ho
  go_wp2_with fail
  refine (vCut_c 1 _ xs _ HK.out (by omega) (by decide)).mono ?_
  rintro e w4 ⟨vc1, ys1, rfl, hcy, _, hb4⟩
  replace BX := Lib.hid (Below.chain BX.out hb4)
  replace HK := Lib.hid (HK.out.below hb4)
  replace I1 := Lib.hid (I1.out.below hb4)
  replace I2 := Lib.hid (I2.out.below hb4)
  replace P5 := Lib.hid (P5.out.below hb4)
  replace P7 := Lib.hid (P7.out.below hb4)
  have HY := Lib.hid (hcy)
  clear hb4
  clear hcy
  go_wp2_with fail
  refine (DrawFirstFinding_c _ ys1 _ HY.out).mono ?_
  rintro e w5 ⟨v9, tt, fd, fl, rfl, i9, hb5⟩
  replace BX := Lib.hid (Below.chain BX.out hb5)
  replace HK := Lib.hid (HK.out.below hb5)
  replace I1 := Lib.hid (I1.out.below hb5)
  replace I2 := Lib.hid (I2.out.below hb5)
  replace P5 := Lib.hid (P5.out.below hb5)
  replace P7 := Lib.hid (P7.out.below hb5)
  replace HY := Lib.hid (HY.out.below hb5)
  have I9 := Lib.hid (i9)
  clear hb5
  clear i9
  clear HY
  have FF1 := fun W h => FirstFinding_c v9 tt fd fl W h
  have FF2 := fun W h => sFirstFinding_c v9 tt fd fl W h
  unfold firstFindingV at FF1 FF2
  generalize ffN tt fd fl = an at *
  generalize ffOk tt fd fl = aok at *
  replace FF1 := Lib.hid FF1
  replace FF2 := Lib.hid FF2
  have al1 := Lib.hid (below_one (w := w5) (.cells #[.int .i64 fd, .int .i64 fl] 31))
  replace BX := Lib.hid (Below.alc BX.out (.cells #[.int .i64 fd, .int .i64 fl] 31))
  replace HK := Lib.hid (HK.out.below al1.out)
  replace I1 := Lib.hid (I1.out.below al1.out)
  replace I2 := Lib.hid (I2.out.below al1.out)
  replace P5 := Lib.hid (P5.out.below al1.out)
  replace P7 := Lib.hid (P7.out.below al1.out)
  replace I9 := Lib.hid (I9.out.below al1.out)
  have X10 := Lib.hid (Bk.new w5 31 #[.int .i64 fd, .int .i64 fl])
  clear al1
  obtain ⟨q0a, q0b, _, _⟩ := X10.out.two'
  go_wp2_with fail
  refine (FF1.out _ I9.out).mono ?_
  rintro e w6 ⟨rfl, hb6⟩
  replace BX := Lib.hid (Below.chain BX.out hb6)
  replace HK := Lib.hid (HK.out.below hb6)
  replace I1 := Lib.hid (I1.out.below hb6)
  replace I2 := Lib.hid (I2.out.below hb6)
  replace P5 := Lib.hid (P5.out.below hb6)
  replace P7 := Lib.hid (P7.out.below hb6)
  replace I9 := Lib.hid (I9.out.below hb6)
  replace X10 := Lib.hid (X10.out.below hb6)
  clear hb6
  clear q0a q0b
  obtain ⟨q0a, q0b, _, _⟩ := X10.out.two'
  go_wp2_with fail
  refine (FF2.out _ I9.out).mono ?_
  rintro e w7 ⟨rfl, hb7⟩
  replace BX := Lib.hid (Below.chain BX.out hb7)
  replace HK := Lib.hid (HK.out.below hb7)
  replace I1 := Lib.hid (I1.out.below hb7)
  replace I2 := Lib.hid (I2.out.below hb7)
  replace P5 := Lib.hid (P5.out.below hb7)
  replace P7 := Lib.hid (P7.out.below hb7)
  replace I9 := Lib.hid (I9.out.below hb7)
  replace X10 := Lib.hid (X10.out.below hb7)
  clear hb7
  clear q0a q0b
  clear X10 I9
  go_wp2_with fail
  refine (vCut_c 2 _ xs _ HK.out (by omega) (by decide)).mono ?_
  rintro e w8 ⟨vc2, ys2, rfl, hcy, _, hb8⟩
  replace BX := Lib.hid (Below.chain BX.out hb8)
  replace HK := Lib.hid (HK.out.below hb8)
  replace I1 := Lib.hid (I1.out.below hb8)
  replace I2 := Lib.hid (I2.out.below hb8)
  replace P5 := Lib.hid (P5.out.below hb8)
  replace P7 := Lib.hid (P7.out.below hb8)
  have HY := Lib.hid (hcy)
  clear hb8
  clear hcy
  clear HK
  go_wp2_with fail
  refine (DrawQuietOrder_c _ ys2 _ HY.out).mono ?_
  rintro e w9 ⟨v15, vq, rfl, hl15, i15, hb9⟩
  replace BX := Lib.hid (Below.chain BX.out hb9)
  replace I1 := Lib.hid (I1.out.below hb9)
  replace I2 := Lib.hid (I2.out.below hb9)
  replace P5 := Lib.hid (P5.out.below hb9)
  replace P7 := Lib.hid (P7.out.below hb9)
  replace HY := Lib.hid (HY.out.below hb9)
  have I15 := Lib.hid (i15)
  clear hb9
  clear i15
  clear HY
  have QO1 := fun W h => QuietOrder_c v15 vq W h
  have QO2 := fun W h => sQuietOrder_c v15 vq W h
  have CH1 := fun W h => ChangesOf_c v15 vq W h
  have CH2 := fun W h => sChangesOf_c v15 vq W h
  have QF := fun (h : quOk vq = true) => rt_quiet h
  have CO := fun u W h => ChangesOf_c u (quL vq) W h
  unfold QuPost at QO1 QO2
  unfold cgV at CH1 CH2
  have QF2 : Hid (quOk vq = true → testB vq = true ∧ (if testB vq = true then chL vq else 0) = chL vq ∧ (∀ u W, Ints W u (quL vq) → Calls Tryz.prog 15 #[u] W fun e w' => e = .returned (.tuple #[.int .i64 (quC vq), .bool true]) ∧ Below W.heap.size W w') ∧ quC vq ≤ chL vq ∧ (quL vq).length = vq.length ∧ (quL vq).sum = vq.sum ∧ (∀ x ∈ vq, 0 ≤ x ∧ x ≤ 9) ∧ (∀ x ∈ quL vq, 0 ≤ x ∧ x ≤ 9) ∧ vq.length ≤ 10) := fun h => by
    obtain ⟨h1, h2, h3, h4, h5, h6⟩ := rt_quiet h
    refine ⟨h1, by rw [if_pos h1], fun u W hu => ?_, by rw [h3]; exact h4, h5, h6, (testB_len h1).2, (testB_len h2).2, (testB_len h1).1⟩
    have := ChangesOf_c u (quL vq) W hu
    unfold cgV at this
    rw [h2, if_pos rfl, ← h3] at this
    exact this
  clear QF CO
  generalize quL vq = QL at *
  generalize quC vq = lc at *
  generalize quOk vq = there at *
  generalize hcv : (if testB vq = true then chL vq else 0) = cv at *
  generalize chL vq = cq at *
  clear hcv
  generalize testB vq = tv at *
  replace QO1 := Lib.hid QO1
  replace QO2 := Lib.hid QO2
  replace CH1 := Lib.hid CH1
  replace CH2 := Lib.hid CH2
  go_wp2_with fail
  refine (QO1.out _ I15.out).mono ?_
  rintro e w10 ⟨u16, rfl, i16, hb10⟩
  replace BX := Lib.hid (Below.chain BX.out hb10)
  replace I1 := Lib.hid (I1.out.below hb10)
  replace I2 := Lib.hid (I2.out.below hb10)
  replace P5 := Lib.hid (P5.out.below hb10)
  replace P7 := Lib.hid (P7.out.below hb10)
  replace I15 := Lib.hid (I15.out.below hb10)
  have I16 := Lib.hid (i16)
  clear hb10
  clear i16
  go_wp2_with fail
  refine (QO2.out _ I15.out).mono ?_
  rintro e w11 ⟨u19, rfl, i19, hb11⟩
  replace BX := Lib.hid (Below.chain BX.out hb11)
  replace I1 := Lib.hid (I1.out.below hb11)
  replace I2 := Lib.hid (I2.out.below hb11)
  replace P5 := Lib.hid (P5.out.below hb11)
  replace P7 := Lib.hid (P7.out.below hb11)
  replace I15 := Lib.hid (I15.out.below hb11)
  replace I16 := Lib.hid (I16.out.below hb11)
  have I19 := Lib.hid (i19)
  clear hb11
  clear i19
  go_wp2_with fail
  refine (CH1.out _ I15.out).mono ?_
  rintro e w12 ⟨rfl, hb12⟩
  replace BX := Lib.hid (Below.chain BX.out hb12)
  replace I1 := Lib.hid (I1.out.below hb12)
  replace I2 := Lib.hid (I2.out.below hb12)
  replace P5 := Lib.hid (P5.out.below hb12)
  replace P7 := Lib.hid (P7.out.below hb12)
  replace I15 := Lib.hid (I15.out.below hb12)
  replace I16 := Lib.hid (I16.out.below hb12)
  replace I19 := Lib.hid (I19.out.below hb12)
  clear hb12
  go_wp2_with fail
  refine (CH2.out _ I15.out).mono ?_
  rintro e w13 ⟨rfl, hb13⟩
  replace BX := Lib.hid (Below.chain BX.out hb13)
  replace I1 := Lib.hid (I1.out.below hb13)
  replace I2 := Lib.hid (I2.out.below hb13)
  replace P5 := Lib.hid (P5.out.below hb13)
  replace P7 := Lib.hid (P7.out.below hb13)
  replace I15 := Lib.hid (I15.out.below hb13)
  replace I16 := Lib.hid (I16.out.below hb13)
  replace I19 := Lib.hid (I19.out.below hb13)
  clear hb13
  clear RD1 RD2 FF1 FF2 QO1 QO2 CH1 CH2
  have hthere : Hid (there = true → tv = true) := fun h => (QF2.out h).1
  go_wp2_with fail
  refine (vStatesSame_c u5 u7 RDl _ P5.out P7.out).mono ?_
  rintro e w14 ⟨rfl, hb14⟩
  replace BX := Lib.hid (Below.chain BX.out hb14)
  replace I1 := Lib.hid (I1.out.below hb14)
  replace I2 := Lib.hid (I2.out.below hb14)
  replace P5 := Lib.hid (P5.out.below hb14)
  replace P7 := Lib.hid (P7.out.below hb14)
  replace I15 := Lib.hid (I15.out.below hb14)
  replace I16 := Lib.hid (I16.out.below hb14)
  replace I19 := Lib.hid (I19.out.below hb14)
  clear hb14
  clear P7
  go_wp2_with fail
  refine (vIntsSame_c u16 u19 QL _ I16.out I19.out).mono ?_
  rintro e w15 ⟨rfl, hb15⟩
  replace BX := Lib.hid (Below.chain BX.out hb15)
  replace I1 := Lib.hid (I1.out.below hb15)
  replace I2 := Lib.hid (I2.out.below hb15)
  replace P5 := Lib.hid (P5.out.below hb15)
  replace I15 := Lib.hid (I15.out.below hb15)
  replace I16 := Lib.hid (I16.out.below hb15)
  replace I19 := Lib.hid (I19.out.below hb15)
  clear hb15
  clear I19
  cases there with
  | false =>
    as_aux_lemma =>
      cases ok with
      | false =>
        as_aux_lemma =>
          go_wp2
          go_ret
          exact ⟨rfl, BX.out⟩
      | true =>
        as_aux_lemma =>
          have SF2 := Lib.hid (SF.out rfl)
          obtain ⟨htb, hfu⟩ := TF.out rfl
          subst htb
          have HFU := Lib.hid hfu
          clear hfu SF TF
          obtain ⟨a5, c5, rfl, _, _, HP5⟩ := P5.out.parts
          obtain ⟨a1, c1, rfl, _, _, _⟩ := I1.out.parts
          obtain ⟨a2, c2, rfl, _, _, _⟩ := I2.out.parts
          go_wp2
          go_loopw [26] (fun j wr => ∃ k : Nat, k ≤ RDl.length ∧ j = .int .i64 (k : Int) ∧ Hid (Below w15.heap.size w15 wr)) (fun j _ => RDl.length - (intOf j).toNat)
          case atStart => exact ⟨0, by omega, rfl, Below.refl _ _⟩
          case round =>
            obtain ⟨k, hk, rfl, HBr⟩ := hrel
            by_cases hlt : k < RDl.length
            · have hdk : decide ((k : Int) < (RDl.length : Int)) = true := by simp; omega
              obtain ⟨s, hs⟩ := elem_at hlt
              obtain ⟨b, off, rfl, f0, f1⟩ := HP5.out k s hs.out
              have f0r := cell_later HBr.out f0
              have f1r := cell_later HBr.out f1
              obtain ⟨hfs, hkx⟩ := SF2.out s (List.mem_of_getElem? hs.out)
              have HFS := Lib.hid (fun W => FaultOfState_c s.1 s.2 W)
              rw [hfs] at HFS
              have HKX := Lib.hid hkx
              clear f0 f1 hfs hkx
              generalize stD s.1 s.2 = sd at *
              generalize stL s.1 s.2 = sl at *
              go_wp2_with fail
              refine (HFS.out _).mono ?_
              rintro e wa ⟨rfl, hba⟩
              have HBa := Lib.hid (Below.alc (Below.chain HBr.out hba) (.cells #[.int .i64 sd, .int .i64 sl] 44))
              have XF := Lib.hid (Bk.new wa 44 #[.int .i64 sd, .int .i64 sl])
              have I1a := Lib.hid (I1.out.below HBa.out)
              have I2a := Lib.hid (I2.out.below HBa.out)
              clear hba HFS f0r f1r
              go_wp2
              generalize hwo : wa.alloc (.cells #[.int .i64 sd, .int .i64 sl] 44) = wo at *
              generalize wa.heap.size = N at *
              go_loopw [29] (fun j wr => ∃ m : Nat, m ≤ ds.length ∧ j = .int .i64 (m : Int) ∧ Hid (Below wo.heap.size wo wr)) (fun j _ => ds.length - (intOf j).toNat)
              case atStart => exact ⟨0, by omega, rfl, Below.refl _ _⟩
              case round =>
                obtain ⟨m, hm, rfl, HBi⟩ := hrel
                by_cases hltm : m < ds.length
                · have hdm : decide ((m : Int) < (ds.length : Int)) = true := by simp; omega
                  obtain ⟨x, hx⟩ := elem_at hltm
                  obtain ⟨y, hy, hco, hsc⟩ := HKX.out m x hx.out
                  obtain ⟨_, _, he, _, _, H1⟩ := (I1a.out.below HBi.out).parts
                  cases he
                  obtain ⟨b1, o1, rfl, g1⟩ := H1.out m x hx.out
                  obtain ⟨_, _, he, _, _, H2⟩ := (I2a.out.below HBi.out).parts
                  cases he
                  obtain ⟨b2, o2, rfl, g2⟩ := H2.out m y hy
                  have hlm2 : m < cs.length := (List.getElem?_eq_some_iff.1 hy).1
                  have hdm2 : decide ((m : Int) < (cs.length : Int)) = true := by simp; omega
                  have CO := Lib.hid (fun W => CellOf_c x W)
                  rw [hco] at CO
                  have SC := Lib.hid (fun W => ShownCell_c sd sl (dg x) W)
                  rw [hsc] at SC
                  have XI := Lib.hid (XF.out.below HBi.out)
                  clear hco hsc H1 H2 hy
                  generalize dg x = dx at *
                  go_wp2_with fail
                  refine (CO.out _).mono ?_
                  rintro e wb ⟨rfl, hbb⟩
                  have g2b := cell_later hbb g2
                  have XJ := Lib.hid (XI.out.below hbb)
                  have HBb := Lib.hid (Below.chain HBi.out hbb)
                  obtain ⟨qa, qb, _, _⟩ := XJ.out.two'
                  clear hbb CO g1 g2 XI
                  go_wp2_with fail
                  refine (SC.out _).mono ?_
                  rintro e wc ⟨rfl, hbc⟩
                  have g2c := cell_later hbc g2b
                  have HBc := Lib.hid (Below.chain HBb.out hbc)
                  clear hbc SC g2b qa qb XJ HBb
                  go_wp2
                  go_roundw
                  case rel => exact ⟨m + 1, by omega, by go_num, HBc⟩
                  case measure => simp [intOf]; omega
                · obtain rfl : m = ds.length := by omega
                  have hdm : decide ((ds.length : Int) < (ds.length : Int)) = false := by simp
                  have HBn := Lib.hid (Below.chain HBa.out HBi.out)
                  go_wp2
                  go_roundw
                  case rel => exact ⟨k + 1, by omega, by go_num, HBn⟩
                  case measure => simp [intOf]; omega
            · obtain rfl : k = RDl.length := by omega
              have hdk : decide ((RDl.length : Int) < (RDl.length : Int)) = false := by simp
              have I1r := Lib.hid (I1.out.below HBr.out)
              have BX1 := Lib.hid (Below.chain BX.out HBr.out)
              have I15r := Lib.hid (I15.out.below HBr.out)
              have I16r := Lib.hid (I16.out.below HBr.out)
              clear I15 I16 HP5
              go_wp2_with fail
              refine (IF.out _ I1r.out).mono ?_
              rintro e wd ⟨rfl, hbd⟩
              have BX2 := Lib.hid (Below.chain BX1.out hbd)
              have I15 := Lib.hid (I15r.out.below hbd)
              have I16 := Lib.hid (I16r.out.below hbd)
              clear hbd I1r I15r I16r IF
              cases fu with
              | false =>
                as_aux_lemma =>
                  go_wp2
                  go_ret
                  exact ⟨rfl, BX2.out⟩
              | true =>
                as_aux_lemma =>
                  have hr1 := HFU.out rfl
                  have hd1 : decide (1 < (RDl.length : Int)) = false := by simp; omega
                  go_wp2
                  go_ret
                  exact ⟨rfl, BX2.out⟩
  | true =>
    as_aux_lemma =>
      obtain rfl : tv = true := hthere.out rfl
      cases ok with
      | false =>
        as_aux_lemma =>
          obtain ⟨g1, g2, g3, g4, g5, g6, g7, g8, g9⟩ := QF2.out (by trivial)
          have G3 := Lib.hid g3
          have VS1 := Lib.hid (fun W (h : Ints W u16 QL) => vSum_c u16 QL W h g8 (by omega))
          have VS2 := Lib.hid (fun W (h : Ints W v15 vq) => vSum_c v15 vq W h g7 g9)
          have hle : decide (lc ≤ cv) = true := by rw [g2]; exact decide_eq_true g4
          have G5 := Lib.hid g5
          rw [g6] at VS1
          generalize vq.sum = sv at *
          have HB := Lib.hid (BX.out)
          obtain ⟨a16, c16, rfl, _, _, _⟩ := I16.out.parts
          obtain ⟨a15, c15, rfl, _, _, _⟩ := I15.out.parts
          have hlen : ((QL.length : Int) == (vq.length : Int)) = true := by rw [g5]; simp
          clear g1 g2 g3 g4 g5 g6 g7 g8 QF2
          go_wp2_with fail
          refine (G3.out _ _ I16.out).mono ?_
          rintro e wx ⟨rfl, hbx⟩
          have HB2 := Lib.hid (Below.chain HB.out hbx)
          have J16 := Lib.hid (I16.out.below hbx)
          have J15 := Lib.hid (I15.out.below hbx)
          clear hbx I16 I15 G3
          go_wp2_with fail
          refine (VS1.out _ J16.out).mono ?_
          rintro e _ ⟨rfl, rfl⟩
          go_wp2_with fail
          refine (VS2.out _ J15.out).mono ?_
          rintro e _ ⟨rfl, rfl⟩
          go_wp2
          go_ret
          exact ⟨rfl, HB2.out⟩
      | true =>
        as_aux_lemma =>
          have SF2 := Lib.hid (SF.out rfl)
          obtain ⟨htb, hfu⟩ := TF.out rfl
          subst htb
          have HFU := Lib.hid hfu
          clear hfu SF TF
          obtain ⟨a5, c5, rfl, _, _, HP5⟩ := P5.out.parts
          obtain ⟨a1, c1, rfl, _, _, _⟩ := I1.out.parts
          obtain ⟨a2, c2, rfl, _, _, _⟩ := I2.out.parts
          go_wp2
          go_loopw [26] (fun j wr => ∃ k : Nat, k ≤ RDl.length ∧ j = .int .i64 (k : Int) ∧ Hid (Below w15.heap.size w15 wr)) (fun j _ => RDl.length - (intOf j).toNat)
          case atStart => exact ⟨0, by omega, rfl, Below.refl _ _⟩
          case round =>
            obtain ⟨k, hk, rfl, HBr⟩ := hrel
            by_cases hlt : k < RDl.length
            · have hdk : decide ((k : Int) < (RDl.length : Int)) = true := by simp; omega
              obtain ⟨s, hs⟩ := elem_at hlt
              obtain ⟨b, off, rfl, f0, f1⟩ := HP5.out k s hs.out
              have f0r := cell_later HBr.out f0
              have f1r := cell_later HBr.out f1
              obtain ⟨hfs, hkx⟩ := SF2.out s (List.mem_of_getElem? hs.out)
              have HFS := Lib.hid (fun W => FaultOfState_c s.1 s.2 W)
              rw [hfs] at HFS
              have HKX := Lib.hid hkx
              clear f0 f1 hfs hkx
              generalize stD s.1 s.2 = sd at *
              generalize stL s.1 s.2 = sl at *
              go_wp2_with fail
              refine (HFS.out _).mono ?_
              rintro e wa ⟨rfl, hba⟩
              have HBa := Lib.hid (Below.alc (Below.chain HBr.out hba) (.cells #[.int .i64 sd, .int .i64 sl] 44))
              have XF := Lib.hid (Bk.new wa 44 #[.int .i64 sd, .int .i64 sl])
              have I1a := Lib.hid (I1.out.below HBa.out)
              have I2a := Lib.hid (I2.out.below HBa.out)
              clear hba HFS f0r f1r
              go_wp2
              generalize hwo : wa.alloc (.cells #[.int .i64 sd, .int .i64 sl] 44) = wo at *
              generalize wa.heap.size = N at *
              go_loopw [29] (fun j wr => ∃ m : Nat, m ≤ ds.length ∧ j = .int .i64 (m : Int) ∧ Hid (Below wo.heap.size wo wr)) (fun j _ => ds.length - (intOf j).toNat)
              case atStart => exact ⟨0, by omega, rfl, Below.refl _ _⟩
              case round =>
                obtain ⟨m, hm, rfl, HBi⟩ := hrel
                by_cases hltm : m < ds.length
                · have hdm : decide ((m : Int) < (ds.length : Int)) = true := by simp; omega
                  obtain ⟨x, hx⟩ := elem_at hltm
                  obtain ⟨y, hy, hco, hsc⟩ := HKX.out m x hx.out
                  obtain ⟨_, _, he, _, _, H1⟩ := (I1a.out.below HBi.out).parts
                  cases he
                  obtain ⟨b1, o1, rfl, g1⟩ := H1.out m x hx.out
                  obtain ⟨_, _, he, _, _, H2⟩ := (I2a.out.below HBi.out).parts
                  cases he
                  obtain ⟨b2, o2, rfl, g2⟩ := H2.out m y hy
                  have hlm2 : m < cs.length := (List.getElem?_eq_some_iff.1 hy).1
                  have hdm2 : decide ((m : Int) < (cs.length : Int)) = true := by simp; omega
                  have CO := Lib.hid (fun W => CellOf_c x W)
                  rw [hco] at CO
                  have SC := Lib.hid (fun W => ShownCell_c sd sl (dg x) W)
                  rw [hsc] at SC
                  have XI := Lib.hid (XF.out.below HBi.out)
                  clear hco hsc H1 H2 hy
                  generalize dg x = dx at *
                  go_wp2_with fail
                  refine (CO.out _).mono ?_
                  rintro e wb ⟨rfl, hbb⟩
                  have g2b := cell_later hbb g2
                  have XJ := Lib.hid (XI.out.below hbb)
                  have HBb := Lib.hid (Below.chain HBi.out hbb)
                  obtain ⟨qa, qb, _, _⟩ := XJ.out.two'
                  clear hbb CO g1 g2 XI
                  go_wp2_with fail
                  refine (SC.out _).mono ?_
                  rintro e wc ⟨rfl, hbc⟩
                  have g2c := cell_later hbc g2b
                  have HBc := Lib.hid (Below.chain HBb.out hbc)
                  clear hbc SC g2b qa qb XJ HBb
                  go_wp2
                  go_roundw
                  case rel => exact ⟨m + 1, by omega, by go_num, HBc⟩
                  case measure => simp [intOf]; omega
                · obtain rfl : m = ds.length := by omega
                  have hdm : decide ((ds.length : Int) < (ds.length : Int)) = false := by simp
                  have HBn := Lib.hid (Below.chain HBa.out HBi.out)
                  go_wp2
                  go_roundw
                  case rel => exact ⟨k + 1, by omega, by go_num, HBn⟩
                  case measure => simp [intOf]; omega
            · obtain rfl : k = RDl.length := by omega
              have hdk : decide ((RDl.length : Int) < (RDl.length : Int)) = false := by simp
              have I1r := Lib.hid (I1.out.below HBr.out)
              have BX1 := Lib.hid (Below.chain BX.out HBr.out)
              have I15r := Lib.hid (I15.out.below HBr.out)
              have I16r := Lib.hid (I16.out.below HBr.out)
              clear I15 I16 HP5
              go_wp2_with fail
              refine (IF.out _ I1r.out).mono ?_
              rintro e wd ⟨rfl, hbd⟩
              have BX2 := Lib.hid (Below.chain BX1.out hbd)
              have I15 := Lib.hid (I15r.out.below hbd)
              have I16 := Lib.hid (I16r.out.below hbd)
              clear hbd I1r I15r I16r IF
              cases fu with
              | false =>
                as_aux_lemma =>
                  obtain ⟨g1, g2, g3, g4, g5, g6, g7, g8, g9⟩ := QF2.out (by trivial)
                  have G3 := Lib.hid g3
                  have VS1 := Lib.hid (fun W (h : Ints W u16 QL) => vSum_c u16 QL W h g8 (by omega))
                  have VS2 := Lib.hid (fun W (h : Ints W v15 vq) => vSum_c v15 vq W h g7 g9)
                  have hle : decide (lc ≤ cv) = true := by rw [g2]; exact decide_eq_true g4
                  have G5 := Lib.hid g5
                  rw [g6] at VS1
                  generalize vq.sum = sv at *
                  have HB := Lib.hid (BX2.out)
                  obtain ⟨a16, c16, rfl, _, _, _⟩ := I16.out.parts
                  obtain ⟨a15, c15, rfl, _, _, _⟩ := I15.out.parts
                  have hlen : ((QL.length : Int) == (vq.length : Int)) = true := by rw [g5]; simp
                  clear g1 g2 g3 g4 g5 g6 g7 g8 QF2
                  go_wp2_with fail
                  refine (G3.out _ _ I16.out).mono ?_
                  rintro e wx ⟨rfl, hbx⟩
                  have HB2 := Lib.hid (Below.chain HB.out hbx)
                  have J16 := Lib.hid (I16.out.below hbx)
                  have J15 := Lib.hid (I15.out.below hbx)
                  clear hbx I16 I15 G3
                  go_wp2_with fail
                  refine (VS1.out _ J16.out).mono ?_
                  rintro e _ ⟨rfl, rfl⟩
                  go_wp2_with fail
                  refine (VS2.out _ J15.out).mono ?_
                  rintro e _ ⟨rfl, rfl⟩
                  go_wp2
                  go_ret
                  exact ⟨rfl, HB2.out⟩
              | true =>
                as_aux_lemma =>
                  have hr1 := HFU.out rfl
                  have hd1 : decide (1 < (RDl.length : Int)) = false := by simp; omega
                  obtain ⟨g1, g2, g3, g4, g5, g6, g7, g8, g9⟩ := QF2.out (by trivial)
                  have G3 := Lib.hid g3
                  have VS1 := Lib.hid (fun W (h : Ints W u16 QL) => vSum_c u16 QL W h g8 (by omega))
                  have VS2 := Lib.hid (fun W (h : Ints W v15 vq) => vSum_c v15 vq W h g7 g9)
                  have hle : decide (lc ≤ cv) = true := by rw [g2]; exact decide_eq_true g4
                  have G5 := Lib.hid g5
                  rw [g6] at VS1
                  generalize vq.sum = sv at *
                  have HB := Lib.hid (BX2.out)
                  obtain ⟨a16, c16, rfl, _, _, _⟩ := I16.out.parts
                  obtain ⟨a15, c15, rfl, _, _, _⟩ := I15.out.parts
                  have hlen : ((QL.length : Int) == (vq.length : Int)) = true := by rw [g5]; simp
                  clear g1 g2 g3 g4 g5 g6 g7 g8 QF2
                  go_wp2_with fail
                  refine (G3.out _ _ I16.out).mono ?_
                  rintro e wx ⟨rfl, hbx⟩
                  have HB2 := Lib.hid (Below.chain HB.out hbx)
                  have J16 := Lib.hid (I16.out.below hbx)
                  have J15 := Lib.hid (I15.out.below hbx)
                  clear hbx I16 I15 G3
                  go_wp2_with fail
                  refine (VS1.out _ J16.out).mono ?_
                  rintro e _ ⟨rfl, rfl⟩
                  go_wp2_with fail
                  refine (VS2.out _ J15.out).mono ?_
                  rintro e _ ⟨rfl, rfl⟩
                  go_wp2
                  go_ret
                  exact ⟨rfl, HB2.out⟩
end Go.Proofs.YtfbnmkpkihfocaaGreat
