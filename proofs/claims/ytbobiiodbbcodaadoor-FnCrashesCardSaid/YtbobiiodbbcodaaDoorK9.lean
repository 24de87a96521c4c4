/- Texts of this claim, gathered: LwLCrashes. -/
import Derived.Test.YtbobiiodbbcodaaDoorK8
namespace Go.Proofs.YtbobiiodbbcodaaDoor
open Go.RowKit
set_option linter.unusedVariables false
set_option linter.unusedSimpArgs false
set_option maxRecDepth 100000
set_option maxHeartbeats 20000000 in
theorem FnCrashes_walk (v : Value) (xs : List Nat) (w : World) (h : Code w v xs) (htab : Tab w) :
    Calls Tryd.prog 4 #[v] w fun e w' => e = .returned (.bool true) ∧ Below w.heap.size w w' := by
  have HK := Lib.hid h
  obtain ⟨a, c, rfl, _⟩ := h
  have HV := Lib.hid (vBig_c _ _ _ HK.out)
  by_cases hbig : 65536 < xs.length
  · have hd : decide (65536 < xs.length) = true := decide_eq_true hbig
    go_enter Tryd.func4, Tryd.ntmps4
    go_wp2_with fail
    refine HV.out.mono ?_
    rintro e w1 ⟨rfl, rfl⟩
    go_wp2
    go_ret
    exact ⟨rfl, Below.refl _ _⟩
  have hd : decide (65536 < xs.length) = false := decide_eq_false hbig
  go_enter Tryd.func4, Tryd.ntmps4
  go_wp2_with fail
  refine HV.out.mono ?_
  rintro e _ ⟨rfl, rfl⟩
  have BX := Lib.hid (Below.refl w.heap.size w)
  have HT := Lib.hid htab
  clear htab
  have HDC := Lib.hid (DrawCrashLog_c _ xs _ HK.out)
  unfold logV at HDC
  go_wp2_with fail
  refine (HDC.out).mono ?_
  rintro e w1 ⟨d, p, n, keep, torn, rfl, hdp, hb1⟩
  replace BX := Lib.hid (Below.chain BX.out hb1)
  replace HK := Lib.hid (HK.out.below hb1)
  replace HT := Lib.hid (HT.out.below hb1)
  clear hb1
  clear HDC
  have al1 := Lib.hid (below_one (w := w1) (.cells #[.string d, .string p, .int .i64 n] 33))
  replace BX := Lib.hid (Below.alc BX.out (.cells #[.string d, .string p, .int .i64 n] 33))
  replace HK := Lib.hid (HK.out.below al1.out)
  replace HT := Lib.hid (HT.out.below al1.out)
  have X3 := Lib.hid (Bk.new w1 33 #[.string d, .string p, .int .i64 n])
  clear al1
  have CL1 := Lib.hid (fun W h => CrashLog_c d p n keep torn W (by omega) (by omega) h)
  have CL2 := Lib.hid (fun W => CrashLogS_c d p n keep torn W (by omega) (by omega))
  have LR := Lib.hid (fun W h => LogRecords_c d p n W (by omega) (by omega) h)
  unfold CrashOut logV at CL1 CL2
  unfold logV at LR
  obtain ⟨t, hte⟩ : ∃ t, t = crashT d p keep.toNat torn := ⟨_, rfl⟩
  rw [← hte] at CL1 CL2
  have HTE := Lib.hid hte
  clear hte
  obtain ⟨q0a, q0b, q0c, _, _, _⟩ := X3.out.three'
  go_wp2_with fail
  refine (CL1.out _ HT.out).mono ?_
  rintro e w2 ⟨ok1, rfl, hi1, hb2⟩
  replace BX := Lib.hid (Below.chain BX.out hb2)
  replace HK := Lib.hid (HK.out.below hb2)
  replace HT := Lib.hid (HT.out.below hb2)
  replace X3 := Lib.hid (X3.out.below hb2)
  clear hb2
  clear q0a q0b q0c
  have HI1 := Lib.hid hi1
  clear hi1
  generalize hu : (if ok1 = true then t else ⟨#[]⟩) = u at *
  have HU := Lib.hid hu
  clear hu
  obtain ⟨q0a, q0b, q0c, _, _, _⟩ := X3.out.three'
  go_wp2_with fail
  refine (CL2.out _).mono ?_
  rintro e w3 ⟨ok2, rfl, hi2, hb3⟩
  replace BX := Lib.hid (Below.chain BX.out hb3)
  replace HK := Lib.hid (HK.out.below hb3)
  replace HT := Lib.hid (HT.out.below hb3)
  replace X3 := Lib.hid (X3.out.below hb3)
  clear hb3
  clear q0a q0b q0c
  obtain rfl : ok1 = ok2 := ok_same HI1.out hi2
  rw [HU.out]
  clear hi2 CL1 CL2
  go_wp2_with fail
  refine (vCut_c 1 _ xs _ HK.out (by omega) (by decide)).mono ?_
  rintro e w4 ⟨vc1, ys1, rfl, hcy, _, hb4⟩
  replace BX := Lib.hid (Below.chain BX.out hb4)
  replace HK := Lib.hid (HK.out.below hb4)
  replace HT := Lib.hid (HT.out.below hb4)
  replace X3 := Lib.hid (X3.out.below hb4)
  have HY := Lib.hid (hcy)
  clear hb4
  clear hcy
  clear HK
  go_wp2_with fail
  refine (DrawRecoverLog_c _ ys1 _ HY.out).mono ?_
  rintro e w5 ⟨s, rfl, hs, hb5⟩
  replace BX := Lib.hid (Below.chain BX.out hb5)
  replace HT := Lib.hid (HT.out.below hb5)
  replace X3 := Lib.hid (X3.out.below hb5)
  replace HY := Lib.hid (HY.out.below hb5)
  clear hb5
  clear HY
  obtain ⟨D, N, A, f, hdet⟩ := recov_det s
  have R1 := Lib.hid (fun W h => (RecoverLog_c s W (by omega) h).mono fun e w' h => hdet W e w' h)
  have R2 := Lib.hid (fun W => (RecoverLogS_c s W (by omega)).mono fun e w' h => hdet W e w' h)
  unfold logV at R1 R2
  clear hdet
  go_wp2_with fail
  refine (R1.out _ HT.out).mono ?_
  rintro e w6 ⟨rfl, hb6⟩
  replace BX := Lib.hid (Below.chain BX.out hb6)
  replace HT := Lib.hid (HT.out.below hb6)
  replace X3 := Lib.hid (X3.out.below hb6)
  clear hb6
  have al1 := Lib.hid (below_one (w := w6) (.cells #[.string D, .string ⟨#[]⟩, .int .i64 N] 33))
  replace BX := Lib.hid (Below.alc BX.out (.cells #[.string D, .string ⟨#[]⟩, .int .i64 N] 33))
  replace HT := Lib.hid (HT.out.below al1.out)
  replace X3 := Lib.hid (X3.out.below al1.out)
  have X11 := Lib.hid (Bk.new w6 33 #[.string D, .string ⟨#[]⟩, .int .i64 N])
  clear al1
  go_wp2_with fail
  refine (R2.out _).mono ?_
  rintro e w7 ⟨rfl, hb7⟩
  replace BX := Lib.hid (Below.chain BX.out hb7)
  replace HT := Lib.hid (HT.out.below hb7)
  replace X3 := Lib.hid (X3.out.below hb7)
  replace X11 := Lib.hid (X11.out.below hb7)
  clear hb7
  have al1 := Lib.hid (below_one (w := w7) (.cells #[.string D, .string ⟨#[]⟩, .int .i64 N] 33))
  replace BX := Lib.hid (Below.alc BX.out (.cells #[.string D, .string ⟨#[]⟩, .int .i64 N] 33))
  replace HT := Lib.hid (HT.out.below al1.out)
  replace X3 := Lib.hid (X3.out.below al1.out)
  replace X11 := Lib.hid (X11.out.below al1.out)
  have X14 := Lib.hid (Bk.new w7 33 #[.string D, .string ⟨#[]⟩, .int .i64 N])
  clear al1
  clear R1 R2
  have e1 := str_eq (rfl : D = D)
  have e2 := str_eq (rfl : u = u)
  obtain ⟨p0, p1, p2, _, _, _⟩ := X11.out.three'
  obtain ⟨r0, r1, r2, _, _, _⟩ := X14.out.three'
  cases ok1 with
  | false =>
    as_aux_lemma =>
      go_wp2
      go_ret
      exact ⟨rfl, BX.out⟩
  | true =>
    obtain ⟨⟨es, hv⟩, k0, k1⟩ := HI1.out.1 (by trivial)
    have HV := Lib.hid hv
    clear hv HI1
    obtain rfl : t = u := by have := HU.out; simpa using this
    have hL : ∀ es2 rest, Opens t.data.toList es2 rest → CrashLaw d p keep torn t es es2 := fun es2 rest ho => by
      have := HTE.out
      subst this
      exact crash_told HV.out k0 k1 ho
    have HLAW := Lib.hid hL
    have ht : t.size ≤ 30000 := by
      have := HTE.out
      rw [this, crash_size (by omega)]
      have := HV.out.sz
      rw [List.length_append, ba_len, ba_len] at this
      omega
    have RT := Lib.hid (fun W h => (RecoverLog_c t W (by omega) h).mono fun e w' h => crash_open h ht)
    unfold recovV logV at RT
    clear hL HTE HU
    go_wp2_with fail
    refine (RT.out _ HT.out).mono ?_
    rintro e w101 ⟨es2, rest, ho, rfl, hb101⟩
    replace BX := Lib.hid (Below.chain BX.out hb101)
    replace HT := Lib.hid (HT.out.below hb101)
    replace X3 := Lib.hid (X3.out.below hb101)
    clear hb101
    have HC := Lib.hid (HLAW.out es2 rest ho)
    clear ho RT HLAW p0 p1 p2 r0 r1 r2 X11 X14
    have hend := HC.out.end1
    have hdur := HC.out.dur
    have hval := Lib.hid HC.out.val
    obtain ⟨x, hx⟩ := HC.out.pre
    have hall := HC.out.all
    have hlen : es2.length ≤ es.length := by rw [hx, List.length_append]; omega
    have HPR : Hid (es = es2 ++ x) := hx
    clear hx HC
    have hBs : (t.extract 0 (linesS 0 es2).length).size ≤ t.size := by rw [ByteArray.size_extract]; omega
    have hle := hval.out.le
    have hle2 := HV.out.le
    generalize t.extract 0 (linesS 0 es2).length = B at *
    generalize (linesS 0 es2).length = E at *
    have IV := Lib.hid (fun W h => (IsValidLog_c B ⟨#[]⟩ (es2.length : Int) W (by omega) (by decide) h).mono fun e w' h => val_yes h hval.out)
    have LB := Lib.hid (fun W h => (LogRecords_c B ⟨#[]⟩ (es2.length : Int) W (by omega) (by decide) h).mono fun e w' h => lrec_yes h hval.out)
    have LA := Lib.hid (fun W h => (LR.out W h).mono fun e w' h => lrec_yes h HV.out)
    unfold logV at IV LB
    clear hval LR HV
    have al1 := Lib.hid (below_one (w := w101) (.cells #[.string B, .string ⟨#[]⟩, .int .i64 (es2.length : Int)] 33))
    replace BX := Lib.hid (Below.alc BX.out (.cells #[.string B, .string ⟨#[]⟩, .int .i64 (es2.length : Int)] 33))
    replace HT := Lib.hid (HT.out.below al1.out)
    replace X3 := Lib.hid (X3.out.below al1.out)
    have X17 := Lib.hid (Bk.new w101 33 #[.string B, .string ⟨#[]⟩, .int .i64 (es2.length : Int)])
    clear al1
    obtain ⟨q0a, q0b, q0c, _, _, _⟩ := X17.out.three'
    obtain ⟨q1a, q1b, q1c, _, _, _⟩ := X3.out.three'
    go_wp2_with fail
    refine (IV.out _ HT.out).mono ?_
    rintro e w102 ⟨rfl, hb102⟩
    replace BX := Lib.hid (Below.chain BX.out hb102)
    replace HT := Lib.hid (HT.out.below hb102)
    replace X3 := Lib.hid (X3.out.below hb102)
    replace X17 := Lib.hid (X17.out.below hb102)
    clear hb102
    clear q0a q0b q0c q1a q1b q1c
    obtain ⟨q0a, q0b, q0c, _, _, _⟩ := X17.out.three'
    obtain ⟨q1a, q1b, q1c, _, _, _⟩ := X3.out.three'
    go_wp2_with fail
    refine (LA.out _ HT.out).mono ?_
    rintro e w103 ⟨aa, ca, rfl, hsa, hca, hca2, hb103⟩
    replace BX := Lib.hid (Below.chain BX.out hb103)
    replace HT := Lib.hid (HT.out.below hb103)
    replace X3 := Lib.hid (X3.out.below hb103)
    replace X17 := Lib.hid (X17.out.below hb103)
    have SA := Lib.hid (hsa)
    clear hb103
    clear q0a q0b q0c q1a q1b q1c
    clear hsa LA IV
    obtain ⟨q0a, q0b, q0c, _, _, _⟩ := X17.out.three'
    go_wp2_with fail
    refine (LB.out _ HT.out).mono ?_
    rintro e w104 ⟨ab, cb, rfl, hsb, hcb, hcb2, hb104⟩
    replace BX := Lib.hid (Below.chain BX.out hb104)
    replace HT := Lib.hid (HT.out.below hb104)
    replace X3 := Lib.hid (X3.out.below hb104)
    replace X17 := Lib.hid (X17.out.below hb104)
    replace SA := Lib.hid (SA.out.below hb104)
    have SB := Lib.hid (hsb)
    clear hb104
    clear q0a q0b q0c
    clear hsb LB
    have SP := Lib.hid (Sl.pre2 (es := es2) (t := x) (n := es.length) (a := aa) (c := ca) (by rw [← HPR.out]; exact SA.out))
    have VR := Lib.hid (fun W h1 h2 => vRecords_c (.slice ab es2.length cb) (.slice aa es2.length ca) es2 W h1 h2)
    obtain ⟨q0, q1, q2, _, _, _⟩ := X3.out.three'
    clear SA HPR
    go_wp2_with fail
    refine (VR.out _ SB.out SP.out).mono ?_
    rintro e wl ⟨rfl, hbl⟩
    replace BX := Lib.hid (Below.chain BX.out hbl)
    replace q1 := cell_later hbl q1
    clear q0 q2 hbl SB SP VR X3 X17 HT
    cases torn with
    | true =>
      go_wp2
      go_ret
      exact ⟨rfl, BX.out⟩
    | false =>
      by_cases hkp : keep < (p.size : Int)
      · have hkd : decide (keep < (p.size : Int)) = true := decide_eq_true hkp
        go_wp2
        go_ret
        exact ⟨rfl, BX.out⟩
      · have hkd : decide (keep < (p.size : Int)) = false := decide_eq_false hkp
        have hee := hall rfl (by omega)
        clear hall
        rw [hee] at *
        go_wp2
        go_ret
        exact ⟨rfl, BX.out⟩
end Go.Proofs.YtbobiiodbbcodaaDoor
