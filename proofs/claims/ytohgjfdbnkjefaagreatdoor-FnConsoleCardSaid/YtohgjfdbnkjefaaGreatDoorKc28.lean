import Derived.Test.YtohgjfdbnkjefaaGreatDoorKc27
open Go.Lib (hid)
namespace Go.Proofs.YtohgjfdbnkjefaaGreatDoor
open Go.RowKit
set_option linter.unusedVariables false
set_option linter.unusedSimpArgs false
set_option maxRecDepth 100000
theorem exI_let {c : Cst} (h : c.ok) (hb : c.b.length = 19) (line : ByteArray) (hl : line.size ≤ 1048576) (W : World) (hW : TabC W) : Calls Tryz.prog 13 #[.agg (csC c.b c.d c.p c.n).toArray, .string line] W fun e w' => e = .returned (.tuple #[.agg (csC (stepV true c line).1.b (stepV true c line).1.d (stepV true c line).1.p (stepV true c line).1.n).toArray, .string (bs (stepV true c line).2)]) ∧ Below W.heap.size W w' :=
 (ExecuteCommand_c c line W (ok_fit hb h) hl hW).mono fun e w' ho => ex_yes h ho
set_option maxHeartbeats 32000000 in
theorem FnConsole_walk (v : Value) (xs : List Nat) (w : World) (h : Code w v xs) (ht : TabC w) :
 Calls Tryz.prog 7 #[v] w fun e w' => e = .returned (.bool true) ∧ Below w.heap.size w w' := by
 have HK := hid h
 have HT := hid ht
 clear ht
 obtain ⟨a, c, rfl, _⟩ := h
 have HV := hid (vBig_c _ _ _ HK.out)
 by_cases hbig : 65536 < xs.length
 · have hd : decide (65536 < xs.length) = true := decide_eq_true hbig
   go_enter Tryz.func7, Tryz.ntmps7
   go_wp2_with fail
   refine HV.out.mono ?_
   rintro e w1 ⟨rfl, rfl⟩
   go_wp2
   go_ret
   exact ⟨rfl, Below.refl _ _⟩
 have hd : decide (65536 < xs.length) = false := decide_eq_false hbig
 go_enter Tryz.func7, Tryz.ntmps7
 go_wp2_with fail
 refine HV.out.mono ?_
 rintro e _ ⟨rfl, rfl⟩
 go_wp2_with fail
 refine (DrawNewConsole_c _ _ _ HK.out).mono ?_
 rintro e w1 ⟨b, hb, rfl, hb1⟩
 have t1 := there_new w1 zBA 26 (n := 19) (by decide)
 have K3 : Hid (Bk ((w1.alloc (.cells zBA 26)).setCells w1.heap.size 0 (ints b)) w1.heap.size 26 (ints b).toArray) := Bk.putB (b := zeroI) (Bk.new w1 26 zBA) zero_len hb
 have BX := hid (below_box (Below.refl w.heap.size w) hb1 zBA 26 (ints b))
 clear hb1
 unfold zBA at *
 go_upto_region 4 with (refine wpList_storeB rfl _ _ rfl _ b rfl rfl ?_ hb ?_; exact t1)
 generalize World.setCells _ _ _ _ = w2 at *
 generalize w1.heap.size = g3 at *
 clear t1
 have HN := hid (fun W => NewConsole_c b W hb)
 have HM := hid (fun W => sNewConsole_c b W hb)
 unfold ncV aggI at HN HM
 have hl1 : (ncB b).length = 19 := by unfold ncB; split; exact hb; exact zero_len
 generalize ncB b = b1 at *
 generalize goodB b = okn at *
 go_wp2_with (refine wpList_loadB rfl _ rfl _ rfl b ?_ hb ?_; exact K3.out.range)
 refine (HN.out _).mono ?_
 rintro e w3 ⟨rfl, hb3⟩
 have rt := (Bk.newC w3).thereZ
 have K4 : Hid (Bk ((w3.alloc (.cells zCA 31)).setCells w3.heap.size 0 (csC b1 ByteArray.empty ByteArray.empty 0)) w3.heap.size 31 (csC b1 ByteArray.empty ByteArray.empty 0).toArray) := Bk.putC (Bk.newC w3) zero_len hl1
 replace K3 := hid (box_far K3.out hb3 zCA 31 (csC b1 ByteArray.empty ByteArray.empty 0))
 replace BX := hid (below_box BX.out hb3 zCA 31 (csC b1 ByteArray.empty ByteArray.empty 0))
 clear hb3
 unfold zCA at *
 go_upto_region 5 with (refine wpList_storeC rfl _ _ rfl _ b1 ByteArray.empty ByteArray.empty 0 rfl rfl ?_ hl1 ?_; exact rt)
 generalize World.setCells _ _ _ _ = w4 at *
 generalize w3.heap.size = g4 at *
 clear rt
 go_wp2_with (refine wpList_loadB rfl _ rfl _ rfl b ?_ hb ?_; exact K3.out.range)
 refine (HM.out _).mono ?_
 rintro e w5 ⟨rfl, hb3⟩
 have rt := (Bk.newC w5).thereZ
 have K6 : Hid (Bk ((w5.alloc (.cells zCA 31)).setCells w5.heap.size 0 (csC b1 ByteArray.empty ByteArray.empty 0)) w5.heap.size 31 (csC b1 ByteArray.empty ByteArray.empty 0).toArray) := Bk.putC (Bk.newC w5) zero_len hl1
 replace K3 := hid (box_far K3.out hb3 zCA 31 (csC b1 ByteArray.empty ByteArray.empty 0))
 replace K4 := hid (box_far K4.out hb3 zCA 31 (csC b1 ByteArray.empty ByteArray.empty 0))
 replace BX := hid (below_box BX.out hb3 zCA 31 (csC b1 ByteArray.empty ByteArray.empty 0))
 clear hb3
 unfold zCA at *
 go_upto_region 6 with (refine wpList_storeC rfl _ _ rfl _ b1 ByteArray.empty ByteArray.empty 0 rfl rfl ?_ hl1 ?_; exact rt)
 generalize World.setCells _ _ _ _ = w6 at *
 generalize w5.heap.size = g6 at *
 clear rt
 clear HN HM K3
 go_wp2_with fail
 refine (vCut_c 1 _ xs _ (HK.out.below BX.out) (by omega) (by decide)).mono ?_
 rintro e w7 ⟨v1, ys1, rfl, hC, _, hb3⟩
 replace BX := hid (Below.chain BX.out hb3)
 replace K4 := hid (K4.out.below hb3)
 replace K6 := hid (K6.out.below hb3)
 clear hb3
 go_wp2_with (fail)
 refine (DrawIsValidConsole_c _ _ _ hC).mono ?_
 rintro e w8 ⟨c1, hf1, rfl, hb3⟩
 clear hC
 have hfb1 := hf1.hb
 have rt := (Bk.newC w8).thereZ
 have K8 : Hid (Bk ((w8.alloc (.cells zCA 31)).setCells w8.heap.size 0 (csC c1.b c1.d c1.p c1.n)) w8.heap.size 31 (csC c1.b c1.d c1.p c1.n).toArray) := Bk.putC (Bk.newC w8) zero_len hfb1
 replace K4 := hid (box_far K4.out hb3 zCA 31 (csC c1.b c1.d c1.p c1.n))
 replace K6 := hid (box_far K6.out hb3 zCA 31 (csC c1.b c1.d c1.p c1.n))
 replace BX := hid (below_box BX.out hb3 zCA 31 (csC c1.b c1.d c1.p c1.n))
 clear hb3
 unfold zCA at *
 go_upto_region 7 with (refine wpList_storeC rfl _ _ rfl _ c1.b c1.d c1.p c1.n rfl rfl ?_ hfb1 ?_; exact rt)
 generalize World.setCells _ _ _ _ = w9 at *
 generalize w8.heap.size = g8 at *
 clear rt
 go_wp2_with fail
 refine (vCut_c 2 _ xs _ (HK.out.below BX.out) (by omega) (by decide)).mono ?_
 rintro e w10 ⟨v2, ys2, rfl, hC, _, hb3⟩
 replace BX := hid (Below.chain BX.out hb3)
 replace K4 := hid (K4.out.below hb3)
 replace K6 := hid (K6.out.below hb3)
 replace K8 := hid (K8.out.below hb3)
 clear hb3
 go_wp2_with (fail)
 refine (DrawExecuteCommand_c _ _ _ hC).mono ?_
 rintro e w11 ⟨c2, line, hf2, hln, rfl, hb3⟩
 clear hC
 have hfb2 := hf2.hb
 have rt := (Bk.newC w11).thereZ
 have K9 : Hid (Bk ((w11.alloc (.cells zCA 31)).setCells w11.heap.size 0 (csC c2.b c2.d c2.p c2.n)) w11.heap.size 31 (csC c2.b c2.d c2.p c2.n).toArray) := Bk.putC (Bk.newC w11) zero_len hfb2
 replace K4 := hid (box_far K4.out hb3 zCA 31 (csC c2.b c2.d c2.p c2.n))
 replace K6 := hid (box_far K6.out hb3 zCA 31 (csC c2.b c2.d c2.p c2.n))
 replace K8 := hid (box_far K8.out hb3 zCA 31 (csC c2.b c2.d c2.p c2.n))
 replace BX := hid (below_box BX.out hb3 zCA 31 (csC c2.b c2.d c2.p c2.n))
 clear hb3
 unfold zCA at *
 go_upto_region 8 with (refine wpList_storeC rfl _ _ rfl _ c2.b c2.d c2.p c2.n rfl rfl ?_ hfb2 ?_; exact rt)
 generalize World.setCells _ _ _ _ = w12 at *
 generalize w11.heap.size = g9 at *
 clear rt
 obtain ⟨ok, hok, hdet⟩ := ex_det c2 line
 have HX : Hid (∀ W, TabC W → Calls Tryz.prog 13 #[.agg (csC c2.b c2.d c2.p c2.n).toArray, .string line] W fun e w' => e = .returned (.tuple #[.agg (csC (stepV ok c2 line).1.b (stepV ok c2 line).1.d (stepV ok c2 line).1.p (stepV ok c2 line).1.n).toArray, .string (bs (stepV ok c2 line).2)]) ∧ Below W.heap.size W w') := fun W hW =>
  (ExecuteCommand_c c2 line W hf2 (by omega) hW).mono fun e w' h => hdet W e w' h
 have HY : Hid (∀ W, Calls Tryz.prog 29 #[.agg (csC c2.b c2.d c2.p c2.n).toArray, .string line] W fun e w' => e = .returned (.tuple #[.agg (csC (stepV ok c2 line).1.b (stepV ok c2 line).1.d (stepV ok c2 line).1.p (stepV ok c2 line).1.n).toArray, .string (bs (stepV ok c2 line).2)]) ∧ Below W.heap.size W w') := fun W =>
  (ExecuteCommandS_c c2 line W hf2 (by omega)).mono fun e w' h => hdet W e w' h
 have hfN := stepV_fit line hf2 hok.1
 have HSAME : Hid (bs (stepV ok c2 line).2 = ⟨#[63]⟩ → (stepV ok c2 line).1.b = c2.b) := fun h => step_same (by rw [← bs_list (stepV ok c2 line).2, h])
 have HCNT : Hid (ok = true → (stepV ok c2 line).1.n = c2.n + 1 → ∃ es, ValidL (stepV ok c2 line).1.d.data.toList (stepV ok c2 line).1.p.data.toList (stepV ok c2 line).1.n (es ++ [(line.data.toList, (stepV ok c2 line).2)])) := fun h hn => by subst h; exact step_count hf2.hb (hok.1 rfl) hn
 have HNOK : Hid (ok = true → (stepV ok c2 line).1.ok) := fun h => by subst h; exact (stepV_ok line hf2.hb (hok.1 rfl)).2
 clear hdet
 obtain ⟨T, hT⟩ : ∃ T, (stepV ok c2 line).2 = T := ⟨_, rfl⟩
 rw [hT] at HX HY HSAME HCNT
 generalize (stepV ok c2 line).1 = N at *
 clear hT
 have hfbN := hfN.hb
 go_wp2_with (refine wpList_loadC rfl _ rfl _ rfl c2.b c2.d c2.p c2.n ?_ hfb2 ?_; exact K9.out.range)
 refine (HX.out _ (HT.out.on BX.out)).mono ?_
 rintro e w13 ⟨rfl, hb3⟩
 have rt := (Bk.newC w13).thereZ
 have K11 : Hid (Bk ((w13.alloc (.cells zCA 31)).setCells w13.heap.size 0 (csC N.b N.d N.p N.n)) w13.heap.size 31 (csC N.b N.d N.p N.n).toArray) := Bk.putC (Bk.newC w13) zero_len hfbN
 replace K4 := hid (box_far K4.out hb3 zCA 31 (csC N.b N.d N.p N.n))
 replace K6 := hid (box_far K6.out hb3 zCA 31 (csC N.b N.d N.p N.n))
 replace K8 := hid (box_far K8.out hb3 zCA 31 (csC N.b N.d N.p N.n))
 replace K9 := hid (box_far K9.out hb3 zCA 31 (csC N.b N.d N.p N.n))
 replace BX := hid (below_box BX.out hb3 zCA 31 (csC N.b N.d N.p N.n))
 clear hb3
 unfold zCA at *
 go_upto_region 9 with (refine wpList_storeC rfl _ _ rfl _ N.b N.d N.p N.n rfl rfl ?_ hfbN ?_; exact rt)
 generalize World.setCells _ _ _ _ = w14 at *
 generalize w13.heap.size = g11 at *
 clear rt
 go_wp2_with (refine wpList_loadC rfl _ rfl _ rfl c2.b c2.d c2.p c2.n ?_ hfb2 ?_; exact K9.out.range)
 refine (HY.out _).mono ?_
 rintro e w15 ⟨rfl, hb3⟩
 have rt := (Bk.newC w15).thereZ
 have K13 : Hid (Bk ((w15.alloc (.cells zCA 31)).setCells w15.heap.size 0 (csC N.b N.d N.p N.n)) w15.heap.size 31 (csC N.b N.d N.p N.n).toArray) := Bk.putC (Bk.newC w15) zero_len hfbN
 replace K4 := hid (box_far K4.out hb3 zCA 31 (csC N.b N.d N.p N.n))
 replace K6 := hid (box_far K6.out hb3 zCA 31 (csC N.b N.d N.p N.n))
 replace K8 := hid (box_far K8.out hb3 zCA 31 (csC N.b N.d N.p N.n))
 replace K9 := hid (box_far K9.out hb3 zCA 31 (csC N.b N.d N.p N.n))
 replace K11 := hid (box_far K11.out hb3 zCA 31 (csC N.b N.d N.p N.n))
 replace BX := hid (below_box BX.out hb3 zCA 31 (csC N.b N.d N.p N.n))
 clear hb3
 unfold zCA at *
 go_upto_region 10 with (refine wpList_storeC rfl _ _ rfl _ N.b N.d N.p N.n rfl rfl ?_ hfbN ?_; exact rt)
 generalize World.setCells _ _ _ _ = w16 at *
 generalize w15.heap.size = g13 at *
 clear rt
 clear HX HY
 have HVC := hid (fun W => vConsole_c b1 ByteArray.empty ByteArray.empty 0 W hl1)
 have HVN := hid (fun W => vConsole_c N.b N.d N.p N.n W hfbN)
 obtain ⟨k1, _, hI1, hI2⟩ := consV_det c1 hf1
 have HI1 := hid hI1
 have HI2 := hid hI2
 have hqo : (okn != okn) = false := by simp
 have hq1 : (k1 != k1) = false := by simp
 generalize hTX : bs T = TX at *
 have HTX := hid hTX
 have eT := str_eq (rfl : TX = TX)
 have nT : (TX.toList != TX.toList) = false := by simp
 clear hI1 hI2 hTX
 go_cut [89] (fun s89 wx => s89 = .bool false ∧ Hid (Below w16.heap.size w16 wx))
 case first =>
  have F := (Below.refl w16.heap.size w16).drew
  refine wp_region_held_drew (S := fun w' : World => Below w16.heap.size w16 w') (by kernel_rfl) F (fun hHeld => ?_)
  generalize World.drew _ = wd at *
  repeat' first
   | refine' tkZ 0 hHeld ?_
   | refine' tkZ 1 hHeld ?_
   | refine' tkZ 2 hHeld ?_
   | refine' tkZ 3 hHeld ?_
   | refine' tkZ 7 hHeld ?_
   | refine' tkZ 8 hHeld ?_
   | refine' tkZ 9 hHeld ?_
   | refine' tkZ 14 hHeld ?_
   | refine' tkZ 15 hHeld ?_
   | refine' tkZ 16 hHeld ?_
   | refine' tkZ 17 hHeld ?_
   | refine' tkZ 18 hHeld ?_
   | refine' tkZ 19 hHeld ?_
   | refine' tkZ 20 hHeld ?_
   | refine' tkZ 21 hHeld ?_
   | refine' tkZ 25 hHeld ?_
   | refine' tkZ 26 hHeld ?_
   | refine' tkL 4 hHeld (cs := csC b1 ByteArray.empty ByteArray.empty 0) (fun w' (h : Below w16.heap.size w16 w') => (K4.out.below h).range) Tryz.underlying31 (by rw [csC_len hl1]; kernel_rfl) ?_
   | refine' tkL 5 hHeld (cs := csC b1 ByteArray.empty ByteArray.empty 0) (fun w' (h : Below w16.heap.size w16 w') => (K6.out.below h).range) Tryz.underlying31 (by rw [csC_len hl1]; kernel_rfl) ?_
   | refine' tkL 10 hHeld (cs := csC c1.b c1.d c1.p c1.n) (fun w' (h : Below w16.heap.size w16 w') => (K8.out.below h).range) Tryz.underlying31 (by rw [csC_len hfb1]; kernel_rfl) ?_
   | refine' tkL 12 hHeld (cs := csC c1.b c1.d c1.p c1.n) (fun w' (h : Below w16.heap.size w16 w') => (K8.out.below h).range) Tryz.underlying31 (by rw [csC_len hfb1]; kernel_rfl) ?_
   | refine' tkL 22 hHeld (cs := csC N.b N.d N.p N.n) (fun w' (h : Below w16.heap.size w16 w') => (K11.out.below h).range) Tryz.underlying31 (by rw [csC_len hfbN]; kernel_rfl) ?_
   | refine' tkL 23 hHeld (cs := csC N.b N.d N.p N.n) (fun w' (h : Below w16.heap.size w16 w') => (K13.out.below h).range) Tryz.underlying31 (by rw [csC_len hfbN]; kernel_rfl) ?_
   | (refine wpAnyH_done (by decide +kernel) ?_ _
      go_wp2_with fail
      go_meet
      exact ⟨rfl, F⟩)
   | ((first
        | refine rdyS [6] (rdy ?_ .nil)
        | refine rdyS [11, 13] (rdy ?_ (rdy ?_ .nil))
        | refine rdyS [11] (rdy ?_ .nil)
        | refine rdyS [13] (rdy ?_ .nil)
        | refine rdyS [24] (rdy ?_ .nil)) <;>
      (intro K hK
       go_simp
       first
        | with_reducible refine (HVC.out _).mono ?_
        | (with_reducible refine (HI1.out _ ?_).mono ?_
           · exact (HT.out.on (Below.chain BX.out F)).pow)
        | with_reducible refine (HI2.out _).mono ?_
        | with_reducible refine (HVN.out _).mono ?_
       rintro e wd ⟨rfl, hb2⟩
       replace F := Below.chain F hb2
       refine hK.out _ _ F fun hHeld => nrm ?_
       clear hK K hb2))
 case rest =>
  obtain ⟨rfl, HF⟩ := hcut
  replace K9 := hid (K9.out.below HF.out)
  replace K11 := hid (K11.out.below HF.out)
  replace BX := hid (Below.chain BX.out HF.out)
  clear HF K4 K6 K8 K13 HVC HVN HI1 HI2
  obtain ⟨k2, hk2, hI3, _⟩ := consV_det c2 hf2
  obtain rfl : k2 = ok := by
   have h2 : k2 = true ↔ ok = true := hk2.trans hok.symm
   cases k2 <;> cases ok <;> simp_all
  have HI3 := hid hI3
  have hcn : Hid (k2 = true → 0 ≤ c2.n ∧ c2.n ≤ 60) := fun h => by
   obtain ⟨_, es, hv⟩ := hk2.1 h
   have := hv.cnt
   have := hv.le
   omega
  clear hI3 hqo hq1 hok hk2
  generalize hW : wc = wk at *
  clear hW
  go_upto_region 12 with fail
  go_cut [101] (fun s101 wx => ∃ q : Bool, s101 = .bool q ∧ Hid (q = true → k2 = true ∧ N.n = c2.n + 1) ∧ Hid (Below wk.heap.size wk wx))
  case first =>
   go_wp2_with (refine wpList_loadC rfl _ rfl _ rfl c2.b c2.d c2.p c2.n ?_ hfb2 ?_; exact K9.out.range)
   refine (HI3.out _ (HT.out.on BX.out).pow).mono ?_
   rintro e w20 ⟨rfl, hb3⟩
   have z9 : w20.cell? ⟨g9, 21, none⟩ = some (.int .i64 c2.n) := by rw [(K9.out.below hb3).cell 21, List.getElem?_toArray]; exact (csC_at hfb2).2.2
   have z11 : w20.cell? ⟨g11, 21, none⟩ = some (.int .i64 N.n) := by rw [(K11.out.below hb3).cell 21, List.getElem?_toArray]; exact (csC_at hfbN).2.2
   have HB := hid hb3
   clear hb3
   cases k2 with
   | false =>
    go_wp2_with fail
    go_meet
    exact ⟨false, rfl, (fun h => by cases h), HB⟩
   | true =>
    have hcn2 := hcn.out rfl
    obtain ⟨mm, hmm⟩ : ∃ mm, c2.n + 1 = mm := ⟨_, rfl⟩
    have hmw : IntKind.i64.wrap (c2.n + 1) = mm := by rw [← hmm]; exact IntWalk.i64_in _ (by omega)
    have HMM := hid hmm
    clear hmm
    rcases hq : (N.n == mm) with _ | _
    · go_wp2_with fail
      go_meet
      exact ⟨false, rfl, (fun h => by cases h), HB⟩
    · have HQ : Hid (N.n = c2.n + 1) := by show _ = _; rw [HMM.out]; simpa using hq
      go_wp2_with fail
      go_meet
      exact ⟨true, rfl, fun _ => ⟨by first | rfl | trivial, HQ.out⟩, HB⟩
  case rest =>
   obtain ⟨q, rfl, HQ, HF⟩ := hcut
   replace K9 := hid (K9.out.below HF.out)
   replace K11 := hid (K11.out.below HF.out)
   replace BX := hid (Below.chain BX.out HF.out)
   clear HF HI3
   generalize hW : wc = wj at *
   clear hW
   go_upto_if 101 with fail
   go_cut [15, 16] (fun s15 s16 wx => Hid (Below w.heap.size w wx))
   case first =>
    cases q with
    | false =>
     go_wp2_with fail
     go_meet
     exact BX
    | true =>
     obtain ⟨hk2, hn⟩ := HQ.out rfl
     subst hk2
     obtain ⟨es0, hv0⟩ := HCNT.out rfl hn
     obtain ⟨es, okl, _, huq, hdet⟩ := lrec_det N.d N.p N.n
     have hes := huq _ hv0
     subst hes
     obtain ⟨k3, hk3, hI4, _⟩ := consV_det N hfN
     have hk3 := hk3.2 (HNOK.out rfl)
     subst hk3
     have HI4 := hid hI4
     have HLR := hid (fun W h => (LogRecords_c N.d N.p N.n W hfN.hd hfN.hp h).mono fun e w' h => hdet W e w' h)
     unfold logV at HLR
     obtain ⟨l, hl⟩ : ∃ l, (es0 ++ [(line.data.toList, T)]).length = l + 1 := ⟨es0.length, by simp⟩
     have hx : (es0 ++ [(line.data.toList, T)])[l]? = some (line.data.toList, T) := by
      have : es0.length = l := by simpa using hl
      rw [← this]; simp
     have hl60 : l ≤ 60 := by have := hv0.le; omega
     rw [hl] at HLR
     have HX := hid hx
     generalize es0 ++ [(line.data.toList, T)] = es at *
     have z19 : wj.cell? ⟨g11, 19, none⟩ = some (.string N.d) := by rw [K11.out.cell 19, List.getElem?_toArray]; exact (csC_at hfbN).1
     have z20 : wj.cell? ⟨g11, 20, none⟩ = some (.string N.p) := by rw [K11.out.cell 20, List.getElem?_toArray]; exact (csC_at hfbN).2.1
     have z21 : wj.cell? ⟨g11, 21, none⟩ = some (.int .i64 N.n) := by rw [K11.out.cell 21, List.getElem?_toArray]; exact (csC_at hfbN).2.2
     have hw0 : IntKind.i64.wrap (l : Int) = (l : Int) := IntWalk.i64_in _ (by omega)
     have hl0 : (0 : Int) ≤ (l : Int) := by omega
     have hl1 : (l : Int) < (l : Int) + 1 := by omega
     have eL := str_eq (rfl : line = line)
     have nL : (line.toList != line.toList) = false := by simp
     clear hx hn hv0 huq hdet hk3 hI4 hl
     go_wp2_with fail
     refine (HLR.out _ (HT.out.on BX.out).pow).mono ?_
     rintro e w21 ⟨la, lc, rfl, hsl, _, _, hb3⟩
     replace K9 := hid (K9.out.below hb3)
     replace K11 := hid (K11.out.below hb3)
     replace BX := hid (Below.chain BX.out hb3)
     have HSL := hid hsl
     clear hsl hb3 z19 z20 z21 HLR
     go_wp2_with (refine wpList_loadC rfl _ rfl _ rfl N.b N.d N.p N.n ?_ hfbN ?_; exact K11.out.range)
     refine (HI4.out _ (HT.out.on BX.out).pow).mono ?_
     rintro e w22 ⟨rfl, hb3⟩
     replace K9 := hid (K9.out.below hb3)
     replace K11 := hid (K11.out.below hb3)
     replace BX := hid (Below.chain BX.out hb3)
     obtain ⟨_, _, hse, _, HE⟩ := (HSL.out.below hb3).parts2
     injection hse with ha _ hc
     subst ha hc
     obtain ⟨ab, ao, rfl, f1, f2⟩ := HE.out l (by omega)
     rw [(flatR_at HX.out).1] at f1
     rw [(flatR_at HX.out).2] at f2
     simp only [bs_of, HTX.out] at f1 f2
     clear hb3 HE HSL HI4 HX
     rcases h63 : (TX.toList == [63]) with _ | _
     · go_wp2_with fail
       go_meet
       exact BX
     · have hbb : N.b = c2.b := HSAME.out (by
        have h2 : TX.toList = [63] := by simpa using h63
        rw [Lib.toList_data] at h2
        rw [← bs_of TX, h2]; rfl)
       have rb11 := csC_bench K11.out.range hfbN
       rw [hbb] at rb11
       have rb9 := csC_bench K9.out.range hfb2
       have eqB := fun W => bench_equal hfb2 W
       have eqG := bench_guard
       clear hbb
       go_wp2_with (first | (refine wpList_loadB rfl _ rfl g11 rfl c2.b rb11 hfb2 ?_) | (refine wpList_loadB rfl _ rfl g9 rfl c2.b rb9 hfb2 ?_))
       go_meet
       exact BX
   case rest =>
    replace BX := hid hcut.out
    clear hcut K9 K11 HQ HCNT HNOK HSAME HTX hcn
    generalize hW : wc = wl at *
    clear hW
    go_wp2_with fail
    refine (vCut_c 3 _ xs _ (HK.out.below BX.out) (by omega) (by decide)).mono ?_
    rintro e w30 ⟨v3, ys3, rfl, hC, _, hb3⟩
    replace BX := hid (Below.chain BX.out hb3)
    clear hb3
    go_wp2_with fail
    refine (DrawRunScript_c _ _ _ hC).mono ?_
    rintro e w31 ⟨c3, tx, hf3, htx, rfl, hb3⟩
    have hfb3 := hf3.hb
    have rt := (Bk.newC w31).thereZ
    have K17 : Hid (Bk ((w31.alloc (.cells zCA 31)).setCells w31.heap.size 0 (csC c3.b c3.d c3.p c3.n)) w31.heap.size 31 (csC c3.b c3.d c3.p c3.n).toArray) := Bk.putC (Bk.newC w31) zero_len hfb3
    have hw17 : w.heap.size ≤ w31.heap.size := (Below.chain BX.out hb3).size
    replace BX := hid (below_box BX.out hb3 zCA 31 (csC c3.b c3.d c3.p c3.n))
    clear hb3 hC
    unfold zCA at *
    go_upto_region 17 with (refine wpList_storeC rfl _ _ rfl _ c3.b c3.d c3.p c3.n rfl rfl ?_ hfb3 ?_; exact rt)
    generalize World.setCells _ _ _ _ = w32 at *
    generalize w31.heap.size = g17 at *
    clear rt
    obtain ⟨rs, okr, hrl, hyes, hdet⟩ := run_det2 c3 tx.data.toList
    have H1 : Hid (∀ W, Calls Tryz.prog 32 #[.agg (csC c3.b c3.d c3.p c3.n).toArray, .string tx] W fun e w' => ∃ v, e = .returned (.tuple #[v, .bool okr]) ∧ w'.ownsRow W.heap.size 9 1 v rs.length (rs.map strV) ∧ Below W.heap.size W w') := fun W =>
     (RunScriptS_c c3 tx W hf3 (by omega)).mono fun e w' h => hdet W e w' h
    have H2 : Hid (∀ W, TabC W → Calls Tryz.prog 33 #[.agg (csC c3.b c3.d c3.p c3.n).toArray, .string tx] W fun e w' => ∃ v, e = .returned (.tuple #[v, .bool okr]) ∧ w'.ownsRow W.heap.size 9 1 v rs.length (rs.map strV) ∧ Below W.heap.size W w') := fun W h2 =>
     (RunScript_c c3 tx W hf3 (by omega) h2).mono fun e w' h => hdet W e w' h
    have HY := hid hyes
    have hqq : (okr != okr) = false := by simp
    clear hdet hyes
    go_wp2_with (refine wpList_loadC rfl _ rfl _ rfl c3.b c3.d c3.p c3.n ?_ hfb3 ?_; exact K17.out.range)
    refine (H2.out _ (HT.out.on BX.out)).mono ?_
    rintro e w33 ⟨u1, rfl, ho1, hb3⟩
    have hg17 : g17 < w32.heap.size := K17.out.lt
    have HO1 := hid ho1
    replace K17 := hid (K17.out.below hb3)
    replace BX := hid (Below.chain BX.out hb3)
    obtain ⟨a1, d1, rfl, _⟩ := (Sl.of_own ho1).slice
    clear ho1 hb3
    generalize w32.heap.size = lo1 at *
    go_wp2_with (refine wpList_loadC rfl _ rfl _ rfl c3.b c3.d c3.p c3.n ?_ hfb3 ?_; exact K17.out.range)
    refine (H1.out _).mono ?_
    rintro e w34 ⟨u2, rfl, ho2, hb3⟩
    have HO2 := hid ho2
    replace HO1 := hid (own_keep HO1.out hb3)
    replace K17 := hid (K17.out.below hb3)
    replace BX := hid (Below.chain BX.out hb3)
    obtain ⟨a2, d2, rfl, _⟩ := (Sl.of_own ho2).slice
    have HVT := hid (fun W (hb : Below w34.heap.size w34 W) => vTexts_c _ _ rs W (Sl.of_own (ownsRow_cast (own_keep HO1.out hb) (by simp) rfl)) (Sl.of_own (ownsRow_cast (own_keep HO2.out hb) (by simp) rfl)))
    clear ho2 hb3 H1 H2
    go_wp2_with fail
    refine (HVT.out _ (Below.refl _ _)).mono ?_
    rintro e w35 ⟨rfl, hb3⟩
    replace HO1 := hid (own_keep HO1.out hb3)
    replace K17 := hid (K17.out.below hb3)
    replace BX := hid (Below.chain BX.out hb3)
    clear hb3 HVT HO2
    cases okr with
    | false =>
     go_wp2
     go_ret
     exact ⟨rfl, BX.out⟩
    | true =>
     obtain ⟨hok3, htl, hrs⟩ := HY.out rfl
     rw [ba_len] at htl
     have HSP := hid (fun W h => SplitString_c tx W htl h)
     unfold SpsOut at HSP
     have HOK3 := hid hok3
     have HRS := hid hrs
     clear hrs hok3
     go_wp2_with fail
     refine (HSP.out _ (HT.out.on BX.out)).mono ?_
     rintro e w36 ⟨u3, rfl, ho3, hb3⟩
     have hwm := split_mem 10 tx.data.toList
     rw [ba_len] at hwm
     have HWM := hid hwm
     generalize splitS 10 tx.data.toList = ls at *
     have hg3 := K17.out.lt
     obtain ⟨la, lc, rfl, hm0, _⟩ := (Sl.of_own ho3).partsT
     obtain ⟨m, hm⟩ : ∃ m, ls.length = m := ⟨_, rfl⟩
     have HM := hid hm
     have HL := hid ho3
     replace HO1 := hid (own_keep HO1.out hb3)
     have hrm : rs.length = m := by rw [HRS.out, runS_len]; exact hm
     rw [hrm] at HO1 ⊢
     rw [hm] at HL hm0 ⊢
     replace K17 := hid (K17.out.below hb3)
     replace BX := hid (Below.chain BX.out hb3)
     clear hwm HSP ho3 hb3 hm hrm hrl HY
     generalize w35.heap.size = lo3 at *
     have hdm : decide (0 ≤ (m : Int)) = true := by simp
     have hmm : ((m : Int) == (m : Int)) = true := by simp
     go_wp2
     go_loopw [25] (fun j wr => ∃ (k : Nat) (S : Cst), k ≤ m ∧ j = .int .i64 (k : Int) ∧ Hid (S.b.length = 19) ∧ Hid S.ok ∧ Hid (S = (runS c3 (ls.take k)).1) ∧ Hid (Bk wr g17 31 (csC S.b S.d S.p S.n).toArray) ∧ Hid (wr.ownsRow lo1 9 1 (.slice a1 m d1) m (rs.map strV)) ∧ Hid (wr.ownsRow lo3 9 1 (.slice la m lc) m (ls.map strV)) ∧ Hid (Below w.heap.size w wr)) (fun j _ => m - (intOf j).toNat)
     case atStart => exact ⟨0, c3, by omega, rfl, hfb3, HOK3, rfl, K17, HO1, HL, BX⟩
     case round =>
      obtain ⟨k, S, hk, rfl, HSB, HSO, HSR, KS, HR, HL, HB⟩ := hrel
      clear K17 HO1 BX
      by_cases hlt : k < m
      · have hd2 : decide ((k : Int) < (m : Int)) = true := by simp; omega
        have hki : (k : Int) < (m : Int) := by omega
        obtain ⟨x, hxx⟩ := elem_at (show k < ls.length by rw [HM.out]; exact hlt)
        obtain ⟨_, _, hsl, _, HE⟩ := (Sl.of_own HL.out).partsT
        injection hsl with ha _ hc
        subst ha hc
        obtain ⟨vb, vo, rfl, hcell⟩ := HE.out k hlt
        rw [List.getElem?_map, hxx.out] at hcell
        replace hcell : wr.cell? ⟨vb, vo + k, none⟩ = some (.string (bs x)) := hcell
        obtain ⟨_, _, hsl, _, HE2⟩ := (Sl.of_own HR.out).partsT
        injection hsl with ha _ hc
        subst ha hc
        obtain ⟨rb, ro, rfl, hcell2⟩ := HE2.out k hlt
        have hrk := runS_at (c := c3) hxx.out
        rw [← HRS.out, ← HSR.out] at hrk
        rw [List.getElem?_map, hrk] at hcell2
        replace hcell2 : wr.cell? ⟨rb, ro + k, none⟩ = some (.string (bs (stepV true S (bs x)).2)) := hcell2
        have hxl := HWM.out x (List.mem_of_getElem? hxx.out)
        have HEX := hid (fun W h => exI_let HSO.out HSB.out (bs x) (by rw [bs_size]; omega) W h)
        have HN1 := hid (stepV_ok (bs x) HSB.out HSO.out)
        have HN2 := hid (runS_next (c := c3) hxx.out)
        rw [← HSR.out] at HN2
        generalize (stepV true S (bs x)).1 = N' at *
        generalize bs (stepV true S (bs x)).2 = TT at *
        generalize bs x = X at *
        have hSb : S.b.length = 19 := HSB.out
        have eTT := str_eq (rfl : TT = TT)
        have nTT : (TT.toList != TT.toList) = false := by simp
        clear HE HE2 hxl hxx hrk
        go_upto_region 27 with fail
        go_cut [26, 27] (fun s26 s27 wx => ∃ q : Nat, s26 = .pointer (some ⟨q, 0, none⟩) ∧ s27 = .string TT ∧ Hid (Bk wx q 31 (csC N'.b N'.d N'.p N'.n).toArray) ∧ Hid (Below wr.heap.size wr wx))
        case first =>
         have hNb : N'.b.length = 19 := HN1.out.1
         have F := (Below.refl wr.heap.size wr).drew
         refine wp_region_held_drew (S := fun w' : World => Below wr.heap.size wr w' ∧ w'.cell? ⟨vb, vo + k, none⟩ = some (.string X)) (by kernel_rfl) ⟨F, cell_later F hcell⟩ (fun hHeld => ?_)
         generalize World.drew _ = wd at *
         refine' tkL 0 hHeld (cs := csC S.b S.d S.p S.n) (fun w' (h : Below wr.heap.size wr w' ∧ w'.cell? ⟨vb, vo + k, none⟩ = some (.string X)) => (KS.out.below h.1).range) Tryz.underlying31 (by rw [csC_len hSb]; kernel_rfl) ?_
         refine' tkZ 1 hHeld ?_
         refine' tkZ 2 hHeld ?_
         refine' tkZ 3 hHeld ?_
         refine' tkZ 4 hHeld ?_
         repeat' first
          | refine' tkZ 6 hHeld ?_
          | refine' tkZ 7 hHeld ?_
          | refine' tkZ 8 hHeld ?_
          | refine' tkZ 11 hHeld ?_
          | (refine wpAnyH_done (by decide +kernel) ?_ _
             go_wp2_with fail
             go_meet
             exact ⟨_, rfl, rfl, A, F⟩)
          | (refine rdyS [10] (rdy ?_ .nil)
             intro K hK
             rw [if_pos (by rfl)]
             refine wp_store_mid _ _ _ rfl _ _ (csC N'.b N'.d N'.p N'.n).toArray rfl rfl (A.there (by simp [csC_len hNb, zerC_len])) (by simp only [List.size_toArray, csC_len hNb]; kernel_rfl) (all_oneCell_toArray csC_one) ?_
             rw [List.toList_toArray]
             replace A := A.putC (b := zeroI) (d2 := N'.d) (p2 := N'.p) (n2 := N'.n) zero_len hNb
             replace F := below_cells (csC N'.b N'.d N'.p N'.n) _ q 0 F hq
             generalize World.setCells _ _ _ _ = wd at *
             refine hK.out _ _ ⟨F, cell_later F hcell⟩ fun hHeld => nrm ?_
             clear hK K)
          | ((first
               | refine rdyS [5, 9] (rdy ?_ (rdy ?_ .nil))
               | refine rdyS [5] (rdy ?_ .nil)
               | refine rdyS [9] (rdy ?_ .nil)) <;>
             (intro K hK
              go_simp
              first
               | (with_reducible refine (HEX.out _ ?_).mono ?_
                  · exact HT.out.on (Below.chain HB.out F)
                  rintro e wd ⟨rfl, hb2⟩
                  replace F := Below.chain F hb2
                  try replace A := A.below hb2)
               | (have A := Bk.newC wd
                  have hq := F.size
                  replace F := Below.alc F (.cells zCA 31)
                  unfold zCA at *
                  generalize wd.heap.size = q at *
                  generalize World.alloc _ _ = wd at *)
              refine hK.out _ _ ⟨F, cell_later F hcell⟩ fun hHeld => nrm ?_
              clear hK K))
        case rest =>
         obtain ⟨q, rfl, rfl, KN, HF⟩ := hcut
         have hNb : N'.b.length = 19 := HN1.out.1
         have rn := KN.out.range
         have KS2 := KS.out.below HF.out
         have rt := KS2.there (n := 22) (by simp [csC_len hSb])
         have y2 := cell_later HF.out hcell2
         have KS3 := hid (KS2.putC (b2 := N'.b) (d2 := N'.d) (p2 := N'.p) (n2 := N'.n) hSb hNb)
         have HL3 := hid (own_far (own_keep HL.out HF.out) g17 0 (csC N'.b N'.d N'.p N'.n) hg3)
         have HR3 := hid (own_far (own_keep HR.out HF.out) g17 0 (csC N'.b N'.d N'.p N'.n) hg17)
         have HB3 := hid (below_cells (csC N'.b N'.d N'.p N'.n) _ g17 0 (Below.chain HB.out HF.out) hw17)
         have HNB := hid hNb
         have HN3 := hid HN2.out.symm
         clear KS HL HR HB HF HEX hcell hcell2
         go_wp2_with (first | (refine wpList_loadC rfl _ rfl q rfl N'.b N'.d N'.p N'.n ?_ hNb ?_; exact rn) | (refine wpList_storeC rfl _ _ rfl g17 N'.b N'.d N'.p N'.n rfl rfl ?_ hNb ?_; exact rt))
         go_roundw
         case rel => exact ⟨k + 1, N', by omega, by go_num, HNB, HN1.out.2, HN3, KS3, HR3, HL3, HB3⟩
         case measure => first | (simp [intOf]; done) | (simp [intOf]; omega)
      · obtain rfl : k = m := by omega
        have hd2 : decide ((k : Int) < (k : Int)) = false := by simp
        go_wp2
        go_ret
        exact ⟨rfl, HB.out⟩
end Go.Proofs.YtohgjfdbnkjefaaGreatDoor
