import Derived.Test.YtohgjfdbnkjefaaGreatDoorK27
import Derived.Deep.RegionHeld3
import Derived.Deep.DeepCutAuto
open Go.Lib (hid)
namespace Go.Proofs.YtohgjfdbnkjefaaGreatDoor
open Go.RowKit
set_option linter.unusedVariables false
set_option linter.unusedSimpArgs false
set_option maxRecDepth 100000
set_option maxHeartbeats 20000000 in
theorem ReplayLogS_c (b : List Int) (d p : ByteArray) (n : Int) (w : World) (hb : b.length = 19) (hd : d.size ≤ 1048576) (hp : p.size ≤ 1048576) :
 Calls Tryz.prog 24 #[aggI b, logV d p n] w (RepOut b d p n w) := by
 have r0 := World.rangeAt_alloc (range_new w (ints b) 26) (.cells #[.string d, .string p, .int .i64 n] 29)
 have l0 := range_new (w.alloc (.cells (ints b).toArray 26)) (lgC d p n) 29
 rw [World.size_alloc] at l0
 have hb0 : Below w.heap.size w ((w.alloc (.cells (ints b).toArray 26)).alloc (.cells #[.string d, .string p, .int .i64 n] 29)) := qBl
 have hsz : w.heap.size + 1 < ((w.alloc (.cells (ints b).toArray 26)).alloc (.cells #[.string d, .string p, .int .i64 n] 29)).heap.size := by simp
 have HN := hid (fun W => sNewConsole_c b W hb)
 have hBl : (ncB b).length = 19 := by unfold ncB; split; exact hb; simp [zeroI]
 obtain ⟨B, hB⟩ : ∃ B, ncB b = B := ⟨_, rfl⟩
 have HBN := hid (show goodB b = true → B = b from fun h => by rw [← hB]; unfold ncB; rw [if_pos h])
 unfold ncV at HN
 rw [hB] at HN hBl
 have HRC := hid (fun W => l12Valid_c d p n W hd hp)
 unfold logV at HRC ⊢
 unfold aggI at *
 clear hB
 go_enter Tryz.func24, Tryz.ntmps24
 go_wp2_with (refine wpList_loadB rfl _ rfl _ rfl b r0 hb ?_)
 refine (HN.out _).mono ?_
 rintro e w1 ⟨rfl, hb1⟩
 have l1 := range_below l0 hb1
 have z1 := Nat.lt_of_lt_of_le hsz hb1.size
 have t2 := there_new w1 zCA 31 (n := 22) (by decide)
 have l2 := World.rangeAt_setCells_apart (World.rangeAt_alloc l1 (.cells zCA 31)) w1.heap.size 0 (csC B ByteArray.empty ByteArray.empty 0) (.inl (by omega))
 have c2 := World.rangeAt_setCells_same (w1.alloc (.cells zCA 31)) w1.heap.size 0 (csC B ByteArray.empty ByteArray.empty 0) (by rw [csC_len hBl]; exact t2)
 have u2 := World.there_setCells t2 w1.heap.size 0 (csC B ByteArray.empty ByteArray.empty 0)
 have HB2 := hid (below_cells (csC B ByteArray.empty ByteArray.empty 0) (w1.alloc (.cells zCA 31)) w1.heap.size 0 (Below.alc (Below.chain hb0 hb1) (.cells zCA 31)) (by omega))
 have z2 : w1.heap.size < ((w1.alloc (.cells zCA 31)).setCells w1.heap.size 0 (csC B ByteArray.empty ByteArray.empty 0)).heap.size := Nat.lt_of_lt_of_le (by simp) (grow_cells (csC B ByteArray.empty ByteArray.empty 0) (w1.alloc (.cells zCA 31)) w1.heap.size 0).size
 clear r0 l0 hb0 hb1 hsz l1 HN
 unfold zCA at *
 go_upto_region 2 with (refine wpList_storeC rfl _ _ rfl _ B ByteArray.empty ByteArray.empty 0 rfl rfl t2 hBl ?_)
 clear t2
 generalize w1.heap.size = g6 at *
 generalize World.setCells _ _ _ _ = w2 at *
 rcases hg : goodB b with _ | _
 · as_aux_lemma =>
    have HF := hid (fun w' => repOut_no (b := b) (d := d) (p := p) (n := n) (w := w) (w' := w') (fun h => by rw [hg] at h; exact absurd h.1 (by simp)))
    clear hg
    go_wp2
    exact bodyPost_ret (v := .tuple #[.int .i64 0, .bool false]) (by simp [results, Tryz.results24, go_sem]) rfl (HF.out _ HB2.out)
 go_wp2_with (refine wpList_loadL rfl _ rfl _ _ rfl d p n l2 ?_)
 refine (HRC.out _).mono ?_
 rintro e w2b ⟨ok, rfl, hok, hb3⟩
 have c2b := range_below c2 hb3
 have u2b := there_below u2 hb3
 have l2b := range_below l2 hb3
 have HB2b := hid (Below.chain HB2.out hb3)
 have z2b := Nat.lt_of_lt_of_le z2 hb3.size
 have HOK := hid hok
 clear c2 u2 l2 HB2 hb3 hok HRC z2
 have z2 := z2b
 cases ok with
 | false =>
  as_aux_lemma =>
   have HF := hid (fun w' => repOut_no (b := b) (d := d) (p := p) (n := n) (w := w) (w' := w') (fun h => by have := HOK.out.2 h.2; cases this))
   clear hg HOK
   go_wp2
   exact bodyPost_ret (v := .tuple #[.int .i64 0, .bool false]) (by simp [results, Tryz.results24, go_sem]) rfl (HF.out _ HB2b.out)
 | true =>
  obtain ⟨es0, hv0⟩ := HOK.out.1 rfl
  clear HOK
  have la : w2b.cell? ⟨w.heap.size + 1, 0, none⟩ = some (.string d) := l2b 0 _ rfl
  have lb : w2b.cell? ⟨w.heap.size + 1, 1, none⟩ = some (.string p) := l2b 1 _ rfl
  have HLO := hid (fun W => l12Open_c (d ++ p) W (by rw [ByteArray.size_append]; have := hv0.sz; rw [List.length_append, ba_len, ba_len] at this; omega))
  unfold OpenOut at HLO
  have hno : ¬ (9223372036854775807 < d.size + p.size) := by omega
  obtain ⟨DP, hDP⟩ : ∃ DP, d ++ p = DP := ⟨_, rfl⟩
  have HDP := hid hDP
  go_wp2_with fail
  rw [hDP] at HLO
  clear hDP
  refine (HLO.out _).mono ?_
  rintro e w3 ⟨v, es, rest, rfl, ho, hop, hb3⟩
  have HV : Hid (ValidL d.data.toList p.data.toList n es) := by
   show ValidL _ _ _ _
   have h1 := hv0.opens
   rw [← app_list, HDP.out] at h1
   rw [(hop.uniq h1).1]; exact hv0
  obtain ⟨va, vc, rfl, hvm, HP⟩ := (Sl.of_own ho).parts2
  have hvb : ∀ vb vo, va = some ⟨vb, vo, none⟩ → g6 < vb := fun vb vo h => by
   subst h
   exact Nat.lt_of_lt_of_le z2 (ho.lt vb rfl).1
  have HRW : Hid (∀ k e, es[k]? = some e → ∃ vb vo, va = some ⟨vb, vo, none⟩ ∧ g6 < vb ∧ w3.cell? ⟨vb, vo + k * 2, none⟩ = some (.string (bs e.1)) ∧ w3.cell? ⟨vb, vo + k * 2 + 1, none⟩ = some (.string (bs e.2))) := fun k e he => by
   obtain ⟨vb, vo, h1, h2, h3⟩ := HP.out k (List.getElem?_eq_some_iff.1 he).1
   rw [(flatR_at he).1] at h2
   rw [(flatR_at he).2] at h3
   exact ⟨vb, vo, h1, hvb vb vo h1, h2, h3⟩
  have c3 := range_below c2b hb3
  have u3 := there_below u2b hb3
  have HB3 := hid (Below.chain HB2b.out hb3)
  clear c2b u2b l2b HB2b hb3 ho HP hvb HLO la lb hop hv0 hno
  have HG := hid hg
  have HBe := hid (HBN.out hg)
  obtain ⟨m, hm⟩ : ∃ m, es.length = m := ⟨_, rfl⟩
  have HM := hid hm
  rw [hm] at hvm ⊢
  clear hg hm HBN
  go_wp2
  go_loopw [10] (fun i wr => ∃ (k : Nat) (S : Cst), k ≤ m ∧ i = .int .i64 (k : Int) ∧ Hid (RepAt (newC b) es k S) ∧ Hid (S.b.length = 19) ∧ Hid S.ok ∧ wr.rangeAt g6 0 (csC S.b S.d S.p S.n) ∧ wr.there g6 0 22 ∧ Hid (∀ k e, es[k]? = some e → ∃ vb vo, va = some ⟨vb, vo, none⟩ ∧ g6 < vb ∧ wr.cell? ⟨vb, vo + k * 2, none⟩ = some (.string (bs e.1)) ∧ wr.cell? ⟨vb, vo + k * 2 + 1, none⟩ = some (.string (bs e.2))) ∧ Below w.heap.size w wr) (fun i _ => m + 1 - (intOf i).toNat)
  case atStart =>
   refine ⟨0, newC b, by omega, rfl, RepAt.zero _ _, ?_, newC_ok HG.out, ?_, u3, HRW, HB3.out⟩
   · show b.length = 19; exact hb
   · have h := HBe.out
     rw [h] at c3; exact c3
  case round =>
   obtain ⟨k, S, hk, rfl, HRA, HSb, HSo, rk, tk, HRK, hbk⟩ := hrel
   have HB := hid hbk
   clear hbk c3 u3 HB3 HRW
   by_cases hlt : k < m
   · have hd2 : decide ((k : Int) < (m : Int)) = true := by simp; omega
     have hki : (k : Int) < (m : Int) := by omega
     obtain ⟨e, hee⟩ := elem_at (show k < es.length by rw [HM.out]; exact hlt)
     obtain ⟨vb, vo, rfl, hvb, h0, h1⟩ := HRK.out k e hee.out
     have hSb := HSb.out
     have hSfit := ok_fit HSb.out HSo.out
     have hel : e.1.length ≤ 160 := (HV.out.ok e (List.mem_of_getElem? hee.out)).l2
     have hNok := stepV_ok (bs e.1) HSb.out HSo.out
     have HSTOP := hid (fun h => HRA.out.stop hee.out h)
     have HNEXT := hid (fun h => HRA.out.next hee.out h)
     have HEX := hid (fun (W : World) => (ExecuteCommandS_c S (bs e.1) W hSfit (by rw [bs_size]; omega)).mono fun e w' h => ex_yes HSo.out h)
     obtain ⟨N, hN⟩ : ∃ N, (stepV true S (bs e.1)).1 = N := ⟨_, rfl⟩
     obtain ⟨T, hT⟩ : ∃ T, (stepV true S (bs e.1)).2 = T := ⟨_, rfl⟩
     simp only [hN, hT] at hNok HEX HSTOP HNEXT
     have hNb : N.b.length = 19 := hNok.1
     have HNO := hid hNok.2
     unfold Cst.val consV at HEX
     have HTE : Hid (T = e.2 ↔ bs T = bs e.2) := ⟨fun h => by rw [h], fun h => bs_inj h⟩
     clear hN hT hee hSfit hNok HRA HSo HSb hel
     obtain ⟨c1, hc1⟩ : ∃ c1, bs e.1 = c1 := ⟨_, rfl⟩
     obtain ⟨c2, hc2⟩ : ∃ c2, bs e.2 = c2 := ⟨_, rfl⟩
     obtain ⟨TT, hTT⟩ : ∃ TT, bs T = TT := ⟨_, rfl⟩
     rw [hc1] at h0 HEX
     rw [hc2] at h1 HTE
     rw [hTT] at HEX HTE
     clear hc1 hc2 hTT
     as_aux_lemma =>
      have zg : g6 < wr.heap.size := World.block_lt_of_cell? _ _ (csC_bench rk hSb 0 _ (by simp [ints, show 0 < S.b.length by omega]; rfl))
      go_upto_region 8 with fail
      go_cut [11, 12] (fun s9 s10 wx => ∃ g : Nat, s9 = .pointer (some ⟨g, 0, none⟩) ∧ s10 = .string TT ∧ wx.rangeAt g 0 (csC N.b N.d N.p N.n) ∧ Below wr.heap.size wr wx)
      case first =>
       refine wp_region_noPanic ?_
       have S_wd : Below wr.heap.size wr wr.drew := (Below.refl _ _).drew
       refine wp_region_held_drew (S := fun w' : World => Below wr.heap.size wr w') (by kernel_rfl) S_wd (fun hHeld => ?_)
       generalize wr.drew = wd at *
       refine' tkX 0 hHeld ?y_t1 ?r_t1
       case y_t1 =>
        refine' yieldsIf_load_mid ?hw_t1 _ _ rfl _ _ rfl (csC S.b S.d S.p S.n) _ ?hS_t1 ?hu_t1 ?hd_t1 ?hi_t1
        case hw_t1 => rfl
        case hS_t1 => exact fun (w' : World) (h : Below wr.heap.size wr w') => range_below rk h
        case hu_t1 => exact Tryz.underlying31
        case hd_t1 => rfl
        case hi_t1 => exact (by rw [csC_len hSb]; kernel_rfl)
       try simp only [Act.put, xqA, xqB, xqC]
       refine' tkY 1 hHeld ?r_t2
       try simp only [Act.put, xqA, xqB, xqC]
       refine' tkY 2 hHeld ?r_t3
       try simp only [Act.put, xqA, xqB, xqC]
       refine' tkY 3 hHeld ?r_t4
       try simp only [Act.put, xqA, xqB, xqC]
       refine' tkY 4 hHeld ?r_t5
       try simp only [Act.put, xqA, xqB, xqC]
       refine' tkX 5 hHeld ?y_t6 ?r_t6
       case y_t6 => exact Or.inl ⟨by rfl, by (intro w hSw; have c0 := cell_later hSw h0; go_simp; first | done | with_reducible rfl)⟩
       try simp only [Act.put, xqA, xqB, xqC]
       refine wpAnyH_ready (rs := [6, 10]) (by kernel_rfl) (by simp) ?_
       refine' AllReadyH.cons (o := _) ?e_k7 ?st_k7 ?more_k7
       case e_k7 => (simp only [xeA, xeB, xeC]; exact rfl)
       case st_k7 =>
        intro K hK
        go_simp
        with_reducible refine (HEX.out wd).mono ?_
        rintro e2 we8 ⟨rfl, hx9⟩
        have S_we8 := Below.chain S_wd hx9
        clear S_wd hx9
        refine hK.out _ _ S_we8 (fun hHeld => ?_)
        clear hK K
        try simp only [Act.put, xqA, xqB, xqC]
        refine' tkY 7 hHeld ?r_t10
        try simp only [Act.put, xqA, xqB, xqC]
        refine' tkY 8 hHeld ?r_t11
        try simp only [Act.put, xqA, xqB, xqC]
        refine' tkY 9 hHeld ?r_t12
        try simp only [Act.put, xqA, xqB, xqC]
        refine wpAnyH_ready (rs := [10]) (by kernel_rfl) (by simp) ?_
        refine' AllReadyH.cons (o := _) ?e_k13 ?st_k13 AllReadyH.nil
        case e_k13 => (simp only [xeA, xeB, xeC]; exact rfl)
        intro K hK
        go_simp
        have hx15 := below_one (w := we8) (.cells #[.int .i64 0, .int .i64 0, .int .i64 0, .int .i64 0, .int .i64 0, .int .i64 0, .int .i64 0, .int .i64 0, .int .i64 0, .int .i64 0, .int .i64 0, .int .i64 0, .int .i64 0, .int .i64 0, .int .i64 0, .int .i64 0, .int .i64 0, .int .i64 0, .int .i64 0, .string ⟨#[]⟩, .string ⟨#[]⟩, .int .i64 0] 31)
        have Tg_we14 := there_new we8 #[.int .i64 0, .int .i64 0, .int .i64 0, .int .i64 0, .int .i64 0, .int .i64 0, .int .i64 0, .int .i64 0, .int .i64 0, .int .i64 0, .int .i64 0, .int .i64 0, .int .i64 0, .int .i64 0, .int .i64 0, .int .i64 0, .int .i64 0, .int .i64 0, .int .i64 0, .string ⟨#[]⟩, .string ⟨#[]⟩, .int .i64 0] 31 (n := 22) (by decide)
        have S_we14 := Below.chain S_we8 hx15
        have hlg := S_we8.size
        have hng : we8.heap.size < (we8.alloc (.cells #[.int .i64 0, .int .i64 0, .int .i64 0, .int .i64 0, .int .i64 0, .int .i64 0, .int .i64 0, .int .i64 0, .int .i64 0, .int .i64 0, .int .i64 0, .int .i64 0, .int .i64 0, .int .i64 0, .int .i64 0, .int .i64 0, .int .i64 0, .int .i64 0, .int .i64 0, .string ⟨#[]⟩, .string ⟨#[]⟩, .int .i64 0] 31)).heap.size := by simp
        clear S_we8 hx15
        generalize we8.alloc (.cells #[.int .i64 0, .int .i64 0, .int .i64 0, .int .i64 0, .int .i64 0, .int .i64 0, .int .i64 0, .int .i64 0, .int .i64 0, .int .i64 0, .int .i64 0, .int .i64 0, .int .i64 0, .int .i64 0, .int .i64 0, .int .i64 0, .int .i64 0, .int .i64 0, .int .i64 0, .string ⟨#[]⟩, .string ⟨#[]⟩, .int .i64 0] 31) = we14 at *
        generalize we8.heap.size = g at *
        refine hK.out _ _ S_we14 (fun hHeld => ?_)
        clear hK K
        try simp only [Act.put, xqA, xqB, xqC]
        refine wpAnyH_ready (rs := [11]) (by kernel_rfl) (by simp) ?_
        refine' AllReadyH.cons (o := _) ?e_k16 ?st_k16 AllReadyH.nil
        case e_k16 => (simp only [xeA, xeB, xeC]; exact rfl)
        intro K hK
        rw [if_pos (by rfl)]
        refine wp_store_mid _ _ _ rfl _ _ (csC N.b N.d N.p N.n).toArray rfl rfl (by rw [show (csC N.b N.d N.p N.n).toArray.size = 22 by simp [csC_len hNb]]; exact Tg_we14) (by rw [show (csC N.b N.d N.p N.n).toArray.size = 22 by simp [csC_len hNb]]; kernel_rfl) (all_oneCell_toArray csC_one) ?_
        simp only [Act.put, xqA, xqB, xqC, List.toList_toArray]
        have Y_we17 := World.rangeAt_setCells_same we14 g 0 (csC N.b N.d N.p N.n) (by rw [csC_len hNb]; exact Tg_we14)
        have S_we17 := below_cells (csC N.b N.d N.p N.n) we14 g 0 S_we14 (by omega)
        generalize World.setCells _ _ _ _ = we17 at *
        clear S_we14 Tg_we14
        refine hK.out _ _ S_we17 (fun hHeld => ?_)
        clear hK K
        try simp only [Act.put, xqA, xqB, xqC]
        refine' tkY 12 hHeld ?r_t18
        try simp only [Act.put, xqA, xqB, xqC]
        refine wpAnyH_done (by kernel_rfl) ?_ _
        refine NoPanic.normal ?_
        go_wp2_with fail
        go_meet
        exact ⟨g, rfl, rfl, Y_we17, S_we17⟩
       case more_k7 =>
        refine' AllReadyH.cons (o := _) ?e_k19 ?st_k19 AllReadyH.nil
        case e_k19 => (simp only [xeA, xeB, xeC]; exact rfl)
        case st_k19 =>
         intro K hK
         go_simp
         have hx21 := below_one (w := wd) (.cells #[.int .i64 0, .int .i64 0, .int .i64 0, .int .i64 0, .int .i64 0, .int .i64 0, .int .i64 0, .int .i64 0, .int .i64 0, .int .i64 0, .int .i64 0, .int .i64 0, .int .i64 0, .int .i64 0, .int .i64 0, .int .i64 0, .int .i64 0, .int .i64 0, .int .i64 0, .string ⟨#[]⟩, .string ⟨#[]⟩, .int .i64 0] 31)
         have Tg_we20 := there_new wd #[.int .i64 0, .int .i64 0, .int .i64 0, .int .i64 0, .int .i64 0, .int .i64 0, .int .i64 0, .int .i64 0, .int .i64 0, .int .i64 0, .int .i64 0, .int .i64 0, .int .i64 0, .int .i64 0, .int .i64 0, .int .i64 0, .int .i64 0, .int .i64 0, .int .i64 0, .string ⟨#[]⟩, .string ⟨#[]⟩, .int .i64 0] 31 (n := 22) (by decide)
         have S_we20 := Below.chain S_wd hx21
         have hlg := S_wd.size
         have hng : wd.heap.size < (wd.alloc (.cells #[.int .i64 0, .int .i64 0, .int .i64 0, .int .i64 0, .int .i64 0, .int .i64 0, .int .i64 0, .int .i64 0, .int .i64 0, .int .i64 0, .int .i64 0, .int .i64 0, .int .i64 0, .int .i64 0, .int .i64 0, .int .i64 0, .int .i64 0, .int .i64 0, .int .i64 0, .string ⟨#[]⟩, .string ⟨#[]⟩, .int .i64 0] 31)).heap.size := by simp
         clear S_wd hx21
         generalize wd.alloc (.cells #[.int .i64 0, .int .i64 0, .int .i64 0, .int .i64 0, .int .i64 0, .int .i64 0, .int .i64 0, .int .i64 0, .int .i64 0, .int .i64 0, .int .i64 0, .int .i64 0, .int .i64 0, .int .i64 0, .int .i64 0, .int .i64 0, .int .i64 0, .int .i64 0, .int .i64 0, .string ⟨#[]⟩, .string ⟨#[]⟩, .int .i64 0] 31) = we20 at *
         generalize wd.heap.size = g at *
         refine hK.out _ _ S_we20 (fun hHeld => ?_)
         clear hK K
         try simp only [Act.put, xqA, xqB, xqC]
         refine wpAnyH_ready (rs := [6]) (by kernel_rfl) (by simp) ?_
         refine' AllReadyH.cons (o := _) ?e_k22 ?st_k22 AllReadyH.nil
         case e_k22 => (simp only [xeA, xeB, xeC]; exact rfl)
         intro K hK
         go_simp
         with_reducible refine (HEX.out we20).mono ?_
         rintro e2 we23 ⟨rfl, hx24⟩
         have hng := Nat.lt_of_lt_of_le hng hx24.size
         have Tg_we23 := there_below Tg_we20 hx24
         clear Tg_we20
         have S_we23 := Below.chain S_we20 hx24
         clear S_we20 hx24
         refine hK.out _ _ S_we23 (fun hHeld => ?_)
         clear hK K
         try simp only [Act.put, xqA, xqB, xqC]
         refine' tkY 7 hHeld ?r_t25
         try simp only [Act.put, xqA, xqB, xqC]
         refine' tkY 8 hHeld ?r_t26
         try simp only [Act.put, xqA, xqB, xqC]
         refine' tkY 9 hHeld ?r_t27
         try simp only [Act.put, xqA, xqB, xqC]
         refine wpAnyH_ready (rs := [11]) (by kernel_rfl) (by simp) ?_
         refine' AllReadyH.cons (o := _) ?e_k28 ?st_k28 AllReadyH.nil
         case e_k28 => (simp only [xeA, xeB, xeC]; exact rfl)
         intro K hK
         rw [if_pos (by rfl)]
         refine wp_store_mid _ _ _ rfl _ _ (csC N.b N.d N.p N.n).toArray rfl rfl (by rw [show (csC N.b N.d N.p N.n).toArray.size = 22 by simp [csC_len hNb]]; exact Tg_we23) (by rw [show (csC N.b N.d N.p N.n).toArray.size = 22 by simp [csC_len hNb]]; kernel_rfl) (all_oneCell_toArray csC_one) ?_
         simp only [Act.put, xqA, xqB, xqC, List.toList_toArray]
         have Y_we29 := World.rangeAt_setCells_same we23 g 0 (csC N.b N.d N.p N.n) (by rw [csC_len hNb]; exact Tg_we23)
         have S_we29 := below_cells (csC N.b N.d N.p N.n) we23 g 0 S_we23 (by omega)
         generalize World.setCells _ _ _ _ = we29 at *
         clear S_we23 Tg_we23
         refine hK.out _ _ S_we29 (fun hHeld => ?_)
         clear hK K
         try simp only [Act.put, xqA, xqB, xqC]
         refine' tkY 12 hHeld ?r_t30
         try simp only [Act.put, xqA, xqB, xqC]
         refine wpAnyH_done (by kernel_rfl) ?_ _
         refine NoPanic.normal ?_
         go_wp2_with fail
         go_meet
         exact ⟨g, rfl, rfl, Y_we29, S_we29⟩
      case rest =>
      obtain ⟨g12, rfl, rfl, c4, hB4⟩ := hcut
      generalize wc = w4b at *
      have tk4 := there_below tk hB4
      have HBW := hid hB4
      have q14 := cell_later hB4 h1
      clear rk tk HEX h0 h1 hB4
      have r4b := World.rangeAt_setCells_same w4b g6 0 (csC N.b N.d N.p N.n) (by rw [csC_len hNb]; exact tk4)
      have q15 := cell_far2 (g2 := g6) (o2 := 0) (vs := csC N.b N.d N.p N.n) q14 (by omega)
      by_cases hTe : T = e.2
      · as_aux_lemma =>
         have hse := str_eq (HTE.out.1 hTe)
         have hsn : (TT.toList != c2.toList) = false := by rw [bne, hse]; rfl
         have HN2 := hid (HNEXT.out hTe)
         have HBk := hid (Below.chain HB.out HBW.out)
         have HRK4 : Hid (∀ k e, es[k]? = some e → ∃ vb2 vo2, (some ⟨vb, vo, none⟩ : Option Addr) = some ⟨vb2, vo2, none⟩ ∧ g6 < vb2 ∧ (w4b.setCells g6 0 (csC N.b N.d N.p N.n)).cell? ⟨vb2, vo2 + k * 2, none⟩ = some (.string (bs e.1)) ∧ (w4b.setCells g6 0 (csC N.b N.d N.p N.n)).cell? ⟨vb2, vo2 + k * 2 + 1, none⟩ = some (.string (bs e.2))) := fun k e he => by
          obtain ⟨vb2, vo2, h1, h2, h3, h4⟩ := HRK.out k e he
          exact ⟨vb2, vo2, h1, h2, cell_far2 (g2 := g6) (o2 := 0) (vs := csC N.b N.d N.p N.n) (cell_later HBW.out h3) (by omega), cell_far2 (g2 := g6) (o2 := 0) (vs := csC N.b N.d N.p N.n) (cell_later HBW.out h4) (by omega)⟩
         have R5 := hid (World.rangeAt_setCells_same w4b g6 0 (csC N.b N.d N.p N.n) (by rw [csC_len hNb]; exact tk4))
         have T5 := hid (World.there_setCells tk4 g6 0 (csC N.b N.d N.p N.n))
         have HB5 := hid (below_cells (csC N.b N.d N.p N.n) w4b g6 0 HBk.out (by omega))
         clear HTE HSTOP HNEXT hTe HB HBW HRK HBk r4b q14
         go_wp2_with (first | (refine wpList_loadC rfl _ rfl _ rfl N.b N.d N.p N.n c4 hNb ?_) | (refine wpList_storeC rfl _ _ rfl _ N.b N.d N.p N.n rfl rfl tk4 hNb ?_))
         go_roundw
         case rel => exact ⟨k + 1, N, by omega, by go_num, HN2.out, hNb, HNO.out, R5.out, T5.out, HRK4, HB5.out⟩
         case measure => first | (simp [intOf]; done) | (simp [intOf]; omega)
      · as_aux_lemma =>
         have hse := str_ne (fun h => hTe (HTE.out.2 h))
         have hsn : (TT.toList != c2.toList) = true := by rw [bne, hse]; rfl
         have HF := hid (fun w' => repOut_yes (w := w) (w' := w') HG.out HV.out (HSTOP.out hTe).symm)
         have HB5 := hid (below_cells (csC N.b N.d N.p N.n) w4b g6 0 (Below.chain HB.out HBW.out) (by omega))
         clear HTE HSTOP HNEXT hTe q14 r4b
         go_wp2_with (first | (refine wpList_loadC rfl _ rfl _ rfl N.b N.d N.p N.n c4 hNb ?_) | (refine wpList_storeC rfl _ _ rfl _ N.b N.d N.p N.n rfl rfl tk4 hNb ?_))
         exact bodyPost_ret (v := .tuple #[.int .i64 (k : Int), .bool true]) (by simp [results, Tryz.results24, go_sem]) rfl (HF.out _ HB5.out)
   · obtain rfl : k = m := by omega
     have hd2 : decide ((k : Int) < (k : Int)) = false := by simp
     as_aux_lemma =>
     have hend : k = repI (newC b) es := by
      have h := HRA.out
      rw [← HM.out] at h
      rw [← HM.out]; exact h.done.symm
     have HF := hid (fun w' => repOut_yes (w := w) (w' := w') HG.out HV.out hend)
     clear hend
     go_wp2
     exact bodyPost_ret (v := .tuple #[.int .i64 (k : Int), .bool true]) (by simp [results, Tryz.results24, go_sem]) rfl (HF.out _ HB.out)
theorem exI_let {c : Cst} (h : c.ok) (hb : c.b.length = 19) (line : ByteArray) (hl : line.size ≤ 1048576) (W : World) (hW : TabC W) : Calls Tryz.prog 13 #[.agg (csC c.b c.d c.p c.n).toArray, .string line] W fun e w' => e = .returned (.tuple #[.agg (csC (stepV true c line).1.b (stepV true c line).1.d (stepV true c line).1.p (stepV true c line).1.n).toArray, .string (bs (stepV true c line).2)]) ∧ Below W.heap.size W w' :=
 (ExecuteCommand_c c line W (ok_fit hb h) hl hW).mono fun e w' ho => ex_yes h ho
theorem replay_all {b : List Int} {S : Cst} (hb : b.length = 19) (hg : goodB b = true) (hr : Replays (newC b) S) (hf : S.fit) (W : World) (hW : TabC W) : Calls Tryz.prog 27 #[.agg (ints b).toArray, .agg #[.string S.d, .string S.p, .int .i64 S.n]] W fun e w' => e = .returned (.tuple #[.int .i64 S.n, .bool true]) ∧ Below W.heap.size W w' := by
 obtain ⟨ok, k, h1, h2, h3⟩ := rep_det b S.d S.p S.n
 obtain ⟨es, hv, hk⟩ := hr.count
 have hok := h1.2 ⟨hg, es, hv⟩
 subst hok
 rw [h2 es rfl hv, hk] at h3
 exact (ReplayLog_c b S.d S.p S.n W hb hf.hd hf.hp hW).mono fun e w' h => h3 W e w' h
set_option maxHeartbeats 16000000 in
theorem FnReplay_walk (v : Value) (xs : List Nat) (w : World) (h : Code w v xs) (ht : TabC w) :
 Calls Tryz.prog 8 #[v] w fun e w' => e = .returned (.bool true) ∧ Below w.heap.size w w' := by
 have HK := hid h
 have HT := hid ht
 clear ht
 obtain ⟨a, c, rfl, _⟩ := h
 have HV := hid (vBig_c _ _ _ HK.out)
 by_cases hbig : 65536 < xs.length
 · have hd : decide (65536 < xs.length) = true := decide_eq_true hbig
   go_enter Tryz.func8, Tryz.ntmps8
   go_wp2_with fail
   refine HV.out.mono ?_
   rintro e w1 ⟨rfl, rfl⟩
   go_wp2
   go_ret
   exact ⟨rfl, Below.refl _ _⟩
 have hd : decide (65536 < xs.length) = false := decide_eq_false hbig
 go_enter Tryz.func8, Tryz.ntmps8
 go_wp2_with fail
 refine HV.out.mono ?_
 rintro e _ ⟨rfl, rfl⟩
 go_wp2_with fail
 refine (DrawReplayLog_c _ _ _ HK.out).mono ?_
 rintro e w1 ⟨b, d, p, n, hb, hd1, hp1, rfl, hb1⟩
 have T1 := World.there_alloc (there_new w1 zBA 26 (n := 19) (by decide)) (.cells #[.string ⟨#[]⟩, .string ⟨#[]⟩, .int .i64 0] 29)
 have KB : Hid (Bk (((w1.alloc (.cells zBA 26)).alloc (.cells #[.string ⟨#[]⟩, .string ⟨#[]⟩, .int .i64 0] 29)).setCells w1.heap.size 0 (ints b)) w1.heap.size 26 (ints b).toArray) := Bk.putB (b := zeroI) ((Bk.new w1 26 zBA).alloc _) zero_len hb
 have KL := (Bk.new (w1.alloc (.cells zBA 26)) 29 #[.string ⟨#[]⟩, .string ⟨#[]⟩, .int .i64 0]).far (ints b) (g2 := w1.heap.size) 0 (by simp)
 simp only [World.size_alloc] at KL
 have HS := HK.out.below hb1
 have BX := hid (below_cells (ints b) _ w1.heap.size 0 (Below.alc (Below.alc hb1 (.cells zBA 26)) (.cells #[.string ⟨#[]⟩, .string ⟨#[]⟩, .int .i64 0] 29)) hb1.size)
 have hw1 := hb1.size
 clear hb1
 have q0 : _ = some (Value.string ⟨#[]⟩) := KL.cell 0
 have q1 : _ = some (Value.string ⟨#[]⟩) := KL.cell 1
 have q2 : _ = some (Value.int .i64 0) := KL.cell 2
 have e0 := KL.frozen 0
 have e1 := KL.frozen 1
 have e2 := KL.frozen 2
 have KL2 := hid (three_res KL (.string d) (.string p) (.int .i64 n))
 have KB2 := hid (((KB.out.other (p := ⟨w1.heap.size + 1, 0, none⟩) (by simp) (.string d)).other (p := ⟨w1.heap.size + 1, 1, none⟩) (by simp) (.string p)).other (p := ⟨w1.heap.size + 1, 2, none⟩) (by simp) (.int .i64 n))
 have BX2 := hid (((BX.out.setCell (p := ⟨w1.heap.size + 1, 0, none⟩) (by show w.heap.size ≤ w1.heap.size + 1; omega) (.string d)).setCell (p := ⟨w1.heap.size + 1, 1, none⟩) (by show w.heap.size ≤ w1.heap.size + 1; omega) (.string p)).setCell (p := ⟨w1.heap.size + 1, 2, none⟩) (by show w.heap.size ≤ w1.heap.size + 1; omega) (.int .i64 n))
 clear KL KB BX
 unfold zBA at *
 go_upto_region 4 with (refine wpList_storeB rfl _ _ rfl _ b rfl rfl ?_ hb ?_; exact T1)
 generalize World.setCell _ _ _ = w2 at *
 generalize w1.heap.size = g3 at *
 clear T1 HS q0 q1 q2 e0 e1 e2
 obtain ⟨ok, k, _, _, hdet⟩ := rep_det b d p n
 have H1 : Hid (∀ W, Calls Tryz.prog 24 #[.agg (ints b).toArray, .agg #[.string d, .string p, .int .i64 n]] W fun e w' => e = .returned (.tuple #[.int .i64 (k : Int), .bool ok]) ∧ Below W.heap.size W w') := fun W =>
  (ReplayLogS_c b d p n W hb hd1 hp1).mono fun e w' h => hdet W e w' h
 have H2 : Hid (∀ W, TabC W → Calls Tryz.prog 27 #[.agg (ints b).toArray, .agg #[.string d, .string p, .int .i64 n]] W fun e w' => e = .returned (.tuple #[.int .i64 (k : Int), .bool ok]) ∧ Below W.heap.size W w') := fun W h2 =>
  (ReplayLog_c b d p n W hb hd1 hp1 h2).mono fun e w' h => hdet W e w' h
 have hqq : ((k : Int) != (k : Int)) = false := by simp
 have hqo : (ok != ok) = false := by simp
 clear hdet hd1 hp1
 have l0 : w2.cell? ⟨g3 + 1, 0, none⟩ = some (.string d) := KL2.out.cell 0
 have l1 : w2.cell? ⟨g3 + 1, 1, none⟩ = some (.string p) := KL2.out.cell 1
 have l2 : w2.cell? ⟨g3 + 1, 2, none⟩ = some (.int .i64 n) := KL2.out.cell 2
 go_wp2_with (refine wpList_loadB rfl _ rfl _ rfl b ?_ hb ?_; exact KB2.out.range)
 refine (H2.out _ (HT.out.on BX2.out)).mono ?_
 rintro e w3 ⟨rfl, hb3⟩
 have KB3 := hid (KB2.out.below hb3)
 have l0' := cell_later hb3 l0
 have l1' := cell_later hb3 l1
 have l2' := cell_later hb3 l2
 have BX3 := hid (Below.chain BX2.out hb3)
 clear hb3 l0 l1 l2 KB2 BX2 KL2
 go_wp2_with (refine wpList_loadB rfl _ rfl _ rfl b ?_ hb ?_; exact KB3.out.range)
 refine (H1.out _).mono ?_
 rintro e w4 ⟨rfl, hb3⟩
 have BX4 := hid (Below.chain BX3.out hb3)
 clear hb3 l0' l1' l2' KB3 BX3 H1 H2
 go_wp2_with fail
 refine (vCut_c 1 _ xs _ (HK.out.below BX4.out) (by omega) (by decide)).mono ?_
 rintro e w5 ⟨v5, ys, rfl, hC, _, hb3⟩
 have BX5 := hid (Below.chain BX4.out hb3)
 clear hb3 BX4
 go_wp2_with fail
 refine (DrawRunScript_c _ _ _ hC).mono ?_
 rintro e w6 ⟨c0, s, hf, hs, rfl, hb3⟩
 have hfb := hf.hb
 have rt := (Bk.newC w6).thereZ
 have KC : Hid (Bk ((w6.alloc (.cells zCA 31)).setCells w6.heap.size 0 (csC c0.b c0.d c0.p c0.n)) w6.heap.size 31 (csC c0.b c0.d c0.p c0.n).toArray) := (Bk.newC w6).putZ hf
 have BX6 := hid (below_cells (csC c0.b c0.d c0.p c0.n) _ w6.heap.size 0 (Below.alc (Below.chain BX5.out hb3) (.cells zCA 31)) (Below.chain BX5.out hb3).size)
 clear hb3 BX5 hC
 unfold zCA at *
 go_upto_region 9 with (refine wpList_storeC rfl _ _ rfl _ c0.b c0.d c0.p c0.n rfl rfl ?_ hfb ?_; exact rt)
 generalize World.setCells _ _ _ _ = w7 at *
 generalize w6.heap.size = g9 at *
 clear rt
 have HN := hid (fun W => NewConsole_c c0.b W hfb)
 unfold ncV aggI at HN
 have hl1 : (ncB c0.b).length = 19 := by unfold ncB; split; exact hfb; exact zero_len
 have HB1 : Hid (goodB c0.b = true → ncB c0.b = c0.b) := fun h => by unfold ncB; rw [if_pos h]
 have HG : Hid (goodB c0.b = true → goodB c0.b = true) := fun h => h
 generalize ncB c0.b = b1 at *
 have rb := csC_bench KC.out.range hfb
 go_wp2_with (refine wpList_loadB rfl _ rfl g9 rfl c0.b ?_ hfb ?_; exact rb)
 refine (HN.out _).mono ?_
 rintro e w8 ⟨rfl, hb3⟩
 have rt := (Bk.newC w8).thereZ
 have KC2 := hid (box_far KC.out hb3 zCA 31 (csC b1 ByteArray.empty ByteArray.empty 0))
 have KD2 : Hid (Bk ((w8.alloc (.cells zCA 31)).setCells w8.heap.size 0 (csC b1 ByteArray.empty ByteArray.empty 0)) w8.heap.size 31 (csC b1 ByteArray.empty ByteArray.empty 0).toArray) := (Bk.newC w8).putZ (c := ⟨b1, ByteArray.empty, ByteArray.empty, 0⟩) ⟨hl1, by show 0 ≤ _; omega, by show 0 ≤ _; omega⟩
 have BX8 := hid (below_box BX6.out hb3 zCA 31 (csC b1 ByteArray.empty ByteArray.empty 0))
 have hgg : g9 < w8.heap.size := (KC.out.below hb3).lt
 have hw11 : w.heap.size ≤ w8.heap.size := (Below.chain BX6.out hb3).size
 clear hb3 BX6 KC HN rb
 unfold zCA at *
 go_upto_region 10 with (refine wpList_storeC rfl _ _ rfl _ b1 ByteArray.empty ByteArray.empty 0 rfl rfl ?_ hl1 ?_; exact rt)
 generalize World.setCells _ _ _ _ = w9 at *
 generalize w8.heap.size = g11 at *
 clear rt
 by_cases hs4 : s.size ≤ 4000
 rotate_left
 · have HP := hid (fun W => SplitStringNo_c s W (by omega))
   go_wp2_with fail
   refine (HP.out _).mono ?_
   rintro e w10 ⟨rfl, hb3⟩
   go_wp2
   all_goals go_ret
   all_goals exact ⟨rfl, Below.chain BX8.out hb3⟩
 rcases hg : goodB c0.b with _ | _
 · have HP := hid (fun W h => SplitString_c s W hs4 h)
   unfold SpsOut at HP
   go_wp2_with fail
   refine (HP.out _ (HT.out.on BX8.out)).mono ?_
   rintro e w10 ⟨lv, rfl, ho, hb3⟩
   clear ho
   go_wp2
   go_ret
   exact ⟨rfl, Below.chain BX8.out hb3⟩
 obtain rfl : b1 = c0.b := HB1.out hg
 have HP := hid (fun W h => SplitString_c s W hs4 h)
 unfold SpsOut at HP
 go_wp2_with fail
 refine (HP.out _ (HT.out.on BX8.out)).mono ?_
 rintro e w10 ⟨lv, rfl, ho, hb3⟩
 have hwm := split_mem 10 s.data.toList
 rw [ba_len] at hwm
 have HWM := hid hwm
 generalize splitS 10 s.data.toList = ls at *
 have hg11 := KD2.out.lt
 have KC := hid (KC2.out.below hb3)
 have KD := hid (KD2.out.below hb3)
 have BX := hid (Below.chain BX8.out hb3)
 have HO := hid ho
 clear hwm HP KC2 KD2 BX8 hb3
 generalize w9.heap.size = lo at *
 obtain ⟨la, lc, rfl, hm0, _⟩ := (Sl.of_own ho).partsT
 clear ho
 obtain ⟨m, hm⟩ : ∃ m, ls.length = m := ⟨_, rfl⟩
 have HM := hid hm
 rw [hm] at HO hm0 ⊢
 clear hm
 have R0 := hid (newC_rep (b := c0.b))
 have hok0 := hid (newC_ok hg)
 have hdm : decide (0 ≤ (m : Int)) = true := by simp
 go_wp2
 go_loopw [15] (fun j wr => ∃ (k : Nat) (S : Cst), k ≤ m ∧ j = .int .i64 (k : Int) ∧ Hid (S.b.length = 19) ∧ Hid S.ok ∧ Hid (Replays (newC c0.b) S) ∧ Hid (Bk wr g11 31 (csC S.b S.d S.p S.n).toArray) ∧ Hid (Bk wr g9 31 (csC c0.b c0.d c0.p c0.n).toArray) ∧ Hid (wr.ownsRow lo 9 1 (.slice la m lc) m (ls.map strV)) ∧ Hid (Below w.heap.size w wr)) (fun j _ => m - (intOf j).toNat)
 case atStart => exact ⟨0, newC c0.b, by omega, rfl, hfb, hok0, R0, KD, KC, HO, BX⟩
 case round =>
  obtain ⟨k, S, hk, rfl, HSB, HSO, HSR, KS, KB, HL, HB⟩ := hrel
  clear KD KC HO BX
  by_cases hlt : k < m
  · have hd2 : decide ((k : Int) < (m : Int)) = true := by simp; omega
    have hki : (k : Int) < (m : Int) := by omega
    obtain ⟨x, hxx⟩ := elem_at (show k < ls.length by rw [HM.out]; exact hlt)
    obtain ⟨_, _, hsl, _, HE⟩ := (Sl.of_own HL.out).partsT
    injection hsl with ha _ hc
    subst ha hc
    obtain ⟨vb, vo, rfl, hcell⟩ := HE.out k hlt
    rw [List.getElem?_map, hxx.out] at hcell
    have hcell : wr.cell? ⟨vb, vo + k, none⟩ = some (.string (bs x)) := hcell
    have hxl := HWM.out x (List.mem_of_getElem? hxx.out)
    have HEX := hid (fun W h => exI_let HSO.out HSB.out (bs x) (by rw [bs_size]; omega) W h)
    have HN1 := hid (stepV_ok (bs x) HSB.out HSO.out)
    have HN2 := hid (HSR.out.step HSB.out HSO.out.1 (bs x))
    generalize (stepV true S (bs x)).1 = N at *
    generalize bs (stepV true S (bs x)).2 = T at *
    generalize bs x = X at *
    have hSb : S.b.length = 19 := HSB.out
    have HSB2 := hid hSb
    have hvl := World.block_lt_of_cell? _ _ hcell
    clear HE hxl hxx
    go_upto_region 16 with fail
    go_cut [16, 17] (fun s16 s17 wx => ∃ q : Nat, s16 = .pointer (some ⟨q, 0, none⟩) ∧ s17 = .string T ∧ Hid (Bk wx q 31 (csC N.b N.d N.p N.n).toArray) ∧ Hid (Below wr.heap.size wr wx))
    case first =>
     have hNb : N.b.length = 19 := HN1.out.1
     have F := (Below.refl wr.heap.size wr).drew
     refine wp_region_held_drew (S := fun w' : World => Below wr.heap.size wr w' ∧ w'.cell? ⟨vb, vo + k, none⟩ = some (.string X)) (by kernel_rfl) ⟨F, cell_later F hcell⟩ (fun hHeld => ?_)
     generalize World.drew _ = wd at *
     refine' tkL 0 hHeld (cs := csC S.b S.d S.p S.n) (fun w' (h : Below wr.heap.size wr w' ∧ w'.cell? ⟨vb, vo + k, none⟩ = some (.string X)) => (KS.out.below h.1).range) Tryz.underlying31 (by rw [csC_len hSb]; kernel_rfl) ?_
     refine' tkZ 1 hHeld ?_
     refine' tkZ 2 hHeld ?_
     refine' tkZ 3 hHeld ?_
     refine' tkZ 4 hHeld ?_
     repeat' first
      | refine' tkZ 6 hHeld ?_
      | refine' tkZ 7 hHeld ?_
      | refine' tkZ 8 hHeld ?_
      | refine' tkZ 11 hHeld ?_
      | (refine wpAnyH_done (by decide +kernel) ?_ _
         go_wp2_with fail
         go_meet
         exact ⟨_, rfl, rfl, A, F⟩)
      | (refine rdyS [10] (rdy ?_ .nil)
         intro K hK
         rw [if_pos (by rfl)]
         refine wp_store_mid _ _ _ rfl _ _ (csC N.b N.d N.p N.n).toArray rfl rfl (A.there (by simp [csC_len hNb, zerC_len])) (by simp only [List.size_toArray, csC_len hNb]; kernel_rfl) (all_oneCell_toArray csC_one) ?_
         rw [List.toList_toArray]
         replace A := A.putC (b := zeroI) (d2 := N.d) (p2 := N.p) (n2 := N.n) zero_len hNb
         replace F := below_cells (csC N.b N.d N.p N.n) _ q 0 F hq
         generalize World.setCells _ _ _ _ = wd at *
         refine hK.out _ _ ⟨F, cell_later F hcell⟩ fun hHeld => nrm ?_
         clear hK K)
      | ((first
           | refine rdyS [5, 9] (rdy ?_ (rdy ?_ .nil))
           | refine rdyS [5] (rdy ?_ .nil)
           | refine rdyS [9] (rdy ?_ .nil)) <;>
         (intro K hK
          go_simp
          first
           | (with_reducible refine (HEX.out _ ?_).mono ?_
              · exact HT.out.on (Below.chain HB.out F)
              rintro e wd ⟨rfl, hb2⟩
              replace F := Below.chain F hb2
              try replace A := A.below hb2)
           | (have A := Bk.newC wd
              have hq := F.size
              replace F := Below.alc F (.cells zCA 31)
              unfold zCA at *
              generalize wd.heap.size = q at *
              generalize World.alloc _ _ = wd at *)
          refine hK.out _ _ ⟨F, cell_later F hcell⟩ fun hHeld => nrm ?_
          clear hK K))
    case rest =>
     obtain ⟨q, rfl, rfl, KN, HF⟩ := hcut
     have hNb : N.b.length = 19 := HN1.out.1
     have rn := KN.out.range
     have KS2 := KS.out.below HF.out
     have rt := KS2.there (n := 22) (by simp [csC_len hSb])
     have KS3 := hid (KS2.putC (b2 := N.b) (d2 := N.d) (p2 := N.p) (n2 := N.n) hSb hNb)
     have KB3 := hid ((KB.out.below HF.out).far (csC N.b N.d N.p N.n) (g2 := g11) 0 (by omega))
     have HL3 := hid (own_far (own_keep HL.out HF.out) g11 0 (csC N.b N.d N.p N.n) hg11)
     have HB3 := hid (below_cells (csC N.b N.d N.p N.n) _ g11 0 (Below.chain HB.out HF.out) hw11)
     have HNB := hid hNb
     clear KS KB HL HB HF HEX hcell
     go_wp2_with (first | (refine wpList_loadC rfl _ rfl q rfl N.b N.d N.p N.n ?_ hNb ?_; exact rn) | (refine wpList_storeC rfl _ _ rfl g11 N.b N.d N.p N.n rfl rfl ?_ hNb ?_; exact rt))
     go_roundw
     case rel => exact ⟨k + 1, N, by omega, by go_num, HNB, HN1.out.2, HN2, KS3, KB3, HL3, HB3⟩
     case measure => first | (simp [intOf]; done) | (simp [intOf]; omega)
  · obtain rfl : k = m := by omega
    have hd2 : decide ((k : Int) < (k : Int)) = false := by simp
    have hSb := HSB.out
    have HRA := hid (fun W h => replay_all hfb hg HSR.out (ok_fit HSB.out HSO.out) W h)
    have rb := csC_bench KB.out.range hfb
    have z19 : wr.cell? ⟨g11, 19, none⟩ = some (.string S.d) := by rw [KS.out.cell 19, List.getElem?_toArray]; exact (csC_at hSb).1
    have z20 : wr.cell? ⟨g11, 20, none⟩ = some (.string S.p) := by rw [KS.out.cell 20, List.getElem?_toArray]; exact (csC_at hSb).2.1
    have z21 : wr.cell? ⟨g11, 21, none⟩ = some (.int .i64 S.n) := by rw [KS.out.cell 21, List.getElem?_toArray]; exact (csC_at hSb).2.2
    clear hSb
    go_wp2_with (refine wpList_loadB rfl _ rfl g9 rfl c0.b ?_ hfb ?_; exact rb)
    refine (HRA.out _ (HT.out.on HB.out)).mono ?_
    rintro e w20 ⟨rfl, hb3⟩
    have y21 := cell_later hb3 z21
    go_wp2
    go_ret
    exact ⟨rfl, Below.chain HB.out hb3⟩
end Go.Proofs.YtohgjfdbnkjefaaGreatDoor
