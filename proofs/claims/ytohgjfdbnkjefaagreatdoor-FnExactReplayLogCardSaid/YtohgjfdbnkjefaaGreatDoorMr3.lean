import Derived.Test.YtohgjfdbnkjefaaGreatDoorMr2
import Derived.Deep.RegionHeld3
import Derived.Deep.DeepCutAuto
namespace Go.Proofs.YtohgjfdbnkjefaaGreatDoor
open Go.RowKit
set_option linter.unusedVariables false
set_option linter.unusedSimpArgs false
set_option maxRecDepth 100000
open Lib (hid)
set_option maxHeartbeats 20000000 in
theorem ReplayLogS_c (b : List Int) (d p : ByteArray) (n : Int) (w : World) (hb : b.length = 19) (hd : d.size ≤ 1048576) (hp : p.size ≤ 1048576) :
 Calls Tryz.prog 24 #[aggI b, logV d p n] w (RepOut b d p n w) := by
 have r0 := World.rangeAt_alloc (range_new w (ints b) 26) (.cells #[.string d, .string p, .int .i64 n] 29)
 have l0 := range_new (w.alloc (.cells (ints b).toArray 26)) (lgC d p n) 29
 rw [World.size_alloc] at l0
 have hb0 : Below w.heap.size w ((w.alloc (.cells (ints b).toArray 26)).alloc (.cells #[.string d, .string p, .int .i64 n] 29)) := qBl
 have hsz : w.heap.size + 1 < ((w.alloc (.cells (ints b).toArray 26)).alloc (.cells #[.string d, .string p, .int .i64 n] 29)).heap.size := by simp
 have HN := hid (fun W => sNewConsole_c b W hb)
 have hBl : (ncB b).length = 19 := by unfold ncB; split; exact hb; simp [zeroI]
 obtain ⟨B, hB⟩ : ∃ B, ncB b = B := ⟨_, rfl⟩
 have HBN := hid (show goodB b = true → B = b from fun h => by rw [← hB]; unfold ncB; rw [if_pos h])
 unfold ncV at HN
 rw [hB] at HN hBl
 have HRC := hid (fun W => l12Valid_c d p n W hd hp)
 unfold logV at HRC ⊢
 unfold aggI at *
 clear hB
 go_enter Tryz.func24, Tryz.ntmps24
 go_wp2_with (refine wpList_loadB rfl _ rfl _ rfl b r0 hb ?_)
 refine (HN.out _).mono ?_
 rintro e w1 ⟨rfl, hb1⟩
 have l1 := range_below l0 hb1
 have z1 := Nat.lt_of_lt_of_le hsz hb1.size
 have t2 := there_new w1 zCA 31 (n := 22) (by decide)
 have l2 := World.rangeAt_setCells_apart (World.rangeAt_alloc l1 (.cells zCA 31)) w1.heap.size 0 (csC B ByteArray.empty ByteArray.empty 0) (.inl (by omega))
 have c2 := World.rangeAt_setCells_same (w1.alloc (.cells zCA 31)) w1.heap.size 0 (csC B ByteArray.empty ByteArray.empty 0) (by rw [csC_len hBl]; exact t2)
 have u2 := World.there_setCells t2 w1.heap.size 0 (csC B ByteArray.empty ByteArray.empty 0)
 have HB2 := hid (below_cells (csC B ByteArray.empty ByteArray.empty 0) (w1.alloc (.cells zCA 31)) w1.heap.size 0 (Below.alc (Below.chain hb0 hb1) (.cells zCA 31)) (by omega))
 have z2 : w1.heap.size < ((w1.alloc (.cells zCA 31)).setCells w1.heap.size 0 (csC B ByteArray.empty ByteArray.empty 0)).heap.size := Nat.lt_of_lt_of_le (by simp) (grow_cells (csC B ByteArray.empty ByteArray.empty 0) (w1.alloc (.cells zCA 31)) w1.heap.size 0).size
 clear r0 l0 hb0 hb1 hsz l1 HN
 unfold zCA at *
 go_upto_region 2 with (refine wpList_storeC rfl _ _ rfl _ B ByteArray.empty ByteArray.empty 0 rfl rfl t2 hBl ?_)
 clear t2
 generalize w1.heap.size = g6 at *
 generalize World.setCells _ _ _ _ = w2 at *
 rcases hg : goodB b with _ | _
 · as_aux_lemma =>
    have HF := hid (fun w' => repOut_no (b := b) (d := d) (p := p) (n := n) (w := w) (w' := w') (fun h => by rw [hg] at h; exact absurd h.1 (by simp)))
    clear hg
    go_wp2
    exact bodyPost_ret (v := .tuple #[.int .i64 0, .bool false]) (by simp [results, Tryz.results24, go_sem]) rfl (HF.out _ HB2.out)
 go_wp2_with (refine wpList_loadL rfl _ rfl _ _ rfl d p n l2 ?_)
 refine (HRC.out _).mono ?_
 rintro e w2b ⟨ok, rfl, hok, hb3⟩
 have c2b := range_below c2 hb3
 have u2b := there_below u2 hb3
 have l2b := range_below l2 hb3
 have HB2b := hid (Below.chain HB2.out hb3)
 have z2b := Nat.lt_of_lt_of_le z2 hb3.size
 have HOK := hid hok
 clear c2 u2 l2 HB2 hb3 hok HRC z2
 have z2 := z2b
 cases ok with
 | false =>
  as_aux_lemma =>
   have HF := hid (fun w' => repOut_no (b := b) (d := d) (p := p) (n := n) (w := w) (w' := w') (fun h => by have := HOK.out.2 h.2; cases this))
   clear hg HOK
   go_wp2
   exact bodyPost_ret (v := .tuple #[.int .i64 0, .bool false]) (by simp [results, Tryz.results24, go_sem]) rfl (HF.out _ HB2b.out)
 | true =>
  obtain ⟨es0, hv0⟩ := HOK.out.1 rfl
  clear HOK
  have la : w2b.cell? ⟨w.heap.size + 1, 0, none⟩ = some (.string d) := l2b 0 _ rfl
  have lb : w2b.cell? ⟨w.heap.size + 1, 1, none⟩ = some (.string p) := l2b 1 _ rfl
  have HLO := hid (fun W => l12Open_c (d ++ p) W (by rw [ByteArray.size_append]; have := hv0.sz; rw [List.length_append, ba_len, ba_len] at this; omega))
  unfold OpenOut at HLO
  have hno : ¬ (9223372036854775807 < d.size + p.size) := by omega
  obtain ⟨DP, hDP⟩ : ∃ DP, d ++ p = DP := ⟨_, rfl⟩
  have HDP := hid hDP
  go_wp2_with fail
  rw [hDP] at HLO
  clear hDP
  refine (HLO.out _).mono ?_
  rintro e w3 ⟨v, es, rest, rfl, ho, hop, hb3⟩
  have HV : Hid (ValidL d.data.toList p.data.toList n es) := by
   show ValidL _ _ _ _
   have h1 := hv0.opens
   rw [← app_list, HDP.out] at h1
   rw [(hop.uniq h1).1]; exact hv0
  obtain ⟨va, vc, rfl, hvm, HP⟩ := (Sl.of_own ho).parts2
  have hvb : ∀ vb vo, va = some ⟨vb, vo, none⟩ → g6 < vb := fun vb vo h => by
   subst h
   exact Nat.lt_of_lt_of_le z2 (ho.lt vb rfl).1
  have HRW : Hid (∀ k e, es[k]? = some e → ∃ vb vo, va = some ⟨vb, vo, none⟩ ∧ g6 < vb ∧ w3.cell? ⟨vb, vo + k * 2, none⟩ = some (.string (bs e.1)) ∧ w3.cell? ⟨vb, vo + k * 2 + 1, none⟩ = some (.string (bs e.2))) := fun k e he => by
   obtain ⟨vb, vo, h1, h2, h3⟩ := HP.out k (List.getElem?_eq_some_iff.1 he).1
   rw [(flatR_at he).1] at h2
   rw [(flatR_at he).2] at h3
   exact ⟨vb, vo, h1, hvb vb vo h1, h2, h3⟩
  have c3 := range_below c2b hb3
  have u3 := there_below u2b hb3
  have HB3 := hid (Below.chain HB2b.out hb3)
  clear c2b u2b l2b HB2b hb3 ho HP hvb HLO la lb hop hv0 hno
  have HG := hid hg
  have HBe := hid (HBN.out hg)
  obtain ⟨m, hm⟩ : ∃ m, es.length = m := ⟨_, rfl⟩
  have HM := hid hm
  rw [hm] at hvm ⊢
  clear hg hm HBN
  go_wp2
  go_loopw [10] (fun i wr => ∃ (k : Nat) (S : Cst), k ≤ m ∧ i = .int .i64 (k : Int) ∧ Hid (RepAt (newC b) es k S) ∧ Hid (S.b.length = 19) ∧ Hid S.ok ∧ wr.rangeAt g6 0 (csC S.b S.d S.p S.n) ∧ wr.there g6 0 22 ∧ Hid (∀ k e, es[k]? = some e → ∃ vb vo, va = some ⟨vb, vo, none⟩ ∧ g6 < vb ∧ wr.cell? ⟨vb, vo + k * 2, none⟩ = some (.string (bs e.1)) ∧ wr.cell? ⟨vb, vo + k * 2 + 1, none⟩ = some (.string (bs e.2))) ∧ Below w.heap.size w wr) (fun i _ => m + 1 - (intOf i).toNat)
  case atStart =>
   refine ⟨0, newC b, by omega, rfl, RepAt.zero _ _, ?_, newC_ok HG.out, ?_, u3, HRW, HB3.out⟩
   · show b.length = 19; exact hb
   · have h := HBe.out
     rw [h] at c3; exact c3
  case round =>
   obtain ⟨k, S, hk, rfl, HRA, HSb, HSo, rk, tk, HRK, hbk⟩ := hrel
   have HB := hid hbk
   clear hbk c3 u3 HB3 HRW
   by_cases hlt : k < m
   · have hd2 : decide ((k : Int) < (m : Int)) = true := by simp; omega
     have hki : (k : Int) < (m : Int) := by omega
     obtain ⟨e, hee⟩ := elem_at (show k < es.length by rw [HM.out]; exact hlt)
     obtain ⟨vb, vo, rfl, hvb, h0, h1⟩ := HRK.out k e hee.out
     have hSb := HSb.out
     have hSfit := ok_fit HSb.out HSo.out
     have hel : e.1.length ≤ 160 := (HV.out.ok e (List.mem_of_getElem? hee.out)).l2
     have hNok := stepV_ok (bs e.1) HSb.out HSo.out
     have HSTOP := hid (fun h => HRA.out.stop hee.out h)
     have HNEXT := hid (fun h => HRA.out.next hee.out h)
     have HEX := hid (fun (W : World) => (ExecuteCommandS_c S (bs e.1) W hSfit (by rw [bs_size]; omega)).mono fun e w' h => ex_yes HSo.out h)
     obtain ⟨N, hN⟩ : ∃ N, (stepV true S (bs e.1)).1 = N := ⟨_, rfl⟩
     obtain ⟨T, hT⟩ : ∃ T, (stepV true S (bs e.1)).2 = T := ⟨_, rfl⟩
     simp only [hN, hT] at hNok HEX HSTOP HNEXT
     have hNb : N.b.length = 19 := hNok.1
     have HNO := hid hNok.2
     unfold Cst.val consV at HEX
     have HTE : Hid (T = e.2 ↔ bs T = bs e.2) := ⟨fun h => by rw [h], fun h => bs_inj h⟩
     clear hN hT hee hSfit hNok HRA HSo HSb hel
     obtain ⟨c1, hc1⟩ : ∃ c1, bs e.1 = c1 := ⟨_, rfl⟩
     obtain ⟨c2, hc2⟩ : ∃ c2, bs e.2 = c2 := ⟨_, rfl⟩
     obtain ⟨TT, hTT⟩ : ∃ TT, bs T = TT := ⟨_, rfl⟩
     rw [hc1] at h0 HEX
     rw [hc2] at h1 HTE
     rw [hTT] at HEX HTE
     clear hc1 hc2 hTT
     as_aux_lemma =>
      have zg : g6 < wr.heap.size := World.block_lt_of_cell? _ _ (csC_bench rk hSb 0 _ (by simp [ints, show 0 < S.b.length by omega]; rfl))
      go_upto_region 8 with fail
      go_cut [11, 12] (fun s9 s10 wx => ∃ g : Nat, s9 = .pointer (some ⟨g, 0, none⟩) ∧ s10 = .string TT ∧ wx.rangeAt g 0 (csC N.b N.d N.p N.n) ∧ Below wr.heap.size wr wx)
      case first =>
       refine wp_region_noPanic ?_
       have S_wd : Below wr.heap.size wr wr.drew := (Below.refl _ _).drew
       refine wp_region_held_drew (S := fun w' : World => Below wr.heap.size wr w') (by kernel_rfl) S_wd (fun hHeld => ?_)
       generalize wr.drew = wd at *
       refine' tkX 0 hHeld ?y_t1 ?r_t1
       case y_t1 =>
        refine' yieldsIf_load_mid ?hw_t1 _ _ rfl _ _ rfl (csC S.b S.d S.p S.n) _ ?hS_t1 ?hu_t1 ?hd_t1 ?hi_t1
        case hw_t1 => rfl
        case hS_t1 => exact fun (w' : World) (h : Below wr.heap.size wr w') => range_below rk h
        case hu_t1 => exact Tryz.underlying31
        case hd_t1 => rfl
        case hi_t1 => exact (by rw [csC_len hSb]; kernel_rfl)
       try simp only [Act.put, xqA, xqB, xqC]
       refine' tkY 1 hHeld ?r_t2
       try simp only [Act.put, xqA, xqB, xqC]
       refine' tkY 2 hHeld ?r_t3
       try simp only [Act.put, xqA, xqB, xqC]
       refine' tkY 3 hHeld ?r_t4
       try simp only [Act.put, xqA, xqB, xqC]
       refine' tkY 4 hHeld ?r_t5
       try simp only [Act.put, xqA, xqB, xqC]
       refine' tkX 5 hHeld ?y_t6 ?r_t6
       case y_t6 => exact Or.inl ⟨by rfl, by (intro w hSw; have c0 := cell_later hSw h0; go_simp; first | done | with_reducible rfl)⟩
       try simp only [Act.put, xqA, xqB, xqC]
       refine wpAnyH_ready (rs := [6, 10]) (by kernel_rfl) (by simp) ?_
       refine' AllReadyH.cons (o := _) ?e_k7 ?st_k7 ?more_k7
       case e_k7 => (simp only [xeA, xeB, xeC]; exact rfl)
       case st_k7 =>
        intro K hK
        go_simp
        with_reducible refine (HEX.out wd).mono ?_
        rintro e2 we8 ⟨rfl, hx9⟩
        have S_we8 := Below.chain S_wd hx9
        clear S_wd hx9
        refine hK.out _ _ S_we8 (fun hHeld => ?_)
        clear hK K
        try simp only [Act.put, xqA, xqB, xqC]
        refine' tkY 7 hHeld ?r_t10
        try simp only [Act.put, xqA, xqB, xqC]
        refine' tkY 8 hHeld ?r_t11
        try simp only [Act.put, xqA, xqB, xqC]
        refine' tkY 9 hHeld ?r_t12
        try simp only [Act.put, xqA, xqB, xqC]
        refine wpAnyH_ready (rs := [10]) (by kernel_rfl) (by simp) ?_
        refine' AllReadyH.cons (o := _) ?e_k13 ?st_k13 AllReadyH.nil
        case e_k13 => (simp only [xeA, xeB, xeC]; exact rfl)
        intro K hK
        go_simp
        have hx15 := below_one (w := we8) (.cells #[.int .i64 0, .int .i64 0, .int .i64 0, .int .i64 0, .int .i64 0, .int .i64 0, .int .i64 0, .int .i64 0, .int .i64 0, .int .i64 0, .int .i64 0, .int .i64 0, .int .i64 0, .int .i64 0, .int .i64 0, .int .i64 0, .int .i64 0, .int .i64 0, .int .i64 0, .string ⟨#[]⟩, .string ⟨#[]⟩, .int .i64 0] 31)
        have Tg_we14 := there_new we8 #[.int .i64 0, .int .i64 0, .int .i64 0, .int .i64 0, .int .i64 0, .int .i64 0, .int .i64 0, .int .i64 0, .int .i64 0, .int .i64 0, .int .i64 0, .int .i64 0, .int .i64 0, .int .i64 0, .int .i64 0, .int .i64 0, .int .i64 0, .int .i64 0, .int .i64 0, .string ⟨#[]⟩, .string ⟨#[]⟩, .int .i64 0] 31 (n := 22) (by decide)
        have S_we14 := Below.chain S_we8 hx15
        have hlg := S_we8.size
        have hng : we8.heap.size < (we8.alloc (.cells #[.int .i64 0, .int .i64 0, .int .i64 0, .int .i64 0, .int .i64 0, .int .i64 0, .int .i64 0, .int .i64 0, .int .i64 0, .int .i64 0, .int .i64 0, .int .i64 0, .int .i64 0, .int .i64 0, .int .i64 0, .int .i64 0, .int .i64 0, .int .i64 0, .int .i64 0, .string ⟨#[]⟩, .string ⟨#[]⟩, .int .i64 0] 31)).heap.size := by simp
        clear S_we8 hx15
        generalize we8.alloc (.cells #[.int .i64 0, .int .i64 0, .int .i64 0, .int .i64 0, .int .i64 0, .int .i64 0, .int .i64 0, .int .i64 0, .int .i64 0, .int .i64 0, .int .i64 0, .int .i64 0, .int .i64 0, .int .i64 0, .int .i64 0, .int .i64 0, .int .i64 0, .int .i64 0, .int .i64 0, .string ⟨#[]⟩, .string ⟨#[]⟩, .int .i64 0] 31) = we14 at *
        generalize we8.heap.size = g at *
        refine hK.out _ _ S_we14 (fun hHeld => ?_)
        clear hK K
        try simp only [Act.put, xqA, xqB, xqC]
        refine wpAnyH_ready (rs := [11]) (by kernel_rfl) (by simp) ?_
        refine' AllReadyH.cons (o := _) ?e_k16 ?st_k16 AllReadyH.nil
        case e_k16 => (simp only [xeA, xeB, xeC]; exact rfl)
        intro K hK
        rw [if_pos (by rfl)]
        refine wp_store_mid _ _ _ rfl _ _ (csC N.b N.d N.p N.n).toArray rfl rfl (by rw [show (csC N.b N.d N.p N.n).toArray.size = 22 by simp [csC_len hNb]]; exact Tg_we14) (by rw [show (csC N.b N.d N.p N.n).toArray.size = 22 by simp [csC_len hNb]]; kernel_rfl) (all_oneCell_toArray csC_one) ?_
        simp only [Act.put, xqA, xqB, xqC, List.toList_toArray]
        have Y_we17 := World.rangeAt_setCells_same we14 g 0 (csC N.b N.d N.p N.n) (by rw [csC_len hNb]; exact Tg_we14)
        have S_we17 := below_cells (csC N.b N.d N.p N.n) we14 g 0 S_we14 (by omega)
        generalize World.setCells _ _ _ _ = we17 at *
        clear S_we14 Tg_we14
        refine hK.out _ _ S_we17 (fun hHeld => ?_)
        clear hK K
        try simp only [Act.put, xqA, xqB, xqC]
        refine' tkY 12 hHeld ?r_t18
        try simp only [Act.put, xqA, xqB, xqC]
        refine wpAnyH_done (by kernel_rfl) ?_ _
        refine NoPanic.normal ?_
        go_wp2_with fail
        go_meet
        exact ⟨g, rfl, rfl, Y_we17, S_we17⟩
       case more_k7 =>
        refine' AllReadyH.cons (o := _) ?e_k19 ?st_k19 AllReadyH.nil
        case e_k19 => (simp only [xeA, xeB, xeC]; exact rfl)
        case st_k19 =>
         intro K hK
         go_simp
         have hx21 := below_one (w := wd) (.cells #[.int .i64 0, .int .i64 0, .int .i64 0, .int .i64 0, .int .i64 0, .int .i64 0, .int .i64 0, .int .i64 0, .int .i64 0, .int .i64 0, .int .i64 0, .int .i64 0, .int .i64 0, .int .i64 0, .int .i64 0, .int .i64 0, .int .i64 0, .int .i64 0, .int .i64 0, .string ⟨#[]⟩, .string ⟨#[]⟩, .int .i64 0] 31)
         have Tg_we20 := there_new wd #[.int .i64 0, .int .i64 0, .int .i64 0, .int .i64 0, .int .i64 0, .int .i64 0, .int .i64 0, .int .i64 0, .int .i64 0, .int .i64 0, .int .i64 0, .int .i64 0, .int .i64 0, .int .i64 0, .int .i64 0, .int .i64 0, .int .i64 0, .int .i64 0, .int .i64 0, .string ⟨#[]⟩, .string ⟨#[]⟩, .int .i64 0] 31 (n := 22) (by decide)
         have S_we20 := Below.chain S_wd hx21
         have hlg := S_wd.size
         have hng : wd.heap.size < (wd.alloc (.cells #[.int .i64 0, .int .i64 0, .int .i64 0, .int .i64 0, .int .i64 0, .int .i64 0, .int .i64 0, .int .i64 0, .int .i64 0, .int .i64 0, .int .i64 0, .int .i64 0, .int .i64 0, .int .i64 0, .int .i64 0, .int .i64 0, .int .i64 0, .int .i64 0, .int .i64 0, .string ⟨#[]⟩, .string ⟨#[]⟩, .int .i64 0] 31)).heap.size := by simp
         clear S_wd hx21
         generalize wd.alloc (.cells #[.int .i64 0, .int .i64 0, .int .i64 0, .int .i64 0, .int .i64 0, .int .i64 0, .int .i64 0, .int .i64 0, .int .i64 0, .int .i64 0, .int .i64 0, .int .i64 0, .int .i64 0, .int .i64 0, .int .i64 0, .int .i64 0, .int .i64 0, .int .i64 0, .int .i64 0, .string ⟨#[]⟩, .string ⟨#[]⟩, .int .i64 0] 31) = we20 at *
         generalize wd.heap.size = g at *
         refine hK.out _ _ S_we20 (fun hHeld => ?_)
         clear hK K
         try simp only [Act.put, xqA, xqB, xqC]
         refine wpAnyH_ready (rs := [6]) (by kernel_rfl) (by simp) ?_
         refine' AllReadyH.cons (o := _) ?e_k22 ?st_k22 AllReadyH.nil
         case e_k22 => (simp only [xeA, xeB, xeC]; exact rfl)
         intro K hK
         go_simp
         with_reducible refine (HEX.out we20).mono ?_
         rintro e2 we23 ⟨rfl, hx24⟩
         have hng := Nat.lt_of_lt_of_le hng hx24.size
         have Tg_we23 := there_below Tg_we20 hx24
         clear Tg_we20
         have S_we23 := Below.chain S_we20 hx24
         clear S_we20 hx24
         refine hK.out _ _ S_we23 (fun hHeld => ?_)
         clear hK K
         try simp only [Act.put, xqA, xqB, xqC]
         refine' tkY 7 hHeld ?r_t25
         try simp only [Act.put, xqA, xqB, xqC]
         refine' tkY 8 hHeld ?r_t26
         try simp only [Act.put, xqA, xqB, xqC]
         refine' tkY 9 hHeld ?r_t27
         try simp only [Act.put, xqA, xqB, xqC]
         refine wpAnyH_ready (rs := [11]) (by kernel_rfl) (by simp) ?_
         refine' AllReadyH.cons (o := _) ?e_k28 ?st_k28 AllReadyH.nil
         case e_k28 => (simp only [xeA, xeB, xeC]; exact rfl)
         intro K hK
         rw [if_pos (by rfl)]
         refine wp_store_mid _ _ _ rfl _ _ (csC N.b N.d N.p N.n).toArray rfl rfl (by rw [show (csC N.b N.d N.p N.n).toArray.size = 22 by simp [csC_len hNb]]; exact Tg_we23) (by rw [show (csC N.b N.d N.p N.n).toArray.size = 22 by simp [csC_len hNb]]; kernel_rfl) (all_oneCell_toArray csC_one) ?_
         simp only [Act.put, xqA, xqB, xqC, List.toList_toArray]
         have Y_we29 := World.rangeAt_setCells_same we23 g 0 (csC N.b N.d N.p N.n) (by rw [csC_len hNb]; exact Tg_we23)
         have S_we29 := below_cells (csC N.b N.d N.p N.n) we23 g 0 S_we23 (by omega)
         generalize World.setCells _ _ _ _ = we29 at *
         clear S_we23 Tg_we23
         refine hK.out _ _ S_we29 (fun hHeld => ?_)
         clear hK K
         try simp only [Act.put, xqA, xqB, xqC]
         refine' tkY 12 hHeld ?r_t30
         try simp only [Act.put, xqA, xqB, xqC]
         refine wpAnyH_done (by kernel_rfl) ?_ _
         refine NoPanic.normal ?_
         go_wp2_with fail
         go_meet
         exact ⟨g, rfl, rfl, Y_we29, S_we29⟩
      case rest =>
      obtain ⟨g12, rfl, rfl, c4, hB4⟩ := hcut
      generalize wc = w4b at *
      have tk4 := there_below tk hB4
      have HBW := hid hB4
      have q14 := cell_later hB4 h1
      clear rk tk HEX h0 h1 hB4
      have r4b := World.rangeAt_setCells_same w4b g6 0 (csC N.b N.d N.p N.n) (by rw [csC_len hNb]; exact tk4)
      have q15 := cell_far2 (g2 := g6) (o2 := 0) (vs := csC N.b N.d N.p N.n) q14 (by omega)
      by_cases hTe : T = e.2
      · as_aux_lemma =>
         have hse := str_eq (HTE.out.1 hTe)
         have hsn : (TT.toList != c2.toList) = false := by rw [bne, hse]; rfl
         have HN2 := hid (HNEXT.out hTe)
         have HBk := hid (Below.chain HB.out HBW.out)
         have HRK4 : Hid (∀ k e, es[k]? = some e → ∃ vb2 vo2, (some ⟨vb, vo, none⟩ : Option Addr) = some ⟨vb2, vo2, none⟩ ∧ g6 < vb2 ∧ (w4b.setCells g6 0 (csC N.b N.d N.p N.n)).cell? ⟨vb2, vo2 + k * 2, none⟩ = some (.string (bs e.1)) ∧ (w4b.setCells g6 0 (csC N.b N.d N.p N.n)).cell? ⟨vb2, vo2 + k * 2 + 1, none⟩ = some (.string (bs e.2))) := fun k e he => by
          obtain ⟨vb2, vo2, h1, h2, h3, h4⟩ := HRK.out k e he
          exact ⟨vb2, vo2, h1, h2, cell_far2 (g2 := g6) (o2 := 0) (vs := csC N.b N.d N.p N.n) (cell_later HBW.out h3) (by omega), cell_far2 (g2 := g6) (o2 := 0) (vs := csC N.b N.d N.p N.n) (cell_later HBW.out h4) (by omega)⟩
         have R5 := hid (World.rangeAt_setCells_same w4b g6 0 (csC N.b N.d N.p N.n) (by rw [csC_len hNb]; exact tk4))
         have T5 := hid (World.there_setCells tk4 g6 0 (csC N.b N.d N.p N.n))
         have HB5 := hid (below_cells (csC N.b N.d N.p N.n) w4b g6 0 HBk.out (by omega))
         clear HTE HSTOP HNEXT hTe HB HBW HRK HBk r4b q14
         go_wp2_with (first | (refine wpList_loadC rfl _ rfl _ rfl N.b N.d N.p N.n c4 hNb ?_) | (refine wpList_storeC rfl _ _ rfl _ N.b N.d N.p N.n rfl rfl tk4 hNb ?_))
         go_roundw
         case rel => exact ⟨k + 1, N, by omega, by go_num, HN2.out, hNb, HNO.out, R5.out, T5.out, HRK4, HB5.out⟩
         case measure => first | (simp [intOf]; done) | (simp [intOf]; omega)
      · as_aux_lemma =>
         have hse := str_ne (fun h => hTe (HTE.out.2 h))
         have hsn : (TT.toList != c2.toList) = true := by rw [bne, hse]; rfl
         have HF := hid (fun w' => repOut_yes (w := w) (w' := w') HG.out HV.out (HSTOP.out hTe).symm)
         have HB5 := hid (below_cells (csC N.b N.d N.p N.n) w4b g6 0 (Below.chain HB.out HBW.out) (by omega))
         clear HTE HSTOP HNEXT hTe q14 r4b
         go_wp2_with (first | (refine wpList_loadC rfl _ rfl _ rfl N.b N.d N.p N.n c4 hNb ?_) | (refine wpList_storeC rfl _ _ rfl _ N.b N.d N.p N.n rfl rfl tk4 hNb ?_))
         exact bodyPost_ret (v := .tuple #[.int .i64 (k : Int), .bool true]) (by simp [results, Tryz.results24, go_sem]) rfl (HF.out _ HB5.out)
   · obtain rfl : k = m := by omega
     have hd2 : decide ((k : Int) < (k : Int)) = false := by simp
     as_aux_lemma =>
     have hend : k = repI (newC b) es := by
      have h := HRA.out
      rw [← HM.out] at h
      rw [← HM.out]; exact h.done.symm
     have HF := hid (fun w' => repOut_yes (w := w) (w' := w') HG.out HV.out hend)
     clear hend
     go_wp2
     exact bodyPost_ret (v := .tuple #[.int .i64 (k : Int), .bool true]) (by simp [results, Tryz.results24, go_sem]) rfl (HF.out _ HB.out)
set_option maxHeartbeats 8000000 in
theorem FnExactReplayLog_walk (v0 : Value) (b : List Int) (d p : ByteArray) (n : Int) (w : World) (hb0 : v0 = aggI b ∧ b.length = 19) (hd : d.size ≤ 9223372036854775807) (hp : p.size ≤ 9223372036854775807) (ht : TabC w) :
 Calls Tryz.prog 4 #[v0, logV d p n] w fun e w' => e = .returned (.bool true) ∧ Below w.heap.size w w' := by
 obtain ⟨rfl, hb⟩ := hb0
 have r_w0 := World.rangeAt_alloc (range_new w (ints b) 51) (.cells #[.string d, .string p, .int .i64 n] 52)
 have hbw := hid (show Below w.heap.size w ((w.alloc (.cells (ints b).toArray 51)).alloc (.cells #[.string d, .string p, .int .i64 n] 52)) by exact qBl)
 have A0 := Bk.new (w.alloc (.cells (ints b).toArray 51)) 52 #[.string d, .string p, .int .i64 n]
 rw [World.size_alloc] at A0
 have q0_w0 : ((w.alloc (.cells (ints b).toArray 51)).alloc (.cells #[.string d, .string p, .int .i64 n] 52)).cell? ⟨w.heap.size + 1, 0, none⟩ = some (.string d) := A0.cell 0
 have q1_w0 : ((w.alloc (.cells (ints b).toArray 51)).alloc (.cells #[.string d, .string p, .int .i64 n] 52)).cell? ⟨w.heap.size + 1, 1, none⟩ = some (.string p) := A0.cell 1
 have q2_w0 : ((w.alloc (.cells (ints b).toArray 51)).alloc (.cells #[.string d, .string p, .int .i64 n] 52)).cell? ⟨w.heap.size + 1, 2, none⟩ = some (.int .i64 n) := A0.cell 2
 have HZ := hid (fun w' => szLog_c d p n 1048576 w' (by omega) (by omega) hd hp)
 have HTB := hid (fun w' => toBench_c b w' hb)
 have HTL := hid (fun w' => toLog_c d p n w')
 have HT := hid ht
 clear ht A0
 by_cases hs : szL d p 1048576 < 0
 · have hsd : decide (szL d p 1048576 < 0) = true := by simp; omega
   unfold aggI logV at *
   go_enter Tryz.func4, Tryz.ntmps4
   go_wp2_with fail
   refine (HZ.out _).mono ?_
   rintro e w1 ⟨rfl, hb1⟩
   go_wp2
   go_ret
   exact ⟨rfl, Below.chain hbw.out hb1⟩
 · have hcr := szL_le hs
   have hsd : decide (szL d p 1048576 < 0) = false := by simp; omega
   obtain ⟨ok, k, _, _, hdet⟩ := rep_det b d p n
   have H1 : Hid (∀ W, Calls Tryz.prog 24 #[aggI b, logV d p n] W fun e w' => e = .returned (.tuple #[.int .i64 (k : Int), .bool ok]) ∧ Below W.heap.size W w') := fun W =>
    (ReplayLogS_c b d p n W hb hcr.1 hcr.2).mono fun e w' h => hdet W e w' h
   have H2 : Hid (∀ W, TabC W → Calls Tryz.prog 27 #[aggI b, logV d p n] W fun e w' => e = .returned (.tuple #[.int .i64 (k : Int), .bool ok]) ∧ Below W.heap.size W w') := fun W h2 =>
    (ReplayLog_c b d p n W hb hcr.1 hcr.2 h2).mono fun e w' h => hdet W e w' h
   have hqq : ((k : Int) != (k : Int)) = false := by simp
   have hqo : (ok != ok) = false := by simp
   clear hdet
   unfold aggI logV at *
   go_enter Tryz.func4, Tryz.ntmps4
   go_wp2_with fail
   refine (HZ.out _).mono ?_
   rintro e w1 ⟨rfl, hb1⟩
   have r_w1 := range_below r_w0 hb1
   have q0_w1 := cell_later hb1 q0_w0
   have q1_w1 := cell_later hb1 q1_w0
   have q2_w1 := cell_later hb1 q2_w0
   have HB1 := hid (Below.chain hbw.out hb1)
   clear hb1 r_w0 q0_w0 q1_w0 q2_w0 hbw
   go_upto_region 5 with fail
   refine wp_region_noPanic ?_
   have S_wd5 : Below w1.heap.size w1 w1.drew := (Below.refl _ _).drew
   refine wp_region_held_drew (S := fun w' : World => Below w1.heap.size w1 w') (by kernel_rfl) S_wd5 (fun hHeld => ?_)
   generalize w1.drew = wd5 at *
   refine' tkX 0 hHeld ?y_t1 ?r_t1
   case y_t1 =>
    refine' yieldsIf_load_mid ?hw_t1 _ _ rfl _ _ rfl (ints b) _ ?hS_t1 ?hu_t1 ?hd_t1 ?hi_t1
    case hw_t1 => rfl
    case hS_t1 => exact fun (w' : World) (h : Below w1.heap.size w1 w') => range_below r_w1 h
    case hu_t1 => exact Tryz.underlying51
    case hd_t1 => rfl
    case hi_t1 => exact (by rw [show (ints b).length = 19 by simp [ints, hb]]; kernel_rfl)
   try simp only [Act.put, xqA, xqB, xqC]
   refine' tkX 2 hHeld ?y_t2 ?r_t2
   case y_t2 => exact Or.inl ⟨by rfl, by (intro w hSw; have c0 := cell_later hSw q0_w1; have c1 := cell_later hSw q1_w1; have c2 := cell_later hSw q2_w1; go_simp; first | done | with_reducible rfl)⟩
   try simp only [Act.put, xqA, xqB, xqC]
   refine wpAnyH_ready (rs := [1]) (by kernel_rfl) (by simp) ?_
   refine' AllReadyH.cons (o := _) ?e_k3 ?st_k3 AllReadyH.nil
   case e_k3 => (simp only [xeA, xeB, xeC]; exact rfl)
   intro K hK
   go_simp
   with_reducible refine (HTB.out wd5).mono ?_
   rintro e we4 ⟨rfl, hx5⟩
   have S_we4 := Below.chain S_wd5 hx5
   clear S_wd5 hx5
   refine hK.out _ _ S_we4 (fun hHeld => ?_)
   clear hK K
   try simp only [Act.put, xqA, xqB, xqC]
   refine wpAnyH_ready (rs := [3]) (by kernel_rfl) (by simp) ?_
   refine' AllReadyH.cons (o := _) ?e_k6 ?st_k6 AllReadyH.nil
   case e_k6 => (simp only [xeA, xeB, xeC]; exact rfl)
   intro K hK
   go_simp
   with_reducible refine (HTL.out we4).mono ?_
   rintro e we7 ⟨rfl, hx8⟩
   have S_we7 := Below.chain S_we4 hx8
   clear S_we4 hx8
   refine hK.out _ _ S_we7 (fun hHeld => ?_)
   clear hK K
   try simp only [Act.put, xqA, xqB, xqC]
   refine wpAnyH_ready (rs := [4]) (by kernel_rfl) (by simp) ?_
   refine' AllReadyH.cons (o := _) ?e_k9 ?st_k9 AllReadyH.nil
   case e_k9 => (simp only [xeA, xeB, xeC]; exact rfl)
   intro K hK
   go_simp
   with_reducible refine (H1.out we7).mono ?_
   rintro e we10 ⟨rfl, hx11⟩
   have S_we10 := Below.chain S_we7 hx11
   clear S_we7 hx11
   refine hK.out _ _ S_we10 (fun hHeld => ?_)
   clear hK K
   try simp only [Act.put, xqA, xqB, xqC]
   refine' tkY 5 hHeld ?r_t12
   try simp only [Act.put, xqA, xqB, xqC]
   refine' tkY 6 hHeld ?r_t13
   try simp only [Act.put, xqA, xqB, xqC]
   refine' tkY 7 hHeld ?r_t14
   try simp only [Act.put, xqA, xqB, xqC]
   refine' tkY 8 hHeld ?r_t15
   try simp only [Act.put, xqA, xqB, xqC]
   refine' tkY 9 hHeld ?r_t16
   try simp only [Act.put, xqA, xqB, xqC]
   refine wpAnyH_done (by kernel_rfl) ?_ _
   refine NoPanic.normal ?_
   have r_w2 := range_below r_w1 S_we10
   have q0_w2 := cell_later S_we10 q0_w1
   have q1_w2 := cell_later S_we10 q1_w1
   have q2_w2 := cell_later S_we10 q2_w1
   have HB2 := hid (Below.chain HB1.out S_we10)
   clear S_we10 r_w1 q0_w1 q1_w1 q2_w1 HB1
   generalize we10 = w2 at *
   go_upto_region 6 with fail
   refine wp_region_noPanic ?_
   have S_wd6 : Below w2.heap.size w2 w2.drew := (Below.refl _ _).drew
   refine wp_region_held_drew (S := fun w' : World => Below w2.heap.size w2 w') (by kernel_rfl) S_wd6 (fun hHeld => ?_)
   generalize w2.drew = wd6 at *
   refine' tkX 0 hHeld ?y_t17 ?r_t17
   case y_t17 =>
    refine' yieldsIf_load_mid ?hw_t17 _ _ rfl _ _ rfl (ints b) _ ?hS_t17 ?hu_t17 ?hd_t17 ?hi_t17
    case hw_t17 => rfl
    case hS_t17 => exact fun (w' : World) (h : Below w2.heap.size w2 w') => range_below r_w2 h
    case hu_t17 => exact Tryz.underlying51
    case hd_t17 => rfl
    case hi_t17 => exact (by rw [show (ints b).length = 19 by simp [ints, hb]]; kernel_rfl)
   try simp only [Act.put, xqA, xqB, xqC]
   refine' tkX 2 hHeld ?y_t18 ?r_t18
   case y_t18 => exact Or.inl ⟨by rfl, by (intro w hSw; have c0 := cell_later hSw q0_w2; have c1 := cell_later hSw q1_w2; have c2 := cell_later hSw q2_w2; go_simp; first | done | with_reducible rfl)⟩
   try simp only [Act.put, xqA, xqB, xqC]
   refine wpAnyH_ready (rs := [1]) (by kernel_rfl) (by simp) ?_
   refine' AllReadyH.cons (o := _) ?e_k19 ?st_k19 AllReadyH.nil
   case e_k19 => (simp only [xeA, xeB, xeC]; exact rfl)
   intro K hK
   go_simp
   with_reducible refine (HTB.out wd6).mono ?_
   rintro e we20 ⟨rfl, hx21⟩
   have S_we20 := Below.chain S_wd6 hx21
   clear S_wd6 hx21
   refine hK.out _ _ S_we20 (fun hHeld => ?_)
   clear hK K
   try simp only [Act.put, xqA, xqB, xqC]
   refine wpAnyH_ready (rs := [3]) (by kernel_rfl) (by simp) ?_
   refine' AllReadyH.cons (o := _) ?e_k22 ?st_k22 AllReadyH.nil
   case e_k22 => (simp only [xeA, xeB, xeC]; exact rfl)
   intro K hK
   go_simp
   with_reducible refine (HTL.out we20).mono ?_
   rintro e we23 ⟨rfl, hx24⟩
   have S_we23 := Below.chain S_we20 hx24
   clear S_we20 hx24
   refine hK.out _ _ S_we23 (fun hHeld => ?_)
   clear hK K
   try simp only [Act.put, xqA, xqB, xqC]
   refine wpAnyH_ready (rs := [4]) (by kernel_rfl) (by simp) ?_
   refine' AllReadyH.cons (o := _) ?e_k25 ?st_k25 AllReadyH.nil
   case e_k25 => (simp only [xeA, xeB, xeC]; exact rfl)
   intro K hK
   go_simp
   with_reducible refine (H2.out we23 (HT.out.on (Below.chain HB2.out S_we23))).mono ?_
   rintro e we26 ⟨rfl, hx27⟩
   have S_we26 := Below.chain S_we23 hx27
   clear S_we23 hx27
   refine hK.out _ _ S_we26 (fun hHeld => ?_)
   clear hK K
   try simp only [Act.put, xqA, xqB, xqC]
   refine' tkY 5 hHeld ?r_t28
   try simp only [Act.put, xqA, xqB, xqC]
   refine' tkY 6 hHeld ?r_t29
   try simp only [Act.put, xqA, xqB, xqC]
   refine' tkY 7 hHeld ?r_t30
   try simp only [Act.put, xqA, xqB, xqC]
   refine' tkY 8 hHeld ?r_t31
   try simp only [Act.put, xqA, xqB, xqC]
   refine' tkY 9 hHeld ?r_t32
   try simp only [Act.put, xqA, xqB, xqC]
   refine wpAnyH_done (by kernel_rfl) ?_ _
   refine NoPanic.normal ?_
   have HB3 := hid (Below.chain HB2.out S_we26)
   clear S_we26 r_w2 q0_w2 q1_w2 q2_w2 HB2
   go_wp2
   go_ret
   exact ⟨rfl, HB3.out⟩
end Go.Proofs.YtohgjfdbnkjefaaGreatDoor
