import Derived.Test.YtohgjfdbnkjefaaGreatDoorMs2
import Derived.Deep.RegionHeld3
import Derived.Deep.DeepCutAuto
namespace Go.Proofs.YtohgjfdbnkjefaaGreatDoor
open Go.RowKit
set_option linter.unusedVariables false
set_option linter.unusedSimpArgs false
set_option maxRecDepth 100000
open Lib (hid)
open Nat (lt_of_lt_of_le)
set_option maxHeartbeats 20000000 in
theorem RunScriptS_c (c : Cst) (tx : ByteArray) (w : World) (hf : c.fit) (hl : tx.size ≤ 1048576) :
 Calls Tryz.prog 32 #[c.val, .string tx] w (RunOut c tx.data.toList w) := by
 obtain ⟨i, hi, hz0, hz1, hz2⟩ := info_parts info_strx
 obtain ⟨b, d, p, n⟩ := c
 obtain ⟨hb, hd, hp⟩ := hf
 have hb : b.length = 19 := hb
 have hd : d.size ≤ 1048576 := hd
 have hp : p.size ≤ 1048576 := hp
 have hv : Cst.val ⟨b, d, p, n⟩ = .agg (csC b d p n).toArray := rfl
 rw [hv]
 obtain ⟨c, hcc⟩ : ∃ c, Cst.mk b d p n = c := ⟨_, rfl⟩
 rw [hcc]
 have HCC := hid hcc
 have r0 := World.rangeAt_alloc (range_new w (csC b d p n) 31) (.cells #[] 9)
 have t0 := World.there_alloc (there_new w (csC b d p n).toArray 31 (n := 22) (by simp [csC_len hb])) (.cells #[] 9)
 have hb0 : Below w.heap.size w ((w.alloc (.cells (csC b d p n).toArray 31)).alloc (.cells #[] 9)) := qBl
 have hsz : w.heap.size < ((w.alloc (.cells (csC b d p n).toArray 31)).alloc (.cells #[] 9)).heap.size := by simp; omega
 have hsz2 : w.heap.size + 1 < ((w.alloc (.cells (csC b d p n).toArray 31)).alloc (.cells #[] 9)).heap.size := by simp
 have HO0 := hid (World.ownsRow_lit (e := 9) (size := 1) (base := w.heap.size + 1) (w.alloc (.cells (csC b d p n).toArray 31)) #[] 0 (by simp) (by decide) rfl)
 have HV := hid (fun W => IsValidConsoleS_c b d p n W hb hd hp)
 unfold ConsOut consV at HV
 have HK : Hid (∀ ok : Bool, (ok = true ↔ (goodB b = true ∧ ∃ es, ValidL d.data.toList p.data.toList n es)) → (ok = true ↔ c.ok)) := fun ok h => by rw [← hcc]; exact h
 have hwm := split_mem 10 tx.data.toList
 have HPL := split_pos 10 tx.data.toList
 rw [ba_len] at hwm
 obtain ⟨ls, hls⟩ : ∃ ls, splitS 10 tx.data.toList = ls := ⟨_, rfl⟩
 have HSP := hid (fun W => l1Split_c tx 10 W (by omega))
 unfold SplOut at HSP
 rw [hls] at hwm HSP HPL
 have HLS := hid hls
 have hcz : ((10 : UInt8).toNat : Int) = 10 := rfl
 rw [hcz] at HSP
 obtain ⟨m, hm⟩ : ∃ m, ls.length = m := ⟨_, rfl⟩
 have HM := hid hm
 have HWM := hid hwm
 rw [hm] at HSP
 clear hv hls hwm hm hcc HPL
 go_enter Tryz.func32, Tryz.ntmps32
 go_wp2_with (refine wpList_loadC rfl _ rfl _ rfl b d p n r0 hb ?_)
 refine (HV.out _).mono ?_
 rintro e w2 ⟨ok, rfl, hok, hb1⟩
 have HOK := hid (HK.out ok hok)
 have r2 := range_below r0 hb1
 have t2 := there_below t0 hb1
 have HB2 := hid (Below.chain hb0 hb1)
 have z2 := lt_of_lt_of_le hsz hb1.size
 have HO2 : Hid (w2.ownsRow (w.heap.size + 1) 9 1 (.slice (some ⟨w.heap.size + 1, 0, none⟩) 0 0) 0 []) := by
  have := own_keep (ownsRow_cast HO0.out rfl rfl) hb1
  rw [World.size_alloc] at this
  exact this
 have z2b := lt_of_lt_of_le hsz2 hb1.size
 clear r0 t0 hb0 hsz hsz2 hb1 HV HK hok HO0
 cases ok with
 | false =>
  as_aux_lemma =>
   have HF := hid (fun w' v => runOut_no (w := w) (w' := w') (v := v) (t := tx.data.toList) false HOK.out rfl)
   go_wp2
   exact bodyPost_ret (v := .tuple #[.slice (some ⟨w.heap.size + 1, 0, none⟩) 0 0, .bool false]) (by simp [results, Tryz.results32, go_sem] <;> rfl) rfl (HF.out _ _ (own_lo HO2.out (by omega)) HB2.out)
 | true =>
  have HOKT : Hid c.ok := HOK.out.1 rfl
  clear HOK
  by_cases h40 : 4000 < tx.size
  · as_aux_lemma =>
     have h4 : decide ((4000 : Int) < (tx.size : Int)) = true := by simp; omega
     have HF := hid (fun w' v => runOut_no (w := w) (w' := w') (v := v) (t := tx.data.toList) true ⟨fun _ => HOKT.out, fun _ => rfl⟩ (by unfold runOk; rw [decide_eq_false (show ¬ tx.data.toList.length ≤ 4000 by rw [ba_len]; omega)]; simp))
     go_wp2
     exact bodyPost_ret (v := .tuple #[.slice (some ⟨w.heap.size + 1, 0, none⟩) 0 0, .bool false]) (by simp [results, Tryz.results32, go_sem] <;> rfl) rfl (HF.out _ _ (own_lo HO2.out (by omega)) HB2.out)
  have h4 : decide ((4000 : Int) < (tx.size : Int)) = false := by simp; omega
  go_wp2_with fail
  refine (HSP.out _).mono ?_
  rintro e w3 ⟨v, rfl, ho, hb1⟩
  obtain ⟨va, vc, rfl, hv1, hv2, hv3, hv4⟩ := Sl.of_own ho
  have HLC2 : Hid (∀ k x, ls[k]? = some x → ∃ vb vo, va = some ⟨vb, vo, none⟩ ∧ w.heap.size < vb ∧ w3.cell? ⟨vb, vo + k, none⟩ = some (.string (bs x))) := fun k x hx => by
   have hlt := (List.getElem?_eq_some_iff.1 hx).1
   obtain ⟨vb, vo, rfl, hvc⟩ := hv4 (by have := HM.out; omega)
   refine ⟨vb, vo, rfl, lt_of_lt_of_le z2 (ho.lt vb rfl).1, ?_⟩
   rw [hvc k (by have := HM.out; omega), List.getElem?_map, hx]; rfl
  have HVB : Hid (∀ vb vo, va = some ⟨vb, vo, none⟩ → w.heap.size + 1 < vb) := fun vb vo h => by
   subst h
   exact lt_of_lt_of_le z2b (ho.lt vb rfl).1
  have r3 := range_below r2 hb1
  have t3 := there_below t2 hb1
  have HB3 := hid (Below.chain HB2.out hb1)
  have z3 := lt_of_lt_of_le z2 hb1.size
  have HO3 := hid (own_keep HO2.out hb1)
  clear r2 t2 HB2 z2 z2b HO2 hb1 ho hv4 hv3 HSP
  unfold maxLen at hv2
  by_cases h30 : 30 < m
  · as_aux_lemma =>
     have h3 : decide ((30 : Int) < (m : Int)) = true := by simp; omega
     have HF := hid (fun w' v => runOut_no (w := w) (w' := w') (v := v) (t := tx.data.toList) true ⟨fun _ => HOKT.out, fun _ => rfl⟩ (by unfold runOk; rw [HLS.out, HM.out, decide_eq_false (show ¬ m ≤ 30 by omega)]; simp))
     go_wp2
     exact bodyPost_ret (v := .tuple #[.slice (some ⟨w.heap.size + 1, 0, none⟩) 0 0, .bool false]) (by simp [results, Tryz.results32, go_sem] <;> rfl) rfl (HF.out _ _ (own_lo HO3.out (by omega)) HB3.out)
  have h3 : decide ((30 : Int) < (m : Int)) = false := by simp; omega
  have HRO : Hid (runOk true tx.data.toList = true) := by
   show _ = _
   unfold runOk
   rw [HLS.out, HM.out, decide_eq_true (show m ≤ 30 by omega), decide_eq_true (show tx.data.toList.length ≤ 4000 by rw [ba_len]; omega)]; rfl
  have HCB : Hid (c.b.length = 19) := by show _ = _; rw [← HCC.out]; exact hb
  have hm30 : m ≤ 30 := by omega
  have NE0 : Hid (∀ q vb vo, (.slice (some ⟨w.heap.size + 1, 0, none⟩) 0 0 : Value).ownBlock = some q → va = some ⟨vb, vo, none⟩ → q ≠ vb) := fun q vb vo h h2 => by
   simp [Value.ownBlock] at h
   exact fun e => by have := HVB.out vb vo h2; omega
  go_wp2
  go_loopw [6, 8] (fun v i wr => ∃ (V : Value) (k : Nat) (S : Cst) (rs : List Bs), V = v ∧ k ≤ m ∧ i = .int .i64 (k : Int) ∧ Hid (runS c (ls.take k) = (S, rs)) ∧ wr.rangeAt w.heap.size 0 (csC S.b S.d S.p S.n) ∧ wr.there w.heap.size 0 22 ∧ wr.ownsRow (w.heap.size + 1) 9 1 v k (rs.map strV) ∧ Hid (∀ k x, ls[k]? = some x → ∃ vb vo, va = some ⟨vb, vo, none⟩ ∧ w.heap.size < vb ∧ wr.cell? ⟨vb, vo + k, none⟩ = some (.string (bs x))) ∧ Below w.heap.size w wr ∧ w.heap.size + 1 ≤ wr.heap.size ∧ Hid (∀ q vb vo, v.ownBlock = some q → va = some ⟨vb, vo, none⟩ → q ≠ vb)) (fun _ i _ => m + 1 - (intOf i).toNat)
  case atStart =>
   refine ⟨_, 0, c, [], rfl, by omega, rfl, rfl, ?_, t3, HO3.out, HLC2, HB3.out, by omega, NE0⟩
   have := HCC.out
   rw [← this]; exact r3
  case round =>
   obtain ⟨V, k, S, rs, rfl, hk, rfl, HRS, rk, tk, ho, HLC, hbk, hzk, NE⟩ := hrel
   have HO := hid ho
   have HB := hid hbk
   clear ho hbk r3 t3 HB3
   by_cases hlt : k < m
   · have hd : decide ((k : Int) < (m : Int)) = true := by simp; omega
     obtain ⟨x, hxx⟩ := elem_at (show k < ls.length by rw [HM.out]; exact hlt)
     obtain ⟨vb, vo, rfl, hvb, hcell⟩ := HLC.out k x hxx.out
     have hxl := HWM.out x (List.mem_of_getElem? hxx.out)
     have hvw0 : vb < wr.heap.size := World.block_lt_of_cell? _ _ hcell
     have hSok := runS_ok HCB.out HOKT.out (ls.take k)
     rw [HRS.out] at hSok
     have hSfit := ok_fit hSok.1 hSok.2
     have hSb : S.b.length = 19 := hSok.1
     have hNok := stepV_ok (bs x) hSok.1 hSok.2
     have HNX := hid (runS_snoc c (ls.take k) x)
     rw [HRS.out] at HNX
     obtain ⟨N, hN⟩ : ∃ N, (stepV true S (bs x)).1 = N := ⟨_, rfl⟩
     obtain ⟨T, hT⟩ : ∃ T, (stepV true S (bs x)).2 = T := ⟨_, rfl⟩
     rw [hN] at hNok
     have hNb : N.b.length = 19 := hNok.1
     have HEX := hid (fun (W : World) => (ExecuteCommandS_c S (bs x) W hSfit (by rw [bs_size]; omega)).mono fun e w' h => ex_yes hSok.2 h)
     simp only [hN, hT] at HNX HEX
     have HNX2 : Hid (runS c (ls.take (k + 1)) = (N, rs ++ [T])) := by
      show _ = _
      rw [take_snoc hxx.out]; exact HNX.out
     unfold Cst.val consV at HEX
     clear hN hT HNX hxx hSok hSfit hNok HRS hxl
     generalize bs x = X at *
     as_aux_lemma =>
      have hki : (k : Int) < (m : Int) := by omega
      go_upto_region 10 with fail
      go_cut [9, 10] (fun s9 s10 wx => ∃ g : Nat, s9 = .pointer (some ⟨g, 0, none⟩) ∧ s10 = .string (bs T) ∧ wx.rangeAt g 0 (csC N.b N.d N.p N.n) ∧ Below wr.heap.size wr wx)
      case first =>
       unfold zCA at *
       refine wp_region_noPanic ?_
       have S_wd : Below wr.heap.size wr wr.drew := (Below.refl _ _).drew
       refine wp_region_held_drew (S := fun w' : World => Below wr.heap.size wr w') (by kernel_rfl) S_wd (fun hHeld => ?_)
       generalize wr.drew = wd at *
       refine' tkX 0 hHeld ?y_t1 ?r_t1
       case y_t1 =>
        refine' yieldsIf_load_mid ?hw_t1 _ _ rfl _ _ rfl (csC S.b S.d S.p S.n) _ ?hS_t1 ?hu_t1 ?hd_t1 ?hi_t1
        case hw_t1 => rfl
        case hS_t1 => exact fun (w' : World) (h : Below wr.heap.size wr w') => range_below rk h
        case hu_t1 => exact Tryz.underlying31
        case hd_t1 => rfl
        case hi_t1 => exact (by rw [csC_len hSb]; kernel_rfl)
       try simp only [Act.put, xqA, xqB, xqC]
       refine' tkY 1 hHeld ?r_t2
       try simp only [Act.put, xqA, xqB, xqC]
       refine' tkY 2 hHeld ?r_t3
       try simp only [Act.put, xqA, xqB, xqC]
       refine' tkY 3 hHeld ?r_t4
       try simp only [Act.put, xqA, xqB, xqC]
       refine' tkX 4 hHeld ?y_t5 ?r_t5
       case y_t5 => exact Or.inl ⟨by rfl, by (intro w hSw; have c0 := cell_later hSw hcell; go_simp; first | done | with_reducible rfl)⟩
       try simp only [Act.put, xqA, xqB, xqC]
       refine wpAnyH_ready (rs := [5, 9]) (by kernel_rfl) (by simp) ?_
       refine' AllReadyH.cons (o := _) ?e_k6 ?st_k6 ?more_k6
       case e_k6 => (simp only [xeA, xeB, xeC]; exact rfl)
       case st_k6 =>
        intro K hK
        go_simp
        with_reducible refine (HEX.out wd).mono ?_
        rintro e we7 ⟨rfl, hx8⟩
        have S_we7 := Below.chain S_wd hx8
        clear S_wd hx8
        refine hK.out _ _ S_we7 (fun hHeld => ?_)
        clear hK K
        try simp only [Act.put, xqA, xqB, xqC]
        refine' tkY 6 hHeld ?r_t9
        try simp only [Act.put, xqA, xqB, xqC]
        refine' tkY 7 hHeld ?r_t10
        try simp only [Act.put, xqA, xqB, xqC]
        refine' tkY 8 hHeld ?r_t11
        try simp only [Act.put, xqA, xqB, xqC]
        refine wpAnyH_ready (rs := [9]) (by kernel_rfl) (by simp) ?_
        refine' AllReadyH.cons (o := _) ?e_k12 ?st_k12 AllReadyH.nil
        case e_k12 => (simp only [xeA, xeB, xeC]; exact rfl)
        intro K hK
        go_simp
        have hx14 := below_one (w := we7) (.cells #[.int .i64 0, .int .i64 0, .int .i64 0, .int .i64 0, .int .i64 0, .int .i64 0, .int .i64 0, .int .i64 0, .int .i64 0, .int .i64 0, .int .i64 0, .int .i64 0, .int .i64 0, .int .i64 0, .int .i64 0, .int .i64 0, .int .i64 0, .int .i64 0, .int .i64 0, .string ⟨#[]⟩, .string ⟨#[]⟩, .int .i64 0] 31)
        have Tg_we13 := there_new we7 #[.int .i64 0, .int .i64 0, .int .i64 0, .int .i64 0, .int .i64 0, .int .i64 0, .int .i64 0, .int .i64 0, .int .i64 0, .int .i64 0, .int .i64 0, .int .i64 0, .int .i64 0, .int .i64 0, .int .i64 0, .int .i64 0, .int .i64 0, .int .i64 0, .int .i64 0, .string ⟨#[]⟩, .string ⟨#[]⟩, .int .i64 0] 31 (n := 22) (by decide)
        have S_we13 := Below.chain S_we7 hx14
        have hlg := S_we7.size
        have hng : we7.heap.size < (we7.alloc (.cells #[.int .i64 0, .int .i64 0, .int .i64 0, .int .i64 0, .int .i64 0, .int .i64 0, .int .i64 0, .int .i64 0, .int .i64 0, .int .i64 0, .int .i64 0, .int .i64 0, .int .i64 0, .int .i64 0, .int .i64 0, .int .i64 0, .int .i64 0, .int .i64 0, .int .i64 0, .string ⟨#[]⟩, .string ⟨#[]⟩, .int .i64 0] 31)).heap.size := by simp
        clear S_we7 hx14
        generalize we7.alloc (.cells #[.int .i64 0, .int .i64 0, .int .i64 0, .int .i64 0, .int .i64 0, .int .i64 0, .int .i64 0, .int .i64 0, .int .i64 0, .int .i64 0, .int .i64 0, .int .i64 0, .int .i64 0, .int .i64 0, .int .i64 0, .int .i64 0, .int .i64 0, .int .i64 0, .int .i64 0, .string ⟨#[]⟩, .string ⟨#[]⟩, .int .i64 0] 31) = we13 at *
        generalize we7.heap.size = g at *
        refine hK.out _ _ S_we13 (fun hHeld => ?_)
        clear hK K
        try simp only [Act.put, xqA, xqB, xqC]
        refine wpAnyH_ready (rs := [10]) (by kernel_rfl) (by simp) ?_
        refine' AllReadyH.cons (o := _) ?e_k15 ?st_k15 AllReadyH.nil
        case e_k15 => (simp only [xeA, xeB, xeC]; exact rfl)
        intro K hK
        rw [if_pos (by rfl)]
        refine wp_store_mid _ _ _ rfl _ _ (csC N.b N.d N.p N.n).toArray rfl rfl (by rw [show (csC N.b N.d N.p N.n).toArray.size = 22 by simp [csC_len hNb]]; exact Tg_we13) (by rw [show (csC N.b N.d N.p N.n).toArray.size = 22 by simp [csC_len hNb]]; kernel_rfl) (all_oneCell_toArray csC_one) ?_
        simp only [Act.put, xqA, xqB, xqC, List.toList_toArray]
        have Y_we16 := World.rangeAt_setCells_same we13 g 0 (csC N.b N.d N.p N.n) (by rw [csC_len hNb]; exact Tg_we13)
        have S_we16 := below_cells (csC N.b N.d N.p N.n) we13 g 0 S_we13 (by omega)
        generalize World.setCells _ _ _ _ = we16 at *
        clear S_we13 Tg_we13
        refine hK.out _ _ S_we16 (fun hHeld => ?_)
        clear hK K
        try simp only [Act.put, xqA, xqB, xqC]
        refine' tkY 11 hHeld ?r_t17
        try simp only [Act.put, xqA, xqB, xqC]
        refine wpAnyH_done (by kernel_rfl) ?_ _
        refine NoPanic.normal ?_
        go_wp2_with fail
        go_meet
        exact ⟨g, rfl, rfl, Y_we16, S_we16⟩
       case more_k6 =>
        refine' AllReadyH.cons (o := _) ?e_k18 ?st_k18 AllReadyH.nil
        case e_k18 => (simp only [xeA, xeB, xeC]; exact rfl)
        case st_k18 =>
         intro K hK
         go_simp
         have hx20 := below_one (w := wd) (.cells #[.int .i64 0, .int .i64 0, .int .i64 0, .int .i64 0, .int .i64 0, .int .i64 0, .int .i64 0, .int .i64 0, .int .i64 0, .int .i64 0, .int .i64 0, .int .i64 0, .int .i64 0, .int .i64 0, .int .i64 0, .int .i64 0, .int .i64 0, .int .i64 0, .int .i64 0, .string ⟨#[]⟩, .string ⟨#[]⟩, .int .i64 0] 31)
         have Tg_we19 := there_new wd #[.int .i64 0, .int .i64 0, .int .i64 0, .int .i64 0, .int .i64 0, .int .i64 0, .int .i64 0, .int .i64 0, .int .i64 0, .int .i64 0, .int .i64 0, .int .i64 0, .int .i64 0, .int .i64 0, .int .i64 0, .int .i64 0, .int .i64 0, .int .i64 0, .int .i64 0, .string ⟨#[]⟩, .string ⟨#[]⟩, .int .i64 0] 31 (n := 22) (by decide)
         have S_we19 := Below.chain S_wd hx20
         have hlg := S_wd.size
         have hng : wd.heap.size < (wd.alloc (.cells #[.int .i64 0, .int .i64 0, .int .i64 0, .int .i64 0, .int .i64 0, .int .i64 0, .int .i64 0, .int .i64 0, .int .i64 0, .int .i64 0, .int .i64 0, .int .i64 0, .int .i64 0, .int .i64 0, .int .i64 0, .int .i64 0, .int .i64 0, .int .i64 0, .int .i64 0, .string ⟨#[]⟩, .string ⟨#[]⟩, .int .i64 0] 31)).heap.size := by simp
         clear S_wd hx20
         generalize wd.alloc (.cells #[.int .i64 0, .int .i64 0, .int .i64 0, .int .i64 0, .int .i64 0, .int .i64 0, .int .i64 0, .int .i64 0, .int .i64 0, .int .i64 0, .int .i64 0, .int .i64 0, .int .i64 0, .int .i64 0, .int .i64 0, .int .i64 0, .int .i64 0, .int .i64 0, .int .i64 0, .string ⟨#[]⟩, .string ⟨#[]⟩, .int .i64 0] 31) = we19 at *
         generalize wd.heap.size = g at *
         refine hK.out _ _ S_we19 (fun hHeld => ?_)
         clear hK K
         try simp only [Act.put, xqA, xqB, xqC]
         refine wpAnyH_ready (rs := [5]) (by kernel_rfl) (by simp) ?_
         refine' AllReadyH.cons (o := _) ?e_k21 ?st_k21 AllReadyH.nil
         case e_k21 => (simp only [xeA, xeB, xeC]; exact rfl)
         intro K hK
         go_simp
         with_reducible refine (HEX.out we19).mono ?_
         rintro e we22 ⟨rfl, hx23⟩
         have hng := lt_of_lt_of_le hng hx23.size
         have Tg_we22 := there_below Tg_we19 hx23
         clear Tg_we19
         have S_we22 := Below.chain S_we19 hx23
         clear S_we19 hx23
         refine hK.out _ _ S_we22 (fun hHeld => ?_)
         clear hK K
         try simp only [Act.put, xqA, xqB, xqC]
         refine' tkY 6 hHeld ?r_t24
         try simp only [Act.put, xqA, xqB, xqC]
         refine' tkY 7 hHeld ?r_t25
         try simp only [Act.put, xqA, xqB, xqC]
         refine' tkY 8 hHeld ?r_t26
         try simp only [Act.put, xqA, xqB, xqC]
         refine wpAnyH_ready (rs := [10]) (by kernel_rfl) (by simp) ?_
         refine' AllReadyH.cons (o := _) ?e_k27 ?st_k27 AllReadyH.nil
         case e_k27 => (simp only [xeA, xeB, xeC]; exact rfl)
         intro K hK
         rw [if_pos (by rfl)]
         refine wp_store_mid _ _ _ rfl _ _ (csC N.b N.d N.p N.n).toArray rfl rfl (by rw [show (csC N.b N.d N.p N.n).toArray.size = 22 by simp [csC_len hNb]]; exact Tg_we22) (by rw [show (csC N.b N.d N.p N.n).toArray.size = 22 by simp [csC_len hNb]]; kernel_rfl) (all_oneCell_toArray csC_one) ?_
         simp only [Act.put, xqA, xqB, xqC, List.toList_toArray]
         have Y_we28 := World.rangeAt_setCells_same we22 g 0 (csC N.b N.d N.p N.n) (by rw [csC_len hNb]; exact Tg_we22)
         have S_we28 := below_cells (csC N.b N.d N.p N.n) we22 g 0 S_we22 (by omega)
         generalize World.setCells _ _ _ _ = we28 at *
         clear S_we22 Tg_we22
         refine hK.out _ _ S_we28 (fun hHeld => ?_)
         clear hK K
         try simp only [Act.put, xqA, xqB, xqC]
         refine' tkY 11 hHeld ?r_t29
         try simp only [Act.put, xqA, xqB, xqC]
         refine wpAnyH_done (by kernel_rfl) ?_ _
         refine NoPanic.normal ?_
         go_wp2_with fail
         go_meet
         exact ⟨g, rfl, rfl, Y_we28, S_we28⟩
      case rest =>
      obtain ⟨g10, rfl, rfl, c4, hB4⟩ := hcut
      generalize wc = w4b at *
      have tk4 := there_below tk hB4
      clear rk HEX hcell
      have HO4 := own_keep HO.out hB4
      have HLC4 : Hid (∀ k x, ls[k]? = some x → ∃ vb2 vo2, (some ⟨vb, vo, none⟩ : Option Addr) = some ⟨vb2, vo2, none⟩ ∧ w.heap.size < vb2 ∧ w4b.cell? ⟨vb2, vo2 + k, none⟩ = some (.string (bs x))) := fun k x hx => by
       obtain ⟨vb2, vo2, h1, h2, h3⟩ := HLC.out k x hx
       exact ⟨vb2, vo2, h1, h2, cell_later hB4 h3⟩
      have HB4 := hid (Below.chain HB.out hB4)
      have z4b := Nat.le_trans hzk hB4.size
      have hvw := lt_of_lt_of_le hvw0 (Nat.le_trans hB4.size (grow_cells (csC N.b N.d N.p N.n) w4b w.heap.size 0).size)
      have t5 := World.there_setCells tk4 w.heap.size 0 (csC N.b N.d N.p N.n)
      have r5 := World.rangeAt_setCells_same w4b w.heap.size 0 (csC N.b N.d N.p N.n) (by rw [csC_len hNb]; exact tk4)
      have HB5 := hid (below_cells (csC N.b N.d N.p N.n) w4b w.heap.size 0 HB4.out (by omega))
      have HO5 := hid (own_far HO4 w.heap.size 0 (csC N.b N.d N.p N.n) (by omega))
      have HLC5 : Hid (∀ k x, ls[k]? = some x → ∃ vb2 vo2, (some ⟨vb, vo, none⟩ : Option Addr) = some ⟨vb2, vo2, none⟩ ∧ w.heap.size < vb2 ∧ (w4b.setCells w.heap.size 0 (csC N.b N.d N.p N.n)).cell? ⟨vb2, vo2 + k, none⟩ = some (.string (bs x))) := fun k x hx => by
       obtain ⟨vb2, vo2, h1, h2, h3⟩ := HLC4.out k x hx
       exact ⟨vb2, vo2, h1, h2, cell_far2 (g2 := w.heap.size) (o2 := 0) (vs := csC N.b N.d N.p N.n) h3 (by omega)⟩
      have z5 : w.heap.size + 1 ≤ (w4b.setCells w.heap.size 0 (csC N.b N.d N.p N.n)).heap.size := Nat.le_trans z4b (grow_cells (csC N.b N.d N.p N.n) w4b w.heap.size 0).size
      have R5 := hid r5
      have T5 := hid t5
      have Z5 := hid z5
      have HVW := hid hvw
      clear tk HB HB4 HO HO4 HLC HLC4 hB4 z4b hzk r5 t5 z5 hvw
      go_upto_region 12 with (first | (refine wpList_loadC rfl _ rfl _ rfl N.b N.d N.p N.n c4 hNb ?_) | (refine wpList_storeC rfl _ _ rfl _ N.b N.d N.p N.n rfl rfl tk4 hNb ?_))
      clear c4 tk4
      generalize World.setCells w4b _ _ _ = w5 at *
      have z5 := Z5.out
      have hvw := HVW.out
      as_aux_lemma =>
      go_wp2_with (at_builtin; refine wpList_append_own_at _ rfl _ _ 48 rfl (w.heap.size + 1) 9 i (.string ⟨#[]⟩) 1 16 Tryz.underlying48 hi hz0 hz1 hz2 rfl (by decide) _ k (rs.map strV) rfl (HO5.out.alloc _) ⟨w5.heap.size, 0, none⟩ 1 1 [.string (bs T)] rfl rfl (news_new _ [.string (bs T)] _) (by simp [Value.oneCell']) (by unfold maxLen; omega) (by omega) (by simp only [World.size_alloc]; omega) ?_)
      intro v' w6 ho6 hg6 _ hat
      have hga := below_one (w := w5) (.cells [Value.string (bs T)].toArray 9)
      have HBG : Hid (∀ g, g < w5.heap.size → (∀ q, V.ownBlock = some q → g ≠ q) → w6.heap[g]? = w5.heap[g]?) := fun g hg hne => (hg6.block g (by rw [World.size_alloc]; omega) (fun e => hne g e.symm rfl)).trans (hga.block g hg)
      have zL : w.heap.size < w5.heap.size := by omega
      have q1 : w6.heap[w.heap.size]? = w5.heap[w.heap.size]? := HBG.out _ zL (fun q hq e => by have := (HO5.out.lt q hq).1; omega)
      have r6 := range_block R5.out q1
      have t6 := there_block T5.out q1
      have HLC6 : Hid (∀ k x, ls[k]? = some x → ∃ vb2 vo2, (some ⟨vb, vo, none⟩ : Option Addr) = some ⟨vb2, vo2, none⟩ ∧ w.heap.size < vb2 ∧ w6.cell? ⟨vb2, vo2 + k, none⟩ = some (.string (bs x))) := fun k x hx => by
       obtain ⟨vb2, vo2, h1, h2, h3⟩ := HLC5.out k x hx
       exact ⟨vb2, vo2, h1, h2, (World.cell?_of_block (w := w5) (a := ⟨vb2, vo2 + k, none⟩) (HBG.out vb2 (World.block_lt_of_cell? _ _ h3) (fun q hq e => NE.out q vb2 vo2 hq h1 e.symm))).trans h3⟩
      have NE6 : Hid (∀ q vb2 vo2, v'.ownBlock = some q → (some ⟨vb, vo, none⟩ : Option Addr) = some ⟨vb2, vo2, none⟩ → q ≠ vb2) := fun q vb2 vo2 hq h1 => by
       rcases hat with h | h
       · exact NE.out q vb2 vo2 (by rw [← h]; exact hq) h1
       · rw [h] at hq
         injection hq with hq
         injection h1 with h1
         injection h1 with h1
         omega
      have HB6 := hid ((Below.alc HB5.out _).grown hg6 (by simp only [World.size_alloc]; omega) (fun g hg => by have := (HO5.out.lt g hg).1; omega))
      have z6 : w.heap.size + 1 ≤ w6.heap.size := by have h1 := hg6.size; rw [World.size_alloc] at h1; omega
      have HO6 := hid ho6
      have hvl : vb < w5.heap.size := hvw
      clear ho6 hg6 HB5 HO5 R5 T5 HLC5 HBG q1 hga
      have R6 := hid r6
      have T6 := hid t6
      clear r6 t6
      go_wp2
      go_roundw
      case rel => exact ⟨_, k + 1, N, rs ++ [T], rfl, by omega, by go_num, HNX2.out, R6.out, T6.out, ownsRow_cast HO6.out rfl (by rw [List.map_append]; rfl), HLC6, HB6.out, z6, NE6⟩
      case measure => first | (simp [intOf]; done) | (simp [intOf]; omega)
   · obtain rfl : k = m := by omega
     have hd : decide ((k : Int) < (k : Int)) = false := by simp
     as_aux_lemma =>
     have HE2 : Hid (rs = (runS c (splitS 10 tx.data.toList)).2) := by
      show _ = _
      have h := HRS.out
      rw [← HM.out, List.take_length] at h
      rw [HLS.out, h]
     have hrl : rs.length = k := by rw [HE2.out, HLS.out, runS_len]; exact HM.out
     have HF := hid (fun w' v => runOut_yes (w := w) (w' := w') (v := v) HOKT.out HRO.out HE2.out)
     rw [hrl] at HF
     clear hrl
     obtain ⟨ua, uc, rfl, _⟩ := (Sl.of_own HO.out).slice
     go_wp2
     exact bodyPost_ret (v := .tuple #[.slice ua k uc, .bool true]) (by simp [results, Tryz.results32, go_sem] <;> rfl) rfl (HF.out _ _ (own_lo HO.out (by omega)) HB.out)
theorem Sl.parts1 {w : World} {v : Value} {n : Nat} {xs : List Value} (h : Sl w 1 v n xs) : ∃ a c, v = .slice a n c ∧ n ≤ 9223372036854775807 ∧
 Hid (∀ k, k < n → ∃ b off, a = some ⟨b, off, none⟩ ∧ w.cell? ⟨b, off + k, none⟩ = xs[k]?) := by
 obtain ⟨a, c, rfl, h1, h2, h3, h4⟩ := h
 refine ⟨a, c, rfl, by unfold maxLen at h2; omega, fun k hk => ?_⟩
 obtain ⟨b, off, rfl, hc⟩ := h4 (by omega)
 exact ⟨b, off, rfl, hc k (by omega)⟩
set_option maxHeartbeats 1000000 in
theorem eqStringS_c (v1 v2 : Value) (es : List Bs) (w : World) (h1 : Sl w 1 v1 es.length (es.map strV)) (h2 : Sl w 1 v2 es.length (es.map strV)) :
 Calls Tryz.prog 34 #[v1, v2] w fun e w' => e = .returned (.bool true) ∧ Below w.heap.size w w' := by
 obtain ⟨a1, c1, rfl, hm1, H1⟩ := h1.parts1
 obtain ⟨a2, c2, rfl, _, H2⟩ := h2.parts1
 obtain ⟨m, hm⟩ : ∃ m, es.length = m := ⟨_, rfl⟩
 have HM := hid hm
 have hlb : ((m : Int) != (m : Int)) = false := by simp
 rw [hm] at H1 H2 hm1 ⊢
 clear h1 h2 hm
 go_enter Tryz.func34, Tryz.ntmps34
 go_wp2
 go_loopw [5] (fun i wr => ∃ k : Nat, k ≤ m ∧ i = .int .i64 k ∧ Below w.heap.size w wr) (fun i _ => m - (intOf i).toNat)
 case atStart => exact ⟨0, by omega, rfl, Below.refl _ _⟩
 case round =>
  obtain ⟨k, hk, rfl, hb⟩ := hrel
  by_cases hlt : k < m
  · have hd : decide ((k : Int) < (m : Int)) = true := by simp; omega
    obtain ⟨e, he⟩ := elem_at (show k < es.length by rw [HM.out]; exact hlt)
    obtain ⟨b1, o1, rfl, f1⟩ := H1.out k hlt
    obtain ⟨b2, o2, rfl, f2⟩ := H2.out k hlt
    rw [List.getElem?_map, he.out] at f1 f2
    have g1 := cell_later hb (show w.cell? ⟨b1, o1 + k, none⟩ = some (.string (bs e)) from f1)
    have g2 := cell_later hb (show w.cell? ⟨b2, o2 + k, none⟩ = some (.string (bs e)) from f2)
    have hb2 := hb.drew
    clear f1 f2 he
    generalize bs e = X at *
    have hse := str_eq (rfl : X = X)
    have hsn : (X.toList != X.toList) = false := by simp
    go_wp2
    go_region
    go_wp2
    go_roundw
    case rel => exact ⟨k + 1, by omega, by go_num, hb2⟩
    case measure => simp [intOf]; omega
  · obtain rfl : k = m := by omega
    have hd : decide ((k : Int) < (k : Int)) = false := by simp
    go_wp2
    go_ret
    exact ⟨rfl, hb⟩
set_option maxHeartbeats 2000000 in
theorem markStringS_c (v : Value) (n : Nat) (xs : List Value) (lo : Nat) (e0 : TypeId) (w : World) (ho : w.ownsRow lo e0 1 v n xs) (hst : ∀ x ∈ xs, ∃ s, x = .string s) (hn : n ≤ 1000) :
 Calls Tryz.prog 35 #[v, .int .i64 1] w fun e w' => e = .returned (.int .i64 (1 + (n : Int))) ∧ w'.ownsRow lo e0 1 v n (mkL 1 n) ∧ w.grownBy w' v.ownBlock := by
 have hxl : xs.length = n := by have := ho.1; omega
 by_cases hz : n = 0
 · subst hz
   obtain ⟨a, c, rfl, _⟩ := (Sl.of_own ho).slice
   have hx : xs = [] := List.eq_nil_of_length_eq_zero (by omega)
   subst hx
   go_enter Tryz.func35, Tryz.ntmps35
   go_wp2
   refine wp_loop_rounds 1 ?_
   rw [rounds_succ]
   go_wp2
   go_ret
   exact ⟨int_ret (by simp), ho, World.grownBy.refl _ _⟩
 · obtain ⟨g, cap, hv, hlo, hlt, _⟩ := own_form ho (by omega)
   subst hv
   have HS : Hid (∀ (m : Nat) j, j < n → ∃ s, (mkL 1 m ++ xs.drop m)[j]? = some (.string s)) := fun m j hj => by
    by_cases hjm : j < m
    · exact ⟨_, by rw [List.getElem?_append_left (by rw [mkL_len]; exact hjm), mkL_at hjm]⟩
    · rw [List.getElem?_append_right (by rw [mkL_len]; omega), mkL_len, List.getElem?_drop, show m + (j - m) = j by omega, List.getElem?_eq_getElem (by omega)]
      obtain ⟨s, hs⟩ := hst _ (List.getElem_mem (show j < xs.length by omega))
      exact ⟨s, by rw [hs]⟩
   have HX := hid hxl
   clear hst hxl
   go_enter Tryz.func35, Tryz.ntmps35
   go_wp2
   go_loopw [5, 1] (fun i q wr => ∃ k : Nat, k ≤ n ∧ i = .int .i64 k ∧ q = .int .i64 (((1 + k : Nat)) : Int) ∧ wr.ownsRow lo e0 1 (.slice (some ⟨g, 0, none⟩) n cap) n (mkL 1 k ++ xs.drop k) ∧ w.grownBy wr (some g)) (fun i _ _ => n - (intOf i).toNat)
   case atStart => exact ⟨0, by omega, rfl, rfl, by simpa [mkL] using ho, World.grownBy.refl _ _⟩
   case round =>
    obtain ⟨k, hk, rfl, rfl, ho1, hg1⟩ := hrel
    clear ho
    have HO1 := hid ho1
    have HG1 := hid hg1
    clear ho1 hg1
    by_cases hlt2 : k < n
    · have hd : decide ((k : Int) < (n : Int)) = true := by simp; omega
      go_wp2_with fail
      refine (markText_c (1 + k) (by omega) (by omega) _).mono ?_
      rintro e w1 ⟨rfl, hb1⟩
      have ho2 := own_keep HO1.out hb1
      obtain ⟨s1, hs1⟩ := HS.out k k (by omega)
      have q1 : w1.cell? ⟨g, k, none⟩ = some (.string s1) := (ho2.cellAt _ (by omega)).trans hs1
      have q2 := ho2.frozenAt k
      have h3 := ho2.stored k (.string (mkS (1 + k)))
      have e3 := mkL_set (k0 := 1) (m := k) (xs := xs) (by have := HX.out; omega)
      have ho3 := h3.1
      rw [e3] at ho3
      have HO3 := hid ho3
      have HG3 := hid ((HG1.out.trans (gr_some (Below.gr hb1))).trans h3.2)
      clear ho2 h3 e3 ho3 hs1 hb1 HO1 HG1
      go_wp2
      go_roundw
      case rel => exact ⟨k + 1, by omega, by go_num, by go_num, HO3.out, HG3.out⟩
      case measure => simp [intOf]; omega
    · obtain rfl : k = n := by omega
      go_wp2
      go_ret
      refine ⟨int_ret (by omega), ?_, HG1.out⟩
      have := HO1.out
      rw [List.drop_of_length_le (by have := HX.out; omega), List.append_nil] at this
      exact this
set_option maxHeartbeats 2000000 in
theorem heldStringS_c (v : Value) (n : Nat) (w : World) (hv : Sl w 1 v n (mkL 1 n)) (hn : n ≤ 1000) :
 Calls Tryz.prog 36 #[v, .int .i64 1] w fun e w' => e = .returned (.int .i64 (1 + (n : Int))) ∧ Below w.heap.size w w' := by
 obtain ⟨a, c, rfl, hm, HC⟩ := hv.parts1
 clear hv
 go_enter Tryz.func36, Tryz.ntmps36
 go_wp2
 go_loopw [5, 1] (fun i q wr => ∃ k : Nat, k ≤ n ∧ i = .int .i64 k ∧ q = .int .i64 (((1 + k : Nat)) : Int) ∧ Below w.heap.size w wr) (fun i _ _ => n - (intOf i).toNat)
 case atStart => exact ⟨0, by omega, rfl, rfl, Below.refl _ _⟩
 case round =>
  obtain ⟨k, hk, rfl, rfl, hb⟩ := hrel
  by_cases hlt : k < n
  · have hd : decide ((k : Int) < (n : Int)) = true := by simp; omega
    obtain ⟨b, off, rfl, g0⟩ := HC.out k hlt
    rw [mkL_at hlt] at g0
    have q0 := cell_later hb g0
    clear g0
    have t0 := str_eq (rfl : mkS (1 + k) = mkS (1 + k))
    have t1 : ((mkS (1 + k)).toList != (mkS (1 + k)).toList) = false := by simp
    have M0 := hid (fun w => markText_c (1 + k) (by omega) (by omega) w)
    generalize mkS (1 + k) = X at *
    go_wp2_with fail
    go_region_held3 (fun w' => w'.cell? ⟨b, off + k, none⟩ = some (.string X)) (first | go_keep | exact cell_later hb2 ‹_›)
     (first | (go_at_call 78; refine (M0.out _).mono ?_; rintro e w2 ⟨rfl, hb2⟩))
    have hb3 : Below w.heap.size w _ := Below.chain hb.drew hb2
    clear hb hb2 q0
    go_wp2
    go_roundw
    case rel => exact ⟨k + 1, by omega, by go_num, by go_num, hb3⟩
    case measure => simp [intOf]; omega
  · obtain rfl : k = n := by omega
    go_wp2
    go_ret
    exact ⟨int_ret (by omega), hb⟩
theorem run_det (c : Cst) (t : Bs) : ∃ (rs : List Bs) (ok : Bool), rs.length ≤ 30 ∧ ∀ w e w', RunOut c t w e w' → ∃ v, e = .returned (.tuple #[v, .bool ok]) ∧ w'.ownsRow w.heap.size 9 1 v rs.length (rs.map strV) ∧ Below w.heap.size w w' := by
 have hle : ∀ ok, (runR ok c t).length ≤ 30 := fun ok => by
  unfold runR
  split
  · rename_i h
    unfold runOk at h
    simp only [Bool.and_eq_true, decide_eq_true_eq] at h
    rw [runS_len]; exact h.2.1
  · exact Nat.zero_le _
 by_cases h : c.ok
 · refine ⟨runR true c t, runOk true t, hle true, fun w e w' ho => ?_⟩
   obtain ⟨ok, v, rfl, hi, h1, h2⟩ := ho
   have := hi.2 h
   subst this
   exact ⟨v, rfl, h1, h2⟩
 · refine ⟨runR false c t, runOk false t, hle false, fun w e w' ho => ?_⟩
   obtain ⟨ok, v, rfl, hi, h1, h2⟩ := ho
   cases ok with
   | true => exact absurd (hi.1 rfl) h
   | false => exact ⟨v, rfl, h1, h2⟩
theorem strs_str (rs : List Bs) : ∀ x ∈ rs.map strV, ∃ s, x = .string s := fun x hx => by
 obtain ⟨s, _, rfl⟩ := List.mem_map.1 hx
 exact ⟨_, rfl⟩
set_option maxHeartbeats 8000000 in
theorem FnExactRunScript_walk (b : List Int) (d p : ByteArray) (n : Int) (tx : ByteArray) (w : World) (hb : b.length = 19) (hd : d.size ≤ 9223372036854775807) (hp : p.size ≤ 9223372036854775807) (hl : tx.size ≤ 9223372036854775807) (ht : TabC w) :
 Calls Tryz.prog 6 #[consV b d p n, .string tx] w fun e w' => e = .returned (.bool true) ∧ Below w.heap.size w w' := by
 have r0 := range_new w (csC b d p n) 59
 have hsz : w.heap.size < (w.alloc (.cells (csC b d p n).toArray 59)).heap.size := by simp
 have hb0 := hid (below_one (w := w) (.cells (csC b d p n).toArray 59))
 have HZ := hid (fun w' => szConsole_c b d p n w' hb hd hp)
 have HT := hid (fun w' => toConsole_c b d p n w' hb)
 have HTB := hid ht
 clear ht
 by_cases hbig : (1048576 : Int) < (tx.size : Int)
 · have hbd : decide ((1048576 : Int) < (tx.size : Int)) = true := by simp; omega
   unfold consV at *
   clear hbig
   go_enter Tryz.func6, Tryz.ntmps6
   go_wp2
   go_ret
   exact ⟨rfl, hb0.out⟩
 have hbd : decide ((1048576 : Int) < (tx.size : Int)) = false := by simp; omega
 have hll : tx.size ≤ 1048576 := by omega
 clear hbig
 by_cases hs : szL d p 1048576 < 0
 · have hsd : decide (szL d p 1048576 < 0) = true := by simp; omega
   unfold consV at *
   go_enter Tryz.func6, Tryz.ntmps6
   go_wp2_with (refine wpList_loadCL rfl _ rfl _ rfl b d p n r0 hb ?_)
   refine (HZ.out _).mono ?_
   rintro e w1 ⟨rfl, hb1⟩
   go_wp2
   go_ret
   exact ⟨rfl, Below.chain hb0.out hb1⟩
 · have hcr := szL_le hs
   have hsd : decide (szL d p 1048576 < 0) = false := by simp; omega
   have hfit : Cst.fit ⟨b, d, p, n⟩ := ⟨hb, hcr.1, hcr.2⟩
   obtain ⟨rs, ok, hrl, hdet⟩ := run_det ⟨b, d, p, n⟩ tx.data.toList
   have H1 : Hid (∀ W, Calls Tryz.prog 32 #[consV b d p n, .string tx] W fun e w' => ∃ v, e = .returned (.tuple #[v, .bool ok]) ∧ w'.ownsRow W.heap.size 9 1 v rs.length (rs.map strV) ∧ Below W.heap.size W w') := fun W =>
    (RunScriptS_c ⟨b, d, p, n⟩ tx W hfit hll).mono fun e w' h => hdet W e w' h
   have H2 : Hid (∀ W, TabC W → Calls Tryz.prog 33 #[consV b d p n, .string tx] W fun e w' => ∃ v, e = .returned (.tuple #[v, .bool ok]) ∧ w'.ownsRow W.heap.size 9 1 v rs.length (rs.map strV) ∧ Below W.heap.size W w') := fun W h2 =>
    (RunScript_c ⟨b, d, p, n⟩ tx W hfit hll h2).mono fun e w' h => hdet W e w' h
   have hqq : (ok != ok) = false := by simp
   have hqm : ((1 + (rs.length : Int)) != (1 + (rs.length : Int))) = false := by simp
   have hqd : decide ((1 + (rs.length : Int)) < 0) = false := by simp; omega
   clear hdet hfit
   unfold consV at *
   go_enter Tryz.func6, Tryz.ntmps6
   go_wp2_with (refine wpList_loadCL rfl _ rfl _ rfl b d p n r0 hb ?_)
   refine (HZ.out _).mono ?_
   rintro e w1 ⟨rfl, hb1⟩
   have r1 := range_below r0 hb1
   have z1 := lt_of_lt_of_le hsz hb1.size
   have HB1 := hid (Below.chain hb0.out hb1)
   clear hb1 r0 hb0 hsz
   go_wp2_with (refine wpList_loadCL rfl _ rfl _ rfl b d p n r1 hb ?_)
   refine (HT.out _).mono ?_
   rintro e w2 ⟨rfl, hb1⟩
   have r2 := range_below r1 hb1
   have z2 := lt_of_lt_of_le z1 hb1.size
   have HB2 := hid (Below.chain HB1.out hb1)
   clear hb1 r1 HB1 z1
   go_wp2_with fail
   refine (H1.out _).mono ?_
   rintro e w3 ⟨v1, rfl, ho1, hb3⟩
   have r3 := range_below r2 hb3
   have HB3 := hid (Below.chain HB2.out hb3)
   have z3 := lt_of_lt_of_le z2 hb3.size
   have HO1 := hid ho1
   have L1 := hid (lt_mono ho1.lt (Nat.le_refl _))
   clear hb3 r2 HB2 z2 ho1
   go_wp2_with (refine wpList_loadCL rfl _ rfl _ rfl b d p n r3 hb ?_)
   refine (HT.out _).mono ?_
   rintro e w4 ⟨rfl, hb3⟩
   have r4 := range_below r3 hb3
   have z4 := lt_of_lt_of_le z3 hb3.size
   have HB4 := hid (Below.chain HB3.out hb3)
   have HO2 := hid (own_keep HO1.out hb3)
   have L2 := hid (lt_mono L1.out hb3.size)
   clear hb3 r3 HB3 HO1 L1 z3
   go_wp2_with fail
   refine (H2.out _ (HTB.out.on HB4.out)).mono ?_
   rintro e w5 ⟨v2, rfl, ho2, hb3⟩
   have r5 := range_below r4 hb3
   have z5 := hb3.size
   have HB5 := hid (Below.chain HB4.out hb3)
   have W5 := hid (own_keep HO2.out hb3)
   have G5 := hid ho2
   have hwz : w.heap.size ≤ w4.heap.size := HB4.out.size
   have LG := hid ho2.lt
   have HBW := hid z4
   clear hb3 ho2 HB4 r4 HO2 z4
   go_wp2_with fail
   refine (eqStringS_c _ _ rs _ (Sl.of_own (ownsRow_cast G5.out (by simp) rfl)) (Sl.of_own (ownsRow_cast W5.out (by simp) rfl))).mono ?_
   rintro e w6 ⟨rfl, hb3⟩
   have r6 := range_below r5 hb3
   have HB6 := hid (Below.chain HB5.out hb3)
   have W6 := hid (own_keep W5.out hb3)
   have G6 := hid (own_keep G5.out hb3)
   have z6 := hb3.size
   clear hb3 HB5 r5 W5 G5
   go_wp2_with fail
   refine (markStringS_c _ rs.length _ _ _ _ G6.out (strs_str rs) (by omega)).mono ?_
   rintro e w7 ⟨rfl, ho7, hg7⟩
   have z7 := hg7.size
   have HB7 := hid (below_mark HB6.out (lt_mono LG.out z6) (by omega) hg7)
   have W7 := hid (W6.out.kept hg7 (ne_of LG.out L2.out (by omega)))
   have r7 := range_block r6 (hg7.block w.heap.size (by have := HBW.out; omega) (fun e => by have := (LG.out _ e.symm).1; have := HBW.out; omega))
   have G7 := hid ho7
   clear ho7 hg7 r6 HB6 W6 G6 z6
   go_wp2_with fail
   refine (heldStringS_c _ rs.length _ (Sl.of_own G7.out) (by omega)).mono ?_
   rintro e w8 ⟨rfl, hb3⟩
   have r8 := range_below r7 hb3
   have HB8 := hid (Below.chain HB7.out hb3)
   have W8 := hid (own_keep W7.out hb3)
   have G8 := hid (own_keep G7.out hb3)
   clear hb3 r7 HB7 W7 G7
   go_wp2_with (refine wpList_loadCL rfl _ rfl _ rfl b d p n r8 hb ?_)
   refine (HT.out _).mono ?_
   rintro e w9 ⟨rfl, hb3⟩
   have HB9 := hid (Below.chain HB8.out hb3)
   have W9 := hid (own_keep W8.out hb3)
   have G9 := hid (own_keep G8.out hb3)
   clear hb3 r8 HB8 W8 G8
   go_wp2_with fail
   refine (H2.out _ (HTB.out.on HB9.out)).mono ?_
   rintro e w10 ⟨v3, rfl, ho3, hb3⟩
   have HB10 := hid (Below.chain HB9.out hb3)
   have W10 := hid (own_keep W9.out hb3)
   have G10 := hid (own_keep G9.out hb3)
   have V10 := hid ho3
   clear hb3 HB9 W9 G9 ho3
   go_wp2_with fail
   refine (eqStringS_c _ _ rs _ (Sl.of_own (ownsRow_cast V10.out (by simp) rfl)) (Sl.of_own (ownsRow_cast W10.out (by simp) rfl))).mono ?_
   rintro e w11 ⟨rfl, hb3⟩
   have HB11 := hid (Below.chain HB10.out hb3)
   have G11 := hid (own_keep G10.out hb3)
   clear hb3 HB10 W10 G10 V10
   go_wp2_with fail
   refine (heldStringS_c _ _ _ (Sl.of_own G11.out) (by omega)).mono ?_
   rintro e w12 ⟨rfl, hb3⟩
   have HB12 := hid (Below.chain HB11.out hb3)
   clear hb3 HB11 G11
   go_wp2
   go_ret
   exact ⟨rfl, HB12.out⟩
end Go.Proofs.YtohgjfdbnkjefaaGreatDoor
