import Derived.Test.YtohgjfdbnkjefaaGreatDoorKc26
import Derived.Deep.RegionHeld3
import Derived.Deep.DeepCutAuto
import Derived.DeepKeys
import Derived.ChangeKeysEq
import Derived.Laws.StructEq
open Go.Lib (hid)
open Nat (lt_of_lt_of_le)
namespace Go.Proofs.YtohgjfdbnkjefaaGreatDoor
open Go.RowKit
set_option linter.unusedVariables false
set_option linter.unusedSimpArgs false
theorem row_63 (b : List Int) : rowTx (showR b) ≠ [63] := fun h => by
 unfold rowTx showR at h
 rw [shTo_succ, List.map_append, List.map_cons, List.map_nil, joinS_snoc (by unfold shTo; simp)] at h
 have : (32 : UInt8) ∈ [63] := by rw [← h]; simp
 revert this; decide
theorem exec_same {b : List Int} {line : Bs} (h : sayO (execM b line).2 = [63]) : (execM b line).1 = b := by
 cases hn : numsM (wsL line).tail with
 | none => rw [execM_bad hn]
 | some l =>
  by_cases hl : 2 < l.length
  · rw [execM_long hn hl]
  · cases hk : kindM (hdL line) with
    | none => rw [execM_ask hn hl hk]
    | some q =>
     obtain ⟨k, n⟩ := q
     by_cases hd : l.length = n ∧ possB b k (l.getD 0 0) (l.getD 1 0) = true
     · rw [execM_do hn hl hk hd.1 hd.2] at h
       exact absurd h (row_63 _)
     · rw [execM_no hn hl hk hd]
theorem step_same {ok : Bool} {c : Cst} {line : ByteArray} (h : (stepV ok c line).2 = [63]) : (stepV ok c line).1.b = c.b := by
 cases ok with
 | false => rfl
 | true =>
  cases hc : cmdB line with
  | false => rw [stepV_bad hc]
  | true =>
   by_cases hn : c.n = 60
   · rw [stepV_full hc hn]
   · rw [stepV_done hc hn] at h ⊢
     exact exec_same h
theorem step_count {c : Cst} {line : ByteArray} (hb : c.b.length = 19) (h : c.ok) (hn : (stepV true c line).1.n = c.n + 1) :
 ∃ es, ValidL (stepV true c line).1.d.data.toList (stepV true c line).1.p.data.toList (stepV true c line).1.n (es ++ [(line.data.toList, (stepV true c line).2)]) := by
 cases hc : cmdB line with
 | false => rw [stepV_bad hc] at hn; exact absurd hn (by show c.n ≠ c.n + 1; omega)
 | true =>
  by_cases h60 : c.n = 60
  · rw [stepV_full hc h60] at hn; exact absurd hn (by show c.n ≠ c.n + 1; omega)
  · obtain ⟨hg, es, hv⟩ := h
    rw [stepV_done hc h60]
    exact ⟨es, done_valid hb hg hv hc h60⟩
theorem runS_pre (c : Cst) (l1 l2 : List Bs) : ∃ t, (runS c (l1 ++ l2)).2 = (runS c l1).2 ++ t := by
 refine snocL (M := fun l2 => ∃ t, (runS c (l1 ++ l2)).2 = (runS c l1).2 ++ t) ⟨[], by simp⟩ (fun l x ih => ?_) l2
 obtain ⟨t, ht⟩ := ih
 rw [← List.append_assoc, runS_snoc]
 exact ⟨t ++ [_], by rw [ht, List.append_assoc]⟩
theorem runS_at {c : Cst} {ls : List Bs} {k : Nat} {x : Bs} (h : ls[k]? = some x) : (runS c ls).2[k]? = some (stepV true (runS c (ls.take k)).1 (bs x)).2 := by
 have hk := (List.getElem?_eq_some_iff.1 h).1
 obtain ⟨t, ht⟩ := runS_pre c (ls.take (k + 1)) (ls.drop (k + 1))
 rw [List.take_append_drop, take_snoc h, runS_snoc] at ht
 have hl : (runS c (ls.take k)).2.length = k := by rw [runS_len, List.length_take]; omega
 rw [ht]
 simp only [List.append_assoc]
 rw [List.getElem?_append_right (by omega), hl, Nat.sub_self]; rfl
theorem runS_next {c : Cst} {ls : List Bs} {k : Nat} {x : Bs} (h : ls[k]? = some x) : (runS c (ls.take (k + 1))).1 = (stepV true (runS c (ls.take k)).1 (bs x)).1 := by
 rw [take_snoc h, runS_snoc]
theorem run_det2 (c : Cst) (t : Bs) : ∃ (rs : List Bs) (ok : Bool), rs.length ≤ 30 ∧ (ok = true → c.ok ∧ t.length ≤ 4000 ∧ rs = (runS c (splitS 10 t)).2) ∧ ∀ w e w', RunOut c t w e w' → ∃ v, e = .returned (.tuple #[v, .bool ok]) ∧ w'.ownsRow w.heap.size 9 1 v rs.length (rs.map strV) ∧ Below w.heap.size w w' := by
 have hle : ∀ ok, (runR ok c t).length ≤ 30 := fun ok => by
  unfold runR
  split
  · rename_i h
    unfold runOk at h
    simp only [Bool.and_eq_true, decide_eq_true_eq] at h
    rw [runS_len]; exact h.2.1
  · exact Nat.zero_le _
 by_cases h : c.ok
 · refine ⟨runR true c t, runOk true t, hle true, fun h2 => ⟨h, ?_, by unfold runR; rw [if_pos h2]⟩, fun w e w' ho => ?_⟩
   · unfold runOk at h2
     simp only [Bool.and_eq_true, decide_eq_true_eq] at h2
     exact h2.2.2
   · obtain ⟨ok, v, rfl, hi, h1, h2⟩ := ho
     have := hi.2 h
     subst this
     exact ⟨v, rfl, h1, h2⟩
 · refine ⟨runR false c t, runOk false t, hle false, (fun h2 => by cases h2), fun w e w' ho => ?_⟩
   obtain ⟨ok, v, rfl, hi, h1, h2⟩ := ho
   cases ok with
   | true => exact absurd (hi.1 rfl) h
   | false => exact ⟨v, rfl, h1, h2⟩
theorem consV_det (c : Cst) (hf : c.fit) : ∃ k : Bool, (k = true ↔ c.ok) ∧ (∀ W, Tab W → Calls Tryz.prog 43 #[.agg (csC c.b c.d c.p c.n).toArray] W fun e w' => e = .returned (.bool k) ∧ Below W.heap.size W w') ∧
 ∀ W, Calls Tryz.prog 44 #[.agg (csC c.b c.d c.p c.n).toArray] W fun e w' => e = .returned (.bool k) ∧ Below W.heap.size W w' := by
 have key : ∀ k : Bool, (k = true ↔ c.ok) → ∀ W e w', ConsOut c.b c.d c.p c.n W e w' → e = .returned (.bool k) ∧ Below W.heap.size W w' := fun k hk W e w' h => by
  obtain ⟨ok, rfl, hi, hb⟩ := h
  have : ok = k := by
   have h2 : ok = true ↔ k = true := hi.trans hk.symm
   cases ok <;> cases k <;> simp_all
  subst this
  exact ⟨rfl, hb⟩
 by_cases h : c.ok
 · have hk : (true = true ↔ c.ok) := ⟨fun _ => h, fun _ => rfl⟩
   exact ⟨true, hk, fun W hW => (IsValidConsole_c c.b c.d c.p c.n W hf.hb hf.hd hf.hp hW).mono (key true hk W), fun W => (IsValidConsoleS_c c.b c.d c.p c.n W hf.hb hf.hd hf.hp).mono (key true hk W)⟩
 · have hk : (false = true ↔ c.ok) := ⟨fun h2 => (by cases h2), fun h2 => absurd h2 h⟩
   exact ⟨false, hk, fun W hW => (IsValidConsole_c c.b c.d c.p c.n W hf.hb hf.hd hf.hp hW).mono (key false hk W), fun W => (IsValidConsoleS_c c.b c.d c.p c.n W hf.hb hf.hd hf.hp).mono (key false hk W)⟩
set_option maxRecDepth 100000
set_option maxHeartbeats 20000000 in
theorem RunScriptS_c (c : Cst) (tx : ByteArray) (w : World) (hf : c.fit) (hl : tx.size ≤ 1048576) :
 Calls Tryz.prog 32 #[c.val, .string tx] w (RunOut c tx.data.toList w) := by
 obtain ⟨i, hi, hz0, hz1, hz2⟩ := info_parts info_strx
 obtain ⟨b, d, p, n⟩ := c
 obtain ⟨hb, hd, hp⟩ := hf
 have hb : b.length = 19 := hb
 have hd : d.size ≤ 1048576 := hd
 have hp : p.size ≤ 1048576 := hp
 have hv : Cst.val ⟨b, d, p, n⟩ = .agg (csC b d p n).toArray := rfl
 rw [hv]
 obtain ⟨c, hcc⟩ : ∃ c, Cst.mk b d p n = c := ⟨_, rfl⟩
 rw [hcc]
 have HCC := hid hcc
 have r0 := World.rangeAt_alloc (range_new w (csC b d p n) 31) (.cells #[] 9)
 have t0 := World.there_alloc (there_new w (csC b d p n).toArray 31 (n := 22) (by simp [csC_len hb])) (.cells #[] 9)
 have hb0 : Below w.heap.size w ((w.alloc (.cells (csC b d p n).toArray 31)).alloc (.cells #[] 9)) := qBl
 have hsz : w.heap.size < ((w.alloc (.cells (csC b d p n).toArray 31)).alloc (.cells #[] 9)).heap.size := by simp; omega
 have hsz2 : w.heap.size + 1 < ((w.alloc (.cells (csC b d p n).toArray 31)).alloc (.cells #[] 9)).heap.size := by simp
 have HO0 := hid (World.ownsRow_lit (e := 9) (size := 1) (base := w.heap.size + 1) (w.alloc (.cells (csC b d p n).toArray 31)) #[] 0 (by simp) (by decide) rfl)
 have HV := hid (fun W => IsValidConsoleS_c b d p n W hb hd hp)
 unfold ConsOut consV at HV
 have HK : Hid (∀ ok : Bool, (ok = true ↔ (goodB b = true ∧ ∃ es, ValidL d.data.toList p.data.toList n es)) → (ok = true ↔ c.ok)) := fun ok h => by rw [← hcc]; exact h
 have hwm := split_mem 10 tx.data.toList
 have HPL := split_pos 10 tx.data.toList
 rw [ba_len] at hwm
 obtain ⟨ls, hls⟩ : ∃ ls, splitS 10 tx.data.toList = ls := ⟨_, rfl⟩
 have HSP := hid (fun W => l1Split_c tx 10 W (by omega))
 unfold SplOut at HSP
 rw [hls] at hwm HSP HPL
 have HLS := hid hls
 have hcz : ((10 : UInt8).toNat : Int) = 10 := rfl
 rw [hcz] at HSP
 obtain ⟨m, hm⟩ : ∃ m, ls.length = m := ⟨_, rfl⟩
 have HM := hid hm
 have HWM := hid hwm
 rw [hm] at HSP
 clear hv hls hwm hm hcc HPL
 go_enter Tryz.func32, Tryz.ntmps32
 go_wp2_with (refine wpList_loadC rfl _ rfl _ rfl b d p n r0 hb ?_)
 refine (HV.out _).mono ?_
 rintro e w2 ⟨ok, rfl, hok, hb1⟩
 have HOK := hid (HK.out ok hok)
 have r2 := range_below r0 hb1
 have t2 := there_below t0 hb1
 have HB2 := hid (Below.chain hb0 hb1)
 have z2 := lt_of_lt_of_le hsz hb1.size
 have HO2 : Hid (w2.ownsRow (w.heap.size + 1) 9 1 (.slice (some ⟨w.heap.size + 1, 0, none⟩) 0 0) 0 []) := by
  have := own_keep (ownsRow_cast HO0.out rfl rfl) hb1
  rw [World.size_alloc] at this
  exact this
 have z2b := lt_of_lt_of_le hsz2 hb1.size
 clear r0 t0 hb0 hsz hsz2 hb1 HV HK hok HO0
 cases ok with
 | false =>
  as_aux_lemma =>
   have HF := hid (fun w' v => runOut_no (w := w) (w' := w') (v := v) (t := tx.data.toList) false HOK.out rfl)
   go_wp2
   exact bodyPost_ret (v := .tuple #[.slice (some ⟨w.heap.size + 1, 0, none⟩) 0 0, .bool false]) (by simp [results, Tryz.results32, go_sem] <;> rfl) rfl (HF.out _ _ (own_lo HO2.out (by omega)) HB2.out)
 | true =>
  have HOKT : Hid c.ok := HOK.out.1 rfl
  clear HOK
  by_cases h40 : 4000 < tx.size
  · as_aux_lemma =>
     have h4 : decide ((4000 : Int) < (tx.size : Int)) = true := by simp; omega
     have HF := hid (fun w' v => runOut_no (w := w) (w' := w') (v := v) (t := tx.data.toList) true ⟨fun _ => HOKT.out, fun _ => rfl⟩ (by unfold runOk; rw [decide_eq_false (show ¬ tx.data.toList.length ≤ 4000 by rw [ba_len]; omega)]; simp))
     go_wp2
     exact bodyPost_ret (v := .tuple #[.slice (some ⟨w.heap.size + 1, 0, none⟩) 0 0, .bool false]) (by simp [results, Tryz.results32, go_sem] <;> rfl) rfl (HF.out _ _ (own_lo HO2.out (by omega)) HB2.out)
  have h4 : decide ((4000 : Int) < (tx.size : Int)) = false := by simp; omega
  go_wp2_with fail
  refine (HSP.out _).mono ?_
  rintro e w3 ⟨v, rfl, ho, hb1⟩
  obtain ⟨va, vc, rfl, hv1, hv2, hv3, hv4⟩ := Sl.of_own ho
  have HLC2 : Hid (∀ k x, ls[k]? = some x → ∃ vb vo, va = some ⟨vb, vo, none⟩ ∧ w.heap.size < vb ∧ w3.cell? ⟨vb, vo + k, none⟩ = some (.string (bs x))) := fun k x hx => by
   have hlt := (List.getElem?_eq_some_iff.1 hx).1
   obtain ⟨vb, vo, rfl, hvc⟩ := hv4 (by have := HM.out; omega)
   refine ⟨vb, vo, rfl, lt_of_lt_of_le z2 (ho.lt vb rfl).1, ?_⟩
   rw [hvc k (by have := HM.out; omega), List.getElem?_map, hx]; rfl
  have HVB : Hid (∀ vb vo, va = some ⟨vb, vo, none⟩ → w.heap.size + 1 < vb) := fun vb vo h => by
   subst h
   exact lt_of_lt_of_le z2b (ho.lt vb rfl).1
  have r3 := range_below r2 hb1
  have t3 := there_below t2 hb1
  have HB3 := hid (Below.chain HB2.out hb1)
  have z3 := lt_of_lt_of_le z2 hb1.size
  have HO3 := hid (own_keep HO2.out hb1)
  clear r2 t2 HB2 z2 z2b HO2 hb1 ho hv4 hv3 HSP
  unfold maxLen at hv2
  by_cases h30 : 30 < m
  · as_aux_lemma =>
     have h3 : decide ((30 : Int) < (m : Int)) = true := by simp; omega
     have HF := hid (fun w' v => runOut_no (w := w) (w' := w') (v := v) (t := tx.data.toList) true ⟨fun _ => HOKT.out, fun _ => rfl⟩ (by unfold runOk; rw [HLS.out, HM.out, decide_eq_false (show ¬ m ≤ 30 by omega)]; simp))
     go_wp2
     exact bodyPost_ret (v := .tuple #[.slice (some ⟨w.heap.size + 1, 0, none⟩) 0 0, .bool false]) (by simp [results, Tryz.results32, go_sem] <;> rfl) rfl (HF.out _ _ (own_lo HO3.out (by omega)) HB3.out)
  have h3 : decide ((30 : Int) < (m : Int)) = false := by simp; omega
  have HRO : Hid (runOk true tx.data.toList = true) := by
   show _ = _
   unfold runOk
   rw [HLS.out, HM.out, decide_eq_true (show m ≤ 30 by omega), decide_eq_true (show tx.data.toList.length ≤ 4000 by rw [ba_len]; omega)]; rfl
  have HCB : Hid (c.b.length = 19) := by show _ = _; rw [← HCC.out]; exact hb
  have hm30 : m ≤ 30 := by omega
  have NE0 : Hid (∀ q vb vo, (.slice (some ⟨w.heap.size + 1, 0, none⟩) 0 0 : Value).ownBlock = some q → va = some ⟨vb, vo, none⟩ → q ≠ vb) := fun q vb vo h h2 => by
   simp [Value.ownBlock] at h
   exact fun e => by have := HVB.out vb vo h2; omega
  go_wp2
  go_loopw [6, 8] (fun v i wr => ∃ (V : Value) (k : Nat) (S : Cst) (rs : List Bs), V = v ∧ k ≤ m ∧ i = .int .i64 (k : Int) ∧ Hid (runS c (ls.take k) = (S, rs)) ∧ wr.rangeAt w.heap.size 0 (csC S.b S.d S.p S.n) ∧ wr.there w.heap.size 0 22 ∧ wr.ownsRow (w.heap.size + 1) 9 1 v k (rs.map strV) ∧ Hid (∀ k x, ls[k]? = some x → ∃ vb vo, va = some ⟨vb, vo, none⟩ ∧ w.heap.size < vb ∧ wr.cell? ⟨vb, vo + k, none⟩ = some (.string (bs x))) ∧ Below w.heap.size w wr ∧ w.heap.size + 1 ≤ wr.heap.size ∧ Hid (∀ q vb vo, v.ownBlock = some q → va = some ⟨vb, vo, none⟩ → q ≠ vb)) (fun _ i _ => m + 1 - (intOf i).toNat)
  case atStart =>
   refine ⟨_, 0, c, [], rfl, by omega, rfl, rfl, ?_, t3, HO3.out, HLC2, HB3.out, by omega, NE0⟩
   have := HCC.out
   rw [← this]; exact r3
  case round =>
   obtain ⟨V, k, S, rs, rfl, hk, rfl, HRS, rk, tk, ho, HLC, hbk, hzk, NE⟩ := hrel
   have HO := hid ho
   have HB := hid hbk
   clear ho hbk r3 t3 HB3
   by_cases hlt : k < m
   · have hd : decide ((k : Int) < (m : Int)) = true := by simp; omega
     obtain ⟨x, hxx⟩ := elem_at (show k < ls.length by rw [HM.out]; exact hlt)
     obtain ⟨vb, vo, rfl, hvb, hcell⟩ := HLC.out k x hxx.out
     have hxl := HWM.out x (List.mem_of_getElem? hxx.out)
     have hvw0 : vb < wr.heap.size := World.block_lt_of_cell? _ _ hcell
     have hSok := runS_ok HCB.out HOKT.out (ls.take k)
     rw [HRS.out] at hSok
     have hSfit := ok_fit hSok.1 hSok.2
     have hSb : S.b.length = 19 := hSok.1
     have hNok := stepV_ok (bs x) hSok.1 hSok.2
     have HNX := hid (runS_snoc c (ls.take k) x)
     rw [HRS.out] at HNX
     obtain ⟨N, hN⟩ : ∃ N, (stepV true S (bs x)).1 = N := ⟨_, rfl⟩
     obtain ⟨T, hT⟩ : ∃ T, (stepV true S (bs x)).2 = T := ⟨_, rfl⟩
     rw [hN] at hNok
     have hNb : N.b.length = 19 := hNok.1
     have HEX := hid (fun (W : World) => (ExecuteCommandS_c S (bs x) W hSfit (by rw [bs_size]; omega)).mono fun e w' h => ex_yes hSok.2 h)
     simp only [hN, hT] at HNX HEX
     have HNX2 : Hid (runS c (ls.take (k + 1)) = (N, rs ++ [T])) := by
      show _ = _
      rw [take_snoc hxx.out]; exact HNX.out
     unfold Cst.val consV at HEX
     clear hN hT HNX hxx hSok hSfit hNok HRS hxl
     generalize bs x = X at *
     as_aux_lemma =>
      have hki : (k : Int) < (m : Int) := by omega
      go_upto_region 10 with fail
      go_cut [9, 10] (fun s9 s10 wx => ∃ g : Nat, s9 = .pointer (some ⟨g, 0, none⟩) ∧ s10 = .string (bs T) ∧ wx.rangeAt g 0 (csC N.b N.d N.p N.n) ∧ Below wr.heap.size wr wx)
      case first =>
       unfold zCA at *
       refine wp_region_noPanic ?_
       have S_wd : Below wr.heap.size wr wr.drew := (Below.refl _ _).drew
       refine wp_region_held_drew (S := fun w' : World => Below wr.heap.size wr w') (by kernel_rfl) S_wd (fun hHeld => ?_)
       generalize wr.drew = wd at *
       refine' tkX 0 hHeld ?y_t1 ?r_t1
       case y_t1 =>
        refine' yieldsIf_load_mid ?hw_t1 _ _ rfl _ _ rfl (csC S.b S.d S.p S.n) _ ?hS_t1 ?hu_t1 ?hd_t1 ?hi_t1
        case hw_t1 => rfl
        case hS_t1 => exact fun (w' : World) (h : Below wr.heap.size wr w') => range_below rk h
        case hu_t1 => exact Tryz.underlying31
        case hd_t1 => rfl
        case hi_t1 => exact (by rw [csC_len hSb]; kernel_rfl)
       try simp only [Act.put, xqA, xqB, xqC]
       refine' tkY 1 hHeld ?r_t2
       try simp only [Act.put, xqA, xqB, xqC]
       refine' tkY 2 hHeld ?r_t3
       try simp only [Act.put, xqA, xqB, xqC]
       refine' tkY 3 hHeld ?r_t4
       try simp only [Act.put, xqA, xqB, xqC]
       refine' tkX 4 hHeld ?y_t5 ?r_t5
       case y_t5 => exact Or.inl ⟨by rfl, by (intro w hSw; have c0 := cell_later hSw hcell; go_simp; first | done | with_reducible rfl)⟩
       try simp only [Act.put, xqA, xqB, xqC]
       refine wpAnyH_ready (rs := [5, 9]) (by kernel_rfl) (by simp) ?_
       refine' AllReadyH.cons (o := _) ?e_k6 ?st_k6 ?more_k6
       case e_k6 => (simp only [xeA, xeB, xeC]; exact rfl)
       case st_k6 =>
        intro K hK
        go_simp
        with_reducible refine (HEX.out wd).mono ?_
        rintro e we7 ⟨rfl, hx8⟩
        have S_we7 := Below.chain S_wd hx8
        clear S_wd hx8
        refine hK.out _ _ S_we7 (fun hHeld => ?_)
        clear hK K
        try simp only [Act.put, xqA, xqB, xqC]
        refine' tkY 6 hHeld ?r_t9
        try simp only [Act.put, xqA, xqB, xqC]
        refine' tkY 7 hHeld ?r_t10
        try simp only [Act.put, xqA, xqB, xqC]
        refine' tkY 8 hHeld ?r_t11
        try simp only [Act.put, xqA, xqB, xqC]
        refine wpAnyH_ready (rs := [9]) (by kernel_rfl) (by simp) ?_
        refine' AllReadyH.cons (o := _) ?e_k12 ?st_k12 AllReadyH.nil
        case e_k12 => (simp only [xeA, xeB, xeC]; exact rfl)
        intro K hK
        go_simp
        have hx14 := below_one (w := we7) (.cells #[.int .i64 0, .int .i64 0, .int .i64 0, .int .i64 0, .int .i64 0, .int .i64 0, .int .i64 0, .int .i64 0, .int .i64 0, .int .i64 0, .int .i64 0, .int .i64 0, .int .i64 0, .int .i64 0, .int .i64 0, .int .i64 0, .int .i64 0, .int .i64 0, .int .i64 0, .string ⟨#[]⟩, .string ⟨#[]⟩, .int .i64 0] 31)
        have Tg_we13 := there_new we7 #[.int .i64 0, .int .i64 0, .int .i64 0, .int .i64 0, .int .i64 0, .int .i64 0, .int .i64 0, .int .i64 0, .int .i64 0, .int .i64 0, .int .i64 0, .int .i64 0, .int .i64 0, .int .i64 0, .int .i64 0, .int .i64 0, .int .i64 0, .int .i64 0, .int .i64 0, .string ⟨#[]⟩, .string ⟨#[]⟩, .int .i64 0] 31 (n := 22) (by decide)
        have S_we13 := Below.chain S_we7 hx14
        have hlg := S_we7.size
        have hng : we7.heap.size < (we7.alloc (.cells #[.int .i64 0, .int .i64 0, .int .i64 0, .int .i64 0, .int .i64 0, .int .i64 0, .int .i64 0, .int .i64 0, .int .i64 0, .int .i64 0, .int .i64 0, .int .i64 0, .int .i64 0, .int .i64 0, .int .i64 0, .int .i64 0, .int .i64 0, .int .i64 0, .int .i64 0, .string ⟨#[]⟩, .string ⟨#[]⟩, .int .i64 0] 31)).heap.size := by simp
        clear S_we7 hx14
        generalize we7.alloc (.cells #[.int .i64 0, .int .i64 0, .int .i64 0, .int .i64 0, .int .i64 0, .int .i64 0, .int .i64 0, .int .i64 0, .int .i64 0, .int .i64 0, .int .i64 0, .int .i64 0, .int .i64 0, .int .i64 0, .int .i64 0, .int .i64 0, .int .i64 0, .int .i64 0, .int .i64 0, .string ⟨#[]⟩, .string ⟨#[]⟩, .int .i64 0] 31) = we13 at *
        generalize we7.heap.size = g at *
        refine hK.out _ _ S_we13 (fun hHeld => ?_)
        clear hK K
        try simp only [Act.put, xqA, xqB, xqC]
        refine wpAnyH_ready (rs := [10]) (by kernel_rfl) (by simp) ?_
        refine' AllReadyH.cons (o := _) ?e_k15 ?st_k15 AllReadyH.nil
        case e_k15 => (simp only [xeA, xeB, xeC]; exact rfl)
        intro K hK
        rw [if_pos (by rfl)]
        refine wp_store_mid _ _ _ rfl _ _ (csC N.b N.d N.p N.n).toArray rfl rfl (by rw [show (csC N.b N.d N.p N.n).toArray.size = 22 by simp [csC_len hNb]]; exact Tg_we13) (by rw [show (csC N.b N.d N.p N.n).toArray.size = 22 by simp [csC_len hNb]]; kernel_rfl) (all_oneCell_toArray csC_one) ?_
        simp only [Act.put, xqA, xqB, xqC, List.toList_toArray]
        have Y_we16 := World.rangeAt_setCells_same we13 g 0 (csC N.b N.d N.p N.n) (by rw [csC_len hNb]; exact Tg_we13)
        have S_we16 := below_cells (csC N.b N.d N.p N.n) we13 g 0 S_we13 (by omega)
        generalize World.setCells _ _ _ _ = we16 at *
        clear S_we13 Tg_we13
        refine hK.out _ _ S_we16 (fun hHeld => ?_)
        clear hK K
        try simp only [Act.put, xqA, xqB, xqC]
        refine' tkY 11 hHeld ?r_t17
        try simp only [Act.put, xqA, xqB, xqC]
        refine wpAnyH_done (by kernel_rfl) ?_ _
        refine NoPanic.normal ?_
        go_wp2_with fail
        go_meet
        exact ⟨g, rfl, rfl, Y_we16, S_we16⟩
       case more_k6 =>
        refine' AllReadyH.cons (o := _) ?e_k18 ?st_k18 AllReadyH.nil
        case e_k18 => (simp only [xeA, xeB, xeC]; exact rfl)
        case st_k18 =>
         intro K hK
         go_simp
         have hx20 := below_one (w := wd) (.cells #[.int .i64 0, .int .i64 0, .int .i64 0, .int .i64 0, .int .i64 0, .int .i64 0, .int .i64 0, .int .i64 0, .int .i64 0, .int .i64 0, .int .i64 0, .int .i64 0, .int .i64 0, .int .i64 0, .int .i64 0, .int .i64 0, .int .i64 0, .int .i64 0, .int .i64 0, .string ⟨#[]⟩, .string ⟨#[]⟩, .int .i64 0] 31)
         have Tg_we19 := there_new wd #[.int .i64 0, .int .i64 0, .int .i64 0, .int .i64 0, .int .i64 0, .int .i64 0, .int .i64 0, .int .i64 0, .int .i64 0, .int .i64 0, .int .i64 0, .int .i64 0, .int .i64 0, .int .i64 0, .int .i64 0, .int .i64 0, .int .i64 0, .int .i64 0, .int .i64 0, .string ⟨#[]⟩, .string ⟨#[]⟩, .int .i64 0] 31 (n := 22) (by decide)
         have S_we19 := Below.chain S_wd hx20
         have hlg := S_wd.size
         have hng : wd.heap.size < (wd.alloc (.cells #[.int .i64 0, .int .i64 0, .int .i64 0, .int .i64 0, .int .i64 0, .int .i64 0, .int .i64 0, .int .i64 0, .int .i64 0, .int .i64 0, .int .i64 0, .int .i64 0, .int .i64 0, .int .i64 0, .int .i64 0, .int .i64 0, .int .i64 0, .int .i64 0, .int .i64 0, .string ⟨#[]⟩, .string ⟨#[]⟩, .int .i64 0] 31)).heap.size := by simp
         clear S_wd hx20
         generalize wd.alloc (.cells #[.int .i64 0, .int .i64 0, .int .i64 0, .int .i64 0, .int .i64 0, .int .i64 0, .int .i64 0, .int .i64 0, .int .i64 0, .int .i64 0, .int .i64 0, .int .i64 0, .int .i64 0, .int .i64 0, .int .i64 0, .int .i64 0, .int .i64 0, .int .i64 0, .int .i64 0, .string ⟨#[]⟩, .string ⟨#[]⟩, .int .i64 0] 31) = we19 at *
         generalize wd.heap.size = g at *
         refine hK.out _ _ S_we19 (fun hHeld => ?_)
         clear hK K
         try simp only [Act.put, xqA, xqB, xqC]
         refine wpAnyH_ready (rs := [5]) (by kernel_rfl) (by simp) ?_
         refine' AllReadyH.cons (o := _) ?e_k21 ?st_k21 AllReadyH.nil
         case e_k21 => (simp only [xeA, xeB, xeC]; exact rfl)
         intro K hK
         go_simp
         with_reducible refine (HEX.out we19).mono ?_
         rintro e we22 ⟨rfl, hx23⟩
         have hng := lt_of_lt_of_le hng hx23.size
         have Tg_we22 := there_below Tg_we19 hx23
         clear Tg_we19
         have S_we22 := Below.chain S_we19 hx23
         clear S_we19 hx23
         refine hK.out _ _ S_we22 (fun hHeld => ?_)
         clear hK K
         try simp only [Act.put, xqA, xqB, xqC]
         refine' tkY 6 hHeld ?r_t24
         try simp only [Act.put, xqA, xqB, xqC]
         refine' tkY 7 hHeld ?r_t25
         try simp only [Act.put, xqA, xqB, xqC]
         refine' tkY 8 hHeld ?r_t26
         try simp only [Act.put, xqA, xqB, xqC]
         refine wpAnyH_ready (rs := [10]) (by kernel_rfl) (by simp) ?_
         refine' AllReadyH.cons (o := _) ?e_k27 ?st_k27 AllReadyH.nil
         case e_k27 => (simp only [xeA, xeB, xeC]; exact rfl)
         intro K hK
         rw [if_pos (by rfl)]
         refine wp_store_mid _ _ _ rfl _ _ (csC N.b N.d N.p N.n).toArray rfl rfl (by rw [show (csC N.b N.d N.p N.n).toArray.size = 22 by simp [csC_len hNb]]; exact Tg_we22) (by rw [show (csC N.b N.d N.p N.n).toArray.size = 22 by simp [csC_len hNb]]; kernel_rfl) (all_oneCell_toArray csC_one) ?_
         simp only [Act.put, xqA, xqB, xqC, List.toList_toArray]
         have Y_we28 := World.rangeAt_setCells_same we22 g 0 (csC N.b N.d N.p N.n) (by rw [csC_len hNb]; exact Tg_we22)
         have S_we28 := below_cells (csC N.b N.d N.p N.n) we22 g 0 S_we22 (by omega)
         generalize World.setCells _ _ _ _ = we28 at *
         clear S_we22 Tg_we22
         refine hK.out _ _ S_we28 (fun hHeld => ?_)
         clear hK K
         try simp only [Act.put, xqA, xqB, xqC]
         refine' tkY 11 hHeld ?r_t29
         try simp only [Act.put, xqA, xqB, xqC]
         refine wpAnyH_done (by kernel_rfl) ?_ _
         refine NoPanic.normal ?_
         go_wp2_with fail
         go_meet
         exact ⟨g, rfl, rfl, Y_we28, S_we28⟩
      case rest =>
      obtain ⟨g10, rfl, rfl, c4, hB4⟩ := hcut
      generalize wc = w4b at *
      have tk4 := there_below tk hB4
      clear rk HEX hcell
      have HO4 := own_keep HO.out hB4
      have HLC4 : Hid (∀ k x, ls[k]? = some x → ∃ vb2 vo2, (some ⟨vb, vo, none⟩ : Option Addr) = some ⟨vb2, vo2, none⟩ ∧ w.heap.size < vb2 ∧ w4b.cell? ⟨vb2, vo2 + k, none⟩ = some (.string (bs x))) := fun k x hx => by
       obtain ⟨vb2, vo2, h1, h2, h3⟩ := HLC.out k x hx
       exact ⟨vb2, vo2, h1, h2, cell_later hB4 h3⟩
      have HB4 := hid (Below.chain HB.out hB4)
      have z4b := Nat.le_trans hzk hB4.size
      have hvw := lt_of_lt_of_le hvw0 (Nat.le_trans hB4.size (grow_cells (csC N.b N.d N.p N.n) w4b w.heap.size 0).size)
      have t5 := World.there_setCells tk4 w.heap.size 0 (csC N.b N.d N.p N.n)
      have r5 := World.rangeAt_setCells_same w4b w.heap.size 0 (csC N.b N.d N.p N.n) (by rw [csC_len hNb]; exact tk4)
      have HB5 := hid (below_cells (csC N.b N.d N.p N.n) w4b w.heap.size 0 HB4.out (by omega))
      have HO5 := hid (own_far HO4 w.heap.size 0 (csC N.b N.d N.p N.n) (by omega))
      have HLC5 : Hid (∀ k x, ls[k]? = some x → ∃ vb2 vo2, (some ⟨vb, vo, none⟩ : Option Addr) = some ⟨vb2, vo2, none⟩ ∧ w.heap.size < vb2 ∧ (w4b.setCells w.heap.size 0 (csC N.b N.d N.p N.n)).cell? ⟨vb2, vo2 + k, none⟩ = some (.string (bs x))) := fun k x hx => by
       obtain ⟨vb2, vo2, h1, h2, h3⟩ := HLC4.out k x hx
       exact ⟨vb2, vo2, h1, h2, cell_far2 (g2 := w.heap.size) (o2 := 0) (vs := csC N.b N.d N.p N.n) h3 (by omega)⟩
      have z5 : w.heap.size + 1 ≤ (w4b.setCells w.heap.size 0 (csC N.b N.d N.p N.n)).heap.size := Nat.le_trans z4b (grow_cells (csC N.b N.d N.p N.n) w4b w.heap.size 0).size
      have R5 := hid r5
      have T5 := hid t5
      have Z5 := hid z5
      have HVW := hid hvw
      clear tk HB HB4 HO HO4 HLC HLC4 hB4 z4b hzk r5 t5 z5 hvw
      go_upto_region 12 with (first | (refine wpList_loadC rfl _ rfl _ rfl N.b N.d N.p N.n c4 hNb ?_) | (refine wpList_storeC rfl _ _ rfl _ N.b N.d N.p N.n rfl rfl tk4 hNb ?_))
      clear c4 tk4
      generalize World.setCells w4b _ _ _ = w5 at *
      have z5 := Z5.out
      have hvw := HVW.out
      as_aux_lemma =>
      go_wp2_with (at_builtin; refine wpList_append_own_at _ rfl _ _ 48 rfl (w.heap.size + 1) 9 i (.string ⟨#[]⟩) 1 16 Tryz.underlying48 hi hz0 hz1 hz2 rfl (by decide) _ k (rs.map strV) rfl (HO5.out.alloc _) ⟨w5.heap.size, 0, none⟩ 1 1 [.string (bs T)] rfl rfl (news_new _ [.string (bs T)] _) (by simp [Value.oneCell']) (by unfold maxLen; omega) (by omega) (by simp only [World.size_alloc]; omega) ?_)
      intro v' w6 ho6 hg6 _ hat
      have hga := below_one (w := w5) (.cells [Value.string (bs T)].toArray 9)
      have HBG : Hid (∀ g, g < w5.heap.size → (∀ q, V.ownBlock = some q → g ≠ q) → w6.heap[g]? = w5.heap[g]?) := fun g hg hne => (hg6.block g (by rw [World.size_alloc]; omega) (fun e => hne g e.symm rfl)).trans (hga.block g hg)
      have zL : w.heap.size < w5.heap.size := by omega
      have q1 : w6.heap[w.heap.size]? = w5.heap[w.heap.size]? := HBG.out _ zL (fun q hq e => by have := (HO5.out.lt q hq).1; omega)
      have r6 := range_block R5.out q1
      have t6 := there_block T5.out q1
      have HLC6 : Hid (∀ k x, ls[k]? = some x → ∃ vb2 vo2, (some ⟨vb, vo, none⟩ : Option Addr) = some ⟨vb2, vo2, none⟩ ∧ w.heap.size < vb2 ∧ w6.cell? ⟨vb2, vo2 + k, none⟩ = some (.string (bs x))) := fun k x hx => by
       obtain ⟨vb2, vo2, h1, h2, h3⟩ := HLC5.out k x hx
       exact ⟨vb2, vo2, h1, h2, (World.cell?_of_block (w := w5) (a := ⟨vb2, vo2 + k, none⟩) (HBG.out vb2 (World.block_lt_of_cell? _ _ h3) (fun q hq e => NE.out q vb2 vo2 hq h1 e.symm))).trans h3⟩
      have NE6 : Hid (∀ q vb2 vo2, v'.ownBlock = some q → (some ⟨vb, vo, none⟩ : Option Addr) = some ⟨vb2, vo2, none⟩ → q ≠ vb2) := fun q vb2 vo2 hq h1 => by
       rcases hat with h | h
       · exact NE.out q vb2 vo2 (by rw [← h]; exact hq) h1
       · rw [h] at hq
         injection hq with hq
         injection h1 with h1
         injection h1 with h1
         omega
      have HB6 := hid ((Below.alc HB5.out _).grown hg6 (by simp only [World.size_alloc]; omega) (fun g hg => by have := (HO5.out.lt g hg).1; omega))
      have z6 : w.heap.size + 1 ≤ w6.heap.size := by have h1 := hg6.size; rw [World.size_alloc] at h1; omega
      have HO6 := hid ho6
      have hvl : vb < w5.heap.size := hvw
      clear ho6 hg6 HB5 HO5 R5 T5 HLC5 HBG q1 hga
      have R6 := hid r6
      have T6 := hid t6
      clear r6 t6
      go_wp2
      go_roundw
      case rel => exact ⟨_, k + 1, N, rs ++ [T], rfl, by omega, by go_num, HNX2.out, R6.out, T6.out, ownsRow_cast HO6.out rfl (by rw [List.map_append]; rfl), HLC6, HB6.out, z6, NE6⟩
      case measure => first | (simp [intOf]; done) | (simp [intOf]; omega)
   · obtain rfl : k = m := by omega
     have hd : decide ((k : Int) < (k : Int)) = false := by simp
     as_aux_lemma =>
     have HE2 : Hid (rs = (runS c (splitS 10 tx.data.toList)).2) := by
      show _ = _
      have h := HRS.out
      rw [← HM.out, List.take_length] at h
      rw [HLS.out, h]
     have hrl : rs.length = k := by rw [HE2.out, HLS.out, runS_len]; exact HM.out
     have HF := hid (fun w' v => runOut_yes (w := w) (w' := w') (v := v) HOKT.out HRO.out HE2.out)
     rw [hrl] at HF
     clear hrl
     obtain ⟨ua, uc, rfl, _⟩ := (Sl.of_own HO.out).slice
     go_wp2
     exact bodyPost_ret (v := .tuple #[.slice ua k uc, .bool true]) (by simp [results, Tryz.results32, go_sem] <;> rfl) rfl (HF.out _ _ (own_lo HO.out (by omega)) HB.out)
theorem bench_guard : Tryz.prog.eqGuardType Tryz.prog.depth 26 = false := by kernel_rfl
theorem items_same (xs : Array Value) (w : World) : ∀ is : List Nat, (∀ i ∈ is, ∃ x : Int, xs[i]? = some (.int .i64 x)) → (Op.eqItems 9998 3 (Tryz.prog.cellsOf 3) xs xs is).run Tryz.prog w = .ok true w
 | [], _ => rfl
 | i :: is, h => by
  obtain ⟨x, hx⟩ := h i (by simp)
  have hc : Tryz.prog.cellsOf 3 = 1 := by kernel_rfl
  have hp : (part 3 xs (i * Tryz.prog.cellsOf 3)).run Tryz.prog w = .ok (.int .i64 x) w := by
   rw [hc, Nat.mul_one]; exact run_part_plain w (by kernel_rfl) hx
  have he : (Op.equalIn 9998 3 (.int .i64 x) (.int .i64 x)).run Tryz.prog w = .ok (x == x) w := run_equalIn_int w 9997 3 .i64 .i64 x x Tryz.underlying3
  have ih := items_same xs w is (fun j hj => h j (by simp [hj]))
  simp only [Op.eqItems, Sem.run_bind, hp, Result.andThen_ok, he, beq_self_eq_true, Bool.not_true, Bool.false_eq_true, if_false, ih]
theorem bench_equal {b : List Int} (hb : b.length = 19) (w : World) : (Op.equalIn 10000 26 (.agg (ints b).toArray) (.agg (ints b).toArray)).run Tryz.prog w = .ok true w := by
 match b, hb with
 | [x0, x1, x2, x3, x4, x5, x6, x7, x8, x9, x10, x11, x12, x13, x14, x15, x16, x17, x18], _ =>
  have hA := fun (d : Nat) (xs ys : Array Value) (w : World) => run_equalIn_array (P := Tryz.prog) w d xs ys (t := 24) Tryz.underlying24 (e := 3) (i := _) rfl
  have hI : ∀ (y0 y1 y2 y3 y4 y5 : Int) (w : World), (Op.eqItems 9998 3 (Tryz.prog.cellsOf 3) #[.int .i64 y0, .int .i64 y1, .int .i64 y2, .int .i64 y3, .int .i64 y4, .int .i64 y5] #[.int .i64 y0, .int .i64 y1, .int .i64 y2, .int .i64 y3, .int .i64 y4, .int .i64 y5] [0, 1, 2, 3, 4, 5]).run Tryz.prog w = .ok true w :=
   fun y0 y1 y2 y3 y4 y5 w => items_same _ w _ (fun i hi => by
    simp only [List.mem_cons, List.not_mem_nil, or_false] at hi
    rcases hi with rfl | rfl | rfl | rfl | rfl | rfl <;> exact ⟨_, rfl⟩)
  simp only [ints, List.map_cons, List.map_nil]
  go_simp
end Go.Proofs.YtohgjfdbnkjefaaGreatDoor
