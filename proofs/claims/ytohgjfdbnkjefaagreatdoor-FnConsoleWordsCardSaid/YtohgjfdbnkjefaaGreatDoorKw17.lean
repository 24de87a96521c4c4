/- Texts of this claim, gathered: Dwb, LogA, Crash, Lgp, Vrec, Lgq, Lgr, Cons2, ConsV, Cwo, LogA2. -/
import Derived.Test.YtohgjfdbnkjefaaGreatDoorKw16
import Derived.Deep.RegionHeld3
import Derived.Deep.DeepCutAuto
import Derived.Lib.ConvBytes
import Derived.Lib.SmallJoins
import Derived.Laws.IdiomStrings
import Derived.Laws.StructEq
namespace Go.Proofs.YtohgjfdbnkjefaaGreatDoor
open Go.RowKit
set_option linter.unusedVariables false
set_option linter.unusedSimpArgs false
set_option maxRecDepth 100000
def ExeI (b : List Int) (line : Bs) (w : World) (e : Ending) (w' : World) : Prop :=
 ∃ t, e = .returned (.tuple #[aggI (execM b line).1, .string t, .bool (execM b line).2.isSome]) ∧ (∀ s, (execM b line).2 = some s → t = bs s) ∧ Below w.heap.size w w'
theorem nums_more {ws : List Bs} {k : Nat} {x : Bs} {q : List Int} {m : Int} (hk : 1 ≤ k) (hx : ws[k]? = some x) (hq : numsM (ws.take k).tail = some q) (hm : rdO x = some m) : numsM (ws.take (k + 1)).tail = some (q ++ [m]) := by
 rw [take_tail hk hx, nums_snoc, hq, hm]; rfl
theorem nums_fail {ws : List Bs} {k : Nat} {x : Bs} {q : List Int} (hk : 1 ≤ k) (hx : ws[k]? = some x) (hq : numsM (ws.take k).tail = some q) (hm : rdO x = none) : numsM ws.tail = none := by
 rw [tail_split ws (k + 1) (by omega), take_tail hk hx]
 refine nums_stop _ _ ?_
 rw [nums_snoc, hq, hm]; rfl
theorem exec_many {b : List Int} {line : Bs} (h : 2 < (wsL line).tail.length) : execM b line = (b, none) := by
 cases hn : numsM (wsL line).tail with
 | none => exact execM_bad hn
 | some l => exact execM_long hn (by rw [nums_len _ _ hn]; exact h)
set_option maxHeartbeats 20000000 in
theorem execute_c (b : List Int) (line : ByteArray) (w : World) (hb : b.length = 19) (hg : goodB b = true) (hl : line.size ≤ 160) (ht : TabC w) :
 Calls Tryz.prog 54 #[aggI b, .string line] w (ExeI b line.data.toList w) := by
 obtain ⟨inf, hi, hz0, hz1, hz2⟩ := info_parts info_int
 have HT := Lib.hid ht
 have r0 := World.rangeAt_alloc (range_new w (ints b) 26) zB
 have t0 := there_new (w.alloc (.cells (ints b).toArray 26)) _ 26 (n := 19) (show 19 ≤ (zBA : Array Value).size by decide)
 have hb0 : Below w.heap.size w ((w.alloc (.cells (ints b).toArray 26)).alloc zB) := by (repeat (first | exact Below.refl _ _ | exact (Below.refl _ _).drew | assumption | exact below_one _ | refine Below.chain ?_ (by assumption) | refine Below.drew ?_ | refine Below.alc ?_ _ | refine below_drewN ?_ | (refine Below.setCell ?_ ?_ _) | exact Nat.le_refl _ | (simp; done) | (simp; omega)))
 simp only [World.size_alloc] at t0
 have hsz : w.heap.size + 1 < ((w.alloc (.cells (ints b).toArray 26)).alloc zB).heap.size := by simp
 have hwl := split_len 32 line.data.toList
 have hwm := split_mem 32 line.data.toList
 have hwp := split_pos 32 line.data.toList
 have hwh := split_head 32 line.data.toList
 rw [ba_len] at hwl hwm
 have HE : Hid (∀ (x : List Int × Option Bs) (w' : World) (t : ByteArray), execM b line.data.toList = x → (∀ s, x.2 = some s → t = bs s) → Below w.heap.size w w' → ExeI b line.data.toList w (.returned (.tuple #[aggI x.1, .string t, .bool x.2.isSome])) w') := fun x w' t hx ht hw => by
  subst hx; exact ⟨t, rfl, ht, hw⟩
 obtain ⟨ws, hws⟩ : ∃ ws, splitS 32 line.data.toList = ws := ⟨_, rfl⟩
 obtain ⟨w0, hw0⟩ : ∃ w0, hdL line.data.toList = w0 := ⟨_, rfl⟩
 have hwh2 : ws[0]? = some w0 := by rw [← hws, ← hw0]; exact hwh
 have HSP := Lib.hid (fun W h => Split_c line 32 W (by omega) h)
 unfold SplOut at HSP
 have hT : (wsL line.data.toList).tail = ws.tail := by rw [← hws]; rfl
 rw [hws] at hwl hwm hwp HSP
 obtain ⟨n1, hn1⟩ : ∃ n1, ws.length = n1 + 1 := ⟨ws.length - 1, by omega⟩
 have HN1 := Lib.hid hn1
 have hn1l : n1 ≤ 160 := by omega
 unfold aggI zB zBA at *
 clear hwh hws ht
 go_enter Tryz.func54, Tryz.ntmps54
 go_wp2_with fail
 refine (HSP.out _ (HT.out.on hb0)).mono ?_
 rintro e w1 ⟨v, rfl, ho, hb1⟩
 obtain ⟨va, vc, rfl, hv1, hv2, hv3, hv4⟩ := Sl.of_own ho
 obtain ⟨vb, vo, rfl, hvc⟩ := hv4 (by omega)
 have hw01 : w1.cell? ⟨vb, vo, none⟩ = some (.string (bs w0)) := by
  have := hvc 0 (by omega)
  rw [List.getElem?_map, hwh2] at this
  exact this
 have HW : Hid (∀ k x, ws[k + 1]? = some x → w1.cell? ⟨vb, vo + 1 + k, none⟩ = some (.string (bs x))) := fun k x hx => by
  have hlt := (List.getElem?_eq_some_iff.1 hx).1
  have := hvc (k + 1) (by omega)
  rw [List.getElem?_map, hx] at this
  rw [show vo + 1 + k = vo + (k + 1) by omega]
  exact this
 have r1 := range_below r0 hb1
 have t1 := there_below t0 hb1
 have HB1 := Lib.hid (Below.chain hb0 hb1)
 have z1 := Nat.lt_of_lt_of_le hsz hb1.size
 have HWM := Lib.hid hwm
 rw [hn1] at hv1 ⊢
 clear r0 t0 hb0 hb1 hsz ho hvc hv4 hv3 HSP hwl hwm hwp hn1
 unfold maxLen at hv2
 go_upto_region 3 with fail
 go_cut [21, 22, 23] (fun s21 s22 s23 wx => ∃ (T : Option Addr) (c3 : Nat), s21 = .slice T n1 c3 ∧ n1 ≤ c3 ∧ (1 ≤ n1 → T = some ⟨vb, vo + 1, none⟩) ∧ s22 = .int .i64 (n1 : Int) ∧ s23 = .int .i64 0 ∧ wx = w1)
 case first =>
  have h1 : (1 : Int) ≤ (n1 : Int) + 1 := by omega
  by_cases hc1 : vc = 1
  · subst hc1
    have h0 : n1 = 0 := by omega
    subst h0
    go_wp2
    go_meet
    exact ⟨_, _, rfl, Nat.zero_le _, (fun h => by omega), rfl, rfl, rfl⟩
  · have hcf : (vc = 1) = False := by simp [hc1]
    have hcl : n1 + 1 ≤ vc := hv1
    go_wp2
    go_meet
    exact ⟨_, _, rfl, by omega, (fun _ => rfl), rfl, rfl, rfl⟩
 case rest =>
  obtain ⟨T, c3, rfl, hc3, hTT, rfl, rfl, rfl⟩ := hcut
  have HTT := Lib.hid hTT
  clear hTT
  go_wp2
  go_loopw [8, 23] (fun v i wr => ∃ (k : Nat) (q : List Int), k ≤ n1 ∧ q.length = k ∧ q.length ≤ 2 ∧ i = .int .i64 (k : Int) ∧ Hid (numsM (ws.take (k + 1)).tail = some q) ∧ wr.ownsRow wc.heap.size 3 1 v q.length (q.map (Value.int .i64)) ∧ Below wc.heap.size wc wr) (fun _ i _ => n1 + 1 - (intOf i).toNat)
  case atStart => exact ⟨0, [], by omega, rfl, by decide, rfl, (by
   show numsM (ws.take 1).tail = some []
   cases ws with
   | nil => rfl
   | cons y t => rfl), World.ownsRow_nil _ _ _ _, Below.refl _ _⟩
  case round =>
   obtain ⟨k, q, hk, hqk, hq2, rfl, HQ, ho, hbr⟩ := hrel
   have HQK := Lib.hid hqk
   clear hqk
   have HO := Lib.hid ho
   have HBR := Lib.hid hbr
   have HBW := Lib.hid (Below.chain HB1.out hbr)
   have rr := range_below r1 hbr
   have tr := there_below t1 hbr
   clear ho hbr
   obtain ⟨ua, uc, rfl, hu1, hu2, _⟩ := (show Ints wr _ q from Ints.of_own HO.out).parts
   by_cases hlt : k < n1
   · have hd : decide ((k : Int) < (n1 : Int)) = true := by simp; omega
     obtain rfl := HTT.out (by omega)
     obtain ⟨x, hxx⟩ := elem_at (show k + 1 < ws.length by rw [HN1.out]; omega)
     have hcell := cell_later HBR.out (HW.out k x hxx.out)
     have hxl := HWM.out x (List.mem_of_getElem? hxx.out)
     have HL := Lib.hid (fun W h => ParseInt_c (bs x) W (by rw [bs_size]; omega) h)
     rw [bs_list] at HL
     cases hr : rdO x with
     | none =>
      as_aux_lemma =>
       have HV := Lib.hid (rdV_no hr)
       have HX := Lib.hid (show execM b line.data.toList = (b, none) from execM_bad (by rw [hT]; exact nums_fail (by omega) hxx.out HQ.out hr))
       generalize bs x = X at *
       clear hr HQ HTT HW HWM hxx hT
       go_wp2_with fail
       refine (HL.out _ (HT.out.on HBW.out)).mono ?_
       rintro e w2 ⟨rfl, hb2⟩
       rw [HV.out]
       have HB2 := Lib.hid (Below.chain HBW.out hb2)
       have r2 := range_below rr hb2
       have t2 := there_below tr hb2
       clear hb2 rr tr r1 t1 HO
       have K5 := loadVarB (World.rangeAt_setCells_same _ (w.heap.size + 1) 0 (ints b) (by simpa [ints, hb] using t2)) hb
       have K6 := below_cells (ints b) _ (w.heap.size + 1) 0 HB2.out (by omega)
       go_wp2_with (first | (refine wpList_loadB rfl _ rfl _ rfl b r2 hb ?_) | (refine wpList_storeB rfl _ _ rfl _ b rfl rfl t2 hb ?_))
       exact bodyPost_ret (v := .tuple #[aggI b, .string ⟨#[]⟩, .bool false]) (res_cell3 Tryz.results54 rfl K5) rfl (HE.out (b, none) _ _ HX.out (fun s hs => by cases hs) K6)
     | some m =>
      have HV := Lib.hid (rdV_yes hr)
      have HQ2 := Lib.hid (nums_more (by omega) hxx.out HQ.out hr)
      by_cases hq2e : q.length = 2
      · as_aux_lemma =>
         have HX := Lib.hid (show execM b line.data.toList = (b, none) from exec_many (by rw [hT, List.length_tail, HN1.out]; have := HQK.out; omega))
         have hqe : ((q.length : Int) == 2) = true := by rw [hq2e]; rfl
         generalize bs x = X at *
         clear hq2e hr HQ HTT HW HWM hxx hT HQ2
         go_wp2_with fail
         refine (HL.out _ (HT.out.on HBW.out)).mono ?_
         rintro e w2 ⟨rfl, hb2⟩
         rw [HV.out]
         have HB2 := Lib.hid (Below.chain HBW.out hb2)
         have r2 := range_below rr hb2
         have t2 := there_below tr hb2
         clear hb2 rr tr r1 t1 HO
         have K5 := loadVarB (World.rangeAt_setCells_same _ (w.heap.size + 1) 0 (ints b) (by simpa [ints, hb] using t2)) hb
         have K6 := below_cells (ints b) _ (w.heap.size + 1) 0 HB2.out (by omega)
         go_wp2_with (first | (refine wpList_loadB rfl _ rfl _ rfl b r2 hb ?_) | (refine wpList_storeB rfl _ _ rfl _ b rfl rfl t2 hb ?_))
         exact bodyPost_ret (v := .tuple #[aggI b, .string ⟨#[]⟩, .bool false]) (res_cell3 Tryz.results54 rfl K5) rfl (HE.out (b, none) _ _ HX.out (fun s hs => by cases hs) K6)
      · as_aux_lemma =>
         have hqe : ((q.length : Int) == 2) = false := by simp; omega
         generalize bs x = X at *
         clear hr HQ HW HWM hxx hT
         go_wp2_with fail
         refine (HL.out _ (HT.out.on HBW.out)).mono ?_
         rintro e w2 ⟨rfl, hb2⟩
         rw [HV.out]
         have HB2 := Lib.hid (Below.chain HBR.out hb2)
         have HO2 := Lib.hid (own_keep HO.out hb2)
         clear hb2 HO HBW rr tr r1 t1
         go_wp2_with (at_builtin; refine wpList_append_own_at _ rfl _ _ 37 rfl wc.heap.size 3 inf (.int .i64 0) 1 8 Tryz.underlying37 hi hz0 hz1 hz2 rfl (by decide) _ q.length (q.map (Value.int .i64)) rfl (HO2.out.alloc _) ⟨w2.heap.size, 0, none⟩ 1 1 [.int .i64 m] rfl rfl (news_new _ [.int .i64 m] _) (by simp [Value.oneCell']) (by unfold maxLen; omega) (by omega) (by have := HB2.out.size; simp only [World.size_alloc]; omega) ?_)
         intro v' w3 ho5 hg5 _ _
         have HB7 := Lib.hid ((Below.alc HB2.out _).grown hg5 (by have := HB2.out.size; simp only [World.size_alloc]; omega) (fun g hg => (HO2.out.lt g hg).1))
         have HO5 := Lib.hid ho5
         clear ho5 hg5
         go_wp2
         go_roundw
         case rel => exact ⟨k + 1, q ++ [m], by omega, by have := HQK.out; rw [List.length_append]; simp; omega, by rw [List.length_append]; simp; omega, by go_num, HQ2.out, ownsRow_cast HO5.out (by simp) (by simp), HB7.out⟩
         case measure => first | (simp [intOf]; done) | (simp [intOf]; omega)
   · obtain rfl : k = n1 := by omega
     have hd : decide ((k : Int) < (k : Int)) = false := by simp
     have HNS : Hid (numsM (wsL line.data.toList).tail = some q) := by
      show _ = _
      rw [hT, ← HQ.out, ← HN1.out, List.take_length]
     have hI : Ints wr (.slice ua q.length uc) q := Ints.of_own HO.out
     have HJ := Lib.hid (fun (W : World) (h : Below wr.heap.size wr W) => jobOf_c (bs w0) _ q W (hI.below h) hq2)
     rw [bs_list] at HJ
     obtain ⟨j1, j2, j3, jm, hj⟩ : ∃ j1 j2 j3 jm, jobR w0 q = ((j1, j2, j3), jm) := ⟨_, _, _, _, rfl⟩
     rw [hj] at HJ
     unfold jobV at HJ
     have hw0r := cell_later HBR.out hw01
     have zr := Nat.lt_of_lt_of_le z1 HBR.out.size
     clear HQ HW HWM HTT hT r1 t1 hw01 z1 HB1 hd
     have hn0 : 0 < k + 1 := by omega
     have hn0i : (0 : Int) < (k : Int) + 1 := by omega
     go_wp2_with fail
     refine (HJ.out _ (Below.refl _ _)).mono ?_
     rintro e w3 ⟨rfl, hb3⟩
     have ra := World.rangeAt_alloc (range_below rr hb3) (.cells #[.int .i64 j1, .int .i64 j2, .int .i64 j3] 123)
     have uT := World.there_alloc (there_below tr hb3) (.cells #[.int .i64 j1, .int .i64 j2, .int .i64 j3] 123)
     have ca := cell_later (below_one (.cells #[.int .i64 j1, .int .i64 j2, .int .i64 j3] 123)) (cell_later hb3 hw0r)
     have ia := (hI.below hb3).below (below_one (.cells #[.int .i64 j1, .int .i64 j2, .int .i64 j3] 123))
     have HB3 := Lib.hid (Below.alc (Below.chain HBW.out hb3) (.cells #[.int .i64 j1, .int .i64 j2, .int .i64 j3] 123))
     have q0 : (w3.alloc (.cells #[.int .i64 j1, .int .i64 j2, .int .i64 j3] 123)).cell? ⟨w3.heap.size, 0, none⟩ = some (.int .i64 j1) := (Bk.new w3 123 #[.int .i64 j1, .int .i64 j2, .int .i64 j3]).cell 0
     have q1 : (w3.alloc (.cells #[.int .i64 j1, .int .i64 j2, .int .i64 j3] 123)).cell? ⟨w3.heap.size, 1, none⟩ = some (.int .i64 j2) := (Bk.new w3 123 #[.int .i64 j1, .int .i64 j2, .int .i64 j3]).cell 1
     have q2 : (w3.alloc (.cells #[.int .i64 j1, .int .i64 j2, .int .i64 j3] 123)).cell? ⟨w3.heap.size, 2, none⟩ = some (.int .i64 j3) := (Bk.new w3 123 #[.int .i64 j1, .int .i64 j2, .int .i64 j3]).cell 2
     have z3 := Nat.lt_of_lt_of_le zr (show _ ≤ (w3.alloc (.cells #[.int .i64 j1, .int .i64 j2, .int .i64 j3] 123)).heap.size by have := hb3.size; rw [World.size_alloc]; omega)
     clear rr tr hw0r hI zr hb3 HJ HO HBR HBW
     go_upto_region 12 with fail
     generalize w3.heap.size = g9 at *
     generalize World.alloc _ _ = wa at *
     cases hkd : kindM w0 with
     | none =>
      as_aux_lemma =>
       have hjn := jobR_none (l := q) hkd
       rw [hj] at hjn
       simp only [Prod.mk.injEq] at hjn
       obtain ⟨⟨rfl, rfl, rfl⟩, rfl⟩ := hjn
       have HX := Lib.hid (show execM b line.data.toList = (b, askM b w0 q) from by rw [← hw0]; exact execM_ask HNS.out (by omega) (by rw [hw0]; exact hkd))
       have HANS := Lib.hid (fun W (h : Ints W (.slice ua q.length uc) q) (h2 : TabC W) => answer_c b (bs w0) (.slice ua q.length uc) q W hb hg h hq2 h2)
       unfold aggI AnsOut at HANS
       rw [bs_list] at HANS
       clear hkd hj HNS q0 q1 q2
       go_upto_region 13 with fail
       refine wp_region_noPanic ?_
       have S_wd : Below wa.heap.size wa wa.drew := (Below.refl _ _).drew
       refine wp_region_held_drew (S := fun w' : World => Below wa.heap.size wa w') (by kernel_rfl) S_wd (fun hHeld => ?_)
       generalize wa.drew = wd at *
       refine' tkX 0 hHeld ?y_t1 ?r_t1
       case y_t1 =>
        refine' yieldsIf_load_mid ?hw_t1 _ _ rfl _ _ rfl (ints b) _ ?hS_t1 ?hu_t1 ?hd_t1 ?hi_t1
        case hw_t1 => rfl
        case hS_t1 => exact fun (w' : World) (h : Below wa.heap.size wa w') => range_below ra h
        case hu_t1 => exact Tryz.underlying26
        case hd_t1 => rfl
        case hi_t1 => exact (by rw [show (ints b).length = 19 by simp [ints, hb]]; kernel_rfl)
       try simp only [Act.put, xqA, xqB, xqC]
       refine' tkY 1 hHeld ?r_t2
       try simp only [Act.put, xqA, xqB, xqC]
       refine' tkY 2 hHeld ?r_t3
       try simp only [Act.put, xqA, xqB, xqC]
       refine' tkX 3 hHeld ?y_t4 ?r_t4
       case y_t4 => exact Or.inl ⟨by rfl, by (intro w hSw; have c0 := cell_later hSw ca; go_simp; first | done | with_reducible rfl)⟩
       try simp only [Act.put, xqA, xqB, xqC]
       refine' tkY 4 hHeld ?r_t5
       try simp only [Act.put, xqA, xqB, xqC]
       refine wpAnyH_ready (rs := [5]) (by kernel_rfl) (by simp) ?_
       refine' AllReadyH.cons (o := _) ?e_k6 ?st_k6 AllReadyH.nil
       case e_k6 => (simp only [xeA, xeB, xeC]; exact rfl)
       intro K hK
       go_simp
       with_reducible refine (HANS.out wd (Ints.below ia S_wd) (HT.out.on (Below.chain HB3.out S_wd))).mono ?_
       rintro e we7 ⟨t, rfl, hans, hx8⟩
       have S_we7 := Below.chain S_wd hx8
       clear S_wd hx8
       obtain ⟨qb, hqb⟩ : ∃ qb, (askM b w0 q).isSome = qb := ⟨_, rfl⟩
       rw [hqb]
       refine hK.out _ _ S_we7 (fun hHeld => ?_)
       clear hK K
       try simp only [Act.put, xqA, xqB, xqC]
       refine' tkY 6 hHeld ?r_t9
       try simp only [Act.put, xqA, xqB, xqC]
       refine' tkY 7 hHeld ?r_t10
       try simp only [Act.put, xqA, xqB, xqC]
       refine' tkY 8 hHeld ?r_t11
       try simp only [Act.put, xqA, xqB, xqC]
       refine' tkY 9 hHeld ?r_t12
       try simp only [Act.put, xqA, xqB, xqC]
       refine' tkY 10 hHeld ?r_t13
       try simp only [Act.put, xqA, xqB, xqC]
       refine wpAnyH_done (by kernel_rfl) ?_ _
       refine NoPanic.normal ?_
       have r4 := range_below ra S_we7
       have t4 := there_below uT S_we7
       have HB4 := Lib.hid (Below.chain HB3.out S_we7)
       have HANS2 := Lib.hid hans
       have K5 := loadVarB (World.rangeAt_setCells_same _ (w.heap.size + 1) 0 (ints b) (by simpa [ints, hb] using t4)) hb
       have K6 := below_cells (ints b) _ (w.heap.size + 1) 0 HB4.out (by omega)
       clear S_we7 hans ra uT ia ca HANS
       go_wp2_with (first | (refine wpList_loadB rfl _ rfl _ rfl b r4 hb ?_) | (refine wpList_storeB rfl _ _ rfl _ b rfl rfl t4 hb ?_))
       exact bodyPost_ret (v := .tuple #[aggI b, .string t, .bool qb]) (res_cell3 Tryz.results54 rfl K5) rfl (by rw [← hqb]; exact HE.out (b, askM b w0 q) _ t HX.out HANS2.out K6)
     | some p =>
      obtain ⟨kk, n⟩ := p
      obtain ⟨hj2, hj1⟩ := jobR_kind (l := q) hkd
      rw [hj] at hj1 hj2
      have hjm : jm = (n : Int) := hj2
      subst hjm
      have hjm0 : decide ((n : Int) < 0) = false := by simp
      by_cases hqn : q.length = n
      · have hje := hj1 hqn
        simp only [Prod.mk.injEq] at hje
        obtain ⟨e1, e2, e3⟩ := hje
        have hne : ((n : Int) != (q.length : Int)) = false := by rw [hqn]; simp
        have HQN := Lib.hid hqn
        clear hqn
        have HPO := Lib.hid (fun W => isPossible_c b j1 j2 j3 W hb hg)
        unfold aggI jobV at HPO
        cases hp : possB b j1 j2 j3 with
        | false =>
         as_aux_lemma =>
          have HX := Lib.hid (show execM b line.data.toList = (b, none) from execM_no HNS.out (by omega) (by rw [hw0]; exact hkd) (fun h => by rw [← e1, ← e2, ← e3, hp] at h; exact absurd h.2 (by simp)))
          rw [hp] at HPO
          clear hkd hj HNS hj1 hj2 e1 e2 e3 hp ia ca
          go_wp2_with (refine wpList_loadB rfl _ rfl _ rfl b ra hb ?_)
          refine (HPO.out _).mono ?_
          rintro e w4 ⟨rfl, hb4⟩
          have r4 := range_below ra hb4
          have t4 := there_below uT hb4
          have HB4 := Lib.hid (Below.chain HB3.out hb4)
          clear hb4 ra uT q0 q1 q2 HPO
          have K5 := loadVarB (World.rangeAt_setCells_same _ (w.heap.size + 1) 0 (ints b) (by simpa [ints, hb] using t4)) hb
          have K6 := below_cells (ints b) _ (w.heap.size + 1) 0 HB4.out (by omega)
          go_wp2_with (first | (refine wpList_loadB rfl _ rfl _ rfl b r4 hb ?_) | (refine wpList_storeB rfl _ _ rfl _ b rfl rfl t4 hb ?_))
          exact bodyPost_ret (v := .tuple #[aggI b, .string ⟨#[]⟩, .bool false]) (res_cell3 Tryz.results54 rfl K5) rfl (HE.out (b, none) _ _ HX.out (fun s hs => by cases hs) K6)
        | true =>
         as_aux_lemma =>
          obtain ⟨X, hXd⟩ : ∃ X, doB b j1 j2 j3 = X := ⟨_, rfl⟩
          have HX := Lib.hid (show execM b line.data.toList = (X, some (rowTx (showR X))) from by
           rw [e1, e2, e3] at hp hXd
           rw [execM_do HNS.out (by omega) (by rw [hw0]; exact hkd) HQN.out hp, hXd])
          have hgx := poss_good hb hg hp
          rw [hXd] at hgx
          have hXl := hgx.2
          have hX19 : (ints X).length = 19 := by simp [ints, hXl]
          have HDO := Lib.hid (fun W => do_c b j1 j2 j3 W hb hg (poss_make hp))
          have HROW := Lib.hid (fun W => shown_b_c X W hgx.2 hgx.1)
          have hrl : (showR X).length ≤ 1000 := by rw [show (showR X).length = 6 from shTo_len X 6]; decide
          have hrd := showR_bd hgx.1
          rw [hXd] at HDO
          rw [hp] at HPO
          unfold aggI jobV at HDO
          unfold aggI at HROW
          clear hkd hj HNS hj1 hj2 e1 e2 e3 hp ia ca hgx hXd
          go_wp2_with (refine wpList_loadB rfl _ rfl _ rfl b ra hb ?_)
          refine (HPO.out _).mono ?_
          rintro e w4 ⟨rfl, hb4⟩
          have r4 := range_below ra hb4
          have t4 := there_below uT hb4
          have q04 := cell_later hb4 q0
          have q14 := cell_later hb4 q1
          have q24 := cell_later hb4 q2
          have HB4 := Lib.hid (Below.chain HB3.out hb4)
          have z4 := Nat.lt_of_lt_of_le z3 hb4.size
          clear hb4 ra uT q0 q1 q2 HPO HB3 z3
          go_wp2_with (refine wpList_loadB rfl _ rfl _ rfl b r4 hb ?_)
          refine (HDO.out _).mono ?_
          rintro e w5 ⟨rfl, hb5⟩
          have z5 := Nat.lt_of_lt_of_le z4 hb5.size
          have t5 := there_new w5 zBA 26 (n := 19) (by decide)
          have u4 := World.there_alloc (there_below t4 hb5) zB
          have u5 := World.there_setCells u4 w5.heap.size 0 (ints X)
          have c5 := World.rangeAt_setCells_same (w5.alloc zB) w5.heap.size 0 (ints X) (by rw [hX19]; exact t5)
          have HBC := Lib.hid (below_cells (ints X) (w5.alloc zB) w5.heap.size 0 (Below.alc (Below.chain HB4.out hb5) zB) (by omega))
          clear r4 t4 q04 q14 q24 HB4 z4 hb5 u4 HDO
          unfold zB zBA at *
          go_upto_region 18 with (refine wpList_storeB rfl _ _ rfl _ X rfl rfl t5 hXl ?_)
          clear t5
          generalize w5.heap.size = g17 at *
          generalize World.setCells _ _ _ _ = wd0 at *
          refine wp_region_noPanic ?_
          have S_wd : Below wd0.heap.size wd0 wd0.drew := (Below.refl _ _).drew
          have R_wd := (show World.rangeAt (wd0.drew) g17 0 (ints X) from c5)
          have U_wd := (show World.there (wd0.drew) (w.heap.size + 1) 0 19 from u5)
          clear c5 u5
          refine wp_region_held_drew (S := fun w' : World => w'.rangeAt g17 0 (ints X)) (by kernel_rfl) R_wd (fun hHeld => ?_)
          generalize wd0.drew = wd at *
          refine' tkX 0 hHeld ?y_t14 ?r_t14
          case y_t14 =>
           refine' yieldsIf_load_mid ?hw_t14 _ _ rfl _ _ rfl (ints X) _ ?hS_t14 ?hu_t14 ?hd_t14 ?hi_t14
           case hw_t14 => rfl
           case hS_t14 => exact fun (w' : World) (h : w'.rangeAt g17 0 (ints X)) => h
           case hu_t14 => exact Tryz.underlying26
           case hd_t14 => rfl
           case hi_t14 => exact (by rw [show (ints X).length = 19 by simp [ints, hXl]]; kernel_rfl)
          try simp only [Act.put, xqA, xqB, xqC]
          refine' tkX 1 hHeld ?y_t15 ?r_t15
          case y_t15 =>
           refine' yieldsIf_load_mid ?hw_t15 _ _ rfl _ _ rfl (ints X) _ ?hS_t15 ?hu_t15 ?hd_t15 ?hi_t15
           case hw_t15 => rfl
           case hS_t15 => exact fun (w' : World) (h : w'.rangeAt g17 0 (ints X)) => h
           case hu_t15 => exact Tryz.underlying26
           case hd_t15 => rfl
           case hi_t15 => exact (by rw [show (ints X).length = 19 by simp [ints, hXl]]; kernel_rfl)
          try simp only [Act.put, xqA, xqB, xqC]
          refine wpAnyH_ready (rs := [2]) (by kernel_rfl) (by simp) ?_
          refine' AllReadyH.cons (o := _) ?e_k16 ?st_k16 AllReadyH.nil
          case e_k16 => (simp only [xeA, xeB, xeC]; exact rfl)
          intro K hK
          go_simp
          with_reducible refine (HROW.out wd).mono ?_
          rintro e we17 ⟨u, rfl, ho, hx18⟩
          have R_we17 := range_below R_wd hx18
          clear R_wd
          have U_we17 := there_below U_wd hx18
          clear U_wd
          have I_we17 := Lib.hid (show Ints we17 u (showR X) from Ints.of_own ho)
          obtain ⟨ua2, uc2, rfl, _⟩ := (Sl.of_own ho).slice
          rw [show (shTo X 6).length = 6 from shTo_len X 6] at I_we17 ⊢
          have S_we17 := Below.chain S_wd hx18
          clear ho S_wd hx18
          refine hK.out _ _ R_we17 (fun hHeld => ?_)
          clear hK K
          try simp only [Act.put, xqA, xqB, xqC]
          refine wpAnyH_ready (rs := [3]) (by kernel_rfl) (by simp) ?_
          refine' AllReadyH.cons (o := _) ?e_k19 ?st_k19 AllReadyH.nil
          case e_k19 => (simp only [xeA, xeB, xeC]; exact rfl)
          intro K hK
          go_simp
          with_reducible refine (rowText_c _ (showR X) we17 I_we17.out hrl hrd).mono ?_
          rintro e we20 ⟨rfl, hx21⟩
          clear I_we17
          have R_we20 := range_below R_we17 hx21
          clear R_we17
          have U_we20 := there_below U_we17 hx21
          clear U_we17
          have S_we20 := Below.chain S_we17 hx21
          clear S_we17 hx21
          refine hK.out _ _ R_we20 (fun hHeld => ?_)
          clear hK K
          try simp only [Act.put, xqA, xqB, xqC]
          refine wpAnyH_ready (rs := [4]) (by kernel_rfl) (by simp) ?_
          refine' AllReadyH.cons (o := _) ?e_k22 ?st_k22 AllReadyH.nil
          case e_k22 => (simp only [xeA, xeB, xeC]; exact rfl)
          intro K hK
          rw [if_pos (by rfl)]
          refine wp_store_mid _ _ _ rfl _ _ (ints X).toArray rfl rfl (by rw [show (ints X).toArray.size = 19 by simp [ints, hXl]]; exact U_we20) (by simpa using hi19 hXl) (all_oneCell_toArray ints_one) ?_
          simp only [Act.put, xqA, xqB, xqC, List.toList_toArray]
          have R_we23 := World.rangeAt_setCells_apart R_we20 (w.heap.size + 1) 0 (ints X) (.inl (by omega))
          have K5 := loadVarB (World.rangeAt_setCells_same we20 (w.heap.size + 1) 0 (ints X) (by rw [show (ints X).length = 19 by simp [ints, hXl]]; exact U_we20)) hXl
          have K6 := below_cells (ints X) we20 (w.heap.size + 1) 0 (Below.chain HBC.out S_we20) (by omega)
          generalize World.setCells _ _ _ _ = we23 at *
          clear S_we20 U_we20
          refine hK.out _ _ R_we23 (fun hHeld => ?_)
          clear hK K
          try simp only [Act.put, xqA, xqB, xqC]
          refine' tkY 5 hHeld ?r_t24
          try simp only [Act.put, xqA, xqB, xqC]
          refine' tkY 6 hHeld ?r_t25
          try simp only [Act.put, xqA, xqB, xqC]
          refine wpAnyH_done (by kernel_rfl) ?_ _
          refine NoPanic.normal ?_
          go_wp2
          exact bodyPost_ret (v := .tuple #[aggI X, .string (bs (rowTx (showR X))), .bool true]) (res_cell3 Tryz.results54 rfl K5) rfl (HE.out (X, some (rowTx (showR X))) _ _ HX.out (fun s hs => by rw [Option.some.inj hs]) K6)
      · as_aux_lemma =>
         have HX := Lib.hid (show execM b line.data.toList = (b, none) from execM_no HNS.out (by omega) (by rw [hw0]; exact hkd) (fun h => hqn h.1))
         have hne : ((n : Int) != (q.length : Int)) = true := by simp; omega
         clear hkd hj HNS hj1 hj2 hqn ia ca q0 q1 q2
         have K5 := loadVarB (World.rangeAt_setCells_same _ (w.heap.size + 1) 0 (ints b) (by simpa [ints, hb] using uT)) hb
         have K6 := below_cells (ints b) _ (w.heap.size + 1) 0 HB3.out (by omega)
         go_wp2_with (first | (refine wpList_loadB rfl _ rfl _ rfl b ra hb ?_) | (refine wpList_storeB rfl _ _ rfl _ b rfl rfl uT hb ?_))
         exact bodyPost_ret (v := .tuple #[aggI b, .string ⟨#[]⟩, .bool false]) (res_cell3 Tryz.results54 rfl K5) rfl (HE.out (b, none) _ _ HX.out (fun s hs => by cases hs) K6)
def appV (okL okR : Bool) (d p : ByteArray) (n : Int) (c r : ByteArray) : Value × Int :=
 if okL && okR then (if n = 60 then (logV d p n, 2) else (logV d (p ++ bs (lineS n c.data.toList r.data.toList)) (n + 1), 0)) else (logV d p n, 1)
def AppOut (d p : ByteArray) (n : Int) (c r : ByteArray) (w : World) (e : Ending) (w' : World) : Prop :=
 ∃ ok, e = .returned (.tuple #[(appV ok (recB c r) d p n c r).1, .int .i64 (appV ok (recB c r) d p n c r).2]) ∧ (ok = true ↔ ∃ es, ValidL d.data.toList p.data.toList n es) ∧ Below w.heap.size w w'
theorem appV_no {ok okR : Bool} {d p : ByteArray} {n : Int} {c r : ByteArray} (h : (ok && okR) = false) : appV ok okR d p n c r = (logV d p n, 1) := by unfold appV; rw [h]; rfl
theorem appV_full {d p : ByteArray} {n : Int} {c r : ByteArray} (h : n = 60) : appV true true d p n c r = (logV d p n, 2) := by unfold appV; simp only [Bool.and_self, if_true]; rw [if_pos h]
theorem appV_yes {d p : ByteArray} {n : Int} {c r : ByteArray} (h : n ≠ 60) : appV true true d p n c r = (logV d (p ++ bs (lineS n c.data.toList r.data.toList)) (n + 1), 0) := by unfold appV; simp only [Bool.and_self, if_true]; rw [if_neg h]
theorem app_line {d p : ByteArray} {n : Int} {c r : ByteArray} {es : List (Bs × Bs)} (h : ValidL d.data.toList p.data.toList n es) (hn : n ≠ 60) (hr : recB c r = true) : 0 ≤ n ∧ n ≤ 59 ∧ inB n 0 59 = true ∧ (bs (lineS n c.data.toList r.data.toList)).size ≤ 454 := by
 have h1 := h.cnt
 have h2 := h.le
 have h3 : n ≤ 59 := by omega
 refine ⟨by omega, h3, inB_mk (by omega) h3, ?_⟩
 rw [bs_size, h1]
 have := lnS_len (k := es.length) (recB_iff.1 hr) (by omega)
 rw [lnS_def] at this; exact this
set_option maxHeartbeats 2000000 in
theorem AppendRecord_c (d p : ByteArray) (n : Int) (c r : ByteArray) (w : World) (hd : d.size ≤ 1048576) (hp : p.size ≤ 1048576) (hc : c.size ≤ 1048576) (hr : r.size ≤ 1048576) (ht : Tab w) : Calls Tryz.prog 55 #[logV d p n, recV c r] w (AppOut d p n c r w) := by
 have HV := Lib.hid (fun w => IsValidLog_c d p n w hd hp)
 have HRV := Lib.hid (IsValidRecord_c c r)
 have HEN := Lib.hid (fun w => EncodeRecord_c n c r w hc hr)
 have hbA := below_one (w := w) (.cells #[.string d, .string p, .int .i64 n] 29)
 have hbB := Below.alc hbA (.cells #[.string c, .string r] 76)
 have hb0 := Lib.hid (Below.alc hbB (.cells #[.string ⟨#[]⟩, .string ⟨#[]⟩, .int .i64 0] 29))
 have A0 := Lib.hid (((Bk.new w 29 #[.string d, .string p, .int .i64 n]).alloc (.cells #[.string c, .string r] 76)).alloc (.cells #[.string ⟨#[]⟩, .string ⟨#[]⟩, .int .i64 0] 29))
 have R0 := Bk.alloc (Bk.new (w.alloc (.cells #[.string d, .string p, .int .i64 n] 29)) 76 #[.string c, .string r]) (.cells #[.string ⟨#[]⟩, .string ⟨#[]⟩, .int .i64 0] 29)
 have Z0 := Bk.new ((w.alloc (.cells #[.string d, .string p, .int .i64 n] 29)).alloc (.cells #[.string c, .string r] 76)) 29 #[.string ⟨#[]⟩, .string ⟨#[]⟩, .int .i64 0]
 simp only [World.size_alloc] at R0 Z0
 have HR0 := Lib.hid R0
 have HZ0 := Lib.hid Z0
 have HT := Lib.hid ht
 clear ht hbA hbB R0 Z0
 unfold logV recV at *
 go_enter Tryz.func55, Tryz.ntmps55
 go_wp2_with fail
 refine (HV.out _ (HT.out.on hb0.out)).mono ?_
 rintro e w2 ⟨ok, rfl, hiff, hb2⟩
 have A2 := Lib.hid (A0.out.below hb2)
 have R2 := Lib.hid (HR0.out.below hb2)
 have Z2 := Lib.hid (HZ0.out.below hb2)
 have HBX := Lib.hid (Below.chain hb0.out hb2)
 have HI := Lib.hid hiff
 clear hb2 A0 HR0 HZ0 hb0 hiff HV
 have a0 : w2.cell? ⟨w.heap.size, 0, none⟩ = some (.string d) := A2.out.cell 0
 have a1 : w2.cell? ⟨w.heap.size, 1, none⟩ = some (.string p) := A2.out.cell 1
 have a2 : w2.cell? ⟨w.heap.size, 2, none⟩ = some (.int .i64 n) := A2.out.cell 2
 have r0 : w2.cell? ⟨w.heap.size + 1, 0, none⟩ = some (.string c) := R2.out.cell 0
 have r1 : w2.cell? ⟨w.heap.size + 1, 1, none⟩ = some (.string r) := R2.out.cell 1
 have z0 : w2.cell? ⟨w.heap.size + 1 + 1, 0, none⟩ = some (.string ⟨#[]⟩) := Z2.out.cell 0
 have z1 : w2.cell? ⟨w.heap.size + 1 + 1, 1, none⟩ = some (.string ⟨#[]⟩) := Z2.out.cell 1
 have z2 : w2.cell? ⟨w.heap.size + 1 + 1, 2, none⟩ = some (.int .i64 0) := Z2.out.cell 2
 have f0 : w2.frozen? ⟨w.heap.size + 1 + 1, 0, none⟩ = false := Z2.out.frozen 0
 have f1 : w2.frozen? ⟨w.heap.size + 1 + 1, 1, none⟩ = false := Z2.out.frozen 1
 have f2 : w2.frozen? ⟨w.heap.size + 1 + 1, 2, none⟩ = false := Z2.out.frozen 2
 have FIN : Hid (∀ X w', appV ok (recB c r) d p n c r = X → Below w.heap.size w w' → AppOut d p n c r w (.returned (.tuple #[X.1, .int .i64 X.2])) w') := fun X w' hX hb => by
  subst hX; exact ⟨ok, rfl, HI.out, hb⟩
 cases ok with
 | false =>
  have F := Lib.hid (fun w' => FIN.out _ w' (appV_no rfl))
  unfold logV at F
  clear FIN
  go_wp2
  exact bodyPost_ret (v := .tuple #[.agg #[.string d, .string p, .int .i64 n], .int .i64 1]) (by simp [results, Tryz.results55, go_sem, z0, z1, z2]) rfl (F.out _ (by have hb := HBX.out; exact ((hb.setCell (p := ⟨w.heap.size + 1 + 1, 0, none⟩) (by show w.heap.size ≤ w.heap.size + 1 + 1; omega) _).setCell (p := ⟨w.heap.size + 1 + 1, 1, none⟩) (by show w.heap.size ≤ w.heap.size + 1 + 1; omega) _).setCell (p := ⟨w.heap.size + 1 + 1, 2, none⟩) (by show w.heap.size ≤ w.heap.size + 1 + 1; omega) _))
 | true =>
  go_wp2_with fail
  refine (HRV.out _ (by omega) (by omega)).mono ?_
  rintro e w3 ⟨rfl, hb2⟩
  have A3 := Lib.hid (A2.out.below hb2)
  have R3 := Lib.hid (R2.out.below hb2)
  have Z3 := Lib.hid (Z2.out.below hb2)
  have HBX3 := Lib.hid (Below.chain HBX.out hb2)
  clear hb2 A2 R2 Z2 a0 a1 a2 r0 r1 z0 z1 z2 f0 f1 f2 HBX
  have a0 : w3.cell? ⟨w.heap.size, 0, none⟩ = some (.string d) := A3.out.cell 0
  have a1 : w3.cell? ⟨w.heap.size, 1, none⟩ = some (.string p) := A3.out.cell 1
  have a2 : w3.cell? ⟨w.heap.size, 2, none⟩ = some (.int .i64 n) := A3.out.cell 2
  have r0 : w3.cell? ⟨w.heap.size + 1, 0, none⟩ = some (.string c) := R3.out.cell 0
  have r1 : w3.cell? ⟨w.heap.size + 1, 1, none⟩ = some (.string r) := R3.out.cell 1
  have z0 : w3.cell? ⟨w.heap.size + 1 + 1, 0, none⟩ = some (.string ⟨#[]⟩) := Z3.out.cell 0
  have z1 : w3.cell? ⟨w.heap.size + 1 + 1, 1, none⟩ = some (.string ⟨#[]⟩) := Z3.out.cell 1
  have z2 : w3.cell? ⟨w.heap.size + 1 + 1, 2, none⟩ = some (.int .i64 0) := Z3.out.cell 2
  have f0 : w3.frozen? ⟨w.heap.size + 1 + 1, 0, none⟩ = false := Z3.out.frozen 0
  have f1 : w3.frozen? ⟨w.heap.size + 1 + 1, 1, none⟩ = false := Z3.out.frozen 1
  have f2 : w3.frozen? ⟨w.heap.size + 1 + 1, 2, none⟩ = false := Z3.out.frozen 2
  have HBX := HBX3
  clear HBX3
  rcases hrc : recB c r with _ | _
  · rw [hrc] at FIN
    have F := Lib.hid (fun w' => FIN.out _ w' (appV_no rfl))
    unfold logV at F
    clear FIN hrc
    go_wp2
    exact bodyPost_ret (v := .tuple #[.agg #[.string d, .string p, .int .i64 n], .int .i64 1]) (by simp [results, Tryz.results55, go_sem, z0, z1, z2]) rfl (F.out _ (by have hb := HBX.out; exact ((hb.setCell (p := ⟨w.heap.size + 1 + 1, 0, none⟩) (by show w.heap.size ≤ w.heap.size + 1 + 1; omega) _).setCell (p := ⟨w.heap.size + 1 + 1, 1, none⟩) (by show w.heap.size ≤ w.heap.size + 1 + 1; omega) _).setCell (p := ⟨w.heap.size + 1 + 1, 2, none⟩) (by show w.heap.size ≤ w.heap.size + 1 + 1; omega) _))
  · have HRC := Lib.hid hrc
    rw [hrc] at FIN
    clear hrc
    by_cases h60 : n = 60
    · have t60 : (n == 60) = true := by rw [h60]; rfl
      have F := Lib.hid (fun w' => FIN.out _ w' (appV_full h60))
      unfold logV at F
      clear FIN h60
      go_wp2
      exact bodyPost_ret (v := .tuple #[.agg #[.string d, .string p, .int .i64 n], .int .i64 2]) (by simp [results, Tryz.results55, go_sem, z0, z1, z2]) rfl (F.out _ (by have hb := HBX.out; exact ((hb.setCell (p := ⟨w.heap.size + 1 + 1, 0, none⟩) (by show w.heap.size ≤ w.heap.size + 1 + 1; omega) _).setCell (p := ⟨w.heap.size + 1 + 1, 1, none⟩) (by show w.heap.size ≤ w.heap.size + 1 + 1; omega) _).setCell (p := ⟨w.heap.size + 1 + 1, 2, none⟩) (by show w.heap.size ≤ w.heap.size + 1 + 1; omega) _))
    · have t60 : (n == 60) = false := by simp; exact h60
      have F := Lib.hid (fun w' => FIN.out _ w' (appV_yes h60))
      unfold logV at F
      obtain ⟨es, hes⟩ := HI.out.1 trivial
      obtain ⟨hn0, hn1, hin, hsz⟩ := app_line hes h60 HRC.out
      have HY := Lib.hid (encR_y hin HRC.out)
      clear FIN h60 hes hin
      go_wp2_with fail
      refine (HEN.out _ (HT.out.on HBX.out)).mono ?_
      rintro e w4 ⟨rfl, hb2⟩
      rw [HY.out]
      generalize bs (lineS n c.data.toList r.data.toList) = X at *
      have a0' := cell_later hb2 a0
      have a1' := cell_later hb2 a1
      have a2' := cell_later hb2 a2
      have Z4 := Lib.hid (Z3.out.below hb2)
      have HBX4 := Lib.hid (Below.chain HBX.out hb2)
      clear hb2 a0 a1 a2 r0 r1 z0 z1 z2 f0 f1 f2 HBX Z3 A3 R3
      have HBX := HBX4
      clear HBX4
      have z0 : w4.cell? ⟨w.heap.size + 1 + 1, 0, none⟩ = some (.string ⟨#[]⟩) := Z4.out.cell 0
      have z1 : w4.cell? ⟨w.heap.size + 1 + 1, 1, none⟩ = some (.string ⟨#[]⟩) := Z4.out.cell 1
      have z2 : w4.cell? ⟨w.heap.size + 1 + 1, 2, none⟩ = some (.int .i64 0) := Z4.out.cell 2
      have f0 : w4.frozen? ⟨w.heap.size + 1 + 1, 0, none⟩ = false := Z4.out.frozen 0
      have f1 : w4.frozen? ⟨w.heap.size + 1 + 1, 1, none⟩ = false := Z4.out.frozen 1
      have f2 : w4.frozen? ⟨w.heap.size + 1 + 1, 2, none⟩ = false := Z4.out.frozen 2
      go_wp2
      exact bodyPost_ret (v := .tuple #[.agg #[.string d, .string (p ++ X), .int .i64 (n + 1)], .int .i64 0]) (by simp [results, Tryz.results55, go_sem, z0, z1, z2]) rfl (F.out _ (by have hb := HBX.out; exact ((hb.setCell (p := ⟨w.heap.size + 1 + 1, 0, none⟩) (by show w.heap.size ≤ w.heap.size + 1 + 1; omega) _).setCell (p := ⟨w.heap.size + 1 + 1, 1, none⟩) (by show w.heap.size ≤ w.heap.size + 1 + 1; omega) _).setCell (p := ⟨w.heap.size + 1 + 1, 2, none⟩) (by show w.heap.size ≤ w.heap.size + 1 + 1; omega) _))
theorem ok_snoc {es : List (Bs × Bs)} {e : Bs × Bs} (h : ∀ x ∈ es, OkE x) (he : OkE e) : ∀ x ∈ es ++ [e], OkE x := fun x hx =>
 (List.mem_append.1 hx).elim (h x) (fun hx => by rw [List.mem_singleton.1 hx]; exact he)
theorem ValidL.snoc {d p : Bs} {n : Int} {es : List (Bs × Bs)} {e : Bs × Bs} (h : ValidL d p n es) (he : OkE e) (hn : n ≠ 60) : ValidL d (p ++ lineS n e.1 e.2) (n + 1) (es ++ [e]) := by
 have hc := h.cnt
 have hlt : es.length < 60 := by have := h.le; omega
 have hl : d ++ (p ++ lineS n e.1 e.2) = linesS 0 (es ++ [e]) := by
  rw [← List.append_assoc, h.eq, linesS_snoc, hc, ← lnS_def, Nat.zero_add]
 have hlen := linesS_len 0 (es ++ [e]) (ok_snoc h.ok he) (by rw [List.length_append]; simp; omega)
 rw [List.length_append] at hlen
 simp only [List.length_cons, List.length_nil] at hlen
 exact ⟨by rw [hl]; omega, ok_snoc h.ok he, by rw [List.length_append]; simp; omega, hl, h.fin, by rw [List.length_append]; simp; omega⟩
theorem Opens.take {s : Bs} {es : List (Bs × Bs)} {rest : Bs} (h : Opens s es rest) : s.take (linesS 0 es).length = linesS 0 es := by
 conv => lhs; rw [h.eq]
 rw [List.take_left']; rfl
theorem Tab.below {w w' : World} (h : Tab w) (hb : Below w.heap.size w w') : Tab w' := h.on hb
theorem wpList_loadL {ops : Array Oper} {rest : List Oper} {op : Oper} {a : Act} {w : World} {Q : Exit → Act → World → Prop} (hw : Region.wanted op (yielded ops a.tmps) = true) (x : Operand) (ho : op.op = .load 29 x)
 (g o : Nat) (hx : a.eval x = .pointer (some ⟨g, o, none⟩)) (d p : ByteArray) (n : Int) (hc : w.rangeAt g o (lgC d p n))
 (h : wpList Tryz.prog ops Q rest (a.put op.dst (.agg (lgC d p n).toArray)) w) : wpList Tryz.prog ops Q (op :: rest) a w :=
 wpList_load_want hw _ x ho g o hx _ _ hc Tryz.underlying29 rfl (by kernel_rfl) h
theorem csC_bench {w : World} {g : Nat} {b : List Int} {d p : ByteArray} {n : Int} (h : w.rangeAt g 0 (csC b d p n)) (hb : b.length = 19) : w.rangeAt g 0 (ints b) := by
 have := range_sub h 0 19
 rw [Nat.zero_add, List.drop_zero, csC, List.take_left' (by simp [hb])] at this
 exact this
theorem csC_log {w : World} {g : Nat} {b : List Int} {d p : ByteArray} {n : Int} (h : w.rangeAt g 0 (csC b d p n)) (hb : b.length = 19) : w.rangeAt g 19 (lgC d p n) := by
 have := range_sub h 19 3
 rw [Nat.zero_add, csC, List.drop_left' (by simp [hb])] at this
 exact this
def consV (b : List Int) (d p : ByteArray) (n : Int) : Value := .agg (csC b d p n).toArray
theorem logV_lgC (d p : ByteArray) (n : Int) : logV d p n = .agg (lgC d p n).toArray := rfl
def ConsOut (b : List Int) (d p : ByteArray) (n : Int) (w : World) (e : Ending) (w' : World) : Prop :=
 ∃ ok, e = .returned (.bool ok) ∧ (ok = true ↔ (goodB b = true ∧ ∃ es, ValidL d.data.toList p.data.toList n es)) ∧ Below w.heap.size w w'
set_option maxHeartbeats 1000000 in
theorem IsValidConsole_c (b : List Int) (d p : ByteArray) (n : Int) (w : World) (hb : b.length = 19) (hd : d.size ≤ 1048576) (hp : p.size ≤ 1048576) (ht : Tab w) : Calls Tryz.prog 43 #[consV b d p n] w (ConsOut b d p n w) := by
 unfold consV
 have r0 := range_new w (csC b d p n) 31
 have b0 := csC_bench r0 hb
 have hb0 := Lib.hid (below_one (w := w) (.cells (csC b d p n).toArray 31))
 have HV := Lib.hid (fun w => IsValidLog_c d p n w hd hp)
 simp only [logV_lgC] at HV
 have HT := Lib.hid ht
 clear ht
 rcases hg : goodB b with _ | _
 · have HG := Lib.hid hg
   clear hg
   go_enter Tryz.func43, Tryz.ntmps43
   go_wp2_with (refine wpList_loadB rfl _ rfl _ rfl b b0 hb ?_)
   refine (IsBench_c b _ hb).mono ?_
   rintro e w1 ⟨rfl, hb1⟩
   rw [HG.out]
   go_wp2
   go_ret
   exact ⟨false, rfl, ⟨(fun h => by cases h), fun h => by rw [HG.out] at h; exact h.1⟩, Below.chain hb0.out hb1⟩
 · have HG := Lib.hid hg
   clear hg
   go_enter Tryz.func43, Tryz.ntmps43
   go_wp2_with (refine wpList_loadB rfl _ rfl _ rfl b b0 hb ?_)
   refine (IsBench_c b _ hb).mono ?_
   rintro e w1 ⟨rfl, hb1⟩
   rw [HG.out]
   have l1 := csC_log (range_below r0 hb1) hb
   have HB1 := Lib.hid (Below.chain hb0.out hb1)
   clear r0 b0 hb1
   go_wp2_with (refine wpList_loadL rfl _ rfl _ _ rfl d p n l1 ?_)
   refine (HV.out _ (HT.out.on HB1.out)).mono ?_
   rintro e w2 ⟨ok, rfl, hi, hb2⟩
   have HI := Lib.hid hi
   clear hi
   go_wp2
   go_ret
   exact ⟨ok, rfl, HI.out.trans ⟨fun h => ⟨HG.out, h⟩, fun h => h.2⟩, Below.chain HB1.out hb2⟩
structure Cst where
 b : List Int
 d : ByteArray
 p : ByteArray
 n : Int
def Cst.val (c : Cst) : Value := consV c.b c.d c.p c.n
def Cst.ok (c : Cst) : Prop := goodB c.b = true ∧ ∃ es, ValidL c.d.data.toList c.p.data.toList c.n es
structure Cst.fit (c : Cst) : Prop where
 hb : c.b.length = 19
 hd : c.d.size ≤ 1048576
 hp : c.p.size ≤ 1048576
def tNo : Bs := [110, 111]
def tBad : Bs := [98, 97, 100]
def tFull : Bs := [102, 117, 108, 108]
def doneC (c : Cst) (line : ByteArray) : Cst := ⟨(execM c.b line.data.toList).1, c.d, c.p ++ bs (lineS c.n line.data.toList (sayO (execM c.b line.data.toList).2)), c.n + 1⟩
def stepV (ok : Bool) (c : Cst) (line : ByteArray) : Cst × Bs :=
 if ok = false then (c, tNo) else if cmdB line = false then (c, tBad) else if c.n = 60 then (c, tFull) else (doneC c line, sayO (execM c.b line.data.toList).2)
theorem stepV_no {c : Cst} {line : ByteArray} : stepV false c line = (c, tNo) := rfl
theorem stepV_bad {c : Cst} {line : ByteArray} (h : cmdB line = false) : stepV true c line = (c, tBad) := by unfold stepV; rw [if_neg (by simp), if_pos h]
theorem stepV_full {c : Cst} {line : ByteArray} (h : cmdB line = true) (hn : c.n = 60) : stepV true c line = (c, tFull) := by unfold stepV; rw [if_neg (by simp), if_neg (by rw [h]; simp), if_pos hn]
theorem stepV_done {c : Cst} {line : ByteArray} (h : cmdB line = true) (hn : c.n ≠ 60) : stepV true c line = (doneC c line, sayO (execM c.b line.data.toList).2) := by unfold stepV; rw [if_neg (by simp), if_neg (by rw [h]; simp), if_neg hn]
def ExOut (c : Cst) (line : ByteArray) (w : World) (e : Ending) (w' : World) : Prop :=
 ∃ ok, e = .returned (.tuple #[(stepV ok c line).1.val, .string (bs (stepV ok c line).2)]) ∧ (ok = true ↔ c.ok) ∧ Below w.heap.size w w'
theorem okE_of {line : ByteArray} {r : Bs} (h : recB line (bs r) = true) : OkE (line.data.toList, r) := by
 have := recB_iff.1 h
 rw [bs_list] at this; exact this
theorem done_valid {c : Cst} {line : ByteArray} {es : List (Bs × Bs)} (hb : c.b.length = 19) (hg : goodB c.b = true) (hv : ValidL c.d.data.toList c.p.data.toList c.n es) (hc : cmdB line = true) (hn : c.n ≠ 60) :
 ValidL (doneC c line).d.data.toList (doneC c line).p.data.toList (doneC c line).n (es ++ [(line.data.toList, sayO (execM c.b line.data.toList).2)]) := by
 have := hv.snoc (e := (line.data.toList, sayO (execM c.b line.data.toList).2)) (okE_of (recB_of hc (sayM_rp hb hg _))) hn
 unfold doneC
 simp only
 rw [app_list, bs_list]
 exact this
theorem valid_small {c : Cst} {es : List (Bs × Bs)} (hv : ValidL c.d.data.toList c.p.data.toList c.n es) : c.d.size ≤ 30000 ∧ c.p.size ≤ 30000 := by
 have := hv.sz
 rw [List.length_append, ba_len, ba_len] at this
 omega
theorem stepV_ok {c : Cst} (line : ByteArray) (hb : c.b.length = 19) (h : c.ok) : (stepV true c line).1.b.length = 19 ∧ (stepV true c line).1.ok := by
 cases hc : cmdB line with
 | false => rw [stepV_bad hc]; exact ⟨hb, h⟩
 | true =>
  by_cases hn : c.n = 60
  · rw [stepV_full hc hn]; exact ⟨hb, h⟩
  · rw [stepV_done hc hn]
    obtain ⟨hg, es, hv⟩ := h
    have hx := (execM_ok hb hg line.data.toList).1
    exact ⟨hx.1, hx.2, _, done_valid hb hg hv hc hn⟩
theorem ok_fit {c : Cst} (hb : c.b.length = 19) (h : c.ok) : c.fit := by
 obtain ⟨_, es, hv⟩ := h
 have := valid_small hv
 exact ⟨hb, by omega, by omega⟩
theorem stepV_fit {ok : Bool} {c : Cst} (line : ByteArray) (h : c.fit) (hok : ok = true → c.ok) : (stepV ok c line).1.fit := by
 cases ok with
 | false => exact h
 | true => have := stepV_ok line h.hb (hok rfl); exact ok_fit this.1 this.2
theorem ex_yes {c : Cst} {line : ByteArray} {w w' : World} {e : Ending} (h : c.ok) (ho : ExOut c line w e w') : e = .returned (.tuple #[(stepV true c line).1.val, .string (bs (stepV true c line).2)]) ∧ Below w.heap.size w w' := by
 obtain ⟨ok, rfl, hi, hb⟩ := ho
 rw [hi.2 h]; exact ⟨rfl, hb⟩
def repI : Cst → List (Bs × Bs) → Nat
 | _, [] => 0
 | c, e :: t => if (stepV true c (bs e.1)).2 = e.2 then repI (stepV true c (bs e.1)).1 t + 1 else 0
def repS : Cst → List (Bs × Bs) → Option Cst
 | c, [] => some c
 | c, e :: t => if (stepV true c (bs e.1)).2 = e.2 then repS (stepV true c (bs e.1)).1 t else none
theorem repI_yes {c : Cst} {e : Bs × Bs} {t : List (Bs × Bs)} (hx : (stepV true c (bs e.1)).2 = e.2) : repI c (e :: t) = repI (stepV true c (bs e.1)).1 t + 1 := if_pos hx
theorem repI_not {c : Cst} {e : Bs × Bs} {t : List (Bs × Bs)} (hx : (stepV true c (bs e.1)).2 ≠ e.2) : repI c (e :: t) = 0 := if_neg hx
theorem repS_snoc {c c' : Cst} {es : List (Bs × Bs)} {e : Bs × Bs} (h : repS c es = some c') : repS c (es ++ [e]) = if (stepV true c' (bs e.1)).2 = e.2 then some (stepV true c' (bs e.1)).1 else none := by
 induction es generalizing c with
 | nil =>
  obtain rfl := Option.some.inj h
  rfl
 | cons x t ih =>
  unfold repS at h
  split at h
  · rename_i hx
    show (if (stepV true c (bs x.1)).2 = x.2 then repS (stepV true c (bs x.1)).1 (t ++ [e]) else none) = _
    rw [if_pos hx]; exact ih h
  · cases h
theorem repS_all {c c' : Cst} {es : List (Bs × Bs)} (h : repS c es = some c') : repI c es = es.length := by
 induction es generalizing c with
 | nil => rfl
 | cons x t ih =>
  unfold repS at h
  split at h
  · rename_i hx
    unfold repI
    rw [if_pos hx, ih h]; rfl
  · cases h
def Replays (c0 c : Cst) : Prop := ∃ es, ValidL c.d.data.toList c.p.data.toList c.n es ∧ repS c0 es = some c
theorem Replays.step {c0 c : Cst} (h : Replays c0 c) (hb : c.b.length = 19) (hg : goodB c.b = true) (line : ByteArray) : Replays c0 (stepV true c line).1 := by
 cases hc : cmdB line with
 | false => rw [stepV_bad hc]; exact h
 | true =>
  by_cases hn : c.n = 60
  · rw [stepV_full hc hn]; exact h
  · obtain ⟨es, hv, hr⟩ := h
    have hs := stepV_done hc hn
    refine ⟨es ++ [(line.data.toList, sayO (execM c.b line.data.toList).2)], ?_, ?_⟩
    · rw [hs]; exact done_valid hb hg hv hc hn
    · rw [repS_snoc hr]
      simp only [bs_of]
      rw [hs, if_pos rfl]
theorem Replays.count {c0 c : Cst} (h : Replays c0 c) : ∃ es, ValidL c.d.data.toList c.p.data.toList c.n es ∧ (repI c0 es : Int) = c.n := by
 obtain ⟨es, hv, hr⟩ := h
 exact ⟨es, hv, by rw [repS_all hr, hv.cnt]⟩
def RepAt (c0 : Cst) (es : List (Bs × Bs)) (k : Nat) (c : Cst) : Prop := repI c0 es = k + repI c (es.drop k)
theorem RepAt.zero (c0 : Cst) (es : List (Bs × Bs)) : RepAt c0 es 0 c0 := by unfold RepAt; simp
theorem RepAt.next {c0 c : Cst} {es : List (Bs × Bs)} {k : Nat} {e : Bs × Bs} (h : RepAt c0 es k c) (he : es[k]? = some e) (hx : (stepV true c (bs e.1)).2 = e.2) : RepAt c0 es (k + 1) (stepV true c (bs e.1)).1 := by
 unfold RepAt at *
 rw [h, drop_at he, repI_yes hx]
 omega
theorem RepAt.stop {c0 c : Cst} {es : List (Bs × Bs)} {k : Nat} {e : Bs × Bs} (h : RepAt c0 es k c) (he : es[k]? = some e) (hx : (stepV true c (bs e.1)).2 ≠ e.2) : repI c0 es = k := by
 unfold RepAt at *
 rw [h, drop_at he, repI_not hx]; rfl
theorem RepAt.done {c0 c : Cst} {es : List (Bs × Bs)} (h : RepAt c0 es es.length c) : repI c0 es = es.length := by
 unfold RepAt at h
 rw [h, List.drop_length]; rfl
end Go.Proofs.YtohgjfdbnkjefaaGreatDoor
