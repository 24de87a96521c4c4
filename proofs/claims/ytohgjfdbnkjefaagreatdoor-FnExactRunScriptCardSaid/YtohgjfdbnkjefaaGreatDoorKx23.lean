/- Texts of this claim, gathered: Told2, Cwe. -/
import Derived.Test.YtohgjfdbnkjefaaGreatDoorKx22
import Derived.Deep.RegionHeld3
import Derived.Deep.DeepCutAuto
namespace Go.Proofs.YtohgjfdbnkjefaaGreatDoor
open Go.RowKit
set_option linter.unusedVariables false
set_option linter.unusedSimpArgs false
set_option maxRecDepth 100000
theorem OwnSS.partsB {w : World} {lo : Nat} {u : Value} {xss : List (List Int)} (h : OwnSS w lo u xss) : ∃ a c, u = .slice a xss.length c ∧ xss.length ≤ 9223372036854775807 ∧
 Hid (∀ (k : Nat) (xs : List Int), xss[k]? = some xs → ∃ b off a' c', a = some ⟨b, off, none⟩ ∧ lo ≤ b ∧ b < w.heap.size ∧ w.cell? ⟨b, off + k, none⟩ = some (.slice a' xs.length c') ∧ xs.length ≤ 9223372036854775807 ∧
  ∀ x, xs[0]? = some x → ∃ b2 o2, a' = some ⟨b2, o2, none⟩ ∧ lo ≤ b2 ∧ b2 < w.heap.size ∧ w.cell? ⟨b2, o2, none⟩ = some (.int .i64 x)) := by
 have hb := h
 obtain ⟨vs, ho, hi⟩ := h
 obtain ⟨a, c, e, hl, HP⟩ := hb.parts
 refine ⟨a, c, e, hl, fun k xs hk => ?_⟩
 obtain ⟨b, off, a', c', ea, hc, hxl, hI⟩ := HP.out k xs hk
 have hlt := ho.lt b (by rw [e, ea]; rfl)
 have hkl : k < vs.length := by rw [hi.1]; exact (List.getElem?_eq_some_iff.1 hk).1
 have hv : vs[k]? = some vs[k] := List.getElem?_eq_getElem hkl
 have hcell : w.cell? ⟨b, off + k, none⟩ = vs[k]? := by
  obtain ⟨a2, c2, e2, _, _, _, h4⟩ := Sl.of_own ho
  obtain ⟨b4, off4, e4, h5⟩ := h4 (by have := (List.getElem?_eq_some_iff.1 hk).1; omega)
  rw [e] at e2
  cases e2
  rw [ea] at e4
  cases e4
  exact h5 k (by have := (List.getElem?_eq_some_iff.1 hk).1; omega)
 have hvk : vs[k] = .slice a' xs.length c' := by
  rw [hcell, hv] at hc; exact Option.some.inj hc
 refine ⟨b, off, a', c', ea, hlt.1, hlt.2, hc, hxl, fun x hx => ?_⟩
 obtain ⟨a3, c3, e3, _, _, HI⟩ := hI.parts
 cases e3
 obtain ⟨b2, o2, e5, h6⟩ := HI.out 0 x hx
 have hin := (hi.2.1 k _ xs hv hk).lt b2 (by rw [hvk, e5]; rfl)
 exact ⟨b2, o2, e5, hin.1, hin.2, by simpa using h6⟩
theorem sToldDigits_c (d l : Int) (w : World) : Calls Tryz.prog 232 #[.agg #[.int .i64 d, .int .i64 l]] w (IntsPost w (tdL d l) (faultB d l)) := by
 obtain ⟨i, hi, hz0, hz1, hz2⟩ := info_parts info_int
 have B0 := Lib.hid ((Bk.new w 46 #[.int .i64 d, .int .i64 l]).alloc (.cells #[] 3))
 have HO : Hid (((w.alloc (.cells #[.int .i64 d, .int .i64 l] 46)).alloc (.cells #[] 3)).ownsRow w.heap.size 3 1 (.slice (some ⟨w.heap.size + 1, 0, none⟩) 0 0) 0 []) := by
  have := World.ownsRow_lit (e := 3) (size := 1) (base := w.heap.size) (w.alloc (.cells #[.int .i64 d, .int .i64 l] 46)) #[] 0 (by simp) (by decide) rfl
  rw [World.size_alloc] at this
  exact this
 have HB : Hid (Below w.heap.size w ((w.alloc (.cells #[.int .i64 d, .int .i64 l] 46)).alloc (.cells #[] 3))) := Below.alc (below_one _) _
 have hs0 : ((w.alloc (.cells #[.int .i64 d, .int .i64 l] 46)).alloc (.cells #[] 3)).heap.size = w.heap.size + 2 := by simp
 rcases ha : faultB d l with _ | _
 · have HL := Lib.hid (show tdL d l = [] by simp [tdL, ha])
   have HA := Lib.hid ha; clear ha
   go_enter Tryz.func232, Tryz.ntmps232
   go_wp2_with fail
   refine (l3Fault_c d l _).mono ?_
   rintro e w1 ⟨rfl, hb1⟩
   rw [HA.out]
   have ho1 := Lib.hid (own_keep HO.out hb1)
   have hb2 := Lib.hid (HB.out.trans (hb1.mono HB.out.size))
   clear hb1
   go_wp2
   go_ret2
   exact IntsPost.mk' HL.out rfl ho1.out hb2.out
 · have HL := Lib.hid (show tdL d l = toldTo (grpL d l) (grpL d l).length by simp [tdL, ha])
   have bd := faultB_true ha
   have HA := Lib.hid ha; clear ha
   go_enter Tryz.func232, Tryz.ntmps232
   go_wp2_with fail
   refine (l3Fault_c d l _).mono ?_
   rintro e w1 ⟨rfl, hb1⟩
   rw [HA.out]
   have ho1 := Lib.hid (own_keep HO.out hb1)
   have hb2 := Lib.hid (HB.out.trans (hb1.mono HB.out.size))
   have q0 : w1.cell? ⟨w.heap.size, 0, none⟩ = some (.int .i64 d) := (B0.out.below hb1).cell 0
   have q1 : w1.cell? ⟨w.heap.size, 1, none⟩ = some (.int .i64 l) := (B0.out.below hb1).cell 1
   have hs1 : w.heap.size + 2 ≤ w1.heap.size := by have := hb1.size; omega
   clear hb1 B0 HO HB hs0
   go_wp2_with fail
   refine (l3Groups_c d l _ bd.1 bd.2.1 bd.2.2.1 bd.2.2.2.1).mono ?_
   rintro e w2 ⟨u, rfl, ho, hb3⟩
   have hb4 := Lib.hid (Below.chain hb2.out hb3)
   have ho2 := Lib.hid (own_keep ho1.out hb3)
   have hs2 : w1.heap.size ≤ w2.heap.size := hb3.size
   clear hb3 hb2 q0 q1 ho1
   have h10 : (grpL d l).length ≤ 10 := grpTo_le _ _ _
   have HN : Hid (∀ (k : Nat) (xs : List Int), (grpL d l)[k]? = some xs → 0 < xs.length) := fun k xs h => grpL_pos h
   generalize grpL d l = xss at *
   obtain ⟨a, c, rfl, hxl, HC⟩ := ho.partsB
   clear ho
   go_wp2
   go_loopw [4, 6] (fun o j wr => ∃ k : Nat, k ≤ xss.length ∧ j = .int .i64 (k : Int) ∧ Hid (wr.ownsRow w.heap.size 3 1 o (toldTo xss k).length ((toldTo xss k).map (Value.int .i64))) ∧ Hid (Below w.heap.size w wr) ∧ Hid (∀ g, o.ownBlock = some g → g < w1.heap.size ∨ w2.heap.size ≤ g) ∧ Hid (w2.heap.size ≤ wr.heap.size) ∧ Hid (∀ (b o : Nat) (x : Value), w1.heap.size ≤ b → b < w2.heap.size → w2.cell? ⟨b, o, none⟩ = some x → wr.cell? ⟨b, o, none⟩ = some x)) (fun _ j _ => xss.length - (intOf j).toNat)
   case atStart => exact ⟨0, by omega, rfl, ho2, hb4, (fun g hg => by simp [Value.ownBlock] at hg; omega), Nat.le_refl _, fun _ _ _ _ _ h => h⟩
   case round =>
    obtain ⟨k, hk, rfl, HO, HBr, HD, HZ, HK⟩ := hrel
    clear hb4 ho2
    by_cases hlt : k < xss.length
    · have hd : decide ((k : Int) < (xss.length : Int)) = true := by simp; omega
      obtain ⟨xs, hx⟩ := elem_at hlt
      obtain ⟨b, off, a', c', rfl, hbl, hbh, f0, hxsl, HX⟩ := HC.out k xs hx.out
      have hpos := HN.out k xs hx.out
      obtain ⟨x0, hx0⟩ := elem_at hpos
      obtain ⟨b3, o3, rfl, hbl3, hbh3, f1⟩ := HX x0 hx0.out
      have hhd : xs.headD 0 = x0 := headD_of hx0.out
      have g0 := HK.out _ _ _ hbl hbh f0
      have g1 := HK.out _ _ _ hbl3 hbh3 f1
      have hS := toldTo_succ hx.out
      have hle := toldTo_le xss k
      rw [hhd] at hS
      generalize toldTo xss k = cur at *
      have HS := Lib.hid hS; clear hS f0 f1 HX hhd hx hx0
      rcases hq : xs.length == 1 with _ | _
      · have hq1 : decide ((xs.length : Int) = 1) = false := by simp at hq ⊢; omega
        have HS2 := Lib.hid (show toldTo xss (k + 1) = cur by rw [HS.out, hq]; simp)
        clear HS
        go_wp2
        go_roundw
        case rel => exact ⟨k + 1, by omega, by go_num, by rw [HS2.out]; exact HO, HBr, HD, HZ, HK⟩
        case measure => simp [intOf]; omega
      · have hq1 : decide ((xs.length : Int) = 1) = true := by simp at hq ⊢; omega
        have HS2 := Lib.hid (show toldTo xss (k + 1) = cur ++ [x0] by rw [HS.out, hq]; simp)
        clear HS
        go_wp2_with (at_builtin; refine wpList_append_own_at _ rfl _ _ 37 rfl w.heap.size 3 i (.int .i64 0) 1 8 Tryz.underlying37 hi hz0 hz1 hz2 rfl (by decide) _ cur.length (cur.map (Value.int .i64)) rfl (HO.out.alloc _) ⟨wr.heap.size, 0, none⟩ 1 1 [.int .i64 x0] rfl rfl (news_new _ [.int .i64 x0] _) (by simp [Value.oneCell']) (by unfold maxLen; omega) (by omega) (by have := HBr.out.size; simp; omega) ?_)
        intro v' w3 ho5 hg5 _ hat
        have HB3 := Lib.hid ((Below.alc HBr.out _).grown hg5 (by have := HBr.out.size; simp; omega) (fun g hg => ((HO.out.alloc (.cells #[.int .i64 x0] 3)).lt g hg).1))
        have HZ3 : Hid (w2.heap.size ≤ w3.heap.size) := by have h1 := hg5.size; have h2 := HZ.out; (try simp only [World.size_alloc] at h1); exact Nat.le_trans h2 (by omega)
        have HD3 : Hid (∀ g, v'.ownBlock = some g → g < w1.heap.size ∨ w2.heap.size ≤ g) := by
         intro g hg
         rcases hat with e | e
         · exact HD.out g (by rw [← e]; exact hg)
         · rw [e] at hg
           simp only [Option.some.injEq] at hg
           have := HZ.out
           (try simp only [World.size_alloc] at hg); omega
        have HK3 : Hid (∀ (b o : Nat) (x : Value), w1.heap.size ≤ b → b < w2.heap.size → w2.cell? ⟨b, o, none⟩ = some x → w3.cell? ⟨b, o, none⟩ = some x) := by
         intro b o x h1 h2 h3
         refine hg5.cell (cell_later (below_one _) (HK.out b o x h1 h2 h3)) (fun e => ?_)
         have := HD.out b e.symm
         omega
        have HO3 := Lib.hid ho5
        clear ho5 hg5 hat
        go_wp2
        go_roundw
        case rel => exact ⟨k + 1, by omega, by go_num, by rw [HS2.out]; exact ownsRow_cast HO3.out (by simp) (ints_snoc _ _).symm, HB3, HD3, HZ3, HK3⟩
        case measure => simp [intOf]; omega
    · obtain rfl : k = xss.length := by omega
      have hd : decide ((xss.length : Int) < (xss.length : Int)) = false := by simp
      go_wp2
      go_ret2
      exact IntsPost.mk' HL.out rfl HO.out HBr.out
def placeF (f1 f2 c : Int) (w : Bs) : Option Bs :=
 if w = wDigits then some (listT (digL f1 f2 c)) else if w = wTold then some (listT (tdL f1 f2)) else if w = wImages then some (Lib.decDigits (grpL f1 f2).length)
 else if w = wHarmless then some (yesT (decide ((grpL f1 f2).length = 10))) else if w = wNear then some (listT (nearL c)) else if w = wSame then some (partT (csA f1 f2) (csB f1 f2)) else none
theorem placeM_in {b : List Int} {k : Nat} {f1 f2 c : Int} (hk : k < 6) (hf : bF b k = (f1, f2)) (hc : shAt b k = c) (w : Bs) : placeM b w (k : Int) = placeF f1 f2 c w := by
 unfold placeM
 rw [if_neg (by rw [inB_mk (by omega) (by omega)]; simp)]
 simp only [Int.toNat_natCast, hf, hc]
 rfl
theorem placeM_out {b : List Int} {k : Int} (h : inB k 0 5 = false) (w : Bs) : placeM b w k = none := by
 unfold placeM; rw [if_pos h]
structure PlcB (f1 f2 c : Int) : Prop where
 d0 : 0 ≤ f1
 d1 : f1 ≤ 127
 l0 : 0 ≤ f2
 l1 : f2 ≤ 127
 c0 : 0 ≤ c
 c1 : c ≤ 127
 ok : faultB f1 f2 = true
theorem plcB_of {b : List Int} (hg : goodB b = true) {k : Nat} (hk : k < 6) {f1 f2 c : Int} (hf : bF b k = (f1, f2)) (hc : shAt b k = c) : PlcB f1 f2 c := by
 obtain ⟨⟨d0, d1, l0, l1⟩, b0, b1⟩ := goodB_at hg hk
 have h := shC_bd (d := (bF b k).1) b0 b1 l0 l1
 have h2 : shC (bF b k).1 (bF b k).2 (bg b k) = c := hc
 rw [h2] at h
 rw [hf] at d0 d1 l0 l1
 unfold goodB goodTo at hg
 simp only [Bool.and_eq_true, List.all_eq_true, List.mem_range] at hg
 have h3 := hg.1 k hk
 unfold goodAt fB at h3
 simp only [Bool.and_eq_true] at h3
 rw [hf] at h3
 exact ⟨d0, d1, l0, l1, h.1, h.2, h3.2⟩
theorem ints_of_range {w : World} {g n : Nat} {xs : List Int} (h : w.rangeAt g 0 (ints xs)) (hn : xs.length = n) (hs : n ≤ 1000 := by decide) : Ints w (.slice (some ⟨g, 0, none⟩) n n) xs := by
 refine ⟨some ⟨g, 0, none⟩, n, by rw [hn], by omega, by unfold maxLen; omega, by simp, fun _ => ⟨g, 0, rfl, fun j hj => ?_⟩⟩
 have hjx : j < xs.length := by simpa using hj
 rw [h j (.int .i64 xs[j]) (by simp [ints, hjx])]
 simp [hjx]
theorem int2_one {x y : Int} : ∀ v ∈ [Value.int .i64 x, Value.int .i64 y], v.oneCell' = true := by
 intro v hv
 simp only [List.mem_cons, List.not_mem_nil, or_false] at hv
 rcases hv with rfl | rfl <;> rfl
set_option maxHeartbeats 20000000 in
theorem placed_c (b : List Int) (s : ByteArray) (k : Int) (w : World) (hb : b.length = 19) (hg : goodB b = true) (ht : TabC w) :
 Calls Tryz.prog 152 #[aggI b, .string s, .int .i64 k] w (AnsOut (placeM b s.data.toList k) w) := by
 have HT := Lib.hid ht
 clear ht
 have hb0 := below_one (w := w) (.cells (ints b).toArray 26)
 have r0 := range_new w (ints b) 26
 unfold aggI
 rcases hq : inB k 0 5 with _ | _
 · have HQ := Lib.hid hq
   have HM := Lib.hid (placeM_out (b := b) hq s.data.toList)
   clear hq
   go_enter Tryz.func152, Tryz.ntmps152
   go_wp2_with fail
   refine (within_c _ _ _ _).mono ?_
   rintro e _ ⟨rfl, rfl⟩
   rw [HQ.out]
   go_wp2
   exact bodyPost_ret (v := .tuple #[.string ⟨#[]⟩, .bool false]) (by simp [results, Tryz.results152, go_sem]) rfl (AnsOut.no HM.out hb0)
 · have h2 := inB_true hq
   obtain ⟨kn, rfl⟩ := Int.eq_ofNat_of_zero_le h2.1
   have hk : kn < 6 := by omega
   have hk6 : (kn : Int) < 6 := by omega
   have HQ := Lib.hid hq
   obtain ⟨f1, f2, hf⟩ : ∃ f1 f2, bF b kn = (f1, f2) := ⟨_, _, rfl⟩
   obtain ⟨c, hc⟩ : ∃ c, shAt b kn = c := ⟨_, rfl⟩
   have P := Lib.hid (plcB_of hg hk hf hc)
   have HMM := Lib.hid (placeM_in (b := b) hk hf hc)
   have HF := Lib.hid hf
   have hsh : Hid ((shTo b 6)[kn]? = some c) := by
    show _ = _
    unfold shTo
    rw [List.getElem?_map, List.getElem?_range hk, Option.map_some, hc]
   have HSH := Lib.hid (fun W => shown_b_c b W hb hg)
   have HFA := Lib.hid (fun W => bfault_c b kn W hb hk)
   unfold aggI at HSH HFA
   clear hq h2 hf hc
   go_enter Tryz.func152, Tryz.ntmps152
   go_wp2_with fail
   refine (within_c _ _ _ _).mono ?_
   rintro e _ ⟨rfl, rfl⟩
   rw [HQ.out]
   go_upto_region 3 with fail
   generalize World.alloc _ _ = w1 at *
   have r1 := r0
   have HB1 := Lib.hid hb0
   clear r0 hb0
   go_cut [8, 9] (fun s8 s9 wx => ∃ g : Nat, s8 = .pointer (some ⟨g, 0, none⟩) ∧ s9 = .int .i64 c ∧ wx.rangeAt g 0 ([Value.int .i64 f1, Value.int .i64 f2]) ∧ Below w.heap.size w wx)
   case first =>
    refine wp_region_noPanic ?_
    have S_wd : Below w1.heap.size w1 w1.drew := (Below.refl _ _).drew
    refine wp_region_held_drew (S := fun w' : World => Below w1.heap.size w1 w') (by kernel_rfl) S_wd (fun hHeld => ?_)
    generalize w1.drew = wd at *
    refine' tkX 0 hHeld ?y_t1 ?r_t1
    case y_t1 =>
     refine' yieldsIf_load_mid ?hw_t1 _ _ rfl _ _ rfl (ints b) _ ?hS_t1 ?hu_t1 ?hd_t1 ?hi_t1
     case hw_t1 => rfl
     case hS_t1 => exact fun (w' : World) (h : Below w1.heap.size w1 w') => range_below r1 h
     case hu_t1 => exact Tryz.underlying26
     case hd_t1 => rfl
     case hi_t1 => exact (by rw [show (ints b).length = 19 by simp [ints, hb]]; kernel_rfl)
    try simp only [Act.put, xqA, xqB, xqC]
    refine' tkY 1 hHeld ?r_t2
    try simp only [Act.put, xqA, xqB, xqC]
    refine' tkX 3 hHeld ?y_t3 ?r_t3
    case y_t3 =>
     refine' yieldsIf_load_mid ?hw_t3 _ _ rfl _ _ rfl (ints b) _ ?hS_t3 ?hu_t3 ?hd_t3 ?hi_t3
     case hw_t3 => rfl
     case hS_t3 => exact fun (w' : World) (h : Below w1.heap.size w1 w') => range_below r1 h
     case hu_t3 => exact Tryz.underlying26
     case hd_t3 => rfl
     case hi_t3 => exact (by rw [show (ints b).length = 19 by simp [ints, hb]]; kernel_rfl)
    try simp only [Act.put, xqA, xqB, xqC]
    refine' tkY 5 hHeld ?r_t4
    try simp only [Act.put, xqA, xqB, xqC]
    refine wpAnyH_ready (rs := [2, 8]) (by kernel_rfl) (by simp) ?_
    refine' AllReadyH.cons (o := _) ?e_k5 ?st_k5 ?more_k5
    case e_k5 => (simp only [xeA, xeB, xeC]; exact rfl)
    case st_k5 =>
     intro K hK
     go_simp
     with_reducible refine (HFA.out wd).mono ?_
     rintro e we6 ⟨he, hx7⟩
     rw [HF.out] at he
     subst he
     have S_we6 := Below.chain S_wd hx7
     clear S_wd hx7
     refine hK.out _ _ S_we6 (fun hHeld => ?_)
     clear hK K
     try simp only [Act.put, xqA, xqB, xqC]
     refine wpAnyH_ready (rs := [4, 8]) (by kernel_rfl) (by simp) ?_
     refine' AllReadyH.cons (o := _) ?e_k8 ?st_k8 ?more_k8
     case e_k8 => (simp only [xeA, xeB, xeC]; exact rfl)
     case st_k8 =>
      intro K hK
      go_simp
      with_reducible refine (HSH.out we6).mono ?_
      rintro e we9 ⟨u, rfl, ho, hx10⟩
      obtain ⟨ua, uc, rfl, hu1, hu2, HCu⟩ := (Ints.of_own ho).parts
      obtain ⟨ub, uo, rfl, C_we9⟩ := HCu.out kn c hsh.out
      have hub : we6.heap.size ≤ ub := (ho.lt ub rfl).1
      rw [show (shTo b 6).length = 6 from shTo_len b 6] at hu1 ⊢
      clear ho HCu
      have S_we9 := Below.chain S_we6 hx10
      clear hub S_we6 hx10
      refine hK.out _ _ S_we9 (fun hHeld => ?_)
      clear hK K
      try simp only [Act.put, xqA, xqB, xqC]
      refine' tkY 6 hHeld ?r_t11
      try simp only [Act.put, xqA, xqB, xqC]
      refine wpAnyH_ready (rs := [7, 8]) (by kernel_rfl) (by simp) ?_
      refine' AllReadyH.cons (o := _) ?e_k12 ?st_k12 ?more_k12
      case e_k12 => (simp only [xeA, xeB, xeC]; exact rfl)
      case st_k12 =>
       intro K hK
       go_simp
       refine hK.out _ _ S_we9 (fun hHeld => ?_)
       clear hK K
       try simp only [Act.put, xqA, xqB, xqC]
       refine wpAnyH_ready (rs := [8]) (by kernel_rfl) (by simp) ?_
       refine' AllReadyH.cons (o := _) ?e_k14 ?st_k14 AllReadyH.nil
       case e_k14 => (simp only [xeA, xeB, xeC]; exact rfl)
       intro K hK
       have hq : ub < we9.heap.size := World.block_lt_of_cell? _ _ C_we9
       go_simp
       have hx16 := below_one (w := we9) (.cells #[.int .i64 0, .int .i64 0] 46)
       have C_we15 := cell_later hx16 C_we9
       clear C_we9
       have Tg_we15 := there_new we9 #[.int .i64 0, .int .i64 0] 46 (n := 2) (by decide)
       have S_we15 := Below.chain S_we9 hx16
       have hlg := S_we9.size
       have hng : we9.heap.size < (we9.alloc (.cells #[.int .i64 0, .int .i64 0] 46)).heap.size := by simp
       clear S_we9 hx16
       generalize we9.alloc (.cells #[.int .i64 0, .int .i64 0] 46) = we15 at *
       generalize we9.heap.size = g at *
       refine hK.out _ _ S_we15 (fun hHeld => ?_)
       clear hK K
       try simp only [Act.put, xqA, xqB, xqC]
       refine wpAnyH_ready (rs := [9]) (by kernel_rfl) (by simp) ?_
       refine' AllReadyH.cons (o := _) ?e_k17 ?st_k17 AllReadyH.nil
       case e_k17 => (simp only [xeA, xeB, xeC]; exact rfl)
       intro K hK
       rw [if_pos (by rfl)]
       refine wp_store_mid _ _ _ rfl _ _ ([Value.int .i64 f1, Value.int .i64 f2]).toArray rfl rfl (by simpa using Tg_we15) (by kernel_rfl) (all_oneCell_toArray int2_one) ?_
       simp only [Act.put, xqA, xqB, xqC, List.toList_toArray]
       have C_we18 := cell_far2 (g2 := g) (o2 := 0) (vs := [Value.int .i64 f1, Value.int .i64 f2]) C_we15 (by omega)
       have S_we18 := below_cells ([Value.int .i64 f1, Value.int .i64 f2]) we15 g 0 S_we15 (by omega)
       have Y_we18 := World.rangeAt_setCells_same we15 g 0 ([Value.int .i64 f1, Value.int .i64 f2]) Tg_we15
       generalize World.setCells _ _ _ _ = we18 at *
       clear S_we15 Tg_we15
       refine hK.out _ _ S_we18 (fun hHeld => ?_)
       clear hK K
       try simp only [Act.put, xqA, xqB, xqC]
       refine' tkY 10 hHeld ?r_t19
       try simp only [Act.put, xqA, xqB, xqC]
       refine wpAnyH_done (by kernel_rfl) ?_ _
       refine NoPanic.normal ?_
       go_wp2_with fail
       go_meet
       exact ⟨g, rfl, rfl, Y_we18, Below.chain HB1.out S_we18⟩
      case more_k12 =>
       refine' AllReadyH.cons (o := _) ?e_k20 ?st_k20 AllReadyH.nil
       case e_k20 => (simp only [xeA, xeB, xeC]; exact rfl)
       case st_k20 =>
        intro K hK
        have hq : ub < we9.heap.size := World.block_lt_of_cell? _ _ C_we9
        go_simp
        have hx22 := below_one (w := we9) (.cells #[.int .i64 0, .int .i64 0] 46)
        have C_we21 := cell_later hx22 C_we9
        clear C_we9
        have Tg_we21 := there_new we9 #[.int .i64 0, .int .i64 0] 46 (n := 2) (by decide)
        have S_we21 := Below.chain S_we9 hx22
        have hlg := S_we9.size
        have hng : we9.heap.size < (we9.alloc (.cells #[.int .i64 0, .int .i64 0] 46)).heap.size := by simp
        clear S_we9 hx22
        generalize we9.alloc (.cells #[.int .i64 0, .int .i64 0] 46) = we21 at *
        generalize we9.heap.size = g at *
        refine hK.out _ _ S_we21 (fun hHeld => ?_)
        clear hK K
        try simp only [Act.put, xqA, xqB, xqC]
        refine wpAnyH_ready (rs := [7, 9]) (by kernel_rfl) (by simp) ?_
        refine' AllReadyH.cons (o := _) ?e_k23 ?st_k23 ?more_k23
        case e_k23 => (simp only [xeA, xeB, xeC]; exact rfl)
        case st_k23 =>
         intro K hK
         go_simp
         refine hK.out _ _ S_we21 (fun hHeld => ?_)
         clear hK K
         try simp only [Act.put, xqA, xqB, xqC]
         refine wpAnyH_ready (rs := [9]) (by kernel_rfl) (by simp) ?_
         refine' AllReadyH.cons (o := _) ?e_k25 ?st_k25 AllReadyH.nil
         case e_k25 => (simp only [xeA, xeB, xeC]; exact rfl)
         intro K hK
         rw [if_pos (by rfl)]
         refine wp_store_mid _ _ _ rfl _ _ ([Value.int .i64 f1, Value.int .i64 f2]).toArray rfl rfl (by simpa using Tg_we21) (by kernel_rfl) (all_oneCell_toArray int2_one) ?_
         simp only [Act.put, xqA, xqB, xqC, List.toList_toArray]
         have C_we26 := cell_far2 (g2 := g) (o2 := 0) (vs := [Value.int .i64 f1, Value.int .i64 f2]) C_we21 (by omega)
         have S_we26 := below_cells ([Value.int .i64 f1, Value.int .i64 f2]) we21 g 0 S_we21 (by omega)
         have Y_we26 := World.rangeAt_setCells_same we21 g 0 ([Value.int .i64 f1, Value.int .i64 f2]) Tg_we21
         generalize World.setCells _ _ _ _ = we26 at *
         clear S_we21 Tg_we21
         refine hK.out _ _ S_we26 (fun hHeld => ?_)
         clear hK K
         try simp only [Act.put, xqA, xqB, xqC]
         refine' tkY 10 hHeld ?r_t27
         try simp only [Act.put, xqA, xqB, xqC]
         refine wpAnyH_done (by kernel_rfl) ?_ _
         refine NoPanic.normal ?_
         go_wp2_with fail
         go_meet
         exact ⟨g, rfl, rfl, Y_we26, Below.chain HB1.out S_we26⟩
        case more_k23 =>
         refine' AllReadyH.cons (o := _) ?e_k28 ?st_k28 AllReadyH.nil
         case e_k28 => (simp only [xeA, xeB, xeC]; exact rfl)
         case st_k28 =>
          intro K hK
          rw [if_pos (by rfl)]
          refine wp_store_mid _ _ _ rfl _ _ ([Value.int .i64 f1, Value.int .i64 f2]).toArray rfl rfl (by simpa using Tg_we21) (by kernel_rfl) (all_oneCell_toArray int2_one) ?_
          simp only [Act.put, xqA, xqB, xqC, List.toList_toArray]
          have C_we29 := cell_far2 (g2 := g) (o2 := 0) (vs := [Value.int .i64 f1, Value.int .i64 f2]) C_we21 (by omega)
          have S_we29 := below_cells ([Value.int .i64 f1, Value.int .i64 f2]) we21 g 0 S_we21 (by omega)
          have Y_we29 := World.rangeAt_setCells_same we21 g 0 ([Value.int .i64 f1, Value.int .i64 f2]) Tg_we21
          generalize World.setCells _ _ _ _ = we29 at *
          clear S_we21 Tg_we21
          refine hK.out _ _ S_we29 (fun hHeld => ?_)
          clear hK K
          try simp only [Act.put, xqA, xqB, xqC]
          refine wpAnyH_ready (rs := [7]) (by kernel_rfl) (by simp) ?_
          refine' AllReadyH.cons (o := _) ?e_k30 ?st_k30 AllReadyH.nil
          case e_k30 => (simp only [xeA, xeB, xeC]; exact rfl)
          intro K hK
          go_simp
          refine hK.out _ _ S_we29 (fun hHeld => ?_)
          clear hK K
          try simp only [Act.put, xqA, xqB, xqC]
          refine' tkY 10 hHeld ?r_t32
          try simp only [Act.put, xqA, xqB, xqC]
          refine wpAnyH_done (by kernel_rfl) ?_ _
          refine NoPanic.normal ?_
          go_wp2_with fail
          go_meet
          exact ⟨g, rfl, rfl, Y_we29, Below.chain HB1.out S_we29⟩
     case more_k8 =>
      refine' AllReadyH.cons (o := _) ?e_k33 ?st_k33 AllReadyH.nil
      case e_k33 => (simp only [xeA, xeB, xeC]; exact rfl)
      case st_k33 =>
       intro K hK
       go_simp
       have hx35 := below_one (w := we6) (.cells #[.int .i64 0, .int .i64 0] 46)
       have Tg_we34 := there_new we6 #[.int .i64 0, .int .i64 0] 46 (n := 2) (by decide)
       have S_we34 := Below.chain S_we6 hx35
       have hlg := S_we6.size
       have hng : we6.heap.size < (we6.alloc (.cells #[.int .i64 0, .int .i64 0] 46)).heap.size := by simp
       clear S_we6 hx35
       generalize we6.alloc (.cells #[.int .i64 0, .int .i64 0] 46) = we34 at *
       generalize we6.heap.size = g at *
       refine hK.out _ _ S_we34 (fun hHeld => ?_)
       clear hK K
       try simp only [Act.put, xqA, xqB, xqC]
       refine wpAnyH_ready (rs := [4]) (by kernel_rfl) (by simp) ?_
       refine' AllReadyH.cons (o := _) ?e_k36 ?st_k36 AllReadyH.nil
       case e_k36 => (simp only [xeA, xeB, xeC]; exact rfl)
       intro K hK
       go_simp
       with_reducible refine (HSH.out we34).mono ?_
       rintro e we37 ⟨u, rfl, ho, hx38⟩
       obtain ⟨ua, uc, rfl, hu1, hu2, HCu⟩ := (Ints.of_own ho).parts
       obtain ⟨ub, uo, rfl, C_we37⟩ := HCu.out kn c hsh.out
       have hub : we34.heap.size ≤ ub := (ho.lt ub rfl).1
       rw [show (shTo b 6).length = 6 from shTo_len b 6] at hu1 ⊢
       clear ho HCu
       have hng0 := hng
       have hng := Nat.lt_of_lt_of_le hng hx38.size
       have Tg_we37 := there_below Tg_we34 hx38
       clear Tg_we34
       have S_we37 := Below.chain S_we34 hx38
       have hq : g < ub := Nat.lt_of_lt_of_le hng0 hub
       clear hub S_we34 hx38
       refine hK.out _ _ S_we37 (fun hHeld => ?_)
       clear hK K
       try simp only [Act.put, xqA, xqB, xqC]
       refine' tkY 6 hHeld ?r_t39
       try simp only [Act.put, xqA, xqB, xqC]
       refine wpAnyH_ready (rs := [7, 9]) (by kernel_rfl) (by simp) ?_
       refine' AllReadyH.cons (o := _) ?e_k40 ?st_k40 ?more_k40
       case e_k40 => (simp only [xeA, xeB, xeC]; exact rfl)
       case st_k40 =>
        intro K hK
        go_simp
        refine hK.out _ _ S_we37 (fun hHeld => ?_)
        clear hK K
        try simp only [Act.put, xqA, xqB, xqC]
        refine wpAnyH_ready (rs := [9]) (by kernel_rfl) (by simp) ?_
        refine' AllReadyH.cons (o := _) ?e_k42 ?st_k42 AllReadyH.nil
        case e_k42 => (simp only [xeA, xeB, xeC]; exact rfl)
        intro K hK
        rw [if_pos (by rfl)]
        refine wp_store_mid _ _ _ rfl _ _ ([Value.int .i64 f1, Value.int .i64 f2]).toArray rfl rfl (by simpa using Tg_we37) (by kernel_rfl) (all_oneCell_toArray int2_one) ?_
        simp only [Act.put, xqA, xqB, xqC, List.toList_toArray]
        have C_we43 := cell_far2 (g2 := g) (o2 := 0) (vs := [Value.int .i64 f1, Value.int .i64 f2]) C_we37 (by omega)
        have S_we43 := below_cells ([Value.int .i64 f1, Value.int .i64 f2]) we37 g 0 S_we37 (by omega)
        have Y_we43 := World.rangeAt_setCells_same we37 g 0 ([Value.int .i64 f1, Value.int .i64 f2]) Tg_we37
        generalize World.setCells _ _ _ _ = we43 at *
        clear S_we37 Tg_we37
        refine hK.out _ _ S_we43 (fun hHeld => ?_)
        clear hK K
        try simp only [Act.put, xqA, xqB, xqC]
        refine' tkY 10 hHeld ?r_t44
        try simp only [Act.put, xqA, xqB, xqC]
        refine wpAnyH_done (by kernel_rfl) ?_ _
        refine NoPanic.normal ?_
        go_wp2_with fail
        go_meet
        exact ⟨g, rfl, rfl, Y_we43, Below.chain HB1.out S_we43⟩
       case more_k40 =>
        refine' AllReadyH.cons (o := _) ?e_k45 ?st_k45 AllReadyH.nil
        case e_k45 => (simp only [xeA, xeB, xeC]; exact rfl)
        case st_k45 =>
         intro K hK
         rw [if_pos (by rfl)]
         refine wp_store_mid _ _ _ rfl _ _ ([Value.int .i64 f1, Value.int .i64 f2]).toArray rfl rfl (by simpa using Tg_we37) (by kernel_rfl) (all_oneCell_toArray int2_one) ?_
         simp only [Act.put, xqA, xqB, xqC, List.toList_toArray]
         have C_we46 := cell_far2 (g2 := g) (o2 := 0) (vs := [Value.int .i64 f1, Value.int .i64 f2]) C_we37 (by omega)
         have S_we46 := below_cells ([Value.int .i64 f1, Value.int .i64 f2]) we37 g 0 S_we37 (by omega)
         have Y_we46 := World.rangeAt_setCells_same we37 g 0 ([Value.int .i64 f1, Value.int .i64 f2]) Tg_we37
         generalize World.setCells _ _ _ _ = we46 at *
         clear S_we37 Tg_we37
         refine hK.out _ _ S_we46 (fun hHeld => ?_)
         clear hK K
         try simp only [Act.put, xqA, xqB, xqC]
         refine wpAnyH_ready (rs := [7]) (by kernel_rfl) (by simp) ?_
         refine' AllReadyH.cons (o := _) ?e_k47 ?st_k47 AllReadyH.nil
         case e_k47 => (simp only [xeA, xeB, xeC]; exact rfl)
         intro K hK
         go_simp
         refine hK.out _ _ S_we46 (fun hHeld => ?_)
         clear hK K
         try simp only [Act.put, xqA, xqB, xqC]
         refine' tkY 10 hHeld ?r_t49
         try simp only [Act.put, xqA, xqB, xqC]
         refine wpAnyH_done (by kernel_rfl) ?_ _
         refine NoPanic.normal ?_
         go_wp2_with fail
         go_meet
         exact ⟨g, rfl, rfl, Y_we46, Below.chain HB1.out S_we46⟩
    case more_k5 =>
     refine' AllReadyH.cons (o := _) ?e_k50 ?st_k50 AllReadyH.nil
     case e_k50 => (simp only [xeA, xeB, xeC]; exact rfl)
     case st_k50 =>
      intro K hK
      go_simp
      have hx52 := below_one (w := wd) (.cells #[.int .i64 0, .int .i64 0] 46)
      have Tg_we51 := there_new wd #[.int .i64 0, .int .i64 0] 46 (n := 2) (by decide)
      have S_we51 := Below.chain S_wd hx52
      have hlg := S_wd.size
      have hng : wd.heap.size < (wd.alloc (.cells #[.int .i64 0, .int .i64 0] 46)).heap.size := by simp
      clear S_wd hx52
      generalize wd.alloc (.cells #[.int .i64 0, .int .i64 0] 46) = we51 at *
      generalize wd.heap.size = g at *
      refine hK.out _ _ S_we51 (fun hHeld => ?_)
      clear hK K
      try simp only [Act.put, xqA, xqB, xqC]
      refine wpAnyH_ready (rs := [2]) (by kernel_rfl) (by simp) ?_
      refine' AllReadyH.cons (o := _) ?e_k53 ?st_k53 AllReadyH.nil
      case e_k53 => (simp only [xeA, xeB, xeC]; exact rfl)
      intro K hK
      go_simp
      with_reducible refine (HFA.out we51).mono ?_
      rintro e we54 ⟨he, hx55⟩
      rw [HF.out] at he
      subst he
      have hng := Nat.lt_of_lt_of_le hng hx55.size
      have Tg_we54 := there_below Tg_we51 hx55
      clear Tg_we51
      have S_we54 := Below.chain S_we51 hx55
      clear S_we51 hx55
      refine hK.out _ _ S_we54 (fun hHeld => ?_)
      clear hK K
      try simp only [Act.put, xqA, xqB, xqC]
      refine wpAnyH_ready (rs := [4]) (by kernel_rfl) (by simp) ?_
      refine' AllReadyH.cons (o := _) ?e_k56 ?st_k56 AllReadyH.nil
      case e_k56 => (simp only [xeA, xeB, xeC]; exact rfl)
      intro K hK
      go_simp
      with_reducible refine (HSH.out we54).mono ?_
      rintro e we57 ⟨u, rfl, ho, hx58⟩
      obtain ⟨ua, uc, rfl, hu1, hu2, HCu⟩ := (Ints.of_own ho).parts
      obtain ⟨ub, uo, rfl, C_we57⟩ := HCu.out kn c hsh.out
      have hub : we54.heap.size ≤ ub := (ho.lt ub rfl).1
      rw [show (shTo b 6).length = 6 from shTo_len b 6] at hu1 ⊢
      clear ho HCu
      have hng0 := hng
      have hng := Nat.lt_of_lt_of_le hng hx58.size
      have Tg_we57 := there_below Tg_we54 hx58
      clear Tg_we54
      have S_we57 := Below.chain S_we54 hx58
      have hq : g < ub := Nat.lt_of_lt_of_le hng0 hub
      clear hub S_we54 hx58
      refine hK.out _ _ S_we57 (fun hHeld => ?_)
      clear hK K
      try simp only [Act.put, xqA, xqB, xqC]
      refine' tkY 6 hHeld ?r_t59
      try simp only [Act.put, xqA, xqB, xqC]
      refine wpAnyH_ready (rs := [7, 9]) (by kernel_rfl) (by simp) ?_
      refine' AllReadyH.cons (o := _) ?e_k60 ?st_k60 ?more_k60
      case e_k60 => (simp only [xeA, xeB, xeC]; exact rfl)
      case st_k60 =>
       intro K hK
       go_simp
       refine hK.out _ _ S_we57 (fun hHeld => ?_)
       clear hK K
       try simp only [Act.put, xqA, xqB, xqC]
       refine wpAnyH_ready (rs := [9]) (by kernel_rfl) (by simp) ?_
       refine' AllReadyH.cons (o := _) ?e_k62 ?st_k62 AllReadyH.nil
       case e_k62 => (simp only [xeA, xeB, xeC]; exact rfl)
       intro K hK
       rw [if_pos (by rfl)]
       refine wp_store_mid _ _ _ rfl _ _ ([Value.int .i64 f1, Value.int .i64 f2]).toArray rfl rfl (by simpa using Tg_we57) (by kernel_rfl) (all_oneCell_toArray int2_one) ?_
       simp only [Act.put, xqA, xqB, xqC, List.toList_toArray]
       have C_we63 := cell_far2 (g2 := g) (o2 := 0) (vs := [Value.int .i64 f1, Value.int .i64 f2]) C_we57 (by omega)
       have S_we63 := below_cells ([Value.int .i64 f1, Value.int .i64 f2]) we57 g 0 S_we57 (by omega)
       have Y_we63 := World.rangeAt_setCells_same we57 g 0 ([Value.int .i64 f1, Value.int .i64 f2]) Tg_we57
       generalize World.setCells _ _ _ _ = we63 at *
       clear S_we57 Tg_we57
       refine hK.out _ _ S_we63 (fun hHeld => ?_)
       clear hK K
       try simp only [Act.put, xqA, xqB, xqC]
       refine' tkY 10 hHeld ?r_t64
       try simp only [Act.put, xqA, xqB, xqC]
       refine wpAnyH_done (by kernel_rfl) ?_ _
       refine NoPanic.normal ?_
       go_wp2_with fail
       go_meet
       exact ⟨g, rfl, rfl, Y_we63, Below.chain HB1.out S_we63⟩
      case more_k60 =>
       refine' AllReadyH.cons (o := _) ?e_k65 ?st_k65 AllReadyH.nil
       case e_k65 => (simp only [xeA, xeB, xeC]; exact rfl)
       case st_k65 =>
        intro K hK
        rw [if_pos (by rfl)]
        refine wp_store_mid _ _ _ rfl _ _ ([Value.int .i64 f1, Value.int .i64 f2]).toArray rfl rfl (by simpa using Tg_we57) (by kernel_rfl) (all_oneCell_toArray int2_one) ?_
        simp only [Act.put, xqA, xqB, xqC, List.toList_toArray]
        have C_we66 := cell_far2 (g2 := g) (o2 := 0) (vs := [Value.int .i64 f1, Value.int .i64 f2]) C_we57 (by omega)
        have S_we66 := below_cells ([Value.int .i64 f1, Value.int .i64 f2]) we57 g 0 S_we57 (by omega)
        have Y_we66 := World.rangeAt_setCells_same we57 g 0 ([Value.int .i64 f1, Value.int .i64 f2]) Tg_we57
        generalize World.setCells _ _ _ _ = we66 at *
        clear S_we57 Tg_we57
        refine hK.out _ _ S_we66 (fun hHeld => ?_)
        clear hK K
        try simp only [Act.put, xqA, xqB, xqC]
        refine wpAnyH_ready (rs := [7]) (by kernel_rfl) (by simp) ?_
        refine' AllReadyH.cons (o := _) ?e_k67 ?st_k67 AllReadyH.nil
        case e_k67 => (simp only [xeA, xeB, xeC]; exact rfl)
        intro K hK
        go_simp
        refine hK.out _ _ S_we66 (fun hHeld => ?_)
        clear hK K
        try simp only [Act.put, xqA, xqB, xqC]
        refine' tkY 10 hHeld ?r_t69
        try simp only [Act.put, xqA, xqB, xqC]
        refine wpAnyH_done (by kernel_rfl) ?_ _
        refine NoPanic.normal ?_
        go_wp2_with fail
        go_meet
        exact ⟨g, rfl, rfl, Y_we66, Below.chain HB1.out S_we66⟩
   case rest =>
    obtain ⟨g, rfl, rfl, Y, hbw⟩ := hcut
    have HB := Lib.hid hbw
    have y0 : wc.cell? ⟨g, 0, none⟩ = some (.int .i64 f1) := Y 0 _ rfl
    have y1 : wc.cell? ⟨g, 1, none⟩ = some (.int .i64 f2) := Y 1 _ rfl
    have P := P.out
    clear Y hbw HB1 r1 HQ hsh HF HSH HFA
    by_cases e0 : s.data.toList = wDigits
    · as_aux_lemma =>
       have q0 : (s.toList == [100, 105, 103, 105, 116, 115]) = true := by rw [Lib.toList_data, e0]; rfl
       have HM := Lib.hid (show placeM b s.data.toList (kn : Int) = some (listT (digL f1 f2 c)) by rw [HMM.out]; unfold placeF; rw [if_pos e0])
       clear HMM
       clear e0
       go_wp2_with fail
       with_reducible refine (digits_c f1 f2 c _ P.d0 P.d1 P.l0 P.l1).mono ?_
       rintro e w2 ⟨u, rfl, ho, hb2⟩
       have HB2 := Lib.hid (Below.chain HB.out hb2)
       have HL2 := Lib.hid (Ints.of_own ho)
       obtain ⟨la, lc, rfl, _⟩ := (Sl.of_own ho).slice
       clear ho
       clear hb2
       go_wp2_with fail
       with_reducible refine (listText_c _ (digL f1 f2 c) _ HL2.out (by have := digL_le f1 f2 c; omega) (digL_bd _ _ _) (HT.out.on HB2.out).pow).mono ?_
       rintro e w3 ⟨rfl, hb3⟩
       have HB3 := Lib.hid (Below.chain HB2.out hb3)
       clear hb3
       go_wp2
       exact bodyPost_ret (v := .tuple #[.string (bs (listT (digL f1 f2 c))), .bool true]) (by simp [results, Tryz.results152, go_sem]) rfl (AnsOut.yes HM.out HB3.out)
    · skip
      by_cases e1 : s.data.toList = wTold
      · as_aux_lemma =>
         have q0 : (s.toList == [100, 105, 103, 105, 116, 115]) = false := by rw [Lib.toList_data]; exact beq_false_of_ne e0
         have q1 : (s.toList == [116, 111, 108, 100]) = true := by rw [Lib.toList_data, e1]; rfl
         have HM := Lib.hid (show placeM b s.data.toList (kn : Int) = some (listT (tdL f1 f2)) by rw [HMM.out]; unfold placeF; rw [if_neg e0]; rw [if_pos e1])
         clear HMM
         clear e0 e1
         go_wp2_with fail
         with_reducible refine (ToldDigits_c f1 f2 _).mono ?_
         rintro e w2 ⟨u, rfl, ho, hb2⟩
         have HB2 := Lib.hid (Below.chain HB.out hb2)
         have HL2 := Lib.hid (Ints.of_own ho)
         obtain ⟨la, lc, rfl, _⟩ := (Sl.of_own ho).slice
         clear ho
         rw [P.ok]
         clear hb2
         go_wp2_with fail
         with_reducible refine (listText_c _ (tdL f1 f2) _ HL2.out (by have := tdL_le f1 f2; omega) (tdL_bd _ _) (HT.out.on HB2.out).pow).mono ?_
         rintro e w3 ⟨rfl, hb3⟩
         have HB3 := Lib.hid (Below.chain HB2.out hb3)
         clear hb3
         go_wp2
         exact bodyPost_ret (v := .tuple #[.string (bs (listT (tdL f1 f2))), .bool true]) (by simp [results, Tryz.results152, go_sem]) rfl (AnsOut.yes HM.out HB3.out)
      · skip
        by_cases e2 : s.data.toList = wImages
        · as_aux_lemma =>
           have q0 : (s.toList == [100, 105, 103, 105, 116, 115]) = false := by rw [Lib.toList_data]; exact beq_false_of_ne e0
           have q1 : (s.toList == [116, 111, 108, 100]) = false := by rw [Lib.toList_data]; exact beq_false_of_ne e1
           have q2 : (s.toList == [105, 109, 97, 103, 101, 115]) = true := by rw [Lib.toList_data, e2]; rfl
           have HM := Lib.hid (show placeM b s.data.toList (kn : Int) = some (Lib.decDigits (grpL f1 f2).length) by rw [HMM.out]; unfold placeF; rw [if_neg e0]; rw [if_neg e1]; rw [if_pos e2])
           clear HMM
           clear e0 e1 e2
           go_wp2_with fail
           with_reducible refine (groups_c f1 f2 _ P.d0 P.d1 P.l0 P.l1).mono ?_
           rintro e w2 ⟨u, rfl, ho, hb2⟩
           have HB2 := Lib.hid (Below.chain HB.out hb2)
           obtain ⟨vs, hvs, _⟩ := ho
           obtain ⟨la, lc, rfl, _⟩ := (Sl.of_own hvs).slice
           clear hvs
           clear hb2
           have hgl : (grpL f1 f2).length ≤ 999999 := by have : (grpL f1 f2).length ≤ 10 := grpTo_le _ _ _; omega
           go_wp2_with fail
           with_reducible refine (ItoaN_c (grpL f1 f2).length hgl _ (HT.out.on HB2.out).pow).mono ?_
           rintro e w3 ⟨rfl, hb3⟩
           have HB3 := Lib.hid (Below.chain HB2.out hb3)
           clear hb3
           go_wp2
           exact bodyPost_ret (v := .tuple #[.string (bs (Lib.decDigits (grpL f1 f2).length)), .bool true]) (by simp [results, Tryz.results152, go_sem]) rfl (AnsOut.yes HM.out HB3.out)
        · skip
          by_cases e3 : s.data.toList = wHarmless
          · as_aux_lemma =>
             have q0 : (s.toList == [100, 105, 103, 105, 116, 115]) = false := by rw [Lib.toList_data]; exact beq_false_of_ne e0
             have q1 : (s.toList == [116, 111, 108, 100]) = false := by rw [Lib.toList_data]; exact beq_false_of_ne e1
             have q2 : (s.toList == [105, 109, 97, 103, 101, 115]) = false := by rw [Lib.toList_data]; exact beq_false_of_ne e2
             have q3 : (s.toList == [104, 97, 114, 109, 108, 101, 115, 115]) = true := by rw [Lib.toList_data, e3]; rfl
             have HM := Lib.hid (show placeM b s.data.toList (kn : Int) = some (yesT (decide ((grpL f1 f2).length = 10))) by rw [HMM.out]; unfold placeF; rw [if_neg e0]; rw [if_neg e1]; rw [if_neg e2]; rw [if_pos e3])
             clear HMM
             clear e0 e1 e2 e3
             go_wp2_with fail
             with_reducible refine (isHarmless_c f1 f2 _ P.d0 P.d1 P.l0 P.l1).mono ?_
             rintro e w2 ⟨rfl, hb2⟩
             have HB2 := Lib.hid (Below.chain HB.out hb2)
             clear hb2
             generalize decide ((grpL f1 f2).length = 10) = hh at *
             go_wp2_with fail
             refine (reportText_c hh _).mono ?_
             rintro e _ ⟨rfl, rfl⟩
             go_wp2
             exact bodyPost_ret (v := .tuple #[.string (bs (yesT hh)), .bool true]) (by simp [results, Tryz.results152, go_sem]) rfl (AnsOut.yes HM.out HB2.out)
          · skip
            by_cases e4 : s.data.toList = wNear
            · as_aux_lemma =>
               have q0 : (s.toList == [100, 105, 103, 105, 116, 115]) = false := by rw [Lib.toList_data]; exact beq_false_of_ne e0
               have q1 : (s.toList == [116, 111, 108, 100]) = false := by rw [Lib.toList_data]; exact beq_false_of_ne e1
               have q2 : (s.toList == [105, 109, 97, 103, 101, 115]) = false := by rw [Lib.toList_data]; exact beq_false_of_ne e2
               have q3 : (s.toList == [104, 97, 114, 109, 108, 101, 115, 115]) = false := by rw [Lib.toList_data]; exact beq_false_of_ne e3
               have q4 : (s.toList == [110, 101, 97, 114]) = true := by rw [Lib.toList_data, e4]; rfl
               have HM := Lib.hid (show placeM b s.data.toList (kn : Int) = some (listT (nearL c)) by rw [HMM.out]; unfold placeF; rw [if_neg e0]; rw [if_neg e1]; rw [if_neg e2]; rw [if_neg e3]; rw [if_pos e4])
               clear HMM
               clear e0 e1 e2 e3 e4
               go_wp2_with fail
               refine (digitCells_c _).mono ?_
               rintro e w2 ⟨rfl, hb2⟩
               have HB2 := Lib.hid (Below.chain HB.out hb2)
               clear hb2
               unfold digA
               have HN := Lib.hid (NearestOf_c _ c P.c0 P.c1 _ (ints_of_range (range_new w2 (ints dig) 140) (n := 10) rfl))
               go_wp2_with fail
               refine (HN.out).mono ?_
               rintro e w3 ⟨u, m, rfl, ho, hb3⟩
               have HL3 := Lib.hid (Ints.of_own ho)
               have HB3 := Lib.hid (Below.chain (Below.alc HB2.out _) hb3)
               obtain ⟨la, lc, rfl, _⟩ := (Sl.of_own ho).slice
               clear ho hb3 HN
               go_wp2_with fail
               with_reducible refine (listText_c _ (nearL c) _ HL3.out (by have := nearL_le c; omega) (nearL_bd c) (HT.out.on HB3.out).pow).mono ?_
               rintro e w4 ⟨rfl, hb4⟩
               have HB4 := Lib.hid (Below.chain HB3.out hb4)
               clear hb4
               go_wp2
               exact bodyPost_ret (v := .tuple #[.string (bs (listT (nearL c))), .bool true]) (by simp [results, Tryz.results152, go_sem]) rfl (AnsOut.yes HM.out HB4.out)
            · skip
              by_cases e5 : s.data.toList = wSame
              · as_aux_lemma =>
                 have q0 : (s.toList == [100, 105, 103, 105, 116, 115]) = false := by rw [Lib.toList_data]; exact beq_false_of_ne e0
                 have q1 : (s.toList == [116, 111, 108, 100]) = false := by rw [Lib.toList_data]; exact beq_false_of_ne e1
                 have q2 : (s.toList == [105, 109, 97, 103, 101, 115]) = false := by rw [Lib.toList_data]; exact beq_false_of_ne e2
                 have q3 : (s.toList == [104, 97, 114, 109, 108, 101, 115, 115]) = false := by rw [Lib.toList_data]; exact beq_false_of_ne e3
                 have q4 : (s.toList == [110, 101, 97, 114]) = false := by rw [Lib.toList_data]; exact beq_false_of_ne e4
                 have q5 : (s.toList == [115, 97, 109, 101]) = true := by rw [Lib.toList_data, e5]; rfl
                 have HM := Lib.hid (show placeM b s.data.toList (kn : Int) = some (partT (csA f1 f2) (csB f1 f2)) by rw [HMM.out]; unfold placeF; rw [if_neg e0]; rw [if_neg e1]; rw [if_neg e2]; rw [if_neg e3]; rw [if_neg e4]; rw [if_pos e5])
                 clear HMM
                 clear e0 e1 e2 e3 e4 e5
                 have hcs := csA_le f1 f2
                 go_wp2_with fail
                 refine (ChanceSameDigit_c f1 f2 _).mono ?_
                 rintro e w2 ⟨he, hb2⟩
                 rw [csV_fr, P.ok] at he
                 subst he
                 have HB2 := Lib.hid (Below.chain HB.out hb2)
                 clear hb2
                 obtain ⟨ca, hca⟩ : ∃ ca, csA f1 f2 = ca := ⟨_, rfl⟩
                 obtain ⟨cb, hcb⟩ : ∃ cb, csB f1 f2 = cb := ⟨_, rfl⟩
                 rw [hca, hcb] at hcs ⊢
                 have HCA := Lib.hid hca
                 have HCB := Lib.hid hcb
                 clear hca hcb
                 have HB3 := Lib.hid (Below.alc HB2.out (.cells #[.int .i64 (ca : Int), .int .i64 (cb : Int)] 174))
                 go_wp2_with fail
                 refine (fractionText_c ca cb hcs.1 hcs.2 _ (HT.out.on HB3.out).pow).mono ?_
                 rintro e w4 ⟨rfl, hb4⟩
                 have HB4 := Lib.hid (Below.chain HB3.out hb4)
                 clear hb4
                 go_wp2
                 exact bodyPost_ret (v := .tuple #[.string (bs (partT ca cb)), .bool true]) (by simp [results, Tryz.results152, go_sem]) rfl (AnsOut.yes (by rw [HM.out, HCA.out, HCB.out]) HB4.out)
              · skip
                as_aux_lemma =>
                 have q0 : (s.toList == [100, 105, 103, 105, 116, 115]) = false := by rw [Lib.toList_data]; exact beq_false_of_ne e0
                 have q1 : (s.toList == [116, 111, 108, 100]) = false := by rw [Lib.toList_data]; exact beq_false_of_ne e1
                 have q2 : (s.toList == [105, 109, 97, 103, 101, 115]) = false := by rw [Lib.toList_data]; exact beq_false_of_ne e2
                 have q3 : (s.toList == [104, 97, 114, 109, 108, 101, 115, 115]) = false := by rw [Lib.toList_data]; exact beq_false_of_ne e3
                 have q4 : (s.toList == [110, 101, 97, 114]) = false := by rw [Lib.toList_data]; exact beq_false_of_ne e4
                 have q5 : (s.toList == [115, 97, 109, 101]) = false := by rw [Lib.toList_data]; exact beq_false_of_ne e5
                 have HM := Lib.hid (show placeM b s.data.toList (kn : Int) = none by rw [HMM.out]; unfold placeF; rw [if_neg e0]; rw [if_neg e1]; rw [if_neg e2]; rw [if_neg e3]; rw [if_neg e4]; rw [if_neg e5])
                 clear e0 e1 e2 e3 e4 e5
                 go_wp2
                 exact bodyPost_ret (v := .tuple #[.string ⟨#[]⟩, .bool false]) (by simp [results, Tryz.results152, go_sem]) rfl (AnsOut.no HM.out HB.out)
end Go.Proofs.YtohgjfdbnkjefaaGreatDoor
