/- Texts of this claim, gathered: Cwe, Cwl, Cwg, Dwa, Cwj. -/
import Derived.Test.YtohgjfdbnkjefaaGreatDoorKw15
import Derived.Deep.RegionHeld3
import Derived.Deep.DeepCutAuto
namespace Go.Proofs.YtohgjfdbnkjefaaGreatDoor
open Go.RowKit
set_option linter.unusedVariables false
set_option linter.unusedSimpArgs false
set_option maxRecDepth 100000
def placeF (f1 f2 c : Int) (w : Bs) : Option Bs :=
 if w = wDigits then some (listT (digL f1 f2 c)) else if w = wTold then some (listT (tdL f1 f2)) else if w = wImages then some (Lib.decDigits (grpL f1 f2).length)
 else if w = wHarmless then some (yesT (decide ((grpL f1 f2).length = 10))) else if w = wNear then some (listT (nearL c)) else if w = wSame then some (partT (csA f1 f2) (csB f1 f2)) else none
theorem placeM_in {b : List Int} {k : Nat} {f1 f2 c : Int} (hk : k < 6) (hf : bF b k = (f1, f2)) (hc : shAt b k = c) (w : Bs) : placeM b w (k : Int) = placeF f1 f2 c w := by
 unfold placeM
 rw [if_neg (by rw [inB_mk (by omega) (by omega)]; simp)]
 simp only [Int.toNat_natCast, hf, hc]
 rfl
theorem placeM_out {b : List Int} {k : Int} (h : inB k 0 5 = false) (w : Bs) : placeM b w k = none := by
 unfold placeM; rw [if_pos h]
structure PlcB (f1 f2 c : Int) : Prop where
 d0 : 0 ≤ f1
 d1 : f1 ≤ 127
 l0 : 0 ≤ f2
 l1 : f2 ≤ 127
 c0 : 0 ≤ c
 c1 : c ≤ 127
 ok : faultB f1 f2 = true
theorem plcB_of {b : List Int} (hg : goodB b = true) {k : Nat} (hk : k < 6) {f1 f2 c : Int} (hf : bF b k = (f1, f2)) (hc : shAt b k = c) : PlcB f1 f2 c := by
 obtain ⟨⟨d0, d1, l0, l1⟩, b0, b1⟩ := goodB_at hg hk
 have h := shC_bd (d := (bF b k).1) b0 b1 l0 l1
 have h2 : shC (bF b k).1 (bF b k).2 (bg b k) = c := hc
 rw [h2] at h
 rw [hf] at d0 d1 l0 l1
 unfold goodB goodTo at hg
 simp only [Bool.and_eq_true, List.all_eq_true, List.mem_range] at hg
 have h3 := hg.1 k hk
 unfold goodAt fB at h3
 simp only [Bool.and_eq_true] at h3
 rw [hf] at h3
 exact ⟨d0, d1, l0, l1, h.1, h.2, h3.2⟩
theorem ints_of_range {w : World} {g n : Nat} {xs : List Int} (h : w.rangeAt g 0 (ints xs)) (hn : xs.length = n) (hs : n ≤ 1000 := by decide) : Ints w (.slice (some ⟨g, 0, none⟩) n n) xs := by
 refine ⟨some ⟨g, 0, none⟩, n, by rw [hn], by omega, by unfold maxLen; omega, by simp, fun _ => ⟨g, 0, rfl, fun j hj => ?_⟩⟩
 have hjx : j < xs.length := by simpa using hj
 rw [h j (.int .i64 xs[j]) (by simp [ints, hjx])]
 simp [hjx]
theorem int2_one {x y : Int} : ∀ v ∈ [Value.int .i64 x, Value.int .i64 y], v.oneCell' = true := by
 intro v hv
 simp only [List.mem_cons, List.not_mem_nil, or_false] at hv
 rcases hv with rfl | rfl <;> rfl
set_option maxHeartbeats 20000000 in
theorem placed_c (b : List Int) (s : ByteArray) (k : Int) (w : World) (hb : b.length = 19) (hg : goodB b = true) (ht : TabC w) :
 Calls Tryz.prog 152 #[aggI b, .string s, .int .i64 k] w (AnsOut (placeM b s.data.toList k) w) := by
 have HT := Lib.hid ht
 clear ht
 have hb0 := below_one (w := w) (.cells (ints b).toArray 26)
 have r0 := range_new w (ints b) 26
 unfold aggI
 rcases hq : inB k 0 5 with _ | _
 · have HQ := Lib.hid hq
   have HM := Lib.hid (placeM_out (b := b) hq s.data.toList)
   clear hq
   go_enter Tryz.func152, Tryz.ntmps152
   go_wp2_with fail
   refine (within_c _ _ _ _).mono ?_
   rintro e _ ⟨rfl, rfl⟩
   rw [HQ.out]
   go_wp2
   exact bodyPost_ret (v := .tuple #[.string ⟨#[]⟩, .bool false]) (by simp [results, Tryz.results152, go_sem]) rfl (AnsOut.no HM.out hb0)
 · have h2 := inB_true hq
   obtain ⟨kn, rfl⟩ := Int.eq_ofNat_of_zero_le h2.1
   have hk : kn < 6 := by omega
   have hk6 : (kn : Int) < 6 := by omega
   have HQ := Lib.hid hq
   obtain ⟨f1, f2, hf⟩ : ∃ f1 f2, bF b kn = (f1, f2) := ⟨_, _, rfl⟩
   obtain ⟨c, hc⟩ : ∃ c, shAt b kn = c := ⟨_, rfl⟩
   have P := Lib.hid (plcB_of hg hk hf hc)
   have HMM := Lib.hid (placeM_in (b := b) hk hf hc)
   have HF := Lib.hid hf
   have hsh : Hid ((shTo b 6)[kn]? = some c) := by
    show _ = _
    unfold shTo
    rw [List.getElem?_map, List.getElem?_range hk, Option.map_some, hc]
   have HSH := Lib.hid (fun W => shown_b_c b W hb hg)
   have HFA := Lib.hid (fun W => bfault_c b kn W hb hk)
   unfold aggI at HSH HFA
   clear hq h2 hf hc
   go_enter Tryz.func152, Tryz.ntmps152
   go_wp2_with fail
   refine (within_c _ _ _ _).mono ?_
   rintro e _ ⟨rfl, rfl⟩
   rw [HQ.out]
   go_upto_region 3 with fail
   generalize World.alloc _ _ = w1 at *
   have r1 := r0
   have HB1 := Lib.hid hb0
   clear r0 hb0
   go_cut [8, 9] (fun s8 s9 wx => ∃ g : Nat, s8 = .pointer (some ⟨g, 0, none⟩) ∧ s9 = .int .i64 c ∧ wx.rangeAt g 0 ([Value.int .i64 f1, Value.int .i64 f2]) ∧ Below w.heap.size w wx)
   case first =>
    refine wp_region_noPanic ?_
    have S_wd : Below w1.heap.size w1 w1.drew := (Below.refl _ _).drew
    refine wp_region_held_drew (S := fun w' : World => Below w1.heap.size w1 w') (by kernel_rfl) S_wd (fun hHeld => ?_)
    generalize w1.drew = wd at *
    refine' tkX 0 hHeld ?y_t1 ?r_t1
    case y_t1 =>
     refine' yieldsIf_load_mid ?hw_t1 _ _ rfl _ _ rfl (ints b) _ ?hS_t1 ?hu_t1 ?hd_t1 ?hi_t1
     case hw_t1 => rfl
     case hS_t1 => exact fun (w' : World) (h : Below w1.heap.size w1 w') => range_below r1 h
     case hu_t1 => exact Tryz.underlying26
     case hd_t1 => rfl
     case hi_t1 => exact (by rw [show (ints b).length = 19 by simp [ints, hb]]; kernel_rfl)
    try simp only [Act.put, xqA, xqB, xqC]
    refine' tkY 1 hHeld ?r_t2
    try simp only [Act.put, xqA, xqB, xqC]
    refine' tkX 3 hHeld ?y_t3 ?r_t3
    case y_t3 =>
     refine' yieldsIf_load_mid ?hw_t3 _ _ rfl _ _ rfl (ints b) _ ?hS_t3 ?hu_t3 ?hd_t3 ?hi_t3
     case hw_t3 => rfl
     case hS_t3 => exact fun (w' : World) (h : Below w1.heap.size w1 w') => range_below r1 h
     case hu_t3 => exact Tryz.underlying26
     case hd_t3 => rfl
     case hi_t3 => exact (by rw [show (ints b).length = 19 by simp [ints, hb]]; kernel_rfl)
    try simp only [Act.put, xqA, xqB, xqC]
    refine' tkY 5 hHeld ?r_t4
    try simp only [Act.put, xqA, xqB, xqC]
    refine wpAnyH_ready (rs := [2, 8]) (by kernel_rfl) (by simp) ?_
    refine' AllReadyH.cons (o := _) ?e_k5 ?st_k5 ?more_k5
    case e_k5 => (simp only [xeA, xeB, xeC]; exact rfl)
    case st_k5 =>
     intro K hK
     go_simp
     with_reducible refine (HFA.out wd).mono ?_
     rintro e we6 ⟨he, hx7⟩
     rw [HF.out] at he
     subst he
     have S_we6 := Below.chain S_wd hx7
     clear S_wd hx7
     refine hK.out _ _ S_we6 (fun hHeld => ?_)
     clear hK K
     try simp only [Act.put, xqA, xqB, xqC]
     refine wpAnyH_ready (rs := [4, 8]) (by kernel_rfl) (by simp) ?_
     refine' AllReadyH.cons (o := _) ?e_k8 ?st_k8 ?more_k8
     case e_k8 => (simp only [xeA, xeB, xeC]; exact rfl)
     case st_k8 =>
      intro K hK
      go_simp
      with_reducible refine (HSH.out we6).mono ?_
      rintro e we9 ⟨u, rfl, ho, hx10⟩
      obtain ⟨ua, uc, rfl, hu1, hu2, HCu⟩ := (Ints.of_own ho).parts
      obtain ⟨ub, uo, rfl, C_we9⟩ := HCu.out kn c hsh.out
      have hub : we6.heap.size ≤ ub := (ho.lt ub rfl).1
      rw [show (shTo b 6).length = 6 from shTo_len b 6] at hu1 ⊢
      clear ho HCu
      have S_we9 := Below.chain S_we6 hx10
      clear hub S_we6 hx10
      refine hK.out _ _ S_we9 (fun hHeld => ?_)
      clear hK K
      try simp only [Act.put, xqA, xqB, xqC]
      refine' tkY 6 hHeld ?r_t11
      try simp only [Act.put, xqA, xqB, xqC]
      refine wpAnyH_ready (rs := [7, 8]) (by kernel_rfl) (by simp) ?_
      refine' AllReadyH.cons (o := _) ?e_k12 ?st_k12 ?more_k12
      case e_k12 => (simp only [xeA, xeB, xeC]; exact rfl)
      case st_k12 =>
       intro K hK
       go_simp
       refine hK.out _ _ S_we9 (fun hHeld => ?_)
       clear hK K
       try simp only [Act.put, xqA, xqB, xqC]
       refine wpAnyH_ready (rs := [8]) (by kernel_rfl) (by simp) ?_
       refine' AllReadyH.cons (o := _) ?e_k14 ?st_k14 AllReadyH.nil
       case e_k14 => (simp only [xeA, xeB, xeC]; exact rfl)
       intro K hK
       have hq : ub < we9.heap.size := World.block_lt_of_cell? _ _ C_we9
       go_simp
       have hx16 := below_one (w := we9) (.cells #[.int .i64 0, .int .i64 0] 46)
       have C_we15 := cell_later hx16 C_we9
       clear C_we9
       have Tg_we15 := there_new we9 #[.int .i64 0, .int .i64 0] 46 (n := 2) (by decide)
       have S_we15 := Below.chain S_we9 hx16
       have hlg := S_we9.size
       have hng : we9.heap.size < (we9.alloc (.cells #[.int .i64 0, .int .i64 0] 46)).heap.size := by simp
       clear S_we9 hx16
       generalize we9.alloc (.cells #[.int .i64 0, .int .i64 0] 46) = we15 at *
       generalize we9.heap.size = g at *
       refine hK.out _ _ S_we15 (fun hHeld => ?_)
       clear hK K
       try simp only [Act.put, xqA, xqB, xqC]
       refine wpAnyH_ready (rs := [9]) (by kernel_rfl) (by simp) ?_
       refine' AllReadyH.cons (o := _) ?e_k17 ?st_k17 AllReadyH.nil
       case e_k17 => (simp only [xeA, xeB, xeC]; exact rfl)
       intro K hK
       rw [if_pos (by rfl)]
       refine wp_store_mid _ _ _ rfl _ _ ([Value.int .i64 f1, Value.int .i64 f2]).toArray rfl rfl (by simpa using Tg_we15) (by kernel_rfl) (all_oneCell_toArray int2_one) ?_
       simp only [Act.put, xqA, xqB, xqC, List.toList_toArray]
       have C_we18 := cell_far2 (g2 := g) (o2 := 0) (vs := [Value.int .i64 f1, Value.int .i64 f2]) C_we15 (by omega)
       have S_we18 := below_cells ([Value.int .i64 f1, Value.int .i64 f2]) we15 g 0 S_we15 (by omega)
       have Y_we18 := World.rangeAt_setCells_same we15 g 0 ([Value.int .i64 f1, Value.int .i64 f2]) Tg_we15
       generalize World.setCells _ _ _ _ = we18 at *
       clear S_we15 Tg_we15
       refine hK.out _ _ S_we18 (fun hHeld => ?_)
       clear hK K
       try simp only [Act.put, xqA, xqB, xqC]
       refine' tkY 10 hHeld ?r_t19
       try simp only [Act.put, xqA, xqB, xqC]
       refine wpAnyH_done (by kernel_rfl) ?_ _
       refine NoPanic.normal ?_
       go_wp2_with fail
       go_meet
       exact ⟨g, rfl, rfl, Y_we18, Below.chain HB1.out S_we18⟩
      case more_k12 =>
       refine' AllReadyH.cons (o := _) ?e_k20 ?st_k20 AllReadyH.nil
       case e_k20 => (simp only [xeA, xeB, xeC]; exact rfl)
       case st_k20 =>
        intro K hK
        have hq : ub < we9.heap.size := World.block_lt_of_cell? _ _ C_we9
        go_simp
        have hx22 := below_one (w := we9) (.cells #[.int .i64 0, .int .i64 0] 46)
        have C_we21 := cell_later hx22 C_we9
        clear C_we9
        have Tg_we21 := there_new we9 #[.int .i64 0, .int .i64 0] 46 (n := 2) (by decide)
        have S_we21 := Below.chain S_we9 hx22
        have hlg := S_we9.size
        have hng : we9.heap.size < (we9.alloc (.cells #[.int .i64 0, .int .i64 0] 46)).heap.size := by simp
        clear S_we9 hx22
        generalize we9.alloc (.cells #[.int .i64 0, .int .i64 0] 46) = we21 at *
        generalize we9.heap.size = g at *
        refine hK.out _ _ S_we21 (fun hHeld => ?_)
        clear hK K
        try simp only [Act.put, xqA, xqB, xqC]
        refine wpAnyH_ready (rs := [7, 9]) (by kernel_rfl) (by simp) ?_
        refine' AllReadyH.cons (o := _) ?e_k23 ?st_k23 ?more_k23
        case e_k23 => (simp only [xeA, xeB, xeC]; exact rfl)
        case st_k23 =>
         intro K hK
         go_simp
         refine hK.out _ _ S_we21 (fun hHeld => ?_)
         clear hK K
         try simp only [Act.put, xqA, xqB, xqC]
         refine wpAnyH_ready (rs := [9]) (by kernel_rfl) (by simp) ?_
         refine' AllReadyH.cons (o := _) ?e_k25 ?st_k25 AllReadyH.nil
         case e_k25 => (simp only [xeA, xeB, xeC]; exact rfl)
         intro K hK
         rw [if_pos (by rfl)]
         refine wp_store_mid _ _ _ rfl _ _ ([Value.int .i64 f1, Value.int .i64 f2]).toArray rfl rfl (by simpa using Tg_we21) (by kernel_rfl) (all_oneCell_toArray int2_one) ?_
         simp only [Act.put, xqA, xqB, xqC, List.toList_toArray]
         have C_we26 := cell_far2 (g2 := g) (o2 := 0) (vs := [Value.int .i64 f1, Value.int .i64 f2]) C_we21 (by omega)
         have S_we26 := below_cells ([Value.int .i64 f1, Value.int .i64 f2]) we21 g 0 S_we21 (by omega)
         have Y_we26 := World.rangeAt_setCells_same we21 g 0 ([Value.int .i64 f1, Value.int .i64 f2]) Tg_we21
         generalize World.setCells _ _ _ _ = we26 at *
         clear S_we21 Tg_we21
         refine hK.out _ _ S_we26 (fun hHeld => ?_)
         clear hK K
         try simp only [Act.put, xqA, xqB, xqC]
         refine' tkY 10 hHeld ?r_t27
         try simp only [Act.put, xqA, xqB, xqC]
         refine wpAnyH_done (by kernel_rfl) ?_ _
         refine NoPanic.normal ?_
         go_wp2_with fail
         go_meet
         exact ⟨g, rfl, rfl, Y_we26, Below.chain HB1.out S_we26⟩
        case more_k23 =>
         refine' AllReadyH.cons (o := _) ?e_k28 ?st_k28 AllReadyH.nil
         case e_k28 => (simp only [xeA, xeB, xeC]; exact rfl)
         case st_k28 =>
          intro K hK
          rw [if_pos (by rfl)]
          refine wp_store_mid _ _ _ rfl _ _ ([Value.int .i64 f1, Value.int .i64 f2]).toArray rfl rfl (by simpa using Tg_we21) (by kernel_rfl) (all_oneCell_toArray int2_one) ?_
          simp only [Act.put, xqA, xqB, xqC, List.toList_toArray]
          have C_we29 := cell_far2 (g2 := g) (o2 := 0) (vs := [Value.int .i64 f1, Value.int .i64 f2]) C_we21 (by omega)
          have S_we29 := below_cells ([Value.int .i64 f1, Value.int .i64 f2]) we21 g 0 S_we21 (by omega)
          have Y_we29 := World.rangeAt_setCells_same we21 g 0 ([Value.int .i64 f1, Value.int .i64 f2]) Tg_we21
          generalize World.setCells _ _ _ _ = we29 at *
          clear S_we21 Tg_we21
          refine hK.out _ _ S_we29 (fun hHeld => ?_)
          clear hK K
          try simp only [Act.put, xqA, xqB, xqC]
          refine wpAnyH_ready (rs := [7]) (by kernel_rfl) (by simp) ?_
          refine' AllReadyH.cons (o := _) ?e_k30 ?st_k30 AllReadyH.nil
          case e_k30 => (simp only [xeA, xeB, xeC]; exact rfl)
          intro K hK
          go_simp
          refine hK.out _ _ S_we29 (fun hHeld => ?_)
          clear hK K
          try simp only [Act.put, xqA, xqB, xqC]
          refine' tkY 10 hHeld ?r_t32
          try simp only [Act.put, xqA, xqB, xqC]
          refine wpAnyH_done (by kernel_rfl) ?_ _
          refine NoPanic.normal ?_
          go_wp2_with fail
          go_meet
          exact ⟨g, rfl, rfl, Y_we29, Below.chain HB1.out S_we29⟩
     case more_k8 =>
      refine' AllReadyH.cons (o := _) ?e_k33 ?st_k33 AllReadyH.nil
      case e_k33 => (simp only [xeA, xeB, xeC]; exact rfl)
      case st_k33 =>
       intro K hK
       go_simp
       have hx35 := below_one (w := we6) (.cells #[.int .i64 0, .int .i64 0] 46)
       have Tg_we34 := there_new we6 #[.int .i64 0, .int .i64 0] 46 (n := 2) (by decide)
       have S_we34 := Below.chain S_we6 hx35
       have hlg := S_we6.size
       have hng : we6.heap.size < (we6.alloc (.cells #[.int .i64 0, .int .i64 0] 46)).heap.size := by simp
       clear S_we6 hx35
       generalize we6.alloc (.cells #[.int .i64 0, .int .i64 0] 46) = we34 at *
       generalize we6.heap.size = g at *
       refine hK.out _ _ S_we34 (fun hHeld => ?_)
       clear hK K
       try simp only [Act.put, xqA, xqB, xqC]
       refine wpAnyH_ready (rs := [4]) (by kernel_rfl) (by simp) ?_
       refine' AllReadyH.cons (o := _) ?e_k36 ?st_k36 AllReadyH.nil
       case e_k36 => (simp only [xeA, xeB, xeC]; exact rfl)
       intro K hK
       go_simp
       with_reducible refine (HSH.out we34).mono ?_
       rintro e we37 ⟨u, rfl, ho, hx38⟩
       obtain ⟨ua, uc, rfl, hu1, hu2, HCu⟩ := (Ints.of_own ho).parts
       obtain ⟨ub, uo, rfl, C_we37⟩ := HCu.out kn c hsh.out
       have hub : we34.heap.size ≤ ub := (ho.lt ub rfl).1
       rw [show (shTo b 6).length = 6 from shTo_len b 6] at hu1 ⊢
       clear ho HCu
       have hng0 := hng
       have hng := Nat.lt_of_lt_of_le hng hx38.size
       have Tg_we37 := there_below Tg_we34 hx38
       clear Tg_we34
       have S_we37 := Below.chain S_we34 hx38
       have hq : g < ub := Nat.lt_of_lt_of_le hng0 hub
       clear hub S_we34 hx38
       refine hK.out _ _ S_we37 (fun hHeld => ?_)
       clear hK K
       try simp only [Act.put, xqA, xqB, xqC]
       refine' tkY 6 hHeld ?r_t39
       try simp only [Act.put, xqA, xqB, xqC]
       refine wpAnyH_ready (rs := [7, 9]) (by kernel_rfl) (by simp) ?_
       refine' AllReadyH.cons (o := _) ?e_k40 ?st_k40 ?more_k40
       case e_k40 => (simp only [xeA, xeB, xeC]; exact rfl)
       case st_k40 =>
        intro K hK
        go_simp
        refine hK.out _ _ S_we37 (fun hHeld => ?_)
        clear hK K
        try simp only [Act.put, xqA, xqB, xqC]
        refine wpAnyH_ready (rs := [9]) (by kernel_rfl) (by simp) ?_
        refine' AllReadyH.cons (o := _) ?e_k42 ?st_k42 AllReadyH.nil
        case e_k42 => (simp only [xeA, xeB, xeC]; exact rfl)
        intro K hK
        rw [if_pos (by rfl)]
        refine wp_store_mid _ _ _ rfl _ _ ([Value.int .i64 f1, Value.int .i64 f2]).toArray rfl rfl (by simpa using Tg_we37) (by kernel_rfl) (all_oneCell_toArray int2_one) ?_
        simp only [Act.put, xqA, xqB, xqC, List.toList_toArray]
        have C_we43 := cell_far2 (g2 := g) (o2 := 0) (vs := [Value.int .i64 f1, Value.int .i64 f2]) C_we37 (by omega)
        have S_we43 := below_cells ([Value.int .i64 f1, Value.int .i64 f2]) we37 g 0 S_we37 (by omega)
        have Y_we43 := World.rangeAt_setCells_same we37 g 0 ([Value.int .i64 f1, Value.int .i64 f2]) Tg_we37
        generalize World.setCells _ _ _ _ = we43 at *
        clear S_we37 Tg_we37
        refine hK.out _ _ S_we43 (fun hHeld => ?_)
        clear hK K
        try simp only [Act.put, xqA, xqB, xqC]
        refine' tkY 10 hHeld ?r_t44
        try simp only [Act.put, xqA, xqB, xqC]
        refine wpAnyH_done (by kernel_rfl) ?_ _
        refine NoPanic.normal ?_
        go_wp2_with fail
        go_meet
        exact ⟨g, rfl, rfl, Y_we43, Below.chain HB1.out S_we43⟩
       case more_k40 =>
        refine' AllReadyH.cons (o := _) ?e_k45 ?st_k45 AllReadyH.nil
        case e_k45 => (simp only [xeA, xeB, xeC]; exact rfl)
        case st_k45 =>
         intro K hK
         rw [if_pos (by rfl)]
         refine wp_store_mid _ _ _ rfl _ _ ([Value.int .i64 f1, Value.int .i64 f2]).toArray rfl rfl (by simpa using Tg_we37) (by kernel_rfl) (all_oneCell_toArray int2_one) ?_
         simp only [Act.put, xqA, xqB, xqC, List.toList_toArray]
         have C_we46 := cell_far2 (g2 := g) (o2 := 0) (vs := [Value.int .i64 f1, Value.int .i64 f2]) C_we37 (by omega)
         have S_we46 := below_cells ([Value.int .i64 f1, Value.int .i64 f2]) we37 g 0 S_we37 (by omega)
         have Y_we46 := World.rangeAt_setCells_same we37 g 0 ([Value.int .i64 f1, Value.int .i64 f2]) Tg_we37
         generalize World.setCells _ _ _ _ = we46 at *
         clear S_we37 Tg_we37
         refine hK.out _ _ S_we46 (fun hHeld => ?_)
         clear hK K
         try simp only [Act.put, xqA, xqB, xqC]
         refine wpAnyH_ready (rs := [7]) (by kernel_rfl) (by simp) ?_
         refine' AllReadyH.cons (o := _) ?e_k47 ?st_k47 AllReadyH.nil
         case e_k47 => (simp only [xeA, xeB, xeC]; exact rfl)
         intro K hK
         go_simp
         refine hK.out _ _ S_we46 (fun hHeld => ?_)
         clear hK K
         try simp only [Act.put, xqA, xqB, xqC]
         refine' tkY 10 hHeld ?r_t49
         try simp only [Act.put, xqA, xqB, xqC]
         refine wpAnyH_done (by kernel_rfl) ?_ _
         refine NoPanic.normal ?_
         go_wp2_with fail
         go_meet
         exact ⟨g, rfl, rfl, Y_we46, Below.chain HB1.out S_we46⟩
    case more_k5 =>
     refine' AllReadyH.cons (o := _) ?e_k50 ?st_k50 AllReadyH.nil
     case e_k50 => (simp only [xeA, xeB, xeC]; exact rfl)
     case st_k50 =>
      intro K hK
      go_simp
      have hx52 := below_one (w := wd) (.cells #[.int .i64 0, .int .i64 0] 46)
      have Tg_we51 := there_new wd #[.int .i64 0, .int .i64 0] 46 (n := 2) (by decide)
      have S_we51 := Below.chain S_wd hx52
      have hlg := S_wd.size
      have hng : wd.heap.size < (wd.alloc (.cells #[.int .i64 0, .int .i64 0] 46)).heap.size := by simp
      clear S_wd hx52
      generalize wd.alloc (.cells #[.int .i64 0, .int .i64 0] 46) = we51 at *
      generalize wd.heap.size = g at *
      refine hK.out _ _ S_we51 (fun hHeld => ?_)
      clear hK K
      try simp only [Act.put, xqA, xqB, xqC]
      refine wpAnyH_ready (rs := [2]) (by kernel_rfl) (by simp) ?_
      refine' AllReadyH.cons (o := _) ?e_k53 ?st_k53 AllReadyH.nil
      case e_k53 => (simp only [xeA, xeB, xeC]; exact rfl)
      intro K hK
      go_simp
      with_reducible refine (HFA.out we51).mono ?_
      rintro e we54 ⟨he, hx55⟩
      rw [HF.out] at he
      subst he
      have hng := Nat.lt_of_lt_of_le hng hx55.size
      have Tg_we54 := there_below Tg_we51 hx55
      clear Tg_we51
      have S_we54 := Below.chain S_we51 hx55
      clear S_we51 hx55
      refine hK.out _ _ S_we54 (fun hHeld => ?_)
      clear hK K
      try simp only [Act.put, xqA, xqB, xqC]
      refine wpAnyH_ready (rs := [4]) (by kernel_rfl) (by simp) ?_
      refine' AllReadyH.cons (o := _) ?e_k56 ?st_k56 AllReadyH.nil
      case e_k56 => (simp only [xeA, xeB, xeC]; exact rfl)
      intro K hK
      go_simp
      with_reducible refine (HSH.out we54).mono ?_
      rintro e we57 ⟨u, rfl, ho, hx58⟩
      obtain ⟨ua, uc, rfl, hu1, hu2, HCu⟩ := (Ints.of_own ho).parts
      obtain ⟨ub, uo, rfl, C_we57⟩ := HCu.out kn c hsh.out
      have hub : we54.heap.size ≤ ub := (ho.lt ub rfl).1
      rw [show (shTo b 6).length = 6 from shTo_len b 6] at hu1 ⊢
      clear ho HCu
      have hng0 := hng
      have hng := Nat.lt_of_lt_of_le hng hx58.size
      have Tg_we57 := there_below Tg_we54 hx58
      clear Tg_we54
      have S_we57 := Below.chain S_we54 hx58
      have hq : g < ub := Nat.lt_of_lt_of_le hng0 hub
      clear hub S_we54 hx58
      refine hK.out _ _ S_we57 (fun hHeld => ?_)
      clear hK K
      try simp only [Act.put, xqA, xqB, xqC]
      refine' tkY 6 hHeld ?r_t59
      try simp only [Act.put, xqA, xqB, xqC]
      refine wpAnyH_ready (rs := [7, 9]) (by kernel_rfl) (by simp) ?_
      refine' AllReadyH.cons (o := _) ?e_k60 ?st_k60 ?more_k60
      case e_k60 => (simp only [xeA, xeB, xeC]; exact rfl)
      case st_k60 =>
       intro K hK
       go_simp
       refine hK.out _ _ S_we57 (fun hHeld => ?_)
       clear hK K
       try simp only [Act.put, xqA, xqB, xqC]
       refine wpAnyH_ready (rs := [9]) (by kernel_rfl) (by simp) ?_
       refine' AllReadyH.cons (o := _) ?e_k62 ?st_k62 AllReadyH.nil
       case e_k62 => (simp only [xeA, xeB, xeC]; exact rfl)
       intro K hK
       rw [if_pos (by rfl)]
       refine wp_store_mid _ _ _ rfl _ _ ([Value.int .i64 f1, Value.int .i64 f2]).toArray rfl rfl (by simpa using Tg_we57) (by kernel_rfl) (all_oneCell_toArray int2_one) ?_
       simp only [Act.put, xqA, xqB, xqC, List.toList_toArray]
       have C_we63 := cell_far2 (g2 := g) (o2 := 0) (vs := [Value.int .i64 f1, Value.int .i64 f2]) C_we57 (by omega)
       have S_we63 := below_cells ([Value.int .i64 f1, Value.int .i64 f2]) we57 g 0 S_we57 (by omega)
       have Y_we63 := World.rangeAt_setCells_same we57 g 0 ([Value.int .i64 f1, Value.int .i64 f2]) Tg_we57
       generalize World.setCells _ _ _ _ = we63 at *
       clear S_we57 Tg_we57
       refine hK.out _ _ S_we63 (fun hHeld => ?_)
       clear hK K
       try simp only [Act.put, xqA, xqB, xqC]
       refine' tkY 10 hHeld ?r_t64
       try simp only [Act.put, xqA, xqB, xqC]
       refine wpAnyH_done (by kernel_rfl) ?_ _
       refine NoPanic.normal ?_
       go_wp2_with fail
       go_meet
       exact ⟨g, rfl, rfl, Y_we63, Below.chain HB1.out S_we63⟩
      case more_k60 =>
       refine' AllReadyH.cons (o := _) ?e_k65 ?st_k65 AllReadyH.nil
       case e_k65 => (simp only [xeA, xeB, xeC]; exact rfl)
       case st_k65 =>
        intro K hK
        rw [if_pos (by rfl)]
        refine wp_store_mid _ _ _ rfl _ _ ([Value.int .i64 f1, Value.int .i64 f2]).toArray rfl rfl (by simpa using Tg_we57) (by kernel_rfl) (all_oneCell_toArray int2_one) ?_
        simp only [Act.put, xqA, xqB, xqC, List.toList_toArray]
        have C_we66 := cell_far2 (g2 := g) (o2 := 0) (vs := [Value.int .i64 f1, Value.int .i64 f2]) C_we57 (by omega)
        have S_we66 := below_cells ([Value.int .i64 f1, Value.int .i64 f2]) we57 g 0 S_we57 (by omega)
        have Y_we66 := World.rangeAt_setCells_same we57 g 0 ([Value.int .i64 f1, Value.int .i64 f2]) Tg_we57
        generalize World.setCells _ _ _ _ = we66 at *
        clear S_we57 Tg_we57
        refine hK.out _ _ S_we66 (fun hHeld => ?_)
        clear hK K
        try simp only [Act.put, xqA, xqB, xqC]
        refine wpAnyH_ready (rs := [7]) (by kernel_rfl) (by simp) ?_
        refine' AllReadyH.cons (o := _) ?e_k67 ?st_k67 AllReadyH.nil
        case e_k67 => (simp only [xeA, xeB, xeC]; exact rfl)
        intro K hK
        go_simp
        refine hK.out _ _ S_we66 (fun hHeld => ?_)
        clear hK K
        try simp only [Act.put, xqA, xqB, xqC]
        refine' tkY 10 hHeld ?r_t69
        try simp only [Act.put, xqA, xqB, xqC]
        refine wpAnyH_done (by kernel_rfl) ?_ _
        refine NoPanic.normal ?_
        go_wp2_with fail
        go_meet
        exact ⟨g, rfl, rfl, Y_we66, Below.chain HB1.out S_we66⟩
   case rest =>
    obtain ⟨g, rfl, rfl, Y, hbw⟩ := hcut
    have HB := Lib.hid hbw
    have y0 : wc.cell? ⟨g, 0, none⟩ = some (.int .i64 f1) := Y 0 _ rfl
    have y1 : wc.cell? ⟨g, 1, none⟩ = some (.int .i64 f2) := Y 1 _ rfl
    have P := P.out
    clear Y hbw HB1 r1 HQ hsh HF HSH HFA
    by_cases e0 : s.data.toList = wDigits
    · as_aux_lemma =>
       have q0 : (s.toList == [100, 105, 103, 105, 116, 115]) = true := by rw [Lib.toList_data, e0]; rfl
       have HM := Lib.hid (show placeM b s.data.toList (kn : Int) = some (listT (digL f1 f2 c)) by rw [HMM.out]; unfold placeF; rw [if_pos e0])
       clear HMM
       clear e0
       go_wp2_with fail
       with_reducible refine (digits_c f1 f2 c _ P.d0 P.d1 P.l0 P.l1).mono ?_
       rintro e w2 ⟨u, rfl, ho, hb2⟩
       have HB2 := Lib.hid (Below.chain HB.out hb2)
       have HL2 := Lib.hid (Ints.of_own ho)
       obtain ⟨la, lc, rfl, _⟩ := (Sl.of_own ho).slice
       clear ho
       clear hb2
       go_wp2_with fail
       with_reducible refine (listText_c _ (digL f1 f2 c) _ HL2.out (by have := digL_le f1 f2 c; omega) (digL_bd _ _ _) (HT.out.on HB2.out).pow).mono ?_
       rintro e w3 ⟨rfl, hb3⟩
       have HB3 := Lib.hid (Below.chain HB2.out hb3)
       clear hb3
       go_wp2
       exact bodyPost_ret (v := .tuple #[.string (bs (listT (digL f1 f2 c))), .bool true]) (by simp [results, Tryz.results152, go_sem]) rfl (AnsOut.yes HM.out HB3.out)
    · skip
      by_cases e1 : s.data.toList = wTold
      · as_aux_lemma =>
         have q0 : (s.toList == [100, 105, 103, 105, 116, 115]) = false := by rw [Lib.toList_data]; exact beq_false_of_ne e0
         have q1 : (s.toList == [116, 111, 108, 100]) = true := by rw [Lib.toList_data, e1]; rfl
         have HM := Lib.hid (show placeM b s.data.toList (kn : Int) = some (listT (tdL f1 f2)) by rw [HMM.out]; unfold placeF; rw [if_neg e0]; rw [if_pos e1])
         clear HMM
         clear e0 e1
         go_wp2_with fail
         with_reducible refine (ToldDigits_c f1 f2 _).mono ?_
         rintro e w2 ⟨u, rfl, ho, hb2⟩
         have HB2 := Lib.hid (Below.chain HB.out hb2)
         have HL2 := Lib.hid (Ints.of_own ho)
         obtain ⟨la, lc, rfl, _⟩ := (Sl.of_own ho).slice
         clear ho
         rw [P.ok]
         clear hb2
         go_wp2_with fail
         with_reducible refine (listText_c _ (tdL f1 f2) _ HL2.out (by have := tdL_le f1 f2; omega) (tdL_bd _ _) (HT.out.on HB2.out).pow).mono ?_
         rintro e w3 ⟨rfl, hb3⟩
         have HB3 := Lib.hid (Below.chain HB2.out hb3)
         clear hb3
         go_wp2
         exact bodyPost_ret (v := .tuple #[.string (bs (listT (tdL f1 f2))), .bool true]) (by simp [results, Tryz.results152, go_sem]) rfl (AnsOut.yes HM.out HB3.out)
      · skip
        by_cases e2 : s.data.toList = wImages
        · as_aux_lemma =>
           have q0 : (s.toList == [100, 105, 103, 105, 116, 115]) = false := by rw [Lib.toList_data]; exact beq_false_of_ne e0
           have q1 : (s.toList == [116, 111, 108, 100]) = false := by rw [Lib.toList_data]; exact beq_false_of_ne e1
           have q2 : (s.toList == [105, 109, 97, 103, 101, 115]) = true := by rw [Lib.toList_data, e2]; rfl
           have HM := Lib.hid (show placeM b s.data.toList (kn : Int) = some (Lib.decDigits (grpL f1 f2).length) by rw [HMM.out]; unfold placeF; rw [if_neg e0]; rw [if_neg e1]; rw [if_pos e2])
           clear HMM
           clear e0 e1 e2
           go_wp2_with fail
           with_reducible refine (groups_c f1 f2 _ P.d0 P.d1 P.l0 P.l1).mono ?_
           rintro e w2 ⟨u, rfl, ho, hb2⟩
           have HB2 := Lib.hid (Below.chain HB.out hb2)
           obtain ⟨vs, hvs, _⟩ := ho
           obtain ⟨la, lc, rfl, _⟩ := (Sl.of_own hvs).slice
           clear hvs
           clear hb2
           have hgl : (grpL f1 f2).length ≤ 999999 := by have : (grpL f1 f2).length ≤ 10 := grpTo_le _ _ _; omega
           go_wp2_with fail
           with_reducible refine (ItoaN_c (grpL f1 f2).length hgl _ (HT.out.on HB2.out).pow).mono ?_
           rintro e w3 ⟨rfl, hb3⟩
           have HB3 := Lib.hid (Below.chain HB2.out hb3)
           clear hb3
           go_wp2
           exact bodyPost_ret (v := .tuple #[.string (bs (Lib.decDigits (grpL f1 f2).length)), .bool true]) (by simp [results, Tryz.results152, go_sem]) rfl (AnsOut.yes HM.out HB3.out)
        · skip
          by_cases e3 : s.data.toList = wHarmless
          · as_aux_lemma =>
             have q0 : (s.toList == [100, 105, 103, 105, 116, 115]) = false := by rw [Lib.toList_data]; exact beq_false_of_ne e0
             have q1 : (s.toList == [116, 111, 108, 100]) = false := by rw [Lib.toList_data]; exact beq_false_of_ne e1
             have q2 : (s.toList == [105, 109, 97, 103, 101, 115]) = false := by rw [Lib.toList_data]; exact beq_false_of_ne e2
             have q3 : (s.toList == [104, 97, 114, 109, 108, 101, 115, 115]) = true := by rw [Lib.toList_data, e3]; rfl
             have HM := Lib.hid (show placeM b s.data.toList (kn : Int) = some (yesT (decide ((grpL f1 f2).length = 10))) by rw [HMM.out]; unfold placeF; rw [if_neg e0]; rw [if_neg e1]; rw [if_neg e2]; rw [if_pos e3])
             clear HMM
             clear e0 e1 e2 e3
             go_wp2_with fail
             with_reducible refine (isHarmless_c f1 f2 _ P.d0 P.d1 P.l0 P.l1).mono ?_
             rintro e w2 ⟨rfl, hb2⟩
             have HB2 := Lib.hid (Below.chain HB.out hb2)
             clear hb2
             generalize decide ((grpL f1 f2).length = 10) = hh at *
             go_wp2_with fail
             refine (reportText_c hh _).mono ?_
             rintro e _ ⟨rfl, rfl⟩
             go_wp2
             exact bodyPost_ret (v := .tuple #[.string (bs (yesT hh)), .bool true]) (by simp [results, Tryz.results152, go_sem]) rfl (AnsOut.yes HM.out HB2.out)
          · skip
            by_cases e4 : s.data.toList = wNear
            · as_aux_lemma =>
               have q0 : (s.toList == [100, 105, 103, 105, 116, 115]) = false := by rw [Lib.toList_data]; exact beq_false_of_ne e0
               have q1 : (s.toList == [116, 111, 108, 100]) = false := by rw [Lib.toList_data]; exact beq_false_of_ne e1
               have q2 : (s.toList == [105, 109, 97, 103, 101, 115]) = false := by rw [Lib.toList_data]; exact beq_false_of_ne e2
               have q3 : (s.toList == [104, 97, 114, 109, 108, 101, 115, 115]) = false := by rw [Lib.toList_data]; exact beq_false_of_ne e3
               have q4 : (s.toList == [110, 101, 97, 114]) = true := by rw [Lib.toList_data, e4]; rfl
               have HM := Lib.hid (show placeM b s.data.toList (kn : Int) = some (listT (nearL c)) by rw [HMM.out]; unfold placeF; rw [if_neg e0]; rw [if_neg e1]; rw [if_neg e2]; rw [if_neg e3]; rw [if_pos e4])
               clear HMM
               clear e0 e1 e2 e3 e4
               go_wp2_with fail
               refine (digitCells_c _).mono ?_
               rintro e w2 ⟨rfl, hb2⟩
               have HB2 := Lib.hid (Below.chain HB.out hb2)
               clear hb2
               unfold digA
               have HN := Lib.hid (NearestOf_c _ c P.c0 P.c1 _ (ints_of_range (range_new w2 (ints dig) 140) (n := 10) rfl))
               go_wp2_with fail
               refine (HN.out).mono ?_
               rintro e w3 ⟨u, m, rfl, ho, hb3⟩
               have HL3 := Lib.hid (Ints.of_own ho)
               have HB3 := Lib.hid (Below.chain (Below.alc HB2.out _) hb3)
               obtain ⟨la, lc, rfl, _⟩ := (Sl.of_own ho).slice
               clear ho hb3 HN
               go_wp2_with fail
               with_reducible refine (listText_c _ (nearL c) _ HL3.out (by have := nearL_le c; omega) (nearL_bd c) (HT.out.on HB3.out).pow).mono ?_
               rintro e w4 ⟨rfl, hb4⟩
               have HB4 := Lib.hid (Below.chain HB3.out hb4)
               clear hb4
               go_wp2
               exact bodyPost_ret (v := .tuple #[.string (bs (listT (nearL c))), .bool true]) (by simp [results, Tryz.results152, go_sem]) rfl (AnsOut.yes HM.out HB4.out)
            · skip
              by_cases e5 : s.data.toList = wSame
              · as_aux_lemma =>
                 have q0 : (s.toList == [100, 105, 103, 105, 116, 115]) = false := by rw [Lib.toList_data]; exact beq_false_of_ne e0
                 have q1 : (s.toList == [116, 111, 108, 100]) = false := by rw [Lib.toList_data]; exact beq_false_of_ne e1
                 have q2 : (s.toList == [105, 109, 97, 103, 101, 115]) = false := by rw [Lib.toList_data]; exact beq_false_of_ne e2
                 have q3 : (s.toList == [104, 97, 114, 109, 108, 101, 115, 115]) = false := by rw [Lib.toList_data]; exact beq_false_of_ne e3
                 have q4 : (s.toList == [110, 101, 97, 114]) = false := by rw [Lib.toList_data]; exact beq_false_of_ne e4
                 have q5 : (s.toList == [115, 97, 109, 101]) = true := by rw [Lib.toList_data, e5]; rfl
                 have HM := Lib.hid (show placeM b s.data.toList (kn : Int) = some (partT (csA f1 f2) (csB f1 f2)) by rw [HMM.out]; unfold placeF; rw [if_neg e0]; rw [if_neg e1]; rw [if_neg e2]; rw [if_neg e3]; rw [if_neg e4]; rw [if_pos e5])
                 clear HMM
                 clear e0 e1 e2 e3 e4 e5
                 have hcs := csA_le f1 f2
                 go_wp2_with fail
                 refine (ChanceSameDigit_c f1 f2 _).mono ?_
                 rintro e w2 ⟨he, hb2⟩
                 rw [csV_fr, P.ok] at he
                 subst he
                 have HB2 := Lib.hid (Below.chain HB.out hb2)
                 clear hb2
                 obtain ⟨ca, hca⟩ : ∃ ca, csA f1 f2 = ca := ⟨_, rfl⟩
                 obtain ⟨cb, hcb⟩ : ∃ cb, csB f1 f2 = cb := ⟨_, rfl⟩
                 rw [hca, hcb] at hcs ⊢
                 have HCA := Lib.hid hca
                 have HCB := Lib.hid hcb
                 clear hca hcb
                 have HB3 := Lib.hid (Below.alc HB2.out (.cells #[.int .i64 (ca : Int), .int .i64 (cb : Int)] 174))
                 go_wp2_with fail
                 refine (fractionText_c ca cb hcs.1 hcs.2 _ (HT.out.on HB3.out).pow).mono ?_
                 rintro e w4 ⟨rfl, hb4⟩
                 have HB4 := Lib.hid (Below.chain HB3.out hb4)
                 clear hb4
                 go_wp2
                 exact bodyPost_ret (v := .tuple #[.string (bs (partT ca cb)), .bool true]) (by simp [results, Tryz.results152, go_sem]) rfl (AnsOut.yes (by rw [HM.out, HCA.out, HCB.out]) HB4.out)
              · skip
                as_aux_lemma =>
                 have q0 : (s.toList == [100, 105, 103, 105, 116, 115]) = false := by rw [Lib.toList_data]; exact beq_false_of_ne e0
                 have q1 : (s.toList == [116, 111, 108, 100]) = false := by rw [Lib.toList_data]; exact beq_false_of_ne e1
                 have q2 : (s.toList == [105, 109, 97, 103, 101, 115]) = false := by rw [Lib.toList_data]; exact beq_false_of_ne e2
                 have q3 : (s.toList == [104, 97, 114, 109, 108, 101, 115, 115]) = false := by rw [Lib.toList_data]; exact beq_false_of_ne e3
                 have q4 : (s.toList == [110, 101, 97, 114]) = false := by rw [Lib.toList_data]; exact beq_false_of_ne e4
                 have q5 : (s.toList == [115, 97, 109, 101]) = false := by rw [Lib.toList_data]; exact beq_false_of_ne e5
                 have HM := Lib.hid (show placeM b s.data.toList (kn : Int) = none by rw [HMM.out]; unfold placeF; rw [if_neg e0]; rw [if_neg e1]; rw [if_neg e2]; rw [if_neg e3]; rw [if_neg e4]; rw [if_neg e5])
                 clear e0 e1 e2 e3 e4 e5
                 go_wp2
                 exact bodyPost_ret (v := .tuple #[.string ⟨#[]⟩, .bool false]) (by simp [results, Tryz.results152, go_sem]) rfl (AnsOut.no HM.out HB.out)
theorem mbA_all (n : Int) : mbA n ≤ 999999 ∧ mbB n ≤ 999999 := by
 cases h : inB n 0 9999 with
 | true => exact mbA_le h
 | false => unfold mbA mbB frA frB; rw [h]; exact ⟨Nat.zero_le _, Nat.zero_le _⟩
theorem AnsOut.ite {c : Bool} {s : Bs} {t : ByteArray} {w w' : World} (ht : c = true → t = bs s) (hb : Below w.heap.size w w') : AnsOut (if c then some s else none) w (.returned (.tuple #[.string t, .bool c])) w' := by
 cases c with
 | true => exact ⟨t, rfl, fun q hq => by rw [ht rfl, Option.some.inj hq], hb⟩
 | false => exact ⟨t, rfl, (fun q hq => by cases hq), hb⟩
theorem bulbs_ne {s : Bs} (h : s = wBulbs) : s ≠ wFull := by rw [h]; decide
set_option maxHeartbeats 20000000 in
theorem answer_c (b : List Int) (s : ByteArray) (v : Value) (xs : List Int) (w : World) (hb : b.length = 19) (hg : goodB b = true) (hv : Ints w v xs) (hn : xs.length ≤ 2) (ht : TabC w) :
 Calls Tryz.prog 102 #[aggI b, .string s, v] w (AnsOut (askM b s.data.toList xs) w) := by
 have HT := Lib.hid ht
 have HPC := Lib.hid (fun (x : Int) (W : World) (h : TabC W) => placed_c b s x W hb hg h)
 unfold aggI at HPC
 have HB0 := Lib.hid (below_one (w := w) (.cells (ints b).toArray 26))
 have r0 := range_new w (ints b) 26
 have HV := Lib.hid (hv.below (below_one (.cells (ints b).toArray 26)))
 obtain ⟨a, c, rfl, hc1, hc2, _⟩ := hv.parts
 clear ht hv
 unfold aggI
 rcases xs with _ | ⟨x, _ | ⟨y, _ | ⟨z, t⟩⟩⟩
 · as_aux_lemma =>
    have HM : Hid (askM b s.data.toList [] = tellM b s.data.toList) := rfl
    rw [HM.out]
    go_enter Tryz.func102, Tryz.ntmps102
    go_wp2_with (refine wpList_loadB rfl _ rfl _ rfl b r0 hb ?_)
    refine (plain_c b s _ hb hg (HT.out.on HB0.out)).mono ?_
    rintro e w1 ⟨t, rfl, hans, hb1⟩
    have HA := Lib.hid hans
    clear hans
    generalize tellM b s.data.toList = o at *
    go_wp2
    exact bodyPost_ret (v := .tuple #[.string t, .bool o.isSome]) (by simp [results, Tryz.results102, go_sem]) rfl ⟨t, rfl, HA.out, Below.chain HB0.out hb1⟩
 · have HX : Hid (∃ bb oo, a = some ⟨bb, oo, none⟩ ∧ (w.alloc (.cells (ints b).toArray 26)).cell? ⟨bb, oo, none⟩ = some (.int .i64 x)) := by
    obtain ⟨_, _, he, _, _, HC⟩ := HV.out.parts
    obtain ⟨bb, oo, h1, h2⟩ := HC.out 0 x rfl
    injection he with h3
    exact ⟨bb, oo, by rw [h3]; exact h1, h2⟩
   obtain ⟨bb, oo, rfl, hx0⟩ := HX.out
   clear HX HV
   rw [show ([x] : List Int).length = 1 from rfl] at *
   by_cases eB : s.data.toList = wBulbs
   · as_aux_lemma =>
      have eF := bulbs_ne eB
      have fB : (s.toList == [98, 117, 108, 98, 115]) = true := by rw [Lib.toList_data, eB]; rfl
      have fF : (s.toList == [102, 117, 108, 108]) = false := by rw [Lib.toList_data]; exact beq_false_of_ne eF
      have HM := Lib.hid (show askM b s.data.toList [x] = (if inB x 0 9999 then some (partT (mbA x) (mbB x)) else none) from if_pos eB)
      have hma := mbA_all x
      clear eB eF
      go_enter Tryz.func102, Tryz.ntmps102
      go_upto_region 7 with fail
      generalize World.alloc _ _ = w0 at *
      have HMB := Lib.hid (fun W hW => MeanBars_c x W hW)
      go_wp2_with fail
      refine (HMB.out _ (HT.out.on HB0.out).pow).mono ?_
      rintro e w1 ⟨he, hb1⟩
      rw [mbV_fr] at he
      subst he
      have HB1 := Lib.hid (Below.chain HB0.out hb1)
      clear hb1 HMB r0
      generalize mbA x = ma at *
      generalize mbB x = mb at *
      have HP := Lib.hid (Bk.new w1 174 #[.int .i64 (ma : Int), .int .i64 (mb : Int)])
      have HB2 := Lib.hid (Below.alc HB1.out (.cells #[.int .i64 (ma : Int), .int .i64 (mb : Int)] 174))
      go_wp2_with fail
      refine (fractionText_c ma mb hma.1 hma.2 _ (HT.out.on (by have hb := HB1.out; (repeat (first | exact Below.refl _ _ | exact (Below.refl _ _).drew | assumption | exact below_one _ | refine Below.chain ?_ (by assumption) | refine Below.drew ?_ | refine Below.alc ?_ _ | refine below_drewN ?_ | (refine Below.setCell ?_ ?_ _) | exact Nat.le_refl _ | (simp; done) | (simp; omega))))).pow).mono ?_
      rintro e w3 ⟨rfl, hb3⟩
      generalize hq : inB x 0 9999 = qb at *
      go_wp2
      exact bodyPost_ret (v := .tuple #[.string (bs (partT ma mb)), .bool qb]) (by simp [results, Tryz.results102, go_sem]) rfl (by rw [HM.out]; exact AnsOut.ite (fun _ => rfl) (by have hb := HB1.out; have hb4 := hb3; (repeat (first | exact Below.refl _ _ | exact (Below.refl _ _).drew | assumption | exact below_one _ | refine Below.chain ?_ (by assumption) | refine Below.drew ?_ | refine Below.alc ?_ _ | refine below_drewN ?_ | (refine Below.setCell ?_ ?_ _) | exact Nat.le_refl _ | (simp; done) | (simp; omega)))))
   · have HM0 : askM b s.data.toList [x] = placeM b s.data.toList x := if_neg eB
     have HM := Lib.hid HM0
     by_cases eF : s.data.toList = wFull
     · as_aux_lemma =>
        have fF : (s.toList == [102, 117, 108, 108]) = true := by rw [Lib.toList_data, eF]; rfl
        have fB : (s.toList == [98, 117, 108, 98, 115]) = false := by rw [Lib.toList_data]; exact beq_false_of_ne eB
        clear eB eF HM0
        go_enter Tryz.func102, Tryz.ntmps102
        go_upto_region 10 with fail
        generalize World.alloc _ _ = w0 at *
        refine wp_region_noPanic ?_
        have S_wd : Below w0.heap.size w0 w0.drew := (Below.refl _ _).drew
        refine wp_region_held_drew (S := fun w' : World => Below w0.heap.size w0 w') (by kernel_rfl) S_wd (fun hHeld => ?_)
        generalize w0.drew = wd at *
        refine' tkX 0 hHeld ?y_t1 ?r_t1
        case y_t1 =>
         refine' yieldsIf_load_mid ?hw_t1 _ _ rfl _ _ rfl (ints b) _ ?hS_t1 ?hu_t1 ?hd_t1 ?hi_t1
         case hw_t1 => rfl
         case hS_t1 => exact fun (w' : World) (h : Below w0.heap.size w0 w') => range_below r0 h
         case hu_t1 => exact Tryz.underlying26
         case hd_t1 => rfl
         case hi_t1 => exact (by rw [show (ints b).length = 19 by simp [ints, hb]]; kernel_rfl)
        try simp only [Act.put, xqA, xqB, xqC]
        refine' tkY 1 hHeld ?r_t2
        try simp only [Act.put, xqA, xqB, xqC]
        refine' tkY 2 hHeld ?r_t3
        try simp only [Act.put, xqA, xqB, xqC]
        refine' tkY 3 hHeld ?r_t4
        try simp only [Act.put, xqA, xqB, xqC]
        refine' tkX 4 hHeld ?y_t5 ?r_t5
        case y_t5 => exact Or.inl ⟨by rfl, by (intro w hSw; have c0 := cell_later hSw hx0; go_simp; first | done | with_reducible rfl)⟩
        try simp only [Act.put, xqA, xqB, xqC]
        refine wpAnyH_ready (rs := [5]) (by kernel_rfl) (by simp) ?_
        refine' AllReadyH.cons (o := _) ?e_k6 ?st_k6 AllReadyH.nil
        case e_k6 => (simp only [xeA, xeB, xeC]; exact rfl)
        intro K hK
        go_simp
        with_reducible refine (HPC.out x wd (HT.out.on (Below.chain HB0.out S_wd))).mono ?_
        rintro e we7 ⟨t, rfl, hans, hx8⟩
        have S_we7 := Below.chain S_wd hx8
        clear S_wd hx8
        generalize hq : (placeM b s.data.toList x).isSome = qb at *
        refine hK.out _ _ S_we7 (fun hHeld => ?_)
        clear hK K
        try simp only [Act.put, xqA, xqB, xqC]
        refine' tkY 6 hHeld ?r_t9
        try simp only [Act.put, xqA, xqB, xqC]
        refine' tkY 7 hHeld ?r_t10
        try simp only [Act.put, xqA, xqB, xqC]
        refine' tkY 8 hHeld ?r_t11
        try simp only [Act.put, xqA, xqB, xqC]
        refine' tkY 9 hHeld ?r_t12
        try simp only [Act.put, xqA, xqB, xqC]
        refine wpAnyH_done (by kernel_rfl) ?_ _
        refine NoPanic.normal ?_
        go_wp2
        exact bodyPost_ret (v := .tuple #[.string t, .bool qb]) (by simp [results, Tryz.results102, go_sem]) rfl ⟨t, by rw [HM.out, hq], by rw [HM.out]; exact hans, Below.chain HB0.out S_we7⟩
     · as_aux_lemma =>
        have fF : (s.toList == [102, 117, 108, 108]) = false := by rw [Lib.toList_data]; exact beq_false_of_ne eF
        have fB : (s.toList == [98, 117, 108, 98, 115]) = false := by rw [Lib.toList_data]; exact beq_false_of_ne eB
        clear eB eF HM0
        go_enter Tryz.func102, Tryz.ntmps102
        go_upto_region 10 with fail
        generalize World.alloc _ _ = w0 at *
        refine wp_region_noPanic ?_
        have S_wd : Below w0.heap.size w0 w0.drew := (Below.refl _ _).drew
        refine wp_region_held_drew (S := fun w' : World => Below w0.heap.size w0 w') (by kernel_rfl) S_wd (fun hHeld => ?_)
        generalize w0.drew = wd at *
        refine' tkX 0 hHeld ?y_t13 ?r_t13
        case y_t13 =>
         refine' yieldsIf_load_mid ?hw_t13 _ _ rfl _ _ rfl (ints b) _ ?hS_t13 ?hu_t13 ?hd_t13 ?hi_t13
         case hw_t13 => rfl
         case hS_t13 => exact fun (w' : World) (h : Below w0.heap.size w0 w') => range_below r0 h
         case hu_t13 => exact Tryz.underlying26
         case hd_t13 => rfl
         case hi_t13 => exact (by rw [show (ints b).length = 19 by simp [ints, hb]]; kernel_rfl)
        try simp only [Act.put, xqA, xqB, xqC]
        refine' tkY 1 hHeld ?r_t14
        try simp only [Act.put, xqA, xqB, xqC]
        refine' tkY 2 hHeld ?r_t15
        try simp only [Act.put, xqA, xqB, xqC]
        refine' tkY 3 hHeld ?r_t16
        try simp only [Act.put, xqA, xqB, xqC]
        refine' tkX 4 hHeld ?y_t17 ?r_t17
        case y_t17 => exact Or.inl ⟨by rfl, by (intro w hSw; have c0 := cell_later hSw hx0; go_simp; first | done | with_reducible rfl)⟩
        try simp only [Act.put, xqA, xqB, xqC]
        refine wpAnyH_ready (rs := [5]) (by kernel_rfl) (by simp) ?_
        refine' AllReadyH.cons (o := _) ?e_k18 ?st_k18 AllReadyH.nil
        case e_k18 => (simp only [xeA, xeB, xeC]; exact rfl)
        intro K hK
        go_simp
        with_reducible refine (HPC.out x wd (HT.out.on (Below.chain HB0.out S_wd))).mono ?_
        rintro e we19 ⟨t, rfl, hans, hx20⟩
        have S_we19 := Below.chain S_wd hx20
        clear S_wd hx20
        generalize hq : (placeM b s.data.toList x).isSome = qb at *
        refine hK.out _ _ S_we19 (fun hHeld => ?_)
        clear hK K
        try simp only [Act.put, xqA, xqB, xqC]
        refine' tkY 6 hHeld ?r_t21
        try simp only [Act.put, xqA, xqB, xqC]
        refine' tkY 7 hHeld ?r_t22
        try simp only [Act.put, xqA, xqB, xqC]
        refine' tkY 8 hHeld ?r_t23
        try simp only [Act.put, xqA, xqB, xqC]
        refine' tkY 9 hHeld ?r_t24
        try simp only [Act.put, xqA, xqB, xqC]
        refine wpAnyH_done (by kernel_rfl) ?_ _
        refine NoPanic.normal ?_
        go_wp2
        exact bodyPost_ret (v := .tuple #[.string t, .bool qb]) (by simp [results, Tryz.results102, go_sem]) rfl ⟨t, by rw [HM.out, hq], by rw [HM.out]; exact hans, Below.chain HB0.out S_we19⟩
 · rw [show ([x, y] : List Int).length = 2 from rfl] at *
   by_cases eF : s.data.toList = wFull
   · as_aux_lemma =>
      have fF : (s.toList == [102, 117, 108, 108]) = true := by rw [Lib.toList_data, eF]; rfl
      have HM := Lib.hid (show askM b s.data.toList [x, y] = (if testB [x, y] then some (yesT (fullB [x, y])) else none) from if_pos eF)
      clear eF
      go_enter Tryz.func102, Tryz.ntmps102
      go_upto_region 4 with fail
      generalize World.alloc _ _ = w0 at *
      have HFT := Lib.hid (IsFullTest_c _ [x, y] w0 HV.out)
      clear r0 HV
      go_wp2_with fail
      refine HFT.out.mono ?_
      rintro e w1 ⟨rfl, hb1⟩
      have HB1 := Lib.hid (Below.chain HB0.out hb1)
      clear hb1 HFT
      unfold isFullV
      have HY : Hid (testB [x, y] = true → (testB [x, y] && fullB [x, y]) = fullB [x, y]) := fun h => by rw [h]; rfl
      generalize (testB [x, y] && fullB [x, y]) = fb at *
      generalize testB [x, y] = tb at *
      generalize fullB [x, y] = gb at *
      go_wp2_with fail
      refine (reportText_c fb _).mono ?_
      rintro e _ ⟨rfl, rfl⟩
      go_wp2
      exact bodyPost_ret (v := .tuple #[.string (bs (yesT fb)), .bool tb]) (by simp [results, Tryz.results102, go_sem]) rfl (by rw [HM.out]; exact AnsOut.ite (fun h => by rw [HY.out h]) HB1.out)
   · have HM := Lib.hid (show askM b s.data.toList [x, y] = none from if_neg eF)
     by_cases eB : s.data.toList = wBulbs
     · as_aux_lemma =>
        have fF : (s.toList == [102, 117, 108, 108]) = false := by rw [Lib.toList_data]; exact beq_false_of_ne eF
        have fB : (s.toList == [98, 117, 108, 98, 115]) = true := by rw [Lib.toList_data, eB]; rfl
        clear eB eF
        go_enter Tryz.func102, Tryz.ntmps102
        go_wp2
        exact bodyPost_ret (v := .tuple #[.string ⟨#[]⟩, .bool false]) (by simp [results, Tryz.results102, go_sem]) rfl (AnsOut.no HM.out HB0.out)
     · as_aux_lemma =>
        have fF : (s.toList == [102, 117, 108, 108]) = false := by rw [Lib.toList_data]; exact beq_false_of_ne eF
        have fB : (s.toList == [98, 117, 108, 98, 115]) = false := by rw [Lib.toList_data]; exact beq_false_of_ne eB
        clear eB eF
        go_enter Tryz.func102, Tryz.ntmps102
        go_wp2
        exact bodyPost_ret (v := .tuple #[.string ⟨#[]⟩, .bool false]) (by simp [results, Tryz.results102, go_sem]) rfl (AnsOut.no HM.out HB0.out)
 · exact absurd hn (by simp)
end Go.Proofs.YtohgjfdbnkjefaaGreatDoor
