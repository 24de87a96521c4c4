/- Texts of this claim, gathered: Lts3. -/
import Derived.Test.YtohgjfdbnkjefaaGreatDoorKx18
import Derived.Deep.DrawnRows
namespace Go.Proofs.YtohgjfdbnkjefaaGreatDoor
open Go.RowKit
set_option linter.unusedVariables false
set_option linter.unusedSimpArgs false
set_option maxRecDepth 100000
attribute [local go_sem ↓] Go.wp_at_zero Go.wp_at_succ
theorem Inn.insert {w : World} {lo lo2 : Nat} {v : Value} {xs : List Int} (hv : w.ownsRow lo2 3 1 v xs.length (ints xs)) (hl : lo ≤ lo2) : ∀ (k : Nat) {vs : List Value} {xss : List (List Int)}, Inn w lo vs xss →
 (∀ a ∈ vs, ∀ g, a.ownBlock = some g → g < lo2) → Inn w lo (vs.take k ++ v :: vs.drop k) (xss.take k ++ xs :: xss.drop k)
 | 0, vs, xss, h, hn => by
  simp only [List.take_zero, List.drop_zero, List.nil_append]
  refine h.cons (own_lo hv hl) (fun b hb => ?_)
  cases hg : b.ownBlock with
  | none => exact .inl rfl
  | some q =>
   right; intro e
   have h1 := hn b hb q hg
   have h2 := (hv.lt q e.symm).1
   omega
 | k + 1, [], [], h, hn => by simp; exact (Inn.nil_ w lo).cons (own_lo hv hl) (fun b hb => by simp at hb)
 | k + 1, [], _ :: _, h, _ => by have := h.1; simp at this
 | k + 1, _ :: _, [], h, _ => by have := h.1; simp at this
 | k + 1, a :: t, x :: u, h, hn => by
  have ih := Inn.insert hv hl k h.tail (fun b hb => hn b (List.mem_cons_of_mem _ hb))
  simp only [List.take_succ_cons, List.drop_succ_cons, List.cons_append]
  refine ih.cons h.head.1 (fun b hb => ?_)
  rcases List.mem_append.1 hb with hb | hb
  · exact h.head.2 b (List.mem_of_mem_take hb)
  · rcases List.mem_cons.1 hb with e | hb
    · subst e
      cases hg : b.ownBlock with
      | none => exact .inl rfl
      | some q =>
       right; intro e
       have h1 := hn a (by simp) q e.symm
       have h2 := (hv.lt q hg).1
       omega
    · exact h.head.2 b (List.mem_of_mem_drop hb)
theorem own_takeV {w : World} {lo g cap n : Nat} {e : TypeId} {l : List Value} (h : w.ownsRow lo e 1 (.slice (some ⟨g, 0, none⟩) n cap) n l) (k : Nat) : ∀ j u, (l.take k)[j]? = some u → w.cell? ((⟨g, 0, none⟩ : Addr).add j) = some u := by
 intro j u hu
 rw [Addr.add_lit, Nat.zero_add]
 have hlen : l.length = n * 1 := h.1
 have hu2 : l[j]? = some u := by
  simp only [List.getElem?_take] at hu ⊢
  split at hu
  · exact hu
  · cases hu
 have hj := (List.getElem?_eq_some_iff.1 hu2).1
 rw [h.cellAt j (by omega)]; exact hu2
theorem own_dropV {w : World} {lo g cap n : Nat} {e : TypeId} {l : List Value} (h : w.ownsRow lo e 1 (.slice (some ⟨g, 0, none⟩) n cap) n l) (k : Nat) : ∀ j u, (l.drop k)[j]? = some u → w.cell? ((⟨g, k, none⟩ : Addr).add j) = some u := by
 intro j u hu
 rw [Addr.add_lit]
 have hlen : l.length = n * 1 := h.1
 have hu2 : l[k + j]? = some u := by simpa using hu
 have hj := (List.getElem?_eq_some_iff.1 hu2).1
 rw [h.cellAt (k + j) (by omega)]; exact hu2
set_option maxHeartbeats 8000000 in
theorem sLeastTests_c (w : World) : Calls Tryz.prog 178 #[] w fun e w' => ∃ u, e = .returned u ∧ OwnSS w' w.heap.size u ltA ∧ Below w.heap.size w w' := by
 obtain ⟨inf, hi, hz0, hz1, hz2⟩ := info_parts info_ints
 have ho0 := World.ownsRow_lit (e := 37) (size := 1) (base := w.heap.size) w #[] 0 (Nat.le_refl _) (by decide) rfl
 go_enter Tryz.func178, Tryz.ntmps178
 go_wp2
 go_loopw [1, 2] (fun o i wr => ∃ (n g cap : Nat) (vs : List Value), n ≤ 1024 ∧ i = .int .i64 (n : Int) ∧ o = .slice (some ⟨g, 0, none⟩) (ltN n).length cap ∧ wr.ownsRow w.heap.size 37 1 (.slice (some ⟨g, 0, none⟩) (ltN n).length cap) (ltN n).length vs ∧ Inn wr w.heap.size vs (ltN n) ∧ Below w.heap.size w wr) (fun _ i _ => 1024 - (intOf i).toNat)
 case atStart => exact ⟨0, w.heap.size, 0, [], by omega, rfl, rfl, by simpa [ltN, partsS] using ho0, Inn.nil_ _ _, below_one _⟩
 case round =>
  obtain ⟨n, g, cap, vs, hn, rfl, rfl, ho, hin, hb⟩ := hrel
  clear ho0
  by_cases hlt : n < 1024
  · have hd : decide ((n : Int) < 1024) = true := by simp; omega
    have HSt := Lib.hid (ltN_succ n)
    have hLn := ltN_len n
    have HT := Lib.hid (digs_test (S := tenI) (by decide) (by decide) n)
    have hpl : (digsL tenI n).length ≤ 10 := digs_len tenI n
    have HD : Hid (∀ (u : Value) (wx : World), Ints wx u tenI → Calls Tryz.prog 224 #[u, .int .i64 (n : Int)] wx fun e w' => ∃ u', e = .returned u' ∧ w'.ownsRow wx.heap.size 3 1 u' (digsL tenI n).length (ints (digsL tenI n)) ∧ Below wx.heap.size wx w') := fun u wx h => l7Digits_c u tenI n wx h (by decide) hlt
    have HO := Lib.hid ho; have HIN := Lib.hid hin; have HB := Lib.hid hb
    have hszw := hb.size
    clear ho hin hb
    generalize hp : digsL tenI n = p at *
    generalize hL : ltN n = L at *
    have STAY : Hid (leastL p = false → ∀ wz, Below wr.heap.size wr wz → ltN (n + 1) = L ∧ wz.ownsRow w.heap.size 37 1 (.slice (some ⟨g, 0, none⟩) L.length cap) L.length vs ∧ Inn wz w.heap.size vs L ∧ Below w.heap.size w wz) := fun hl wz hz => ⟨by rw [HSt.out, hl]; rfl, own_keep HO.out hz, HIN.out.keep hz, Below.chain HB.out hz⟩
    rcases hf : fullB p with _ | _
    · have hl : leastL p = false := by unfold leastL; rw [hf]; simp
      have ST := Lib.hid (STAY.out hl)
      clear hl
      go_wp2_with fail
      refine (l7Ten_c _).mono ?_
      rintro e w2 ⟨u, rfl, hou, hb2⟩
      go_wp2_with fail
      refine (HD.out u w2 (Ints.of_own hou)).mono ?_
      rintro e w3 ⟨u', rfl, hop, hb3⟩
      obtain ⟨ap, cp, rfl, _⟩ := (Sl.of_own hop).slice
      have HF := Lib.hid (l7Full_c _ p w3 (Ints.of_own hop) HT.out)
      have HB3 := Lib.hid (Below.chain hb2 hb3)
      clear hou hop hb2 hb3
      go_wp2_with fail
      refine HF.out.mono ?_
      rintro e w4 ⟨rfl, hb5⟩
      rw [hf]
      have HB4 := Lib.hid (Below.chain HB3.out hb5)
      clear hb5
      go_wp2
      go_roundw
      case rel =>
       obtain ⟨q1, q2, q3, q4⟩ := ST.out _ HB4.out
       exact ⟨n + 1, g, cap, vs, by omega, by go_num, by rw [q1], by rw [q1]; exact q2, by rw [q1]; exact q3, q4⟩
      case measure => simp [intOf]; omega
    · have hpos : 0 < p.length := List.length_pos_iff.2 (fun e => by rw [e, full_nil] at hf; cases hf)
      go_wp2_with fail
      refine (l7Ten_c _).mono ?_
      rintro e w2 ⟨u, rfl, hou, hb2⟩
      go_wp2_with fail
      refine (HD.out u w2 (Ints.of_own hou)).mono ?_
      rintro e w3 ⟨u', rfl, hop, hb3⟩
      obtain ⟨gp, cp, rfl, _, _, _, _⟩ := own_form hop hpos
      have HF := Lib.hid (l7Full_c _ p w3 (Ints.of_own hop) HT.out)
      have HB3 := Lib.hid (Below.chain hb2 hb3)
      have HOP := Lib.hid hop
      have hs2 := hb2.size
      clear hou hop hb2 hb3
      go_wp2_with fail
      refine HF.out.mono ?_
      rintro e w4 ⟨rfl, hb5⟩
      rw [hf]
      have HB4 := Lib.hid (Below.chain HB3.out hb5)
      have HOP4 := Lib.hid (own_keep HOP.out hb5)
      have HLe := Lib.hid (l7Least_c gp cp w2.heap.size p w4 HOP4.out HT.out)
      clear hb5
      go_wp2_with fail
      refine HLe.out.mono ?_
      rintro e w5 ⟨rfl, hb6⟩
      have HB5 := Lib.hid (Below.chain HB4.out hb6)
      have HP5 := Lib.hid (own_keep HOP4.out hb6)
      clear hb6
      rcases hl : leastL p with _ | _
      · have ST := Lib.hid (STAY.out hl)
        go_wp2
        go_roundw
        case rel =>
         obtain ⟨q1, q2, q3, q4⟩ := ST.out _ HB5.out
         exact ⟨n + 1, g, cap, vs, by omega, by go_num, by rw [q1], by rw [q1]; exact q2, by rw [q1]; exact q3, q4⟩
        case measure => simp [intOf]; omega
      · have HNx := Lib.hid (show ltN (n + 1) = insB L p by rw [HSt.out, hl]; rfl)
        have HO5 := Lib.hid (own_keep HO.out HB5.out)
        have HIN5 := Lib.hid (HIN.out.keep HB5.out)
        have HBw5 := Lib.hid (Below.chain HB.out HB5.out)
        have hvlt : Hid (∀ a ∈ vs, ∀ q, a.ownBlock = some q → q < w2.heap.size) := fun a ha q hq => by
         obtain ⟨k, hk, rfl⟩ := List.getElem_of_mem ha
         have := HIN.out.lt k vs[k] (List.getElem?_eq_getElem hk) q hq
         omega
        have hone : Hid (∀ u ∈ vs, u.oneCell' = true) := fun u hu => by obtain ⟨a, n, c, rfl⟩ := HIN.out.slices u hu; rfl
        have hRd := OwnSS.rd ⟨vs, HO5.out, HIN5.out⟩
        obtain ⟨a0, c0, e0, _, HC⟩ := hRd.parts
        injection e0 with e1 _ e3
        subst e1 e3
        have hcle : L.length ≤ cap := by
         rcases HO5.out.2 with ⟨h, _⟩ | ⟨g', c', cur, h, _, _, h1, _⟩
         · cases h
         · injection h with _ _ h3; omega
        have hsz5 : w.heap.size ≤ w5.heap.size := HBw5.out.size
        clear hRd
        go_wp2
        go_loopw [4] (fun k wq => ∃ j : Nat, j ≤ L.length ∧ k = .int .i64 (j : Int) ∧ Hid (∀ i x, i < j → L[i]? = some x → befL x p = true) ∧ Below w5.heap.size w5 wq) (fun k _ => L.length - (intOf k).toNat)
        case atStart => exact ⟨0, by omega, rfl, fun j x h => by omega, Below.refl _ _⟩
        case round =>
         obtain ⟨k, hk, rfl, hbef, hbq⟩ := hrel
         by_cases hlt2 : k < L.length
         · have hd2 : decide ((k : Int) < (L.length : Int)) = true := by simp; omega
           obtain ⟨x, hx⟩ := elem_at hlt2
           obtain ⟨b0, o0, a', c', e0, g0, i0⟩ := HC.out k x hx.out
           injection e0 with e0
           injection e0 with e1 e2
           subst e1 e2
           rw [Nat.zero_add] at g0
           have g1 := cell_later hbq g0
           have HBf := Lib.hid (l7Before_c _ _ x p wr (i0.below hbq) (Ints.of_own (own_keep HP5.out hbq)))
           clear g0 i0
           rcases hbf : befL x p with _ | _
           · have HS2 := Lib.hid (show ltN (n + 1) = L.take k ++ p :: L.drop k from by rw [HNx.out]; exact insB_at L p k (by omega) hbef.out (fun y hy => by rw [hx.out] at hy; injection hy with hy; rw [← hy]; exact hbf))
             go_wp2_with fail
             refine HBf.out.mono ?_
             rintro e w6 ⟨rfl, hb6⟩
             rw [hbf]
             have HB6 := Lib.hid (Below.chain hbq hb6)
             clear hbq hb6 g1 hbef
             have hck : (cap = k) = False := by simp; omega
             go_wp2
             have n0 : (0 : Int) ≤ ((k : Nat) : Int) := by omega
             have n1 : ((k : Nat) : Int) ≤ (L.length : Int) := by omega
             have n2 : (L.length : Int) ≤ (cap : Int) := by omega
             have n3 : ((k : Nat) : Int) ≤ (cap : Int) := by omega
             have HO6 := Lib.hid (own_keep HO5.out HB6.out)
             refine wp_region_held_drew (S := fun _ : World => True) (by kernel_rfl) trivial (fun hHeld => ?_)
             have B_wd : Below w6.heap.size w6 w6.drew := (Below.refl _ _).drew
             generalize w6.drew = wd at *
             refine' tkY 1 hHeld ?r_1
             try simp only [Act.put, xqA, xqB, xqC]
             refine' tkY 2 hHeld ?r_2
             try simp only [Act.put, xqA, xqB, xqC]
             refine' tkY 3 hHeld ?r_3
             try simp only [Act.put, xqA, xqB, xqC]
             refine' tkY 5 hHeld ?r_4
             try simp only [Act.put, xqA, xqB, xqC]
             refine' tkY 8 hHeld ?r_5
             try simp only [Act.put, xqA, xqB, xqC]
             refine' tkY 9 hHeld ?r_6
             try simp only [Act.put, xqA, xqB, xqC]
             refine' tkY 10 hHeld ?r_7
             try simp only [Act.put, xqA, xqB, xqC]
             refine wpAnyH_ready (rs := [0, 6]) (by kernel_rfl) (by simp) ?_
             refine' AllReadyH.cons (o := _) ?e_8 ?st_8 ?more_8
             case e_8 => (simp only [xeA, xeB, xeC]; exact rfl)
             case st_8 =>
              intro K hK
              go_simp
              have B_wa9 := Below.alc B_wd (.cells #[] 37)
              have zz_wa9 : wd.heap.size < (wd.alloc (.cells #[] 37)).heap.size := by simp
              have O_wa9 := own_lo (lo' := w6.heap.size) (World.ownsRow_lit (e := 37) (size := 1) (base := wd.heap.size) wd #[] 0 (Nat.le_refl _) (by decide) rfl) B_wd.size
              generalize wd.heap.size = go at *
              generalize World.alloc _ _ = wa9 at *
              clear B_wd
              refine hK.out _ _ trivial (fun hHeld => ?_)
              clear hK K
              try simp only [Act.put, xqA, xqB, xqC]
              refine wpAnyH_ready (rs := [4, 6]) (by kernel_rfl) (by simp) ?_
              refine' AllReadyH.cons (o := _) ?e_10 ?st_10 ?more_10
              case e_10 => (simp only [xeA, xeB, xeC]; exact rfl)
              case st_10 =>
               intro K hK
               refine step_append_at (by rfl) _ _ _ (by rfl) w6.heap.size 37 inf (.slice none 0 0) 1 24 Tryz.underlying96 hi hz0 hz1 hz2 rfl (by decide) (.slice (some ⟨go, 0, none⟩) 0 0) 0 [] (by rfl) O_wa9 ⟨g, 0, none⟩ k cap (vs.take k) (by rfl) (by have := HO6.out.1; rw [List.length_take]; omega) (own_takeV (own_keep HO6.out B_wa9) k) (fun u hu => hone.out u (List.mem_of_mem_take hu)) (by unfold maxLen; omega) (by omega) B_wa9.size ?_
               intro v1 wa11 O_wa11 hg_wa11 hat_wa11
               have B_wa11 := Below.grown B_wa9 hg_wa11 B_wa9.size (fun q hq => (O_wa9.lt q hq).1)
               clear B_wa9 O_wa9 hg_wa11 hat_wa11
               refine hK.out _ _ trivial (fun hHeld => ?_)
               clear hK K
               try simp only [Act.put, xqA, xqB, xqC]
               refine wpAnyH_ready (rs := [6]) (by kernel_rfl) (by simp) ?_
               refine' AllReadyH.cons (o := _) ?e_12 ?st_12 AllReadyH.nil
               case e_12 => (simp only [xeA, xeB, xeC]; exact rfl)
               case st_12 =>
                intro K hK
                go_simp
                have B_wa13 := Below.alc B_wa11 (.cells #[(.slice (some ⟨gp, 0, none⟩) p.length cp)] 37)
                have zz_wa13 : wa11.heap.size < (wa11.alloc (.cells #[(.slice (some ⟨gp, 0, none⟩) p.length cp)] 37)).heap.size := by simp
                have N_wa13 : (wa11.alloc (.cells #[(.slice (some ⟨gp, 0, none⟩) p.length cp)] 37)).cell? ⟨wa11.heap.size, 0, none⟩ = some (.slice (some ⟨gp, 0, none⟩) p.length cp) := by rw [World.cell?_alloc_at _ _ _ _ rfl]; rfl
                have O_wa13 := O_wa11.alloc (.cells #[(.slice (some ⟨gp, 0, none⟩) p.length cp)] 37)
                have hne2 : v1.ownBlock ≠ some wa11.heap.size := by intro h; have := (O_wa11.lt _ h).2; omega
                generalize wa11.heap.size = gn at *
                generalize World.alloc _ _ = wa13 at *
                clear B_wa11 O_wa11
                refine hK.out _ _ trivial (fun hHeld => ?_)
                clear hK K
                try simp only [Act.put, xqA, xqB, xqC]
                refine wpAnyH_ready (rs := [7]) (by kernel_rfl) (by simp) ?_
                refine' AllReadyH.cons (o := _) ?e_14 ?st_14 AllReadyH.nil
                case e_14 => (simp only [xeA, xeB, xeC]; exact rfl)
                case st_14 =>
                 intro K hK
                 refine step_append_at (by rfl) _ _ _ (by rfl) w6.heap.size 37 inf (.slice none 0 0) 1 24 Tryz.underlying96 hi hz0 hz1 hz2 rfl (by decide) v1 (0 + k) ([] ++ vs.take k) (by rfl) O_wa13 ⟨gn, 0, none⟩ 1 1 [(.slice (some ⟨gp, 0, none⟩) p.length cp)] (by rfl) (by simp) (fun j u hj => by (cases j with | zero => (simp at hj; subst hj; rw [Addr.add_lit]; exact N_wa13) | succ j => simp at hj)) (by simp [Value.oneCell']) (by unfold maxLen; omega) (by omega) B_wa13.size ?_
                 intro v2 wa15 O_wa15 hg_wa15 hat_wa15
                 have B_wa15 := Below.grown B_wa13 hg_wa15 B_wa13.size (fun q hq => (O_wa13.lt q hq).1)
                 clear B_wa13 O_wa13 hg_wa15 hat_wa15 N_wa13
                 refine hK.out _ _ trivial (fun hHeld => ?_)
                 clear hK K
                 try simp only [Act.put, xqA, xqB, xqC]
                 refine wpAnyH_ready (rs := [11]) (by kernel_rfl) (by simp) ?_
                 refine' AllReadyH.cons (o := _) ?e_16 ?st_16 AllReadyH.nil
                 case e_16 => (simp only [xeA, xeB, xeC]; exact rfl)
                 case st_16 =>
                  intro K hK
                  refine step_append_at (by rfl) _ _ _ (by rfl) w6.heap.size 37 inf (.slice none 0 0) 1 24 Tryz.underlying96 hi hz0 hz1 hz2 rfl (by decide) v2 (0 + k + 1) ([] ++ vs.take k ++ [(.slice (some ⟨gp, 0, none⟩) p.length cp)]) (by rfl) O_wa15 ⟨g, k, none⟩ (L.length - k) _ (vs.drop k) (by rfl) (by have := HO6.out.1; rw [List.length_drop]; omega) (own_dropV (own_keep HO6.out B_wa15) k) (fun u hu => hone.out u (List.mem_of_mem_drop hu)) (by unfold maxLen; omega) (by omega) B_wa15.size ?_
                  intro v3 wa17 O_wa17 hg_wa17 hat_wa17
                  have B_wa17 := Below.grown B_wa15 hg_wa17 B_wa15.size (fun q hq => (O_wa15.lt q hq).1)
                  clear B_wa15 O_wa15 hg_wa17 hat_wa17
                  refine hK.out _ _ trivial (fun hHeld => ?_)
                  clear hK K
                  try simp only [Act.put, xqA, xqB, xqC]
                  refine' tkY 12 hHeld ?r_18
                  try simp only [Act.put, xqA, xqB, xqC]
                  refine wpAnyH_done (by kernel_rfl) ?_ _
                  obtain ⟨g3, c3, rfl, _, _, _, _⟩ := own_form O_wa17 (by omega)
                  have hpl2 : (ltN (n + 1)).length = 0 + k + 1 + (L.length - k) := by rw [HS2.out]; first | (simp; done) | (simp; omega)
                  have OO := Lib.hid (show wa17.ownsRow w.heap.size 37 1 (.slice (some ⟨g3, 0, none⟩) (ltN (n + 1)).length c3) (ltN (n + 1)).length (vs.take k ++ (.slice (some ⟨gp, 0, none⟩) p.length cp) :: vs.drop k) by rw [hpl2]; exact own_lo (ownsRow_cast O_wa17 (by omega) (by first | (simp; done) | (have h9 := HO6.out.1; rw [List.drop_eq_nil_of_le (by omega)]; simp))) (Nat.le_trans hsz5 HB6.out.size))
                  have II := Lib.hid (show Inn wa17 w.heap.size (vs.take k ++ (.slice (some ⟨gp, 0, none⟩) p.length cp) :: vs.drop k) (ltN (n + 1)) by rw [HS2.out]; exact Inn.insert (own_keep (own_keep HP5.out HB6.out) B_wa17) (by omega) k ((HIN5.out.keep HB6.out).keep B_wa17) hvlt.out)
                  have BB := Lib.hid (Below.chain HBw5.out (Below.chain HB6.out B_wa17))
                  have HPL := Lib.hid hpl2
                  clear O_wa17 hpl2 B_wa17
                  go_wp2
                  go_roundw
                  case rel => exact ⟨n + 1, g3, c3, _, by omega, by go_num, by rw [HPL.out], OO.out, II.out, BB.out⟩
                  case measure => simp [intOf]; omega
              case more_10 =>
               refine' AllReadyH.cons (o := _) ?e_19 ?st_19 AllReadyH.nil
               case e_19 => (simp only [xeA, xeB, xeC]; exact rfl)
               case st_19 =>
                intro K hK
                go_simp
                have B_wa20 := Below.alc B_wa9 (.cells #[(.slice (some ⟨gp, 0, none⟩) p.length cp)] 37)
                have zz_wa20 : wa9.heap.size < (wa9.alloc (.cells #[(.slice (some ⟨gp, 0, none⟩) p.length cp)] 37)).heap.size := by simp
                have N_wa20 : (wa9.alloc (.cells #[(.slice (some ⟨gp, 0, none⟩) p.length cp)] 37)).cell? ⟨wa9.heap.size, 0, none⟩ = some (.slice (some ⟨gp, 0, none⟩) p.length cp) := by rw [World.cell?_alloc_at _ _ _ _ rfl]; rfl
                have O_wa20 := O_wa9.alloc (.cells #[(.slice (some ⟨gp, 0, none⟩) p.length cp)] 37)
                have hne : wa9.heap.size ≠ go := by have := (O_wa9.lt go rfl).2; omega
                generalize wa9.heap.size = gn at *
                generalize World.alloc _ _ = wa20 at *
                clear B_wa9 O_wa9
                refine hK.out _ _ trivial (fun hHeld => ?_)
                clear hK K
                try simp only [Act.put, xqA, xqB, xqC]
                refine wpAnyH_ready (rs := [4]) (by kernel_rfl) (by simp) ?_
                refine' AllReadyH.cons (o := _) ?e_21 ?st_21 AllReadyH.nil
                case e_21 => (simp only [xeA, xeB, xeC]; exact rfl)
                case st_21 =>
                 intro K hK
                 refine step_append_at (by rfl) _ _ _ (by rfl) w6.heap.size 37 inf (.slice none 0 0) 1 24 Tryz.underlying96 hi hz0 hz1 hz2 rfl (by decide) (.slice (some ⟨go, 0, none⟩) 0 0) 0 [] (by rfl) O_wa20 ⟨g, 0, none⟩ k cap (vs.take k) (by rfl) (by have := HO6.out.1; rw [List.length_take]; omega) (own_takeV (own_keep HO6.out B_wa20) k) (fun u hu => hone.out u (List.mem_of_mem_take hu)) (by unfold maxLen; omega) (by omega) B_wa20.size ?_
                 intro v1 wa22 O_wa22 hg_wa22 hat_wa22
                 have B_wa22 := Below.grown B_wa20 hg_wa22 B_wa20.size (fun q hq => (O_wa20.lt q hq).1)
                 have N_wa22 := hg_wa22.cell N_wa20 (fun h => by injection h with h; exact hne h)
                 have hne2 : v1.ownBlock ≠ some gn := by intro h; rcases hat_wa22 with h2 | h2 <;> rw [h2] at h <;> injection h with h; (first | exact hne h.symm | (have := World.block_lt_of_cell? _ _ N_wa20; simp at this; omega)); (first | exact hne h.symm | (have := World.block_lt_of_cell? _ _ N_wa20; simp at this; omega))
                 clear B_wa20 O_wa20 hg_wa22 hat_wa22 N_wa20
                 refine hK.out _ _ trivial (fun hHeld => ?_)
                 clear hK K
                 try simp only [Act.put, xqA, xqB, xqC]
                 refine wpAnyH_ready (rs := [7]) (by kernel_rfl) (by simp) ?_
                 refine' AllReadyH.cons (o := _) ?e_23 ?st_23 AllReadyH.nil
                 case e_23 => (simp only [xeA, xeB, xeC]; exact rfl)
                 case st_23 =>
                  intro K hK
                  refine step_append_at (by rfl) _ _ _ (by rfl) w6.heap.size 37 inf (.slice none 0 0) 1 24 Tryz.underlying96 hi hz0 hz1 hz2 rfl (by decide) v1 (0 + k) ([] ++ vs.take k) (by rfl) O_wa22 ⟨gn, 0, none⟩ 1 1 [(.slice (some ⟨gp, 0, none⟩) p.length cp)] (by rfl) (by simp) (fun j u hj => by (cases j with | zero => (simp at hj; subst hj; rw [Addr.add_lit]; exact N_wa22) | succ j => simp at hj)) (by simp [Value.oneCell']) (by unfold maxLen; omega) (by omega) B_wa22.size ?_
                  intro v2 wa24 O_wa24 hg_wa24 hat_wa24
                  have B_wa24 := Below.grown B_wa22 hg_wa24 B_wa22.size (fun q hq => (O_wa22.lt q hq).1)
                  clear B_wa22 O_wa22 hg_wa24 hat_wa24 N_wa22
                  refine hK.out _ _ trivial (fun hHeld => ?_)
                  clear hK K
                  try simp only [Act.put, xqA, xqB, xqC]
                  refine wpAnyH_ready (rs := [11]) (by kernel_rfl) (by simp) ?_
                  refine' AllReadyH.cons (o := _) ?e_25 ?st_25 AllReadyH.nil
                  case e_25 => (simp only [xeA, xeB, xeC]; exact rfl)
                  case st_25 =>
                   intro K hK
                   refine step_append_at (by rfl) _ _ _ (by rfl) w6.heap.size 37 inf (.slice none 0 0) 1 24 Tryz.underlying96 hi hz0 hz1 hz2 rfl (by decide) v2 (0 + k + 1) ([] ++ vs.take k ++ [(.slice (some ⟨gp, 0, none⟩) p.length cp)]) (by rfl) O_wa24 ⟨g, k, none⟩ (L.length - k) _ (vs.drop k) (by rfl) (by have := HO6.out.1; rw [List.length_drop]; omega) (own_dropV (own_keep HO6.out B_wa24) k) (fun u hu => hone.out u (List.mem_of_mem_drop hu)) (by unfold maxLen; omega) (by omega) B_wa24.size ?_
                   intro v3 wa26 O_wa26 hg_wa26 hat_wa26
                   have B_wa26 := Below.grown B_wa24 hg_wa26 B_wa24.size (fun q hq => (O_wa24.lt q hq).1)
                   clear B_wa24 O_wa24 hg_wa26 hat_wa26
                   refine hK.out _ _ trivial (fun hHeld => ?_)
                   clear hK K
                   try simp only [Act.put, xqA, xqB, xqC]
                   refine' tkY 12 hHeld ?r_27
                   try simp only [Act.put, xqA, xqB, xqC]
                   refine wpAnyH_done (by kernel_rfl) ?_ _
                   obtain ⟨g3, c3, rfl, _, _, _, _⟩ := own_form O_wa26 (by omega)
                   have hpl2 : (ltN (n + 1)).length = 0 + k + 1 + (L.length - k) := by rw [HS2.out]; first | (simp; done) | (simp; omega)
                   have OO := Lib.hid (show wa26.ownsRow w.heap.size 37 1 (.slice (some ⟨g3, 0, none⟩) (ltN (n + 1)).length c3) (ltN (n + 1)).length (vs.take k ++ (.slice (some ⟨gp, 0, none⟩) p.length cp) :: vs.drop k) by rw [hpl2]; exact own_lo (ownsRow_cast O_wa26 (by omega) (by first | (simp; done) | (have h9 := HO6.out.1; rw [List.drop_eq_nil_of_le (by omega)]; simp))) (Nat.le_trans hsz5 HB6.out.size))
                   have II := Lib.hid (show Inn wa26 w.heap.size (vs.take k ++ (.slice (some ⟨gp, 0, none⟩) p.length cp) :: vs.drop k) (ltN (n + 1)) by rw [HS2.out]; exact Inn.insert (own_keep (own_keep HP5.out HB6.out) B_wa26) (by omega) k ((HIN5.out.keep HB6.out).keep B_wa26) hvlt.out)
                   have BB := Lib.hid (Below.chain HBw5.out (Below.chain HB6.out B_wa26))
                   have HPL := Lib.hid hpl2
                   clear O_wa26 hpl2 B_wa26
                   go_wp2
                   go_roundw
                   case rel => exact ⟨n + 1, g3, c3, _, by omega, by go_num, by rw [HPL.out], OO.out, II.out, BB.out⟩
                   case measure => simp [intOf]; omega
             case more_8 =>
              refine' AllReadyH.cons (o := _) ?e_28 ?st_28 AllReadyH.nil
              case e_28 => (simp only [xeA, xeB, xeC]; exact rfl)
              case st_28 =>
               intro K hK
               go_simp
               have B_wa29 := Below.alc B_wd (.cells #[(.slice (some ⟨gp, 0, none⟩) p.length cp)] 37)
               have zz_wa29 : wd.heap.size < (wd.alloc (.cells #[(.slice (some ⟨gp, 0, none⟩) p.length cp)] 37)).heap.size := by simp
               have N_wa29 : (wd.alloc (.cells #[(.slice (some ⟨gp, 0, none⟩) p.length cp)] 37)).cell? ⟨wd.heap.size, 0, none⟩ = some (.slice (some ⟨gp, 0, none⟩) p.length cp) := by rw [World.cell?_alloc_at _ _ _ _ rfl]; rfl
               generalize wd.heap.size = gn at *
               generalize World.alloc _ _ = wa29 at *
               clear B_wd
               refine hK.out _ _ trivial (fun hHeld => ?_)
               clear hK K
               try simp only [Act.put, xqA, xqB, xqC]
               refine wpAnyH_ready (rs := [0]) (by kernel_rfl) (by simp) ?_
               refine' AllReadyH.cons (o := _) ?e_30 ?st_30 AllReadyH.nil
               case e_30 => (simp only [xeA, xeB, xeC]; exact rfl)
               case st_30 =>
                intro K hK
                go_simp
                have B_wa31 := Below.alc B_wa29 (.cells #[] 37)
                have zz_wa31 : wa29.heap.size < (wa29.alloc (.cells #[] 37)).heap.size := by simp
                have O_wa31 := own_lo (lo' := w6.heap.size) (World.ownsRow_lit (e := 37) (size := 1) (base := wa29.heap.size) wa29 #[] 0 (Nat.le_refl _) (by decide) rfl) B_wa29.size
                have N_wa31 := cell_later (below_one (w := wa29) (.cells #[] 37)) N_wa29
                have hne : gn ≠ wa29.heap.size := by have := World.block_lt_of_cell? _ _ N_wa29; simp at this; omega
                generalize wa29.heap.size = go at *
                generalize World.alloc _ _ = wa31 at *
                clear B_wa29 N_wa29
                refine hK.out _ _ trivial (fun hHeld => ?_)
                clear hK K
                try simp only [Act.put, xqA, xqB, xqC]
                refine wpAnyH_ready (rs := [4]) (by kernel_rfl) (by simp) ?_
                refine' AllReadyH.cons (o := _) ?e_32 ?st_32 AllReadyH.nil
                case e_32 => (simp only [xeA, xeB, xeC]; exact rfl)
                case st_32 =>
                 intro K hK
                 refine step_append_at (by rfl) _ _ _ (by rfl) w6.heap.size 37 inf (.slice none 0 0) 1 24 Tryz.underlying96 hi hz0 hz1 hz2 rfl (by decide) (.slice (some ⟨go, 0, none⟩) 0 0) 0 [] (by rfl) O_wa31 ⟨g, 0, none⟩ k cap (vs.take k) (by rfl) (by have := HO6.out.1; rw [List.length_take]; omega) (own_takeV (own_keep HO6.out B_wa31) k) (fun u hu => hone.out u (List.mem_of_mem_take hu)) (by unfold maxLen; omega) (by omega) B_wa31.size ?_
                 intro v1 wa33 O_wa33 hg_wa33 hat_wa33
                 have B_wa33 := Below.grown B_wa31 hg_wa33 B_wa31.size (fun q hq => (O_wa31.lt q hq).1)
                 have N_wa33 := hg_wa33.cell N_wa31 (fun h => by injection h with h; exact hne h)
                 have hne2 : v1.ownBlock ≠ some gn := by intro h; rcases hat_wa33 with h2 | h2 <;> rw [h2] at h <;> injection h with h; (first | exact hne h.symm | (have := World.block_lt_of_cell? _ _ N_wa31; simp at this; omega)); (first | exact hne h.symm | (have := World.block_lt_of_cell? _ _ N_wa31; simp at this; omega))
                 clear B_wa31 O_wa31 hg_wa33 hat_wa33 N_wa31
                 refine hK.out _ _ trivial (fun hHeld => ?_)
                 clear hK K
                 try simp only [Act.put, xqA, xqB, xqC]
                 refine wpAnyH_ready (rs := [7]) (by kernel_rfl) (by simp) ?_
                 refine' AllReadyH.cons (o := _) ?e_34 ?st_34 AllReadyH.nil
                 case e_34 => (simp only [xeA, xeB, xeC]; exact rfl)
                 case st_34 =>
                  intro K hK
                  refine step_append_at (by rfl) _ _ _ (by rfl) w6.heap.size 37 inf (.slice none 0 0) 1 24 Tryz.underlying96 hi hz0 hz1 hz2 rfl (by decide) v1 (0 + k) ([] ++ vs.take k) (by rfl) O_wa33 ⟨gn, 0, none⟩ 1 1 [(.slice (some ⟨gp, 0, none⟩) p.length cp)] (by rfl) (by simp) (fun j u hj => by (cases j with | zero => (simp at hj; subst hj; rw [Addr.add_lit]; exact N_wa33) | succ j => simp at hj)) (by simp [Value.oneCell']) (by unfold maxLen; omega) (by omega) B_wa33.size ?_
                  intro v2 wa35 O_wa35 hg_wa35 hat_wa35
                  have B_wa35 := Below.grown B_wa33 hg_wa35 B_wa33.size (fun q hq => (O_wa33.lt q hq).1)
                  clear B_wa33 O_wa33 hg_wa35 hat_wa35 N_wa33
                  refine hK.out _ _ trivial (fun hHeld => ?_)
                  clear hK K
                  try simp only [Act.put, xqA, xqB, xqC]
                  refine wpAnyH_ready (rs := [11]) (by kernel_rfl) (by simp) ?_
                  refine' AllReadyH.cons (o := _) ?e_36 ?st_36 AllReadyH.nil
                  case e_36 => (simp only [xeA, xeB, xeC]; exact rfl)
                  case st_36 =>
                   intro K hK
                   refine step_append_at (by rfl) _ _ _ (by rfl) w6.heap.size 37 inf (.slice none 0 0) 1 24 Tryz.underlying96 hi hz0 hz1 hz2 rfl (by decide) v2 (0 + k + 1) ([] ++ vs.take k ++ [(.slice (some ⟨gp, 0, none⟩) p.length cp)]) (by rfl) O_wa35 ⟨g, k, none⟩ (L.length - k) _ (vs.drop k) (by rfl) (by have := HO6.out.1; rw [List.length_drop]; omega) (own_dropV (own_keep HO6.out B_wa35) k) (fun u hu => hone.out u (List.mem_of_mem_drop hu)) (by unfold maxLen; omega) (by omega) B_wa35.size ?_
                   intro v3 wa37 O_wa37 hg_wa37 hat_wa37
                   have B_wa37 := Below.grown B_wa35 hg_wa37 B_wa35.size (fun q hq => (O_wa35.lt q hq).1)
                   clear B_wa35 O_wa35 hg_wa37 hat_wa37
                   refine hK.out _ _ trivial (fun hHeld => ?_)
                   clear hK K
                   try simp only [Act.put, xqA, xqB, xqC]
                   refine' tkY 12 hHeld ?r_38
                   try simp only [Act.put, xqA, xqB, xqC]
                   refine wpAnyH_done (by kernel_rfl) ?_ _
                   obtain ⟨g3, c3, rfl, _, _, _, _⟩ := own_form O_wa37 (by omega)
                   have hpl2 : (ltN (n + 1)).length = 0 + k + 1 + (L.length - k) := by rw [HS2.out]; first | (simp; done) | (simp; omega)
                   have OO := Lib.hid (show wa37.ownsRow w.heap.size 37 1 (.slice (some ⟨g3, 0, none⟩) (ltN (n + 1)).length c3) (ltN (n + 1)).length (vs.take k ++ (.slice (some ⟨gp, 0, none⟩) p.length cp) :: vs.drop k) by rw [hpl2]; exact own_lo (ownsRow_cast O_wa37 (by omega) (by first | (simp; done) | (have h9 := HO6.out.1; rw [List.drop_eq_nil_of_le (by omega)]; simp))) (Nat.le_trans hsz5 HB6.out.size))
                   have II := Lib.hid (show Inn wa37 w.heap.size (vs.take k ++ (.slice (some ⟨gp, 0, none⟩) p.length cp) :: vs.drop k) (ltN (n + 1)) by rw [HS2.out]; exact Inn.insert (own_keep (own_keep HP5.out HB6.out) B_wa37) (by omega) k ((HIN5.out.keep HB6.out).keep B_wa37) hvlt.out)
                   have BB := Lib.hid (Below.chain HBw5.out (Below.chain HB6.out B_wa37))
                   have HPL := Lib.hid hpl2
                   clear O_wa37 hpl2 B_wa37
                   go_wp2
                   go_roundw
                   case rel => exact ⟨n + 1, g3, c3, _, by omega, by go_num, by rw [HPL.out], OO.out, II.out, BB.out⟩
                   case measure => simp [intOf]; omega
           · have hN : Hid (∀ i y, i < k + 1 → L[i]? = some y → befL y p = true) := fun i y hi hy => by
              by_cases h2 : i < k
              · exact hbef.out i y h2 hy
              · obtain rfl : i = k := by omega
                rw [hx.out] at hy
                injection hy with hy
                rw [← hy]; exact hbf
             go_wp2_with fail
             refine HBf.out.mono ?_
             rintro e w6 ⟨rfl, hb6⟩
             rw [hbf]
             have HB6 := Lib.hid (Below.chain hbq hb6)
             clear hbq hb6 g1 hbef
             go_wp2
             go_roundw
             case rel => exact ⟨k + 1, by omega, by go_num, hN, HB6.out⟩
             case measure => simp [intOf]; omega
         · obtain rfl : k = L.length := by omega
           have HS2 := Lib.hid (show ltN (n + 1) = L.take L.length ++ p :: L.drop L.length from by rw [HNx.out]; exact insB_at L p L.length (by omega) hbef.out (fun y hy => by rw [List.getElem?_eq_none (Nat.le_refl _)] at hy; cases hy))
           have HB6 := Lib.hid hbq
           clear hbq hbef
           by_cases hce : cap = L.length
           · have hck : (cap = L.length) = True := by simp [hce]
             have HCE := Lib.hid hce
             clear hce
             go_wp2
             have n0 : (0 : Int) ≤ ((L.length : Nat) : Int) := by omega
             have n1 : ((L.length : Nat) : Int) ≤ (L.length : Int) := by omega
             have n2 : (L.length : Int) ≤ (cap : Int) := by omega
             have n3 : ((L.length : Nat) : Int) ≤ (cap : Int) := by omega
             have HO6 := Lib.hid (own_keep HO5.out HB6.out)
             refine wp_region_held_drew (S := fun _ : World => True) (by kernel_rfl) trivial (fun hHeld => ?_)
             have B_wd : Below wr.heap.size wr wr.drew := (Below.refl _ _).drew
             generalize wr.drew = wd at *
             refine' tkY 1 hHeld ?r_39
             try simp only [Act.put, xqA, xqB, xqC]
             refine' tkY 2 hHeld ?r_40
             try simp only [Act.put, xqA, xqB, xqC]
             refine' tkY 3 hHeld ?r_41
             try simp only [Act.put, xqA, xqB, xqC]
             refine' tkY 5 hHeld ?r_42
             try simp only [Act.put, xqA, xqB, xqC]
             refine' tkY 8 hHeld ?r_43
             try simp only [Act.put, xqA, xqB, xqC]
             refine' tkY 9 hHeld ?r_44
             try simp only [Act.put, xqA, xqB, xqC]
             refine' tkY 10 hHeld ?r_45
             try simp only [Act.put, xqA, xqB, xqC]
             refine wpAnyH_ready (rs := [0, 6]) (by kernel_rfl) (by simp) ?_
             refine' AllReadyH.cons (o := _) ?e_46 ?st_46 ?more_46
             case e_46 => (simp only [xeA, xeB, xeC]; exact rfl)
             case st_46 =>
              intro K hK
              go_simp
              have B_wa47 := Below.alc B_wd (.cells #[] 37)
              have zz_wa47 : wd.heap.size < (wd.alloc (.cells #[] 37)).heap.size := by simp
              have O_wa47 := own_lo (lo' := wr.heap.size) (World.ownsRow_lit (e := 37) (size := 1) (base := wd.heap.size) wd #[] 0 (Nat.le_refl _) (by decide) rfl) B_wd.size
              generalize wd.heap.size = go at *
              generalize World.alloc _ _ = wa47 at *
              clear B_wd
              refine hK.out _ _ trivial (fun hHeld => ?_)
              clear hK K
              try simp only [Act.put, xqA, xqB, xqC]
              refine wpAnyH_ready (rs := [4, 6]) (by kernel_rfl) (by simp) ?_
              refine' AllReadyH.cons (o := _) ?e_48 ?st_48 ?more_48
              case e_48 => (simp only [xeA, xeB, xeC]; exact rfl)
              case st_48 =>
               intro K hK
               refine step_append_at (by rfl) _ _ _ (by rfl) wr.heap.size 37 inf (.slice none 0 0) 1 24 Tryz.underlying96 hi hz0 hz1 hz2 rfl (by decide) (.slice (some ⟨go, 0, none⟩) 0 0) 0 [] (by rfl) O_wa47 ⟨g, 0, none⟩ L.length cap (vs.take L.length) (by rfl) (by have := HO6.out.1; rw [List.length_take]; omega) (own_takeV (own_keep HO6.out B_wa47) L.length) (fun u hu => hone.out u (List.mem_of_mem_take hu)) (by unfold maxLen; omega) (by omega) B_wa47.size ?_
               intro v1 wa49 O_wa49 hg_wa49 hat_wa49
               have B_wa49 := Below.grown B_wa47 hg_wa49 B_wa47.size (fun q hq => (O_wa47.lt q hq).1)
               clear B_wa47 O_wa47 hg_wa49 hat_wa49
               refine hK.out _ _ trivial (fun hHeld => ?_)
               clear hK K
               try simp only [Act.put, xqA, xqB, xqC]
               refine wpAnyH_ready (rs := [6]) (by kernel_rfl) (by simp) ?_
               refine' AllReadyH.cons (o := _) ?e_50 ?st_50 AllReadyH.nil
               case e_50 => (simp only [xeA, xeB, xeC]; exact rfl)
               case st_50 =>
                intro K hK
                go_simp
                have B_wa51 := Below.alc B_wa49 (.cells #[(.slice (some ⟨gp, 0, none⟩) p.length cp)] 37)
                have zz_wa51 : wa49.heap.size < (wa49.alloc (.cells #[(.slice (some ⟨gp, 0, none⟩) p.length cp)] 37)).heap.size := by simp
                have N_wa51 : (wa49.alloc (.cells #[(.slice (some ⟨gp, 0, none⟩) p.length cp)] 37)).cell? ⟨wa49.heap.size, 0, none⟩ = some (.slice (some ⟨gp, 0, none⟩) p.length cp) := by rw [World.cell?_alloc_at _ _ _ _ rfl]; rfl
                have O_wa51 := O_wa49.alloc (.cells #[(.slice (some ⟨gp, 0, none⟩) p.length cp)] 37)
                have hne2 : v1.ownBlock ≠ some wa49.heap.size := by intro h; have := (O_wa49.lt _ h).2; omega
                generalize wa49.heap.size = gn at *
                generalize World.alloc _ _ = wa51 at *
                clear B_wa49 O_wa49
                refine hK.out _ _ trivial (fun hHeld => ?_)
                clear hK K
                try simp only [Act.put, xqA, xqB, xqC]
                refine wpAnyH_ready (rs := [7]) (by kernel_rfl) (by simp) ?_
                refine' AllReadyH.cons (o := _) ?e_52 ?st_52 AllReadyH.nil
                case e_52 => (simp only [xeA, xeB, xeC]; exact rfl)
                case st_52 =>
                 intro K hK
                 refine step_append_at (by rfl) _ _ _ (by rfl) wr.heap.size 37 inf (.slice none 0 0) 1 24 Tryz.underlying96 hi hz0 hz1 hz2 rfl (by decide) v1 (0 + L.length) ([] ++ vs.take L.length) (by rfl) O_wa51 ⟨gn, 0, none⟩ 1 1 [(.slice (some ⟨gp, 0, none⟩) p.length cp)] (by rfl) (by simp) (fun j u hj => by (cases j with | zero => (simp at hj; subst hj; rw [Addr.add_lit]; exact N_wa51) | succ j => simp at hj)) (by simp [Value.oneCell']) (by unfold maxLen; omega) (by omega) B_wa51.size ?_
                 intro v2 wa53 O_wa53 hg_wa53 hat_wa53
                 have B_wa53 := Below.grown B_wa51 hg_wa53 B_wa51.size (fun q hq => (O_wa51.lt q hq).1)
                 clear B_wa51 O_wa51 hg_wa53 hat_wa53 N_wa51
                 refine hK.out _ _ trivial (fun hHeld => ?_)
                 clear hK K
                 try simp only [Act.put, xqA, xqB, xqC]
                 refine wpAnyH_ready (rs := [11]) (by kernel_rfl) (by simp) ?_
                 refine' AllReadyH.cons (o := _) ?e_54 ?st_54 AllReadyH.nil
                 case e_54 => (simp only [xeA, xeB, xeC]; exact rfl)
                 case st_54 =>
                  intro K hK
                  refine step_append_at (by rfl) _ _ _ (by rfl) wr.heap.size 37 inf (.slice none 0 0) 1 24 Tryz.underlying96 hi hz0 hz1 hz2 rfl (by decide) v2 (0 + L.length + 1) ([] ++ vs.take L.length ++ [(.slice (some ⟨gp, 0, none⟩) p.length cp)]) (by rfl) O_wa53 _ _ _ [] (by rfl) (by simp) (fun j u hj => by simp at hj) (by simp) (by unfold maxLen; omega) (by omega) B_wa53.size ?_
                  intro v3 wa55 O_wa55 hg_wa55 hat_wa55
                  have B_wa55 := Below.grown B_wa53 hg_wa55 B_wa53.size (fun q hq => (O_wa53.lt q hq).1)
                  clear B_wa53 O_wa53 hg_wa55 hat_wa55
                  refine hK.out _ _ trivial (fun hHeld => ?_)
                  clear hK K
                  try simp only [Act.put, xqA, xqB, xqC]
                  refine' tkY 12 hHeld ?r_56
                  try simp only [Act.put, xqA, xqB, xqC]
                  refine wpAnyH_done (by kernel_rfl) ?_ _
                  obtain ⟨g3, c3, rfl, _, _, _, _⟩ := own_form O_wa55 (by omega)
                  have hpl2 : (ltN (n + 1)).length = 0 + L.length + 1 + 0 := by rw [HS2.out]; first | (simp; done) | (simp; omega)
                  have OO := Lib.hid (show wa55.ownsRow w.heap.size 37 1 (.slice (some ⟨g3, 0, none⟩) (ltN (n + 1)).length c3) (ltN (n + 1)).length (vs.take L.length ++ (.slice (some ⟨gp, 0, none⟩) p.length cp) :: vs.drop L.length) by rw [hpl2]; exact own_lo (ownsRow_cast O_wa55 (by omega) (by first | (simp; done) | (have h9 := HO6.out.1; rw [List.drop_eq_nil_of_le (by omega)]; simp))) (Nat.le_trans hsz5 HB6.out.size))
                  have II := Lib.hid (show Inn wa55 w.heap.size (vs.take L.length ++ (.slice (some ⟨gp, 0, none⟩) p.length cp) :: vs.drop L.length) (ltN (n + 1)) by rw [HS2.out]; exact Inn.insert (own_keep (own_keep HP5.out HB6.out) B_wa55) (by omega) L.length ((HIN5.out.keep HB6.out).keep B_wa55) hvlt.out)
                  have BB := Lib.hid (Below.chain HBw5.out (Below.chain HB6.out B_wa55))
                  have HPL := Lib.hid hpl2
                  clear O_wa55 hpl2 B_wa55
                  go_wp2
                  go_roundw
                  case rel => exact ⟨n + 1, g3, c3, _, by omega, by go_num, by rw [HPL.out], OO.out, II.out, BB.out⟩
                  case measure => simp [intOf]; omega
              case more_48 =>
               refine' AllReadyH.cons (o := _) ?e_57 ?st_57 AllReadyH.nil
               case e_57 => (simp only [xeA, xeB, xeC]; exact rfl)
               case st_57 =>
                intro K hK
                go_simp
                have B_wa58 := Below.alc B_wa47 (.cells #[(.slice (some ⟨gp, 0, none⟩) p.length cp)] 37)
                have zz_wa58 : wa47.heap.size < (wa47.alloc (.cells #[(.slice (some ⟨gp, 0, none⟩) p.length cp)] 37)).heap.size := by simp
                have N_wa58 : (wa47.alloc (.cells #[(.slice (some ⟨gp, 0, none⟩) p.length cp)] 37)).cell? ⟨wa47.heap.size, 0, none⟩ = some (.slice (some ⟨gp, 0, none⟩) p.length cp) := by rw [World.cell?_alloc_at _ _ _ _ rfl]; rfl
                have O_wa58 := O_wa47.alloc (.cells #[(.slice (some ⟨gp, 0, none⟩) p.length cp)] 37)
                have hne : wa47.heap.size ≠ go := by have := (O_wa47.lt go rfl).2; omega
                generalize wa47.heap.size = gn at *
                generalize World.alloc _ _ = wa58 at *
                clear B_wa47 O_wa47
                refine hK.out _ _ trivial (fun hHeld => ?_)
                clear hK K
                try simp only [Act.put, xqA, xqB, xqC]
                refine wpAnyH_ready (rs := [4]) (by kernel_rfl) (by simp) ?_
                refine' AllReadyH.cons (o := _) ?e_59 ?st_59 AllReadyH.nil
                case e_59 => (simp only [xeA, xeB, xeC]; exact rfl)
                case st_59 =>
                 intro K hK
                 refine step_append_at (by rfl) _ _ _ (by rfl) wr.heap.size 37 inf (.slice none 0 0) 1 24 Tryz.underlying96 hi hz0 hz1 hz2 rfl (by decide) (.slice (some ⟨go, 0, none⟩) 0 0) 0 [] (by rfl) O_wa58 ⟨g, 0, none⟩ L.length cap (vs.take L.length) (by rfl) (by have := HO6.out.1; rw [List.length_take]; omega) (own_takeV (own_keep HO6.out B_wa58) L.length) (fun u hu => hone.out u (List.mem_of_mem_take hu)) (by unfold maxLen; omega) (by omega) B_wa58.size ?_
                 intro v1 wa60 O_wa60 hg_wa60 hat_wa60
                 have B_wa60 := Below.grown B_wa58 hg_wa60 B_wa58.size (fun q hq => (O_wa58.lt q hq).1)
                 have N_wa60 := hg_wa60.cell N_wa58 (fun h => by injection h with h; exact hne h)
                 have hne2 : v1.ownBlock ≠ some gn := by intro h; rcases hat_wa60 with h2 | h2 <;> rw [h2] at h <;> injection h with h; (first | exact hne h.symm | (have := World.block_lt_of_cell? _ _ N_wa58; simp at this; omega)); (first | exact hne h.symm | (have := World.block_lt_of_cell? _ _ N_wa58; simp at this; omega))
                 clear B_wa58 O_wa58 hg_wa60 hat_wa60 N_wa58
                 refine hK.out _ _ trivial (fun hHeld => ?_)
                 clear hK K
                 try simp only [Act.put, xqA, xqB, xqC]
                 refine wpAnyH_ready (rs := [7]) (by kernel_rfl) (by simp) ?_
                 refine' AllReadyH.cons (o := _) ?e_61 ?st_61 AllReadyH.nil
                 case e_61 => (simp only [xeA, xeB, xeC]; exact rfl)
                 case st_61 =>
                  intro K hK
                  refine step_append_at (by rfl) _ _ _ (by rfl) wr.heap.size 37 inf (.slice none 0 0) 1 24 Tryz.underlying96 hi hz0 hz1 hz2 rfl (by decide) v1 (0 + L.length) ([] ++ vs.take L.length) (by rfl) O_wa60 ⟨gn, 0, none⟩ 1 1 [(.slice (some ⟨gp, 0, none⟩) p.length cp)] (by rfl) (by simp) (fun j u hj => by (cases j with | zero => (simp at hj; subst hj; rw [Addr.add_lit]; exact N_wa60) | succ j => simp at hj)) (by simp [Value.oneCell']) (by unfold maxLen; omega) (by omega) B_wa60.size ?_
                  intro v2 wa62 O_wa62 hg_wa62 hat_wa62
                  have B_wa62 := Below.grown B_wa60 hg_wa62 B_wa60.size (fun q hq => (O_wa60.lt q hq).1)
                  clear B_wa60 O_wa60 hg_wa62 hat_wa62 N_wa60
                  refine hK.out _ _ trivial (fun hHeld => ?_)
                  clear hK K
                  try simp only [Act.put, xqA, xqB, xqC]
                  refine wpAnyH_ready (rs := [11]) (by kernel_rfl) (by simp) ?_
                  refine' AllReadyH.cons (o := _) ?e_63 ?st_63 AllReadyH.nil
                  case e_63 => (simp only [xeA, xeB, xeC]; exact rfl)
                  case st_63 =>
                   intro K hK
                   refine step_append_at (by rfl) _ _ _ (by rfl) wr.heap.size 37 inf (.slice none 0 0) 1 24 Tryz.underlying96 hi hz0 hz1 hz2 rfl (by decide) v2 (0 + L.length + 1) ([] ++ vs.take L.length ++ [(.slice (some ⟨gp, 0, none⟩) p.length cp)]) (by rfl) O_wa62 _ _ _ [] (by rfl) (by simp) (fun j u hj => by simp at hj) (by simp) (by unfold maxLen; omega) (by omega) B_wa62.size ?_
                   intro v3 wa64 O_wa64 hg_wa64 hat_wa64
                   have B_wa64 := Below.grown B_wa62 hg_wa64 B_wa62.size (fun q hq => (O_wa62.lt q hq).1)
                   clear B_wa62 O_wa62 hg_wa64 hat_wa64
                   refine hK.out _ _ trivial (fun hHeld => ?_)
                   clear hK K
                   try simp only [Act.put, xqA, xqB, xqC]
                   refine' tkY 12 hHeld ?r_65
                   try simp only [Act.put, xqA, xqB, xqC]
                   refine wpAnyH_done (by kernel_rfl) ?_ _
                   obtain ⟨g3, c3, rfl, _, _, _, _⟩ := own_form O_wa64 (by omega)
                   have hpl2 : (ltN (n + 1)).length = 0 + L.length + 1 + 0 := by rw [HS2.out]; first | (simp; done) | (simp; omega)
                   have OO := Lib.hid (show wa64.ownsRow w.heap.size 37 1 (.slice (some ⟨g3, 0, none⟩) (ltN (n + 1)).length c3) (ltN (n + 1)).length (vs.take L.length ++ (.slice (some ⟨gp, 0, none⟩) p.length cp) :: vs.drop L.length) by rw [hpl2]; exact own_lo (ownsRow_cast O_wa64 (by omega) (by first | (simp; done) | (have h9 := HO6.out.1; rw [List.drop_eq_nil_of_le (by omega)]; simp))) (Nat.le_trans hsz5 HB6.out.size))
                   have II := Lib.hid (show Inn wa64 w.heap.size (vs.take L.length ++ (.slice (some ⟨gp, 0, none⟩) p.length cp) :: vs.drop L.length) (ltN (n + 1)) by rw [HS2.out]; exact Inn.insert (own_keep (own_keep HP5.out HB6.out) B_wa64) (by omega) L.length ((HIN5.out.keep HB6.out).keep B_wa64) hvlt.out)
                   have BB := Lib.hid (Below.chain HBw5.out (Below.chain HB6.out B_wa64))
                   have HPL := Lib.hid hpl2
                   clear O_wa64 hpl2 B_wa64
                   go_wp2
                   go_roundw
                   case rel => exact ⟨n + 1, g3, c3, _, by omega, by go_num, by rw [HPL.out], OO.out, II.out, BB.out⟩
                   case measure => simp [intOf]; omega
             case more_46 =>
              refine' AllReadyH.cons (o := _) ?e_66 ?st_66 AllReadyH.nil
              case e_66 => (simp only [xeA, xeB, xeC]; exact rfl)
              case st_66 =>
               intro K hK
               go_simp
               have B_wa67 := Below.alc B_wd (.cells #[(.slice (some ⟨gp, 0, none⟩) p.length cp)] 37)
               have zz_wa67 : wd.heap.size < (wd.alloc (.cells #[(.slice (some ⟨gp, 0, none⟩) p.length cp)] 37)).heap.size := by simp
               have N_wa67 : (wd.alloc (.cells #[(.slice (some ⟨gp, 0, none⟩) p.length cp)] 37)).cell? ⟨wd.heap.size, 0, none⟩ = some (.slice (some ⟨gp, 0, none⟩) p.length cp) := by rw [World.cell?_alloc_at _ _ _ _ rfl]; rfl
               generalize wd.heap.size = gn at *
               generalize World.alloc _ _ = wa67 at *
               clear B_wd
               refine hK.out _ _ trivial (fun hHeld => ?_)
               clear hK K
               try simp only [Act.put, xqA, xqB, xqC]
               refine wpAnyH_ready (rs := [0]) (by kernel_rfl) (by simp) ?_
               refine' AllReadyH.cons (o := _) ?e_68 ?st_68 AllReadyH.nil
               case e_68 => (simp only [xeA, xeB, xeC]; exact rfl)
               case st_68 =>
                intro K hK
                go_simp
                have B_wa69 := Below.alc B_wa67 (.cells #[] 37)
                have zz_wa69 : wa67.heap.size < (wa67.alloc (.cells #[] 37)).heap.size := by simp
                have O_wa69 := own_lo (lo' := wr.heap.size) (World.ownsRow_lit (e := 37) (size := 1) (base := wa67.heap.size) wa67 #[] 0 (Nat.le_refl _) (by decide) rfl) B_wa67.size
                have N_wa69 := cell_later (below_one (w := wa67) (.cells #[] 37)) N_wa67
                have hne : gn ≠ wa67.heap.size := by have := World.block_lt_of_cell? _ _ N_wa67; simp at this; omega
                generalize wa67.heap.size = go at *
                generalize World.alloc _ _ = wa69 at *
                clear B_wa67 N_wa67
                refine hK.out _ _ trivial (fun hHeld => ?_)
                clear hK K
                try simp only [Act.put, xqA, xqB, xqC]
                refine wpAnyH_ready (rs := [4]) (by kernel_rfl) (by simp) ?_
                refine' AllReadyH.cons (o := _) ?e_70 ?st_70 AllReadyH.nil
                case e_70 => (simp only [xeA, xeB, xeC]; exact rfl)
                case st_70 =>
                 intro K hK
                 refine step_append_at (by rfl) _ _ _ (by rfl) wr.heap.size 37 inf (.slice none 0 0) 1 24 Tryz.underlying96 hi hz0 hz1 hz2 rfl (by decide) (.slice (some ⟨go, 0, none⟩) 0 0) 0 [] (by rfl) O_wa69 ⟨g, 0, none⟩ L.length cap (vs.take L.length) (by rfl) (by have := HO6.out.1; rw [List.length_take]; omega) (own_takeV (own_keep HO6.out B_wa69) L.length) (fun u hu => hone.out u (List.mem_of_mem_take hu)) (by unfold maxLen; omega) (by omega) B_wa69.size ?_
                 intro v1 wa71 O_wa71 hg_wa71 hat_wa71
                 have B_wa71 := Below.grown B_wa69 hg_wa71 B_wa69.size (fun q hq => (O_wa69.lt q hq).1)
                 have N_wa71 := hg_wa71.cell N_wa69 (fun h => by injection h with h; exact hne h)
                 have hne2 : v1.ownBlock ≠ some gn := by intro h; rcases hat_wa71 with h2 | h2 <;> rw [h2] at h <;> injection h with h; (first | exact hne h.symm | (have := World.block_lt_of_cell? _ _ N_wa69; simp at this; omega)); (first | exact hne h.symm | (have := World.block_lt_of_cell? _ _ N_wa69; simp at this; omega))
                 clear B_wa69 O_wa69 hg_wa71 hat_wa71 N_wa69
                 refine hK.out _ _ trivial (fun hHeld => ?_)
                 clear hK K
                 try simp only [Act.put, xqA, xqB, xqC]
                 refine wpAnyH_ready (rs := [7]) (by kernel_rfl) (by simp) ?_
                 refine' AllReadyH.cons (o := _) ?e_72 ?st_72 AllReadyH.nil
                 case e_72 => (simp only [xeA, xeB, xeC]; exact rfl)
                 case st_72 =>
                  intro K hK
                  refine step_append_at (by rfl) _ _ _ (by rfl) wr.heap.size 37 inf (.slice none 0 0) 1 24 Tryz.underlying96 hi hz0 hz1 hz2 rfl (by decide) v1 (0 + L.length) ([] ++ vs.take L.length) (by rfl) O_wa71 ⟨gn, 0, none⟩ 1 1 [(.slice (some ⟨gp, 0, none⟩) p.length cp)] (by rfl) (by simp) (fun j u hj => by (cases j with | zero => (simp at hj; subst hj; rw [Addr.add_lit]; exact N_wa71) | succ j => simp at hj)) (by simp [Value.oneCell']) (by unfold maxLen; omega) (by omega) B_wa71.size ?_
                  intro v2 wa73 O_wa73 hg_wa73 hat_wa73
                  have B_wa73 := Below.grown B_wa71 hg_wa73 B_wa71.size (fun q hq => (O_wa71.lt q hq).1)
                  clear B_wa71 O_wa71 hg_wa73 hat_wa73 N_wa71
                  refine hK.out _ _ trivial (fun hHeld => ?_)
                  clear hK K
                  try simp only [Act.put, xqA, xqB, xqC]
                  refine wpAnyH_ready (rs := [11]) (by kernel_rfl) (by simp) ?_
                  refine' AllReadyH.cons (o := _) ?e_74 ?st_74 AllReadyH.nil
                  case e_74 => (simp only [xeA, xeB, xeC]; exact rfl)
                  case st_74 =>
                   intro K hK
                   refine step_append_at (by rfl) _ _ _ (by rfl) wr.heap.size 37 inf (.slice none 0 0) 1 24 Tryz.underlying96 hi hz0 hz1 hz2 rfl (by decide) v2 (0 + L.length + 1) ([] ++ vs.take L.length ++ [(.slice (some ⟨gp, 0, none⟩) p.length cp)]) (by rfl) O_wa73 _ _ _ [] (by rfl) (by simp) (fun j u hj => by simp at hj) (by simp) (by unfold maxLen; omega) (by omega) B_wa73.size ?_
                   intro v3 wa75 O_wa75 hg_wa75 hat_wa75
                   have B_wa75 := Below.grown B_wa73 hg_wa75 B_wa73.size (fun q hq => (O_wa73.lt q hq).1)
                   clear B_wa73 O_wa73 hg_wa75 hat_wa75
                   refine hK.out _ _ trivial (fun hHeld => ?_)
                   clear hK K
                   try simp only [Act.put, xqA, xqB, xqC]
                   refine' tkY 12 hHeld ?r_76
                   try simp only [Act.put, xqA, xqB, xqC]
                   refine wpAnyH_done (by kernel_rfl) ?_ _
                   obtain ⟨g3, c3, rfl, _, _, _, _⟩ := own_form O_wa75 (by omega)
                   have hpl2 : (ltN (n + 1)).length = 0 + L.length + 1 + 0 := by rw [HS2.out]; first | (simp; done) | (simp; omega)
                   have OO := Lib.hid (show wa75.ownsRow w.heap.size 37 1 (.slice (some ⟨g3, 0, none⟩) (ltN (n + 1)).length c3) (ltN (n + 1)).length (vs.take L.length ++ (.slice (some ⟨gp, 0, none⟩) p.length cp) :: vs.drop L.length) by rw [hpl2]; exact own_lo (ownsRow_cast O_wa75 (by omega) (by first | (simp; done) | (have h9 := HO6.out.1; rw [List.drop_eq_nil_of_le (by omega)]; simp))) (Nat.le_trans hsz5 HB6.out.size))
                   have II := Lib.hid (show Inn wa75 w.heap.size (vs.take L.length ++ (.slice (some ⟨gp, 0, none⟩) p.length cp) :: vs.drop L.length) (ltN (n + 1)) by rw [HS2.out]; exact Inn.insert (own_keep (own_keep HP5.out HB6.out) B_wa75) (by omega) L.length ((HIN5.out.keep HB6.out).keep B_wa75) hvlt.out)
                   have BB := Lib.hid (Below.chain HBw5.out (Below.chain HB6.out B_wa75))
                   have HPL := Lib.hid hpl2
                   clear O_wa75 hpl2 B_wa75
                   go_wp2
                   go_roundw
                   case rel => exact ⟨n + 1, g3, c3, _, by omega, by go_num, by rw [HPL.out], OO.out, II.out, BB.out⟩
                   case measure => simp [intOf]; omega
           · have hck : (cap = L.length) = False := by simp [hce]
             go_wp2
             have n0 : (0 : Int) ≤ ((L.length : Nat) : Int) := by omega
             have n1 : ((L.length : Nat) : Int) ≤ (L.length : Int) := by omega
             have n2 : (L.length : Int) ≤ (cap : Int) := by omega
             have n3 : ((L.length : Nat) : Int) ≤ (cap : Int) := by omega
             have HO6 := Lib.hid (own_keep HO5.out HB6.out)
             refine wp_region_held_drew (S := fun _ : World => True) (by kernel_rfl) trivial (fun hHeld => ?_)
             have B_wd : Below wr.heap.size wr wr.drew := (Below.refl _ _).drew
             generalize wr.drew = wd at *
             refine' tkY 1 hHeld ?r_77
             try simp only [Act.put, xqA, xqB, xqC]
             refine' tkY 2 hHeld ?r_78
             try simp only [Act.put, xqA, xqB, xqC]
             refine' tkY 3 hHeld ?r_79
             try simp only [Act.put, xqA, xqB, xqC]
             refine' tkY 5 hHeld ?r_80
             try simp only [Act.put, xqA, xqB, xqC]
             refine' tkY 8 hHeld ?r_81
             try simp only [Act.put, xqA, xqB, xqC]
             refine' tkY 9 hHeld ?r_82
             try simp only [Act.put, xqA, xqB, xqC]
             refine' tkY 10 hHeld ?r_83
             try simp only [Act.put, xqA, xqB, xqC]
             refine wpAnyH_ready (rs := [0, 6]) (by kernel_rfl) (by simp) ?_
             refine' AllReadyH.cons (o := _) ?e_84 ?st_84 ?more_84
             case e_84 => (simp only [xeA, xeB, xeC]; exact rfl)
             case st_84 =>
              intro K hK
              go_simp
              have B_wa85 := Below.alc B_wd (.cells #[] 37)
              have zz_wa85 : wd.heap.size < (wd.alloc (.cells #[] 37)).heap.size := by simp
              have O_wa85 := own_lo (lo' := wr.heap.size) (World.ownsRow_lit (e := 37) (size := 1) (base := wd.heap.size) wd #[] 0 (Nat.le_refl _) (by decide) rfl) B_wd.size
              generalize wd.heap.size = go at *
              generalize World.alloc _ _ = wa85 at *
              clear B_wd
              refine hK.out _ _ trivial (fun hHeld => ?_)
              clear hK K
              try simp only [Act.put, xqA, xqB, xqC]
              refine wpAnyH_ready (rs := [4, 6]) (by kernel_rfl) (by simp) ?_
              refine' AllReadyH.cons (o := _) ?e_86 ?st_86 ?more_86
              case e_86 => (simp only [xeA, xeB, xeC]; exact rfl)
              case st_86 =>
               intro K hK
               refine step_append_at (by rfl) _ _ _ (by rfl) wr.heap.size 37 inf (.slice none 0 0) 1 24 Tryz.underlying96 hi hz0 hz1 hz2 rfl (by decide) (.slice (some ⟨go, 0, none⟩) 0 0) 0 [] (by rfl) O_wa85 ⟨g, 0, none⟩ L.length cap (vs.take L.length) (by rfl) (by have := HO6.out.1; rw [List.length_take]; omega) (own_takeV (own_keep HO6.out B_wa85) L.length) (fun u hu => hone.out u (List.mem_of_mem_take hu)) (by unfold maxLen; omega) (by omega) B_wa85.size ?_
               intro v1 wa87 O_wa87 hg_wa87 hat_wa87
               have B_wa87 := Below.grown B_wa85 hg_wa87 B_wa85.size (fun q hq => (O_wa85.lt q hq).1)
               clear B_wa85 O_wa85 hg_wa87 hat_wa87
               refine hK.out _ _ trivial (fun hHeld => ?_)
               clear hK K
               try simp only [Act.put, xqA, xqB, xqC]
               refine wpAnyH_ready (rs := [6]) (by kernel_rfl) (by simp) ?_
               refine' AllReadyH.cons (o := _) ?e_88 ?st_88 AllReadyH.nil
               case e_88 => (simp only [xeA, xeB, xeC]; exact rfl)
               case st_88 =>
                intro K hK
                go_simp
                have B_wa89 := Below.alc B_wa87 (.cells #[(.slice (some ⟨gp, 0, none⟩) p.length cp)] 37)
                have zz_wa89 : wa87.heap.size < (wa87.alloc (.cells #[(.slice (some ⟨gp, 0, none⟩) p.length cp)] 37)).heap.size := by simp
                have N_wa89 : (wa87.alloc (.cells #[(.slice (some ⟨gp, 0, none⟩) p.length cp)] 37)).cell? ⟨wa87.heap.size, 0, none⟩ = some (.slice (some ⟨gp, 0, none⟩) p.length cp) := by rw [World.cell?_alloc_at _ _ _ _ rfl]; rfl
                have O_wa89 := O_wa87.alloc (.cells #[(.slice (some ⟨gp, 0, none⟩) p.length cp)] 37)
                have hne2 : v1.ownBlock ≠ some wa87.heap.size := by intro h; have := (O_wa87.lt _ h).2; omega
                generalize wa87.heap.size = gn at *
                generalize World.alloc _ _ = wa89 at *
                clear B_wa87 O_wa87
                refine hK.out _ _ trivial (fun hHeld => ?_)
                clear hK K
                try simp only [Act.put, xqA, xqB, xqC]
                refine wpAnyH_ready (rs := [7]) (by kernel_rfl) (by simp) ?_
                refine' AllReadyH.cons (o := _) ?e_90 ?st_90 AllReadyH.nil
                case e_90 => (simp only [xeA, xeB, xeC]; exact rfl)
                case st_90 =>
                 intro K hK
                 refine step_append_at (by rfl) _ _ _ (by rfl) wr.heap.size 37 inf (.slice none 0 0) 1 24 Tryz.underlying96 hi hz0 hz1 hz2 rfl (by decide) v1 (0 + L.length) ([] ++ vs.take L.length) (by rfl) O_wa89 ⟨gn, 0, none⟩ 1 1 [(.slice (some ⟨gp, 0, none⟩) p.length cp)] (by rfl) (by simp) (fun j u hj => by (cases j with | zero => (simp at hj; subst hj; rw [Addr.add_lit]; exact N_wa89) | succ j => simp at hj)) (by simp [Value.oneCell']) (by unfold maxLen; omega) (by omega) B_wa89.size ?_
                 intro v2 wa91 O_wa91 hg_wa91 hat_wa91
                 have B_wa91 := Below.grown B_wa89 hg_wa91 B_wa89.size (fun q hq => (O_wa89.lt q hq).1)
                 clear B_wa89 O_wa89 hg_wa91 hat_wa91 N_wa89
                 refine hK.out _ _ trivial (fun hHeld => ?_)
                 clear hK K
                 try simp only [Act.put, xqA, xqB, xqC]
                 refine wpAnyH_ready (rs := [11]) (by kernel_rfl) (by simp) ?_
                 refine' AllReadyH.cons (o := _) ?e_92 ?st_92 AllReadyH.nil
                 case e_92 => (simp only [xeA, xeB, xeC]; exact rfl)
                 case st_92 =>
                  intro K hK
                  refine step_append_at (by rfl) _ _ _ (by rfl) wr.heap.size 37 inf (.slice none 0 0) 1 24 Tryz.underlying96 hi hz0 hz1 hz2 rfl (by decide) v2 (0 + L.length + 1) ([] ++ vs.take L.length ++ [(.slice (some ⟨gp, 0, none⟩) p.length cp)]) (by rfl) O_wa91 _ _ _ [] (by rfl) (by simp) (fun j u hj => by simp at hj) (by simp) (by unfold maxLen; omega) (by omega) B_wa91.size ?_
                  intro v3 wa93 O_wa93 hg_wa93 hat_wa93
                  have B_wa93 := Below.grown B_wa91 hg_wa93 B_wa91.size (fun q hq => (O_wa91.lt q hq).1)
                  clear B_wa91 O_wa91 hg_wa93 hat_wa93
                  refine hK.out _ _ trivial (fun hHeld => ?_)
                  clear hK K
                  try simp only [Act.put, xqA, xqB, xqC]
                  refine' tkY 12 hHeld ?r_94
                  try simp only [Act.put, xqA, xqB, xqC]
                  refine wpAnyH_done (by kernel_rfl) ?_ _
                  obtain ⟨g3, c3, rfl, _, _, _, _⟩ := own_form O_wa93 (by omega)
                  have hpl2 : (ltN (n + 1)).length = 0 + L.length + 1 + 0 := by rw [HS2.out]; first | (simp; done) | (simp; omega)
                  have OO := Lib.hid (show wa93.ownsRow w.heap.size 37 1 (.slice (some ⟨g3, 0, none⟩) (ltN (n + 1)).length c3) (ltN (n + 1)).length (vs.take L.length ++ (.slice (some ⟨gp, 0, none⟩) p.length cp) :: vs.drop L.length) by rw [hpl2]; exact own_lo (ownsRow_cast O_wa93 (by omega) (by first | (simp; done) | (have h9 := HO6.out.1; rw [List.drop_eq_nil_of_le (by omega)]; simp))) (Nat.le_trans hsz5 HB6.out.size))
                  have II := Lib.hid (show Inn wa93 w.heap.size (vs.take L.length ++ (.slice (some ⟨gp, 0, none⟩) p.length cp) :: vs.drop L.length) (ltN (n + 1)) by rw [HS2.out]; exact Inn.insert (own_keep (own_keep HP5.out HB6.out) B_wa93) (by omega) L.length ((HIN5.out.keep HB6.out).keep B_wa93) hvlt.out)
                  have BB := Lib.hid (Below.chain HBw5.out (Below.chain HB6.out B_wa93))
                  have HPL := Lib.hid hpl2
                  clear O_wa93 hpl2 B_wa93
                  go_wp2
                  go_roundw
                  case rel => exact ⟨n + 1, g3, c3, _, by omega, by go_num, by rw [HPL.out], OO.out, II.out, BB.out⟩
                  case measure => simp [intOf]; omega
              case more_86 =>
               refine' AllReadyH.cons (o := _) ?e_95 ?st_95 AllReadyH.nil
               case e_95 => (simp only [xeA, xeB, xeC]; exact rfl)
               case st_95 =>
                intro K hK
                go_simp
                have B_wa96 := Below.alc B_wa85 (.cells #[(.slice (some ⟨gp, 0, none⟩) p.length cp)] 37)
                have zz_wa96 : wa85.heap.size < (wa85.alloc (.cells #[(.slice (some ⟨gp, 0, none⟩) p.length cp)] 37)).heap.size := by simp
                have N_wa96 : (wa85.alloc (.cells #[(.slice (some ⟨gp, 0, none⟩) p.length cp)] 37)).cell? ⟨wa85.heap.size, 0, none⟩ = some (.slice (some ⟨gp, 0, none⟩) p.length cp) := by rw [World.cell?_alloc_at _ _ _ _ rfl]; rfl
                have O_wa96 := O_wa85.alloc (.cells #[(.slice (some ⟨gp, 0, none⟩) p.length cp)] 37)
                have hne : wa85.heap.size ≠ go := by have := (O_wa85.lt go rfl).2; omega
                generalize wa85.heap.size = gn at *
                generalize World.alloc _ _ = wa96 at *
                clear B_wa85 O_wa85
                refine hK.out _ _ trivial (fun hHeld => ?_)
                clear hK K
                try simp only [Act.put, xqA, xqB, xqC]
                refine wpAnyH_ready (rs := [4]) (by kernel_rfl) (by simp) ?_
                refine' AllReadyH.cons (o := _) ?e_97 ?st_97 AllReadyH.nil
                case e_97 => (simp only [xeA, xeB, xeC]; exact rfl)
                case st_97 =>
                 intro K hK
                 refine step_append_at (by rfl) _ _ _ (by rfl) wr.heap.size 37 inf (.slice none 0 0) 1 24 Tryz.underlying96 hi hz0 hz1 hz2 rfl (by decide) (.slice (some ⟨go, 0, none⟩) 0 0) 0 [] (by rfl) O_wa96 ⟨g, 0, none⟩ L.length cap (vs.take L.length) (by rfl) (by have := HO6.out.1; rw [List.length_take]; omega) (own_takeV (own_keep HO6.out B_wa96) L.length) (fun u hu => hone.out u (List.mem_of_mem_take hu)) (by unfold maxLen; omega) (by omega) B_wa96.size ?_
                 intro v1 wa98 O_wa98 hg_wa98 hat_wa98
                 have B_wa98 := Below.grown B_wa96 hg_wa98 B_wa96.size (fun q hq => (O_wa96.lt q hq).1)
                 have N_wa98 := hg_wa98.cell N_wa96 (fun h => by injection h with h; exact hne h)
                 have hne2 : v1.ownBlock ≠ some gn := by intro h; rcases hat_wa98 with h2 | h2 <;> rw [h2] at h <;> injection h with h; (first | exact hne h.symm | (have := World.block_lt_of_cell? _ _ N_wa96; simp at this; omega)); (first | exact hne h.symm | (have := World.block_lt_of_cell? _ _ N_wa96; simp at this; omega))
                 clear B_wa96 O_wa96 hg_wa98 hat_wa98 N_wa96
                 refine hK.out _ _ trivial (fun hHeld => ?_)
                 clear hK K
                 try simp only [Act.put, xqA, xqB, xqC]
                 refine wpAnyH_ready (rs := [7]) (by kernel_rfl) (by simp) ?_
                 refine' AllReadyH.cons (o := _) ?e_99 ?st_99 AllReadyH.nil
                 case e_99 => (simp only [xeA, xeB, xeC]; exact rfl)
                 case st_99 =>
                  intro K hK
                  refine step_append_at (by rfl) _ _ _ (by rfl) wr.heap.size 37 inf (.slice none 0 0) 1 24 Tryz.underlying96 hi hz0 hz1 hz2 rfl (by decide) v1 (0 + L.length) ([] ++ vs.take L.length) (by rfl) O_wa98 ⟨gn, 0, none⟩ 1 1 [(.slice (some ⟨gp, 0, none⟩) p.length cp)] (by rfl) (by simp) (fun j u hj => by (cases j with | zero => (simp at hj; subst hj; rw [Addr.add_lit]; exact N_wa98) | succ j => simp at hj)) (by simp [Value.oneCell']) (by unfold maxLen; omega) (by omega) B_wa98.size ?_
                  intro v2 wa100 O_wa100 hg_wa100 hat_wa100
                  have B_wa100 := Below.grown B_wa98 hg_wa100 B_wa98.size (fun q hq => (O_wa98.lt q hq).1)
                  clear B_wa98 O_wa98 hg_wa100 hat_wa100 N_wa98
                  refine hK.out _ _ trivial (fun hHeld => ?_)
                  clear hK K
                  try simp only [Act.put, xqA, xqB, xqC]
                  refine wpAnyH_ready (rs := [11]) (by kernel_rfl) (by simp) ?_
                  refine' AllReadyH.cons (o := _) ?e_101 ?st_101 AllReadyH.nil
                  case e_101 => (simp only [xeA, xeB, xeC]; exact rfl)
                  case st_101 =>
                   intro K hK
                   refine step_append_at (by rfl) _ _ _ (by rfl) wr.heap.size 37 inf (.slice none 0 0) 1 24 Tryz.underlying96 hi hz0 hz1 hz2 rfl (by decide) v2 (0 + L.length + 1) ([] ++ vs.take L.length ++ [(.slice (some ⟨gp, 0, none⟩) p.length cp)]) (by rfl) O_wa100 _ _ _ [] (by rfl) (by simp) (fun j u hj => by simp at hj) (by simp) (by unfold maxLen; omega) (by omega) B_wa100.size ?_
                   intro v3 wa102 O_wa102 hg_wa102 hat_wa102
                   have B_wa102 := Below.grown B_wa100 hg_wa102 B_wa100.size (fun q hq => (O_wa100.lt q hq).1)
                   clear B_wa100 O_wa100 hg_wa102 hat_wa102
                   refine hK.out _ _ trivial (fun hHeld => ?_)
                   clear hK K
                   try simp only [Act.put, xqA, xqB, xqC]
                   refine' tkY 12 hHeld ?r_103
                   try simp only [Act.put, xqA, xqB, xqC]
                   refine wpAnyH_done (by kernel_rfl) ?_ _
                   obtain ⟨g3, c3, rfl, _, _, _, _⟩ := own_form O_wa102 (by omega)
                   have hpl2 : (ltN (n + 1)).length = 0 + L.length + 1 + 0 := by rw [HS2.out]; first | (simp; done) | (simp; omega)
                   have OO := Lib.hid (show wa102.ownsRow w.heap.size 37 1 (.slice (some ⟨g3, 0, none⟩) (ltN (n + 1)).length c3) (ltN (n + 1)).length (vs.take L.length ++ (.slice (some ⟨gp, 0, none⟩) p.length cp) :: vs.drop L.length) by rw [hpl2]; exact own_lo (ownsRow_cast O_wa102 (by omega) (by first | (simp; done) | (have h9 := HO6.out.1; rw [List.drop_eq_nil_of_le (by omega)]; simp))) (Nat.le_trans hsz5 HB6.out.size))
                   have II := Lib.hid (show Inn wa102 w.heap.size (vs.take L.length ++ (.slice (some ⟨gp, 0, none⟩) p.length cp) :: vs.drop L.length) (ltN (n + 1)) by rw [HS2.out]; exact Inn.insert (own_keep (own_keep HP5.out HB6.out) B_wa102) (by omega) L.length ((HIN5.out.keep HB6.out).keep B_wa102) hvlt.out)
                   have BB := Lib.hid (Below.chain HBw5.out (Below.chain HB6.out B_wa102))
                   have HPL := Lib.hid hpl2
                   clear O_wa102 hpl2 B_wa102
                   go_wp2
                   go_roundw
                   case rel => exact ⟨n + 1, g3, c3, _, by omega, by go_num, by rw [HPL.out], OO.out, II.out, BB.out⟩
                   case measure => simp [intOf]; omega
             case more_84 =>
              refine' AllReadyH.cons (o := _) ?e_104 ?st_104 AllReadyH.nil
              case e_104 => (simp only [xeA, xeB, xeC]; exact rfl)
              case st_104 =>
               intro K hK
               go_simp
               have B_wa105 := Below.alc B_wd (.cells #[(.slice (some ⟨gp, 0, none⟩) p.length cp)] 37)
               have zz_wa105 : wd.heap.size < (wd.alloc (.cells #[(.slice (some ⟨gp, 0, none⟩) p.length cp)] 37)).heap.size := by simp
               have N_wa105 : (wd.alloc (.cells #[(.slice (some ⟨gp, 0, none⟩) p.length cp)] 37)).cell? ⟨wd.heap.size, 0, none⟩ = some (.slice (some ⟨gp, 0, none⟩) p.length cp) := by rw [World.cell?_alloc_at _ _ _ _ rfl]; rfl
               generalize wd.heap.size = gn at *
               generalize World.alloc _ _ = wa105 at *
               clear B_wd
               refine hK.out _ _ trivial (fun hHeld => ?_)
               clear hK K
               try simp only [Act.put, xqA, xqB, xqC]
               refine wpAnyH_ready (rs := [0]) (by kernel_rfl) (by simp) ?_
               refine' AllReadyH.cons (o := _) ?e_106 ?st_106 AllReadyH.nil
               case e_106 => (simp only [xeA, xeB, xeC]; exact rfl)
               case st_106 =>
                intro K hK
                go_simp
                have B_wa107 := Below.alc B_wa105 (.cells #[] 37)
                have zz_wa107 : wa105.heap.size < (wa105.alloc (.cells #[] 37)).heap.size := by simp
                have O_wa107 := own_lo (lo' := wr.heap.size) (World.ownsRow_lit (e := 37) (size := 1) (base := wa105.heap.size) wa105 #[] 0 (Nat.le_refl _) (by decide) rfl) B_wa105.size
                have N_wa107 := cell_later (below_one (w := wa105) (.cells #[] 37)) N_wa105
                have hne : gn ≠ wa105.heap.size := by have := World.block_lt_of_cell? _ _ N_wa105; simp at this; omega
                generalize wa105.heap.size = go at *
                generalize World.alloc _ _ = wa107 at *
                clear B_wa105 N_wa105
                refine hK.out _ _ trivial (fun hHeld => ?_)
                clear hK K
                try simp only [Act.put, xqA, xqB, xqC]
                refine wpAnyH_ready (rs := [4]) (by kernel_rfl) (by simp) ?_
                refine' AllReadyH.cons (o := _) ?e_108 ?st_108 AllReadyH.nil
                case e_108 => (simp only [xeA, xeB, xeC]; exact rfl)
                case st_108 =>
                 intro K hK
                 refine step_append_at (by rfl) _ _ _ (by rfl) wr.heap.size 37 inf (.slice none 0 0) 1 24 Tryz.underlying96 hi hz0 hz1 hz2 rfl (by decide) (.slice (some ⟨go, 0, none⟩) 0 0) 0 [] (by rfl) O_wa107 ⟨g, 0, none⟩ L.length cap (vs.take L.length) (by rfl) (by have := HO6.out.1; rw [List.length_take]; omega) (own_takeV (own_keep HO6.out B_wa107) L.length) (fun u hu => hone.out u (List.mem_of_mem_take hu)) (by unfold maxLen; omega) (by omega) B_wa107.size ?_
                 intro v1 wa109 O_wa109 hg_wa109 hat_wa109
                 have B_wa109 := Below.grown B_wa107 hg_wa109 B_wa107.size (fun q hq => (O_wa107.lt q hq).1)
                 have N_wa109 := hg_wa109.cell N_wa107 (fun h => by injection h with h; exact hne h)
                 have hne2 : v1.ownBlock ≠ some gn := by intro h; rcases hat_wa109 with h2 | h2 <;> rw [h2] at h <;> injection h with h; (first | exact hne h.symm | (have := World.block_lt_of_cell? _ _ N_wa107; simp at this; omega)); (first | exact hne h.symm | (have := World.block_lt_of_cell? _ _ N_wa107; simp at this; omega))
                 clear B_wa107 O_wa107 hg_wa109 hat_wa109 N_wa107
                 refine hK.out _ _ trivial (fun hHeld => ?_)
                 clear hK K
                 try simp only [Act.put, xqA, xqB, xqC]
                 refine wpAnyH_ready (rs := [7]) (by kernel_rfl) (by simp) ?_
                 refine' AllReadyH.cons (o := _) ?e_110 ?st_110 AllReadyH.nil
                 case e_110 => (simp only [xeA, xeB, xeC]; exact rfl)
                 case st_110 =>
                  intro K hK
                  refine step_append_at (by rfl) _ _ _ (by rfl) wr.heap.size 37 inf (.slice none 0 0) 1 24 Tryz.underlying96 hi hz0 hz1 hz2 rfl (by decide) v1 (0 + L.length) ([] ++ vs.take L.length) (by rfl) O_wa109 ⟨gn, 0, none⟩ 1 1 [(.slice (some ⟨gp, 0, none⟩) p.length cp)] (by rfl) (by simp) (fun j u hj => by (cases j with | zero => (simp at hj; subst hj; rw [Addr.add_lit]; exact N_wa109) | succ j => simp at hj)) (by simp [Value.oneCell']) (by unfold maxLen; omega) (by omega) B_wa109.size ?_
                  intro v2 wa111 O_wa111 hg_wa111 hat_wa111
                  have B_wa111 := Below.grown B_wa109 hg_wa111 B_wa109.size (fun q hq => (O_wa109.lt q hq).1)
                  clear B_wa109 O_wa109 hg_wa111 hat_wa111 N_wa109
                  refine hK.out _ _ trivial (fun hHeld => ?_)
                  clear hK K
                  try simp only [Act.put, xqA, xqB, xqC]
                  refine wpAnyH_ready (rs := [11]) (by kernel_rfl) (by simp) ?_
                  refine' AllReadyH.cons (o := _) ?e_112 ?st_112 AllReadyH.nil
                  case e_112 => (simp only [xeA, xeB, xeC]; exact rfl)
                  case st_112 =>
                   intro K hK
                   refine step_append_at (by rfl) _ _ _ (by rfl) wr.heap.size 37 inf (.slice none 0 0) 1 24 Tryz.underlying96 hi hz0 hz1 hz2 rfl (by decide) v2 (0 + L.length + 1) ([] ++ vs.take L.length ++ [(.slice (some ⟨gp, 0, none⟩) p.length cp)]) (by rfl) O_wa111 _ _ _ [] (by rfl) (by simp) (fun j u hj => by simp at hj) (by simp) (by unfold maxLen; omega) (by omega) B_wa111.size ?_
                   intro v3 wa113 O_wa113 hg_wa113 hat_wa113
                   have B_wa113 := Below.grown B_wa111 hg_wa113 B_wa111.size (fun q hq => (O_wa111.lt q hq).1)
                   clear B_wa111 O_wa111 hg_wa113 hat_wa113
                   refine hK.out _ _ trivial (fun hHeld => ?_)
                   clear hK K
                   try simp only [Act.put, xqA, xqB, xqC]
                   refine' tkY 12 hHeld ?r_114
                   try simp only [Act.put, xqA, xqB, xqC]
                   refine wpAnyH_done (by kernel_rfl) ?_ _
                   obtain ⟨g3, c3, rfl, _, _, _, _⟩ := own_form O_wa113 (by omega)
                   have hpl2 : (ltN (n + 1)).length = 0 + L.length + 1 + 0 := by rw [HS2.out]; first | (simp; done) | (simp; omega)
                   have OO := Lib.hid (show wa113.ownsRow w.heap.size 37 1 (.slice (some ⟨g3, 0, none⟩) (ltN (n + 1)).length c3) (ltN (n + 1)).length (vs.take L.length ++ (.slice (some ⟨gp, 0, none⟩) p.length cp) :: vs.drop L.length) by rw [hpl2]; exact own_lo (ownsRow_cast O_wa113 (by omega) (by first | (simp; done) | (have h9 := HO6.out.1; rw [List.drop_eq_nil_of_le (by omega)]; simp))) (Nat.le_trans hsz5 HB6.out.size))
                   have II := Lib.hid (show Inn wa113 w.heap.size (vs.take L.length ++ (.slice (some ⟨gp, 0, none⟩) p.length cp) :: vs.drop L.length) (ltN (n + 1)) by rw [HS2.out]; exact Inn.insert (own_keep (own_keep HP5.out HB6.out) B_wa113) (by omega) L.length ((HIN5.out.keep HB6.out).keep B_wa113) hvlt.out)
                   have BB := Lib.hid (Below.chain HBw5.out (Below.chain HB6.out B_wa113))
                   have HPL := Lib.hid hpl2
                   clear O_wa113 hpl2 B_wa113
                   go_wp2
                   go_roundw
                   case rel => exact ⟨n + 1, g3, c3, _, by omega, by go_num, by rw [HPL.out], OO.out, II.out, BB.out⟩
                   case measure => simp [intOf]; omega
  · obtain rfl : n = 1024 := by omega
    have HO := Lib.hid ho; have HIN := Lib.hid hin
    have HE := Lib.hid ltA_eq
    clear ho hin
    go_wp2
    go_ret
    exact ⟨_, rfl, by rw [HE.out]; exact ⟨vs, HO.out, HIN.out⟩, hb⟩
end Go.Proofs.YtohgjfdbnkjefaaGreatDoor
namespace Go.Proofs.YtohgjfdbnkjefaaGreatDoor
end Go.Proofs.YtohgjfdbnkjefaaGreatDoor
