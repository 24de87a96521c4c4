import Derived.Test.YtohgjfdbnkjefaaGreatDoorKc17
import Derived.Deep.DrawnRows
import Derived.Deep.DeepCutAuto
import Derived.Deep.CutBlock
open Go.Lib (hid)
namespace Go.Proofs.YtohgjfdbnkjefaaGreatDoor
open Go.RowKit
set_option linter.unusedVariables false
set_option linter.unusedSimpArgs false
set_option maxRecDepth 100000
attribute [local go_sem ↓] Go.wp_at_zero Go.wp_at_succ
theorem Inn.insert {w : World} {lo lo2 : Nat} {v : Value} {xs : List Int} (hv : w.ownsRow lo2 3 1 v xs.length (ints xs)) (hl : lo ≤ lo2) : ∀ (k : Nat) {vs : List Value} {xss : List (List Int)}, Inn w lo vs xss →
 (∀ a ∈ vs, ∀ g, a.ownBlock = some g → g < lo2) → Inn w lo (vs.take k ++ v :: vs.drop k) (xss.take k ++ xs :: xss.drop k)
 | 0, vs, xss, h, hn => by
  simp only [List.take_zero, List.drop_zero, List.nil_append]
  refine h.cons (own_lo hv hl) (fun b hb => ?_)
  cases hg : b.ownBlock with
  | none => exact .inl rfl
  | some q =>
   right; intro e
   have h1 := hn b hb q hg
   have h2 := (hv.lt q e.symm).1
   omega
 | k + 1, [], [], h, hn => by simp; exact (Inn.nil_ w lo).cons (own_lo hv hl) (fun b hb => by simp at hb)
 | k + 1, [], _ :: _, h, _ => by have := h.1; simp at this
 | k + 1, _ :: _, [], h, _ => by have := h.1; simp at this
 | k + 1, a :: t, x :: u, h, hn => by
  have ih := Inn.insert hv hl k h.tail (fun b hb => hn b (List.mem_cons_of_mem _ hb))
  simp only [List.take_succ_cons, List.drop_succ_cons, List.cons_append]
  refine ih.cons h.head.1 (fun b hb => ?_)
  rcases List.mem_append.1 hb with hb | hb
  · exact h.head.2 b (List.mem_of_mem_take hb)
  · rcases List.mem_cons.1 hb with e | hb
    · subst e
      cases hg : b.ownBlock with
      | none => exact .inl rfl
      | some q =>
       right; intro e
       have h1 := hn a (by simp) q e.symm
       have h2 := (hv.lt q hg).1
       omega
    · exact h.head.2 b (List.mem_of_mem_drop hb)
theorem own_takeV {w : World} {lo g cap n : Nat} {e : TypeId} {l : List Value} (h : w.ownsRow lo e 1 (.slice (some ⟨g, 0, none⟩) n cap) n l) (k : Nat) : ∀ j u, (l.take k)[j]? = some u → w.cell? ((⟨g, 0, none⟩ : Addr).add j) = some u := by
 intro j u hu
 rw [Addr.add_lit, Nat.zero_add]
 have hlen : l.length = n * 1 := h.1
 have hu2 : l[j]? = some u := by
  simp only [List.getElem?_take] at hu ⊢
  split at hu
  · exact hu
  · cases hu
 have hj := (List.getElem?_eq_some_iff.1 hu2).1
 rw [h.cellAt j (by omega)]; exact hu2
theorem own_dropV {w : World} {lo g cap n : Nat} {e : TypeId} {l : List Value} (h : w.ownsRow lo e 1 (.slice (some ⟨g, 0, none⟩) n cap) n l) (k : Nat) : ∀ j u, (l.drop k)[j]? = some u → w.cell? ((⟨g, k, none⟩ : Addr).add j) = some u := by
 intro j u hu
 rw [Addr.add_lit]
 have hlen : l.length = n * 1 := h.1
 have hu2 : l[k + j]? = some u := by simpa using hu
 have hj := (List.getElem?_eq_some_iff.1 hu2).1
 rw [h.cellAt (k + j) (by omega)]; exact hu2
set_option maxHeartbeats 8000000 in
theorem sLeastTests_c (w : World) : Calls Tryz.prog 178 #[] w fun e w' => ∃ u, e = .returned u ∧ OwnSS w' w.heap.size u ltA ∧ Below w.heap.size w w' := by
 obtain ⟨inf, hi, hz0, hz1, hz2⟩ := info_parts info_ints
 have ho0 := World.ownsRow_lit (e := 37) (size := 1) (base := w.heap.size) w #[] 0 (Nat.le_refl _) (by decide) rfl
 go_enter Tryz.func178, Tryz.ntmps178
 go_wp2
 go_loopw [1, 2] (fun o i wr => ∃ (n g cap : Nat) (vs : List Value), n ≤ 1024 ∧ i = .int .i64 (n : Int) ∧ o = .slice (some ⟨g, 0, none⟩) (ltN n).length cap ∧ wr.ownsRow w.heap.size 37 1 (.slice (some ⟨g, 0, none⟩) (ltN n).length cap) (ltN n).length vs ∧ Inn wr w.heap.size vs (ltN n) ∧ Below w.heap.size w wr) (fun _ i _ => 1024 - (intOf i).toNat)
 case atStart => exact ⟨0, w.heap.size, 0, [], by omega, rfl, rfl, by simpa [ltN, partsS] using ho0, Inn.nil_ _ _, below_one _⟩
 case round =>
  obtain ⟨n, g, cap, vs, hn, rfl, rfl, ho, hin, hb⟩ := hrel
  clear ho0
  by_cases hlt : n < 1024
  · have hd : decide ((n : Int) < 1024) = true := by simp; omega
    have HSt := hid (ltN_succ n)
    have hLn := ltN_len n
    have HT := hid (digs_test (S := tenI) (by decide) (by decide) n)
    have hpl : (digsL tenI n).length ≤ 10 := digs_len tenI n
    have HD : Hid (∀ (u : Value) (wx : World), Ints wx u tenI → Calls Tryz.prog 224 #[u, .int .i64 (n : Int)] wx fun e w' => ∃ u', e = .returned u' ∧ w'.ownsRow wx.heap.size 3 1 u' (digsL tenI n).length (ints (digsL tenI n)) ∧ Below wx.heap.size wx w') := fun u wx h => l7Digits_c u tenI n wx h (by decide) hlt
    have HO := hid ho; have HIN := hid hin; have HB := hid hb
    have hszw := hb.size
    clear ho hin hb
    generalize hp : digsL tenI n = p at *
    generalize hL : ltN n = L at *
    have STAY : Hid (leastL p = false → ∀ wz, Below wr.heap.size wr wz → ltN (n + 1) = L ∧ wz.ownsRow w.heap.size 37 1 (.slice (some ⟨g, 0, none⟩) L.length cap) L.length vs ∧ Inn wz w.heap.size vs L ∧ Below w.heap.size w wz) := fun hl wz hz => ⟨by rw [HSt.out, hl]; rfl, own_keep HO.out hz, HIN.out.keep hz, Below.chain HB.out hz⟩
    rcases hf : fullB p with _ | _
    · have hl : leastL p = false := by unfold leastL; rw [hf]; simp
      have ST := hid (STAY.out hl)
      clear hl
      go_wp2_with fail
      refine (l7Ten_c _).mono ?_
      rintro e w2 ⟨u, rfl, hou, hb2⟩
      go_wp2_with fail
      refine (HD.out u w2 (Ints.of_own hou)).mono ?_
      rintro e w3 ⟨u', rfl, hop, hb3⟩
      obtain ⟨ap, cp, rfl, _⟩ := (Sl.of_own hop).slice
      have HF := hid (l7Full_c _ p w3 (Ints.of_own hop) HT.out)
      have HB3 := hid (Below.chain hb2 hb3)
      clear hou hop hb2 hb3
      go_wp2_with fail
      refine HF.out.mono ?_
      rintro e w4 ⟨rfl, hb5⟩
      rw [hf]
      have HB4 := hid (Below.chain HB3.out hb5)
      clear hb5
      go_wp2
      go_roundw
      case rel =>
       obtain ⟨q1, q2, q3, q4⟩ := ST.out _ HB4.out
       exact ⟨n + 1, g, cap, vs, by omega, by go_num, by rw [q1], by rw [q1]; exact q2, by rw [q1]; exact q3, q4⟩
      case measure => simp [intOf]; omega
    · have hpos : 0 < p.length := List.length_pos_iff.2 (fun e => by rw [e, full_nil] at hf; cases hf)
      go_wp2_with fail
      refine (l7Ten_c _).mono ?_
      rintro e w2 ⟨u, rfl, hou, hb2⟩
      go_wp2_with fail
      refine (HD.out u w2 (Ints.of_own hou)).mono ?_
      rintro e w3 ⟨u', rfl, hop, hb3⟩
      obtain ⟨gp, cp, rfl, _, _, _, _⟩ := own_form hop hpos
      have HF := hid (l7Full_c _ p w3 (Ints.of_own hop) HT.out)
      have HB3 := hid (Below.chain hb2 hb3)
      have HOP := hid hop
      have hs2 := hb2.size
      clear hou hop hb2 hb3
      go_wp2_with fail
      refine HF.out.mono ?_
      rintro e w4 ⟨rfl, hb5⟩
      rw [hf]
      have HB4 := hid (Below.chain HB3.out hb5)
      have HOP4 := hid (own_keep HOP.out hb5)
      have HLe := hid (l7Least_c gp cp w2.heap.size p w4 HOP4.out HT.out)
      clear hb5
      go_wp2_with fail
      refine HLe.out.mono ?_
      rintro e w5 ⟨rfl, hb6⟩
      have HB5 := hid (Below.chain HB4.out hb6)
      have HP5 := hid (own_keep HOP4.out hb6)
      clear hb6
      rcases hl : leastL p with _ | _
      · have ST := hid (STAY.out hl)
        go_wp2
        go_roundw
        case rel =>
         obtain ⟨q1, q2, q3, q4⟩ := ST.out _ HB5.out
         exact ⟨n + 1, g, cap, vs, by omega, by go_num, by rw [q1], by rw [q1]; exact q2, by rw [q1]; exact q3, q4⟩
        case measure => simp [intOf]; omega
      · have HNx := hid (show ltN (n + 1) = insB L p by rw [HSt.out, hl]; rfl)
        have HO5 := hid (own_keep HO.out HB5.out)
        have HIN5 := hid (HIN.out.keep HB5.out)
        have HBw5 := hid (Below.chain HB.out HB5.out)
        have hvlt : Hid (∀ a ∈ vs, ∀ q, a.ownBlock = some q → q < w2.heap.size) := fun a ha q hq => by
         obtain ⟨k, hk, rfl⟩ := List.getElem_of_mem ha
         have := HIN.out.lt k vs[k] (List.getElem?_eq_getElem hk) q hq
         omega
        have hone : Hid (∀ u ∈ vs, u.oneCell' = true) := fun u hu => by obtain ⟨a, n, c, rfl⟩ := HIN.out.slices u hu; rfl
        have hRd := OwnSS.rd ⟨vs, HO5.out, HIN5.out⟩
        obtain ⟨a0, c0, e0, _, HC⟩ := hRd.parts
        injection e0 with e1 _ e3
        subst e1 e3
        have hcle : L.length ≤ cap := by
         rcases HO5.out.2 with ⟨h, _⟩ | ⟨g', c', cur, h, _, _, h1, _⟩
         · cases h
         · injection h with _ _ h3; omega
        have hsz5 : w.heap.size ≤ w5.heap.size := HBw5.out.size
        clear hRd
        go_upto_block 2 with fail
        go_cut [4] (fun s4 wx => ∃ k : Nat, s4 = .int .i64 (k : Int) ∧ k ≤ L.length ∧ Hid (ltN (n + 1) = L.take k ++ p :: L.drop k) ∧ Hid (Below w5.heap.size w5 wx))
        case first =>
         go_wp2
         go_loopw [4] (fun k wq => ∃ j : Nat, j ≤ L.length ∧ k = .int .i64 (j : Int) ∧ Hid (∀ i x, i < j → L[i]? = some x → befL x p = true) ∧ Below w5.heap.size w5 wq) (fun k _ => L.length - (intOf k).toNat)
         case atStart => exact ⟨0, by omega, rfl, fun j x h => by omega, Below.refl _ _⟩
         case round =>
          obtain ⟨k, hk, rfl, hbef, hbq⟩ := hrel
          by_cases hlt2 : k < L.length
          · have hd2 : decide ((k : Int) < (L.length : Int)) = true := by simp; omega
            obtain ⟨x, hx⟩ := elem_at hlt2
            obtain ⟨b0, o0, a', c', e0, g0, i0⟩ := HC.out k x hx.out
            injection e0 with e0
            injection e0 with e1 e2
            subst e1 e2
            rw [Nat.zero_add] at g0
            have g1 := cell_later hbq g0
            have HBf := hid (l7Before_c _ _ x p wr (i0.below hbq) (Ints.of_own (own_keep HP5.out hbq)))
            clear g0 i0
            go_wp2_with fail
            refine HBf.out.mono ?_
            rintro e w6 ⟨rfl, hb6⟩
            have HB6 := hid (Below.chain hbq hb6)
            clear hbq hb6 g1
            rcases hbf : befL x p with _ | _
            · have HS2 := hid (show ltN (n + 1) = L.take k ++ p :: L.drop k from by rw [HNx.out]; exact insB_at L p k (by omega) hbef.out (fun y hy => by rw [hx.out] at hy; injection hy with hy; rw [← hy]; exact hbf))
              clear hbef hx
              go_wp2_with fail
              go_meet
              exact ⟨k, rfl, hk, HS2, HB6⟩
            · have hN : Hid (∀ i y, i < k + 1 → L[i]? = some y → befL y p = true) := fun i y hi hy => by
               by_cases h2 : i < k
               · exact hbef.out i y h2 hy
               · obtain rfl : i = k := by omega
                 rw [hx.out] at hy
                 injection hy with hy
                 rw [← hy]; exact hbf
              clear hbef hx
              go_wp2
              go_roundw
              case rel => exact ⟨k + 1, by omega, by go_num, hN, HB6.out⟩
              case measure => simp [intOf]; omega
          · obtain rfl : k = L.length := by omega
            have HS2 := hid (show ltN (n + 1) = L.take L.length ++ p :: L.drop L.length from by rw [HNx.out]; exact insB_at L p L.length (by omega) hbef.out (fun y hy => by rw [List.getElem?_eq_none (Nat.le_refl _)] at hy; cases hy))
            have HB6 := hid hbq
            clear hbq hbef
            go_wp2_with fail
            go_meet
            exact ⟨_, rfl, hk, HS2, HB6⟩
        case rest =>
         obtain ⟨k, rfl, hk, HS2, HB6⟩ := hcut
         generalize hW : wc = w6 at *
         clear hW HO HB HT HD HNx HSt STAY HC
         have n0 : (0 : Int) ≤ (k : Int) := by omega
         have n1 : (k : Int) ≤ (L.length : Int) := by omega
         have n2 : (L.length : Int) ≤ (cap : Int) := by omega
         have n3 : (k : Int) ≤ (cap : Int) := by omega
         have HO6 := hid (own_keep HO5.out HB6.out)
         have hck : ((cap = k) = True ∧ k = L.length) ∨ (cap = k) = False := by
          by_cases h : cap = k
          · exact .inl ⟨by simp [h], by omega⟩
          · exact .inr (by simp [h])
         replace hck : ((cap = k) = True ∧ Hid (k = L.length)) ∨ (cap = k) = False := hck
         rcases hck with ⟨hck, hkl⟩ | hck
         all_goals
          go_upto_region 10 with fail
          refine wp_region_held_drew (S := fun _ : World => True) (by kernel_rfl) trivial (fun hHeld => ?_)
          have F : Below w6.heap.size w6 w6.drew := (Below.refl _ _).drew
          generalize w6.drew = wd at *
          refine' tkZ 1 hHeld ?_
          refine' tkZ 2 hHeld ?_
          refine' tkZ 3 hHeld ?_
          refine' tkZ 5 hHeld ?_
          refine' tkZ 8 hHeld ?_
          refine' tkZ 9 hHeld ?_
          refine' tkZ 10 hHeld ?_
          repeat' first
           | refine' tkZ 12 hHeld ?_
           | (refine wpAnyH_done (by decide +kernel) ?_ _
              obtain ⟨g3, c3, rfl, _, _, _, _⟩ := own_form O (by omega)
              have hpl2 : (ltN (n + 1)).length = L.length + 1 := by rw [HS2.out]; simp; omega
              have OO := hid (show wd.ownsRow w.heap.size 37 1 (.slice (some ⟨g3, 0, none⟩) (L.length + 1) c3) (L.length + 1) (vs.take k ++ (.slice (some ⟨gp, 0, none⟩) p.length cp) :: vs.drop k) from own_lo O (Nat.le_trans hsz5 HB6.out.size))
              have II := hid (show Inn wd w.heap.size (vs.take k ++ (.slice (some ⟨gp, 0, none⟩) p.length cp) :: vs.drop k) (ltN (n + 1)) by rw [HS2.out]; exact Inn.insert (own_keep (own_keep HP5.out HB6.out) F) (by omega) k ((HIN5.out.keep HB6.out).keep F) hvlt.out)
              have BB := hid (Below.chain HBw5.out (Below.chain HB6.out F))
              have HPL := hid hpl2
              clear O hpl2 F
              go_wp2
              go_roundw
              case rel => exact ⟨n + 1, g3, c3, _, by omega, by go_num, by rw [HPL.out], by rw [HPL.out]; exact OO.out, II.out, BB.out⟩
              case measure => simp [intOf]; omega)
           | ((first
                | refine rdyS [0, 6] (rdy ?_ (rdy ?_ .nil))
                | refine rdyS [4, 6] (rdy ?_ (rdy ?_ .nil))
                | refine rdyS [0] (rdy ?_ .nil)
                | refine rdyS [4] (rdy ?_ .nil)
                | refine rdyS [6] (rdy ?_ .nil)
                | refine rdyS [7] (rdy ?_ .nil)
                | refine rdyS [11] (rdy ?_ .nil)) <;>
              (intro K hK
               first
                | (refine step_append_at (by rfl) _ _ _ (by rfl) w6.heap.size 37 inf (.slice none 0 0) 1 24 Tryz.underlying96 hi hz0 hz1 hz2 rfl (by decide) (.slice (some ⟨go, 0, none⟩) 0 0) 0 [] (by rfl) O ⟨g, 0, none⟩ k cap (vs.take k) (by rfl) (by have := HO6.out.1; rw [List.length_take]; omega) (own_takeV (own_keep HO6.out F) k) (fun u hu => hone.out u (List.mem_of_mem_take hu)) (by unfold maxLen; omega) (by omega) F.size ?_
                   intro v1 wd O' hg _
                   try replace N := hg.cell N (fun h => by injection h with h; exact hne h)
                   replace F := Below.grown F hg F.size (fun q hq => (O.lt q hq).1)
                   replace O := O'
                   clear hg)
                | (refine step_append_at (by rfl) _ _ _ (by rfl) w6.heap.size 37 inf (.slice none 0 0) 1 24 Tryz.underlying96 hi hz0 hz1 hz2 rfl (by decide) v1 (0 + k) ([] ++ vs.take k) (by rfl) O ⟨gn, 0, none⟩ 1 1 [(.slice (some ⟨gp, 0, none⟩) p.length cp)] (by rfl) (by simp) (fun j u hj => by (cases j with | zero => (simp at hj; subst hj; rw [Addr.add_lit]; exact N) | succ j => simp at hj)) (by simp [Value.oneCell']) (by unfold maxLen; omega) (by omega) F.size ?_
                   intro v2 wd O' hg _
                   clear N
                   replace F := Below.grown F hg F.size (fun q hq => (O.lt q hq).1)
                   replace O := O'
                   clear hg)
                | (have h8 := hkl.out
                   refine step_append_at (by rfl) _ _ _ (by rfl) w6.heap.size 37 inf (.slice none 0 0) 1 24 Tryz.underlying96 hi hz0 hz1 hz2 rfl (by decide) v2 (0 + k + 1) ([] ++ vs.take k ++ [(.slice (some ⟨gp, 0, none⟩) p.length cp)]) (by rfl) O _ _ _ [] (by rfl) (by simp; omega) (fun j u hj => by simp at hj) (by simp) (by unfold maxLen; omega) (by omega) F.size ?_
                   intro v3 wd O' hg _
                   replace F := Below.grown F hg F.size (fun q hq => (O.lt q hq).1)
                   replace O := ownsRow_cast (m := L.length + 1) (ys := vs.take k ++ (.slice (some ⟨gp, 0, none⟩) p.length cp) :: vs.drop k) O' (by omega) (by have h9 := HO6.out.1; rw [List.drop_eq_nil_of_le (by omega)]; simp)
                   clear hg)
                | (have hkk : (cap = k) = False := hck
                   refine step_append_at (by rfl) _ _ _ (by rfl) w6.heap.size 37 inf (.slice none 0 0) 1 24 Tryz.underlying96 hi hz0 hz1 hz2 rfl (by decide) v2 (0 + k + 1) ([] ++ vs.take k ++ [(.slice (some ⟨gp, 0, none⟩) p.length cp)]) (by rfl) O ⟨g, k, none⟩ (L.length - k) _ (vs.drop k) (by rfl) (by have := HO6.out.1; rw [List.length_drop]; omega) (own_dropV (own_keep HO6.out F) k) (fun u hu => hone.out u (List.mem_of_mem_drop hu)) (by unfold maxLen; omega) (by omega) F.size ?_
                   intro v3 wd O' hg _
                   replace F := Below.grown F hg F.size (fun q hq => (O.lt q hq).1)
                   replace O := ownsRow_cast (m := L.length + 1) (ys := vs.take k ++ (.slice (some ⟨gp, 0, none⟩) p.length cp) :: vs.drop k) O' (by omega) (by simp)
                   clear hg)
                | (go_simp
                   refine hK.out _ (wd.alloc (.cells #[] 37)) trivial fun hHeld => nrm ?_
                   have O := own_lo (lo' := w6.heap.size) (World.ownsRow_lit (e := 37) (size := 1) (base := wd.heap.size) wd #[] 0 (Nat.le_refl _) (by decide) rfl) F.size
                   try have hne : gn ≠ wd.heap.size := by have := World.block_lt_of_cell? _ _ N; simp at this; omega
                   try replace N := cell_later (below_one (.cells #[] 37)) N
                   replace F := Below.alc F (.cells #[] 37)
                   generalize wd.heap.size = go at *
                   generalize World.alloc _ _ = wd at *)
                | (go_simp
                   refine hK.out _ (wd.alloc (.cells #[(.slice (some ⟨gp, 0, none⟩) p.length cp)] 37)) trivial fun hHeld => nrm ?_
                   have N : (wd.alloc (.cells #[(.slice (some ⟨gp, 0, none⟩) p.length cp)] 37)).cell? ⟨wd.heap.size, 0, none⟩ = some (.slice (some ⟨gp, 0, none⟩) p.length cp) := by rw [World.cell?_alloc_at _ _ _ _ rfl]; rfl
                   try have hne : wd.heap.size ≠ go := by have := (O.lt go rfl).2; omega
                   try replace O := O.alloc (.cells #[(.slice (some ⟨gp, 0, none⟩) p.length cp)] 37)
                   replace F := Below.alc F (.cells #[(.slice (some ⟨gp, 0, none⟩) p.length cp)] 37)
                   generalize wd.heap.size = gn at *
                   generalize World.alloc _ _ = wd at *)
               try refine hK.out _ _ trivial fun hHeld => nrm ?_
               clear hK K))
  · obtain rfl : n = 1024 := by omega
    have HO := hid ho; have HIN := hid hin
    have HE := hid ltA_eq
    clear ho hin
    go_wp2
    go_ret
    exact ⟨_, rfl, by rw [HE.out]; exact ⟨vs, HO.out, HIN.out⟩, hb⟩
end Go.Proofs.YtohgjfdbnkjefaaGreatDoor
namespace Go.Proofs.YtohgjfdbnkjefaaGreatDoor
open Go.RowKit
set_option linter.unusedVariables false
set_option maxRecDepth 100000
structure DoerB (D : World → Nat → Prop) (I : List (List Int) → World → Prop) (fn : Nat) (cb : Array Value) (S : List Int) : Prop where
 calls : CallsIt fn
 keepI : ∀ done w w', I done w → Below w.heap.size w w' → I done w'
 keepD : ∀ done w w', I done w → Below w.heap.size w w' → ∀ k, D w' k → D w k
 ltD : ∀ done w k, I done w → D w k → k < w.heap.size
 run : ∀ (done : List (List Int)) (part : List Int) v w, part.length ≤ 10 → done.length ≤ 1100 → (∀ y ∈ part, y ∈ S) → I done w → Ints w v part → (∀ g, v.ownBlock = some g → ¬ D w g) → Calls Tryz.prog fn (#[v] ++ cb) w fun e w' => e = .returned (.tuple #[]) ∧ I (done ++ [part]) w' ∧ Fr D w w'
theorem DoerB.fr {D : World → Nat → Prop} {I : List (List Int) → World → Prop} {fn : Nat} {cb : Array Value} {S : List Int} (H : DoerB D I fn cb S) {done : List (List Int)} {w w' : World} (hI : I done w) (hb : Below w.heap.size w w') : Fr D w w' :=
 ⟨hb.os, hb.tape, hb.output, hb.size, fun k hk _ => hb.block k hk, fun k hk => .inl (H.keepD done w w' hI hb k hk)⟩
set_option maxHeartbeats 4000000 in
theorem extendB_c {D : World → Nat → Prop} {I : List (List Int) → World → Prop} {fn B2 B3 B4 : Nat} {cb : Array Value} {a : Option Addr} {c : Nat} {set : List Int} (H : DoerB D I fn cb set) (hset : set.length ≤ 10) :
 ∀ (m : Nat) (fr : Nat) (part : List Int) (vp : Value) (done : List (List Int)) (w : World), (done ++ part :: loopE (set.drop fr) part).length ≤ 1100 → fr + m = set.length → part.length ≤ fr → (∀ y ∈ part, y ∈ set) → SEnv D w B2 B3 B4 fn cb a c set → I done w → Ints w vp part → (∀ g, vp.ownBlock = some g → ¬ D w g ∧ g < w.heap.size) →
  Calls Tryz.prog 279 #[vp, .int .i64 (fr : Int), .pointer (some ⟨B2, 0, none⟩), .pointer (some ⟨B3, 0, none⟩), .pointer (some ⟨B4, 0, none⟩)] w fun e w' => e = .returned (.tuple #[]) ∧ I (done ++ part :: loopE (set.drop fr) part) w' ∧ Fr D w w' := by
 intro m
 induction m using Nat.strongRecOn with
 | ind m ih =>
  intro fr part vp done w hB hm hpl hpm hE hI hvp hdp
  have hcf : ∀ (bs : Array Value) (w : World), (callFunc fn bs).run Tryz.prog w = .ok (.enter fn bs) w := H.calls
  have k2 := hE.c2
  have HR := hid (H.run done part vp w (by omega) (by simp at hB; omega) hpm hI hvp (fun g hg => (hdp g hg).1))
  have HBD := hid hB
  clear hB
  have hpv := hvp
  obtain ⟨pa, pc, rfl, _, _, _⟩ := hpv.parts
  go_enter Tryz.func279, Tryz.ntmps279
  go_wp2_with fail
  refine HR.out.mono ?_
  rintro e w1 ⟨rfl, hI1, hF1⟩
  have hE1 := hE.keep hF1
  have hv1 := hF1.ints hvp (fun g hg => (hdp g hg).1)
  have hd1 : ∀ g, (Value.slice pa part.length pc).ownBlock = some g → ¬ D w1 g ∧ g < w1.heap.size := fun g hg => ⟨fun hd => by rcases hF1.own g hd with h | h; exact (hdp g hg).1 h; have := (hdp g hg).2; omega, Nat.lt_of_lt_of_le (hdp g hg).2 hF1.size⟩
  clear k2 hE hI hvp hdp
  obtain ⟨i, hi, hz0, hz1, hz2⟩ := info_parts info_int
  have HI1 := hid hI1; have HE1 := hid hE1; have HF1 := hid hF1; have HV1 := hid hv1; have HD1 := hid hd1
  clear hI1 hE1 hF1 hv1 hd1
  have IH := hid ih; have HPM := hid hpm
  clear ih hpm
  go_wp2
  go_loopw [7] (fun j wr => ∃ (k : Nat) (V : List (List Int)), fr ≤ k ∧ k ≤ set.length ∧ j = .int .i64 (k : Int) ∧ Hid (loopE (set.drop fr) part = V ++ loopE (set.drop k) part) ∧ Hid (I (done ++ part :: V) wr) ∧ Hid (Fr D w1 wr)) (fun j _ => set.length - (intOf j).toNat)
  case atStart => exact ⟨fr, [], by omega, by omega, rfl, rfl, HI1.out, Fr.refl _⟩
  case round =>
   obtain ⟨k, V, hfk, hks, rfl, hV, hIr, hFr⟩ := hrel
   have hEr := hid (HE1.out.keep hFr.out)
   have c3 := hEr.out.c3
   have c4 := hEr.out.c4
   by_cases hlt : k < set.length
   · have hd : decide ((k : Int) < (set.length : Int)) = true := by simp; omega
     obtain ⟨x, hx⟩ := elem_at hlt
     have HDR : Hid (set.drop k = x :: set.drop (k + 1)) := by
      show _ = _
      rw [List.drop_eq_getElem_cons hlt]
      have := hx.out
      rw [List.getElem?_eq_getElem hlt] at this
      rw [Option.some.inj this]
     obtain ⟨a', c', ea, _, _, HS⟩ := hEr.out.hs.parts
     injection ea with ea1 ea2 ea3
     subst ea1
     obtain ⟨b, off, rfl, g0⟩ := HS.out k x hx.out
     have hvr := HF1.out.trans hFr.out
     have hv2 : Ints wr (.slice pa part.length pc) part := hFr.out.ints HV1.out (fun g hg => (HD1.out g hg).1)
     clear HS
     have hw : IntKind.i64.wrap ((k : Int) + 1) = ((k + 1 : Nat) : Int) := by rw [IntWalk.i64_in _ (by omega)]; simp
     go_wp2_with fail
     go_region_held3 (fun w' => w'.cell? ⟨B3, 0, none⟩ = some (.slice (some ⟨b, off, none⟩) set.length c) ∧ w'.cell? ⟨B4, 0, none⟩ = some (.func (.func 279) #[] #[.pointer (some ⟨B2, 0, none⟩), .pointer (some ⟨B3, 0, none⟩), .pointer (some ⟨B4, 0, none⟩)]) ∧ w'.cell? ⟨b, off + k, none⟩ = some (.int .i64 x))
      (first | (refine ⟨?_, ?_, ?_⟩ <;> assumption) | go_keep)
      (first | (go_at_call 57; refine (Clone_c _ part _ (by first | exact Sl.drew hv2 | exact Sl.drew (Sl.alloc hv2 _) | exact Sl.alloc (Sl.drew hv2) _) (by omega)).mono ?_; rintro e w' ⟨uc, rfl, hoc, hbc⟩; have hb3 : Below wr.heap.size wr w' := Below.chain (by exact qBl) hbc; have l0 := cell_later hb3 c3; have l1 := cell_later hb3 c4; have l2 := cell_later hb3 g0) | (go_at_call 279; have hF5a := H.fr hIr.out hb7; have hd3 : ∀ g, (Value.slice (some ⟨gg, 0, none⟩) (part.length + 1) cap).ownBlock = some g → ¬ D w3 g ∧ g < w3.heap.size := fun g hg => ⟨fun hdd => by have h1 := H.ltD _ _ _ hIr.out (H.keepD _ _ _ hIr.out hb7 g hdd); have h2 := (ho5.lt g hg).1; omega, (ho5.lt g hg).2⟩; have HX := IH.out (set.length - (k + 1)) (by omega) (k + 1) (part ++ [x]) (.slice (some ⟨gg, 0, none⟩) (part.length + 1) cap) (done ++ part :: V) w3 (by have h1 := HBD.out; have h2 := hV.out; rw [HDR.out] at h2; rw [h2] at h1; simp only [List.length_append, List.length_cons, loopE] at h1 ⊢; omega) (by omega) (by simp; omega) (fun y hy => by rcases List.mem_append.1 hy with h | h; exact HPM.out y h; rw [List.mem_singleton] at h; rw [h]; exact List.mem_of_getElem? hx.out) (hEr.out.keep hF5a) (H.keepI _ _ _ hIr.out hb7) (Ints.of_own (ownsRow_cast ho5 (by simp) (by simp))) hd3; rw [show ((k + 1 : Nat) : Int) = (k : Int) + 1 by simp] at HX; refine HX.mono ?_; rintro e w4 ⟨rfl, hI4, hF4⟩; have hF5 := hF5a.trans hF4; have n0 := hF5.cell c3 hEr.out.d3; have n1 := hF5.cell c4 hEr.out.d4; have n2 := hF5.cell g0 (hEr.out.ds b rfl)) | (go_split_ands; refine step_append_lies _ (by rfl) _ _ _ (by rfl) wr.heap.size 3 i _ 1 8 Tryz.underlying37 hi hz0 hz1 hz2 rfl (by omega) _ part.length (ints part) (by rfl) (by first | exact own_lo hoc (by simp) | exact own_lo (hoc.alloc _) (by simp)) _ 1 1 [.int .i64 x] (by rfl) (by rfl) (by first | exact news_new _ [.int .i64 x] _ | exact fun j u hu => cell_later hbc (news_new _ [.int .i64 x] _ j u hu)) (by simp [Value.oneCell']) (by omega) (by unfold maxLen; omega) (by omega) (by have := hb3.size; simp; omega) _ rfl ?_; intro gg cap w3 ho5 hg5 hat hlt5; have hb7 : Below wr.heap.size wr w3 := (by first | exact hb3 | exact Below.alc hb3 _ : Below wr.heap.size wr _).grown hg5 (by have := hb3.size; simp; omega) (fun g hg => by have := (hoc.lt g hg).1; simp at this; omega); have k0 := cell_later hb7 c3; have k1 := cell_later hb7 c4; have k2 := cell_later hb7 g0))
     all_goals
      have HI4 := hid hI4; have HF5 := hid hF5
      clear hI4 hF5 hF4 hF5a hd3 ho5 hg5 hb7 hoc hbc hb3 k0 k1 k2 l0 l1 l2 n0 n1 n2 g0 c3 c4
      have hdr : set.drop k = x :: set.drop (k + 1) := by
       rw [List.drop_eq_getElem_cons hlt]
       have := hx.out
       rw [List.getElem?_eq_getElem hlt] at this
       rw [Option.some.inj this]
      have HV2 : Hid (loopE (set.drop fr) part = (V ++ (part ++ [x]) :: loopE (set.drop (k + 1)) (part ++ [x])) ++ loopE (set.drop (k + 1)) part) := by
       show _ = _
       rw [hV.out, hdr]
       simp [loopE]
      have HI5 : Hid (I (done ++ part :: (V ++ (part ++ [x]) :: loopE (set.drop (k + 1)) (part ++ [x]))) w4) := by
       have := HI4.out
       show I _ _
       simpa using this
      clear hdr hV HI4
      go_wp2
      go_roundw
      case rel => exact ⟨k + 1, _, by omega, by omega, by go_num, HV2, HI5, hFr.out.trans HF5.out⟩
      case measure => simp [intOf]; omega
   · obtain rfl : k = set.length := by omega
     have HI5 : Hid (I (done ++ part :: loopE (set.drop fr) part) wr) := by
      have h1 := hIr.out
      have h2 := hV.out
      rw [List.drop_length] at h2
      simp only [loopE, List.append_nil] at h2
      show I _ _
      rw [h2]; exact h1
     have HF5 := hid (HF1.out.trans hFr.out)
     clear hV hIr
     go_wp2
     refine bodyPost_end (results_none rfl _ _ _) rfl ?_
     exact ⟨rfl, HI5.out, HF5.out⟩
theorem subsetsB_c {D : World → Nat → Prop} {I : List (List Int) → World → Prop} {fn : Nat} {cb : Array Value} {set : List Int} (H : DoerB D I fn cb set) (hset : set.length ≤ 10) (v : Value) (w : World) (done : List (List Int)) (hI : I done w) (hv : Ints w v set) (hB : (done ++ subsL set).length ≤ 1100)
 (hds : ∀ g, v.ownBlock = some g → ¬ D w g ∧ g < w.heap.size) :
 Calls Tryz.prog 250 #[v, .func (.func fn) #[] cb] w fun e w' => e = .returned (.tuple #[]) ∧ I (done ++ subsL set) w' ∧ Fr D w w' := by
 obtain ⟨a, c, rfl, _, _, _⟩ := hv.parts
 have hbA : Below w.heap.size w (((w.alloc (.cells #[.slice a set.length c] 37)).alloc (.cells #[.func (.func fn) #[] cb] 237)).alloc (.cells #[.func (.func 279) #[] #[.pointer (some ⟨w.heap.size + 1, 0, none⟩), .pointer (some ⟨w.heap.size, 0, none⟩), .pointer (some ⟨w.heap.size + 1 + 1, 0, none⟩)]] 257)) := qBl
 have hE : SEnv D (((w.alloc (.cells #[.slice a set.length c] 37)).alloc (.cells #[.func (.func fn) #[] cb] 237)).alloc (.cells #[.func (.func 279) #[] #[.pointer (some ⟨w.heap.size + 1, 0, none⟩), .pointer (some ⟨w.heap.size, 0, none⟩), .pointer (some ⟨w.heap.size + 1 + 1, 0, none⟩)]] 257)) (w.heap.size + 1) w.heap.size (w.heap.size + 1 + 1) fn cb a c set :=
  have hnd : ∀ k, w.heap.size ≤ k → ¬ D (((w.alloc (.cells #[.slice a set.length c] 37)).alloc (.cells #[.func (.func fn) #[] cb] 237)).alloc (.cells #[.func (.func 279) #[] #[.pointer (some ⟨w.heap.size + 1, 0, none⟩), .pointer (some ⟨w.heap.size, 0, none⟩), .pointer (some ⟨w.heap.size + 1 + 1, 0, none⟩)]] 257)) k := fun k hk hd => by
   have := H.ltD _ _ _ hI (H.keepD _ _ _ hI hbA k hd); omega
  { c2 := by rw [World.cell?_alloc_past _ _ _ (by simp), World.cell?_alloc_at _ _ _ _ (by simp)]; rfl
    c3 := by rw [World.cell?_alloc_past _ _ _ (by simp only [World.size_alloc]; omega), World.cell?_alloc_past _ _ _ (by simp), World.cell?_alloc_at _ _ _ _ rfl]; rfl
    c4 := by rw [World.cell?_alloc_at _ _ _ _ (by simp)]; rfl
    hs := hv.below hbA
    d2 := hnd _ (by omega)
    d3 := hnd _ (by omega)
    d4 := hnd _ (by omega)
    ds := fun g hg hd => (hds g hg).1 (H.keepD _ _ _ hI hbA g hd)
    lt2 := by simp
    lts := fun g hg => by have := (hds g hg).2; simp; omega }
 have HX := extendB_c H hset set.length 0 [] (.slice none 0 0) done _ (by have h1 := hB; unfold subsL at h1; simpa using h1) (by omega) (by simp) (fun y hy => by simp at hy) hE (H.keepI _ _ _ hI hbA) (Sl.nil_ _ _) (fun g hg => by simp [Value.ownBlock] at hg)
 have hF := hid (H.fr hI hbA)
 have HY := hid HX
 have hst : (store ⟨w.heap.size + 1 + 1, 0, none⟩ (.func (.func 279) #[] #[.pointer (some ⟨w.heap.size + 1, 0, none⟩), .pointer (some ⟨w.heap.size, 0, none⟩), .pointer (some ⟨w.heap.size + 1 + 1, 0, none⟩)])).run Tryz.prog (((w.alloc (.cells #[.slice a set.length c] 37)).alloc (.cells #[.func (.func fn) #[] cb] 237)).alloc (.cells #[.nilFunc] 257)) = .ok () (((w.alloc (.cells #[.slice a set.length c] 37)).alloc (.cells #[.func (.func fn) #[] cb] 237)).alloc (.cells #[.func (.func 279) #[] #[.pointer (some ⟨w.heap.size + 1, 0, none⟩), .pointer (some ⟨w.heap.size, 0, none⟩), .pointer (some ⟨w.heap.size + 1 + 1, 0, none⟩)]] 257)) := by
  rw [run_store _ _ _ _ _ rfl]
  simp [go_sem]
 clear HX hE hds hI hv
 go_enter Tryz.func250, Tryz.ntmps250
 go_wp2_with fail
 refine HY.out.mono ?_
 rintro e w1 ⟨rfl, hI1, hF1⟩
 have HI := hid hI1; have HF := hid (hF.out.trans hF1)
 clear hI1 hF1
 go_wp2
 refine bodyPost_end (results_none rfl _ _ _) rfl ?_
 exact ⟨rfl, HI.out, HF.out⟩
#print axioms subsetsB_c
set_option linter.unusedSimpArgs false
def ltF (done : List (List Int)) : List (List Int) := done.filter fun p => leastL (setS p)
structure LtI (m : Nat) (done : List (List Int)) (w : World) : Prop where
 fm : w.frozen? ⟨m, 0, none⟩ = false
 best : ∃ u, w.cell? ⟨m, 0, none⟩ = some u ∧ OwnSS w (m + 1) u (ltF done)
def LtD (m : Nat) (w : World) (j : Nat) : Prop := j = m ∨ ∃ u, w.cell? ⟨m, 0, none⟩ = some u ∧ u.ownBlock = some j
theorem LtI.keep {m : Nat} {done : List (List Int)} {w w' : World} (h : LtI m done w) (hb : Below w.heap.size w w') : LtI m done w' := by
 obtain ⟨u, hc, vs, ho, hi⟩ := h.best
 exact ⟨by rw [hb.frozen (p := ⟨m, 0, none⟩) (World.block_lt_of_cell? _ _ hc)]; exact h.fm, u, cell_later hb hc, vs, own_keep ho hb, hi.keep hb⟩
theorem lt_fin {m : Nat} {done : List (List Int)} {part : List Int} {w wa wb : World} {u v2 uc : Value} {vs : List Value} (hfm : w.frozen? ⟨m, 0, none⟩ = false) (hc : w.cell? ⟨m, 0, none⟩ = some u)
 (ho : w.ownsRow (m + 1) 37 1 u (ltF done).length vs) (hin : Inn w (m + 1) vs (ltF done)) (hl : leastL (setS part) = true) (hb : Below w.heap.size w wa) (hoc : wa.ownsRow w.heap.size 3 1 uc part.length (ints part))
 (hg : (wa.alloc (.cells #[uc] 37)).grownBy wb u.ownBlock) (hO2 : wb.ownsRow (m + 1) 37 1 v2 ((ltF done).length + 1) (vs ++ [uc]))
 (hat : v2.ownBlock = u.ownBlock ∨ v2.ownBlock = some (wa.alloc (.cells #[uc] 37)).heap.size) :
 LtI m (done ++ [part]) (wb.setCell ⟨m, 0, none⟩ v2) ∧ Fr (LtD m) w (wb.setCell ⟨m, 0, none⟩ v2) := by
 have hm : m < w.heap.size := World.block_lt_of_cell? _ _ hc
 have hab : Below w.heap.size w (wa.alloc (.cells #[uc] 37)) := Below.alc hb _
 have une : some m ≠ u.ownBlock := fun e => by have := (ho.lt m e.symm).1; omega
 have ho1 := own_keep ho hab
 have c1 := cell_later hab hc
 have c2 : wb.cell? ⟨m, 0, none⟩ = some u := hg.cell c1 une
 have hm2 : m < (wa.alloc (.cells #[uc] 37)).heap.size := Nat.lt_of_lt_of_le hm hab.size
 have f2 : wb.frozen? ⟨m, 0, none⟩ = false := by
  rw [World.frozen?_of_block (a := ⟨m, 0, none⟩) (hg.block m hm2 une), hab.frozen (p := ⟨m, 0, none⟩) hm]; exact hfm
 have hgs := grownBy_setCell' wb m v2
 have hF : ltF (done ++ [part]) = ltF done ++ [part] := by unfold ltF; rw [List.filter_append]; simp [hl]
 have hin1 : Inn wa (m + 1) vs (ltF done) := hin.keep hb
 have hin2 := hin1.snoc hoc (by omega) (fun k a ha g hg => hin.lt k a ha g hg)
 have hin3 : Inn wb (m + 1) (vs ++ [uc]) (ltF done ++ [part]) := (hin2.keep (below_one _)).grown ho1 (by decide) hg
 refine ⟨⟨by rw [World.frozen?_setCell]; exact f2, v2, World.cell?_setCell_same _ _ _ c2, vs ++ [uc], ?_, ?_⟩, ⟨hg.os.trans hab.os, hg.tape.trans hab.tape, hg.output.trans hab.output, by simp; exact Nat.le_trans hab.size hg.size, fun j hj hne => ?_, fun k hk => ?_⟩⟩
 · rw [hF]
   exact (ownsRow_cast hO2 (by simp) rfl).kept hgs (.inr (fun e => by have := (hO2.lt m e).1; omega))
 · rw [hF]
   exact ⟨hin3.1, fun k v xs h1 h2 => (hin3.2.1 k v xs h1 h2).kept hgs (.inr (fun e => by have := ((hin3.2.1 k v xs h1 h2).lt m e).1; omega)), hin3.2.2⟩
 · rw [heap_setCell_other _ _ _ _ (fun e => hne (.inl e))]
   exact (hg.block j (Nat.lt_of_lt_of_le hj hab.size) (fun e => hne (.inr ⟨u, hc, e.symm⟩))).trans (hab.block j hj)
 · rcases hk with e | ⟨u', hc', hk⟩
   · exact .inl (.inl e)
   · rw [World.cell?_setCell_same _ _ _ c2] at hc'
     injection hc' with hc'
     subst hc'
     rcases hat with h | h
     · exact .inl (.inr ⟨u, hc, by rw [← h]; exact hk⟩)
     · rw [h] at hk
       injection hk with hk
       exact .inr (by rw [← hk]; exact hab.size)
set_option maxHeartbeats 2000000 in
theorem lt_doer (m : Nat) (S : List Int) (hS : ∀ y ∈ S, digitB y = true) : DoerB (LtD m) (LtI m) 252 #[.pointer (some ⟨m, 0, none⟩)] S where
 calls := fun bs w => by kernel_rfl
 keepI := fun done w w' h hb => h.keep hb
 keepD := fun done w w' h hb j hj => by
  obtain ⟨u, hc, _⟩ := h.best
  rcases hj with e | ⟨u', hc', hk⟩
  · exact .inl e
  · rw [cell_later hb hc] at hc'
    injection hc' with hc'
    exact .inr ⟨u, hc, by rw [hc']; exact hk⟩
 ltD := fun done w j h hj => by
  obtain ⟨u, hc, vs, ho, _⟩ := h.best
  rcases hj with e | ⟨u', hc', hk⟩
  · rw [e]; exact World.block_lt_of_cell? _ _ hc
  · rw [hc] at hc'
    injection hc' with hc'
    exact (ho.lt j (by rw [hc']; exact hk)).2
 run := by
  intro done part v w hpl hdl hps hI hv hd
  have ht : testB part = true := by
   unfold testB
   rw [decide_eq_true hpl, Bool.true_and, List.all_eq_true]
   exact fun y hy => hS y (hps y hy)
  have hle := hv.le
  have hv2 := hid hv
  obtain ⟨a, c, rfl, _, _, _⟩ := hv.parts
  have HF := hid (isLeast_c _ part w hv ht)
  have hFl : (ltF done).length ≤ 1100 := Nat.le_trans (List.length_filter_le _ _) hdl
  rcases h2 : leastL (setS part) with _ | _
  · have HC := hid (show ltF (done ++ [part]) = ltF done by unfold ltF; rw [List.filter_append]; simp [h2])
    have HI := hid hI; have H2 := hid h2
    clear hI h2 hv ht
    go_enter Tryz.func252, Tryz.ntmps252
    go_wp2_with fail
    refine HF.out.mono ?_
    rintro e w1 ⟨rfl, hb1⟩
    rw [H2.out]
    have HB := hid hb1
    clear hb1
    go_wp2
    refine bodyPost_end (results_none rfl _ _ _) rfl ?_
    have hk := HI.out.keep HB.out
    obtain ⟨bv, k1, k2⟩ := hk.best
    refine ⟨rfl, ⟨hk.fm, bv, k1, by rw [HC.out]; exact k2⟩, ⟨HB.out.os, HB.out.tape, HB.out.output, HB.out.size, fun j hj _ => HB.out.block j hj, fun j hj => .inl ?_⟩⟩
    obtain ⟨u, hc, _⟩ := HI.out.best
    rcases hj with e | ⟨u', hc', hk⟩
    · exact .inl e
    · rw [cell_later HB.out hc] at hc'
      injection hc' with hc'
      exact .inr ⟨u, hc, by rw [hc']; exact hk⟩
  · obtain ⟨u, hc, vs, ho, hin⟩ := hI.best
    obtain ⟨inf, hi, hz0, hz1, hz2⟩ := info_parts info_ints
    have hfm := hI.fm
    have hm : m < w.heap.size := World.block_lt_of_cell? _ _ hc
    have HIN := hid hin
    have HO := hid ho
    have H2 := hid h2; have HFM := hid hfm; have HCC := hid hc
    clear hI hv ht h2 hin ho
    go_enter Tryz.func252, Tryz.ntmps252
    go_wp2_with fail
    refine HF.out.mono ?_
    rintro e w1 ⟨rfl, hb1⟩
    rw [H2.out]
    have g1 := cell_later hb1 hc
    have f1 := (hb1.frozen (p := ⟨m, 0, none⟩) hm).trans hfm
    have hI1 := hid (hv2.out.below hb1)
    have HB1 := hid hb1
    clear hc hfm hb1
    go_wp2_with fail
    -- REGION
    refine wp_region_held_drew (S := fun _ : World => True) (by kernel_rfl) trivial (fun hHeld => ?_)
    have B_wd : Below w.heap.size w w1.drew := HB1.out.drew
    have C_wd : w1.drew.cell? ⟨m, 0, none⟩ = some u := g1
    have F_wd : w1.drew.frozen? ⟨m, 0, none⟩ = false := f1
    have I_wd := hI1.out.drew
    generalize w1.drew = wd at *
    clear g1 f1 HB1
    refine' tkY 1 hHeld ?r_1
    try simp only [Act.put, xqA, xqB, xqC]
    refine wpAnyH_ready (rs := [0, 2]) (by kernel_rfl) (by simp) ?_
    refine' AllReadyH.cons (o := _) ?e_2 ?st_2 ?more_2
    case e_2 => (simp only [xeA, xeB, xeC]; exact rfl)
    case st_2 =>
     intro K hK
     go_simp
     refine hK.out _ _ trivial (fun hHeld => ?_)
     clear hK K
     try simp only [Act.put, xqA, xqB, xqC]
     refine wpAnyH_ready (rs := [2]) (by kernel_rfl) (by simp) ?_
     refine' AllReadyH.cons (o := _) ?e_3 ?st_3 AllReadyH.nil
     case e_3 => (simp only [xeA, xeB, xeC]; exact rfl)
     case st_3 =>
      intro K hK
      go_simp
      refine (Clone_c _ part _ I_wd (by omega)).mono ?_
      rintro e wa ⟨uc, rfl, hoc, hbc⟩
      obtain ⟨ac, cc, rfl, _⟩ := (Sl.of_own hoc).slice
      have B_wa := Below.chain B_wd hbc
      have C_wa := cell_later hbc C_wd
      have F_wa := (hbc.frozen (p := ⟨m, 0, none⟩) (World.block_lt_of_cell? _ _ C_wd)).trans F_wd
      have O_wa := own_lo hoc B_wd.size
      clear hoc hbc C_wd F_wd B_wd I_wd
      go_wp2_with fail
      refine hK.out _ _ trivial (fun hHeld => ?_)
      clear hK K
      try simp only [Act.put, xqA, xqB, xqC]
      refine wpAnyH_ready (rs := [3]) (by kernel_rfl) (by simp) ?_
      refine' AllReadyH.cons (o := _) ?e_4 ?st_4 AllReadyH.nil
      case e_4 => (simp only [xeA, xeB, xeC]; exact rfl)
      case st_4 =>
       intro K hK
       go_simp
       have C_wb : (wa.alloc (.cells #[.slice ac part.length cc] 37)).cell? ⟨m, 0, none⟩ = some u := cell_later (below_one _) C_wa
       have F_wb : (wa.alloc (.cells #[.slice ac part.length cc] 37)).frozen? ⟨m, 0, none⟩ = false := ((below_one (w := wa) _).frozen (p := ⟨m, 0, none⟩) (World.block_lt_of_cell? _ _ C_wa)).trans F_wa
       refine hK.out _ _ trivial (fun hHeld => ?_)
       clear hK K
       try simp only [Act.put, xqA, xqB, xqC]
       refine wpAnyH_ready (rs := [4]) (by kernel_rfl) (by simp) ?_
       refine' AllReadyH.cons (o := _) ?e_5 ?st_5 AllReadyH.nil
       case e_5 => (simp only [xeA, xeB, xeC]; exact rfl)
       case st_5 =>
        intro K hK
        refine step_append_at (by rfl) _ _ _ (by rfl) (m + 1) 37 inf (.slice none 0 0) 1 24 Tryz.underlying96 hi hz0 hz1 hz2 rfl (by decide) u (ltF done).length vs (by rfl) ((own_keep HO.out B_wa).alloc _) ⟨wa.heap.size, 0, none⟩ 1 1 [.slice ac part.length cc] (by rfl) (by rfl) (news_new _ [.slice ac part.length cc] _) (by simp [Value.oneCell']) (by unfold maxLen; omega) (by omega) (by have := B_wa.size; simp; omega) ?_
        intro v2 wb hO2 hg2 hat2
        have une : some m ≠ u.ownBlock := (fun e => by have := (HO.out.lt m e.symm).1; omega)
        have C_wc : wb.cell? ⟨m, 0, none⟩ = some u := hg2.cell C_wb une
        have F_wc : wb.frozen? ⟨m, 0, none⟩ = false := (World.frozen?_of_block (a := ⟨m, 0, none⟩) (hg2.block m (World.block_lt_of_cell? _ _ C_wb) une)).trans F_wb
        obtain ⟨g3, c3, rfl, _, _, _, _⟩ := own_form hO2 (by omega)
        have HZ := hid (lt_fin HFM.out HCC.out HO.out HIN.out H2.out B_wa O_wa hg2 hO2 hat2)
        clear hg2 hO2 hat2 C_wb F_wb C_wa F_wa B_wa O_wa une
        refine hK.out _ _ trivial (fun hHeld => ?_)
        clear hK K
        try simp only [Act.put, xqA, xqB, xqC]
        refine wpAnyH_ready (rs := [5]) (by kernel_rfl) (by simp) ?_
        refine' AllReadyH.cons (o := _) ?e_6 ?st_6 AllReadyH.nil
        case e_6 => (simp only [xeA, xeB, xeC]; exact rfl)
        case st_6 =>
         intro K hK
         go_simp
         refine hK.out _ _ trivial (fun hHeld => ?_)
         clear hK K
         try simp only [Act.put, xqA, xqB, xqC]
         refine wpAnyH_done (by kernel_rfl) ?_ _
         go_wp2
         refine bodyPost_end (results_none rfl _ _ _) rfl ?_
         exact ⟨rfl, HZ.out.1, HZ.out.2⟩
    case more_2 =>
     refine' AllReadyH.cons (o := _) ?e_7 ?st_7 AllReadyH.nil
     case e_7 => (simp only [xeA, xeB, xeC]; exact rfl)
     case st_7 =>
      intro K hK
      go_simp
      refine (Clone_c _ part _ I_wd (by omega)).mono ?_
      rintro e wa ⟨uc, rfl, hoc, hbc⟩
      obtain ⟨ac, cc, rfl, _⟩ := (Sl.of_own hoc).slice
      have B_wa := Below.chain B_wd hbc
      have C_wa := cell_later hbc C_wd
      have F_wa := (hbc.frozen (p := ⟨m, 0, none⟩) (World.block_lt_of_cell? _ _ C_wd)).trans F_wd
      have O_wa := own_lo hoc B_wd.size
      clear hoc hbc C_wd F_wd B_wd I_wd
      go_wp2_with fail
      refine hK.out _ _ trivial (fun hHeld => ?_)
      clear hK K
      try simp only [Act.put, xqA, xqB, xqC]
      refine wpAnyH_ready (rs := [0, 3]) (by kernel_rfl) (by simp) ?_
      refine' AllReadyH.cons (o := _) ?e_8 ?st_8 ?more_8
      case e_8 => (simp only [xeA, xeB, xeC]; exact rfl)
      case st_8 =>
       intro K hK
       go_simp
       refine hK.out _ _ trivial (fun hHeld => ?_)
       clear hK K
       try simp only [Act.put, xqA, xqB, xqC]
       refine wpAnyH_ready (rs := [3]) (by kernel_rfl) (by simp) ?_
       refine' AllReadyH.cons (o := _) ?e_9 ?st_9 AllReadyH.nil
       case e_9 => (simp only [xeA, xeB, xeC]; exact rfl)
       case st_9 =>
        intro K hK
        go_simp
        have C_wb : (wa.alloc (.cells #[.slice ac part.length cc] 37)).cell? ⟨m, 0, none⟩ = some u := cell_later (below_one _) C_wa
        have F_wb : (wa.alloc (.cells #[.slice ac part.length cc] 37)).frozen? ⟨m, 0, none⟩ = false := ((below_one (w := wa) _).frozen (p := ⟨m, 0, none⟩) (World.block_lt_of_cell? _ _ C_wa)).trans F_wa
        refine hK.out _ _ trivial (fun hHeld => ?_)
        clear hK K
        try simp only [Act.put, xqA, xqB, xqC]
        refine wpAnyH_ready (rs := [4]) (by kernel_rfl) (by simp) ?_
        refine' AllReadyH.cons (o := _) ?e_10 ?st_10 AllReadyH.nil
        case e_10 => (simp only [xeA, xeB, xeC]; exact rfl)
        case st_10 =>
         intro K hK
         refine step_append_at (by rfl) _ _ _ (by rfl) (m + 1) 37 inf (.slice none 0 0) 1 24 Tryz.underlying96 hi hz0 hz1 hz2 rfl (by decide) u (ltF done).length vs (by rfl) ((own_keep HO.out B_wa).alloc _) ⟨wa.heap.size, 0, none⟩ 1 1 [.slice ac part.length cc] (by rfl) (by rfl) (news_new _ [.slice ac part.length cc] _) (by simp [Value.oneCell']) (by unfold maxLen; omega) (by omega) (by have := B_wa.size; simp; omega) ?_
         intro v2 wb hO2 hg2 hat2
         have une : some m ≠ u.ownBlock := (fun e => by have := (HO.out.lt m e.symm).1; omega)
         have C_wc : wb.cell? ⟨m, 0, none⟩ = some u := hg2.cell C_wb une
         have F_wc : wb.frozen? ⟨m, 0, none⟩ = false := (World.frozen?_of_block (a := ⟨m, 0, none⟩) (hg2.block m (World.block_lt_of_cell? _ _ C_wb) une)).trans F_wb
         obtain ⟨g3, c3, rfl, _, _, _, _⟩ := own_form hO2 (by omega)
         have HZ := hid (lt_fin HFM.out HCC.out HO.out HIN.out H2.out B_wa O_wa hg2 hO2 hat2)
         clear hg2 hO2 hat2 C_wb F_wb C_wa F_wa B_wa O_wa une
         refine hK.out _ _ trivial (fun hHeld => ?_)
         clear hK K
         try simp only [Act.put, xqA, xqB, xqC]
         refine wpAnyH_ready (rs := [5]) (by kernel_rfl) (by simp) ?_
         refine' AllReadyH.cons (o := _) ?e_11 ?st_11 AllReadyH.nil
         case e_11 => (simp only [xeA, xeB, xeC]; exact rfl)
         case st_11 =>
          intro K hK
          go_simp
          refine hK.out _ _ trivial (fun hHeld => ?_)
          clear hK K
          try simp only [Act.put, xqA, xqB, xqC]
          refine wpAnyH_done (by kernel_rfl) ?_ _
          go_wp2
          refine bodyPost_end (results_none rfl _ _ _) rfl ?_
          exact ⟨rfl, HZ.out.1, HZ.out.2⟩
      case more_8 =>
       refine' AllReadyH.cons (o := _) ?e_12 ?st_12 AllReadyH.nil
       case e_12 => (simp only [xeA, xeB, xeC]; exact rfl)
       case st_12 =>
        intro K hK
        go_simp
        have C_wb : (wa.alloc (.cells #[.slice ac part.length cc] 37)).cell? ⟨m, 0, none⟩ = some u := cell_later (below_one _) C_wa
        have F_wb : (wa.alloc (.cells #[.slice ac part.length cc] 37)).frozen? ⟨m, 0, none⟩ = false := ((below_one (w := wa) _).frozen (p := ⟨m, 0, none⟩) (World.block_lt_of_cell? _ _ C_wa)).trans F_wa
        refine hK.out _ _ trivial (fun hHeld => ?_)
        clear hK K
        try simp only [Act.put, xqA, xqB, xqC]
        refine wpAnyH_ready (rs := [0]) (by kernel_rfl) (by simp) ?_
        refine' AllReadyH.cons (o := _) ?e_13 ?st_13 AllReadyH.nil
        case e_13 => (simp only [xeA, xeB, xeC]; exact rfl)
        case st_13 =>
         intro K hK
         go_simp
         refine hK.out _ _ trivial (fun hHeld => ?_)
         clear hK K
         try simp only [Act.put, xqA, xqB, xqC]
         refine wpAnyH_ready (rs := [4]) (by kernel_rfl) (by simp) ?_
         refine' AllReadyH.cons (o := _) ?e_14 ?st_14 AllReadyH.nil
         case e_14 => (simp only [xeA, xeB, xeC]; exact rfl)
         case st_14 =>
          intro K hK
          refine step_append_at (by rfl) _ _ _ (by rfl) (m + 1) 37 inf (.slice none 0 0) 1 24 Tryz.underlying96 hi hz0 hz1 hz2 rfl (by decide) u (ltF done).length vs (by rfl) ((own_keep HO.out B_wa).alloc _) ⟨wa.heap.size, 0, none⟩ 1 1 [.slice ac part.length cc] (by rfl) (by rfl) (news_new _ [.slice ac part.length cc] _) (by simp [Value.oneCell']) (by unfold maxLen; omega) (by omega) (by have := B_wa.size; simp; omega) ?_
          intro v2 wb hO2 hg2 hat2
          have une : some m ≠ u.ownBlock := (fun e => by have := (HO.out.lt m e.symm).1; omega)
          have C_wc : wb.cell? ⟨m, 0, none⟩ = some u := hg2.cell C_wb une
          have F_wc : wb.frozen? ⟨m, 0, none⟩ = false := (World.frozen?_of_block (a := ⟨m, 0, none⟩) (hg2.block m (World.block_lt_of_cell? _ _ C_wb) une)).trans F_wb
          obtain ⟨g3, c3, rfl, _, _, _, _⟩ := own_form hO2 (by omega)
          have HZ := hid (lt_fin HFM.out HCC.out HO.out HIN.out H2.out B_wa O_wa hg2 hO2 hat2)
          clear hg2 hO2 hat2 C_wb F_wb C_wa F_wa B_wa O_wa une
          refine hK.out _ _ trivial (fun hHeld => ?_)
          clear hK K
          try simp only [Act.put, xqA, xqB, xqC]
          refine wpAnyH_ready (rs := [5]) (by kernel_rfl) (by simp) ?_
          refine' AllReadyH.cons (o := _) ?e_15 ?st_15 AllReadyH.nil
          case e_15 => (simp only [xeA, xeB, xeC]; exact rfl)
          case st_15 =>
           intro K hK
           go_simp
           refine hK.out _ _ trivial (fun hHeld => ?_)
           clear hK K
           try simp only [Act.put, xqA, xqB, xqC]
           refine wpAnyH_done (by kernel_rfl) ?_ _
           go_wp2
           refine bodyPost_end (results_none rfl _ _ _) rfl ?_
           exact ⟨rfl, HZ.out.1, HZ.out.2⟩
    -- END
theorem ltF_all : ltF ([] ++ subsL tenI) = ltA := rfl
set_option maxHeartbeats 1000000 in
theorem LeastTests_c (w : World) : Calls Tryz.prog 195 #[] w fun e w' => ∃ u, e = .returned u ∧ OwnSS w' w.heap.size u ltA ∧ Below w.heap.size w w' := by
 have q1 : (w.alloc (.cells #[.slice none 0 0] 96)).cell? ⟨w.heap.size, 0, none⟩ = some (.slice none 0 0) := by rw [World.cell?_alloc_at _ _ _ _ rfl]; rfl
 have q2 : (w.alloc (.cells #[.slice none 0 0] 96)).frozen? ⟨w.heap.size, 0, none⟩ = false := World.frozen?_alloc_new _ _ _ _
 have hb0 : Below w.heap.size w (w.alloc (.cells #[.slice none 0 0] 96)) := below_one _
 go_enter Tryz.func195, Tryz.ntmps195
 go_wp2_with fail
 refine (allDigits_c _).mono ?_
 rintro e w2 ⟨u, rfl, ho, hb2⟩
 have g1 := cell_later hb2 q1
 have hI0 : LtI w.heap.size [] w2 := ⟨by rw [hb2.frozen (p := ⟨w.heap.size, 0, none⟩) (World.block_lt_of_cell? _ _ q1)]; exact q2, _, g1, OwnSS.nil_ _ _⟩
 have hv : Ints w2 u tenI := Ints.of_own ho
 have hlt := ho.lt
 have hb3 := Below.chain hb0 hb2
 have hnd : ∀ j, j ≠ w.heap.size → ¬ LtD w.heap.size w2 j := by
  rintro j hj (e | ⟨u', hc', hk⟩)
  · exact hj e
  · rw [g1] at hc'
    injection hc' with hc'
    subst hc'
    simp [Value.ownBlock] at hk
 have HX := hid (subsetsB_c (lt_doer w.heap.size tenI (by decide)) (by decide) u w2 [] hI0 hv (by show (subsL tenI).length ≤ 1100; have h := loopE_len tenI []; unfold subsL; rw [List.length_cons, h]; decide) (fun g hg => ⟨hnd g (by have := (hlt g hg).1; simp at this; omega), (hlt g hg).2⟩))
 have HND := hid hnd
 clear q1 q2 hb0 hb2 ho g1 hI0 hv hlt hnd
 go_wp2_with fail
 refine HX.out.mono ?_
 rintro e w3 ⟨rfl, hI3, hF3⟩
 have hb4 : Below w.heap.size w w3 := ⟨hF3.os.trans hb3.os, hF3.tape.trans hb3.tape, hF3.output.trans hb3.output, Nat.le_trans hb3.size hF3.size, fun j hj => (hF3.block j (Nat.lt_of_lt_of_le hj hb3.size) (HND.out j (by omega))).trans (hb3.block j hj)⟩
 obtain ⟨u3, g1, vs, h1, h2⟩ := hI3.best
 rw [ltF_all] at h1 h2
 have HO := hid (show OwnSS w3 w.heap.size u3 ltA from ⟨vs, own_lo h1 (by omega), h2.lo' (by omega)⟩)
 clear hI3 hF3 hb3 HX HND h1 h2
 go_wp2
 go_ret
 exact ⟨_, rfl, HO.out, hb4⟩
end Go.Proofs.YtohgjfdbnkjefaaGreatDoor
