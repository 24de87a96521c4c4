/- The walks of the program's LeastTests. -/
import Derived.Test.YtfflbbgipbnckaaLts
import Derived.Test.YtfflbbgipbnckaaSubsB
namespace Go.Proofs.Ytfflbbgipbnckaa
open Go.RowKit
set_option linter.unusedVariables false
set_option linter.unusedSimpArgs false
set_option maxRecDepth 100000
def ltF (done : List (List Int)) : List (List Int) := done.filter fun p => leastL (setS p)
structure LtI (m : Nat) (done : List (List Int)) (w : World) : Prop where
  fm : w.frozen? ⟨m, 0, none⟩ = false
  best : ∃ u, w.cell? ⟨m, 0, none⟩ = some u ∧ OwnSS w (m + 1) u (ltF done)
def LtD (m : Nat) (w : World) (j : Nat) : Prop := j = m ∨ ∃ u, w.cell? ⟨m, 0, none⟩ = some u ∧ u.ownBlock = some j
theorem LtI.keep {m : Nat} {done : List (List Int)} {w w' : World} (h : LtI m done w) (hb : Below w.heap.size w w') : LtI m done w' := by
  obtain ⟨u, hc, vs, ho, hi⟩ := h.best
  exact ⟨by rw [hb.frozen (p := ⟨m, 0, none⟩) (World.block_lt_of_cell? _ _ hc)]; exact h.fm, u, cell_later hb hc, vs, own_keep ho hb, hi.keep hb⟩
theorem lt_fin {m : Nat} {done : List (List Int)} {part : List Int} {w wa wb : World} {u v2 uc : Value} {vs : List Value} (hfm : w.frozen? ⟨m, 0, none⟩ = false) (hc : w.cell? ⟨m, 0, none⟩ = some u)
    (ho : w.ownsRow (m + 1) 22 1 u (ltF done).length vs) (hin : Inn w (m + 1) vs (ltF done)) (hl : leastL (setS part) = true) (hb : Below w.heap.size w wa) (hoc : wa.ownsRow w.heap.size 3 1 uc part.length (ints part))
    (hg : (wa.alloc (.cells #[uc] 22)).grownBy wb u.ownBlock) (hO2 : wb.ownsRow (m + 1) 22 1 v2 ((ltF done).length + 1) (vs ++ [uc]))
    (hat : v2.ownBlock = u.ownBlock ∨ v2.ownBlock = some (wa.alloc (.cells #[uc] 22)).heap.size) :
    LtI m (done ++ [part]) (wb.setCell ⟨m, 0, none⟩ v2) ∧ Fr (LtD m) w (wb.setCell ⟨m, 0, none⟩ v2) := by
  have hm : m < w.heap.size := World.block_lt_of_cell? _ _ hc
  have hab : Below w.heap.size w (wa.alloc (.cells #[uc] 22)) := Below.alc hb _
  have une : some m ≠ u.ownBlock := fun e => by have := (ho.lt m e.symm).1; omega
  have ho1 := own_keep ho hab
  have c1 := cell_later hab hc
  have c2 : wb.cell? ⟨m, 0, none⟩ = some u := hg.cell c1 une
  have hm2 : m < (wa.alloc (.cells #[uc] 22)).heap.size := Nat.lt_of_lt_of_le hm hab.size
  have f2 : wb.frozen? ⟨m, 0, none⟩ = false := by
    rw [World.frozen?_of_block (a := ⟨m, 0, none⟩) (hg.block m hm2 une), hab.frozen (p := ⟨m, 0, none⟩) hm]; exact hfm
  have hgs := grownBy_setCell' wb m v2
  have hF : ltF (done ++ [part]) = ltF done ++ [part] := by unfold ltF; rw [List.filter_append]; simp [hl]
  have hin1 : Inn wa (m + 1) vs (ltF done) := hin.keep hb
  have hin2 := hin1.snoc hoc (by omega) (fun k a ha g hg => hin.lt k a ha g hg)
  have hin3 : Inn wb (m + 1) (vs ++ [uc]) (ltF done ++ [part]) := (hin2.keep (below_one _)).grown ho1 (by decide) hg
  refine ⟨⟨by rw [World.frozen?_setCell]; exact f2, v2, World.cell?_setCell_same _ _ _ c2, vs ++ [uc], ?_, ?_⟩, ⟨hg.os.trans hab.os, hg.tape.trans hab.tape, hg.output.trans hab.output, by simp; exact Nat.le_trans hab.size hg.size, fun j hj hne => ?_, fun k hk => ?_⟩⟩
  · rw [hF]
    exact (ownsRow_cast hO2 (by simp) rfl).kept hgs (.inr (fun e => by have := (hO2.lt m e).1; omega))
  · rw [hF]
    exact ⟨hin3.1, fun k v xs h1 h2 => (hin3.2.1 k v xs h1 h2).kept hgs (.inr (fun e => by have := ((hin3.2.1 k v xs h1 h2).lt m e).1; omega)), hin3.2.2⟩
  · rw [heap_setCell_other _ _ _ _ (fun e => hne (.inl e))]
    exact (hg.block j (Nat.lt_of_lt_of_le hj hab.size) (fun e => hne (.inr ⟨u, hc, e.symm⟩))).trans (hab.block j hj)
  · rcases hk with e | ⟨u', hc', hk⟩
    · exact .inl (.inl e)
    · rw [World.cell?_setCell_same _ _ _ c2] at hc'
      injection hc' with hc'
      subst hc'
      rcases hat with h | h
      · exact .inl (.inr ⟨u, hc, by rw [← h]; exact hk⟩)
      · rw [h] at hk
        injection hk with hk
        exact .inr (by rw [← hk]; exact hab.size)
set_option maxHeartbeats 2000000 in
theorem lt_doer (m : Nat) (S : List Int) (hS : ∀ y ∈ S, digitB y = true) : DoerB (LtD m) (LtI m) 46 #[.pointer (some ⟨m, 0, none⟩)] S where
  calls := fun bs w => by kernel_rfl
  keepI := fun done w w' h hb => h.keep hb
  keepD := fun done w w' h hb j hj => by
    obtain ⟨u, hc, _⟩ := h.best
    rcases hj with e | ⟨u', hc', hk⟩
    · exact .inl e
    · rw [cell_later hb hc] at hc'
      injection hc' with hc'
      exact .inr ⟨u, hc, by rw [hc']; exact hk⟩
  ltD := fun done w j h hj => by
    obtain ⟨u, hc, vs, ho, _⟩ := h.best
    rcases hj with e | ⟨u', hc', hk⟩
    · rw [e]; exact World.block_lt_of_cell? _ _ hc
    · rw [hc] at hc'
      injection hc' with hc'
      exact (ho.lt j (by rw [hc']; exact hk)).2
  run := by
    intro done part v w hpl hdl hps hI hv hd
    have ht : testB part = true := by
      unfold testB
      rw [decide_eq_true hpl, Bool.true_and, List.all_eq_true]
      exact fun y hy => hS y (hps y hy)
    have hle := hv.le
    have hv2 := Lib.hid hv
    obtain ⟨a, c, rfl, _, _, _⟩ := hv.parts
    have HF := Lib.hid (isLeast_c _ part w hv ht)
    have hFl : (ltF done).length ≤ 1100 := Nat.le_trans (List.length_filter_le _ _) hdl
    rcases h2 : leastL (setS part) with _ | _
    · have HC := Lib.hid (show ltF (done ++ [part]) = ltF done by unfold ltF; rw [List.filter_append]; simp [h2])
      have HI := Lib.hid hI; have H2 := Lib.hid h2
      clear hI h2 hv ht
      go_enter Try.func46, Try.ntmps46
      go_wp2_with fail
      refine HF.out.mono ?_
      rintro e w1 ⟨rfl, hb1⟩
      rw [H2.out]
      have HB := Lib.hid hb1
      clear hb1
      go_wp2
      refine bodyPost_end (results_none rfl _ _ _) rfl ?_
      have hk := HI.out.keep HB.out
      obtain ⟨bv, k1, k2⟩ := hk.best
      refine ⟨rfl, ⟨hk.fm, bv, k1, by rw [HC.out]; exact k2⟩, ⟨HB.out.os, HB.out.tape, HB.out.output, HB.out.size, fun j hj _ => HB.out.block j hj, fun j hj => .inl ?_⟩⟩
      obtain ⟨u, hc, _⟩ := HI.out.best
      rcases hj with e | ⟨u', hc', hk⟩
      · exact .inl e
      · rw [cell_later HB.out hc] at hc'
        injection hc' with hc'
        exact .inr ⟨u, hc, by rw [hc']; exact hk⟩
    · obtain ⟨u, hc, vs, ho, hin⟩ := hI.best
      obtain ⟨inf, hi, hz0, hz1, hz2⟩ := info_parts info_ints
      have hfm := hI.fm
      have hm : m < w.heap.size := World.block_lt_of_cell? _ _ hc
      have HIN := Lib.hid hin
      have HO := Lib.hid ho
      have H2 := Lib.hid h2; have HFM := Lib.hid hfm; have HCC := Lib.hid hc
      clear hI hv ht h2 hin ho
      go_enter Try.func46, Try.ntmps46
      go_wp2_with fail
      refine HF.out.mono ?_
      rintro e w1 ⟨rfl, hb1⟩
      rw [H2.out]
      have g1 := cell_later hb1 hc
      have f1 := (hb1.frozen (p := ⟨m, 0, none⟩) hm).trans hfm
      have hI1 := Lib.hid (hv2.out.below hb1)
      have HB1 := Lib.hid hb1
      clear hc hfm hb1
      go_wp2_with fail
      -- REGION
      refine wp_region_held_drew (S := fun _ : World => True) (by kernel_rfl) trivial (fun hHeld => ?_)
      have B_wd : Below w.heap.size w w1.drew := HB1.out.drew
      have C_wd : w1.drew.cell? ⟨m, 0, none⟩ = some u := g1
      have F_wd : w1.drew.frozen? ⟨m, 0, none⟩ = false := f1
      have I_wd := hI1.out.drew
      generalize w1.drew = wd at *
      clear g1 f1 HB1
      refine' wpAnyH_take (i := 1) (oi := _) (v := _) ?e_1 ?a_1 ?b_1 ?c_1 ?q_1 ?y_1 hHeld ?r_1
      case e_1 => (simp only [List.getElem?_toArray, List.getElem?_cons_zero, List.getElem?_cons_succ]; exact rfl)
      case a_1 => kernel_rfl
      case b_1 => kernel_rfl
      case c_1 => kernel_rfl
      case q_1 => exact fun _ _ _ h => h
      case y_1 => exact Or.inl ⟨by rfl, by (intro w hSw; (try dsimp only at hSw); go_simp; first | done | with_reducible rfl)⟩
      try simp only [Act.put, List.setIfInBounds_toArray, List.set_cons_zero, List.set_cons_succ]
      refine wpAnyH_ready (rs := [0, 2]) (by kernel_rfl) (by simp) ?_
      refine' AllReadyH.cons (o := _) ?e_2 ?st_2 ?more_2
      case e_2 => (simp only [List.getElem?_toArray, List.getElem?_cons_zero, List.getElem?_cons_succ]; exact rfl)
      case st_2 =>
        intro K hK
        go_simp
        refine hK.out _ _ trivial (fun hHeld => ?_)
        clear hK K
        try simp only [Act.put, List.setIfInBounds_toArray, List.set_cons_zero, List.set_cons_succ]
        refine wpAnyH_ready (rs := [2]) (by kernel_rfl) (by simp) ?_
        refine' AllReadyH.cons (o := _) ?e_3 ?st_3 AllReadyH.nil
        case e_3 => (simp only [List.getElem?_toArray, List.getElem?_cons_zero, List.getElem?_cons_succ]; exact rfl)
        case st_3 =>
          intro K hK
          go_simp
          refine (Clone_c _ part _ I_wd (by omega)).mono ?_
          rintro e wa ⟨uc, rfl, hoc, hbc⟩
          obtain ⟨ac, cc, rfl, _⟩ := (Sl.of_own hoc).slice
          have B_wa := Below.chain B_wd hbc
          have C_wa := cell_later hbc C_wd
          have F_wa := (hbc.frozen (p := ⟨m, 0, none⟩) (World.block_lt_of_cell? _ _ C_wd)).trans F_wd
          have O_wa := own_lo hoc B_wd.size
          clear hoc hbc C_wd F_wd B_wd I_wd
          go_wp2_with fail
          refine hK.out _ _ trivial (fun hHeld => ?_)
          clear hK K
          try simp only [Act.put, List.setIfInBounds_toArray, List.set_cons_zero, List.set_cons_succ]
          refine wpAnyH_ready (rs := [3]) (by kernel_rfl) (by simp) ?_
          refine' AllReadyH.cons (o := _) ?e_4 ?st_4 AllReadyH.nil
          case e_4 => (simp only [List.getElem?_toArray, List.getElem?_cons_zero, List.getElem?_cons_succ]; exact rfl)
          case st_4 =>
            intro K hK
            go_simp
            have C_wb : (wa.alloc (.cells #[.slice ac part.length cc] 22)).cell? ⟨m, 0, none⟩ = some u := cell_later (below_one _) C_wa
            have F_wb : (wa.alloc (.cells #[.slice ac part.length cc] 22)).frozen? ⟨m, 0, none⟩ = false := ((below_one (w := wa) _).frozen (p := ⟨m, 0, none⟩) (World.block_lt_of_cell? _ _ C_wa)).trans F_wa
            refine hK.out _ _ trivial (fun hHeld => ?_)
            clear hK K
            try simp only [Act.put, List.setIfInBounds_toArray, List.set_cons_zero, List.set_cons_succ]
            refine wpAnyH_ready (rs := [4]) (by kernel_rfl) (by simp) ?_
            refine' AllReadyH.cons (o := _) ?e_5 ?st_5 AllReadyH.nil
            case e_5 => (simp only [List.getElem?_toArray, List.getElem?_cons_zero, List.getElem?_cons_succ]; exact rfl)
            case st_5 =>
              intro K hK
              refine step_append_at (by rfl) _ _ _ (by rfl) (m + 1) 22 inf (.slice none 0 0) 1 24 Try.underlying31 hi hz0 hz1 hz2 rfl (by decide) u (ltF done).length vs (by rfl) ((own_keep HO.out B_wa).alloc _) ⟨wa.heap.size, 0, none⟩ 1 1 [.slice ac part.length cc] (by rfl) (by rfl) (news_new _ [.slice ac part.length cc] _) (by simp [Value.oneCell']) (by unfold maxLen; omega) (by omega) (by have := B_wa.size; simp; omega) ?_
              intro v2 wb hO2 hg2 hat2
              have une : some m ≠ u.ownBlock := (fun e => by have := (HO.out.lt m e.symm).1; omega)
              have C_wc : wb.cell? ⟨m, 0, none⟩ = some u := hg2.cell C_wb une
              have F_wc : wb.frozen? ⟨m, 0, none⟩ = false := (World.frozen?_of_block (a := ⟨m, 0, none⟩) (hg2.block m (World.block_lt_of_cell? _ _ C_wb) une)).trans F_wb
              obtain ⟨g3, c3, rfl, _, _, _, _⟩ := own_form hO2 (by omega)
              have HZ := Lib.hid (lt_fin HFM.out HCC.out HO.out HIN.out H2.out B_wa O_wa hg2 hO2 hat2)
              clear hg2 hO2 hat2 C_wb F_wb C_wa F_wa B_wa O_wa une
              refine hK.out _ _ trivial (fun hHeld => ?_)
              clear hK K
              try simp only [Act.put, List.setIfInBounds_toArray, List.set_cons_zero, List.set_cons_succ]
              refine wpAnyH_ready (rs := [5]) (by kernel_rfl) (by simp) ?_
              refine' AllReadyH.cons (o := _) ?e_6 ?st_6 AllReadyH.nil
              case e_6 => (simp only [List.getElem?_toArray, List.getElem?_cons_zero, List.getElem?_cons_succ]; exact rfl)
              case st_6 =>
                intro K hK
                go_simp
                refine hK.out _ _ trivial (fun hHeld => ?_)
                clear hK K
                try simp only [Act.put, List.setIfInBounds_toArray, List.set_cons_zero, List.set_cons_succ]
                refine wpAnyH_done (by kernel_rfl) ?_ _
                go_wp2
                refine bodyPost_end (results_none rfl _ _ _) rfl ?_
                exact ⟨rfl, HZ.out.1, HZ.out.2⟩
      case more_2 =>
        refine' AllReadyH.cons (o := _) ?e_7 ?st_7 AllReadyH.nil
        case e_7 => (simp only [List.getElem?_toArray, List.getElem?_cons_zero, List.getElem?_cons_succ]; exact rfl)
        case st_7 =>
          intro K hK
          go_simp
          refine (Clone_c _ part _ I_wd (by omega)).mono ?_
          rintro e wa ⟨uc, rfl, hoc, hbc⟩
          obtain ⟨ac, cc, rfl, _⟩ := (Sl.of_own hoc).slice
          have B_wa := Below.chain B_wd hbc
          have C_wa := cell_later hbc C_wd
          have F_wa := (hbc.frozen (p := ⟨m, 0, none⟩) (World.block_lt_of_cell? _ _ C_wd)).trans F_wd
          have O_wa := own_lo hoc B_wd.size
          clear hoc hbc C_wd F_wd B_wd I_wd
          go_wp2_with fail
          refine hK.out _ _ trivial (fun hHeld => ?_)
          clear hK K
          try simp only [Act.put, List.setIfInBounds_toArray, List.set_cons_zero, List.set_cons_succ]
          refine wpAnyH_ready (rs := [0, 3]) (by kernel_rfl) (by simp) ?_
          refine' AllReadyH.cons (o := _) ?e_8 ?st_8 ?more_8
          case e_8 => (simp only [List.getElem?_toArray, List.getElem?_cons_zero, List.getElem?_cons_succ]; exact rfl)
          case st_8 =>
            intro K hK
            go_simp
            refine hK.out _ _ trivial (fun hHeld => ?_)
            clear hK K
            try simp only [Act.put, List.setIfInBounds_toArray, List.set_cons_zero, List.set_cons_succ]
            refine wpAnyH_ready (rs := [3]) (by kernel_rfl) (by simp) ?_
            refine' AllReadyH.cons (o := _) ?e_9 ?st_9 AllReadyH.nil
            case e_9 => (simp only [List.getElem?_toArray, List.getElem?_cons_zero, List.getElem?_cons_succ]; exact rfl)
            case st_9 =>
              intro K hK
              go_simp
              have C_wb : (wa.alloc (.cells #[.slice ac part.length cc] 22)).cell? ⟨m, 0, none⟩ = some u := cell_later (below_one _) C_wa
              have F_wb : (wa.alloc (.cells #[.slice ac part.length cc] 22)).frozen? ⟨m, 0, none⟩ = false := ((below_one (w := wa) _).frozen (p := ⟨m, 0, none⟩) (World.block_lt_of_cell? _ _ C_wa)).trans F_wa
              refine hK.out _ _ trivial (fun hHeld => ?_)
              clear hK K
              try simp only [Act.put, List.setIfInBounds_toArray, List.set_cons_zero, List.set_cons_succ]
              refine wpAnyH_ready (rs := [4]) (by kernel_rfl) (by simp) ?_
              refine' AllReadyH.cons (o := _) ?e_10 ?st_10 AllReadyH.nil
              case e_10 => (simp only [List.getElem?_toArray, List.getElem?_cons_zero, List.getElem?_cons_succ]; exact rfl)
              case st_10 =>
                intro K hK
                refine step_append_at (by rfl) _ _ _ (by rfl) (m + 1) 22 inf (.slice none 0 0) 1 24 Try.underlying31 hi hz0 hz1 hz2 rfl (by decide) u (ltF done).length vs (by rfl) ((own_keep HO.out B_wa).alloc _) ⟨wa.heap.size, 0, none⟩ 1 1 [.slice ac part.length cc] (by rfl) (by rfl) (news_new _ [.slice ac part.length cc] _) (by simp [Value.oneCell']) (by unfold maxLen; omega) (by omega) (by have := B_wa.size; simp; omega) ?_
                intro v2 wb hO2 hg2 hat2
                have une : some m ≠ u.ownBlock := (fun e => by have := (HO.out.lt m e.symm).1; omega)
                have C_wc : wb.cell? ⟨m, 0, none⟩ = some u := hg2.cell C_wb une
                have F_wc : wb.frozen? ⟨m, 0, none⟩ = false := (World.frozen?_of_block (a := ⟨m, 0, none⟩) (hg2.block m (World.block_lt_of_cell? _ _ C_wb) une)).trans F_wb
                obtain ⟨g3, c3, rfl, _, _, _, _⟩ := own_form hO2 (by omega)
                have HZ := Lib.hid (lt_fin HFM.out HCC.out HO.out HIN.out H2.out B_wa O_wa hg2 hO2 hat2)
                clear hg2 hO2 hat2 C_wb F_wb C_wa F_wa B_wa O_wa une
                refine hK.out _ _ trivial (fun hHeld => ?_)
                clear hK K
                try simp only [Act.put, List.setIfInBounds_toArray, List.set_cons_zero, List.set_cons_succ]
                refine wpAnyH_ready (rs := [5]) (by kernel_rfl) (by simp) ?_
                refine' AllReadyH.cons (o := _) ?e_11 ?st_11 AllReadyH.nil
                case e_11 => (simp only [List.getElem?_toArray, List.getElem?_cons_zero, List.getElem?_cons_succ]; exact rfl)
                case st_11 =>
                  intro K hK
                  go_simp
                  refine hK.out _ _ trivial (fun hHeld => ?_)
                  clear hK K
                  try simp only [Act.put, List.setIfInBounds_toArray, List.set_cons_zero, List.set_cons_succ]
                  refine wpAnyH_done (by kernel_rfl) ?_ _
                  go_wp2
                  refine bodyPost_end (results_none rfl _ _ _) rfl ?_
                  exact ⟨rfl, HZ.out.1, HZ.out.2⟩
          case more_8 =>
            refine' AllReadyH.cons (o := _) ?e_12 ?st_12 AllReadyH.nil
            case e_12 => (simp only [List.getElem?_toArray, List.getElem?_cons_zero, List.getElem?_cons_succ]; exact rfl)
            case st_12 =>
              intro K hK
              go_simp
              have C_wb : (wa.alloc (.cells #[.slice ac part.length cc] 22)).cell? ⟨m, 0, none⟩ = some u := cell_later (below_one _) C_wa
              have F_wb : (wa.alloc (.cells #[.slice ac part.length cc] 22)).frozen? ⟨m, 0, none⟩ = false := ((below_one (w := wa) _).frozen (p := ⟨m, 0, none⟩) (World.block_lt_of_cell? _ _ C_wa)).trans F_wa
              refine hK.out _ _ trivial (fun hHeld => ?_)
              clear hK K
              try simp only [Act.put, List.setIfInBounds_toArray, List.set_cons_zero, List.set_cons_succ]
              refine wpAnyH_ready (rs := [0]) (by kernel_rfl) (by simp) ?_
              refine' AllReadyH.cons (o := _) ?e_13 ?st_13 AllReadyH.nil
              case e_13 => (simp only [List.getElem?_toArray, List.getElem?_cons_zero, List.getElem?_cons_succ]; exact rfl)
              case st_13 =>
                intro K hK
                go_simp
                refine hK.out _ _ trivial (fun hHeld => ?_)
                clear hK K
                try simp only [Act.put, List.setIfInBounds_toArray, List.set_cons_zero, List.set_cons_succ]
                refine wpAnyH_ready (rs := [4]) (by kernel_rfl) (by simp) ?_
                refine' AllReadyH.cons (o := _) ?e_14 ?st_14 AllReadyH.nil
                case e_14 => (simp only [List.getElem?_toArray, List.getElem?_cons_zero, List.getElem?_cons_succ]; exact rfl)
                case st_14 =>
                  intro K hK
                  refine step_append_at (by rfl) _ _ _ (by rfl) (m + 1) 22 inf (.slice none 0 0) 1 24 Try.underlying31 hi hz0 hz1 hz2 rfl (by decide) u (ltF done).length vs (by rfl) ((own_keep HO.out B_wa).alloc _) ⟨wa.heap.size, 0, none⟩ 1 1 [.slice ac part.length cc] (by rfl) (by rfl) (news_new _ [.slice ac part.length cc] _) (by simp [Value.oneCell']) (by unfold maxLen; omega) (by omega) (by have := B_wa.size; simp; omega) ?_
                  intro v2 wb hO2 hg2 hat2
                  have une : some m ≠ u.ownBlock := (fun e => by have := (HO.out.lt m e.symm).1; omega)
                  have C_wc : wb.cell? ⟨m, 0, none⟩ = some u := hg2.cell C_wb une
                  have F_wc : wb.frozen? ⟨m, 0, none⟩ = false := (World.frozen?_of_block (a := ⟨m, 0, none⟩) (hg2.block m (World.block_lt_of_cell? _ _ C_wb) une)).trans F_wb
                  obtain ⟨g3, c3, rfl, _, _, _, _⟩ := own_form hO2 (by omega)
                  have HZ := Lib.hid (lt_fin HFM.out HCC.out HO.out HIN.out H2.out B_wa O_wa hg2 hO2 hat2)
                  clear hg2 hO2 hat2 C_wb F_wb C_wa F_wa B_wa O_wa une
                  refine hK.out _ _ trivial (fun hHeld => ?_)
                  clear hK K
                  try simp only [Act.put, List.setIfInBounds_toArray, List.set_cons_zero, List.set_cons_succ]
                  refine wpAnyH_ready (rs := [5]) (by kernel_rfl) (by simp) ?_
                  refine' AllReadyH.cons (o := _) ?e_15 ?st_15 AllReadyH.nil
                  case e_15 => (simp only [List.getElem?_toArray, List.getElem?_cons_zero, List.getElem?_cons_succ]; exact rfl)
                  case st_15 =>
                    intro K hK
                    go_simp
                    refine hK.out _ _ trivial (fun hHeld => ?_)
                    clear hK K
                    try simp only [Act.put, List.setIfInBounds_toArray, List.set_cons_zero, List.set_cons_succ]
                    refine wpAnyH_done (by kernel_rfl) ?_ _
                    go_wp2
                    refine bodyPost_end (results_none rfl _ _ _) rfl ?_
                    exact ⟨rfl, HZ.out.1, HZ.out.2⟩
      -- END
theorem ltF_all : ltF ([] ++ subsL tenI) = ltA := rfl
set_option maxHeartbeats 1000000 in
theorem LeastTests_c (w : World) : Calls Try.prog 17 #[] w fun e w' => ∃ u, e = .returned u ∧ OwnSS w' w.heap.size u ltA ∧ Below w.heap.size w w' := by
  have q1 : (w.alloc (.cells #[.slice none 0 0] 31)).cell? ⟨w.heap.size, 0, none⟩ = some (.slice none 0 0) := by rw [World.cell?_alloc_at _ _ _ _ rfl]; rfl
  have q2 : (w.alloc (.cells #[.slice none 0 0] 31)).frozen? ⟨w.heap.size, 0, none⟩ = false := World.frozen?_alloc_new _ _ _ _
  have hb0 : Below w.heap.size w (w.alloc (.cells #[.slice none 0 0] 31)) := below_one _
  go_enter Try.func17, Try.ntmps17
  go_wp2_with fail
  refine (allDigits_c _).mono ?_
  rintro e w2 ⟨u, rfl, ho, hb2⟩
  have g1 := cell_later hb2 q1
  have hI0 : LtI w.heap.size [] w2 := ⟨by rw [hb2.frozen (p := ⟨w.heap.size, 0, none⟩) (World.block_lt_of_cell? _ _ q1)]; exact q2, _, g1, OwnSS.nil_ _ _⟩
  have hv : Ints w2 u tenI := Ints.of_own ho
  have hlt := ho.lt
  have hb3 := Below.chain hb0 hb2
  have hnd : ∀ j, j ≠ w.heap.size → ¬ LtD w.heap.size w2 j := by
    rintro j hj (e | ⟨u', hc', hk⟩)
    · exact hj e
    · rw [g1] at hc'
      injection hc' with hc'
      subst hc'
      simp [Value.ownBlock] at hk
  have HX := Lib.hid (subsetsB_c (lt_doer w.heap.size tenI (by decide)) (by decide) u w2 [] hI0 hv (by show (subsL tenI).length ≤ 1100; have h := loopE_len tenI []; unfold subsL; rw [List.length_cons, h]; decide) (fun g hg => ⟨hnd g (by have := (hlt g hg).1; simp at this; omega), (hlt g hg).2⟩))
  have HND := Lib.hid hnd
  clear q1 q2 hb0 hb2 ho g1 hI0 hv hlt hnd
  go_wp2_with fail
  refine HX.out.mono ?_
  rintro e w3 ⟨rfl, hI3, hF3⟩
  have hb4 : Below w.heap.size w w3 := ⟨hF3.os.trans hb3.os, hF3.tape.trans hb3.tape, hF3.output.trans hb3.output, Nat.le_trans hb3.size hF3.size, fun j hj => (hF3.block j (Nat.lt_of_lt_of_le hj hb3.size) (HND.out j (by omega))).trans (hb3.block j hj)⟩
  obtain ⟨u3, g1, vs, h1, h2⟩ := hI3.best
  rw [ltF_all] at h1 h2
  have HO := Lib.hid (show OwnSS w3 w.heap.size u3 ltA from ⟨vs, own_lo h1 (by omega), h2.lo' (by omega)⟩)
  clear hI3 hF3 hb3 HX HND h1 h2
  go_wp2
  go_ret
  exact ⟨_, rfl, HO.out, hb4⟩
end Go.Proofs.Ytfflbbgipbnckaa
