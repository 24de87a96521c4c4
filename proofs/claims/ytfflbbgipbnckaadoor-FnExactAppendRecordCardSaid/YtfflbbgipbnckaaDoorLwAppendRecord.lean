/- The walk of the law AppendRecord: for every log and record it returns true and turns nothing that was there. -/
import Derived.Test.YtfflbbgipbnckaaDoorLogA2
import Derived.Test.YtfflbbgipbnckaaDoorLwEncodeRecord
import Derived.Test.YtfflbbgipbnckaaDoorLwIsValidLog
import Derived.Test.YtfflbbgipbnckaaDoorMem
import Derived.Deep.DeepCutAuto
namespace Go.Proofs.YtfflbbgipbnckaaDoor
open Go.RowKit
set_option linter.unusedVariables false
set_option linter.unusedSimpArgs false
set_option maxRecDepth 100000
theorem cell_far2 {w : World} : ∀ {vs : List Value} {x o o2 g2 : Nat} {u : Value}, w.cell? ⟨x, o, none⟩ = some u → x ≠ g2 → (w.setCells g2 o2 vs).cell? ⟨x, o, none⟩ = some u := fun {vs} => by
  induction vs generalizing w with
  | nil => intro x o o2 g2 u h _; exact h
  | cons v t ih => intro x o o2 g2 u h hne; rw [World.setCells]; exact ih ((World.cell?_setCell_other _ _ _ _ (by intro e; injection e with e; exact hne e.symm)).trans h) hne
theorem str_one {dX pX : ByteArray} {nX : Int} : ∀ v ∈ [Value.string dX, Value.string pX, Value.int .i64 nX], v.oneCell' = true := by
  intro v hv
  simp only [List.mem_cons, List.not_mem_nil, or_false] at hv
  rcases hv with rfl | rfl | rfl <;> rfl
theorem appV_form (ok okR : Bool) (d p : ByteArray) (n : Int) (c r : ByteArray) : ∃ dX pX nX st, appV ok okR d p n c r = (logV dX pX nX, st) := by
  unfold appV
  split
  · split
    · exact ⟨_, _, _, _, rfl⟩
    · exact ⟨_, _, _, _, rfl⟩
  · exact ⟨_, _, _, _, rfl⟩
theorem bool_of (q : Prop) : ∃ b : Bool, b = true ↔ q := by
  rcases Classical.em q with h | h
  · exact ⟨true, fun _ => h, fun _ => rfl⟩
  · exact ⟨false, fun e => (by cases e), fun e => absurd e h⟩
theorem szR_bd (c r : ByteArray) (k : Int) (hk : k ≤ 1048576) : -1 ≤ szR c r k ∧ szR c r k ≤ 1048576 := by
  unfold szR; split
  · omega
  · split <;> omega
theorem szR_le2 {c r : ByteArray} {k : Int} (hk : k ≤ 1048576) (hs : ¬ szR c r k < 0) : c.size ≤ 1048576 ∧ r.size ≤ 1048576 := by
  unfold szR at hs; split at hs
  · omega
  · split at hs <;> omega
set_option maxHeartbeats 8000000 in
theorem FnExactAppendRecord_walk (d p : ByteArray) (n : Int) (c r : ByteArray) (w : World) (hd : d.size ≤ 9223372036854775807) (hp : p.size ≤ 9223372036854775807) (hc : c.size ≤ 9223372036854775807) (hr : r.size ≤ 9223372036854775807) (ht : Tab w) :
    Calls Tryd.prog 8 #[logV d p n, recV c r] w fun e w' => e = .returned (.bool true) ∧ Below w.heap.size w w' := by
  have hbA := below_one (w := w) (.cells #[.string d, .string p, .int .i64 n] 36)
  have hb0 := Lib.hid (Below.alc hbA (.cells #[.string c, .string r] 23))
  have A0 := Lib.hid ((Bk.new w 36 #[.string d, .string p, .int .i64 n]).alloc (.cells #[.string c, .string r] 23))
  have R0 := Bk.new (w.alloc (.cells #[.string d, .string p, .int .i64 n] 36)) 23 #[.string c, .string r]
  simp only [World.size_alloc] at R0
  have HR0 := Lib.hid R0
  have HZ := Lib.hid (fun w' => szLog_c d p n 1048576 w' (by omega) (by omega) hd hp)
  have HTB := Lib.hid ht
  clear ht hbA R0
  by_cases hs : szL d p 1048576 < 0
  · unfold logV recV at *
    go_enter Tryd.func8, Tryd.ntmps8
    go_wp2_with fail
    refine (HZ.out _).mono ?_
    rintro e w1 ⟨rfl, hb1⟩
    go_wp2
    go_ret
    exact ⟨rfl, Below.chain hb0.out hb1⟩
  · have hdp := szL_le hs
    have hk := szL_bd d p 1048576 (by omega)
    have HZR := Lib.hid (fun w' => szLogRecord_c c r (szL d p 1048576) w' (by omega) hk.2 hc hr)
    by_cases hs2 : szR c r (szL d p 1048576) < 0
    · unfold logV recV at *
      generalize szL d p 1048576 = kk at *
      go_enter Tryd.func8, Tryd.ntmps8
      go_wp2_with fail
      refine (HZ.out _).mono ?_
      rintro e w1 ⟨rfl, hb1⟩
      have R1 := HR0.out.below hb1
      have q0 : w1.cell? ⟨w.heap.size + 1, 0, none⟩ = some (.string c) := R1.cell 0
      have q1 : w1.cell? ⟨w.heap.size + 1, 1, none⟩ = some (.string r) := R1.cell 1
      have HB1 := Lib.hid (Below.chain hb0.out hb1)
      clear hb1 R1
      go_wp2_with fail
      refine (HZR.out _).mono ?_
      rintro e w2 ⟨rfl, hb1⟩
      go_wp2
      go_ret
      exact ⟨rfl, Below.chain HB1.out hb1⟩
    · have hcr := szR_le2 hk.2 hs2
      obtain ⟨ok, hok⟩ := bool_of (∃ es, ValidL d.data.toList p.data.toList n es)
      obtain ⟨dX, pX, nX, st, hX⟩ := appV_form ok (recB c r) d p n c r
      have HS : Hid (∀ w, Calls Tryd.prog 26 #[logV d p n, recV c r] w fun e w' => e = .returned (.tuple #[logV dX pX nX, .int .i64 st]) ∧ Below w.heap.size w w') := fun w =>
        (AppendRecordS_c d p n c r w hdp.1 hdp.2 hcr.1 hcr.2).mono fun e w' ⟨ok2, he, hi, hb⟩ => ⟨by rw [he, ok_same hi hok, hX], hb⟩
      have HI : Hid (∀ w', Below w.heap.size w w' → Calls Tryd.prog 27 #[logV d p n, recV c r] w' fun e w2 => e = .returned (.tuple #[logV dX pX nX, .int .i64 st]) ∧ Below w'.heap.size w' w2) := fun w' hbw =>
        (AppendRecord_c d p n c r w' hdp.1 hdp.2 hcr.1 hcr.2 (HTB.out.on hbw)).mono fun e w' ⟨ok2, he, hi, hb⟩ => ⟨by rw [he, ok_same hi hok, hX], hb⟩
      have HT := Lib.hid (fun w => toLog_c d p n w)
      have HJ := Lib.hid (fun w => toLogRecord_c c r w)
      have HE := Lib.hid (fun w => eqLog_c dX pX nX w)
      clear hok hX
      unfold logV recV at *
      have hqq : (st != st) = false := by simp
      generalize szL d p 1048576 = kk at *
      go_enter Tryd.func8, Tryd.ntmps8
      go_wp2_with fail
      refine (HZ.out _).mono ?_
      rintro e w1 ⟨rfl, hb1⟩
      have A1 := Lib.hid (A0.out.below hb1)
      have R1 := Lib.hid (HR0.out.below hb1)
      have q0 : w1.cell? ⟨w.heap.size + 1, 0, none⟩ = some (.string c) := R1.out.cell 0
      have q1 : w1.cell? ⟨w.heap.size + 1, 1, none⟩ = some (.string r) := R1.out.cell 1
      have HB1 := Lib.hid (Below.chain hb0.out hb1)
      clear hb1 A0 HR0
      go_wp2_with fail
      refine (HZR.out _).mono ?_
      rintro e w0 ⟨rfl, hb1⟩
      have A2 := A1.out.below hb1
      have R2 := R1.out.below hb1
      have B_w0 := Below.chain HB1.out hb1
      clear hb1 q0 q1 A1 R1 HB1
      go_upto_region 8 with fail
      have L0_w0 : w0.cell? ⟨w.heap.size, 0, none⟩ = some (.string d) := A2.cell 0
      have L1_w0 : w0.cell? ⟨w.heap.size, 1, none⟩ = some (.string p) := A2.cell 1
      have L2_w0 : w0.cell? ⟨w.heap.size, 2, none⟩ = some (.int .i64 n) := A2.cell 2
      have C0_w0 : w0.cell? ⟨w.heap.size + 1, 0, none⟩ = some (.string c) := R2.cell 0
      have C1_w0 : w0.cell? ⟨w.heap.size + 1, 1, none⟩ = some (.string r) := R2.cell 1
      clear A2 R2
      go_cut [6, 7] (fun s6 s7 wx => ∃ g : Nat, s6 = .pointer (some ⟨g, 0, none⟩) ∧ s7 = .int .i64 st ∧ wx.rangeAt g 0 ([Value.string dX, Value.string pX, Value.int .i64 nX]) ∧ w.heap.size + 1 < g ∧ wx.cell? ⟨w.heap.size, 0, none⟩ = some (.string d) ∧ wx.cell? ⟨w.heap.size, 1, none⟩ = some (.string p) ∧ wx.cell? ⟨w.heap.size, 2, none⟩ = some (.int .i64 n) ∧ wx.cell? ⟨w.heap.size + 1, 0, none⟩ = some (.string c) ∧ wx.cell? ⟨w.heap.size + 1, 1, none⟩ = some (.string r) ∧ Below w.heap.size w wx)
      case first =>
        have L0_wd := (show World.cell? (w0.drew) _ = some _ from L0_w0)
        have L1_wd := (show World.cell? (w0.drew) _ = some _ from L1_w0)
        have L2_wd := (show World.cell? (w0.drew) _ = some _ from L2_w0)
        have C0_wd := (show World.cell? (w0.drew) _ = some _ from C0_w0)
        have C1_wd := (show World.cell? (w0.drew) _ = some _ from C1_w0)
        have B_wd := B_w0.drew
        refine wp_region_held_drew (S := fun w' : World => w'.cell? ⟨w.heap.size, 0, none⟩ = some (.string d) ∧ w'.cell? ⟨w.heap.size, 1, none⟩ = some (.string p) ∧ w'.cell? ⟨w.heap.size, 2, none⟩ = some (.int .i64 n) ∧ w'.cell? ⟨w.heap.size + 1, 0, none⟩ = some (.string c) ∧ w'.cell? ⟨w.heap.size + 1, 1, none⟩ = some (.string r)) (by kernel_rfl) ⟨L0_wd, L1_wd, L2_wd, C0_wd, C1_wd⟩ (fun hHeld => ?_)
        generalize w0.drew = wd at *
        clear L0_w0 L1_w0 L2_w0 C0_w0 C1_w0  B_w0
        refine' wpAnyH_take (i := 0) (oi := _) (v := _) ?e_1 ?a_1 ?b_1 ?c_1 ?q_1 ?y_1 hHeld ?r_1
        case e_1 => (simp only [List.getElem?_toArray, List.getElem?_cons_zero, List.getElem?_cons_succ]; exact rfl)
        case a_1 => kernel_rfl
        case b_1 => kernel_rfl
        case c_1 => kernel_rfl
        case q_1 => exact fun _ _ _ h => h
        case y_1 => exact Or.inl ⟨by rfl, by (intro w hSw; (obtain ⟨hs1, hs2, hs3, hs4, hs5⟩ := hSw); go_simp; first | done | with_reducible rfl)⟩
        try simp only [Act.put, List.setIfInBounds_toArray, List.set_cons_zero, List.set_cons_succ]
        refine' wpAnyH_take (i := 2) (oi := _) (v := _) ?e_2 ?a_2 ?b_2 ?c_2 ?q_2 ?y_2 hHeld ?r_2
        case e_2 => (simp only [List.getElem?_toArray, List.getElem?_cons_zero, List.getElem?_cons_succ]; exact rfl)
        case a_2 => kernel_rfl
        case b_2 => kernel_rfl
        case c_2 => kernel_rfl
        case q_2 => exact fun _ _ _ h => h
        case y_2 => exact Or.inl ⟨by rfl, by (intro w hSw; (obtain ⟨hs1, hs2, hs3, hs4, hs5⟩ := hSw); go_simp; first | done | with_reducible rfl)⟩
        try simp only [Act.put, List.setIfInBounds_toArray, List.set_cons_zero, List.set_cons_succ]
        refine wpAnyH_ready (rs := [1, 8]) (by kernel_rfl) (by simp) ?_
        refine' AllReadyH.cons (o := _) ?e_3 ?st_3 ?more_3
        case e_3 => (simp only [List.getElem?_toArray, List.getElem?_cons_zero, List.getElem?_cons_succ]; exact rfl)
        case st_3 =>
          intro K hK
          go_simp
          refine (HT.out _).mono ?_
          rintro e wc4 ⟨rfl, hx5⟩
          have L0_wc4 := cell_later hx5 L0_wd
          have L1_wc4 := cell_later hx5 L1_wd
          have L2_wc4 := cell_later hx5 L2_wd
          have C0_wc4 := cell_later hx5 C0_wd
          have C1_wc4 := cell_later hx5 C1_wd
          have B_wc4 := Below.chain B_wd hx5
          clear L0_wd L1_wd L2_wd C0_wd C1_wd  B_wd hx5
          refine hK.out _ _ ⟨L0_wc4, L1_wc4, L2_wc4, C0_wc4, C1_wc4⟩ (fun hHeld => ?_)
          clear hK K
          try simp only [Act.put, List.setIfInBounds_toArray, List.set_cons_zero, List.set_cons_succ]
          refine wpAnyH_ready (rs := [3, 8]) (by kernel_rfl) (by simp) ?_
          refine' AllReadyH.cons (o := _) ?e_6 ?st_6 ?more_6
          case e_6 => (simp only [List.getElem?_toArray, List.getElem?_cons_zero, List.getElem?_cons_succ]; exact rfl)
          case st_6 =>
            intro K hK
            go_simp
            refine (HJ.out _).mono ?_
            rintro e wc7 ⟨rfl, hx8⟩
            have L0_wc7 := cell_later hx8 L0_wc4
            have L1_wc7 := cell_later hx8 L1_wc4
            have L2_wc7 := cell_later hx8 L2_wc4
            have C0_wc7 := cell_later hx8 C0_wc4
            have C1_wc7 := cell_later hx8 C1_wc4
            have B_wc7 := Below.chain B_wc4 hx8
            clear L0_wc4 L1_wc4 L2_wc4 C0_wc4 C1_wc4  B_wc4 hx8
            refine hK.out _ _ ⟨L0_wc7, L1_wc7, L2_wc7, C0_wc7, C1_wc7⟩ (fun hHeld => ?_)
            clear hK K
            try simp only [Act.put, List.setIfInBounds_toArray, List.set_cons_zero, List.set_cons_succ]
            refine wpAnyH_ready (rs := [4, 8]) (by kernel_rfl) (by simp) ?_
            refine' AllReadyH.cons (o := _) ?e_9 ?st_9 ?more_9
            case e_9 => (simp only [List.getElem?_toArray, List.getElem?_cons_zero, List.getElem?_cons_succ]; exact rfl)
            case st_9 =>
              intro K hK
              go_simp
              refine (HS.out _).mono ?_
              rintro e wc10 ⟨rfl, hx11⟩
              have L0_wc10 := cell_later hx11 L0_wc7
              have L1_wc10 := cell_later hx11 L1_wc7
              have L2_wc10 := cell_later hx11 L2_wc7
              have C0_wc10 := cell_later hx11 C0_wc7
              have C1_wc10 := cell_later hx11 C1_wc7
              have B_wc10 := Below.chain B_wc7 hx11
              clear L0_wc7 L1_wc7 L2_wc7 C0_wc7 C1_wc7  B_wc7 hx11
              refine hK.out _ _ ⟨L0_wc10, L1_wc10, L2_wc10, C0_wc10, C1_wc10⟩ (fun hHeld => ?_)
              clear hK K
              try simp only [Act.put, List.setIfInBounds_toArray, List.set_cons_zero, List.set_cons_succ]
              refine' wpAnyH_take (i := 5) (oi := _) (v := _) ?e_12 ?a_12 ?b_12 ?c_12 ?q_12 ?y_12 hHeld ?r_12
              case e_12 => (simp only [List.getElem?_toArray, List.getElem?_cons_zero, List.getElem?_cons_succ]; exact rfl)
              case a_12 => kernel_rfl
              case b_12 => kernel_rfl
              case c_12 => kernel_rfl
              case q_12 => exact fun _ _ _ h => h
              case y_12 => exact Or.inl ⟨by rfl, by (intro w hSw; (try dsimp only at hSw); go_simp; first | done | with_reducible rfl)⟩
              try simp only [Act.put, List.setIfInBounds_toArray, List.set_cons_zero, List.set_cons_succ]
              refine' wpAnyH_take (i := 6) (oi := _) (v := _) ?e_13 ?a_13 ?b_13 ?c_13 ?q_13 ?y_13 hHeld ?r_13
              case e_13 => (simp only [List.getElem?_toArray, List.getElem?_cons_zero, List.getElem?_cons_succ]; exact rfl)
              case a_13 => kernel_rfl
              case b_13 => kernel_rfl
              case c_13 => kernel_rfl
              case q_13 => exact fun _ _ _ h => h
              case y_13 => exact Or.inl ⟨by rfl, by (intro w hSw; (try dsimp only at hSw); go_simp; first | done | with_reducible rfl)⟩
              try simp only [Act.put, List.setIfInBounds_toArray, List.set_cons_zero, List.set_cons_succ]
              refine' wpAnyH_take (i := 7) (oi := _) (v := _) ?e_14 ?a_14 ?b_14 ?c_14 ?q_14 ?y_14 hHeld ?r_14
              case e_14 => (simp only [List.getElem?_toArray, List.getElem?_cons_zero, List.getElem?_cons_succ]; exact rfl)
              case a_14 => kernel_rfl
              case b_14 => kernel_rfl
              case c_14 => kernel_rfl
              case q_14 => exact fun _ _ _ h => h
              case y_14 => exact Or.inl ⟨by rfl, by (intro w hSw; (try dsimp only at hSw); go_simp; first | done | with_reducible rfl)⟩
              try simp only [Act.put, List.setIfInBounds_toArray, List.set_cons_zero, List.set_cons_succ]
              refine wpAnyH_ready (rs := [8]) (by kernel_rfl) (by simp) ?_
              refine' AllReadyH.cons (o := _) ?e_15 ?st_15 AllReadyH.nil
              case e_15 => (simp only [List.getElem?_toArray, List.getElem?_cons_zero, List.getElem?_cons_succ]; exact rfl)
              case st_15 =>
                intro K hK
                go_simp
                have L0_wa16 := cell_later (below_one (w := wc10) (.cells #[.string ⟨#[]⟩, .string ⟨#[]⟩, .int .i64 0] 31)) L0_wc10
                have L1_wa16 := cell_later (below_one (w := wc10) (.cells #[.string ⟨#[]⟩, .string ⟨#[]⟩, .int .i64 0] 31)) L1_wc10
                have L2_wa16 := cell_later (below_one (w := wc10) (.cells #[.string ⟨#[]⟩, .string ⟨#[]⟩, .int .i64 0] 31)) L2_wc10
                have C0_wa16 := cell_later (below_one (w := wc10) (.cells #[.string ⟨#[]⟩, .string ⟨#[]⟩, .int .i64 0] 31)) C0_wc10
                have C1_wa16 := cell_later (below_one (w := wc10) (.cells #[.string ⟨#[]⟩, .string ⟨#[]⟩, .int .i64 0] 31)) C1_wc10
                have B_wa16 := Below.alc B_wc10 (.cells #[.string ⟨#[]⟩, .string ⟨#[]⟩, .int .i64 0] 31)
                have T_wa16 := there_new wc10 #[.string ⟨#[]⟩, .string ⟨#[]⟩, .int .i64 0] 31 (n := 3) (by decide)
                have hg1 : w.heap.size + 1 < wc10.heap.size := World.block_lt_of_cell? _ _ C0_wc10
                generalize wc10.heap.size = g at *
                generalize wc10.alloc (.cells #[.string ⟨#[]⟩, .string ⟨#[]⟩, .int .i64 0] 31) = wa16 at *
                clear L0_wc10 L1_wc10 L2_wc10 C0_wc10 C1_wc10  B_wc10
                refine hK.out _ _ ⟨L0_wa16, L1_wa16, L2_wa16, C0_wa16, C1_wa16⟩ (fun hHeld => ?_)
                clear hK K
                try simp only [Act.put, List.setIfInBounds_toArray, List.set_cons_zero, List.set_cons_succ]
                refine wpAnyH_ready (rs := [9]) (by kernel_rfl) (by simp) ?_
                refine' AllReadyH.cons (o := _) ?e_17 ?st_17 AllReadyH.nil
                case e_17 => (simp only [List.getElem?_toArray, List.getElem?_cons_zero, List.getElem?_cons_succ]; exact rfl)
                case st_17 =>
                  intro K hK
                  rw [if_pos (by rfl)]
                  refine wp_store_mid _ _ _ rfl _ _ ([Value.string dX, Value.string pX, Value.int .i64 nX]).toArray rfl rfl (by simpa using T_wa16) (by kernel_rfl) (all_oneCell_toArray str_one) ?_
                  simp only [Act.put, List.setIfInBounds_toArray, List.set_cons_zero, List.set_cons_succ, List.toList_toArray]
                  have L0_ws18 := cell_far2 (g2 := g) (o2 := 0) (vs := [Value.string dX, Value.string pX, Value.int .i64 nX]) L0_wa16 (by omega)
                  have L1_ws18 := cell_far2 (g2 := g) (o2 := 0) (vs := [Value.string dX, Value.string pX, Value.int .i64 nX]) L1_wa16 (by omega)
                  have L2_ws18 := cell_far2 (g2 := g) (o2 := 0) (vs := [Value.string dX, Value.string pX, Value.int .i64 nX]) L2_wa16 (by omega)
                  have C0_ws18 := cell_far2 (g2 := g) (o2 := 0) (vs := [Value.string dX, Value.string pX, Value.int .i64 nX]) C0_wa16 (by omega)
                  have C1_ws18 := cell_far2 (g2 := g) (o2 := 0) (vs := [Value.string dX, Value.string pX, Value.int .i64 nX]) C1_wa16 (by omega)
                  have B_ws18 := below_cells (w := w) ([Value.string dX, Value.string pX, Value.int .i64 nX]) wa16 g 0 B_wa16 (show w.heap.size ≤ g by omega)
                  have Y_ws18 := World.rangeAt_setCells_same wa16 g 0 ([Value.string dX, Value.string pX, Value.int .i64 nX]) T_wa16
                  have hgV := World.block_lt_of_cell? _ _ (Y_ws18 0 _ rfl)
                  generalize World.setCells _ _ _ _ = ws18 at *
                  refine hK.out _ _ ⟨L0_ws18, L1_ws18, L2_ws18, C0_ws18, C1_ws18⟩ (fun hHeld => ?_)
                  clear hK K
                  try simp only [Act.put, List.setIfInBounds_toArray, List.set_cons_zero, List.set_cons_succ]
                  refine' wpAnyH_take (i := 10) (oi := _) (v := _) ?e_19 ?a_19 ?b_19 ?c_19 ?q_19 ?y_19 hHeld ?r_19
                  case e_19 => (simp only [List.getElem?_toArray, List.getElem?_cons_zero, List.getElem?_cons_succ]; exact rfl)
                  case a_19 => kernel_rfl
                  case b_19 => kernel_rfl
                  case c_19 => kernel_rfl
                  case q_19 => exact fun _ _ _ h => h
                  case y_19 => exact Or.inl ⟨by rfl, by (intro w hSw; (try dsimp only at hSw); go_simp; first | done | with_reducible rfl)⟩
                  try simp only [Act.put, List.setIfInBounds_toArray, List.set_cons_zero, List.set_cons_succ]
                  refine wpAnyH_done (by kernel_rfl) ?_ _
                  go_wp2_with fail
                  go_meet
                  exact ⟨g, rfl, rfl, Y_ws18, hg1, L0_ws18, L1_ws18, L2_ws18, C0_ws18, C1_ws18, B_ws18⟩
            case more_9 =>
              refine' AllReadyH.cons (o := _) ?e_20 ?st_20 AllReadyH.nil
              case e_20 => (simp only [List.getElem?_toArray, List.getElem?_cons_zero, List.getElem?_cons_succ]; exact rfl)
              case st_20 =>
                intro K hK
                go_simp
                have L0_wa21 := cell_later (below_one (w := wc7) (.cells #[.string ⟨#[]⟩, .string ⟨#[]⟩, .int .i64 0] 31)) L0_wc7
                have L1_wa21 := cell_later (below_one (w := wc7) (.cells #[.string ⟨#[]⟩, .string ⟨#[]⟩, .int .i64 0] 31)) L1_wc7
                have L2_wa21 := cell_later (below_one (w := wc7) (.cells #[.string ⟨#[]⟩, .string ⟨#[]⟩, .int .i64 0] 31)) L2_wc7
                have C0_wa21 := cell_later (below_one (w := wc7) (.cells #[.string ⟨#[]⟩, .string ⟨#[]⟩, .int .i64 0] 31)) C0_wc7
                have C1_wa21 := cell_later (below_one (w := wc7) (.cells #[.string ⟨#[]⟩, .string ⟨#[]⟩, .int .i64 0] 31)) C1_wc7
                have B_wa21 := Below.alc B_wc7 (.cells #[.string ⟨#[]⟩, .string ⟨#[]⟩, .int .i64 0] 31)
                have T_wa21 := there_new wc7 #[.string ⟨#[]⟩, .string ⟨#[]⟩, .int .i64 0] 31 (n := 3) (by decide)
                have hg1 : w.heap.size + 1 < wc7.heap.size := World.block_lt_of_cell? _ _ C0_wc7
                generalize wc7.heap.size = g at *
                generalize wc7.alloc (.cells #[.string ⟨#[]⟩, .string ⟨#[]⟩, .int .i64 0] 31) = wa21 at *
                clear L0_wc7 L1_wc7 L2_wc7 C0_wc7 C1_wc7  B_wc7
                refine hK.out _ _ ⟨L0_wa21, L1_wa21, L2_wa21, C0_wa21, C1_wa21⟩ (fun hHeld => ?_)
                clear hK K
                try simp only [Act.put, List.setIfInBounds_toArray, List.set_cons_zero, List.set_cons_succ]
                refine wpAnyH_ready (rs := [4]) (by kernel_rfl) (by simp) ?_
                refine' AllReadyH.cons (o := _) ?e_22 ?st_22 AllReadyH.nil
                case e_22 => (simp only [List.getElem?_toArray, List.getElem?_cons_zero, List.getElem?_cons_succ]; exact rfl)
                case st_22 =>
                  intro K hK
                  go_simp
                  refine (HS.out _).mono ?_
                  rintro e wc23 ⟨rfl, hx24⟩
                  have L0_wc23 := cell_later hx24 L0_wa21
                  have L1_wc23 := cell_later hx24 L1_wa21
                  have L2_wc23 := cell_later hx24 L2_wa21
                  have C0_wc23 := cell_later hx24 C0_wa21
                  have C1_wc23 := cell_later hx24 C1_wa21
                  have T_wc23 := there_below T_wa21 hx24
                  have B_wc23 := Below.chain B_wa21 hx24
                  clear L0_wa21 L1_wa21 L2_wa21 C0_wa21 C1_wa21  B_wa21 T_wa21 hx24
                  refine hK.out _ _ ⟨L0_wc23, L1_wc23, L2_wc23, C0_wc23, C1_wc23⟩ (fun hHeld => ?_)
                  clear hK K
                  try simp only [Act.put, List.setIfInBounds_toArray, List.set_cons_zero, List.set_cons_succ]
                  refine' wpAnyH_take (i := 5) (oi := _) (v := _) ?e_25 ?a_25 ?b_25 ?c_25 ?q_25 ?y_25 hHeld ?r_25
                  case e_25 => (simp only [List.getElem?_toArray, List.getElem?_cons_zero, List.getElem?_cons_succ]; exact rfl)
                  case a_25 => kernel_rfl
                  case b_25 => kernel_rfl
                  case c_25 => kernel_rfl
                  case q_25 => exact fun _ _ _ h => h
                  case y_25 => exact Or.inl ⟨by rfl, by (intro w hSw; (try dsimp only at hSw); go_simp; first | done | with_reducible rfl)⟩
                  try simp only [Act.put, List.setIfInBounds_toArray, List.set_cons_zero, List.set_cons_succ]
                  refine' wpAnyH_take (i := 6) (oi := _) (v := _) ?e_26 ?a_26 ?b_26 ?c_26 ?q_26 ?y_26 hHeld ?r_26
                  case e_26 => (simp only [List.getElem?_toArray, List.getElem?_cons_zero, List.getElem?_cons_succ]; exact rfl)
                  case a_26 => kernel_rfl
                  case b_26 => kernel_rfl
                  case c_26 => kernel_rfl
                  case q_26 => exact fun _ _ _ h => h
                  case y_26 => exact Or.inl ⟨by rfl, by (intro w hSw; (try dsimp only at hSw); go_simp; first | done | with_reducible rfl)⟩
                  try simp only [Act.put, List.setIfInBounds_toArray, List.set_cons_zero, List.set_cons_succ]
                  refine' wpAnyH_take (i := 7) (oi := _) (v := _) ?e_27 ?a_27 ?b_27 ?c_27 ?q_27 ?y_27 hHeld ?r_27
                  case e_27 => (simp only [List.getElem?_toArray, List.getElem?_cons_zero, List.getElem?_cons_succ]; exact rfl)
                  case a_27 => kernel_rfl
                  case b_27 => kernel_rfl
                  case c_27 => kernel_rfl
                  case q_27 => exact fun _ _ _ h => h
                  case y_27 => exact Or.inl ⟨by rfl, by (intro w hSw; (try dsimp only at hSw); go_simp; first | done | with_reducible rfl)⟩
                  try simp only [Act.put, List.setIfInBounds_toArray, List.set_cons_zero, List.set_cons_succ]
                  refine wpAnyH_ready (rs := [9]) (by kernel_rfl) (by simp) ?_
                  refine' AllReadyH.cons (o := _) ?e_28 ?st_28 AllReadyH.nil
                  case e_28 => (simp only [List.getElem?_toArray, List.getElem?_cons_zero, List.getElem?_cons_succ]; exact rfl)
                  case st_28 =>
                    intro K hK
                    rw [if_pos (by rfl)]
                    refine wp_store_mid _ _ _ rfl _ _ ([Value.string dX, Value.string pX, Value.int .i64 nX]).toArray rfl rfl (by simpa using T_wc23) (by kernel_rfl) (all_oneCell_toArray str_one) ?_
                    simp only [Act.put, List.setIfInBounds_toArray, List.set_cons_zero, List.set_cons_succ, List.toList_toArray]
                    have L0_ws29 := cell_far2 (g2 := g) (o2 := 0) (vs := [Value.string dX, Value.string pX, Value.int .i64 nX]) L0_wc23 (by omega)
                    have L1_ws29 := cell_far2 (g2 := g) (o2 := 0) (vs := [Value.string dX, Value.string pX, Value.int .i64 nX]) L1_wc23 (by omega)
                    have L2_ws29 := cell_far2 (g2 := g) (o2 := 0) (vs := [Value.string dX, Value.string pX, Value.int .i64 nX]) L2_wc23 (by omega)
                    have C0_ws29 := cell_far2 (g2 := g) (o2 := 0) (vs := [Value.string dX, Value.string pX, Value.int .i64 nX]) C0_wc23 (by omega)
                    have C1_ws29 := cell_far2 (g2 := g) (o2 := 0) (vs := [Value.string dX, Value.string pX, Value.int .i64 nX]) C1_wc23 (by omega)
                    have B_ws29 := below_cells (w := w) ([Value.string dX, Value.string pX, Value.int .i64 nX]) wc23 g 0 B_wc23 (show w.heap.size ≤ g by omega)
                    have Y_ws29 := World.rangeAt_setCells_same wc23 g 0 ([Value.string dX, Value.string pX, Value.int .i64 nX]) T_wc23
                    have hgV := World.block_lt_of_cell? _ _ (Y_ws29 0 _ rfl)
                    generalize World.setCells _ _ _ _ = ws29 at *
                    refine hK.out _ _ ⟨L0_ws29, L1_ws29, L2_ws29, C0_ws29, C1_ws29⟩ (fun hHeld => ?_)
                    clear hK K
                    try simp only [Act.put, List.setIfInBounds_toArray, List.set_cons_zero, List.set_cons_succ]
                    refine' wpAnyH_take (i := 10) (oi := _) (v := _) ?e_30 ?a_30 ?b_30 ?c_30 ?q_30 ?y_30 hHeld ?r_30
                    case e_30 => (simp only [List.getElem?_toArray, List.getElem?_cons_zero, List.getElem?_cons_succ]; exact rfl)
                    case a_30 => kernel_rfl
                    case b_30 => kernel_rfl
                    case c_30 => kernel_rfl
                    case q_30 => exact fun _ _ _ h => h
                    case y_30 => exact Or.inl ⟨by rfl, by (intro w hSw; (try dsimp only at hSw); go_simp; first | done | with_reducible rfl)⟩
                    try simp only [Act.put, List.setIfInBounds_toArray, List.set_cons_zero, List.set_cons_succ]
                    refine wpAnyH_done (by kernel_rfl) ?_ _
                    go_wp2_with fail
                    go_meet
                    exact ⟨g, rfl, rfl, Y_ws29, hg1, L0_ws29, L1_ws29, L2_ws29, C0_ws29, C1_ws29, B_ws29⟩
          case more_6 =>
            refine' AllReadyH.cons (o := _) ?e_31 ?st_31 AllReadyH.nil
            case e_31 => (simp only [List.getElem?_toArray, List.getElem?_cons_zero, List.getElem?_cons_succ]; exact rfl)
            case st_31 =>
              intro K hK
              go_simp
              have L0_wa32 := cell_later (below_one (w := wc4) (.cells #[.string ⟨#[]⟩, .string ⟨#[]⟩, .int .i64 0] 31)) L0_wc4
              have L1_wa32 := cell_later (below_one (w := wc4) (.cells #[.string ⟨#[]⟩, .string ⟨#[]⟩, .int .i64 0] 31)) L1_wc4
              have L2_wa32 := cell_later (below_one (w := wc4) (.cells #[.string ⟨#[]⟩, .string ⟨#[]⟩, .int .i64 0] 31)) L2_wc4
              have C0_wa32 := cell_later (below_one (w := wc4) (.cells #[.string ⟨#[]⟩, .string ⟨#[]⟩, .int .i64 0] 31)) C0_wc4
              have C1_wa32 := cell_later (below_one (w := wc4) (.cells #[.string ⟨#[]⟩, .string ⟨#[]⟩, .int .i64 0] 31)) C1_wc4
              have B_wa32 := Below.alc B_wc4 (.cells #[.string ⟨#[]⟩, .string ⟨#[]⟩, .int .i64 0] 31)
              have T_wa32 := there_new wc4 #[.string ⟨#[]⟩, .string ⟨#[]⟩, .int .i64 0] 31 (n := 3) (by decide)
              have hg1 : w.heap.size + 1 < wc4.heap.size := World.block_lt_of_cell? _ _ C0_wc4
              generalize wc4.heap.size = g at *
              generalize wc4.alloc (.cells #[.string ⟨#[]⟩, .string ⟨#[]⟩, .int .i64 0] 31) = wa32 at *
              clear L0_wc4 L1_wc4 L2_wc4 C0_wc4 C1_wc4  B_wc4
              refine hK.out _ _ ⟨L0_wa32, L1_wa32, L2_wa32, C0_wa32, C1_wa32⟩ (fun hHeld => ?_)
              clear hK K
              try simp only [Act.put, List.setIfInBounds_toArray, List.set_cons_zero, List.set_cons_succ]
              refine wpAnyH_ready (rs := [3]) (by kernel_rfl) (by simp) ?_
              refine' AllReadyH.cons (o := _) ?e_33 ?st_33 AllReadyH.nil
              case e_33 => (simp only [List.getElem?_toArray, List.getElem?_cons_zero, List.getElem?_cons_succ]; exact rfl)
              case st_33 =>
                intro K hK
                go_simp
                refine (HJ.out _).mono ?_
                rintro e wc34 ⟨rfl, hx35⟩
                have L0_wc34 := cell_later hx35 L0_wa32
                have L1_wc34 := cell_later hx35 L1_wa32
                have L2_wc34 := cell_later hx35 L2_wa32
                have C0_wc34 := cell_later hx35 C0_wa32
                have C1_wc34 := cell_later hx35 C1_wa32
                have T_wc34 := there_below T_wa32 hx35
                have B_wc34 := Below.chain B_wa32 hx35
                clear L0_wa32 L1_wa32 L2_wa32 C0_wa32 C1_wa32  B_wa32 T_wa32 hx35
                refine hK.out _ _ ⟨L0_wc34, L1_wc34, L2_wc34, C0_wc34, C1_wc34⟩ (fun hHeld => ?_)
                clear hK K
                try simp only [Act.put, List.setIfInBounds_toArray, List.set_cons_zero, List.set_cons_succ]
                refine wpAnyH_ready (rs := [4]) (by kernel_rfl) (by simp) ?_
                refine' AllReadyH.cons (o := _) ?e_36 ?st_36 AllReadyH.nil
                case e_36 => (simp only [List.getElem?_toArray, List.getElem?_cons_zero, List.getElem?_cons_succ]; exact rfl)
                case st_36 =>
                  intro K hK
                  go_simp
                  refine (HS.out _).mono ?_
                  rintro e wc37 ⟨rfl, hx38⟩
                  have L0_wc37 := cell_later hx38 L0_wc34
                  have L1_wc37 := cell_later hx38 L1_wc34
                  have L2_wc37 := cell_later hx38 L2_wc34
                  have C0_wc37 := cell_later hx38 C0_wc34
                  have C1_wc37 := cell_later hx38 C1_wc34
                  have T_wc37 := there_below T_wc34 hx38
                  have B_wc37 := Below.chain B_wc34 hx38
                  clear L0_wc34 L1_wc34 L2_wc34 C0_wc34 C1_wc34  B_wc34 T_wc34 hx38
                  refine hK.out _ _ ⟨L0_wc37, L1_wc37, L2_wc37, C0_wc37, C1_wc37⟩ (fun hHeld => ?_)
                  clear hK K
                  try simp only [Act.put, List.setIfInBounds_toArray, List.set_cons_zero, List.set_cons_succ]
                  refine' wpAnyH_take (i := 5) (oi := _) (v := _) ?e_39 ?a_39 ?b_39 ?c_39 ?q_39 ?y_39 hHeld ?r_39
                  case e_39 => (simp only [List.getElem?_toArray, List.getElem?_cons_zero, List.getElem?_cons_succ]; exact rfl)
                  case a_39 => kernel_rfl
                  case b_39 => kernel_rfl
                  case c_39 => kernel_rfl
                  case q_39 => exact fun _ _ _ h => h
                  case y_39 => exact Or.inl ⟨by rfl, by (intro w hSw; (try dsimp only at hSw); go_simp; first | done | with_reducible rfl)⟩
                  try simp only [Act.put, List.setIfInBounds_toArray, List.set_cons_zero, List.set_cons_succ]
                  refine' wpAnyH_take (i := 6) (oi := _) (v := _) ?e_40 ?a_40 ?b_40 ?c_40 ?q_40 ?y_40 hHeld ?r_40
                  case e_40 => (simp only [List.getElem?_toArray, List.getElem?_cons_zero, List.getElem?_cons_succ]; exact rfl)
                  case a_40 => kernel_rfl
                  case b_40 => kernel_rfl
                  case c_40 => kernel_rfl
                  case q_40 => exact fun _ _ _ h => h
                  case y_40 => exact Or.inl ⟨by rfl, by (intro w hSw; (try dsimp only at hSw); go_simp; first | done | with_reducible rfl)⟩
                  try simp only [Act.put, List.setIfInBounds_toArray, List.set_cons_zero, List.set_cons_succ]
                  refine' wpAnyH_take (i := 7) (oi := _) (v := _) ?e_41 ?a_41 ?b_41 ?c_41 ?q_41 ?y_41 hHeld ?r_41
                  case e_41 => (simp only [List.getElem?_toArray, List.getElem?_cons_zero, List.getElem?_cons_succ]; exact rfl)
                  case a_41 => kernel_rfl
                  case b_41 => kernel_rfl
                  case c_41 => kernel_rfl
                  case q_41 => exact fun _ _ _ h => h
                  case y_41 => exact Or.inl ⟨by rfl, by (intro w hSw; (try dsimp only at hSw); go_simp; first | done | with_reducible rfl)⟩
                  try simp only [Act.put, List.setIfInBounds_toArray, List.set_cons_zero, List.set_cons_succ]
                  refine wpAnyH_ready (rs := [9]) (by kernel_rfl) (by simp) ?_
                  refine' AllReadyH.cons (o := _) ?e_42 ?st_42 AllReadyH.nil
                  case e_42 => (simp only [List.getElem?_toArray, List.getElem?_cons_zero, List.getElem?_cons_succ]; exact rfl)
                  case st_42 =>
                    intro K hK
                    rw [if_pos (by rfl)]
                    refine wp_store_mid _ _ _ rfl _ _ ([Value.string dX, Value.string pX, Value.int .i64 nX]).toArray rfl rfl (by simpa using T_wc37) (by kernel_rfl) (all_oneCell_toArray str_one) ?_
                    simp only [Act.put, List.setIfInBounds_toArray, List.set_cons_zero, List.set_cons_succ, List.toList_toArray]
                    have L0_ws43 := cell_far2 (g2 := g) (o2 := 0) (vs := [Value.string dX, Value.string pX, Value.int .i64 nX]) L0_wc37 (by omega)
                    have L1_ws43 := cell_far2 (g2 := g) (o2 := 0) (vs := [Value.string dX, Value.string pX, Value.int .i64 nX]) L1_wc37 (by omega)
                    have L2_ws43 := cell_far2 (g2 := g) (o2 := 0) (vs := [Value.string dX, Value.string pX, Value.int .i64 nX]) L2_wc37 (by omega)
                    have C0_ws43 := cell_far2 (g2 := g) (o2 := 0) (vs := [Value.string dX, Value.string pX, Value.int .i64 nX]) C0_wc37 (by omega)
                    have C1_ws43 := cell_far2 (g2 := g) (o2 := 0) (vs := [Value.string dX, Value.string pX, Value.int .i64 nX]) C1_wc37 (by omega)
                    have B_ws43 := below_cells (w := w) ([Value.string dX, Value.string pX, Value.int .i64 nX]) wc37 g 0 B_wc37 (show w.heap.size ≤ g by omega)
                    have Y_ws43 := World.rangeAt_setCells_same wc37 g 0 ([Value.string dX, Value.string pX, Value.int .i64 nX]) T_wc37
                    have hgV := World.block_lt_of_cell? _ _ (Y_ws43 0 _ rfl)
                    generalize World.setCells _ _ _ _ = ws43 at *
                    refine hK.out _ _ ⟨L0_ws43, L1_ws43, L2_ws43, C0_ws43, C1_ws43⟩ (fun hHeld => ?_)
                    clear hK K
                    try simp only [Act.put, List.setIfInBounds_toArray, List.set_cons_zero, List.set_cons_succ]
                    refine' wpAnyH_take (i := 10) (oi := _) (v := _) ?e_44 ?a_44 ?b_44 ?c_44 ?q_44 ?y_44 hHeld ?r_44
                    case e_44 => (simp only [List.getElem?_toArray, List.getElem?_cons_zero, List.getElem?_cons_succ]; exact rfl)
                    case a_44 => kernel_rfl
                    case b_44 => kernel_rfl
                    case c_44 => kernel_rfl
                    case q_44 => exact fun _ _ _ h => h
                    case y_44 => exact Or.inl ⟨by rfl, by (intro w hSw; (try dsimp only at hSw); go_simp; first | done | with_reducible rfl)⟩
                    try simp only [Act.put, List.setIfInBounds_toArray, List.set_cons_zero, List.set_cons_succ]
                    refine wpAnyH_done (by kernel_rfl) ?_ _
                    go_wp2_with fail
                    go_meet
                    exact ⟨g, rfl, rfl, Y_ws43, hg1, L0_ws43, L1_ws43, L2_ws43, C0_ws43, C1_ws43, B_ws43⟩
        case more_3 =>
          refine' AllReadyH.cons (o := _) ?e_45 ?st_45 AllReadyH.nil
          case e_45 => (simp only [List.getElem?_toArray, List.getElem?_cons_zero, List.getElem?_cons_succ]; exact rfl)
          case st_45 =>
            intro K hK
            go_simp
            have L0_wa46 := cell_later (below_one (w := wd) (.cells #[.string ⟨#[]⟩, .string ⟨#[]⟩, .int .i64 0] 31)) L0_wd
            have L1_wa46 := cell_later (below_one (w := wd) (.cells #[.string ⟨#[]⟩, .string ⟨#[]⟩, .int .i64 0] 31)) L1_wd
            have L2_wa46 := cell_later (below_one (w := wd) (.cells #[.string ⟨#[]⟩, .string ⟨#[]⟩, .int .i64 0] 31)) L2_wd
            have C0_wa46 := cell_later (below_one (w := wd) (.cells #[.string ⟨#[]⟩, .string ⟨#[]⟩, .int .i64 0] 31)) C0_wd
            have C1_wa46 := cell_later (below_one (w := wd) (.cells #[.string ⟨#[]⟩, .string ⟨#[]⟩, .int .i64 0] 31)) C1_wd
            have B_wa46 := Below.alc B_wd (.cells #[.string ⟨#[]⟩, .string ⟨#[]⟩, .int .i64 0] 31)
            have T_wa46 := there_new wd #[.string ⟨#[]⟩, .string ⟨#[]⟩, .int .i64 0] 31 (n := 3) (by decide)
            have hg1 : w.heap.size + 1 < wd.heap.size := World.block_lt_of_cell? _ _ C0_wd
            generalize wd.heap.size = g at *
            generalize wd.alloc (.cells #[.string ⟨#[]⟩, .string ⟨#[]⟩, .int .i64 0] 31) = wa46 at *
            clear L0_wd L1_wd L2_wd C0_wd C1_wd  B_wd
            refine hK.out _ _ ⟨L0_wa46, L1_wa46, L2_wa46, C0_wa46, C1_wa46⟩ (fun hHeld => ?_)
            clear hK K
            try simp only [Act.put, List.setIfInBounds_toArray, List.set_cons_zero, List.set_cons_succ]
            refine wpAnyH_ready (rs := [1]) (by kernel_rfl) (by simp) ?_
            refine' AllReadyH.cons (o := _) ?e_47 ?st_47 AllReadyH.nil
            case e_47 => (simp only [List.getElem?_toArray, List.getElem?_cons_zero, List.getElem?_cons_succ]; exact rfl)
            case st_47 =>
              intro K hK
              go_simp
              refine (HT.out _).mono ?_
              rintro e wc48 ⟨rfl, hx49⟩
              have L0_wc48 := cell_later hx49 L0_wa46
              have L1_wc48 := cell_later hx49 L1_wa46
              have L2_wc48 := cell_later hx49 L2_wa46
              have C0_wc48 := cell_later hx49 C0_wa46
              have C1_wc48 := cell_later hx49 C1_wa46
              have T_wc48 := there_below T_wa46 hx49
              have B_wc48 := Below.chain B_wa46 hx49
              clear L0_wa46 L1_wa46 L2_wa46 C0_wa46 C1_wa46  B_wa46 T_wa46 hx49
              refine hK.out _ _ ⟨L0_wc48, L1_wc48, L2_wc48, C0_wc48, C1_wc48⟩ (fun hHeld => ?_)
              clear hK K
              try simp only [Act.put, List.setIfInBounds_toArray, List.set_cons_zero, List.set_cons_succ]
              refine wpAnyH_ready (rs := [3]) (by kernel_rfl) (by simp) ?_
              refine' AllReadyH.cons (o := _) ?e_50 ?st_50 AllReadyH.nil
              case e_50 => (simp only [List.getElem?_toArray, List.getElem?_cons_zero, List.getElem?_cons_succ]; exact rfl)
              case st_50 =>
                intro K hK
                go_simp
                refine (HJ.out _).mono ?_
                rintro e wc51 ⟨rfl, hx52⟩
                have L0_wc51 := cell_later hx52 L0_wc48
                have L1_wc51 := cell_later hx52 L1_wc48
                have L2_wc51 := cell_later hx52 L2_wc48
                have C0_wc51 := cell_later hx52 C0_wc48
                have C1_wc51 := cell_later hx52 C1_wc48
                have T_wc51 := there_below T_wc48 hx52
                have B_wc51 := Below.chain B_wc48 hx52
                clear L0_wc48 L1_wc48 L2_wc48 C0_wc48 C1_wc48  B_wc48 T_wc48 hx52
                refine hK.out _ _ ⟨L0_wc51, L1_wc51, L2_wc51, C0_wc51, C1_wc51⟩ (fun hHeld => ?_)
                clear hK K
                try simp only [Act.put, List.setIfInBounds_toArray, List.set_cons_zero, List.set_cons_succ]
                refine wpAnyH_ready (rs := [4]) (by kernel_rfl) (by simp) ?_
                refine' AllReadyH.cons (o := _) ?e_53 ?st_53 AllReadyH.nil
                case e_53 => (simp only [List.getElem?_toArray, List.getElem?_cons_zero, List.getElem?_cons_succ]; exact rfl)
                case st_53 =>
                  intro K hK
                  go_simp
                  refine (HS.out _).mono ?_
                  rintro e wc54 ⟨rfl, hx55⟩
                  have L0_wc54 := cell_later hx55 L0_wc51
                  have L1_wc54 := cell_later hx55 L1_wc51
                  have L2_wc54 := cell_later hx55 L2_wc51
                  have C0_wc54 := cell_later hx55 C0_wc51
                  have C1_wc54 := cell_later hx55 C1_wc51
                  have T_wc54 := there_below T_wc51 hx55
                  have B_wc54 := Below.chain B_wc51 hx55
                  clear L0_wc51 L1_wc51 L2_wc51 C0_wc51 C1_wc51  B_wc51 T_wc51 hx55
                  refine hK.out _ _ ⟨L0_wc54, L1_wc54, L2_wc54, C0_wc54, C1_wc54⟩ (fun hHeld => ?_)
                  clear hK K
                  try simp only [Act.put, List.setIfInBounds_toArray, List.set_cons_zero, List.set_cons_succ]
                  refine' wpAnyH_take (i := 5) (oi := _) (v := _) ?e_56 ?a_56 ?b_56 ?c_56 ?q_56 ?y_56 hHeld ?r_56
                  case e_56 => (simp only [List.getElem?_toArray, List.getElem?_cons_zero, List.getElem?_cons_succ]; exact rfl)
                  case a_56 => kernel_rfl
                  case b_56 => kernel_rfl
                  case c_56 => kernel_rfl
                  case q_56 => exact fun _ _ _ h => h
                  case y_56 => exact Or.inl ⟨by rfl, by (intro w hSw; (try dsimp only at hSw); go_simp; first | done | with_reducible rfl)⟩
                  try simp only [Act.put, List.setIfInBounds_toArray, List.set_cons_zero, List.set_cons_succ]
                  refine' wpAnyH_take (i := 6) (oi := _) (v := _) ?e_57 ?a_57 ?b_57 ?c_57 ?q_57 ?y_57 hHeld ?r_57
                  case e_57 => (simp only [List.getElem?_toArray, List.getElem?_cons_zero, List.getElem?_cons_succ]; exact rfl)
                  case a_57 => kernel_rfl
                  case b_57 => kernel_rfl
                  case c_57 => kernel_rfl
                  case q_57 => exact fun _ _ _ h => h
                  case y_57 => exact Or.inl ⟨by rfl, by (intro w hSw; (try dsimp only at hSw); go_simp; first | done | with_reducible rfl)⟩
                  try simp only [Act.put, List.setIfInBounds_toArray, List.set_cons_zero, List.set_cons_succ]
                  refine' wpAnyH_take (i := 7) (oi := _) (v := _) ?e_58 ?a_58 ?b_58 ?c_58 ?q_58 ?y_58 hHeld ?r_58
                  case e_58 => (simp only [List.getElem?_toArray, List.getElem?_cons_zero, List.getElem?_cons_succ]; exact rfl)
                  case a_58 => kernel_rfl
                  case b_58 => kernel_rfl
                  case c_58 => kernel_rfl
                  case q_58 => exact fun _ _ _ h => h
                  case y_58 => exact Or.inl ⟨by rfl, by (intro w hSw; (try dsimp only at hSw); go_simp; first | done | with_reducible rfl)⟩
                  try simp only [Act.put, List.setIfInBounds_toArray, List.set_cons_zero, List.set_cons_succ]
                  refine wpAnyH_ready (rs := [9]) (by kernel_rfl) (by simp) ?_
                  refine' AllReadyH.cons (o := _) ?e_59 ?st_59 AllReadyH.nil
                  case e_59 => (simp only [List.getElem?_toArray, List.getElem?_cons_zero, List.getElem?_cons_succ]; exact rfl)
                  case st_59 =>
                    intro K hK
                    rw [if_pos (by rfl)]
                    refine wp_store_mid _ _ _ rfl _ _ ([Value.string dX, Value.string pX, Value.int .i64 nX]).toArray rfl rfl (by simpa using T_wc54) (by kernel_rfl) (all_oneCell_toArray str_one) ?_
                    simp only [Act.put, List.setIfInBounds_toArray, List.set_cons_zero, List.set_cons_succ, List.toList_toArray]
                    have L0_ws60 := cell_far2 (g2 := g) (o2 := 0) (vs := [Value.string dX, Value.string pX, Value.int .i64 nX]) L0_wc54 (by omega)
                    have L1_ws60 := cell_far2 (g2 := g) (o2 := 0) (vs := [Value.string dX, Value.string pX, Value.int .i64 nX]) L1_wc54 (by omega)
                    have L2_ws60 := cell_far2 (g2 := g) (o2 := 0) (vs := [Value.string dX, Value.string pX, Value.int .i64 nX]) L2_wc54 (by omega)
                    have C0_ws60 := cell_far2 (g2 := g) (o2 := 0) (vs := [Value.string dX, Value.string pX, Value.int .i64 nX]) C0_wc54 (by omega)
                    have C1_ws60 := cell_far2 (g2 := g) (o2 := 0) (vs := [Value.string dX, Value.string pX, Value.int .i64 nX]) C1_wc54 (by omega)
                    have B_ws60 := below_cells (w := w) ([Value.string dX, Value.string pX, Value.int .i64 nX]) wc54 g 0 B_wc54 (show w.heap.size ≤ g by omega)
                    have Y_ws60 := World.rangeAt_setCells_same wc54 g 0 ([Value.string dX, Value.string pX, Value.int .i64 nX]) T_wc54
                    have hgV := World.block_lt_of_cell? _ _ (Y_ws60 0 _ rfl)
                    generalize World.setCells _ _ _ _ = ws60 at *
                    refine hK.out _ _ ⟨L0_ws60, L1_ws60, L2_ws60, C0_ws60, C1_ws60⟩ (fun hHeld => ?_)
                    clear hK K
                    try simp only [Act.put, List.setIfInBounds_toArray, List.set_cons_zero, List.set_cons_succ]
                    refine' wpAnyH_take (i := 10) (oi := _) (v := _) ?e_61 ?a_61 ?b_61 ?c_61 ?q_61 ?y_61 hHeld ?r_61
                    case e_61 => (simp only [List.getElem?_toArray, List.getElem?_cons_zero, List.getElem?_cons_succ]; exact rfl)
                    case a_61 => kernel_rfl
                    case b_61 => kernel_rfl
                    case c_61 => kernel_rfl
                    case q_61 => exact fun _ _ _ h => h
                    case y_61 => exact Or.inl ⟨by rfl, by (intro w hSw; (try dsimp only at hSw); go_simp; first | done | with_reducible rfl)⟩
                    try simp only [Act.put, List.setIfInBounds_toArray, List.set_cons_zero, List.set_cons_succ]
                    refine wpAnyH_done (by kernel_rfl) ?_ _
                    go_wp2_with fail
                    go_meet
                    exact ⟨g, rfl, rfl, Y_ws60, hg1, L0_ws60, L1_ws60, L2_ws60, C0_ws60, C1_ws60, B_ws60⟩
      case rest =>
        obtain ⟨g0, rfl, rfl, YG_w2, hgw, L0_w2, L1_w2, L2_w2, C0_w2, C1_w2, B_w2⟩ := hcut
        go_upto_region 9 with fail
        generalize wc = w2 at *
        go_cut [8, 9] (fun s8 s9 wx => ∃ g : Nat, s8 = .pointer (some ⟨g, 0, none⟩) ∧ s9 = .int .i64 st ∧ wx.rangeAt g 0 ([Value.string dX, Value.string pX, Value.int .i64 nX]) ∧ wx.rangeAt g0 0 ([Value.string dX, Value.string pX, Value.int .i64 nX]) ∧ Below w.heap.size w wx)
        case first =>
          have L0_wd := (show World.cell? (w2.drew) _ = some _ from L0_w2)
          have L1_wd := (show World.cell? (w2.drew) _ = some _ from L1_w2)
          have L2_wd := (show World.cell? (w2.drew) _ = some _ from L2_w2)
          have C0_wd := (show World.cell? (w2.drew) _ = some _ from C0_w2)
          have C1_wd := (show World.cell? (w2.drew) _ = some _ from C1_w2)
          have YG_wd := (show World.rangeAt (w2.drew) _ _ _ from YG_w2)
          have B_wd := B_w2.drew
          refine wp_region_held_drew (S := fun w' : World => w'.cell? ⟨w.heap.size, 0, none⟩ = some (.string d) ∧ w'.cell? ⟨w.heap.size, 1, none⟩ = some (.string p) ∧ w'.cell? ⟨w.heap.size, 2, none⟩ = some (.int .i64 n) ∧ w'.cell? ⟨w.heap.size + 1, 0, none⟩ = some (.string c) ∧ w'.cell? ⟨w.heap.size + 1, 1, none⟩ = some (.string r)) (by kernel_rfl) ⟨L0_wd, L1_wd, L2_wd, C0_wd, C1_wd⟩ (fun hHeld => ?_)
          generalize w2.drew = wd at *
          clear L0_w2 L1_w2 L2_w2 C0_w2 C1_w2 YG_w2 B_w2
          refine' wpAnyH_take (i := 0) (oi := _) (v := _) ?e_62 ?a_62 ?b_62 ?c_62 ?q_62 ?y_62 hHeld ?r_62
          case e_62 => (simp only [List.getElem?_toArray, List.getElem?_cons_zero, List.getElem?_cons_succ]; exact rfl)
          case a_62 => kernel_rfl
          case b_62 => kernel_rfl
          case c_62 => kernel_rfl
          case q_62 => exact fun _ _ _ h => h
          case y_62 => exact Or.inl ⟨by rfl, by (intro w hSw; (obtain ⟨hs1, hs2, hs3, hs4, hs5⟩ := hSw); go_simp; first | done | with_reducible rfl)⟩
          try simp only [Act.put, List.setIfInBounds_toArray, List.set_cons_zero, List.set_cons_succ]
          refine' wpAnyH_take (i := 2) (oi := _) (v := _) ?e_63 ?a_63 ?b_63 ?c_63 ?q_63 ?y_63 hHeld ?r_63
          case e_63 => (simp only [List.getElem?_toArray, List.getElem?_cons_zero, List.getElem?_cons_succ]; exact rfl)
          case a_63 => kernel_rfl
          case b_63 => kernel_rfl
          case c_63 => kernel_rfl
          case q_63 => exact fun _ _ _ h => h
          case y_63 => exact Or.inl ⟨by rfl, by (intro w hSw; (obtain ⟨hs1, hs2, hs3, hs4, hs5⟩ := hSw); go_simp; first | done | with_reducible rfl)⟩
          try simp only [Act.put, List.setIfInBounds_toArray, List.set_cons_zero, List.set_cons_succ]
          refine wpAnyH_ready (rs := [1, 8]) (by kernel_rfl) (by simp) ?_
          refine' AllReadyH.cons (o := _) ?e_64 ?st_64 ?more_64
          case e_64 => (simp only [List.getElem?_toArray, List.getElem?_cons_zero, List.getElem?_cons_succ]; exact rfl)
          case st_64 =>
            intro K hK
            go_simp
            refine (HT.out _).mono ?_
            rintro e wc65 ⟨rfl, hx66⟩
            have L0_wc65 := cell_later hx66 L0_wd
            have L1_wc65 := cell_later hx66 L1_wd
            have L2_wc65 := cell_later hx66 L2_wd
            have C0_wc65 := cell_later hx66 C0_wd
            have C1_wc65 := cell_later hx66 C1_wd
            have YG_wc65 := range_below YG_wd hx66
            have B_wc65 := Below.chain B_wd hx66
            clear L0_wd L1_wd L2_wd C0_wd C1_wd YG_wd B_wd hx66
            refine hK.out _ _ ⟨L0_wc65, L1_wc65, L2_wc65, C0_wc65, C1_wc65⟩ (fun hHeld => ?_)
            clear hK K
            try simp only [Act.put, List.setIfInBounds_toArray, List.set_cons_zero, List.set_cons_succ]
            refine wpAnyH_ready (rs := [3, 8]) (by kernel_rfl) (by simp) ?_
            refine' AllReadyH.cons (o := _) ?e_67 ?st_67 ?more_67
            case e_67 => (simp only [List.getElem?_toArray, List.getElem?_cons_zero, List.getElem?_cons_succ]; exact rfl)
            case st_67 =>
              intro K hK
              go_simp
              refine (HJ.out _).mono ?_
              rintro e wc68 ⟨rfl, hx69⟩
              have L0_wc68 := cell_later hx69 L0_wc65
              have L1_wc68 := cell_later hx69 L1_wc65
              have L2_wc68 := cell_later hx69 L2_wc65
              have C0_wc68 := cell_later hx69 C0_wc65
              have C1_wc68 := cell_later hx69 C1_wc65
              have YG_wc68 := range_below YG_wc65 hx69
              have B_wc68 := Below.chain B_wc65 hx69
              clear L0_wc65 L1_wc65 L2_wc65 C0_wc65 C1_wc65 YG_wc65 B_wc65 hx69
              refine hK.out _ _ ⟨L0_wc68, L1_wc68, L2_wc68, C0_wc68, C1_wc68⟩ (fun hHeld => ?_)
              clear hK K
              try simp only [Act.put, List.setIfInBounds_toArray, List.set_cons_zero, List.set_cons_succ]
              refine wpAnyH_ready (rs := [4, 8]) (by kernel_rfl) (by simp) ?_
              refine' AllReadyH.cons (o := _) ?e_70 ?st_70 ?more_70
              case e_70 => (simp only [List.getElem?_toArray, List.getElem?_cons_zero, List.getElem?_cons_succ]; exact rfl)
              case st_70 =>
                intro K hK
                go_simp
                refine (HI.out _ B_wc68).mono ?_
                rintro e wc71 ⟨rfl, hx72⟩
                have L0_wc71 := cell_later hx72 L0_wc68
                have L1_wc71 := cell_later hx72 L1_wc68
                have L2_wc71 := cell_later hx72 L2_wc68
                have C0_wc71 := cell_later hx72 C0_wc68
                have C1_wc71 := cell_later hx72 C1_wc68
                have YG_wc71 := range_below YG_wc68 hx72
                have B_wc71 := Below.chain B_wc68 hx72
                clear L0_wc68 L1_wc68 L2_wc68 C0_wc68 C1_wc68 YG_wc68 B_wc68 hx72
                refine hK.out _ _ ⟨L0_wc71, L1_wc71, L2_wc71, C0_wc71, C1_wc71⟩ (fun hHeld => ?_)
                clear hK K
                try simp only [Act.put, List.setIfInBounds_toArray, List.set_cons_zero, List.set_cons_succ]
                refine' wpAnyH_take (i := 5) (oi := _) (v := _) ?e_73 ?a_73 ?b_73 ?c_73 ?q_73 ?y_73 hHeld ?r_73
                case e_73 => (simp only [List.getElem?_toArray, List.getElem?_cons_zero, List.getElem?_cons_succ]; exact rfl)
                case a_73 => kernel_rfl
                case b_73 => kernel_rfl
                case c_73 => kernel_rfl
                case q_73 => exact fun _ _ _ h => h
                case y_73 => exact Or.inl ⟨by rfl, by (intro w hSw; (try dsimp only at hSw); go_simp; first | done | with_reducible rfl)⟩
                try simp only [Act.put, List.setIfInBounds_toArray, List.set_cons_zero, List.set_cons_succ]
                refine' wpAnyH_take (i := 6) (oi := _) (v := _) ?e_74 ?a_74 ?b_74 ?c_74 ?q_74 ?y_74 hHeld ?r_74
                case e_74 => (simp only [List.getElem?_toArray, List.getElem?_cons_zero, List.getElem?_cons_succ]; exact rfl)
                case a_74 => kernel_rfl
                case b_74 => kernel_rfl
                case c_74 => kernel_rfl
                case q_74 => exact fun _ _ _ h => h
                case y_74 => exact Or.inl ⟨by rfl, by (intro w hSw; (try dsimp only at hSw); go_simp; first | done | with_reducible rfl)⟩
                try simp only [Act.put, List.setIfInBounds_toArray, List.set_cons_zero, List.set_cons_succ]
                refine' wpAnyH_take (i := 7) (oi := _) (v := _) ?e_75 ?a_75 ?b_75 ?c_75 ?q_75 ?y_75 hHeld ?r_75
                case e_75 => (simp only [List.getElem?_toArray, List.getElem?_cons_zero, List.getElem?_cons_succ]; exact rfl)
                case a_75 => kernel_rfl
                case b_75 => kernel_rfl
                case c_75 => kernel_rfl
                case q_75 => exact fun _ _ _ h => h
                case y_75 => exact Or.inl ⟨by rfl, by (intro w hSw; (try dsimp only at hSw); go_simp; first | done | with_reducible rfl)⟩
                try simp only [Act.put, List.setIfInBounds_toArray, List.set_cons_zero, List.set_cons_succ]
                refine wpAnyH_ready (rs := [8]) (by kernel_rfl) (by simp) ?_
                refine' AllReadyH.cons (o := _) ?e_76 ?st_76 AllReadyH.nil
                case e_76 => (simp only [List.getElem?_toArray, List.getElem?_cons_zero, List.getElem?_cons_succ]; exact rfl)
                case st_76 =>
                  intro K hK
                  go_simp
                  have L0_wa77 := cell_later (below_one (w := wc71) (.cells #[.string ⟨#[]⟩, .string ⟨#[]⟩, .int .i64 0] 31)) L0_wc71
                  have L1_wa77 := cell_later (below_one (w := wc71) (.cells #[.string ⟨#[]⟩, .string ⟨#[]⟩, .int .i64 0] 31)) L1_wc71
                  have L2_wa77 := cell_later (below_one (w := wc71) (.cells #[.string ⟨#[]⟩, .string ⟨#[]⟩, .int .i64 0] 31)) L2_wc71
                  have C0_wa77 := cell_later (below_one (w := wc71) (.cells #[.string ⟨#[]⟩, .string ⟨#[]⟩, .int .i64 0] 31)) C0_wc71
                  have C1_wa77 := cell_later (below_one (w := wc71) (.cells #[.string ⟨#[]⟩, .string ⟨#[]⟩, .int .i64 0] 31)) C1_wc71
                  have YG_wa77 := World.rangeAt_alloc YG_wc71 (.cells #[.string ⟨#[]⟩, .string ⟨#[]⟩, .int .i64 0] 31)
                  have B_wa77 := Below.alc B_wc71 (.cells #[.string ⟨#[]⟩, .string ⟨#[]⟩, .int .i64 0] 31)
                  have T_wa77 := there_new wc71 #[.string ⟨#[]⟩, .string ⟨#[]⟩, .int .i64 0] 31 (n := 3) (by decide)
                  have hg1 : w.heap.size + 1 < wc71.heap.size := World.block_lt_of_cell? _ _ C0_wc71
                  have hn_YG : g0 < wc71.heap.size := World.block_lt_of_cell? _ _ (YG_wc71 0 _ rfl)
                  generalize wc71.heap.size = g at *
                  generalize wc71.alloc (.cells #[.string ⟨#[]⟩, .string ⟨#[]⟩, .int .i64 0] 31) = wa77 at *
                  clear L0_wc71 L1_wc71 L2_wc71 C0_wc71 C1_wc71 YG_wc71 B_wc71
                  refine hK.out _ _ ⟨L0_wa77, L1_wa77, L2_wa77, C0_wa77, C1_wa77⟩ (fun hHeld => ?_)
                  clear hK K
                  try simp only [Act.put, List.setIfInBounds_toArray, List.set_cons_zero, List.set_cons_succ]
                  refine wpAnyH_ready (rs := [9]) (by kernel_rfl) (by simp) ?_
                  refine' AllReadyH.cons (o := _) ?e_78 ?st_78 AllReadyH.nil
                  case e_78 => (simp only [List.getElem?_toArray, List.getElem?_cons_zero, List.getElem?_cons_succ]; exact rfl)
                  case st_78 =>
                    intro K hK
                    rw [if_pos (by rfl)]
                    refine wp_store_mid _ _ _ rfl _ _ ([Value.string dX, Value.string pX, Value.int .i64 nX]).toArray rfl rfl (by simpa using T_wa77) (by kernel_rfl) (all_oneCell_toArray str_one) ?_
                    simp only [Act.put, List.setIfInBounds_toArray, List.set_cons_zero, List.set_cons_succ, List.toList_toArray]
                    have L0_ws79 := cell_far2 (g2 := g) (o2 := 0) (vs := [Value.string dX, Value.string pX, Value.int .i64 nX]) L0_wa77 (by omega)
                    have L1_ws79 := cell_far2 (g2 := g) (o2 := 0) (vs := [Value.string dX, Value.string pX, Value.int .i64 nX]) L1_wa77 (by omega)
                    have L2_ws79 := cell_far2 (g2 := g) (o2 := 0) (vs := [Value.string dX, Value.string pX, Value.int .i64 nX]) L2_wa77 (by omega)
                    have C0_ws79 := cell_far2 (g2 := g) (o2 := 0) (vs := [Value.string dX, Value.string pX, Value.int .i64 nX]) C0_wa77 (by omega)
                    have C1_ws79 := cell_far2 (g2 := g) (o2 := 0) (vs := [Value.string dX, Value.string pX, Value.int .i64 nX]) C1_wa77 (by omega)
                    have YG_ws79 := World.rangeAt_setCells_apart YG_wa77 g 0 ([Value.string dX, Value.string pX, Value.int .i64 nX]) (.inl (by omega))
                    have B_ws79 := below_cells (w := w) ([Value.string dX, Value.string pX, Value.int .i64 nX]) wa77 g 0 B_wa77 (show w.heap.size ≤ g by omega)
                    have Y_ws79 := World.rangeAt_setCells_same wa77 g 0 ([Value.string dX, Value.string pX, Value.int .i64 nX]) T_wa77
                    have hgV := World.block_lt_of_cell? _ _ (Y_ws79 0 _ rfl)
                    generalize World.setCells _ _ _ _ = ws79 at *
                    refine hK.out _ _ ⟨L0_ws79, L1_ws79, L2_ws79, C0_ws79, C1_ws79⟩ (fun hHeld => ?_)
                    clear hK K
                    try simp only [Act.put, List.setIfInBounds_toArray, List.set_cons_zero, List.set_cons_succ]
                    refine' wpAnyH_take (i := 10) (oi := _) (v := _) ?e_80 ?a_80 ?b_80 ?c_80 ?q_80 ?y_80 hHeld ?r_80
                    case e_80 => (simp only [List.getElem?_toArray, List.getElem?_cons_zero, List.getElem?_cons_succ]; exact rfl)
                    case a_80 => kernel_rfl
                    case b_80 => kernel_rfl
                    case c_80 => kernel_rfl
                    case q_80 => exact fun _ _ _ h => h
                    case y_80 => exact Or.inl ⟨by rfl, by (intro w hSw; (try dsimp only at hSw); go_simp; first | done | with_reducible rfl)⟩
                    try simp only [Act.put, List.setIfInBounds_toArray, List.set_cons_zero, List.set_cons_succ]
                    refine wpAnyH_done (by kernel_rfl) ?_ _
                    go_wp2_with fail
                    go_meet
                    exact ⟨g, rfl, rfl, Y_ws79, YG_ws79, B_ws79⟩
              case more_70 =>
                refine' AllReadyH.cons (o := _) ?e_81 ?st_81 AllReadyH.nil
                case e_81 => (simp only [List.getElem?_toArray, List.getElem?_cons_zero, List.getElem?_cons_succ]; exact rfl)
                case st_81 =>
                  intro K hK
                  go_simp
                  have L0_wa82 := cell_later (below_one (w := wc68) (.cells #[.string ⟨#[]⟩, .string ⟨#[]⟩, .int .i64 0] 31)) L0_wc68
                  have L1_wa82 := cell_later (below_one (w := wc68) (.cells #[.string ⟨#[]⟩, .string ⟨#[]⟩, .int .i64 0] 31)) L1_wc68
                  have L2_wa82 := cell_later (below_one (w := wc68) (.cells #[.string ⟨#[]⟩, .string ⟨#[]⟩, .int .i64 0] 31)) L2_wc68
                  have C0_wa82 := cell_later (below_one (w := wc68) (.cells #[.string ⟨#[]⟩, .string ⟨#[]⟩, .int .i64 0] 31)) C0_wc68
                  have C1_wa82 := cell_later (below_one (w := wc68) (.cells #[.string ⟨#[]⟩, .string ⟨#[]⟩, .int .i64 0] 31)) C1_wc68
                  have YG_wa82 := World.rangeAt_alloc YG_wc68 (.cells #[.string ⟨#[]⟩, .string ⟨#[]⟩, .int .i64 0] 31)
                  have B_wa82 := Below.alc B_wc68 (.cells #[.string ⟨#[]⟩, .string ⟨#[]⟩, .int .i64 0] 31)
                  have T_wa82 := there_new wc68 #[.string ⟨#[]⟩, .string ⟨#[]⟩, .int .i64 0] 31 (n := 3) (by decide)
                  have hg1 : w.heap.size + 1 < wc68.heap.size := World.block_lt_of_cell? _ _ C0_wc68
                  have hn_YG : g0 < wc68.heap.size := World.block_lt_of_cell? _ _ (YG_wc68 0 _ rfl)
                  generalize wc68.heap.size = g at *
                  generalize wc68.alloc (.cells #[.string ⟨#[]⟩, .string ⟨#[]⟩, .int .i64 0] 31) = wa82 at *
                  clear L0_wc68 L1_wc68 L2_wc68 C0_wc68 C1_wc68 YG_wc68 B_wc68
                  refine hK.out _ _ ⟨L0_wa82, L1_wa82, L2_wa82, C0_wa82, C1_wa82⟩ (fun hHeld => ?_)
                  clear hK K
                  try simp only [Act.put, List.setIfInBounds_toArray, List.set_cons_zero, List.set_cons_succ]
                  refine wpAnyH_ready (rs := [4]) (by kernel_rfl) (by simp) ?_
                  refine' AllReadyH.cons (o := _) ?e_83 ?st_83 AllReadyH.nil
                  case e_83 => (simp only [List.getElem?_toArray, List.getElem?_cons_zero, List.getElem?_cons_succ]; exact rfl)
                  case st_83 =>
                    intro K hK
                    go_simp
                    refine (HI.out _ B_wa82).mono ?_
                    rintro e wc84 ⟨rfl, hx85⟩
                    have L0_wc84 := cell_later hx85 L0_wa82
                    have L1_wc84 := cell_later hx85 L1_wa82
                    have L2_wc84 := cell_later hx85 L2_wa82
                    have C0_wc84 := cell_later hx85 C0_wa82
                    have C1_wc84 := cell_later hx85 C1_wa82
                    have YG_wc84 := range_below YG_wa82 hx85
                    have T_wc84 := there_below T_wa82 hx85
                    have B_wc84 := Below.chain B_wa82 hx85
                    clear L0_wa82 L1_wa82 L2_wa82 C0_wa82 C1_wa82 YG_wa82 B_wa82 T_wa82 hx85
                    refine hK.out _ _ ⟨L0_wc84, L1_wc84, L2_wc84, C0_wc84, C1_wc84⟩ (fun hHeld => ?_)
                    clear hK K
                    try simp only [Act.put, List.setIfInBounds_toArray, List.set_cons_zero, List.set_cons_succ]
                    refine' wpAnyH_take (i := 5) (oi := _) (v := _) ?e_86 ?a_86 ?b_86 ?c_86 ?q_86 ?y_86 hHeld ?r_86
                    case e_86 => (simp only [List.getElem?_toArray, List.getElem?_cons_zero, List.getElem?_cons_succ]; exact rfl)
                    case a_86 => kernel_rfl
                    case b_86 => kernel_rfl
                    case c_86 => kernel_rfl
                    case q_86 => exact fun _ _ _ h => h
                    case y_86 => exact Or.inl ⟨by rfl, by (intro w hSw; (try dsimp only at hSw); go_simp; first | done | with_reducible rfl)⟩
                    try simp only [Act.put, List.setIfInBounds_toArray, List.set_cons_zero, List.set_cons_succ]
                    refine' wpAnyH_take (i := 6) (oi := _) (v := _) ?e_87 ?a_87 ?b_87 ?c_87 ?q_87 ?y_87 hHeld ?r_87
                    case e_87 => (simp only [List.getElem?_toArray, List.getElem?_cons_zero, List.getElem?_cons_succ]; exact rfl)
                    case a_87 => kernel_rfl
                    case b_87 => kernel_rfl
                    case c_87 => kernel_rfl
                    case q_87 => exact fun _ _ _ h => h
                    case y_87 => exact Or.inl ⟨by rfl, by (intro w hSw; (try dsimp only at hSw); go_simp; first | done | with_reducible rfl)⟩
                    try simp only [Act.put, List.setIfInBounds_toArray, List.set_cons_zero, List.set_cons_succ]
                    refine' wpAnyH_take (i := 7) (oi := _) (v := _) ?e_88 ?a_88 ?b_88 ?c_88 ?q_88 ?y_88 hHeld ?r_88
                    case e_88 => (simp only [List.getElem?_toArray, List.getElem?_cons_zero, List.getElem?_cons_succ]; exact rfl)
                    case a_88 => kernel_rfl
                    case b_88 => kernel_rfl
                    case c_88 => kernel_rfl
                    case q_88 => exact fun _ _ _ h => h
                    case y_88 => exact Or.inl ⟨by rfl, by (intro w hSw; (try dsimp only at hSw); go_simp; first | done | with_reducible rfl)⟩
                    try simp only [Act.put, List.setIfInBounds_toArray, List.set_cons_zero, List.set_cons_succ]
                    refine wpAnyH_ready (rs := [9]) (by kernel_rfl) (by simp) ?_
                    refine' AllReadyH.cons (o := _) ?e_89 ?st_89 AllReadyH.nil
                    case e_89 => (simp only [List.getElem?_toArray, List.getElem?_cons_zero, List.getElem?_cons_succ]; exact rfl)
                    case st_89 =>
                      intro K hK
                      rw [if_pos (by rfl)]
                      refine wp_store_mid _ _ _ rfl _ _ ([Value.string dX, Value.string pX, Value.int .i64 nX]).toArray rfl rfl (by simpa using T_wc84) (by kernel_rfl) (all_oneCell_toArray str_one) ?_
                      simp only [Act.put, List.setIfInBounds_toArray, List.set_cons_zero, List.set_cons_succ, List.toList_toArray]
                      have L0_ws90 := cell_far2 (g2 := g) (o2 := 0) (vs := [Value.string dX, Value.string pX, Value.int .i64 nX]) L0_wc84 (by omega)
                      have L1_ws90 := cell_far2 (g2 := g) (o2 := 0) (vs := [Value.string dX, Value.string pX, Value.int .i64 nX]) L1_wc84 (by omega)
                      have L2_ws90 := cell_far2 (g2 := g) (o2 := 0) (vs := [Value.string dX, Value.string pX, Value.int .i64 nX]) L2_wc84 (by omega)
                      have C0_ws90 := cell_far2 (g2 := g) (o2 := 0) (vs := [Value.string dX, Value.string pX, Value.int .i64 nX]) C0_wc84 (by omega)
                      have C1_ws90 := cell_far2 (g2 := g) (o2 := 0) (vs := [Value.string dX, Value.string pX, Value.int .i64 nX]) C1_wc84 (by omega)
                      have YG_ws90 := World.rangeAt_setCells_apart YG_wc84 g 0 ([Value.string dX, Value.string pX, Value.int .i64 nX]) (.inl (by omega))
                      have B_ws90 := below_cells (w := w) ([Value.string dX, Value.string pX, Value.int .i64 nX]) wc84 g 0 B_wc84 (show w.heap.size ≤ g by omega)
                      have Y_ws90 := World.rangeAt_setCells_same wc84 g 0 ([Value.string dX, Value.string pX, Value.int .i64 nX]) T_wc84
                      have hgV := World.block_lt_of_cell? _ _ (Y_ws90 0 _ rfl)
                      generalize World.setCells _ _ _ _ = ws90 at *
                      refine hK.out _ _ ⟨L0_ws90, L1_ws90, L2_ws90, C0_ws90, C1_ws90⟩ (fun hHeld => ?_)
                      clear hK K
                      try simp only [Act.put, List.setIfInBounds_toArray, List.set_cons_zero, List.set_cons_succ]
                      refine' wpAnyH_take (i := 10) (oi := _) (v := _) ?e_91 ?a_91 ?b_91 ?c_91 ?q_91 ?y_91 hHeld ?r_91
                      case e_91 => (simp only [List.getElem?_toArray, List.getElem?_cons_zero, List.getElem?_cons_succ]; exact rfl)
                      case a_91 => kernel_rfl
                      case b_91 => kernel_rfl
                      case c_91 => kernel_rfl
                      case q_91 => exact fun _ _ _ h => h
                      case y_91 => exact Or.inl ⟨by rfl, by (intro w hSw; (try dsimp only at hSw); go_simp; first | done | with_reducible rfl)⟩
                      try simp only [Act.put, List.setIfInBounds_toArray, List.set_cons_zero, List.set_cons_succ]
                      refine wpAnyH_done (by kernel_rfl) ?_ _
                      go_wp2_with fail
                      go_meet
                      exact ⟨g, rfl, rfl, Y_ws90, YG_ws90, B_ws90⟩
            case more_67 =>
              refine' AllReadyH.cons (o := _) ?e_92 ?st_92 AllReadyH.nil
              case e_92 => (simp only [List.getElem?_toArray, List.getElem?_cons_zero, List.getElem?_cons_succ]; exact rfl)
              case st_92 =>
                intro K hK
                go_simp
                have L0_wa93 := cell_later (below_one (w := wc65) (.cells #[.string ⟨#[]⟩, .string ⟨#[]⟩, .int .i64 0] 31)) L0_wc65
                have L1_wa93 := cell_later (below_one (w := wc65) (.cells #[.string ⟨#[]⟩, .string ⟨#[]⟩, .int .i64 0] 31)) L1_wc65
                have L2_wa93 := cell_later (below_one (w := wc65) (.cells #[.string ⟨#[]⟩, .string ⟨#[]⟩, .int .i64 0] 31)) L2_wc65
                have C0_wa93 := cell_later (below_one (w := wc65) (.cells #[.string ⟨#[]⟩, .string ⟨#[]⟩, .int .i64 0] 31)) C0_wc65
                have C1_wa93 := cell_later (below_one (w := wc65) (.cells #[.string ⟨#[]⟩, .string ⟨#[]⟩, .int .i64 0] 31)) C1_wc65
                have YG_wa93 := World.rangeAt_alloc YG_wc65 (.cells #[.string ⟨#[]⟩, .string ⟨#[]⟩, .int .i64 0] 31)
                have B_wa93 := Below.alc B_wc65 (.cells #[.string ⟨#[]⟩, .string ⟨#[]⟩, .int .i64 0] 31)
                have T_wa93 := there_new wc65 #[.string ⟨#[]⟩, .string ⟨#[]⟩, .int .i64 0] 31 (n := 3) (by decide)
                have hg1 : w.heap.size + 1 < wc65.heap.size := World.block_lt_of_cell? _ _ C0_wc65
                have hn_YG : g0 < wc65.heap.size := World.block_lt_of_cell? _ _ (YG_wc65 0 _ rfl)
                generalize wc65.heap.size = g at *
                generalize wc65.alloc (.cells #[.string ⟨#[]⟩, .string ⟨#[]⟩, .int .i64 0] 31) = wa93 at *
                clear L0_wc65 L1_wc65 L2_wc65 C0_wc65 C1_wc65 YG_wc65 B_wc65
                refine hK.out _ _ ⟨L0_wa93, L1_wa93, L2_wa93, C0_wa93, C1_wa93⟩ (fun hHeld => ?_)
                clear hK K
                try simp only [Act.put, List.setIfInBounds_toArray, List.set_cons_zero, List.set_cons_succ]
                refine wpAnyH_ready (rs := [3]) (by kernel_rfl) (by simp) ?_
                refine' AllReadyH.cons (o := _) ?e_94 ?st_94 AllReadyH.nil
                case e_94 => (simp only [List.getElem?_toArray, List.getElem?_cons_zero, List.getElem?_cons_succ]; exact rfl)
                case st_94 =>
                  intro K hK
                  go_simp
                  refine (HJ.out _).mono ?_
                  rintro e wc95 ⟨rfl, hx96⟩
                  have L0_wc95 := cell_later hx96 L0_wa93
                  have L1_wc95 := cell_later hx96 L1_wa93
                  have L2_wc95 := cell_later hx96 L2_wa93
                  have C0_wc95 := cell_later hx96 C0_wa93
                  have C1_wc95 := cell_later hx96 C1_wa93
                  have YG_wc95 := range_below YG_wa93 hx96
                  have T_wc95 := there_below T_wa93 hx96
                  have B_wc95 := Below.chain B_wa93 hx96
                  clear L0_wa93 L1_wa93 L2_wa93 C0_wa93 C1_wa93 YG_wa93 B_wa93 T_wa93 hx96
                  refine hK.out _ _ ⟨L0_wc95, L1_wc95, L2_wc95, C0_wc95, C1_wc95⟩ (fun hHeld => ?_)
                  clear hK K
                  try simp only [Act.put, List.setIfInBounds_toArray, List.set_cons_zero, List.set_cons_succ]
                  refine wpAnyH_ready (rs := [4]) (by kernel_rfl) (by simp) ?_
                  refine' AllReadyH.cons (o := _) ?e_97 ?st_97 AllReadyH.nil
                  case e_97 => (simp only [List.getElem?_toArray, List.getElem?_cons_zero, List.getElem?_cons_succ]; exact rfl)
                  case st_97 =>
                    intro K hK
                    go_simp
                    refine (HI.out _ B_wc95).mono ?_
                    rintro e wc98 ⟨rfl, hx99⟩
                    have L0_wc98 := cell_later hx99 L0_wc95
                    have L1_wc98 := cell_later hx99 L1_wc95
                    have L2_wc98 := cell_later hx99 L2_wc95
                    have C0_wc98 := cell_later hx99 C0_wc95
                    have C1_wc98 := cell_later hx99 C1_wc95
                    have YG_wc98 := range_below YG_wc95 hx99
                    have T_wc98 := there_below T_wc95 hx99
                    have B_wc98 := Below.chain B_wc95 hx99
                    clear L0_wc95 L1_wc95 L2_wc95 C0_wc95 C1_wc95 YG_wc95 B_wc95 T_wc95 hx99
                    refine hK.out _ _ ⟨L0_wc98, L1_wc98, L2_wc98, C0_wc98, C1_wc98⟩ (fun hHeld => ?_)
                    clear hK K
                    try simp only [Act.put, List.setIfInBounds_toArray, List.set_cons_zero, List.set_cons_succ]
                    refine' wpAnyH_take (i := 5) (oi := _) (v := _) ?e_100 ?a_100 ?b_100 ?c_100 ?q_100 ?y_100 hHeld ?r_100
                    case e_100 => (simp only [List.getElem?_toArray, List.getElem?_cons_zero, List.getElem?_cons_succ]; exact rfl)
                    case a_100 => kernel_rfl
                    case b_100 => kernel_rfl
                    case c_100 => kernel_rfl
                    case q_100 => exact fun _ _ _ h => h
                    case y_100 => exact Or.inl ⟨by rfl, by (intro w hSw; (try dsimp only at hSw); go_simp; first | done | with_reducible rfl)⟩
                    try simp only [Act.put, List.setIfInBounds_toArray, List.set_cons_zero, List.set_cons_succ]
                    refine' wpAnyH_take (i := 6) (oi := _) (v := _) ?e_101 ?a_101 ?b_101 ?c_101 ?q_101 ?y_101 hHeld ?r_101
                    case e_101 => (simp only [List.getElem?_toArray, List.getElem?_cons_zero, List.getElem?_cons_succ]; exact rfl)
                    case a_101 => kernel_rfl
                    case b_101 => kernel_rfl
                    case c_101 => kernel_rfl
                    case q_101 => exact fun _ _ _ h => h
                    case y_101 => exact Or.inl ⟨by rfl, by (intro w hSw; (try dsimp only at hSw); go_simp; first | done | with_reducible rfl)⟩
                    try simp only [Act.put, List.setIfInBounds_toArray, List.set_cons_zero, List.set_cons_succ]
                    refine' wpAnyH_take (i := 7) (oi := _) (v := _) ?e_102 ?a_102 ?b_102 ?c_102 ?q_102 ?y_102 hHeld ?r_102
                    case e_102 => (simp only [List.getElem?_toArray, List.getElem?_cons_zero, List.getElem?_cons_succ]; exact rfl)
                    case a_102 => kernel_rfl
                    case b_102 => kernel_rfl
                    case c_102 => kernel_rfl
                    case q_102 => exact fun _ _ _ h => h
                    case y_102 => exact Or.inl ⟨by rfl, by (intro w hSw; (try dsimp only at hSw); go_simp; first | done | with_reducible rfl)⟩
                    try simp only [Act.put, List.setIfInBounds_toArray, List.set_cons_zero, List.set_cons_succ]
                    refine wpAnyH_ready (rs := [9]) (by kernel_rfl) (by simp) ?_
                    refine' AllReadyH.cons (o := _) ?e_103 ?st_103 AllReadyH.nil
                    case e_103 => (simp only [List.getElem?_toArray, List.getElem?_cons_zero, List.getElem?_cons_succ]; exact rfl)
                    case st_103 =>
                      intro K hK
                      rw [if_pos (by rfl)]
                      refine wp_store_mid _ _ _ rfl _ _ ([Value.string dX, Value.string pX, Value.int .i64 nX]).toArray rfl rfl (by simpa using T_wc98) (by kernel_rfl) (all_oneCell_toArray str_one) ?_
                      simp only [Act.put, List.setIfInBounds_toArray, List.set_cons_zero, List.set_cons_succ, List.toList_toArray]
                      have L0_ws104 := cell_far2 (g2 := g) (o2 := 0) (vs := [Value.string dX, Value.string pX, Value.int .i64 nX]) L0_wc98 (by omega)
                      have L1_ws104 := cell_far2 (g2 := g) (o2 := 0) (vs := [Value.string dX, Value.string pX, Value.int .i64 nX]) L1_wc98 (by omega)
                      have L2_ws104 := cell_far2 (g2 := g) (o2 := 0) (vs := [Value.string dX, Value.string pX, Value.int .i64 nX]) L2_wc98 (by omega)
                      have C0_ws104 := cell_far2 (g2 := g) (o2 := 0) (vs := [Value.string dX, Value.string pX, Value.int .i64 nX]) C0_wc98 (by omega)
                      have C1_ws104 := cell_far2 (g2 := g) (o2 := 0) (vs := [Value.string dX, Value.string pX, Value.int .i64 nX]) C1_wc98 (by omega)
                      have YG_ws104 := World.rangeAt_setCells_apart YG_wc98 g 0 ([Value.string dX, Value.string pX, Value.int .i64 nX]) (.inl (by omega))
                      have B_ws104 := below_cells (w := w) ([Value.string dX, Value.string pX, Value.int .i64 nX]) wc98 g 0 B_wc98 (show w.heap.size ≤ g by omega)
                      have Y_ws104 := World.rangeAt_setCells_same wc98 g 0 ([Value.string dX, Value.string pX, Value.int .i64 nX]) T_wc98
                      have hgV := World.block_lt_of_cell? _ _ (Y_ws104 0 _ rfl)
                      generalize World.setCells _ _ _ _ = ws104 at *
                      refine hK.out _ _ ⟨L0_ws104, L1_ws104, L2_ws104, C0_ws104, C1_ws104⟩ (fun hHeld => ?_)
                      clear hK K
                      try simp only [Act.put, List.setIfInBounds_toArray, List.set_cons_zero, List.set_cons_succ]
                      refine' wpAnyH_take (i := 10) (oi := _) (v := _) ?e_105 ?a_105 ?b_105 ?c_105 ?q_105 ?y_105 hHeld ?r_105
                      case e_105 => (simp only [List.getElem?_toArray, List.getElem?_cons_zero, List.getElem?_cons_succ]; exact rfl)
                      case a_105 => kernel_rfl
                      case b_105 => kernel_rfl
                      case c_105 => kernel_rfl
                      case q_105 => exact fun _ _ _ h => h
                      case y_105 => exact Or.inl ⟨by rfl, by (intro w hSw; (try dsimp only at hSw); go_simp; first | done | with_reducible rfl)⟩
                      try simp only [Act.put, List.setIfInBounds_toArray, List.set_cons_zero, List.set_cons_succ]
                      refine wpAnyH_done (by kernel_rfl) ?_ _
                      go_wp2_with fail
                      go_meet
                      exact ⟨g, rfl, rfl, Y_ws104, YG_ws104, B_ws104⟩
          case more_64 =>
            refine' AllReadyH.cons (o := _) ?e_106 ?st_106 AllReadyH.nil
            case e_106 => (simp only [List.getElem?_toArray, List.getElem?_cons_zero, List.getElem?_cons_succ]; exact rfl)
            case st_106 =>
              intro K hK
              go_simp
              have L0_wa107 := cell_later (below_one (w := wd) (.cells #[.string ⟨#[]⟩, .string ⟨#[]⟩, .int .i64 0] 31)) L0_wd
              have L1_wa107 := cell_later (below_one (w := wd) (.cells #[.string ⟨#[]⟩, .string ⟨#[]⟩, .int .i64 0] 31)) L1_wd
              have L2_wa107 := cell_later (below_one (w := wd) (.cells #[.string ⟨#[]⟩, .string ⟨#[]⟩, .int .i64 0] 31)) L2_wd
              have C0_wa107 := cell_later (below_one (w := wd) (.cells #[.string ⟨#[]⟩, .string ⟨#[]⟩, .int .i64 0] 31)) C0_wd
              have C1_wa107 := cell_later (below_one (w := wd) (.cells #[.string ⟨#[]⟩, .string ⟨#[]⟩, .int .i64 0] 31)) C1_wd
              have YG_wa107 := World.rangeAt_alloc YG_wd (.cells #[.string ⟨#[]⟩, .string ⟨#[]⟩, .int .i64 0] 31)
              have B_wa107 := Below.alc B_wd (.cells #[.string ⟨#[]⟩, .string ⟨#[]⟩, .int .i64 0] 31)
              have T_wa107 := there_new wd #[.string ⟨#[]⟩, .string ⟨#[]⟩, .int .i64 0] 31 (n := 3) (by decide)
              have hg1 : w.heap.size + 1 < wd.heap.size := World.block_lt_of_cell? _ _ C0_wd
              have hn_YG : g0 < wd.heap.size := World.block_lt_of_cell? _ _ (YG_wd 0 _ rfl)
              generalize wd.heap.size = g at *
              generalize wd.alloc (.cells #[.string ⟨#[]⟩, .string ⟨#[]⟩, .int .i64 0] 31) = wa107 at *
              clear L0_wd L1_wd L2_wd C0_wd C1_wd YG_wd B_wd
              refine hK.out _ _ ⟨L0_wa107, L1_wa107, L2_wa107, C0_wa107, C1_wa107⟩ (fun hHeld => ?_)
              clear hK K
              try simp only [Act.put, List.setIfInBounds_toArray, List.set_cons_zero, List.set_cons_succ]
              refine wpAnyH_ready (rs := [1]) (by kernel_rfl) (by simp) ?_
              refine' AllReadyH.cons (o := _) ?e_108 ?st_108 AllReadyH.nil
              case e_108 => (simp only [List.getElem?_toArray, List.getElem?_cons_zero, List.getElem?_cons_succ]; exact rfl)
              case st_108 =>
                intro K hK
                go_simp
                refine (HT.out _).mono ?_
                rintro e wc109 ⟨rfl, hx110⟩
                have L0_wc109 := cell_later hx110 L0_wa107
                have L1_wc109 := cell_later hx110 L1_wa107
                have L2_wc109 := cell_later hx110 L2_wa107
                have C0_wc109 := cell_later hx110 C0_wa107
                have C1_wc109 := cell_later hx110 C1_wa107
                have YG_wc109 := range_below YG_wa107 hx110
                have T_wc109 := there_below T_wa107 hx110
                have B_wc109 := Below.chain B_wa107 hx110
                clear L0_wa107 L1_wa107 L2_wa107 C0_wa107 C1_wa107 YG_wa107 B_wa107 T_wa107 hx110
                refine hK.out _ _ ⟨L0_wc109, L1_wc109, L2_wc109, C0_wc109, C1_wc109⟩ (fun hHeld => ?_)
                clear hK K
                try simp only [Act.put, List.setIfInBounds_toArray, List.set_cons_zero, List.set_cons_succ]
                refine wpAnyH_ready (rs := [3]) (by kernel_rfl) (by simp) ?_
                refine' AllReadyH.cons (o := _) ?e_111 ?st_111 AllReadyH.nil
                case e_111 => (simp only [List.getElem?_toArray, List.getElem?_cons_zero, List.getElem?_cons_succ]; exact rfl)
                case st_111 =>
                  intro K hK
                  go_simp
                  refine (HJ.out _).mono ?_
                  rintro e wc112 ⟨rfl, hx113⟩
                  have L0_wc112 := cell_later hx113 L0_wc109
                  have L1_wc112 := cell_later hx113 L1_wc109
                  have L2_wc112 := cell_later hx113 L2_wc109
                  have C0_wc112 := cell_later hx113 C0_wc109
                  have C1_wc112 := cell_later hx113 C1_wc109
                  have YG_wc112 := range_below YG_wc109 hx113
                  have T_wc112 := there_below T_wc109 hx113
                  have B_wc112 := Below.chain B_wc109 hx113
                  clear L0_wc109 L1_wc109 L2_wc109 C0_wc109 C1_wc109 YG_wc109 B_wc109 T_wc109 hx113
                  refine hK.out _ _ ⟨L0_wc112, L1_wc112, L2_wc112, C0_wc112, C1_wc112⟩ (fun hHeld => ?_)
                  clear hK K
                  try simp only [Act.put, List.setIfInBounds_toArray, List.set_cons_zero, List.set_cons_succ]
                  refine wpAnyH_ready (rs := [4]) (by kernel_rfl) (by simp) ?_
                  refine' AllReadyH.cons (o := _) ?e_114 ?st_114 AllReadyH.nil
                  case e_114 => (simp only [List.getElem?_toArray, List.getElem?_cons_zero, List.getElem?_cons_succ]; exact rfl)
                  case st_114 =>
                    intro K hK
                    go_simp
                    refine (HI.out _ B_wc112).mono ?_
                    rintro e wc115 ⟨rfl, hx116⟩
                    have L0_wc115 := cell_later hx116 L0_wc112
                    have L1_wc115 := cell_later hx116 L1_wc112
                    have L2_wc115 := cell_later hx116 L2_wc112
                    have C0_wc115 := cell_later hx116 C0_wc112
                    have C1_wc115 := cell_later hx116 C1_wc112
                    have YG_wc115 := range_below YG_wc112 hx116
                    have T_wc115 := there_below T_wc112 hx116
                    have B_wc115 := Below.chain B_wc112 hx116
                    clear L0_wc112 L1_wc112 L2_wc112 C0_wc112 C1_wc112 YG_wc112 B_wc112 T_wc112 hx116
                    refine hK.out _ _ ⟨L0_wc115, L1_wc115, L2_wc115, C0_wc115, C1_wc115⟩ (fun hHeld => ?_)
                    clear hK K
                    try simp only [Act.put, List.setIfInBounds_toArray, List.set_cons_zero, List.set_cons_succ]
                    refine' wpAnyH_take (i := 5) (oi := _) (v := _) ?e_117 ?a_117 ?b_117 ?c_117 ?q_117 ?y_117 hHeld ?r_117
                    case e_117 => (simp only [List.getElem?_toArray, List.getElem?_cons_zero, List.getElem?_cons_succ]; exact rfl)
                    case a_117 => kernel_rfl
                    case b_117 => kernel_rfl
                    case c_117 => kernel_rfl
                    case q_117 => exact fun _ _ _ h => h
                    case y_117 => exact Or.inl ⟨by rfl, by (intro w hSw; (try dsimp only at hSw); go_simp; first | done | with_reducible rfl)⟩
                    try simp only [Act.put, List.setIfInBounds_toArray, List.set_cons_zero, List.set_cons_succ]
                    refine' wpAnyH_take (i := 6) (oi := _) (v := _) ?e_118 ?a_118 ?b_118 ?c_118 ?q_118 ?y_118 hHeld ?r_118
                    case e_118 => (simp only [List.getElem?_toArray, List.getElem?_cons_zero, List.getElem?_cons_succ]; exact rfl)
                    case a_118 => kernel_rfl
                    case b_118 => kernel_rfl
                    case c_118 => kernel_rfl
                    case q_118 => exact fun _ _ _ h => h
                    case y_118 => exact Or.inl ⟨by rfl, by (intro w hSw; (try dsimp only at hSw); go_simp; first | done | with_reducible rfl)⟩
                    try simp only [Act.put, List.setIfInBounds_toArray, List.set_cons_zero, List.set_cons_succ]
                    refine' wpAnyH_take (i := 7) (oi := _) (v := _) ?e_119 ?a_119 ?b_119 ?c_119 ?q_119 ?y_119 hHeld ?r_119
                    case e_119 => (simp only [List.getElem?_toArray, List.getElem?_cons_zero, List.getElem?_cons_succ]; exact rfl)
                    case a_119 => kernel_rfl
                    case b_119 => kernel_rfl
                    case c_119 => kernel_rfl
                    case q_119 => exact fun _ _ _ h => h
                    case y_119 => exact Or.inl ⟨by rfl, by (intro w hSw; (try dsimp only at hSw); go_simp; first | done | with_reducible rfl)⟩
                    try simp only [Act.put, List.setIfInBounds_toArray, List.set_cons_zero, List.set_cons_succ]
                    refine wpAnyH_ready (rs := [9]) (by kernel_rfl) (by simp) ?_
                    refine' AllReadyH.cons (o := _) ?e_120 ?st_120 AllReadyH.nil
                    case e_120 => (simp only [List.getElem?_toArray, List.getElem?_cons_zero, List.getElem?_cons_succ]; exact rfl)
                    case st_120 =>
                      intro K hK
                      rw [if_pos (by rfl)]
                      refine wp_store_mid _ _ _ rfl _ _ ([Value.string dX, Value.string pX, Value.int .i64 nX]).toArray rfl rfl (by simpa using T_wc115) (by kernel_rfl) (all_oneCell_toArray str_one) ?_
                      simp only [Act.put, List.setIfInBounds_toArray, List.set_cons_zero, List.set_cons_succ, List.toList_toArray]
                      have L0_ws121 := cell_far2 (g2 := g) (o2 := 0) (vs := [Value.string dX, Value.string pX, Value.int .i64 nX]) L0_wc115 (by omega)
                      have L1_ws121 := cell_far2 (g2 := g) (o2 := 0) (vs := [Value.string dX, Value.string pX, Value.int .i64 nX]) L1_wc115 (by omega)
                      have L2_ws121 := cell_far2 (g2 := g) (o2 := 0) (vs := [Value.string dX, Value.string pX, Value.int .i64 nX]) L2_wc115 (by omega)
                      have C0_ws121 := cell_far2 (g2 := g) (o2 := 0) (vs := [Value.string dX, Value.string pX, Value.int .i64 nX]) C0_wc115 (by omega)
                      have C1_ws121 := cell_far2 (g2 := g) (o2 := 0) (vs := [Value.string dX, Value.string pX, Value.int .i64 nX]) C1_wc115 (by omega)
                      have YG_ws121 := World.rangeAt_setCells_apart YG_wc115 g 0 ([Value.string dX, Value.string pX, Value.int .i64 nX]) (.inl (by omega))
                      have B_ws121 := below_cells (w := w) ([Value.string dX, Value.string pX, Value.int .i64 nX]) wc115 g 0 B_wc115 (show w.heap.size ≤ g by omega)
                      have Y_ws121 := World.rangeAt_setCells_same wc115 g 0 ([Value.string dX, Value.string pX, Value.int .i64 nX]) T_wc115
                      have hgV := World.block_lt_of_cell? _ _ (Y_ws121 0 _ rfl)
                      generalize World.setCells _ _ _ _ = ws121 at *
                      refine hK.out _ _ ⟨L0_ws121, L1_ws121, L2_ws121, C0_ws121, C1_ws121⟩ (fun hHeld => ?_)
                      clear hK K
                      try simp only [Act.put, List.setIfInBounds_toArray, List.set_cons_zero, List.set_cons_succ]
                      refine' wpAnyH_take (i := 10) (oi := _) (v := _) ?e_122 ?a_122 ?b_122 ?c_122 ?q_122 ?y_122 hHeld ?r_122
                      case e_122 => (simp only [List.getElem?_toArray, List.getElem?_cons_zero, List.getElem?_cons_succ]; exact rfl)
                      case a_122 => kernel_rfl
                      case b_122 => kernel_rfl
                      case c_122 => kernel_rfl
                      case q_122 => exact fun _ _ _ h => h
                      case y_122 => exact Or.inl ⟨by rfl, by (intro w hSw; (try dsimp only at hSw); go_simp; first | done | with_reducible rfl)⟩
                      try simp only [Act.put, List.setIfInBounds_toArray, List.set_cons_zero, List.set_cons_succ]
                      refine wpAnyH_done (by kernel_rfl) ?_ _
                      go_wp2_with fail
                      go_meet
                      exact ⟨g, rfl, rfl, Y_ws121, YG_ws121, B_ws121⟩
        case rest =>
          obtain ⟨g1, rfl, rfl, Y1, Y0, hbw⟩ := hcut
          have u0 : wc.cell? ⟨g1, 0, none⟩ = some (.string dX) := Y1 0 _ rfl
          have u1 : wc.cell? ⟨g1, 1, none⟩ = some (.string pX) := Y1 1 _ rfl
          have u2 : wc.cell? ⟨g1, 2, none⟩ = some (.int .i64 nX) := Y1 2 _ rfl
          have v0 : wc.cell? ⟨g0, 0, none⟩ = some (.string dX) := Y0 0 _ rfl
          have v1 : wc.cell? ⟨g0, 1, none⟩ = some (.string pX) := Y0 1 _ rfl
          have v2 : wc.cell? ⟨g0, 2, none⟩ = some (.int .i64 nX) := Y0 2 _ rfl
          clear Y1 Y0
          go_wp2_with fail
          refine (HE.out _).mono ?_
          rintro e w6 ⟨rfl, hb10⟩
          have hb11 := Below.chain hbw hb10
          go_wp2
          go_ret
          exact ⟨rfl, hb11⟩
end Go.Proofs.YtfflbbgipbnckaaDoor
