/- Texts of this claim, gathered: DrawLh, DrawLi, DrawLj. -/
import Derived.Test.YtbobiiodbbcodaaDoorK7
import Derived.Deep.MidRow
namespace Go.Proofs.YtbobiiodbbcodaaDoor
open Go.RowKit
set_option linter.unusedVariables false
set_option linter.unusedSimpArgs false
set_option maxRecDepth 100000
/-- what AppendRecord answers stays within bounds -/
theorem app_small {ok : Bool} {d p c r : ByteArray} {n : Int} (h : d.size + p.size ≤ 31000) (hok : ok = true ↔ ∃ es, ValidL d.data.toList p.data.toList n es) :
    ∃ d' p' n', (appV ok (recB c r) d p n c r).1 = logV d' p' n' ∧ d'.size + p'.size ≤ 31000 := by
  rcases hb : (ok && recB c r) with _ | _
  · exact ⟨d, p, n, by rw [appV_no hb], h⟩
  · simp only [Bool.and_eq_true] at hb
    obtain ⟨h1, h2⟩ := hb
    subst h1
    rw [h2]
    by_cases hn : n = 60
    · exact ⟨d, p, n, by rw [appV_full hn], h⟩
    · obtain ⟨es, hv⟩ := hok.1 rfl
      obtain ⟨_, _, _, hs⟩ := app_line hv hn h2
      refine ⟨d, _, _, by rw [appV_yes hn], ?_⟩
      have := hv.sz
      rw [List.length_append, ba_len, ba_len] at this
      rw [app_size]; omega
theorem sync_small {ok : Bool} {d p : ByteArray} {n : Int} (h : d.size + p.size ≤ 31000) :
    ∃ d' p' n', syncV ok d p n = logV d' p' n' ∧ d'.size + p'.size ≤ 31000 := by
  cases ok with
  | false => exact ⟨_, _, _, rfl, by decide⟩
  | true => exact ⟨_, _, _, rfl, by rw [app_size]; show d.size + p.size + 0 ≤ _; omega⟩
def DrawLog (w : World) (g m B : Nat) (e : Ending) (w' : World) : Prop := ∃ (d p : ByteArray) (n : Int), e = .returned (logV d p n) ∧ d.size + p.size ≤ B ∧ CStep w w' g m
theorem Bk.three' {w : World} {g t : Nat} {a b c : Value} (h : Bk w g t #[a, b, c]) : w.cell? ⟨g, 0, none⟩ = some a ∧ w.cell? ⟨g, 1, none⟩ = some b ∧ w.cell? ⟨g, 2, none⟩ = some c ∧ w.frozen? ⟨g, 0, none⟩ = false ∧ w.frozen? ⟨g, 1, none⟩ = false ∧ w.frozen? ⟨g, 2, none⟩ = false := ⟨h.cell 0, h.cell 1, h.cell 2, h.frozen 0, h.frozen 1, h.frozen 2⟩
theorem three_res {W : World} {b t : Nat} {x y z : Value} (h : Bk W b t #[x, y, z]) (X Y Z : Value) :
    Bk (((W.setCell ⟨b, 0, none⟩ X).setCell ⟨b, 1, none⟩ Y).setCell ⟨b, 2, none⟩ Z) b t #[X, Y, Z] := ((h.set 0 X).set 1 Y).set 2 Z
theorem CStep.three {a b : World} {g m k : Nat} (h : CStep a b g m) (hga : g < a.heap.size) (hk : a.heap.size ≤ k) (X Y Z : Value) :
    CStep a (((b.setCell ⟨k, 0, none⟩ X).setCell ⟨k, 1, none⟩ Y).setCell ⟨k, 2, none⟩ Z) g m :=
  ((h.store hga (p := ⟨k, 0, none⟩) hk X).store hga (p := ⟨k, 1, none⟩) hk Y).store hga (p := ⟨k, 2, none⟩) hk Z
theorem Bk.three {w : World} {g t k : Nat} {cs : Array Value} (h : Bk w g t cs) (hk : g ≠ k) (X Y Z : Value) : Bk (((w.setCell ⟨k, 0, none⟩ X).setCell ⟨k, 1, none⟩ Y).setCell ⟨k, 2, none⟩ Z) g t cs :=
  ((h.other (p := ⟨k, 0, none⟩) hk X).other (p := ⟨k, 1, none⟩) hk Y).other (p := ⟨k, 2, none⟩) hk Z
set_option maxHeartbeats 2000000 in
theorem log12_c (g m : Nat) (w : World) (h : CurAt w g m) (hm : m + 120 < 4611686018427387904) :
    Calls Tryd.prog 46 #[.pointer (some ⟨g, 0, none⟩)] w (DrawLog w g (m + 120) 31000) := by
  have hga := h.lt
  have R0 := Lib.hid ((Bk.new w 33 #[.string ⟨#[]⟩, .string ⟨#[]⟩, .int .i64 0]).alloc (.cells #[.string ⟨#[]⟩, .string ⟨#[]⟩, .int .i64 0] 33))
  have L0 := Bk.new (w.alloc (.cells #[.string ⟨#[]⟩, .string ⟨#[]⟩, .int .i64 0] 33)) 33 #[.string ⟨#[]⟩, .string ⟨#[]⟩, .int .i64 0]
  rw [World.size_alloc] at L0
  have HL0 := Lib.hid L0
  have HC := Lib.hid (((CStep.refl h).alloc (.cells #[.string ⟨#[]⟩, .string ⟨#[]⟩, .int .i64 0] 33)).alloc (.cells #[.string ⟨#[]⟩, .string ⟨#[]⟩, .int .i64 0] 33))
  unfold DrawLog logV
  clear h L0
  go_enter Tryd.func46, Tryd.ntmps46
  go_wp2_with fail
  refine (pick_c 7 g m _ HC.out.cur (by omega)).mono ?_
  rintro e w1 ⟨x, rfl, hx, hs⟩
  have HS := Lib.hid (HC.out.trans hs)
  have R1 := Lib.hid (R0.out.step hs (by omega))
  have L1 := Lib.hid (HL0.out.step hs (by omega))
  obtain ⟨k0, rfl⟩ := Int.eq_ofNat_of_zero_le hx.1
  have hk0 : k0 ≤ 6 := by have := hx.2 (by omega); omega
  clear hs hx HC R0 HL0
  go_wp2
  go_loopw [4] (fun j wr => ∃ (k : Nat) (d p : ByteArray) (n : Int), k ≤ 6 ∧ j = .int .i64 (k : Int) ∧ d.size + p.size ≤ 31000 ∧ Bk wr w.heap.size 33 #[.string ⟨#[]⟩, .string ⟨#[]⟩, .int .i64 0] ∧ Bk wr (w.heap.size + 1) 33 #[.string d, .string p, .int .i64 n] ∧ CStep w wr g (m + 2 + 15 * (6 - k))) (fun j _ => (intOf j).toNat)
  case atStart => exact ⟨k0, ⟨#[]⟩, ⟨#[]⟩, 0, hk0, rfl, by decide, R1.out, L1.out, HS.out.mono (by omega)⟩
  case round =>
    obtain ⟨k, d, p, n, hk, rfl, hdp, hr, hl, hs⟩ := hrel
    have HS := Lib.hid hs
    have HR := Lib.hid hr
    have HL := Lib.hid hl
    clear hs hr hl
    by_cases hk1 : 0 < k
    · have hd : decide (0 < (k : Int)) = true := by simp; omega
      go_wp2_with fail
      -- REGION
      have R_wd := HR.out.drew
      have L_wd := HL.out.drew
      have C_wd := HS.out.drew
      refine wp_region_held_drew (S := fun _ : World => True) (by kernel_rfl) trivial (fun hHeld => ?_)
      generalize World.drew _ = wd at *
      clear HR HL HS
      refine' wpAnyH_take (i := 1) (oi := _) (v := _) ?e_t1 ?a_t1 ?b_t1 ?c_t1 ?q_t1 ?y_t1 hHeld ?r_t1
      case e_t1 => (simp only [List.getElem?_toArray, List.getElem?_cons_zero, List.getElem?_cons_succ]; exact rfl)
      case a_t1 => kernel_rfl
      case b_t1 => kernel_rfl
      case c_t1 => kernel_rfl
      case q_t1 => exact fun _ _ _ h => h
      case y_t1 => exact Or.inl ⟨by rfl, by (intro w hSw; (try dsimp only at hSw); go_simp; first | done | with_reducible rfl)⟩
      try simp only [Act.put, List.setIfInBounds_toArray, List.set_cons_zero, List.set_cons_succ]
      refine wpAnyH_ready (rs := [0, 2]) (by kernel_rfl) (by simp) ?_
      refine' AllReadyH.cons (o := _) ?e_k2 ?st_k2 ?more_k2
      case e_k2 => (simp only [List.getElem?_toArray, List.getElem?_cons_zero, List.getElem?_cons_succ]; exact rfl)
      case st_k2 =>
        intro K hK
        have l0 := L_wd.cell 0
        have l1 := L_wd.cell 1
        have l2 := L_wd.cell 2
        simp only [List.getElem?_toArray, List.getElem?_cons_zero, List.getElem?_cons_succ] at l0 l1 l2
        go_simp
        clear l0 l1 l2
        refine hK.out _ _ trivial (fun hHeld => ?_)
        clear hK K
        try simp only [Act.put, List.setIfInBounds_toArray, List.set_cons_zero, List.set_cons_succ]
        refine wpAnyH_ready (rs := [2]) (by kernel_rfl) (by simp) ?_
        refine' AllReadyH.cons (o := _) ?e_k3 ?st_k3 AllReadyH.nil
        case e_k3 => (simp only [List.getElem?_toArray, List.getElem?_cons_zero, List.getElem?_cons_succ]; exact rfl)
        case st_k3 =>
          intro K hK
          go_simp
          refine (logRecord_c g _ wd C_wd.cur (by omega)).mono ?_
          rintro e we ⟨c, r, rfl, hc, hr, hs⟩
          have R_we := R_wd.step hs (by omega)
          have L_we := L_wd.step hs (by omega)
          have C_we := C_wd.trans hs
          clear hs R_wd L_wd C_wd
          unfold recV
          refine hK.out _ _ trivial (fun hHeld => ?_)
          clear hK K
          try simp only [Act.put, List.setIfInBounds_toArray, List.set_cons_zero, List.set_cons_succ]
          refine wpAnyH_ready (rs := [3]) (by kernel_rfl) (by simp) ?_
          refine' AllReadyH.cons (o := _) ?e_k4 ?st_k4 AllReadyH.nil
          case e_k4 => (simp only [List.getElem?_toArray, List.getElem?_cons_zero, List.getElem?_cons_succ]; exact rfl)
          case st_k4 =>
            intro K hK
            go_simp
            refine (AppendRecordS_c d p n c r we (by omega) (by omega) (by omega) (by omega)).mono ?_
            rintro e wd3 ⟨ok, rfl, hok, hb2⟩
            have R_wd3 := R_we.below hb2
            have L_wd3 := L_we.below hb2
            have C_wd3 := C_we.below hb2
            clear hb2 R_we L_we C_we
            obtain ⟨d2, p2, n2, hV, hdp2⟩ := app_small (c := c) (r := r) hdp hok
            rw [hV]
            generalize (appV ok (recB c r) d p n c r).2 = st at *
            clear hV hok hdp hc hr
            unfold logV
            refine hK.out _ _ trivial (fun hHeld => ?_)
            clear hK K
            try simp only [Act.put, List.setIfInBounds_toArray, List.set_cons_zero, List.set_cons_succ]
            refine' wpAnyH_take (i := 4) (oi := _) (v := _) ?e_t5 ?a_t5 ?b_t5 ?c_t5 ?q_t5 ?y_t5 hHeld ?r_t5
            case e_t5 => (simp only [List.getElem?_toArray, List.getElem?_cons_zero, List.getElem?_cons_succ]; exact rfl)
            case a_t5 => kernel_rfl
            case b_t5 => kernel_rfl
            case c_t5 => kernel_rfl
            case q_t5 => exact fun _ _ _ h => h
            case y_t5 => exact Or.inl ⟨by rfl, by (intro w hSw; (try dsimp only at hSw); go_simp; first | done | with_reducible rfl)⟩
            try simp only [Act.put, List.setIfInBounds_toArray, List.set_cons_zero, List.set_cons_succ]
            refine' wpAnyH_take (i := 5) (oi := _) (v := _) ?e_t6 ?a_t6 ?b_t6 ?c_t6 ?q_t6 ?y_t6 hHeld ?r_t6
            case e_t6 => (simp only [List.getElem?_toArray, List.getElem?_cons_zero, List.getElem?_cons_succ]; exact rfl)
            case a_t6 => kernel_rfl
            case b_t6 => kernel_rfl
            case c_t6 => kernel_rfl
            case q_t6 => exact fun _ _ _ h => h
            case y_t6 => exact Or.inl ⟨by rfl, by (intro w hSw; (try dsimp only at hSw); go_simp; first | done | with_reducible rfl)⟩
            try simp only [Act.put, List.setIfInBounds_toArray, List.set_cons_zero, List.set_cons_succ]
            refine' wpAnyH_take (i := 6) (oi := _) (v := _) ?e_t7 ?a_t7 ?b_t7 ?c_t7 ?q_t7 ?y_t7 hHeld ?r_t7
            case e_t7 => (simp only [List.getElem?_toArray, List.getElem?_cons_zero, List.getElem?_cons_succ]; exact rfl)
            case a_t7 => kernel_rfl
            case b_t7 => kernel_rfl
            case c_t7 => kernel_rfl
            case q_t7 => exact fun _ _ _ h => h
            case y_t7 => exact Or.inl ⟨by rfl, by (intro w hSw; (try dsimp only at hSw); go_simp; first | done | with_reducible rfl)⟩
            try simp only [Act.put, List.setIfInBounds_toArray, List.set_cons_zero, List.set_cons_succ]
            refine wpAnyH_ready (rs := [7]) (by kernel_rfl) (by simp) ?_
            refine' AllReadyH.cons (o := _) ?e_k8 ?st_k8 AllReadyH.nil
            case e_k8 => (simp only [List.getElem?_toArray, List.getElem?_cons_zero, List.getElem?_cons_succ]; exact rfl)
            case st_k8 =>
              intro K hK
              obtain ⟨l0, l1, l2, g0, g1, g2⟩ := L_wd3.three'
              go_simp
              clear l0 l1 l2 g0 g1 g2
              have R_wf := Lib.hid (R_wd3.three (k := w.heap.size + 1) (by omega) (.string d2) (.string p2) (.int .i64 n2))
              have L_wf := Lib.hid (three_res L_wd3 (.string d2) (.string p2) (.int .i64 n2))
              have C_wf := Lib.hid (C_wd3.three (k := w.heap.size + 1) hga (by omega) (.string d2) (.string p2) (.int .i64 n2))
              clear R_wd3 L_wd3 C_wd3
              generalize World.setCell _ _ (Value.int .i64 n2) = wf at *
              refine hK.out _ _ trivial (fun hHeld => ?_)
              clear hK K
              try simp only [Act.put, List.setIfInBounds_toArray, List.set_cons_zero, List.set_cons_succ]
              refine wpAnyH_done (by kernel_rfl) ?_ _
              go_wp2_with fail
              refine (one_c 4 g _ wf C_wf.out.cur (by omega)).mono ?_
              rintro e wg ⟨b, rfl, hs⟩
              have R_wg := Lib.hid (R_wf.out.step hs (by omega))
              have L_wg := Lib.hid (L_wf.out.step hs (by omega))
              have C_wg := Lib.hid (C_wf.out.trans hs)
              clear hs R_wf L_wf C_wf
              cases b with
              | false =>
                as_aux_lemma =>
                  go_wp2
                  go_roundw
                  case rel => exact ⟨k - 1, d2, p2, n2, by omega, by go_num, hdp2, R_wg.out, L_wg.out, C_wg.out.mono (by omega)⟩
                  case measure => simp [intOf]; omega
              | true =>
                as_aux_lemma =>
                  have HSY := Lib.hid (fun W => SyncLogS_c d2 p2 n2 W (by omega) (by omega))
                  unfold logV SyncOut at HSY
                  obtain ⟨q0, q1, q2, _, _, _⟩ := L_wg.out.three'
                  go_wp2_with fail
                  refine (HSY.out _).mono ?_
                  rintro e wh ⟨ok, rfl, _, hb2⟩
                  have R_wh := Lib.hid (R_wg.out.below hb2)
                  have L_wh := Lib.hid (L_wg.out.below hb2)
                  have C_wh := Lib.hid (C_wg.out.below hb2)
                  obtain ⟨d3, p3, n3, hV, hdp3⟩ := sync_small (ok := ok) (n := n2) hdp2
                  rw [hV]
                  unfold logV
                  clear hb2 q0 q1 q2 R_wg L_wg C_wg hV HSY hdp2
                  obtain ⟨l0, l1, l2, g0, g1, g2⟩ := L_wh.out.three'
                  go_wp2
                  go_roundw
                  case rel => exact ⟨k - 1, d3, p3, n3, by omega, by go_num, hdp3, R_wh.out.three (k := w.heap.size + 1) (by omega) _ _ _, three_res L_wh.out _ _ _, (C_wh.out.three (k := w.heap.size + 1) hga (by omega) _ _ _).mono (by omega)⟩
                  case measure => simp [intOf]; omega
      case more_k2 =>
        refine' AllReadyH.cons (o := _) ?e_k9 ?st_k9 AllReadyH.nil
        case e_k9 => (simp only [List.getElem?_toArray, List.getElem?_cons_zero, List.getElem?_cons_succ]; exact rfl)
        case st_k9 =>
          intro K hK
          go_simp
          refine (logRecord_c g _ wd C_wd.cur (by omega)).mono ?_
          rintro e we ⟨c, r, rfl, hc, hr, hs⟩
          have R_we := R_wd.step hs (by omega)
          have L_we := L_wd.step hs (by omega)
          have C_we := C_wd.trans hs
          clear hs R_wd L_wd C_wd
          unfold recV
          refine hK.out _ _ trivial (fun hHeld => ?_)
          clear hK K
          try simp only [Act.put, List.setIfInBounds_toArray, List.set_cons_zero, List.set_cons_succ]
          refine wpAnyH_ready (rs := [0]) (by kernel_rfl) (by simp) ?_
          refine' AllReadyH.cons (o := _) ?e_k10 ?st_k10 AllReadyH.nil
          case e_k10 => (simp only [List.getElem?_toArray, List.getElem?_cons_zero, List.getElem?_cons_succ]; exact rfl)
          case st_k10 =>
            intro K hK
            have l0 := L_we.cell 0
            have l1 := L_we.cell 1
            have l2 := L_we.cell 2
            simp only [List.getElem?_toArray, List.getElem?_cons_zero, List.getElem?_cons_succ] at l0 l1 l2
            go_simp
            clear l0 l1 l2
            refine hK.out _ _ trivial (fun hHeld => ?_)
            clear hK K
            try simp only [Act.put, List.setIfInBounds_toArray, List.set_cons_zero, List.set_cons_succ]
            refine wpAnyH_ready (rs := [3]) (by kernel_rfl) (by simp) ?_
            refine' AllReadyH.cons (o := _) ?e_k11 ?st_k11 AllReadyH.nil
            case e_k11 => (simp only [List.getElem?_toArray, List.getElem?_cons_zero, List.getElem?_cons_succ]; exact rfl)
            case st_k11 =>
              intro K hK
              go_simp
              refine (AppendRecordS_c d p n c r we (by omega) (by omega) (by omega) (by omega)).mono ?_
              rintro e wd3 ⟨ok, rfl, hok, hb2⟩
              have R_wd3 := R_we.below hb2
              have L_wd3 := L_we.below hb2
              have C_wd3 := C_we.below hb2
              clear hb2 R_we L_we C_we
              obtain ⟨d2, p2, n2, hV, hdp2⟩ := app_small (c := c) (r := r) hdp hok
              rw [hV]
              generalize (appV ok (recB c r) d p n c r).2 = st at *
              clear hV hok hdp hc hr
              unfold logV
              refine hK.out _ _ trivial (fun hHeld => ?_)
              clear hK K
              try simp only [Act.put, List.setIfInBounds_toArray, List.set_cons_zero, List.set_cons_succ]
              refine' wpAnyH_take (i := 4) (oi := _) (v := _) ?e_t12 ?a_t12 ?b_t12 ?c_t12 ?q_t12 ?y_t12 hHeld ?r_t12
              case e_t12 => (simp only [List.getElem?_toArray, List.getElem?_cons_zero, List.getElem?_cons_succ]; exact rfl)
              case a_t12 => kernel_rfl
              case b_t12 => kernel_rfl
              case c_t12 => kernel_rfl
              case q_t12 => exact fun _ _ _ h => h
              case y_t12 => exact Or.inl ⟨by rfl, by (intro w hSw; (try dsimp only at hSw); go_simp; first | done | with_reducible rfl)⟩
              try simp only [Act.put, List.setIfInBounds_toArray, List.set_cons_zero, List.set_cons_succ]
              refine' wpAnyH_take (i := 5) (oi := _) (v := _) ?e_t13 ?a_t13 ?b_t13 ?c_t13 ?q_t13 ?y_t13 hHeld ?r_t13
              case e_t13 => (simp only [List.getElem?_toArray, List.getElem?_cons_zero, List.getElem?_cons_succ]; exact rfl)
              case a_t13 => kernel_rfl
              case b_t13 => kernel_rfl
              case c_t13 => kernel_rfl
              case q_t13 => exact fun _ _ _ h => h
              case y_t13 => exact Or.inl ⟨by rfl, by (intro w hSw; (try dsimp only at hSw); go_simp; first | done | with_reducible rfl)⟩
              try simp only [Act.put, List.setIfInBounds_toArray, List.set_cons_zero, List.set_cons_succ]
              refine' wpAnyH_take (i := 6) (oi := _) (v := _) ?e_t14 ?a_t14 ?b_t14 ?c_t14 ?q_t14 ?y_t14 hHeld ?r_t14
              case e_t14 => (simp only [List.getElem?_toArray, List.getElem?_cons_zero, List.getElem?_cons_succ]; exact rfl)
              case a_t14 => kernel_rfl
              case b_t14 => kernel_rfl
              case c_t14 => kernel_rfl
              case q_t14 => exact fun _ _ _ h => h
              case y_t14 => exact Or.inl ⟨by rfl, by (intro w hSw; (try dsimp only at hSw); go_simp; first | done | with_reducible rfl)⟩
              try simp only [Act.put, List.setIfInBounds_toArray, List.set_cons_zero, List.set_cons_succ]
              refine wpAnyH_ready (rs := [7]) (by kernel_rfl) (by simp) ?_
              refine' AllReadyH.cons (o := _) ?e_k15 ?st_k15 AllReadyH.nil
              case e_k15 => (simp only [List.getElem?_toArray, List.getElem?_cons_zero, List.getElem?_cons_succ]; exact rfl)
              case st_k15 =>
                intro K hK
                obtain ⟨l0, l1, l2, g0, g1, g2⟩ := L_wd3.three'
                go_simp
                clear l0 l1 l2 g0 g1 g2
                have R_wf := Lib.hid (R_wd3.three (k := w.heap.size + 1) (by omega) (.string d2) (.string p2) (.int .i64 n2))
                have L_wf := Lib.hid (three_res L_wd3 (.string d2) (.string p2) (.int .i64 n2))
                have C_wf := Lib.hid (C_wd3.three (k := w.heap.size + 1) hga (by omega) (.string d2) (.string p2) (.int .i64 n2))
                clear R_wd3 L_wd3 C_wd3
                generalize World.setCell _ _ (Value.int .i64 n2) = wf at *
                refine hK.out _ _ trivial (fun hHeld => ?_)
                clear hK K
                try simp only [Act.put, List.setIfInBounds_toArray, List.set_cons_zero, List.set_cons_succ]
                refine wpAnyH_done (by kernel_rfl) ?_ _
                go_wp2_with fail
                refine (one_c 4 g _ wf C_wf.out.cur (by omega)).mono ?_
                rintro e wg ⟨b, rfl, hs⟩
                have R_wg := Lib.hid (R_wf.out.step hs (by omega))
                have L_wg := Lib.hid (L_wf.out.step hs (by omega))
                have C_wg := Lib.hid (C_wf.out.trans hs)
                clear hs R_wf L_wf C_wf
                cases b with
                | false =>
                  as_aux_lemma =>
                    go_wp2
                    go_roundw
                    case rel => exact ⟨k - 1, d2, p2, n2, by omega, by go_num, hdp2, R_wg.out, L_wg.out, C_wg.out.mono (by omega)⟩
                    case measure => simp [intOf]; omega
                | true =>
                  as_aux_lemma =>
                    have HSY := Lib.hid (fun W => SyncLogS_c d2 p2 n2 W (by omega) (by omega))
                    unfold logV SyncOut at HSY
                    obtain ⟨q0, q1, q2, _, _, _⟩ := L_wg.out.three'
                    go_wp2_with fail
                    refine (HSY.out _).mono ?_
                    rintro e wh ⟨ok, rfl, _, hb2⟩
                    have R_wh := Lib.hid (R_wg.out.below hb2)
                    have L_wh := Lib.hid (L_wg.out.below hb2)
                    have C_wh := Lib.hid (C_wg.out.below hb2)
                    obtain ⟨d3, p3, n3, hV, hdp3⟩ := sync_small (ok := ok) (n := n2) hdp2
                    rw [hV]
                    unfold logV
                    clear hb2 q0 q1 q2 R_wg L_wg C_wg hV HSY hdp2
                    obtain ⟨l0, l1, l2, g0, g1, g2⟩ := L_wh.out.three'
                    go_wp2
                    go_roundw
                    case rel => exact ⟨k - 1, d3, p3, n3, by omega, by go_num, hdp3, R_wh.out.three (k := w.heap.size + 1) (by omega) _ _ _, three_res L_wh.out _ _ _, (C_wh.out.three (k := w.heap.size + 1) hga (by omega) _ _ _).mono (by omega)⟩
                    case measure => simp [intOf]; omega
      -- END
    · have hd : decide (0 < (k : Int)) = false := by simp; omega
      obtain ⟨q0, q1, q2, _, _, _⟩ := HL.out.three'
      obtain ⟨_, _, _, f0, f1, f2⟩ := HR.out.three'
      go_wp2
      exact bodyPost_ret (v := .agg #[.string d, .string p, .int .i64 n]) (by
        have z := three_res HR.out (.string d) (.string p) (.int .i64 n)
        have z0 := z.cell 0; have z1 := z.cell 1; have z2 := z.cell 2
        simp only [List.getElem?_toArray, List.getElem?_cons_zero, List.getElem?_cons_succ] at z0 z1 z2
        simp [results, Tryd.results46, go_sem, z0, z1, z2]) rfl ⟨d, p, n, rfl, hdp, (HS.out.three (k := w.heap.size) hga (Nat.le_refl _) _ _ _).mono (by omega)⟩
set_option maxHeartbeats 2000000 in
theorem anyLog_c (g m : Nat) (w : World) (h : CurAt w g m) (hm : m + 140 < 4611686018427387904) :
    Calls Tryd.prog 38 #[.pointer (some ⟨g, 0, none⟩)] w (DrawLog w g (m + 140) 70000) := by
  have hga := h.lt
  have R0 := Lib.hid (Bk.new w 33 #[.string ⟨#[]⟩, .string ⟨#[]⟩, .int .i64 0])
  have HC := Lib.hid ((CStep.refl h).alloc (.cells #[.string ⟨#[]⟩, .string ⟨#[]⟩, .int .i64 0] 33))
  have HLG := Lib.hid (fun W hW => log12_c g m W hW (by omega))
  unfold DrawLog logV at *
  clear h
  go_enter Tryd.func38, Tryd.ntmps38
  go_wp2_with fail
  refine (HLG.out _ HC.out.cur).mono ?_
  rintro e w1 ⟨d, p, n, rfl, hdp, hs⟩
  have hw1 : w.heap.size < w1.heap.size := (R0.out.step hs (by omega)).lt
  have L1 := Lib.hid (Bk.new w1 33 #[.string d, .string p, .int .i64 n])
  have R1 := Lib.hid ((R0.out.step hs (by omega)).alloc (.cells #[.string d, .string p, .int .i64 n] 33))
  have HS1 := Lib.hid ((HC.out.trans hs).alloc (.cells #[.string d, .string p, .int .i64 n] 33))
  have hg1 := (HC.out.trans hs).cur.lt
  clear hs HC R0
  go_wp2_with fail
  refine (pick_c 24 g _ _ HS1.out.cur (by omega)).mono ?_
  rintro e w2 ⟨x, rfl, hx, hs⟩
  have L2 := Lib.hid (L1.out.step hs (by omega))
  have R2 := Lib.hid (R1.out.step hs (by omega))
  have HS2 := Lib.hid (HS1.out.trans hs)
  clear hs hx HS1 L1 R1
  obtain ⟨q0, q1, q2, f0, f1, f2⟩ := L2.out.three'
  obtain ⟨_, _, _, g0, g1, g2⟩ := R2.out.three'
  have FIN : ∀ (D P : ByteArray) (N : Int) (W : World), D.size + P.size ≤ 70000 → CStep w W g (m + 140) → Bk W w.heap.size 33 #[.string ⟨#[]⟩, .string ⟨#[]⟩, .int .i64 0] →
      ∃ (d p : ByteArray) (n : Int), (Ending.returned (.agg #[.string D, .string P, .int .i64 N])) = .returned (.agg #[.string d, .string p, .int .i64 n]) ∧ d.size + p.size ≤ 70000 ∧ CStep w (((W.setCell ⟨w.heap.size, 0, none⟩ (.string D)).setCell ⟨w.heap.size, 1, none⟩ (.string P)).setCell ⟨w.heap.size, 2, none⟩ (.int .i64 N)) g (m + 140) :=
    fun D P N W h1 h2 h3 => ⟨D, P, N, rfl, h1, h2.three (k := w.heap.size) hga (Nat.le_refl _) _ _ _⟩
  have HF := Lib.hid FIN
  clear FIN
  by_cases e0 : x = 0
  · subst e0
    go_wp2
    exact bodyPost_ret (v := .agg #[.string d, .string p, .int .i64 (wrap64 (n + 1))]) (by
      have z := three_res (R2.out.other (p := ⟨w1.heap.size, 2, none⟩) (by show w.heap.size ≠ w1.heap.size; omega) (.int .i64 (wrap64 (n + 1)))) (.string d) (.string p) (.int .i64 (wrap64 (n + 1)))
      have z0 := z.cell 0; have z1 := z.cell 1; have z2 := z.cell 2
      simp only [List.getElem?_toArray, List.getElem?_cons_zero, List.getElem?_cons_succ] at z0 z1 z2
      simp [results, Tryd.results38, go_sem, z0, z1, z2]) rfl (HF.out d p (wrap64 (n + 1)) _ (by omega) ((HS2.out.store hga (p := ⟨w1.heap.size, 2, none⟩) (by show w.heap.size ≤ w1.heap.size; omega) (.int .i64 (wrap64 (n + 1)))).mono (by omega)) (R2.out.other (p := ⟨w1.heap.size, 2, none⟩) (by show w.heap.size ≠ w1.heap.size; omega) (.int .i64 (wrap64 (n + 1)))))
  · by_cases e1 : x = 1
    · subst e1
      go_wp2_with fail
      refine (spoilt_c p g _ _ HS2.out.cur (by omega) (by omega)).mono ?_
      rintro e w3 ⟨s, rfl, hs0, hs⟩
      have L3 := Lib.hid (L2.out.step hs (by omega))
      have R3 := Lib.hid (R2.out.step hs (by omega))
      have HS3 := Lib.hid (HS2.out.trans hs)
      clear hs HS2 L2 R2 q0 q1 q2 f0 f1 f2 g0 g1 g2
      obtain ⟨q0, q1, q2, f0, f1, f2⟩ := L3.out.three'
      obtain ⟨_, _, _, g0, g1, g2⟩ := R3.out.three'
      go_wp2
      exact bodyPost_ret (v := .agg #[.string d, .string s, .int .i64 n]) (by
        have z := three_res (R3.out.other (p := ⟨w1.heap.size, 1, none⟩) (by show w.heap.size ≠ w1.heap.size; omega) (.string s)) (.string d) (.string s) (.int .i64 n)
        have z0 := z.cell 0; have z1 := z.cell 1; have z2 := z.cell 2
        simp only [List.getElem?_toArray, List.getElem?_cons_zero, List.getElem?_cons_succ] at z0 z1 z2
        simp [results, Tryd.results38, go_sem, z0, z1, z2]) rfl (HF.out d s n _ (by omega) ((HS3.out.store hga (p := ⟨w1.heap.size, 1, none⟩) (by show w.heap.size ≤ w1.heap.size; omega) (.string s)).mono (by omega)) (R3.out.other (p := ⟨w1.heap.size, 1, none⟩) (by show w.heap.size ≠ w1.heap.size; omega) (.string s)))
    · by_cases e2 : x = 2
      · subst e2
        have hsz : ¬ 9223372036854775807 < d.size + p.size := by omega
        go_wp2
        exact bodyPost_ret (v := .agg #[.string (d ++ p), .string p, .int .i64 n]) (by
          have z := three_res (R2.out.other (p := ⟨w1.heap.size, 0, none⟩) (by show w.heap.size ≠ w1.heap.size; omega) (.string (d ++ p))) (.string (d ++ p)) (.string p) (.int .i64 n)
          have z0 := z.cell 0; have z1 := z.cell 1; have z2 := z.cell 2
          simp only [List.getElem?_toArray, List.getElem?_cons_zero, List.getElem?_cons_succ] at z0 z1 z2
          simp [results, Tryd.results38, go_sem, z0, z1, z2]) rfl (HF.out (d ++ p) p n _ (by rw [app_size]; omega) ((HS2.out.store hga (p := ⟨w1.heap.size, 0, none⟩) (by show w.heap.size ≤ w1.heap.size; omega) (.string (d ++ p))).mono (by omega)) (R2.out.other (p := ⟨w1.heap.size, 0, none⟩) (by show w.heap.size ≠ w1.heap.size; omega) (.string (d ++ p))))
      · go_wp2
        exact bodyPost_ret (v := .agg #[.string d, .string p, .int .i64 n]) (by
          have z := three_res R2.out (.string d) (.string p) (.int .i64 n)
          have z0 := z.cell 0; have z1 := z.cell 1; have z2 := z.cell 2
          simp only [List.getElem?_toArray, List.getElem?_cons_zero, List.getElem?_cons_succ] at z0 z1 z2
          simp [results, Tryd.results38, go_sem, z0, z1, z2]) rfl (HF.out d p n _ (by omega) (HS2.out.mono (by omega)) R2.out)
end Go.Proofs.YtbobiiodbbcodaaDoor
namespace Go.Proofs.YtbobiiodbbcodaaDoor
open Go.RowKit
set_option linter.unusedVariables false
set_option linter.unusedSimpArgs false
set_option maxRecDepth 100000
theorem Bk.rangeL {w : World} {g t : Nat} {b : List Value} (h : Bk w g t b.toArray) : w.rangeAt g 0 b := fun j v hv => by
  rw [Nat.zero_add, h.cell j]; simpa using hv
theorem info_Log3 : (Tryd.prog.info? 33).map (·.size) = some 3 := by kernel_rfl
theorem info_Rec2 : (Tryd.prog.info? 25).map (·.size) = some 2 := by kernel_rfl

theorem DrawIsValidRecord_c (v : Value) (xs : List Nat) (w : World) (h : Code w v xs) :
    Calls Tryd.prog 6 #[v] w fun e w' => ∃ c r : ByteArray, e = .returned (recV c r) ∧ c.size ≤ 100 ∧ r.size ≤ 100 ∧ Below w.heap.size w w' := by
  have b0 := Below.refl w.heap.size w
  have b1 := Below.alc b0 (.cells #[.string ⟨#[]⟩, .string ⟨#[]⟩] 25)
  have HK := cur_new (h.below b1)
  have HB0 := Lib.hid (Below.alc b1 (.cells #[v, .int .i64 0, .int .u64 0] 55))
  have R0 := (Bk.new w 25 #[.string ⟨#[]⟩, .string ⟨#[]⟩]).alloc (.cells #[v, .int .i64 0, .int .u64 0] 55)
  simp only [World.size_alloc] at HK R0
  have R1 := Lib.hid R0
  clear R0
  have HC := Lib.hid (CStep.refl HK)
  clear HK b0 b1
  obtain ⟨a, c, rfl, _⟩ := h
  unfold recV
  go_enter Tryd.func6, Tryd.ntmps6
  go_wp2_with fail
  refine (logRecord_c (w.heap.size + 1) 0 _ HC.out.cur (by omega)).mono ?_
  rintro e w1 ⟨c, r, rfl, hc, hr, hs⟩
  have R2 := Lib.hid (R1.out.step hs (by omega))
  have HS := Lib.hid (HC.out.trans hs)
  clear hs
  obtain ⟨_, _, f0, f1⟩ := R2.out.two'
  unfold recV
  go_wp2
  obtain ⟨z0, z1⟩ := two_res R2.out (.string c) (.string r)
  exact bodyPost_ret (v := .agg #[.string c, .string r]) (by simp [results, Tryd.results6, go_sem, z0, z1]) rfl ⟨c, r, rfl, hc, hr, (((HB0.out.trans (HS.out.low (B := w.heap.size) (by omega) (by simp; omega))).setCell (p := ⟨w.heap.size, 0, none⟩) (by show w.heap.size ≤ w.heap.size; omega) _).setCell (p := ⟨w.heap.size, 1, none⟩) (by show w.heap.size ≤ w.heap.size; omega) _)⟩

theorem DrawEncodeRecord_c (v : Value) (xs : List Nat) (w : World) (h : Code w v xs) :
    Calls Tryd.prog 7 #[v] w fun e w' => ∃ (k : Int) (c r : ByteArray), e = .returned (.tuple #[.int .i64 k, recV c r]) ∧ c.size ≤ 100 ∧ r.size ≤ 100 ∧ Below w.heap.size w w' := by
  have b0 := Below.refl w.heap.size w
  have b1 := Below.alc b0 (.cells #[.string ⟨#[]⟩, .string ⟨#[]⟩] 25)
  have HK := cur_new (h.below b1)
  have HB0 := Lib.hid (Below.alc b1 (.cells #[v, .int .i64 0, .int .u64 0] 55))
  have R0 := (Bk.new w 25 #[.string ⟨#[]⟩, .string ⟨#[]⟩]).alloc (.cells #[v, .int .i64 0, .int .u64 0] 55)
  simp only [World.size_alloc] at HK R0
  have R1 := Lib.hid R0
  clear R0
  have HC := Lib.hid (CStep.refl HK)
  clear HK b0 b1
  obtain ⟨a, c, rfl, _⟩ := h
  unfold recV
  go_enter Tryd.func7, Tryd.ntmps7
  go_wp2_with fail
  refine (amongL_c [0, 1, 12, 59, 60, -1] (w.heap.size + 1) 0 _ _ (by simp) HC.out.cur (by omega) (by decide) (by decide)).mono ?_
  rintro e w1 ⟨k, rfl, _, hs⟩
  have R2 := Lib.hid (R1.out.step hs (by omega))
  have HS := Lib.hid (HC.out.trans hs)
  clear hs R1 HC
  go_wp2_with fail
  refine (logRecord_c (w.heap.size + 1) _ _ HS.out.cur (by omega)).mono ?_
  rintro e w2 ⟨c, r, rfl, hc, hr, hs⟩
  have R3 := Lib.hid (R2.out.step hs (by omega))
  have HS2 := Lib.hid (HS.out.trans hs)
  clear hs HS R2
  obtain ⟨_, _, f0, f1⟩ := R3.out.two'
  unfold recV
  go_wp2
  obtain ⟨z0, z1⟩ := two_res R3.out (.string c) (.string r)
  exact bodyPost_ret (v := .tuple #[.int .i64 k, .agg #[.string c, .string r]]) (by simp [results, Tryd.results7, go_sem, z0, z1]) rfl ⟨k, c, r, rfl, hc, hr, (((HB0.out.trans (HS2.out.low (B := w.heap.size) (by omega) (by simp; omega))).setCell (p := ⟨w.heap.size, 0, none⟩) (by show w.heap.size ≤ w.heap.size; omega) _).setCell (p := ⟨w.heap.size, 1, none⟩) (by show w.heap.size ≤ w.heap.size; omega) _)⟩

theorem DrawIsValidLog_c (v : Value) (xs : List Nat) (w : World) (h : Code w v xs) :
    Calls Tryd.prog 11 #[v] w fun e w' => ∃ (d p : ByteArray) (n : Int), e = .returned (logV d p n) ∧ d.size + p.size ≤ 70000 ∧ Below w.heap.size w w' := by
  have b0 := Below.refl w.heap.size w
  have b1 := Below.alc b0 (.cells #[.string ⟨#[]⟩, .string ⟨#[]⟩, .int .i64 0] 33)
  have HK := cur_new (h.below b1)
  have HB0 := Lib.hid (Below.alc b1 (.cells #[v, .int .i64 0, .int .u64 0] 55))
  have R0 := (Bk.new w 33 #[.string ⟨#[]⟩, .string ⟨#[]⟩, .int .i64 0]).alloc (.cells #[v, .int .i64 0, .int .u64 0] 55)
  simp only [World.size_alloc] at HK R0
  have R1 := Lib.hid R0
  clear R0
  have HC := Lib.hid (CStep.refl HK)
  clear HK b0 b1
  obtain ⟨a, c, rfl, _⟩ := h
  unfold logV
  go_enter Tryd.func11, Tryd.ntmps11
  go_wp2_with fail
  refine (anyLog_c (w.heap.size + 1) 0 _ HC.out.cur (by omega)).mono ?_
  rintro e w1 ⟨d, p, n, rfl, hdp, hs⟩
  have R2 := Lib.hid (R1.out.step hs (by omega))
  have HS := Lib.hid (HC.out.trans hs)
  clear hs
  obtain ⟨_, _, _, f0, f1, f2⟩ := R2.out.three'
  unfold logV
  go_wp2
  have z := three_res R2.out (.string d) (.string p) (.int .i64 n)
  have z0 := z.cell 0; have z1 := z.cell 1; have z2 := z.cell 2
  simp only [List.getElem?_toArray, List.getElem?_cons_zero, List.getElem?_cons_succ] at z0 z1 z2
  exact bodyPost_ret (v := .agg #[.string d, .string p, .int .i64 n]) (by simp [results, Tryd.results11, go_sem, z0, z1, z2]) rfl ⟨d, p, n, rfl, hdp, ((((HB0.out.trans (HS.out.low (B := w.heap.size) (by omega) (by simp; omega))).setCell (p := ⟨w.heap.size, 0, none⟩) (by show w.heap.size ≤ w.heap.size; omega) _).setCell (p := ⟨w.heap.size, 1, none⟩) (by show w.heap.size ≤ w.heap.size; omega) _).setCell (p := ⟨w.heap.size, 2, none⟩) (by show w.heap.size ≤ w.heap.size; omega) _)⟩

end Go.Proofs.YtbobiiodbbcodaaDoor
namespace Go.Proofs.YtbobiiodbbcodaaDoor
open Go.RowKit
set_option linter.unusedVariables false
set_option linter.unusedSimpArgs false
set_option maxRecDepth 100000

set_option maxHeartbeats 8000000 in
theorem DrawAppendRecord_c (v : Value) (xs : List Nat) (w : World) (h : Code w v xs) :
    Calls Tryd.prog 12 #[v] w fun e w' => ∃ (d p : ByteArray) (n : Int) (c r : ByteArray), e = .returned (.tuple #[logV d p n, recV c r]) ∧ d.size + p.size ≤ 70000 ∧ c.size ≤ 100 ∧ r.size ≤ 100 ∧ Below w.heap.size w w' := by
  have b0 := Below.refl w.heap.size w
  have b1 := Below.alc b0 (.cells #[.string ⟨#[]⟩, .string ⟨#[]⟩, .int .i64 0] 33)
  have b2 := Below.alc b1 (.cells #[.string ⟨#[]⟩, .string ⟨#[]⟩] 25)
  have HK := cur_new (h.below b2)
  have HB0 := Lib.hid (Below.alc b2 (.cells #[v, .int .i64 0, .int .u64 0] 55))
  have R0 := ((Bk.new w 33 #[.string ⟨#[]⟩, .string ⟨#[]⟩, .int .i64 0]).alloc (.cells #[.string ⟨#[]⟩, .string ⟨#[]⟩] 25)).alloc (.cells #[v, .int .i64 0, .int .u64 0] 55)
  have Q0 := (Bk.new (w.alloc (.cells #[.string ⟨#[]⟩, .string ⟨#[]⟩, .int .i64 0] 33)) 25 #[.string ⟨#[]⟩, .string ⟨#[]⟩]).alloc (.cells #[v, .int .i64 0, .int .u64 0] 55)
  simp only [World.size_alloc] at HK R0 Q0
  have R1 := Lib.hid R0
  clear R0
  have Q1 := Lib.hid Q0
  clear Q0
  have HC := Lib.hid (CStep.refl HK)
  clear HK b0 b1 b2
  obtain ⟨a, c, rfl, _⟩ := h
  have HAL := Lib.hid (fun W hW => anyLog_c (w.heap.size + 1 + 1) 0 W hW (by omega))
  unfold recV logV DrawLog at *
  unfold logV at *
  go_enter Tryd.func12, Tryd.ntmps12
  go_wp2_with fail
  have hga := HC.out.cur.lt
  generalize (World.alloc (World.alloc (World.alloc w (.cells #[.string ⟨#[]⟩, .string ⟨#[]⟩, .int .i64 0] 33)) (.cells #[.string ⟨#[]⟩, .string ⟨#[]⟩] 25)) (.cells #[.slice a xs.length c, .int .i64 0, .int .u64 0] 55)) = w0 at *
  refine (HAL.out _ HC.out.cur).mono ?_
  rintro e w1 ⟨d, p, n, rfl, hdp, hs⟩
  have hlt1 : w.heap.size + 1 + 1 < w1.heap.size := hs.cur.lt
  have hle1 : w0.heap.size ≤ w1.heap.size := hs.gr.size
  have L2 := Lib.hid (Bk.new w1 33 #[.string d, .string p, .int .i64 n])
  have R2 := Lib.hid ((R1.out.step hs (by omega)).alloc (.cells #[.string d, .string p, .int .i64 n] 33))
  have Q2 := Lib.hid ((Q1.out.step hs (by omega)).alloc (.cells #[.string d, .string p, .int .i64 n] 33))
  have C2 := Lib.hid ((HC.out.trans hs).alloc (.cells #[.string d, .string p, .int .i64 n] 33))
  clear hs R1 Q1 HC HAL
  go_wp2_with fail
  refine (one_c 40 (w.heap.size + 1 + 1) _ _ C2.out.cur (by omega)).mono ?_
  rintro e w2 ⟨b, rfl, hs⟩
  have L3 := Lib.hid (L2.out.step hs (by omega))
  have R3 := Lib.hid (R2.out.step hs (by omega))
  have Q3 := Lib.hid (Q2.out.step hs (by omega))
  have C3 := Lib.hid (C2.out.trans hs)
  clear hs L2 R2 Q2 C2
  cases b with
  | false =>
    as_aux_lemma =>
      go_wp2_with fail
      have L_d := L3.out.drew
      have R_d := R3.out.drew
      have Q_d := Q3.out.drew
      have C_d := C3.out.drew
      clear L3 R3 Q3 C3
      refine wp_region_noPanic ?_
      refine wp_region_held_drew (S := fun w' : World => Bk w' w1.heap.size 33 #[.string d, .string p, .int .i64 n]) (by kernel_rfl) L_d (fun hHeld => ?_)
      generalize World.drew _ = wd at *
      refine' wpAnyH_take (i := 0) (oi := _) (v := _) ?e_1 ?a_1 ?b_1 ?c_1 ?q_1 ?y_1 hHeld ?r_1
      case e_1 => (simp only [List.getElem?_toArray, List.getElem?_cons_zero, List.getElem?_cons_succ]; exact rfl)
      case a_1 => kernel_rfl
      case b_1 => kernel_rfl
      case c_1 => kernel_rfl
      case q_1 => exact fun _ _ _ h => h
      case y_1 =>
        refine' yieldsIf_load_mid ?hw_1 _ _ rfl _ _ rfl [.string d, .string p, .int .i64 n] _ ?hS_1 ?hu_1 ?hd_1 ?hi_1
        case hw_1 => rfl
        case hS_1 => exact fun (w' : World) (h : Bk w' w1.heap.size 33 #[.string d, .string p, .int .i64 n]) => Bk.rangeL (b := [.string d, .string p, .int .i64 n]) h
        case hu_1 => exact Tryd.underlying33
        case hd_1 => rfl
        case hi_1 => exact info_Log3
      try simp only [Act.put, List.setIfInBounds_toArray, List.set_cons_zero, List.set_cons_succ]
      refine' wpAnyH_take (i := 1) (oi := _) (v := _) ?e_2 ?a_2 ?b_2 ?c_2 ?q_2 ?y_2 hHeld ?r_2
      case e_2 => (simp only [List.getElem?_toArray, List.getElem?_cons_zero, List.getElem?_cons_succ]; exact rfl)
      case a_2 => kernel_rfl
      case b_2 => kernel_rfl
      case c_2 => kernel_rfl
      case q_2 => exact fun _ _ _ h => h
      case y_2 => exact Or.inl ⟨by rfl, by (intro w hSw; (try dsimp only at hSw); go_simp; first | done | with_reducible rfl)⟩
      try simp only [Act.put, List.setIfInBounds_toArray, List.set_cons_zero, List.set_cons_succ]
      refine wpAnyH_ready (rs := [2]) (by kernel_rfl) (by simp) ?_
      refine' AllReadyH.cons (o := _) ?e_3 ?st_3 AllReadyH.nil
      case e_3 => (simp only [List.getElem?_toArray, List.getElem?_cons_zero, List.getElem?_cons_succ]; exact rfl)
      intro K hK
      go_simp
      refine (logRecord_c (w.heap.size + 1 + 1) _ _ C_d.cur (by omega)).mono ?_
      rintro e wc ⟨c, r, rfl, hc, hr, hs⟩
      have L_c := L_d.step hs (by omega)
      have R_c := R_d.step hs (by omega)
      have Q_c := Q_d.step hs (by omega)
      have C_c := C_d.trans hs
      clear hs L_d R_d Q_d C_d
      unfold recV
      refine hK.out _ _ L_c (fun hHeld => ?_)
      clear hK K
      try simp only [Act.put, List.setIfInBounds_toArray, List.set_cons_zero, List.set_cons_succ]
      refine wpAnyH_ready (rs := [3]) (by kernel_rfl) (by simp) ?_
      refine' AllReadyH.cons (o := _) ?e_4 ?st_4 AllReadyH.nil
      case e_4 => (simp only [List.getElem?_toArray, List.getElem?_cons_zero, List.getElem?_cons_succ]; exact rfl)
      intro K hK
      obtain ⟨_, _, _, g0, g1, g2⟩ := R_c.three'
      go_simp
      clear g0 g1 g2
      have L_e := L_c.three (k := w.heap.size) (by omega) (.string d) (.string p) (.int .i64 n)
      have Q_e := Q_c.three (k := w.heap.size) (by omega) (.string d) (.string p) (.int .i64 n)
      have R_e := three_res R_c (.string d) (.string p) (.int .i64 n)
      have B_e := Lib.hid (((((HB0.out.trans (C_c.low (B := w.heap.size) (by omega) (by omega))).setCell (p := ⟨w.heap.size, 0, none⟩) (by show w.heap.size ≤ w.heap.size; omega) (.string d)).setCell (p := ⟨w.heap.size, 1, none⟩) (by show w.heap.size ≤ w.heap.size; omega) (.string p)).setCell (p := ⟨w.heap.size, 2, none⟩) (by show w.heap.size ≤ w.heap.size; omega) (.int .i64 n)))
      clear L_c Q_c R_c C_c
      generalize World.setCell _ _ (Value.int .i64 n) = we at *
      refine hK.out _ _ L_e (fun hHeld => ?_)
      clear hK K
      try simp only [Act.put, List.setIfInBounds_toArray, List.set_cons_zero, List.set_cons_succ]
      refine wpAnyH_ready (rs := [4]) (by kernel_rfl) (by simp) ?_
      refine' AllReadyH.cons (o := _) ?e_5 ?st_5 AllReadyH.nil
      case e_5 => (simp only [List.getElem?_toArray, List.getElem?_cons_zero, List.getElem?_cons_succ]; exact rfl)
      intro K hK
      obtain ⟨_, _, g0, g1⟩ := Q_e.two'
      go_simp
      clear g0 g1
      have L_f : Bk ((we.setCell ⟨w.heap.size + 1, 0, none⟩ (.string c)).setCell ⟨w.heap.size + 1, 1, none⟩ (.string r)) w1.heap.size 33 #[.string d, .string p, .int .i64 n] := (L_e.other (p := ⟨w.heap.size + 1, 0, none⟩) (by show w1.heap.size ≠ w.heap.size + 1; omega) (.string c)).other (p := ⟨w.heap.size + 1, 1, none⟩) (by show w1.heap.size ≠ w.heap.size + 1; omega) (.string r)
      have R_f := (R_e.other (p := ⟨w.heap.size + 1, 0, none⟩) (by show w.heap.size ≠ w.heap.size + 1; omega) (.string c)).other (p := ⟨w.heap.size + 1, 1, none⟩) (by show w.heap.size ≠ w.heap.size + 1; omega) (.string r)
      obtain ⟨y0, y1⟩ := two_res Q_e (.string c) (.string r)
      have B_f := ((B_e.out.setCell (p := ⟨(w.heap.size + 1), 0, none⟩) (by show w.heap.size ≤ (w.heap.size + 1); omega) (.string c)).setCell (p := ⟨(w.heap.size + 1), 1, none⟩) (by show w.heap.size ≤ (w.heap.size + 1); omega) (.string r))
      clear L_e Q_e R_e B_e
      generalize World.setCell _ _ (Value.string r) = wf at *
      refine hK.out _ _ L_f (fun hHeld => ?_)
      clear hK K
      try simp only [Act.put, List.setIfInBounds_toArray, List.set_cons_zero, List.set_cons_succ]
      refine wpAnyH_done (by kernel_rfl) ?_ _
      refine NoPanic.normal ?_
      have z0 := R_f.cell 0; have z1 := R_f.cell 1; have z2 := R_f.cell 2
      simp only [List.getElem?_toArray, List.getElem?_cons_zero, List.getElem?_cons_succ] at z0 z1 z2
      go_wp2
      exact bodyPost_ret (v := .tuple #[.agg #[.string d, .string p, .int .i64 n], .agg #[.string c, .string r]]) (by simp [results, Tryd.results12, go_sem, z0, z1, z2, y0, y1]) rfl ⟨d, p, n, c, r, rfl, by omega, hc, hr, B_f⟩
  | true =>
    as_aux_lemma =>
      obtain ⟨_, _, _, f0, f1, f2⟩ := L3.out.three'
      go_wp2_with fail
      clear f0 f1 f2
      have L4 := Lib.hid (three_res L3.out (.string ⟨#[]⟩) (.string ⟨#[]⟩) (.int .i64 0))
      have R4 := Lib.hid (R3.out.three (k := w1.heap.size) (by omega) (.string ⟨#[]⟩) (.string ⟨#[]⟩) (.int .i64 0))
      have Q4 := Lib.hid (Q3.out.three (k := w1.heap.size) (by omega) (.string ⟨#[]⟩) (.string ⟨#[]⟩) (.int .i64 0))
      have C4 := Lib.hid (C3.out.three (k := w1.heap.size) hga hle1 (.string ⟨#[]⟩) (.string ⟨#[]⟩) (.int .i64 0))
      clear L3 R3 Q3 C3
      generalize World.setCell _ _ (Value.int .i64 0) = w3 at *
      refine (pick_c 2 (w.heap.size + 1 + 1) _ w3 C4.out.cur (by omega)).mono ?_
      rintro e w4 ⟨x, rfl, hx, hs⟩
      have L5 := Lib.hid (L4.out.step hs (by omega))
      have R5 := Lib.hid (R4.out.step hs (by omega))
      have Q5 := Lib.hid (Q4.out.step hs (by omega))
      have C5 := Lib.hid (C4.out.trans hs)
      have x0 := hx.1
      have x1 := hx.2 (by omega)
      clear hs hx L4 R4 Q4 C4
      go_wp2
      go_loopw [6] (fun j wr => ∃ (k : Nat) (d p : ByteArray) (n : Int), k ≤ 60 ∧ j = .int .i64 (k : Int) ∧ d.size + p.size ≤ 31000 ∧ Bk wr w1.heap.size 33 #[.string d, .string p, .int .i64 n] ∧ Bk wr w.heap.size 33 #[.string ⟨#[]⟩, .string ⟨#[]⟩, .int .i64 0] ∧ Bk wr (w.heap.size + 1) 25 #[.string ⟨#[]⟩, .string ⟨#[]⟩] ∧ CStep w0 wr (w.heap.size + 1 + 1) (0 + 140 + 2 + 2)) (fun j _ => (intOf j).toNat)
      case atStart => exact ⟨(59 + x).toNat, ⟨#[]⟩, ⟨#[]⟩, 0, by omega, by congr 1; omega, by decide, L5.out, R5.out, Q5.out, C5.out⟩
      case round =>
        obtain ⟨k, d, p, n, hk, rfl, hdp, hl, hr, hq, hs⟩ := hrel
        have LA := Lib.hid hl
        have RA := Lib.hid hr
        have QA := Lib.hid hq
        have CA := Lib.hid hs
        clear hl hr hq hs L5 R5 Q5 C5
        by_cases hk1 : 0 < k
        · have hd : decide (0 < (k : Int)) = true := by simp; omega
          have HAP := Lib.hid (fun W => AppendRecordS_c d p n ⟨#[120]⟩ ⟨#[]⟩ W (by omega) (by omega) (by decide) (by decide))
          unfold AppOut recV at HAP
          unfold logV at HAP
          obtain ⟨q0, q1, q2, f0, f1, f2⟩ := LA.out.three'
          go_wp2_with fail
          refine (HAP.out _).mono ?_
          rintro e w5 ⟨ok, rfl, hok, hb2⟩
          have LB := Lib.hid (LA.out.below hb2)
          have RB := Lib.hid (RA.out.below hb2)
          have QB := Lib.hid (QA.out.below hb2)
          have CB := Lib.hid (CA.out.below hb2)
          obtain ⟨d2, p2, n2, hV, hdp2⟩ := app_small (c := ⟨#[120]⟩) (r := ⟨#[]⟩) hdp hok
          clear hb2 LA RA QA CA q0 q1 q2 f0 f1 f2 hok HAP
          rw [hV]
          generalize (appV ok _ d p n _ _).2 = st at *
          clear hV
          unfold logV
          obtain ⟨_, _, _, f0, f1, f2⟩ := LB.out.three'
          go_wp2
          go_roundw
          case rel => exact ⟨k - 1, d2, p2, n2, by omega, by go_num, hdp2, three_res LB.out _ _ _, RB.out.three (k := w1.heap.size) (by omega) _ _ _, QB.out.three (k := w1.heap.size) (by omega) _ _ _, CB.out.three (k := w1.heap.size) hga hle1 _ _ _⟩
          case measure => simp [intOf]; omega
        · have hd : decide (0 < (k : Int)) = false := by simp; omega
          clear hle1
          go_wp2_with fail
          have L_d := LA.out.drew
          have R_d := RA.out.drew
          have Q_d := QA.out.drew
          have C_d := CA.out.drew
          clear LA RA QA CA
          refine wp_region_noPanic ?_
          refine wp_region_held_drew (S := fun w' : World => Bk w' w1.heap.size 33 #[.string d, .string p, .int .i64 n]) (by kernel_rfl) L_d (fun hHeld => ?_)
          generalize World.drew _ = wd at *
          refine' wpAnyH_take (i := 0) (oi := _) (v := _) ?e_6 ?a_6 ?b_6 ?c_6 ?q_6 ?y_6 hHeld ?r_6
          case e_6 => (simp only [List.getElem?_toArray, List.getElem?_cons_zero, List.getElem?_cons_succ]; exact rfl)
          case a_6 => kernel_rfl
          case b_6 => kernel_rfl
          case c_6 => kernel_rfl
          case q_6 => exact fun _ _ _ h => h
          case y_6 =>
            refine' yieldsIf_load_mid ?hw_6 _ _ rfl _ _ rfl [.string d, .string p, .int .i64 n] _ ?hS_6 ?hu_6 ?hd_6 ?hi_6
            case hw_6 => rfl
            case hS_6 => exact fun (w' : World) (h : Bk w' w1.heap.size 33 #[.string d, .string p, .int .i64 n]) => Bk.rangeL (b := [.string d, .string p, .int .i64 n]) h
            case hu_6 => exact Tryd.underlying33
            case hd_6 => rfl
            case hi_6 => exact info_Log3
          try simp only [Act.put, List.setIfInBounds_toArray, List.set_cons_zero, List.set_cons_succ]
          refine' wpAnyH_take (i := 1) (oi := _) (v := _) ?e_7 ?a_7 ?b_7 ?c_7 ?q_7 ?y_7 hHeld ?r_7
          case e_7 => (simp only [List.getElem?_toArray, List.getElem?_cons_zero, List.getElem?_cons_succ]; exact rfl)
          case a_7 => kernel_rfl
          case b_7 => kernel_rfl
          case c_7 => kernel_rfl
          case q_7 => exact fun _ _ _ h => h
          case y_7 => exact Or.inl ⟨by rfl, by (intro w hSw; (try dsimp only at hSw); go_simp; first | done | with_reducible rfl)⟩
          try simp only [Act.put, List.setIfInBounds_toArray, List.set_cons_zero, List.set_cons_succ]
          refine wpAnyH_ready (rs := [2]) (by kernel_rfl) (by simp) ?_
          refine' AllReadyH.cons (o := _) ?e_8 ?st_8 AllReadyH.nil
          case e_8 => (simp only [List.getElem?_toArray, List.getElem?_cons_zero, List.getElem?_cons_succ]; exact rfl)
          intro K hK
          go_simp
          refine (logRecord_c (w.heap.size + 1 + 1) _ _ C_d.cur (by omega)).mono ?_
          rintro e wc ⟨c, r, rfl, hc, hr, hs⟩
          have L_c := L_d.step hs (by omega)
          have R_c := R_d.step hs (by omega)
          have Q_c := Q_d.step hs (by omega)
          have C_c := C_d.trans hs
          clear hs L_d R_d Q_d C_d
          unfold recV
          refine hK.out _ _ L_c (fun hHeld => ?_)
          clear hK K
          try simp only [Act.put, List.setIfInBounds_toArray, List.set_cons_zero, List.set_cons_succ]
          refine wpAnyH_ready (rs := [3]) (by kernel_rfl) (by simp) ?_
          refine' AllReadyH.cons (o := _) ?e_9 ?st_9 AllReadyH.nil
          case e_9 => (simp only [List.getElem?_toArray, List.getElem?_cons_zero, List.getElem?_cons_succ]; exact rfl)
          intro K hK
          obtain ⟨_, _, _, g0, g1, g2⟩ := R_c.three'
          go_simp
          clear g0 g1 g2
          have L_e := L_c.three (k := w.heap.size) (by omega) (.string d) (.string p) (.int .i64 n)
          have Q_e := Q_c.three (k := w.heap.size) (by omega) (.string d) (.string p) (.int .i64 n)
          have R_e := three_res R_c (.string d) (.string p) (.int .i64 n)
          have B_e := Lib.hid (((((HB0.out.trans (C_c.low (B := w.heap.size) (by omega) (by omega))).setCell (p := ⟨w.heap.size, 0, none⟩) (by show w.heap.size ≤ w.heap.size; omega) (.string d)).setCell (p := ⟨w.heap.size, 1, none⟩) (by show w.heap.size ≤ w.heap.size; omega) (.string p)).setCell (p := ⟨w.heap.size, 2, none⟩) (by show w.heap.size ≤ w.heap.size; omega) (.int .i64 n)))
          clear L_c Q_c R_c C_c
          generalize World.setCell _ _ (Value.int .i64 n) = we at *
          refine hK.out _ _ L_e (fun hHeld => ?_)
          clear hK K
          try simp only [Act.put, List.setIfInBounds_toArray, List.set_cons_zero, List.set_cons_succ]
          refine wpAnyH_ready (rs := [4]) (by kernel_rfl) (by simp) ?_
          refine' AllReadyH.cons (o := _) ?e_10 ?st_10 AllReadyH.nil
          case e_10 => (simp only [List.getElem?_toArray, List.getElem?_cons_zero, List.getElem?_cons_succ]; exact rfl)
          intro K hK
          obtain ⟨_, _, g0, g1⟩ := Q_e.two'
          go_simp
          clear g0 g1
          have L_f : Bk ((we.setCell ⟨w.heap.size + 1, 0, none⟩ (.string c)).setCell ⟨w.heap.size + 1, 1, none⟩ (.string r)) w1.heap.size 33 #[.string d, .string p, .int .i64 n] := (L_e.other (p := ⟨w.heap.size + 1, 0, none⟩) (by show w1.heap.size ≠ w.heap.size + 1; omega) (.string c)).other (p := ⟨w.heap.size + 1, 1, none⟩) (by show w1.heap.size ≠ w.heap.size + 1; omega) (.string r)
          have R_f := (R_e.other (p := ⟨w.heap.size + 1, 0, none⟩) (by show w.heap.size ≠ w.heap.size + 1; omega) (.string c)).other (p := ⟨w.heap.size + 1, 1, none⟩) (by show w.heap.size ≠ w.heap.size + 1; omega) (.string r)
          obtain ⟨y0, y1⟩ := two_res Q_e (.string c) (.string r)
          have B_f := ((B_e.out.setCell (p := ⟨(w.heap.size + 1), 0, none⟩) (by show w.heap.size ≤ (w.heap.size + 1); omega) (.string c)).setCell (p := ⟨(w.heap.size + 1), 1, none⟩) (by show w.heap.size ≤ (w.heap.size + 1); omega) (.string r))
          clear L_e Q_e R_e B_e
          generalize World.setCell _ _ (Value.string r) = wf at *
          refine hK.out _ _ L_f (fun hHeld => ?_)
          clear hK K
          try simp only [Act.put, List.setIfInBounds_toArray, List.set_cons_zero, List.set_cons_succ]
          refine wpAnyH_done (by kernel_rfl) ?_ _
          refine NoPanic.normal ?_
          have z0 := R_f.cell 0; have z1 := R_f.cell 1; have z2 := R_f.cell 2
          simp only [List.getElem?_toArray, List.getElem?_cons_zero, List.getElem?_cons_succ] at z0 z1 z2
          go_wp2
          exact bodyPost_ret (v := .tuple #[.agg #[.string d, .string p, .int .i64 n], .agg #[.string c, .string r]]) (by simp [results, Tryd.results12, go_sem, z0, z1, z2, y0, y1]) rfl ⟨d, p, n, c, r, rfl, by omega, hc, hr, B_f⟩

end Go.Proofs.YtbobiiodbbcodaaDoor
