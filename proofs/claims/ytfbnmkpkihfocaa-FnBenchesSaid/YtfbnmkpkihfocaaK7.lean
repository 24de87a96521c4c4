/- Texts of this claim, gathered: DrawJ. -/
import Derived.Test.YtfbnmkpkihfocaaK6
namespace Go.Proofs.Ytfbnmkpkihfocaa
open Go.RowKit
set_option linter.unusedVariables false
set_option linter.unusedSimpArgs false
set_option maxRecDepth 100000
theorem three_resB {W : World} {b t : Nat} {a c d : Value} (h : Bk W b t #[a, c, d]) (X Y Z : Value) :
    Bk (((W.setCell ⟨b, 0, none⟩ X).setCell ⟨b, 1, none⟩ Y).setCell ⟨b, 2, none⟩ Z) b t #[X, Y, Z] := ((h.set 0 X).set 1 Y).set 2 Z
theorem loadVarJ {w : World} {g t : Nat} {k a v : Int} (h : Bk w g t #[.int .i64 k, .int .i64 a, .int .i64 v]) : (loadVar 54 ⟨g, 0, none⟩).run Try.prog w = .ok (.agg #[.int .i64 k, .int .i64 a, .int .i64 v]) w :=
  run_loadVar_mid w g 0 _ [.int .i64 k, .int .i64 a, .int .i64 v] _ (fun j u hu => by rw [Nat.zero_add, h.cell j]; simpa using hu) Try.underlying54 rfl (by kernel_rfl)
/-- What a draw of a Job gives. -/
def DrawJ (w : World) (g m : Nat) (e : Ending) (w' : World) : Prop := ∃ k a v : Int, e = .returned (jobV k a v) ∧ CStep w w' g m
theorem DrawJ.mono {w : World} {g m m' : Nat} {e : Ending} {w' : World} (h : DrawJ w g m e w') (hm : m ≤ m') : DrawJ w g m' e w' := by
  obtain ⟨k, a, v, rfl, hs⟩ := h; exact ⟨k, a, v, rfl, hs.mono hm⟩
set_option maxHeartbeats 8000000 in
theorem job12_c (g m : Nat) (w : World) (h : CurAt w g m) (hm : m + 20 < 4611686018427387904) :
    Calls Try.prog 75 #[.pointer (some ⟨g, 0, none⟩)] w (DrawJ w g (m + 20)) := by
  have hga := h.lt
  have B0 := Lib.hid (Bk.new w 54 #[.int .i64 0, .int .i64 0, .int .i64 0])
  have HC := Lib.hid ((CStep.refl h).alloc (.cells #[.int .i64 0, .int .i64 0, .int .i64 0] 54))
  clear h
  unfold jobV DrawJ at *
  go_enter Try.func75, Try.ntmps75
  go_wp2_with fail
  refine (amongL_c [1, 1, 1, 2, 3, 3, 4, 5, 6, 7] g m _ _ (by simp) HC.out.cur (by omega) (by decide) (by decide)).mono ?_
  rintro e w1 ⟨k, rfl, hx, hs⟩
  have HS1 := Lib.hid ((HC.out.trans hs).alloc (.cells #[.int .i64 k, .int .i64 0, .int .i64 0] 54))
  have BR1 := Lib.hid ((B0.out.step hs (by omega)).alloc (.cells #[.int .i64 k, .int .i64 0, .int .i64 0] 54))
  have BJ1 := Lib.hid (Bk.new w1 54 #[.int .i64 k, .int .i64 0, .int .i64 0])
  have hg1 : g < w1.heap.size := Nat.lt_of_lt_of_le hga (by have := (HC.out.trans hs).gr.size; exact this)
  have hr1 : w.heap.size < w1.heap.size := by have := hs.gr.size; simp at this; omega
  clear hs hx HC B0
  rcases k1 : (k == 1) with _ | _
  rotate_left
  · obtain rfl : k = 1 := by simpa using k1
    as_aux_lemma =>
      go_wp2_with fail
      refine (pick_c 6 g (m + 2) _ HS1.out.cur (by omega)).mono ?_
      rintro e w2 ⟨x2, rfl, _, hs⟩
      have HT2 := Lib.hid (HS1.out.trans hs)
      have BS2 := Lib.hid (BR1.out.step hs (by omega))
      have BK2 := Lib.hid (BJ1.out.step hs (by omega))
      clear hs HS1 BR1 BJ1
      have HS2 := Lib.hid ((HT2.out.store hga (p := ⟨w1.heap.size, 1, none⟩) (by simp; omega) (.int .i64 x2)))
      have BR2 := Lib.hid (BS2.out.other (p := ⟨w1.heap.size, 1, none⟩) (by simp; omega) (.int .i64 x2))
      have BJ2 := Lib.hid (BK2.out.set 1 (.int .i64 x2))
      have f2 : w2.frozen? ⟨w1.heap.size, 1, none⟩ = false := BK2.out.frozen 1
      have z2 : w2.cell? ⟨w1.heap.size, 1, none⟩ = some (.int .i64 0) := BK2.out.cell 1
      clear HT2
      clear BS2 BK2
      go_wp2_with fail
      refine (pick_c 10 g (m + 4) _ HS2.out.cur (by omega)).mono ?_
      rintro e w3 ⟨x3, rfl, _, hs⟩
      have HT3 := Lib.hid (HS2.out.trans hs)
      have BS3 := Lib.hid (BR2.out.step hs (by omega))
      have BK3 := Lib.hid (BJ2.out.step hs (by omega))
      clear hs HS2 BR2 BJ2
      have HS3 := Lib.hid ((HT3.out.store hga (p := ⟨w1.heap.size, 2, none⟩) (by simp; omega) (.int .i64 x3)))
      have BR3 := Lib.hid (BS3.out.other (p := ⟨w1.heap.size, 2, none⟩) (by simp; omega) (.int .i64 x3))
      have BJ3 := Lib.hid (BK3.out.set 2 (.int .i64 x3))
      have f3 : w3.frozen? ⟨w1.heap.size, 2, none⟩ = false := BK3.out.frozen 2
      have z3 : w3.cell? ⟨w1.heap.size, 2, none⟩ = some (.int .i64 0) := BK3.out.cell 2
      clear HT3
      clear BS3 BK3
      go_wp2_with fail
      refine (pick_c 40 g (m + 6) _ HS3.out.cur (by omega)).mono ?_
      rintro e w4 ⟨y, rfl, _, hs⟩
      have HS4 := Lib.hid (HS3.out.trans hs)
      have BR4 := Lib.hid (BR3.out.step hs (by omega))
      have BJ4 := Lib.hid (BJ3.out.step hs (by omega))
      clear hs HS3 BR3 BJ3
      rcases y0 : (y == 0) with _ | _
      rotate_left
      · obtain rfl : y = 0 := by simpa using y0
        clear y0
        as_aux_lemma =>
          go_wp2_with fail
          refine (amongL_c [-1, 6, 1] g (m + 8) _ _ (by simp) HS4.out.cur (by omega) (by decide) (by decide)).mono ?_
          rintro e w5 ⟨x5, rfl, _, hs⟩
          have HT5 := Lib.hid (HS4.out.trans hs)
          have BS5 := Lib.hid (BR4.out.step hs (by omega))
          have BK5 := Lib.hid (BJ4.out.step hs (by omega))
          clear hs HS4 BR4 BJ4
          have HS5 := Lib.hid ((HT5.out.store hga (p := ⟨w1.heap.size, 1, none⟩) (by simp; omega) (.int .i64 x5)))
          have BR5 := Lib.hid (BS5.out.other (p := ⟨w1.heap.size, 1, none⟩) (by simp; omega) (.int .i64 x5))
          have BJ5 := Lib.hid (BK5.out.set 1 (.int .i64 x5))
          have f5 : w5.frozen? ⟨w1.heap.size, 1, none⟩ = false := BK5.out.frozen 1
          have z5 : w5.cell? ⟨w1.heap.size, 1, none⟩ = some (.int .i64 x2) := BK5.out.cell 1
          clear HT5
          have q0 := BK5.out.cell 0
          have q1 := BK5.out.cell 1
          have q2 := BK5.out.cell 2
          have p0 := BS5.out.cell 0
          have p1 := BS5.out.cell 1
          have p2 := BS5.out.cell 2
          have e0 := BS5.out.frozen 0
          have e1 := BS5.out.frozen 1
          have e2 := BS5.out.frozen 2
          simp at q0 q1 q2 p0 p1 p2 e0 e1 e2
          have CS := Lib.hid (HS5.out.mono (show m + 10 ≤ m + 20 by omega))
          have RB := Lib.hid (loadVarJ (three_resB BR5.out (.int .i64 1) (.int .i64 x5) (.int .i64 x3)))
          go_wp2
          exact bodyPost_ret (v := .agg #[.int .i64 1, .int .i64 x5, .int .i64 x3]) (res_cell Try.results75 rfl RB.out) rfl ⟨_, _, _, rfl, ((CS.out.store hga (by simp) _).store hga (by simp) _).store hga (by simp) _⟩

      · rcases y1 : (y == 1) with _ | _
        rotate_left
        · obtain rfl : y = 1 := by simpa using y1
          clear y1
          as_aux_lemma =>
            go_wp2_with fail
            refine (amongL_c [-1, 7, 10, 1] g (m + 8) _ _ (by simp) HS4.out.cur (by omega) (by decide) (by decide)).mono ?_
            rintro e w5 ⟨x5, rfl, _, hs⟩
            have HT5 := Lib.hid (HS4.out.trans hs)
            have BS5 := Lib.hid (BR4.out.step hs (by omega))
            have BK5 := Lib.hid (BJ4.out.step hs (by omega))
            clear hs HS4 BR4 BJ4
            have HS5 := Lib.hid ((HT5.out.store hga (p := ⟨w1.heap.size, 2, none⟩) (by simp; omega) (.int .i64 x5)))
            have BR5 := Lib.hid (BS5.out.other (p := ⟨w1.heap.size, 2, none⟩) (by simp; omega) (.int .i64 x5))
            have BJ5 := Lib.hid (BK5.out.set 2 (.int .i64 x5))
            have f5 : w5.frozen? ⟨w1.heap.size, 2, none⟩ = false := BK5.out.frozen 2
            have z5 : w5.cell? ⟨w1.heap.size, 2, none⟩ = some (.int .i64 x3) := BK5.out.cell 2
            clear HT5
            have q0 := BK5.out.cell 0
            have q1 := BK5.out.cell 1
            have q2 := BK5.out.cell 2
            have p0 := BS5.out.cell 0
            have p1 := BS5.out.cell 1
            have p2 := BS5.out.cell 2
            have e0 := BS5.out.frozen 0
            have e1 := BS5.out.frozen 1
            have e2 := BS5.out.frozen 2
            simp at q0 q1 q2 p0 p1 p2 e0 e1 e2
            have CS := Lib.hid (HS5.out.mono (show m + 10 ≤ m + 20 by omega))
            have RB := Lib.hid (loadVarJ (three_resB BR5.out (.int .i64 1) (.int .i64 x2) (.int .i64 x5)))
            go_wp2
            exact bodyPost_ret (v := .agg #[.int .i64 1, .int .i64 x2, .int .i64 x5]) (res_cell Try.results75 rfl RB.out) rfl ⟨_, _, _, rfl, ((CS.out.store hga (by simp) _).store hga (by simp) _).store hga (by simp) _⟩

        · rcases y2 : (y == 2) with _ | _
          rotate_left
          · obtain rfl : y = 2 := by simpa using y2
            clear y2
            as_aux_lemma =>
              go_wp2_with fail
              refine (amongL_c [0, 8, -1] g (m + 8) _ _ (by simp) HS4.out.cur (by omega) (by decide) (by decide)).mono ?_
              rintro e w5 ⟨x5, rfl, _, hs⟩
              have HT5 := Lib.hid (HS4.out.trans hs)
              have BS5 := Lib.hid (BR4.out.step hs (by omega))
              have BK5 := Lib.hid (BJ4.out.step hs (by omega))
              clear hs HS4 BR4 BJ4
              have HS5 := Lib.hid ((HT5.out.store hga (p := ⟨w1.heap.size, 0, none⟩) (by simp; omega) (.int .i64 x5)))
              have BR5 := Lib.hid (BS5.out.other (p := ⟨w1.heap.size, 0, none⟩) (by simp; omega) (.int .i64 x5))
              have BJ5 := Lib.hid (BK5.out.set 0 (.int .i64 x5))
              have f5 : w5.frozen? ⟨w1.heap.size, 0, none⟩ = false := BK5.out.frozen 0
              have z5 : w5.cell? ⟨w1.heap.size, 0, none⟩ = some (.int .i64 1) := BK5.out.cell 0
              clear HT5
              have q0 := BK5.out.cell 0
              have q1 := BK5.out.cell 1
              have q2 := BK5.out.cell 2
              have p0 := BS5.out.cell 0
              have p1 := BS5.out.cell 1
              have p2 := BS5.out.cell 2
              have e0 := BS5.out.frozen 0
              have e1 := BS5.out.frozen 1
              have e2 := BS5.out.frozen 2
              simp at q0 q1 q2 p0 p1 p2 e0 e1 e2
              have CS := Lib.hid (HS5.out.mono (show m + 10 ≤ m + 20 by omega))
              have RB := Lib.hid (loadVarJ (three_resB BR5.out (.int .i64 x5) (.int .i64 x2) (.int .i64 x3)))
              go_wp2
              exact bodyPost_ret (v := .agg #[.int .i64 x5, .int .i64 x2, .int .i64 x3]) (res_cell Try.results75 rfl RB.out) rfl ⟨_, _, _, rfl, ((CS.out.store hga (by simp) _).store hga (by simp) _).store hga (by simp) _⟩

          · as_aux_lemma =>
              have q0 := BJ4.out.cell 0
              have q1 := BJ4.out.cell 1
              have q2 := BJ4.out.cell 2
              have p0 := BR4.out.cell 0
              have p1 := BR4.out.cell 1
              have p2 := BR4.out.cell 2
              have e0 := BR4.out.frozen 0
              have e1 := BR4.out.frozen 1
              have e2 := BR4.out.frozen 2
              simp at q0 q1 q2 p0 p1 p2 e0 e1 e2
              have CS := Lib.hid (HS4.out.mono (show m + 8 ≤ m + 20 by omega))
              have RB := Lib.hid (loadVarJ (three_resB BR4.out (.int .i64 1) (.int .i64 x2) (.int .i64 x3)))
              go_wp2
              exact bodyPost_ret (v := .agg #[.int .i64 1, .int .i64 x2, .int .i64 x3]) (res_cell Try.results75 rfl RB.out) rfl ⟨_, _, _, rfl, ((CS.out.store hga (by simp) _).store hga (by simp) _).store hga (by simp) _⟩

  · skip
    rcases k3 : (k == 3) with _ | _
    rotate_left
    · obtain rfl : k = 3 := by simpa using k3
      as_aux_lemma =>
        go_wp2_with fail
        refine (pick_c 6 g (m + 2) _ HS1.out.cur (by omega)).mono ?_
        rintro e w2 ⟨x2, rfl, _, hs⟩
        have HT2 := Lib.hid (HS1.out.trans hs)
        have BS2 := Lib.hid (BR1.out.step hs (by omega))
        have BK2 := Lib.hid (BJ1.out.step hs (by omega))
        clear hs HS1 BR1 BJ1
        have HS2 := Lib.hid ((HT2.out.store hga (p := ⟨w1.heap.size, 1, none⟩) (by simp; omega) (.int .i64 x2)))
        have BR2 := Lib.hid (BS2.out.other (p := ⟨w1.heap.size, 1, none⟩) (by simp; omega) (.int .i64 x2))
        have BJ2 := Lib.hid (BK2.out.set 1 (.int .i64 x2))
        have f2 : w2.frozen? ⟨w1.heap.size, 1, none⟩ = false := BK2.out.frozen 1
        have z2 : w2.cell? ⟨w1.heap.size, 1, none⟩ = some (.int .i64 0) := BK2.out.cell 1
        clear HT2
        clear BS2 BK2
        go_wp2_with fail
        refine (pick_c 7 g (m + 4) _ HS2.out.cur (by omega)).mono ?_
        rintro e w3 ⟨x3, rfl, _, hs⟩
        have HT3 := Lib.hid (HS2.out.trans hs)
        have BS3 := Lib.hid (BR2.out.step hs (by omega))
        have BK3 := Lib.hid (BJ2.out.step hs (by omega))
        clear hs HS2 BR2 BJ2
        have HS3 := Lib.hid ((HT3.out.store hga (p := ⟨w1.heap.size, 2, none⟩) (by simp; omega) (.int .i64 x3)))
        have BR3 := Lib.hid (BS3.out.other (p := ⟨w1.heap.size, 2, none⟩) (by simp; omega) (.int .i64 x3))
        have BJ3 := Lib.hid (BK3.out.set 2 (.int .i64 x3))
        have f3 : w3.frozen? ⟨w1.heap.size, 2, none⟩ = false := BK3.out.frozen 2
        have z3 : w3.cell? ⟨w1.heap.size, 2, none⟩ = some (.int .i64 0) := BK3.out.cell 2
        clear HT3
        clear BS3 BK3
        go_wp2_with fail
        refine (pick_c 40 g (m + 6) _ HS3.out.cur (by omega)).mono ?_
        rintro e w4 ⟨y, rfl, _, hs⟩
        have HS4 := Lib.hid (HS3.out.trans hs)
        have BR4 := Lib.hid (BR3.out.step hs (by omega))
        have BJ4 := Lib.hid (BJ3.out.step hs (by omega))
        clear hs HS3 BR3 BJ3
        rcases y0 : (y == 0) with _ | _
        rotate_left
        · obtain rfl : y = 0 := by simpa using y0
          clear y0
          as_aux_lemma =>
            go_wp2_with fail
            refine (amongL_c [-1, 6, 1] g (m + 8) _ _ (by simp) HS4.out.cur (by omega) (by decide) (by decide)).mono ?_
            rintro e w5 ⟨x5, rfl, _, hs⟩
            have HT5 := Lib.hid (HS4.out.trans hs)
            have BS5 := Lib.hid (BR4.out.step hs (by omega))
            have BK5 := Lib.hid (BJ4.out.step hs (by omega))
            clear hs HS4 BR4 BJ4
            have HS5 := Lib.hid ((HT5.out.store hga (p := ⟨w1.heap.size, 1, none⟩) (by simp; omega) (.int .i64 x5)))
            have BR5 := Lib.hid (BS5.out.other (p := ⟨w1.heap.size, 1, none⟩) (by simp; omega) (.int .i64 x5))
            have BJ5 := Lib.hid (BK5.out.set 1 (.int .i64 x5))
            have f5 : w5.frozen? ⟨w1.heap.size, 1, none⟩ = false := BK5.out.frozen 1
            have z5 : w5.cell? ⟨w1.heap.size, 1, none⟩ = some (.int .i64 x2) := BK5.out.cell 1
            clear HT5
            have q0 := BK5.out.cell 0
            have q1 := BK5.out.cell 1
            have q2 := BK5.out.cell 2
            have p0 := BS5.out.cell 0
            have p1 := BS5.out.cell 1
            have p2 := BS5.out.cell 2
            have e0 := BS5.out.frozen 0
            have e1 := BS5.out.frozen 1
            have e2 := BS5.out.frozen 2
            simp at q0 q1 q2 p0 p1 p2 e0 e1 e2
            have CS := Lib.hid (HS5.out.mono (show m + 10 ≤ m + 20 by omega))
            have RB := Lib.hid (loadVarJ (three_resB BR5.out (.int .i64 3) (.int .i64 x5) (.int .i64 x3)))
            go_wp2
            exact bodyPost_ret (v := .agg #[.int .i64 3, .int .i64 x5, .int .i64 x3]) (res_cell Try.results75 rfl RB.out) rfl ⟨_, _, _, rfl, ((CS.out.store hga (by simp) _).store hga (by simp) _).store hga (by simp) _⟩

        · rcases y1 : (y == 1) with _ | _
          rotate_left
          · obtain rfl : y = 1 := by simpa using y1
            clear y1
            as_aux_lemma =>
              go_wp2_with fail
              refine (amongL_c [-1, 7, 10, 1] g (m + 8) _ _ (by simp) HS4.out.cur (by omega) (by decide) (by decide)).mono ?_
              rintro e w5 ⟨x5, rfl, _, hs⟩
              have HT5 := Lib.hid (HS4.out.trans hs)
              have BS5 := Lib.hid (BR4.out.step hs (by omega))
              have BK5 := Lib.hid (BJ4.out.step hs (by omega))
              clear hs HS4 BR4 BJ4
              have HS5 := Lib.hid ((HT5.out.store hga (p := ⟨w1.heap.size, 2, none⟩) (by simp; omega) (.int .i64 x5)))
              have BR5 := Lib.hid (BS5.out.other (p := ⟨w1.heap.size, 2, none⟩) (by simp; omega) (.int .i64 x5))
              have BJ5 := Lib.hid (BK5.out.set 2 (.int .i64 x5))
              have f5 : w5.frozen? ⟨w1.heap.size, 2, none⟩ = false := BK5.out.frozen 2
              have z5 : w5.cell? ⟨w1.heap.size, 2, none⟩ = some (.int .i64 x3) := BK5.out.cell 2
              clear HT5
              have q0 := BK5.out.cell 0
              have q1 := BK5.out.cell 1
              have q2 := BK5.out.cell 2
              have p0 := BS5.out.cell 0
              have p1 := BS5.out.cell 1
              have p2 := BS5.out.cell 2
              have e0 := BS5.out.frozen 0
              have e1 := BS5.out.frozen 1
              have e2 := BS5.out.frozen 2
              simp at q0 q1 q2 p0 p1 p2 e0 e1 e2
              have CS := Lib.hid (HS5.out.mono (show m + 10 ≤ m + 20 by omega))
              have RB := Lib.hid (loadVarJ (three_resB BR5.out (.int .i64 3) (.int .i64 x2) (.int .i64 x5)))
              go_wp2
              exact bodyPost_ret (v := .agg #[.int .i64 3, .int .i64 x2, .int .i64 x5]) (res_cell Try.results75 rfl RB.out) rfl ⟨_, _, _, rfl, ((CS.out.store hga (by simp) _).store hga (by simp) _).store hga (by simp) _⟩

          · rcases y2 : (y == 2) with _ | _
            rotate_left
            · obtain rfl : y = 2 := by simpa using y2
              clear y2
              as_aux_lemma =>
                go_wp2_with fail
                refine (amongL_c [0, 8, -1] g (m + 8) _ _ (by simp) HS4.out.cur (by omega) (by decide) (by decide)).mono ?_
                rintro e w5 ⟨x5, rfl, _, hs⟩
                have HT5 := Lib.hid (HS4.out.trans hs)
                have BS5 := Lib.hid (BR4.out.step hs (by omega))
                have BK5 := Lib.hid (BJ4.out.step hs (by omega))
                clear hs HS4 BR4 BJ4
                have HS5 := Lib.hid ((HT5.out.store hga (p := ⟨w1.heap.size, 0, none⟩) (by simp; omega) (.int .i64 x5)))
                have BR5 := Lib.hid (BS5.out.other (p := ⟨w1.heap.size, 0, none⟩) (by simp; omega) (.int .i64 x5))
                have BJ5 := Lib.hid (BK5.out.set 0 (.int .i64 x5))
                have f5 : w5.frozen? ⟨w1.heap.size, 0, none⟩ = false := BK5.out.frozen 0
                have z5 : w5.cell? ⟨w1.heap.size, 0, none⟩ = some (.int .i64 3) := BK5.out.cell 0
                clear HT5
                have q0 := BK5.out.cell 0
                have q1 := BK5.out.cell 1
                have q2 := BK5.out.cell 2
                have p0 := BS5.out.cell 0
                have p1 := BS5.out.cell 1
                have p2 := BS5.out.cell 2
                have e0 := BS5.out.frozen 0
                have e1 := BS5.out.frozen 1
                have e2 := BS5.out.frozen 2
                simp at q0 q1 q2 p0 p1 p2 e0 e1 e2
                have CS := Lib.hid (HS5.out.mono (show m + 10 ≤ m + 20 by omega))
                have RB := Lib.hid (loadVarJ (three_resB BR5.out (.int .i64 x5) (.int .i64 x2) (.int .i64 x3)))
                go_wp2
                exact bodyPost_ret (v := .agg #[.int .i64 x5, .int .i64 x2, .int .i64 x3]) (res_cell Try.results75 rfl RB.out) rfl ⟨_, _, _, rfl, ((CS.out.store hga (by simp) _).store hga (by simp) _).store hga (by simp) _⟩

            · as_aux_lemma =>
                have q0 := BJ4.out.cell 0
                have q1 := BJ4.out.cell 1
                have q2 := BJ4.out.cell 2
                have p0 := BR4.out.cell 0
                have p1 := BR4.out.cell 1
                have p2 := BR4.out.cell 2
                have e0 := BR4.out.frozen 0
                have e1 := BR4.out.frozen 1
                have e2 := BR4.out.frozen 2
                simp at q0 q1 q2 p0 p1 p2 e0 e1 e2
                have CS := Lib.hid (HS4.out.mono (show m + 8 ≤ m + 20 by omega))
                have RB := Lib.hid (loadVarJ (three_resB BR4.out (.int .i64 3) (.int .i64 x2) (.int .i64 x3)))
                go_wp2
                exact bodyPost_ret (v := .agg #[.int .i64 3, .int .i64 x2, .int .i64 x3]) (res_cell Try.results75 rfl RB.out) rfl ⟨_, _, _, rfl, ((CS.out.store hga (by simp) _).store hga (by simp) _).store hga (by simp) _⟩

    · skip
      rcases k4 : (k == 4) with _ | _
      rotate_left
      · obtain rfl : k = 4 := by simpa using k4
        as_aux_lemma =>
          go_wp2_with fail
          refine (pick_c 6 g (m + 2) _ HS1.out.cur (by omega)).mono ?_
          rintro e w2 ⟨x2, rfl, _, hs⟩
          have HT2 := Lib.hid (HS1.out.trans hs)
          have BS2 := Lib.hid (BR1.out.step hs (by omega))
          have BK2 := Lib.hid (BJ1.out.step hs (by omega))
          clear hs HS1 BR1 BJ1
          have HS2 := Lib.hid ((HT2.out.store hga (p := ⟨w1.heap.size, 1, none⟩) (by simp; omega) (.int .i64 x2)))
          have BR2 := Lib.hid (BS2.out.other (p := ⟨w1.heap.size, 1, none⟩) (by simp; omega) (.int .i64 x2))
          have BJ2 := Lib.hid (BK2.out.set 1 (.int .i64 x2))
          have f2 : w2.frozen? ⟨w1.heap.size, 1, none⟩ = false := BK2.out.frozen 1
          have z2 : w2.cell? ⟨w1.heap.size, 1, none⟩ = some (.int .i64 0) := BK2.out.cell 1
          clear HT2
          clear BS2 BK2
          go_wp2_with fail
          refine (pick_c 7 g (m + 4) _ HS2.out.cur (by omega)).mono ?_
          rintro e w3 ⟨x3, rfl, _, hs⟩
          have HT3 := Lib.hid (HS2.out.trans hs)
          have BS3 := Lib.hid (BR2.out.step hs (by omega))
          have BK3 := Lib.hid (BJ2.out.step hs (by omega))
          clear hs HS2 BR2 BJ2
          have HS3 := Lib.hid ((HT3.out.store hga (p := ⟨w1.heap.size, 2, none⟩) (by simp; omega) (.int .i64 x3)))
          have BR3 := Lib.hid (BS3.out.other (p := ⟨w1.heap.size, 2, none⟩) (by simp; omega) (.int .i64 x3))
          have BJ3 := Lib.hid (BK3.out.set 2 (.int .i64 x3))
          have f3 : w3.frozen? ⟨w1.heap.size, 2, none⟩ = false := BK3.out.frozen 2
          have z3 : w3.cell? ⟨w1.heap.size, 2, none⟩ = some (.int .i64 0) := BK3.out.cell 2
          clear HT3
          clear BS3 BK3
          go_wp2_with fail
          refine (pick_c 40 g (m + 6) _ HS3.out.cur (by omega)).mono ?_
          rintro e w4 ⟨y, rfl, _, hs⟩
          have HS4 := Lib.hid (HS3.out.trans hs)
          have BR4 := Lib.hid (BR3.out.step hs (by omega))
          have BJ4 := Lib.hid (BJ3.out.step hs (by omega))
          clear hs HS3 BR3 BJ3
          rcases y0 : (y == 0) with _ | _
          rotate_left
          · obtain rfl : y = 0 := by simpa using y0
            clear y0
            as_aux_lemma =>
              go_wp2_with fail
              refine (amongL_c [-1, 6, 1] g (m + 8) _ _ (by simp) HS4.out.cur (by omega) (by decide) (by decide)).mono ?_
              rintro e w5 ⟨x5, rfl, _, hs⟩
              have HT5 := Lib.hid (HS4.out.trans hs)
              have BS5 := Lib.hid (BR4.out.step hs (by omega))
              have BK5 := Lib.hid (BJ4.out.step hs (by omega))
              clear hs HS4 BR4 BJ4
              have HS5 := Lib.hid ((HT5.out.store hga (p := ⟨w1.heap.size, 1, none⟩) (by simp; omega) (.int .i64 x5)))
              have BR5 := Lib.hid (BS5.out.other (p := ⟨w1.heap.size, 1, none⟩) (by simp; omega) (.int .i64 x5))
              have BJ5 := Lib.hid (BK5.out.set 1 (.int .i64 x5))
              have f5 : w5.frozen? ⟨w1.heap.size, 1, none⟩ = false := BK5.out.frozen 1
              have z5 : w5.cell? ⟨w1.heap.size, 1, none⟩ = some (.int .i64 x2) := BK5.out.cell 1
              clear HT5
              have q0 := BK5.out.cell 0
              have q1 := BK5.out.cell 1
              have q2 := BK5.out.cell 2
              have p0 := BS5.out.cell 0
              have p1 := BS5.out.cell 1
              have p2 := BS5.out.cell 2
              have e0 := BS5.out.frozen 0
              have e1 := BS5.out.frozen 1
              have e2 := BS5.out.frozen 2
              simp at q0 q1 q2 p0 p1 p2 e0 e1 e2
              have CS := Lib.hid (HS5.out.mono (show m + 10 ≤ m + 20 by omega))
              have RB := Lib.hid (loadVarJ (three_resB BR5.out (.int .i64 4) (.int .i64 x5) (.int .i64 x3)))
              go_wp2
              exact bodyPost_ret (v := .agg #[.int .i64 4, .int .i64 x5, .int .i64 x3]) (res_cell Try.results75 rfl RB.out) rfl ⟨_, _, _, rfl, ((CS.out.store hga (by simp) _).store hga (by simp) _).store hga (by simp) _⟩

          · rcases y1 : (y == 1) with _ | _
            rotate_left
            · obtain rfl : y = 1 := by simpa using y1
              clear y1
              as_aux_lemma =>
                go_wp2_with fail
                refine (amongL_c [-1, 7, 10, 1] g (m + 8) _ _ (by simp) HS4.out.cur (by omega) (by decide) (by decide)).mono ?_
                rintro e w5 ⟨x5, rfl, _, hs⟩
                have HT5 := Lib.hid (HS4.out.trans hs)
                have BS5 := Lib.hid (BR4.out.step hs (by omega))
                have BK5 := Lib.hid (BJ4.out.step hs (by omega))
                clear hs HS4 BR4 BJ4
                have HS5 := Lib.hid ((HT5.out.store hga (p := ⟨w1.heap.size, 2, none⟩) (by simp; omega) (.int .i64 x5)))
                have BR5 := Lib.hid (BS5.out.other (p := ⟨w1.heap.size, 2, none⟩) (by simp; omega) (.int .i64 x5))
                have BJ5 := Lib.hid (BK5.out.set 2 (.int .i64 x5))
                have f5 : w5.frozen? ⟨w1.heap.size, 2, none⟩ = false := BK5.out.frozen 2
                have z5 : w5.cell? ⟨w1.heap.size, 2, none⟩ = some (.int .i64 x3) := BK5.out.cell 2
                clear HT5
                have q0 := BK5.out.cell 0
                have q1 := BK5.out.cell 1
                have q2 := BK5.out.cell 2
                have p0 := BS5.out.cell 0
                have p1 := BS5.out.cell 1
                have p2 := BS5.out.cell 2
                have e0 := BS5.out.frozen 0
                have e1 := BS5.out.frozen 1
                have e2 := BS5.out.frozen 2
                simp at q0 q1 q2 p0 p1 p2 e0 e1 e2
                have CS := Lib.hid (HS5.out.mono (show m + 10 ≤ m + 20 by omega))
                have RB := Lib.hid (loadVarJ (three_resB BR5.out (.int .i64 4) (.int .i64 x2) (.int .i64 x5)))
                go_wp2
                exact bodyPost_ret (v := .agg #[.int .i64 4, .int .i64 x2, .int .i64 x5]) (res_cell Try.results75 rfl RB.out) rfl ⟨_, _, _, rfl, ((CS.out.store hga (by simp) _).store hga (by simp) _).store hga (by simp) _⟩

            · rcases y2 : (y == 2) with _ | _
              rotate_left
              · obtain rfl : y = 2 := by simpa using y2
                clear y2
                as_aux_lemma =>
                  go_wp2_with fail
                  refine (amongL_c [0, 8, -1] g (m + 8) _ _ (by simp) HS4.out.cur (by omega) (by decide) (by decide)).mono ?_
                  rintro e w5 ⟨x5, rfl, _, hs⟩
                  have HT5 := Lib.hid (HS4.out.trans hs)
                  have BS5 := Lib.hid (BR4.out.step hs (by omega))
                  have BK5 := Lib.hid (BJ4.out.step hs (by omega))
                  clear hs HS4 BR4 BJ4
                  have HS5 := Lib.hid ((HT5.out.store hga (p := ⟨w1.heap.size, 0, none⟩) (by simp; omega) (.int .i64 x5)))
                  have BR5 := Lib.hid (BS5.out.other (p := ⟨w1.heap.size, 0, none⟩) (by simp; omega) (.int .i64 x5))
                  have BJ5 := Lib.hid (BK5.out.set 0 (.int .i64 x5))
                  have f5 : w5.frozen? ⟨w1.heap.size, 0, none⟩ = false := BK5.out.frozen 0
                  have z5 : w5.cell? ⟨w1.heap.size, 0, none⟩ = some (.int .i64 4) := BK5.out.cell 0
                  clear HT5
                  have q0 := BK5.out.cell 0
                  have q1 := BK5.out.cell 1
                  have q2 := BK5.out.cell 2
                  have p0 := BS5.out.cell 0
                  have p1 := BS5.out.cell 1
                  have p2 := BS5.out.cell 2
                  have e0 := BS5.out.frozen 0
                  have e1 := BS5.out.frozen 1
                  have e2 := BS5.out.frozen 2
                  simp at q0 q1 q2 p0 p1 p2 e0 e1 e2
                  have CS := Lib.hid (HS5.out.mono (show m + 10 ≤ m + 20 by omega))
                  have RB := Lib.hid (loadVarJ (three_resB BR5.out (.int .i64 x5) (.int .i64 x2) (.int .i64 x3)))
                  go_wp2
                  exact bodyPost_ret (v := .agg #[.int .i64 x5, .int .i64 x2, .int .i64 x3]) (res_cell Try.results75 rfl RB.out) rfl ⟨_, _, _, rfl, ((CS.out.store hga (by simp) _).store hga (by simp) _).store hga (by simp) _⟩

              · as_aux_lemma =>
                  have q0 := BJ4.out.cell 0
                  have q1 := BJ4.out.cell 1
                  have q2 := BJ4.out.cell 2
                  have p0 := BR4.out.cell 0
                  have p1 := BR4.out.cell 1
                  have p2 := BR4.out.cell 2
                  have e0 := BR4.out.frozen 0
                  have e1 := BR4.out.frozen 1
                  have e2 := BR4.out.frozen 2
                  simp at q0 q1 q2 p0 p1 p2 e0 e1 e2
                  have CS := Lib.hid (HS4.out.mono (show m + 8 ≤ m + 20 by omega))
                  have RB := Lib.hid (loadVarJ (three_resB BR4.out (.int .i64 4) (.int .i64 x2) (.int .i64 x3)))
                  go_wp2
                  exact bodyPost_ret (v := .agg #[.int .i64 4, .int .i64 x2, .int .i64 x3]) (res_cell Try.results75 rfl RB.out) rfl ⟨_, _, _, rfl, ((CS.out.store hga (by simp) _).store hga (by simp) _).store hga (by simp) _⟩

      · skip
        rcases k2 : (k == 2) with _ | _
        rotate_left
        · obtain rfl : k = 2 := by simpa using k2
          as_aux_lemma =>
            go_wp2_with fail
            refine (pick_c 6 g (m + 2) _ HS1.out.cur (by omega)).mono ?_
            rintro e w2 ⟨x2, rfl, _, hs⟩
            have HT2 := Lib.hid (HS1.out.trans hs)
            have BS2 := Lib.hid (BR1.out.step hs (by omega))
            have BK2 := Lib.hid (BJ1.out.step hs (by omega))
            clear hs HS1 BR1 BJ1
            have HS2 := Lib.hid ((HT2.out.store hga (p := ⟨w1.heap.size, 1, none⟩) (by simp; omega) (.int .i64 x2)))
            have BR2 := Lib.hid (BS2.out.other (p := ⟨w1.heap.size, 1, none⟩) (by simp; omega) (.int .i64 x2))
            have BJ2 := Lib.hid (BK2.out.set 1 (.int .i64 x2))
            have f2 : w2.frozen? ⟨w1.heap.size, 1, none⟩ = false := BK2.out.frozen 1
            have z2 : w2.cell? ⟨w1.heap.size, 1, none⟩ = some (.int .i64 0) := BK2.out.cell 1
            clear HT2
            clear BS2 BK2
            go_wp2_with fail
            refine (pick_c 40 g (m + 4) _ HS2.out.cur (by omega)).mono ?_
            rintro e w3 ⟨y, rfl, _, hs⟩
            have HS3 := Lib.hid (HS2.out.trans hs)
            have BR3 := Lib.hid (BR2.out.step hs (by omega))
            have BJ3 := Lib.hid (BJ2.out.step hs (by omega))
            clear hs HS2 BR2 BJ2
            rcases y0 : (y == 0) with _ | _
            rotate_left
            · obtain rfl : y = 0 := by simpa using y0
              clear y0
              as_aux_lemma =>
                go_wp2_with fail
                refine (amongL_c [-1, 6, 1] g (m + 6) _ _ (by simp) HS3.out.cur (by omega) (by decide) (by decide)).mono ?_
                rintro e w4 ⟨x4, rfl, _, hs⟩
                have HT4 := Lib.hid (HS3.out.trans hs)
                have BS4 := Lib.hid (BR3.out.step hs (by omega))
                have BK4 := Lib.hid (BJ3.out.step hs (by omega))
                clear hs HS3 BR3 BJ3
                have HS4 := Lib.hid ((HT4.out.store hga (p := ⟨w1.heap.size, 1, none⟩) (by simp; omega) (.int .i64 x4)))
                have BR4 := Lib.hid (BS4.out.other (p := ⟨w1.heap.size, 1, none⟩) (by simp; omega) (.int .i64 x4))
                have BJ4 := Lib.hid (BK4.out.set 1 (.int .i64 x4))
                have f4 : w4.frozen? ⟨w1.heap.size, 1, none⟩ = false := BK4.out.frozen 1
                have z4 : w4.cell? ⟨w1.heap.size, 1, none⟩ = some (.int .i64 x2) := BK4.out.cell 1
                clear HT4
                have q0 := BK4.out.cell 0
                have q1 := BK4.out.cell 1
                have q2 := BK4.out.cell 2
                have p0 := BS4.out.cell 0
                have p1 := BS4.out.cell 1
                have p2 := BS4.out.cell 2
                have e0 := BS4.out.frozen 0
                have e1 := BS4.out.frozen 1
                have e2 := BS4.out.frozen 2
                simp at q0 q1 q2 p0 p1 p2 e0 e1 e2
                have CS := Lib.hid (HS4.out.mono (show m + 8 ≤ m + 20 by omega))
                have RB := Lib.hid (loadVarJ (three_resB BR4.out (.int .i64 2) (.int .i64 x4) (.int .i64 0)))
                go_wp2
                exact bodyPost_ret (v := .agg #[.int .i64 2, .int .i64 x4, .int .i64 0]) (res_cell Try.results75 rfl RB.out) rfl ⟨_, _, _, rfl, ((CS.out.store hga (by simp) _).store hga (by simp) _).store hga (by simp) _⟩

            · rcases y1 : (y == 1) with _ | _
              rotate_left
              · obtain rfl : y = 1 := by simpa using y1
                clear y1
                as_aux_lemma =>
                  go_wp2_with fail
                  refine (amongL_c [-1, 7, 10, 1] g (m + 6) _ _ (by simp) HS3.out.cur (by omega) (by decide) (by decide)).mono ?_
                  rintro e w4 ⟨x4, rfl, _, hs⟩
                  have HT4 := Lib.hid (HS3.out.trans hs)
                  have BS4 := Lib.hid (BR3.out.step hs (by omega))
                  have BK4 := Lib.hid (BJ3.out.step hs (by omega))
                  clear hs HS3 BR3 BJ3
                  have HS4 := Lib.hid ((HT4.out.store hga (p := ⟨w1.heap.size, 2, none⟩) (by simp; omega) (.int .i64 x4)))
                  have BR4 := Lib.hid (BS4.out.other (p := ⟨w1.heap.size, 2, none⟩) (by simp; omega) (.int .i64 x4))
                  have BJ4 := Lib.hid (BK4.out.set 2 (.int .i64 x4))
                  have f4 : w4.frozen? ⟨w1.heap.size, 2, none⟩ = false := BK4.out.frozen 2
                  have z4 : w4.cell? ⟨w1.heap.size, 2, none⟩ = some (.int .i64 0) := BK4.out.cell 2
                  clear HT4
                  have q0 := BK4.out.cell 0
                  have q1 := BK4.out.cell 1
                  have q2 := BK4.out.cell 2
                  have p0 := BS4.out.cell 0
                  have p1 := BS4.out.cell 1
                  have p2 := BS4.out.cell 2
                  have e0 := BS4.out.frozen 0
                  have e1 := BS4.out.frozen 1
                  have e2 := BS4.out.frozen 2
                  simp at q0 q1 q2 p0 p1 p2 e0 e1 e2
                  have CS := Lib.hid (HS4.out.mono (show m + 8 ≤ m + 20 by omega))
                  have RB := Lib.hid (loadVarJ (three_resB BR4.out (.int .i64 2) (.int .i64 x2) (.int .i64 x4)))
                  go_wp2
                  exact bodyPost_ret (v := .agg #[.int .i64 2, .int .i64 x2, .int .i64 x4]) (res_cell Try.results75 rfl RB.out) rfl ⟨_, _, _, rfl, ((CS.out.store hga (by simp) _).store hga (by simp) _).store hga (by simp) _⟩

              · rcases y2 : (y == 2) with _ | _
                rotate_left
                · obtain rfl : y = 2 := by simpa using y2
                  clear y2
                  as_aux_lemma =>
                    go_wp2_with fail
                    refine (amongL_c [0, 8, -1] g (m + 6) _ _ (by simp) HS3.out.cur (by omega) (by decide) (by decide)).mono ?_
                    rintro e w4 ⟨x4, rfl, _, hs⟩
                    have HT4 := Lib.hid (HS3.out.trans hs)
                    have BS4 := Lib.hid (BR3.out.step hs (by omega))
                    have BK4 := Lib.hid (BJ3.out.step hs (by omega))
                    clear hs HS3 BR3 BJ3
                    have HS4 := Lib.hid ((HT4.out.store hga (p := ⟨w1.heap.size, 0, none⟩) (by simp; omega) (.int .i64 x4)))
                    have BR4 := Lib.hid (BS4.out.other (p := ⟨w1.heap.size, 0, none⟩) (by simp; omega) (.int .i64 x4))
                    have BJ4 := Lib.hid (BK4.out.set 0 (.int .i64 x4))
                    have f4 : w4.frozen? ⟨w1.heap.size, 0, none⟩ = false := BK4.out.frozen 0
                    have z4 : w4.cell? ⟨w1.heap.size, 0, none⟩ = some (.int .i64 2) := BK4.out.cell 0
                    clear HT4
                    have q0 := BK4.out.cell 0
                    have q1 := BK4.out.cell 1
                    have q2 := BK4.out.cell 2
                    have p0 := BS4.out.cell 0
                    have p1 := BS4.out.cell 1
                    have p2 := BS4.out.cell 2
                    have e0 := BS4.out.frozen 0
                    have e1 := BS4.out.frozen 1
                    have e2 := BS4.out.frozen 2
                    simp at q0 q1 q2 p0 p1 p2 e0 e1 e2
                    have CS := Lib.hid (HS4.out.mono (show m + 8 ≤ m + 20 by omega))
                    have RB := Lib.hid (loadVarJ (three_resB BR4.out (.int .i64 x4) (.int .i64 x2) (.int .i64 0)))
                    go_wp2
                    exact bodyPost_ret (v := .agg #[.int .i64 x4, .int .i64 x2, .int .i64 0]) (res_cell Try.results75 rfl RB.out) rfl ⟨_, _, _, rfl, ((CS.out.store hga (by simp) _).store hga (by simp) _).store hga (by simp) _⟩

                · as_aux_lemma =>
                    have q0 := BJ3.out.cell 0
                    have q1 := BJ3.out.cell 1
                    have q2 := BJ3.out.cell 2
                    have p0 := BR3.out.cell 0
                    have p1 := BR3.out.cell 1
                    have p2 := BR3.out.cell 2
                    have e0 := BR3.out.frozen 0
                    have e1 := BR3.out.frozen 1
                    have e2 := BR3.out.frozen 2
                    simp at q0 q1 q2 p0 p1 p2 e0 e1 e2
                    have CS := Lib.hid (HS3.out.mono (show m + 6 ≤ m + 20 by omega))
                    have RB := Lib.hid (loadVarJ (three_resB BR3.out (.int .i64 2) (.int .i64 x2) (.int .i64 0)))
                    go_wp2
                    exact bodyPost_ret (v := .agg #[.int .i64 2, .int .i64 x2, .int .i64 0]) (res_cell Try.results75 rfl RB.out) rfl ⟨_, _, _, rfl, ((CS.out.store hga (by simp) _).store hga (by simp) _).store hga (by simp) _⟩

        · skip
          rcases k5 : (k == 5) with _ | _
          rotate_left
          · obtain rfl : k = 5 := by simpa using k5
            as_aux_lemma =>
              go_wp2_with fail
              refine (pick_c 6 g (m + 2) _ HS1.out.cur (by omega)).mono ?_
              rintro e w2 ⟨x2, rfl, _, hs⟩
              have HT2 := Lib.hid (HS1.out.trans hs)
              have BS2 := Lib.hid (BR1.out.step hs (by omega))
              have BK2 := Lib.hid (BJ1.out.step hs (by omega))
              clear hs HS1 BR1 BJ1
              have HS2 := Lib.hid ((HT2.out.store hga (p := ⟨w1.heap.size, 1, none⟩) (by simp; omega) (.int .i64 x2)))
              have BR2 := Lib.hid (BS2.out.other (p := ⟨w1.heap.size, 1, none⟩) (by simp; omega) (.int .i64 x2))
              have BJ2 := Lib.hid (BK2.out.set 1 (.int .i64 x2))
              have f2 : w2.frozen? ⟨w1.heap.size, 1, none⟩ = false := BK2.out.frozen 1
              have z2 : w2.cell? ⟨w1.heap.size, 1, none⟩ = some (.int .i64 0) := BK2.out.cell 1
              clear HT2
              clear BS2 BK2
              go_wp2_with fail
              refine (pick_c 40 g (m + 4) _ HS2.out.cur (by omega)).mono ?_
              rintro e w3 ⟨y, rfl, _, hs⟩
              have HS3 := Lib.hid (HS2.out.trans hs)
              have BR3 := Lib.hid (BR2.out.step hs (by omega))
              have BJ3 := Lib.hid (BJ2.out.step hs (by omega))
              clear hs HS2 BR2 BJ2
              rcases y0 : (y == 0) with _ | _
              rotate_left
              · obtain rfl : y = 0 := by simpa using y0
                clear y0
                as_aux_lemma =>
                  go_wp2_with fail
                  refine (amongL_c [-1, 6, 1] g (m + 6) _ _ (by simp) HS3.out.cur (by omega) (by decide) (by decide)).mono ?_
                  rintro e w4 ⟨x4, rfl, _, hs⟩
                  have HT4 := Lib.hid (HS3.out.trans hs)
                  have BS4 := Lib.hid (BR3.out.step hs (by omega))
                  have BK4 := Lib.hid (BJ3.out.step hs (by omega))
                  clear hs HS3 BR3 BJ3
                  have HS4 := Lib.hid ((HT4.out.store hga (p := ⟨w1.heap.size, 1, none⟩) (by simp; omega) (.int .i64 x4)))
                  have BR4 := Lib.hid (BS4.out.other (p := ⟨w1.heap.size, 1, none⟩) (by simp; omega) (.int .i64 x4))
                  have BJ4 := Lib.hid (BK4.out.set 1 (.int .i64 x4))
                  have f4 : w4.frozen? ⟨w1.heap.size, 1, none⟩ = false := BK4.out.frozen 1
                  have z4 : w4.cell? ⟨w1.heap.size, 1, none⟩ = some (.int .i64 x2) := BK4.out.cell 1
                  clear HT4
                  have q0 := BK4.out.cell 0
                  have q1 := BK4.out.cell 1
                  have q2 := BK4.out.cell 2
                  have p0 := BS4.out.cell 0
                  have p1 := BS4.out.cell 1
                  have p2 := BS4.out.cell 2
                  have e0 := BS4.out.frozen 0
                  have e1 := BS4.out.frozen 1
                  have e2 := BS4.out.frozen 2
                  simp at q0 q1 q2 p0 p1 p2 e0 e1 e2
                  have CS := Lib.hid (HS4.out.mono (show m + 8 ≤ m + 20 by omega))
                  have RB := Lib.hid (loadVarJ (three_resB BR4.out (.int .i64 5) (.int .i64 x4) (.int .i64 0)))
                  go_wp2
                  exact bodyPost_ret (v := .agg #[.int .i64 5, .int .i64 x4, .int .i64 0]) (res_cell Try.results75 rfl RB.out) rfl ⟨_, _, _, rfl, ((CS.out.store hga (by simp) _).store hga (by simp) _).store hga (by simp) _⟩

              · rcases y1 : (y == 1) with _ | _
                rotate_left
                · obtain rfl : y = 1 := by simpa using y1
                  clear y1
                  as_aux_lemma =>
                    go_wp2_with fail
                    refine (amongL_c [-1, 7, 10, 1] g (m + 6) _ _ (by simp) HS3.out.cur (by omega) (by decide) (by decide)).mono ?_
                    rintro e w4 ⟨x4, rfl, _, hs⟩
                    have HT4 := Lib.hid (HS3.out.trans hs)
                    have BS4 := Lib.hid (BR3.out.step hs (by omega))
                    have BK4 := Lib.hid (BJ3.out.step hs (by omega))
                    clear hs HS3 BR3 BJ3
                    have HS4 := Lib.hid ((HT4.out.store hga (p := ⟨w1.heap.size, 2, none⟩) (by simp; omega) (.int .i64 x4)))
                    have BR4 := Lib.hid (BS4.out.other (p := ⟨w1.heap.size, 2, none⟩) (by simp; omega) (.int .i64 x4))
                    have BJ4 := Lib.hid (BK4.out.set 2 (.int .i64 x4))
                    have f4 : w4.frozen? ⟨w1.heap.size, 2, none⟩ = false := BK4.out.frozen 2
                    have z4 : w4.cell? ⟨w1.heap.size, 2, none⟩ = some (.int .i64 0) := BK4.out.cell 2
                    clear HT4
                    have q0 := BK4.out.cell 0
                    have q1 := BK4.out.cell 1
                    have q2 := BK4.out.cell 2
                    have p0 := BS4.out.cell 0
                    have p1 := BS4.out.cell 1
                    have p2 := BS4.out.cell 2
                    have e0 := BS4.out.frozen 0
                    have e1 := BS4.out.frozen 1
                    have e2 := BS4.out.frozen 2
                    simp at q0 q1 q2 p0 p1 p2 e0 e1 e2
                    have CS := Lib.hid (HS4.out.mono (show m + 8 ≤ m + 20 by omega))
                    have RB := Lib.hid (loadVarJ (three_resB BR4.out (.int .i64 5) (.int .i64 x2) (.int .i64 x4)))
                    go_wp2
                    exact bodyPost_ret (v := .agg #[.int .i64 5, .int .i64 x2, .int .i64 x4]) (res_cell Try.results75 rfl RB.out) rfl ⟨_, _, _, rfl, ((CS.out.store hga (by simp) _).store hga (by simp) _).store hga (by simp) _⟩

                · rcases y2 : (y == 2) with _ | _
                  rotate_left
                  · obtain rfl : y = 2 := by simpa using y2
                    clear y2
                    as_aux_lemma =>
                      go_wp2_with fail
                      refine (amongL_c [0, 8, -1] g (m + 6) _ _ (by simp) HS3.out.cur (by omega) (by decide) (by decide)).mono ?_
                      rintro e w4 ⟨x4, rfl, _, hs⟩
                      have HT4 := Lib.hid (HS3.out.trans hs)
                      have BS4 := Lib.hid (BR3.out.step hs (by omega))
                      have BK4 := Lib.hid (BJ3.out.step hs (by omega))
                      clear hs HS3 BR3 BJ3
                      have HS4 := Lib.hid ((HT4.out.store hga (p := ⟨w1.heap.size, 0, none⟩) (by simp; omega) (.int .i64 x4)))
                      have BR4 := Lib.hid (BS4.out.other (p := ⟨w1.heap.size, 0, none⟩) (by simp; omega) (.int .i64 x4))
                      have BJ4 := Lib.hid (BK4.out.set 0 (.int .i64 x4))
                      have f4 : w4.frozen? ⟨w1.heap.size, 0, none⟩ = false := BK4.out.frozen 0
                      have z4 : w4.cell? ⟨w1.heap.size, 0, none⟩ = some (.int .i64 5) := BK4.out.cell 0
                      clear HT4
                      have q0 := BK4.out.cell 0
                      have q1 := BK4.out.cell 1
                      have q2 := BK4.out.cell 2
                      have p0 := BS4.out.cell 0
                      have p1 := BS4.out.cell 1
                      have p2 := BS4.out.cell 2
                      have e0 := BS4.out.frozen 0
                      have e1 := BS4.out.frozen 1
                      have e2 := BS4.out.frozen 2
                      simp at q0 q1 q2 p0 p1 p2 e0 e1 e2
                      have CS := Lib.hid (HS4.out.mono (show m + 8 ≤ m + 20 by omega))
                      have RB := Lib.hid (loadVarJ (three_resB BR4.out (.int .i64 x4) (.int .i64 x2) (.int .i64 0)))
                      go_wp2
                      exact bodyPost_ret (v := .agg #[.int .i64 x4, .int .i64 x2, .int .i64 0]) (res_cell Try.results75 rfl RB.out) rfl ⟨_, _, _, rfl, ((CS.out.store hga (by simp) _).store hga (by simp) _).store hga (by simp) _⟩

                  · as_aux_lemma =>
                      have q0 := BJ3.out.cell 0
                      have q1 := BJ3.out.cell 1
                      have q2 := BJ3.out.cell 2
                      have p0 := BR3.out.cell 0
                      have p1 := BR3.out.cell 1
                      have p2 := BR3.out.cell 2
                      have e0 := BR3.out.frozen 0
                      have e1 := BR3.out.frozen 1
                      have e2 := BR3.out.frozen 2
                      simp at q0 q1 q2 p0 p1 p2 e0 e1 e2
                      have CS := Lib.hid (HS3.out.mono (show m + 6 ≤ m + 20 by omega))
                      have RB := Lib.hid (loadVarJ (three_resB BR3.out (.int .i64 5) (.int .i64 x2) (.int .i64 0)))
                      go_wp2
                      exact bodyPost_ret (v := .agg #[.int .i64 5, .int .i64 x2, .int .i64 0]) (res_cell Try.results75 rfl RB.out) rfl ⟨_, _, _, rfl, ((CS.out.store hga (by simp) _).store hga (by simp) _).store hga (by simp) _⟩

          · skip
            as_aux_lemma =>
              go_wp2_with fail
              refine (pick_c 40 g (m + 2) _ HS1.out.cur (by omega)).mono ?_
              rintro e w2 ⟨y, rfl, _, hs⟩
              have HS2 := Lib.hid (HS1.out.trans hs)
              have BR2 := Lib.hid (BR1.out.step hs (by omega))
              have BJ2 := Lib.hid (BJ1.out.step hs (by omega))
              clear hs HS1 BR1 BJ1
              rcases y0 : (y == 0) with _ | _
              rotate_left
              · obtain rfl : y = 0 := by simpa using y0
                clear y0
                as_aux_lemma =>
                  go_wp2_with fail
                  refine (amongL_c [-1, 6, 1] g (m + 4) _ _ (by simp) HS2.out.cur (by omega) (by decide) (by decide)).mono ?_
                  rintro e w3 ⟨x3, rfl, _, hs⟩
                  have HT3 := Lib.hid (HS2.out.trans hs)
                  have BS3 := Lib.hid (BR2.out.step hs (by omega))
                  have BK3 := Lib.hid (BJ2.out.step hs (by omega))
                  clear hs HS2 BR2 BJ2
                  have HS3 := Lib.hid ((HT3.out.store hga (p := ⟨w1.heap.size, 1, none⟩) (by simp; omega) (.int .i64 x3)))
                  have BR3 := Lib.hid (BS3.out.other (p := ⟨w1.heap.size, 1, none⟩) (by simp; omega) (.int .i64 x3))
                  have BJ3 := Lib.hid (BK3.out.set 1 (.int .i64 x3))
                  have f3 : w3.frozen? ⟨w1.heap.size, 1, none⟩ = false := BK3.out.frozen 1
                  have z3 : w3.cell? ⟨w1.heap.size, 1, none⟩ = some (.int .i64 0) := BK3.out.cell 1
                  clear HT3
                  have q0 := BK3.out.cell 0
                  have q1 := BK3.out.cell 1
                  have q2 := BK3.out.cell 2
                  have p0 := BS3.out.cell 0
                  have p1 := BS3.out.cell 1
                  have p2 := BS3.out.cell 2
                  have e0 := BS3.out.frozen 0
                  have e1 := BS3.out.frozen 1
                  have e2 := BS3.out.frozen 2
                  simp at q0 q1 q2 p0 p1 p2 e0 e1 e2
                  have CS := Lib.hid (HS3.out.mono (show m + 6 ≤ m + 20 by omega))
                  have RB := Lib.hid (loadVarJ (three_resB BR3.out (.int .i64 k) (.int .i64 x3) (.int .i64 0)))
                  go_wp2
                  exact bodyPost_ret (v := .agg #[.int .i64 k, .int .i64 x3, .int .i64 0]) (res_cell Try.results75 rfl RB.out) rfl ⟨_, _, _, rfl, ((CS.out.store hga (by simp) _).store hga (by simp) _).store hga (by simp) _⟩

              · rcases y1 : (y == 1) with _ | _
                rotate_left
                · obtain rfl : y = 1 := by simpa using y1
                  clear y1
                  as_aux_lemma =>
                    go_wp2_with fail
                    refine (amongL_c [-1, 7, 10, 1] g (m + 4) _ _ (by simp) HS2.out.cur (by omega) (by decide) (by decide)).mono ?_
                    rintro e w3 ⟨x3, rfl, _, hs⟩
                    have HT3 := Lib.hid (HS2.out.trans hs)
                    have BS3 := Lib.hid (BR2.out.step hs (by omega))
                    have BK3 := Lib.hid (BJ2.out.step hs (by omega))
                    clear hs HS2 BR2 BJ2
                    have HS3 := Lib.hid ((HT3.out.store hga (p := ⟨w1.heap.size, 2, none⟩) (by simp; omega) (.int .i64 x3)))
                    have BR3 := Lib.hid (BS3.out.other (p := ⟨w1.heap.size, 2, none⟩) (by simp; omega) (.int .i64 x3))
                    have BJ3 := Lib.hid (BK3.out.set 2 (.int .i64 x3))
                    have f3 : w3.frozen? ⟨w1.heap.size, 2, none⟩ = false := BK3.out.frozen 2
                    have z3 : w3.cell? ⟨w1.heap.size, 2, none⟩ = some (.int .i64 0) := BK3.out.cell 2
                    clear HT3
                    have q0 := BK3.out.cell 0
                    have q1 := BK3.out.cell 1
                    have q2 := BK3.out.cell 2
                    have p0 := BS3.out.cell 0
                    have p1 := BS3.out.cell 1
                    have p2 := BS3.out.cell 2
                    have e0 := BS3.out.frozen 0
                    have e1 := BS3.out.frozen 1
                    have e2 := BS3.out.frozen 2
                    simp at q0 q1 q2 p0 p1 p2 e0 e1 e2
                    have CS := Lib.hid (HS3.out.mono (show m + 6 ≤ m + 20 by omega))
                    have RB := Lib.hid (loadVarJ (three_resB BR3.out (.int .i64 k) (.int .i64 0) (.int .i64 x3)))
                    go_wp2
                    exact bodyPost_ret (v := .agg #[.int .i64 k, .int .i64 0, .int .i64 x3]) (res_cell Try.results75 rfl RB.out) rfl ⟨_, _, _, rfl, ((CS.out.store hga (by simp) _).store hga (by simp) _).store hga (by simp) _⟩

                · rcases y2 : (y == 2) with _ | _
                  rotate_left
                  · obtain rfl : y = 2 := by simpa using y2
                    clear y2
                    as_aux_lemma =>
                      go_wp2_with fail
                      refine (amongL_c [0, 8, -1] g (m + 4) _ _ (by simp) HS2.out.cur (by omega) (by decide) (by decide)).mono ?_
                      rintro e w3 ⟨x3, rfl, _, hs⟩
                      have HT3 := Lib.hid (HS2.out.trans hs)
                      have BS3 := Lib.hid (BR2.out.step hs (by omega))
                      have BK3 := Lib.hid (BJ2.out.step hs (by omega))
                      clear hs HS2 BR2 BJ2
                      have HS3 := Lib.hid ((HT3.out.store hga (p := ⟨w1.heap.size, 0, none⟩) (by simp; omega) (.int .i64 x3)))
                      have BR3 := Lib.hid (BS3.out.other (p := ⟨w1.heap.size, 0, none⟩) (by simp; omega) (.int .i64 x3))
                      have BJ3 := Lib.hid (BK3.out.set 0 (.int .i64 x3))
                      have f3 : w3.frozen? ⟨w1.heap.size, 0, none⟩ = false := BK3.out.frozen 0
                      have z3 : w3.cell? ⟨w1.heap.size, 0, none⟩ = some (.int .i64 k) := BK3.out.cell 0
                      clear HT3
                      have q0 := BK3.out.cell 0
                      have q1 := BK3.out.cell 1
                      have q2 := BK3.out.cell 2
                      have p0 := BS3.out.cell 0
                      have p1 := BS3.out.cell 1
                      have p2 := BS3.out.cell 2
                      have e0 := BS3.out.frozen 0
                      have e1 := BS3.out.frozen 1
                      have e2 := BS3.out.frozen 2
                      simp at q0 q1 q2 p0 p1 p2 e0 e1 e2
                      have CS := Lib.hid (HS3.out.mono (show m + 6 ≤ m + 20 by omega))
                      have RB := Lib.hid (loadVarJ (three_resB BR3.out (.int .i64 x3) (.int .i64 0) (.int .i64 0)))
                      go_wp2
                      exact bodyPost_ret (v := .agg #[.int .i64 x3, .int .i64 0, .int .i64 0]) (res_cell Try.results75 rfl RB.out) rfl ⟨_, _, _, rfl, ((CS.out.store hga (by simp) _).store hga (by simp) _).store hga (by simp) _⟩

                  · as_aux_lemma =>
                      have q0 := BJ2.out.cell 0
                      have q1 := BJ2.out.cell 1
                      have q2 := BJ2.out.cell 2
                      have p0 := BR2.out.cell 0
                      have p1 := BR2.out.cell 1
                      have p2 := BR2.out.cell 2
                      have e0 := BR2.out.frozen 0
                      have e1 := BR2.out.frozen 1
                      have e2 := BR2.out.frozen 2
                      simp at q0 q1 q2 p0 p1 p2 e0 e1 e2
                      have CS := Lib.hid (HS2.out.mono (show m + 4 ≤ m + 20 by omega))
                      have RB := Lib.hid (loadVarJ (three_resB BR2.out (.int .i64 k) (.int .i64 0) (.int .i64 0)))
                      go_wp2
                      exact bodyPost_ret (v := .agg #[.int .i64 k, .int .i64 0, .int .i64 0]) (res_cell Try.results75 rfl RB.out) rfl ⟨_, _, _, rfl, ((CS.out.store hga (by simp) _).store hga (by simp) _).store hga (by simp) _⟩

end Go.Proofs.Ytfbnmkpkihfocaa
