/- Walks of the checker's draws of cells and rows: each gives some cell or row, and turns only the cursor's block. -/
import Derived.Test.YtlipkplomndjcaaCur
import Derived.Test.YtlipkplomndjcaaFaults
namespace Go.Proofs.Ytlipkplomndjcaa
open Go.RowKit
set_option linter.unusedVariables false
set_option linter.unusedSimpArgs false
set_option maxRecDepth 100000

theorem cell_c (g m : Nat) (w : World) (h : CurAt w g m) (hm : m + 20 < 4611686018427387904) :
    Calls Try.prog 83 #[.pointer (some ⟨g, 0, none⟩)] w (DrawI w g (m + 20) fun _ => True) := by
  have HC := Lib.hid h
  clear h
  go_enter Try.func83, Try.ntmps83
  go_wp2_with fail
  refine (pick_c 40 g m _ HC.out (by omega)).mono ?_
  rintro e w1 ⟨x, rfl, hx, hs⟩
  have HS := Lib.hid hs
  clear hs hx
  have A1 := Lib.hid (fun xs hp hl => amongL_c xs g (m + 2) w1 _ rfl HS.out.cur (by omega) hp hl)
  have O1 := Lib.hid (fun n => one_c n g (m + 2) w1 HS.out.cur (by omega))
  by_cases e0 : x = 0
  · subst e0
    go_wp2_with fail
    refine (A1.out [-1, 128, 4611686018427387904] (by decide) (by decide)).mono ?_
    rintro e w2 ⟨y, rfl, hy, hs⟩
    have HS2 := Lib.hid (HS.out.trans hs)
    clear hs hy
    go_wp2
    go_ret
    exact ⟨_, rfl, trivial, HS2.out.mono (by omega)⟩
  · by_cases e1 : x = 1 ∨ x = 2 ∨ x = 3
    · rcases e1 with rfl | rfl | rfl <;>
      · go_wp2_with fail
        refine (A1.out [0, 127, 64] (by decide) (by decide)).mono ?_
        rintro e w2 ⟨y, rfl, hy, hs⟩
        have HS2 := Lib.hid (HS.out.trans hs)
        clear hs hy
        go_wp2
        go_ret
        exact ⟨_, rfl, trivial, HS2.out.mono (by omega)⟩
    · have e1' : ¬ x = 1 := fun h => e1 (.inl h)
      have e2' : ¬ x = 2 := fun h => e1 (.inr (.inl h))
      have e3' : ¬ x = 3 := fun h => e1 (.inr (.inr h))
      clear e1
      go_wp2_with fail
      refine (O1.out 3).mono ?_
      rintro e w2 ⟨b, rfl, hs⟩
      have HS2 := Lib.hid (HS.out.trans hs)
      clear hs
      cases b with
      | true =>
        go_wp2_with fail
        refine (pick_c 128 g (m + 4) _ HS2.out.cur (by omega)).mono ?_
        rintro e w3 ⟨y, rfl, hy, hs⟩
        have HS3 := Lib.hid (HS2.out.trans hs)
        clear hs hy
        go_wp2
        go_ret
        exact ⟨_, rfl, trivial, HS3.out.mono (by omega)⟩
      | false =>
        go_wp2_with fail
        refine (pick_c 10 g (m + 4) _ HS2.out.cur (by omega)).mono ?_
        rintro e w3 ⟨y, rfl, hy, hs⟩
        have HS3 := Lib.hid (HS2.out.trans hs)
        have y0 := hy.1
        have y1 := hy.2 (by omega)
        clear hs hy
        go_wp2_with fail
        refine (l2Digit_c y y0 (by omega) _).mono ?_
        rintro e w4 ⟨rfl, hb⟩
        have HS4 := Lib.hid (HS3.out.below hb)
        clear hb
        go_wp2_with fail
        refine (one_c 5 g (m + 6) _ HS4.out.cur (by omega)).mono ?_
        rintro e w5 ⟨b, rfl, hs⟩
        have HS5 := Lib.hid (HS4.out.trans hs)
        clear hs
        cases b with
        | false =>
          go_wp2
          go_ret
          exact ⟨_, rfl, trivial, HS5.out.mono (by omega)⟩
        | true =>
          go_wp2_with fail
          refine (pick_c 7 g (m + 8) _ HS5.out.cur (by omega)).mono ?_
          rintro e w6 ⟨z, rfl, hz, hs⟩
          have HS6 := Lib.hid (HS5.out.trans hs)
          obtain ⟨k, rfl⟩ := Int.eq_ofNat_of_zero_le hz.1
          have z1 : k < 7 := by have := hz.2 (by omega); omega
          clear hs hz
          go_wp2
          go_ret
          exact ⟨_, rfl, trivial, HS6.out.mono (by omega)⟩

/-- What a draw of a slice of ints gives. -/
def DrawS (w : World) (g m n : Nat) (e : Ending) (w' : World) : Prop :=
  ∃ (v : Value) (xs : List Int), e = .returned v ∧ xs.length ≤ n ∧ w'.ownsRow w.heap.size 3 1 v xs.length (xs.map (Value.int .i64)) ∧ CStep w w' g m
theorem DrawS.mono {w : World} {g m m' n n' : Nat} {e : Ending} {w' : World} (h : DrawS w g m n e w') (hm : m ≤ m') (hn : n ≤ n') : DrawS w g m' n' e w' := by
  obtain ⟨v, xs, h1, h2, h3, h4⟩ := h
  exact ⟨v, xs, h1, by omega, h3, h4.mono hm⟩
/-- behind an append to a row of the call's own -/
theorem CStep.grown {a b c : World} {g m : Nat} {r : Option Nat} (h : CStep a b g m) (hg : b.grownBy c r) (hga : g < a.heap.size) (hr : ∀ k, r = some k → a.heap.size ≤ k) : CStep a c g m :=
  ⟨⟨hg.os.trans h.gr.os, hg.tape.trans h.gr.tape, hg.output.trans h.gr.output, Nat.le_trans h.gr.size hg.size, fun i hi hne => (hg.block i (Nat.lt_of_lt_of_le hi h.gr.size) (fun e => by
    have := hr i e.symm; omega)).trans (h.gr.block i hi hne)⟩, h.cur.grown hg (fun k hk => by have := hr k hk; omega)⟩
theorem row_start (w : World) (lo : Nat) (h : lo ≤ w.heap.size) : (w.alloc (.cells #[] 3)).ownsRow lo 3 1 (.slice (some ⟨w.heap.size, 0, none⟩) 0 0) ([] : List Int).length (([] : List Int).map (Value.int .i64)) :=
  World.ownsRow_lit (e := 3) (size := 1) (base := lo) w #[] 0 h (by decide) rfl
set_option maxHeartbeats 1000000 in
theorem row_c (g m : Nat) (w : World) (h : CurAt w g m) (hm : m + 150 < 4611686018427387904) :
    Calls Try.prog 114 #[.pointer (some ⟨g, 0, none⟩)] w (DrawS w g (m + 150) 7) := by
  have HC := Lib.hid h
  have hga := h.lt
  obtain ⟨i, hi, hz0, hz1, hz2⟩ := info_parts info_int
  have HO := Lib.hid (row_start w w.heap.size (Nat.le_refl _))
  clear h
  go_enter Try.func114, Try.ntmps114
  go_wp2_with fail
  refine (amongL_c [2, 3, 1, 4, 6, 0, 5, 2, 3] g m _ _ (by simp) (HC.out.alloc (.cells #[] 3)) (by omega) (by decide) (by decide)).mono ?_
  rintro e w1 ⟨x, rfl, hx, hs⟩
  have HS := Lib.hid ((((CStep.refl HC.out).alloc (.cells #[] 3)).trans hs))
  have ho := hs.row HO.out hga
  obtain ⟨x0, x1⟩ : 0 ≤ x ∧ x ≤ 6 := by
    simp only [List.mem_cons, List.not_mem_nil, or_false] at hx; omega
  obtain ⟨k, rfl⟩ := Int.eq_ofNat_of_zero_le x0
  have hk : k ≤ 6 := by omega
  clear hs hx x0 x1 HO
  go_wp2
  go_loopw [3, 4] (fun o j wr => ∃ (k : Nat) (xs : List Int), k ≤ 6 ∧ j = .int .i64 (k : Int) ∧ xs.length + k ≤ 6 ∧ wr.ownsRow w.heap.size 3 1 o xs.length (xs.map (Value.int .i64)) ∧ CStep w wr g (m + 2 + 20 * (6 - k))) (fun _ j _ => (intOf j).toNat)
  case atStart => exact ⟨k, [], hk, rfl, by simpa using hk, ho, HS.out.mono (by omega)⟩
  case round =>
    obtain ⟨k, xs, hk, rfl, hl, ho, hs⟩ := hrel
    have HS := Lib.hid hs
    have HO := Lib.hid ho
    clear hs ho
    by_cases hk0 : 0 < k
    · have hd : decide (0 < (k : Int)) = true := by simp; omega
      go_wp2_with fail
      refine (cell_c g _ _ HS.out.cur (by omega)).mono ?_
      rintro e w2 ⟨x, rfl, _, hs⟩
      have HS2 := Lib.hid (HS.out.trans hs)
      have HO2 := Lib.hid (hs.row HO.out hga)
      clear hs
      go_wp2_with (at_builtin; refine wpList_append_own_at _ rfl _ _ 24 rfl w.heap.size 3 i (.int .i64 0) 1 8 Try.underlying24 hi hz0 hz1 hz2 rfl (by decide) _ xs.length (xs.map (Value.int .i64)) rfl (HO2.out.alloc _) ⟨w2.heap.size, 0, none⟩ 1 1 [.int .i64 x] rfl rfl (news_new _ [.int .i64 x] _) (by simp [Value.oneCell']) (by unfold maxLen; omega) (by omega) (by have := HS2.out.gr.size; simp; omega) ?_)
      intro v' w3 ho5 hg5 _ _
      have HS3 := Lib.hid ((HS2.out.alloc _).grown hg5 hga (fun k hk => ((HO2.out.alloc (.cells #[.int .i64 x] 3)).lt k hk).1))
      have HO3 := Lib.hid ho5
      clear ho5 hg5
      go_wp2
      go_roundw
      case rel => exact ⟨k - 1, xs ++ [x], by omega, by go_num, by simp; omega, ownsRow_cast HO3.out (by simp) (ints_snoc _ _).symm, HS3.out.mono (by omega)⟩
      case measure => simp [intOf]; omega
    · obtain rfl : k = 0 := by omega
      clear hk0
      go_wp2_with fail
      refine (one_c 40 g _ _ HS.out.cur (by omega)).mono ?_
      rintro e w2 ⟨b, rfl, hs⟩
      have HS2 := Lib.hid (HS.out.trans hs)
      have HO2 := Lib.hid (hs.row HO.out hga)
      clear hs
      cases b with
      | false =>
        go_wp2
        go_ret
        exact ⟨_, xs, rfl, by omega, HO2.out, HS2.out.mono (by omega)⟩
      | true =>
        go_wp2
        go_ret
        exact ⟨_, [6, 6, 6, 6, 6, 6, 6], rfl, by decide, World.ownsRow_lit (e := 3) (size := 1) (base := w.heap.size) w2 #[.int .i64 6, .int .i64 6, .int .i64 6, .int .i64 6, .int .i64 6, .int .i64 6, .int .i64 6] 7 HS2.out.gr.size (by decide) rfl, (HS2.out.alloc _).mono (by omega)⟩
set_option maxHeartbeats 1000000 in
theorem digits_d (g m : Nat) (w : World) (h : CurAt w g m) (hm : m + 200 < 4611686018427387904) :
    Calls Try.prog 95 #[.pointer (some ⟨g, 0, none⟩)] w (DrawS w g (m + 200) 7) := by
  have HC := Lib.hid h
  have hga := h.lt
  obtain ⟨i, hi, hz0, hz1, hz2⟩ := info_parts info_int
  clear h
  go_enter Try.func95, Try.ntmps95
  go_wp2_with fail
  refine (one_c 6 g m _ HC.out (by omega)).mono ?_
  rintro e w1 ⟨b, rfl, hs⟩
  have HS := Lib.hid hs
  clear hs
  cases b with
  | true =>
    go_wp2_with fail
    refine (row_c g (m + 2) _ HS.out.cur (by omega)).mono ?_
    rintro e w2 ⟨v, xs, rfl, hl, ho, hs⟩
    have HS2 := Lib.hid (HS.out.trans hs)
    have HO2 := Lib.hid (own_lo ho HS.out.gr.size)
    clear hs ho
    go_wp2
    go_ret
    exact ⟨_, xs, rfl, hl, HO2.out, HS2.out.mono (by omega)⟩
  | false =>
    have HO := Lib.hid (row_start w1 w.heap.size HS.out.gr.size)
    have HS1 := Lib.hid (HS.out.alloc (.cells #[] 3))
    go_wp2_with fail
    refine (amongL_c [2, 3, 1, 4, 6] g (m + 2) _ _ (by simp) HS1.out.cur (by omega) (by decide) (by decide)).mono ?_
    rintro e w2 ⟨x, rfl, hx, hs⟩
    have HS2 := Lib.hid (HS1.out.trans hs)
    have ho := hs.row HO.out hga
    obtain ⟨x0, x1⟩ : 0 ≤ x ∧ x ≤ 6 := by
      simp only [List.mem_cons, List.not_mem_nil, or_false] at hx; omega
    obtain ⟨k, rfl⟩ := Int.eq_ofNat_of_zero_le x0
    have hk : k ≤ 6 := by omega
    clear hs hx x0 x1 HO HS1 HS
    go_wp2
    go_loopw [3, 4] (fun o j wr => ∃ (k : Nat) (xs : List Int), k ≤ 6 ∧ j = .int .i64 (k : Int) ∧ xs.length + k ≤ 6 ∧ wr.ownsRow w.heap.size 3 1 o xs.length (xs.map (Value.int .i64)) ∧ CStep w wr g (m + 4 + 20 * (6 - k))) (fun _ j _ => (intOf j).toNat)
    case atStart => exact ⟨k, [], hk, rfl, by simpa using hk, ho, HS2.out.mono (by omega)⟩
    case round =>
      obtain ⟨k, xs, hk, rfl, hl, ho, hs⟩ := hrel
      have HS := Lib.hid hs
      have HO := Lib.hid ho
      clear hs ho
      by_cases hk0 : 0 < k
      · have hd : decide (0 < (k : Int)) = true := by simp; omega
        go_wp2_with fail
        refine (amongL_c [0, 1, 2, 5, 6, 8, 9, 3, 4, 7] g _ _ _ (by simp) HS.out.cur (by omega) (by decide) (by decide)).mono ?_
        rintro e w2 ⟨x, rfl, hx, hs⟩
        obtain ⟨x0, x1⟩ : 0 ≤ x ∧ x ≤ 9 := by
          simp only [List.mem_cons, List.not_mem_nil, or_false] at hx; omega
        have HS2 := Lib.hid (HS.out.trans hs)
        have HO2 := Lib.hid (hs.row HO.out hga)
        clear hs hx
        go_wp2_with fail
        refine (l2Digit_c x x0 x1 _).mono ?_
        rintro e w3 ⟨rfl, hb⟩
        have HS3 := Lib.hid (HS2.out.below hb)
        have HO3 := Lib.hid (own_keep HO2.out hb)
        clear hb
        go_wp2_with (at_builtin; refine wpList_append_own_at _ rfl _ _ 24 rfl w.heap.size 3 i (.int .i64 0) 1 8 Try.underlying24 hi hz0 hz1 hz2 rfl (by decide) _ xs.length (xs.map (Value.int .i64)) rfl (HO3.out.alloc _) ⟨w3.heap.size, 0, none⟩ 1 1 [.int .i64 (dg x)] rfl rfl (news_new _ [.int .i64 (dg x)] _) (by simp [Value.oneCell']) (by unfold maxLen; omega) (by omega) (by have := HS3.out.gr.size; simp; omega) ?_)
        intro v' w4 ho5 hg5 _ _
        have HS4 := Lib.hid ((HS3.out.alloc _).grown hg5 hga (fun k hk => ((HO3.out.alloc (.cells #[.int .i64 (dg x)] 3)).lt k hk).1))
        have HO4 := Lib.hid ho5
        clear ho5 hg5
        go_wp2
        go_roundw
        case rel => exact ⟨k - 1, xs ++ [dg x], by omega, by go_num, by simp; omega, ownsRow_cast HO4.out (by simp) (ints_snoc _ _).symm, HS4.out.mono (by omega)⟩
        case measure => simp [intOf]; omega
      · obtain rfl : k = 0 := by omega
        clear hk0
        go_wp2
        go_ret
        exact ⟨_, xs, rfl, by omega, HO.out, HS.out.mono (by omega)⟩
/-- What a draw of a Fault gives. -/
def DrawF (w : World) (g m : Nat) (e : Ending) (w' : World) : Prop := ∃ d l : Int, e = .returned (.agg #[.int .i64 d, .int .i64 l]) ∧ CStep w w' g m
theorem CStep.store {a b : World} {g m : Nat} (h : CStep a b g m) (hga : g < a.heap.size) {p : Addr} (hp : a.heap.size ≤ p.block) (v : Value) : CStep a (b.setCell p v) g m :=
  ⟨⟨h.gr.os, h.gr.tape, h.gr.output, by have := h.gr.size; simp [World.setCell]; exact this, fun k hk hne => (Below.heap_setCell _ _ _ _ (by omega)).trans (h.gr.block k hk hne)⟩, h.cur.blocks fun k hk => Below.heap_setCell _ _ _ _ (by omega)⟩
theorem Bk.step {a b : World} {g m k t : Nat} {cs : Array Value} (h : Bk a k t cs) (hs : CStep a b g m) (hk : k ≠ g) : Bk b k t cs := h.keep (hs.gr.block k h.lt (fun e => hk (by cases e; rfl)))
theorem two_res {W : World} {b t : Nat} {a c : Value} (h : Bk W b t #[a, c]) (X Y : Value) :
    ((W.setCell ⟨b, 0, none⟩ X).setCell ⟨b, 1, none⟩ Y).cell? ⟨b, 0, none⟩ = some X ∧ ((W.setCell ⟨b, 0, none⟩ X).setCell ⟨b, 1, none⟩ Y).cell? ⟨b, 1, none⟩ = some Y := by
  have h2 := (h.set 0 X).set 1 Y
  exact ⟨h2.cell 0, h2.cell 1⟩
set_option maxHeartbeats 1000000 in
theorem fault3_c (g m : Nat) (w : World) (h : CurAt w g m) (hm : m + 30 < 4611686018427387904) :
    Calls Try.prog 78 #[.pointer (some ⟨g, 0, none⟩)] w (DrawF w g (m + 30)) := by
  have hga := h.lt
  have B0 := Lib.hid (Bk.new w 42 #[.int .i64 0, .int .i64 0])
  have B1 := Lib.hid (Bk.new (w.alloc (.cells #[.int .i64 0, .int .i64 0] 42)) 42 #[.int .i64 0, .int .i64 0])
  have HC := Lib.hid ((((CStep.refl h).alloc (.cells #[.int .i64 0, .int .i64 0] 42)).alloc (.cells #[.int .i64 0, .int .i64 0] 42)))
  clear h
  go_enter Try.func78, Try.ntmps78
  go_wp2_with fail
  refine (amongL_c [1, 2, 0, 3, 1, 5] g m _ _ (by simp) HC.out.cur (by omega) (by decide) (by decide)).mono ?_
  rintro e w1 ⟨x, rfl, hx, hs⟩
  have HS := Lib.hid (HC.out.trans hs)
  have b0 : Bk w1 w.heap.size 42 #[.int .i64 0, .int .i64 0] := (B0.out.alloc _).step hs (by omega)
  have b1 := B1.out.step hs (by simp; omega)
  rw [World.size_alloc] at b1
  obtain ⟨x0, x1⟩ : 0 ≤ x ∧ x ≤ 5 := by
    simp only [List.mem_cons, List.not_mem_nil, or_false] at hx; omega
  obtain ⟨k, rfl⟩ := Int.eq_ofNat_of_zero_le x0
  have hk : k ≤ 5 := by omega
  clear hs hx x0 x1 HC B0 B1
  go_wp2
  go_loopw [4] (fun j wr => ∃ (k : Nat) (d l : Int), k ≤ 5 ∧ j = .int .i64 (k : Int) ∧ Bk wr (w.heap.size + 1) 42 #[.int .i64 d, .int .i64 l] ∧ Bk wr w.heap.size 42 #[.int .i64 0, .int .i64 0] ∧ CStep w wr g (m + 2 + 4 * (5 - k))) (fun j _ => (intOf j).toNat)
  case atStart => exact ⟨k, 0, 0, hk, rfl, b1, b0, HS.out.mono (by omega)⟩
  case round =>
    obtain ⟨k, d, l, hk, rfl, b1, b0, hs⟩ := hrel
    have HS := Lib.hid hs
    have B0 := Lib.hid b0
    have B1 := Lib.hid b1
    clear hs b0 b1
    by_cases hk0 : 0 < k
    · have hd : decide (0 < (k : Int)) = true := by simp; omega
      go_wp2_with fail
      refine (pick_c 7 g _ _ HS.out.cur (by omega)).mono ?_
      rintro e w2 ⟨x, rfl, hx, hs⟩
      obtain ⟨b, rfl⟩ := Int.eq_ofNat_of_zero_le hx.1
      have z1 : b < 7 := by have := hx.2 (by omega); omega
      have HS2 := Lib.hid (HS.out.trans hs)
      have B02 := Lib.hid (B0.out.step hs (by omega))
      have B12 := Lib.hid (B1.out.step hs (by omega))
      have r0 : w2.cell? ⟨w.heap.size + 1, 0, none⟩ = some (.int .i64 d) := B12.out.cell 0
      have r1 : w2.cell? ⟨w.heap.size + 1, 1, none⟩ = some (.int .i64 l) := B12.out.cell 1
      clear hs hx B0 B1 HS
      rcases hq : (bits BinOp.and IntKind.i64 (bits BinOp.or IntKind.i64 d l) (wrap64 (2 ^ b)) != 0) with _ | _
      · go_wp2_with fail
        refine (one_c 3 g _ _ HS2.out.cur (by omega)).mono ?_
        rintro e w3 ⟨t, rfl, hs⟩
        have HS3 := Lib.hid (HS2.out.trans hs)
        have B03 := Lib.hid (B02.out.step hs (by omega))
        have B13 := Lib.hid (B12.out.step hs (by omega))
        have r0 : w3.cell? ⟨w.heap.size + 1, 0, none⟩ = some (.int .i64 d) := B13.out.cell 0
        have r1 : w3.cell? ⟨w.heap.size + 1, 1, none⟩ = some (.int .i64 l) := B13.out.cell 1
        have f0 : w3.frozen? ⟨w.heap.size + 1, 0, none⟩ = false := B13.out.frozen 0
        have f1 : w3.frozen? ⟨w.heap.size + 1, 1, none⟩ = false := B13.out.frozen 1
        clear hs B02 B12
        cases t with
        | true =>
          go_wp2
          go_roundw
          case rel => exact ⟨k - 1, _, _, by omega, by go_num, B13.out.set 1 _, B03.out.other (by simp) _, (HS3.out.store hga (by simp) _).mono (by omega)⟩
          case measure => simp [intOf]; omega
        | false =>
          go_wp2
          go_roundw
          case rel => exact ⟨k - 1, _, _, by omega, by go_num, B13.out.set 0 _, B03.out.other (by simp) _, (HS3.out.store hga (by simp) _).mono (by omega)⟩
          case measure => simp [intOf]; omega
      · go_wp2
        go_roundw
        case rel => exact ⟨k - 1, _, _, by omega, by go_num, B12.out, B02.out, HS2.out.mono (by omega)⟩
        case measure => simp [intOf]; omega
    · obtain rfl : k = 0 := by omega
      clear hk0
      go_wp2_with fail
      refine (pick_c 50 g _ _ HS.out.cur (by omega)).mono ?_
      rintro e w2 ⟨x, rfl, hx, hs⟩
      have HS2 := Lib.hid (HS.out.trans hs)
      have B02 := Lib.hid (B0.out.step hs (by omega))
      have B12 := Lib.hid (B1.out.step hs (by omega))
      clear hs hx B0 B1 HS
      by_cases e0 : x = 0
      · subst e0
        go_wp2_with fail
        refine (amongL_c [-1, 128, 127] g _ _ _ (by simp) HS2.out.cur (by omega) (by decide) (by decide)).mono ?_
        rintro e w3 ⟨y, rfl, hy, hs⟩
        have HS3 := Lib.hid (HS2.out.trans hs)
        have B03 := Lib.hid (B02.out.step hs (by omega))
        have B13 := Lib.hid (B12.out.step hs (by omega))
        have q0 : w3.cell? ⟨w.heap.size, 0, none⟩ = some (.int .i64 0) := B03.out.cell 0
        have q1 : w3.cell? ⟨w.heap.size, 1, none⟩ = some (.int .i64 0) := B03.out.cell 1
        have r0 : w3.cell? ⟨w.heap.size + 1, 0, none⟩ = some (.int .i64 d) := B13.out.cell 0
        have r1 : w3.cell? ⟨w.heap.size + 1, 1, none⟩ = some (.int .i64 l) := B13.out.cell 1
        have f0 : w3.frozen? ⟨w.heap.size + 1, 0, none⟩ = false := B13.out.frozen 0
        have g0 : w3.frozen? ⟨w.heap.size, 0, none⟩ = false := B03.out.frozen 0
        have g1 : w3.frozen? ⟨w.heap.size, 1, none⟩ = false := B03.out.frozen 1
        clear hs hy B02 B12
        go_wp2
        have CS : CStep w (w3.setCell ⟨w.heap.size + 1, 0, none⟩ (.int .i64 y)) g (m + 30) := (HS3.out.store hga (by simp) _).mono (by omega)
        obtain ⟨z0, z1⟩ := two_res (B03.out.other (p := ⟨w.heap.size + 1, 0, none⟩) (by simp) (.int .i64 y)) (.int .i64 y) (.int .i64 l)
        exact bodyPost_ret (v := .agg #[(.int .i64 y), (.int .i64 l)]) (by simp [results, Try.results78, go_sem, z0, z1]) rfl ⟨_, _, rfl, (CS.store hga (by simp) _).store hga (by simp) _⟩
      · by_cases e1 : x = 1
        · subst e1
          go_wp2_with fail
          refine (amongL_c [-1, 128, 127] g _ _ _ (by simp) HS2.out.cur (by omega) (by decide) (by decide)).mono ?_
          rintro e w3 ⟨y, rfl, hy, hs⟩
          have HS3 := Lib.hid (HS2.out.trans hs)
          have B03 := Lib.hid (B02.out.step hs (by omega))
          have B13 := Lib.hid (B12.out.step hs (by omega))
          have q0 : w3.cell? ⟨w.heap.size, 0, none⟩ = some (.int .i64 0) := B03.out.cell 0
          have q1 : w3.cell? ⟨w.heap.size, 1, none⟩ = some (.int .i64 0) := B03.out.cell 1
          have r0 : w3.cell? ⟨w.heap.size + 1, 0, none⟩ = some (.int .i64 d) := B13.out.cell 0
          have r1 : w3.cell? ⟨w.heap.size + 1, 1, none⟩ = some (.int .i64 l) := B13.out.cell 1
          have f1 : w3.frozen? ⟨w.heap.size + 1, 1, none⟩ = false := B13.out.frozen 1
          have g0 : w3.frozen? ⟨w.heap.size, 0, none⟩ = false := B03.out.frozen 0
          have g1 : w3.frozen? ⟨w.heap.size, 1, none⟩ = false := B03.out.frozen 1
          clear hs hy B02 B12
          go_wp2
          have CS : CStep w (w3.setCell ⟨w.heap.size + 1, 1, none⟩ (.int .i64 y)) g (m + 30) := (HS3.out.store hga (by simp) _).mono (by omega)
          obtain ⟨z0, z1⟩ := two_res (B03.out.other (p := ⟨w.heap.size + 1, 1, none⟩) (by simp) (.int .i64 y)) (.int .i64 d) (.int .i64 y)
          exact bodyPost_ret (v := .agg #[(.int .i64 d), (.int .i64 y)]) (by simp [results, Try.results78, go_sem, z0, z1]) rfl ⟨_, _, rfl, (CS.store hga (by simp) _).store hga (by simp) _⟩
        · have q0 : w2.cell? ⟨w.heap.size, 0, none⟩ = some (.int .i64 0) := B02.out.cell 0
          have q1 : w2.cell? ⟨w.heap.size, 1, none⟩ = some (.int .i64 0) := B02.out.cell 1
          have r0 : w2.cell? ⟨w.heap.size + 1, 0, none⟩ = some (.int .i64 d) := B12.out.cell 0
          have r1 : w2.cell? ⟨w.heap.size + 1, 1, none⟩ = some (.int .i64 l) := B12.out.cell 1
          have g0 : w2.frozen? ⟨w.heap.size, 0, none⟩ = false := B02.out.frozen 0
          have g1 : w2.frozen? ⟨w.heap.size, 1, none⟩ = false := B02.out.frozen 1
          go_wp2
          have CS : CStep w w2 g (m + 30) := HS2.out.mono (by omega)
          obtain ⟨z0, z1⟩ := two_res (B02.out) (.int .i64 d) (.int .i64 l)
          exact bodyPost_ret (v := .agg #[(.int .i64 d), (.int .i64 l)]) (by simp [results, Try.results78, go_sem, z0, z1]) rfl ⟨_, _, rfl, (CS.store hga (by simp) _).store hga (by simp) _⟩
end Go.Proofs.Ytlipkplomndjcaa
