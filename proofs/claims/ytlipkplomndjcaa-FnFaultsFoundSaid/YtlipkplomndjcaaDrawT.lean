/- Walks of the checker's draws of tests: each gives some test, and turns nothing that was there. -/
import Derived.Test.YtlipkplomndjcaaDraw
import Derived.Test.YtlipkplomndjcaaCode
namespace Go.Proofs.Ytlipkplomndjcaa
open Go.RowKit
set_option linter.unusedVariables false
set_option linter.unusedSimpArgs false
set_option maxRecDepth 100000
def lenOf : Value → Nat
  | .slice _ n _ => n
  | _ => 0
set_option maxHeartbeats 2000000 in
theorem test7_c (g m : Nat) (w : World) (h : CurAt w g m) (hm : m + 300 < 4611686018427387904) :
    Calls Try.prog 142 #[.pointer (some ⟨g, 0, none⟩)] w (DrawS w g (m + 300) 11) := by
  have HC := Lib.hid h
  have hga := h.lt
  obtain ⟨i, hi, hz0, hz1, hz2⟩ := info_parts info_int
  have HO := Lib.hid (row_start w w.heap.size (Nat.le_refl _))
  clear h
  go_enter Try.func142, Try.ntmps142
  go_wp2_with fail
  refine (amongL_c [3, 2, 4, 1, 6, 0, 10, 5] g m _ _ (by simp) (HC.out.alloc (.cells #[] 3)) (by omega) (by decide) (by decide)).mono ?_
  rintro e w1 ⟨x, rfl, hx, hs⟩
  have HS := Lib.hid ((((CStep.refl HC.out).alloc (.cells #[] 3)).trans hs))
  have ho := hs.row HO.out hga
  obtain ⟨x0, x1⟩ : 0 ≤ x ∧ x ≤ 10 := by
    simp only [List.mem_cons, List.not_mem_nil, or_false] at hx; omega
  obtain ⟨k, rfl⟩ := Int.eq_ofNat_of_zero_le x0
  have hk : k ≤ 10 := by omega
  clear hs hx x0 x1 HO
  go_wp2
  go_loopw [3, 4] (fun o j wr => ∃ (k : Nat) (xs : List Int), k ≤ 10 ∧ j = .int .i64 (k : Int) ∧ xs.length + k ≤ 10 ∧ wr.ownsRow w.heap.size 3 1 o xs.length (xs.map (Value.int .i64)) ∧ CStep w wr g (m + 2 + 20 * (10 - k))) (fun _ j _ => (intOf j).toNat)
  case atStart => exact ⟨k, [], hk, rfl, by simpa using hk, ho, HS.out.mono (by omega)⟩
  case round =>
    obtain ⟨k, xs, hk, rfl, hl, ho, hs⟩ := hrel
    have HS := Lib.hid hs
    have HO := Lib.hid ho
    clear hs ho
    by_cases hk0 : 0 < k
    · have hd : decide (0 < (k : Int)) = true := by simp; omega
      go_wp2_with fail
      refine (pick_c 10 g _ _ HS.out.cur (by omega)).mono ?_
      rintro e w2 ⟨x1, rfl, _, hs⟩
      have HS2 := Lib.hid (HS.out.trans hs)
      have HO2 := Lib.hid (hs.row HO.out hga)
      clear hs HS HO
      go_wp2_with fail
      refine (pick_c 10 g _ _ HS2.out.cur (by omega)).mono ?_
      rintro e w3 ⟨x2, rfl, _, hs⟩
      have HS3 := Lib.hid (HS2.out.trans hs)
      have HO3 := Lib.hid (hs.row HO2.out hga)
      clear hs HS2 HO2
      go_wp2_with fail
      refine (pick_c 10 g _ _ HS3.out.cur (by omega)).mono ?_
      rintro e w4 ⟨x3, rfl, _, hs⟩
      have HS4 := Lib.hid (HS3.out.trans hs)
      have HO4 := Lib.hid (hs.row HO3.out hga)
      clear hs HS3 HO3
      go_wp2_with fail
      refine (amongL_c [x1, 8, 1, 2, x2, x3] g _ _ _ rfl HS4.out.cur (by omega) (by simp) (by simp)).mono ?_
      rintro e w5 ⟨x, rfl, _, hs⟩
      have HS5 := Lib.hid (HS4.out.trans hs)
      have HO5 := Lib.hid (hs.row HO4.out hga)
      clear hs HS4 HO4
      go_wp2_with (at_builtin; refine wpList_append_own_at _ rfl _ _ 24 rfl w.heap.size 3 i (.int .i64 0) 1 8 Try.underlying24 hi hz0 hz1 hz2 rfl (by decide) _ xs.length (xs.map (Value.int .i64)) rfl (HO5.out.alloc _) ⟨w5.heap.size, 0, none⟩ 1 1 [.int .i64 x] rfl rfl (news_new _ [.int .i64 x] _) (by simp [Value.oneCell']) (by unfold maxLen; omega) (by omega) (by have := HS5.out.gr.size; simp; omega) ?_)
      intro v' w6 ho5 hg5 _ _
      have HS6 := Lib.hid ((HS5.out.alloc _).grown hg5 hga (fun k hk => ((HO5.out.alloc (.cells #[.int .i64 x] 3)).lt k hk).1))
      have HO6 := Lib.hid ho5
      clear ho5 hg5
      go_wp2
      go_roundw
      case rel => exact ⟨k - 1, xs ++ [x], by omega, by go_num, by simp; omega, ownsRow_cast HO6.out (by simp) (ints_snoc _ _).symm, HS6.out.mono (by omega)⟩
      case measure => simp [intOf]; omega
    · obtain rfl : k = 0 := by omega
      clear hk0
      go_wp2_with fail
      refine (pick_c 40 g _ _ HS.out.cur (by omega)).mono ?_
      rintro e w2 ⟨x, rfl, _, hs⟩
      have HS2 := Lib.hid (HS.out.trans hs)
      have HO2 := Lib.hid (hs.row HO.out hga)
      clear hs HS HO
      by_cases e0 : x = 0
      · subst e0
        go_wp2_with fail
        refine (amongL_c [10, -1, 4611686018427387904] g _ _ _ rfl HS2.out.cur (by omega) (by decide) (by decide)).mono ?_
        rintro e w3 ⟨y, rfl, _, hs⟩
        have HS3 := Lib.hid (HS2.out.trans hs)
        have HO3 := Lib.hid (hs.row HO2.out hga)
        clear hs HS2 HO2
        go_wp2_with (at_builtin; refine wpList_append_own_at _ rfl _ _ 24 rfl w.heap.size 3 i (.int .i64 0) 1 8 Try.underlying24 hi hz0 hz1 hz2 rfl (by decide) _ xs.length (xs.map (Value.int .i64)) rfl (HO3.out.alloc _) ⟨w3.heap.size, 0, none⟩ 1 1 [.int .i64 y] rfl rfl (news_new _ [.int .i64 y] _) (by simp [Value.oneCell']) (by unfold maxLen; omega) (by omega) (by have := HS3.out.gr.size; simp; omega) ?_)
        intro v' w6 ho5 hg5 _ _
        have HS6 := Lib.hid ((HS3.out.alloc _).grown hg5 hga (fun k hk => ((HO3.out.alloc (.cells #[.int .i64 y] 3)).lt k hk).1))
        have HO6 := Lib.hid ho5
        clear ho5 hg5
        go_wp2
        go_ret
        exact ⟨_, xs ++ [y], rfl, by simp; omega, ownsRow_cast HO6.out (by simp) (ints_snoc _ _).symm, HS6.out.mono (by omega)⟩
      · by_cases e1 : x = 1
        · subst e1
          go_wp2
          go_loopw [3] (fun o wr => ∃ (xs : List Int), xs.length ≤ 11 ∧ wr.ownsRow w.heap.size 3 1 o xs.length (xs.map (Value.int .i64)) ∧ CStep w wr g (m + 2 + 20 * (10 - 0) + 2)) (fun o _ => 11 - lenOf o)
          case atStart => exact ⟨xs, by omega, HO2.out, HS2.out⟩
          case round =>
            obtain ⟨xs, hl, ho, hs⟩ := hrel
            obtain ⟨aa, cc, hvv, _, _, _⟩ := (Ints.of_own ho).parts
            subst hvv
            have HS3 := Lib.hid hs
            have HO3 := Lib.hid ho
            clear hs ho HS2 HO2
            by_cases hlt : xs.length < 11
            · have hd : decide ((xs.length : Int) < 11) = true := by simp; omega
              go_wp2_with (at_builtin; refine wpList_append_own_at _ rfl _ _ 24 rfl w.heap.size 3 i (.int .i64 0) 1 8 Try.underlying24 hi hz0 hz1 hz2 rfl (by decide) _ xs.length (xs.map (Value.int .i64)) rfl (HO3.out.alloc _) ⟨wr.heap.size, 0, none⟩ 1 1 [.int .i64 8] rfl rfl (news_new _ [.int .i64 8] _) (by simp [Value.oneCell']) (by unfold maxLen; omega) (by omega) (by have := HS3.out.gr.size; simp; omega) ?_)
              intro v' w6 ho5 hg5 _ _
              have HS6 := Lib.hid ((HS3.out.alloc _).grown hg5 hga (fun k hk => ((HO3.out.alloc (.cells #[.int .i64 8] 3)).lt k hk).1))
              obtain ⟨b, cap, rfl, _⟩ := own_form ho5 (by omega)
              have HO6 := Lib.hid ho5
              clear ho5 hg5
              go_wp2
              go_roundw
              case rel => exact ⟨xs ++ [8], by simp; omega, ownsRow_cast HO6.out (by simp) (ints_snoc _ _).symm, HS6.out⟩
              case measure => simp [lenOf]; omega
            · have hd : decide ((xs.length : Int) < 11) = false := by simp; omega
              go_wp2
              go_ret
              exact ⟨_, xs, rfl, hl, HO3.out, HS3.out.mono (by omega)⟩
        · go_wp2
          go_ret
          exact ⟨_, xs, rfl, by omega, HO2.out, HS2.out.mono (by omega)⟩
theorem DrawFoundStates_c (v : Value) (xs : List Nat) (w : World) (h : Code w v xs) :
    Calls Try.prog 76 #[v] w fun e w' => ∃ (u : Value) (ys : List Int), e = .returned u ∧ ys.length ≤ 11 ∧ w'.ownsRow w.heap.size 3 1 u ys.length (ys.map (Value.int .i64)) ∧ Below w.heap.size w w' := by
  have HK := Lib.hid (cur_new h)
  obtain ⟨a, c, rfl, _⟩ := h
  go_enter Try.func76, Try.ntmps76
  go_wp2_with fail
  refine (test7_c w.heap.size 0 _ HK.out (by omega)).mono ?_
  rintro e w1 ⟨u, ys, rfl, hl, ho, hs⟩
  have HS := Lib.hid hs
  have HO := Lib.hid (own_lo ho (lo' := w.heap.size) (by simp))
  clear hs ho
  go_wp2
  go_ret
  exact ⟨_, ys, rfl, hl, HO.out, draw_below HS.out⟩
theorem ints_take {w : World} {a : Option Addr} {c : Nat} {xs : List Int} (h : Ints w (.slice a xs.length c) xs) (n : Nat) (hn : n ≤ xs.length) : Ints w (.slice a n c) (xs.take n) := by
  obtain ⟨a', c', e, h1, h2, h3, h4⟩ := h
  cases e
  have hl : (xs.take n).length = n := by rw [List.length_take]; omega
  refine ⟨a, c, by rw [hl], by rw [hl]; omega, h2, by rw [List.length_map, Nat.mul_one], fun hn0 => ?_⟩
  rw [hl] at hn0 ⊢
  obtain ⟨b, off, e, hc⟩ := h4 (by omega)
  refine ⟨b, off, e, fun j hj => ?_⟩
  rw [hc j (by omega), List.map_take, List.getElem?_take, if_pos (by omega)]
/-- one of the first numbers of those that are written where they are asked for, a few more now and then -/
theorem amongT_c (xs : List Int) (n : Nat) (b g m : Nat) (w : World) (h : CurAt w g m) (hm : m + 2 < 4611686018427387904) (hv : Ints w (.slice (some ⟨b, 0, none⟩) xs.length xs.length) xs) (hne : b ≠ g) (hn0 : 0 < n) (hn : n ≤ xs.length) :
    Calls Try.prog 79 #[.pointer (some ⟨g, 0, none⟩), .slice (some ⟨b, 0, none⟩) n xs.length] w (DrawI w g (m + 2) fun x => x ∈ xs) :=
  (among_c _ (xs.take n) g m _ h hm (ints_take hv n hn) (by simpa [Value.ownBlock] using hne) (by rw [List.length_take]; omega)).mono fun e w' ⟨x, he, hx, hs⟩ => ⟨x, he, List.mem_of_mem_take hx, hs⟩
theorem div11 {x : Int} (h0 : 0 ≤ x) (h1 : x < 24) : Int.tdiv x 11 = 0 ∨ Int.tdiv x 11 = 1 ∨ Int.tdiv x 11 = 2 := by
  rw [Int.tdiv_eq_ediv_of_nonneg h0]; omega
theorem DrawCountFullTests_c (v : Value) (xs : List Nat) (w : World) (h : Code w v xs) :
    Calls Try.prog 72 #[v] w fun e w' => ∃ x : Int, e = .returned (.int .i64 x) ∧ Below w.heap.size w w' := by
  have HK := Lib.hid (cur_new h)
  obtain ⟨a, c, rfl, _⟩ := h
  have HI := Lib.hid (ints_lit (w.alloc (.cells #[.slice a xs.length c, .int .i64 0, .int .u64 0] 88)) [3, 2, 4, 10, 5, 0, 11, -1] (by decide))
  rw [World.size_alloc] at HI
  go_enter Try.func72, Try.ntmps72
  go_wp2_with fail
  refine (pick_c 24 w.heap.size 0 _ (HK.out.alloc _) (by omega)).mono ?_
  rintro e w1 ⟨x, rfl, hx, hs⟩
  have HS : Hid (CStep (w.alloc (.cells #[.slice a xs.length c, .int .i64 0, .int .u64 0] 88)) w1 w.heap.size 2) := ((CStep.refl HK.out).alloc _).trans hs
  have HI2 : Hid (Ints w1 (.slice (some ⟨w.heap.size + 1, 0, none⟩) 8 8) [3, 2, 4, 10, 5, 0, 11, -1]) := HI.out.grown hs.gr (.inr (by simp [Value.ownBlock]))
  have hx0 := hx.1
  have hx1 := hx.2 (by omega)
  clear hs hx
  rcases div11 hx0 hx1 with hq | hq | hq
  · go_wp2_with fail
    refine (amongT_c [3, 2, 4, 10, 5, 0, 11, -1] 6 (w.heap.size + 1) w.heap.size 2 _ HS.out.cur (by omega) HI2.out (by omega) (by decide) (by decide)).mono ?_
    rintro e w2 ⟨y, rfl, _, hs⟩
    have HS2 := Lib.hid (HS.out.trans hs)
    clear hs
    go_wp2
    go_ret
    exact ⟨_, rfl, draw_below HS2.out⟩
  · go_wp2_with fail
    refine (amongT_c [3, 2, 4, 10, 5, 0, 11, -1] 7 (w.heap.size + 1) w.heap.size 2 _ HS.out.cur (by omega) HI2.out (by omega) (by decide) (by decide)).mono ?_
    rintro e w2 ⟨y, rfl, _, hs⟩
    have HS2 := Lib.hid (HS.out.trans hs)
    clear hs
    go_wp2
    go_ret
    exact ⟨_, rfl, draw_below HS2.out⟩
  · go_wp2_with fail
    refine (amongT_c [3, 2, 4, 10, 5, 0, 11, -1] 8 (w.heap.size + 1) w.heap.size 2 _ HS.out.cur (by omega) HI2.out (by omega) (by decide) (by decide)).mono ?_
    rintro e w2 ⟨y, rfl, _, hs⟩
    have HS2 := Lib.hid (HS.out.trans hs)
    clear hs
    go_wp2
    go_ret
    exact ⟨_, rfl, draw_below HS2.out⟩
end Go.Proofs.Ytlipkplomndjcaa
