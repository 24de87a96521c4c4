/- Texts of this claim, gathered: DrawT, DrawV, Rtp, Vp, HelpFault, Vs, Vi. -/
import Derived.Test.YtfbnmkpkihfocaaGreatK9
import Derived.Test.YtfbnmkpkihfocaaGreatProg
import Derived.Deep.RegionHeld3
namespace Go.Proofs.YtfbnmkpkihfocaaGreat
open Go.RowKit
set_option linter.unusedVariables false
set_option linter.unusedSimpArgs false
set_option maxRecDepth 100000
def lenOf : Value → Nat
  | .slice _ n _ => n
  | _ => 0
set_option maxHeartbeats 2000000 in
theorem test7_c (g m : Nat) (w : World) (h : CurAt w g m) (hm : m + 300 < 4611686018427387904) :
    Calls Tryz.prog 24 #[.pointer (some ⟨g, 0, none⟩)] w (DrawS w g (m + 300) 11) := by
  have HC := Lib.hid h
  have hga := h.lt
  obtain ⟨i, hi, hz0, hz1, hz2⟩ := info_parts info_int
  have HO := Lib.hid (row_start w w.heap.size (Nat.le_refl _))
  clear h
  go_enter Tryz.func24, Tryz.ntmps24
  go_wp2_with fail
  refine (amongL_c [3, 2, 4, 1, 6, 0, 10, 5] g m _ _ (by simp) (HC.out.alloc (.cells #[] 3)) (by omega) (by decide) (by decide)).mono ?_
  rintro e w1 ⟨x, rfl, hx, hs⟩
  have HS := Lib.hid ((((CStep.refl HC.out).alloc (.cells #[] 3)).trans hs))
  have ho := hs.row HO.out hga
  obtain ⟨x0, x1⟩ : 0 ≤ x ∧ x ≤ 10 := by
    simp only [List.mem_cons, List.not_mem_nil, or_false] at hx; omega
  obtain ⟨k, rfl⟩ := Int.eq_ofNat_of_zero_le x0
  have hk : k ≤ 10 := by omega
  clear hs hx x0 x1 HO
  go_wp2
  go_loopw [3, 4] (fun o j wr => ∃ (k : Nat) (xs : List Int), k ≤ 10 ∧ j = .int .i64 (k : Int) ∧ xs.length + k ≤ 10 ∧ wr.ownsRow w.heap.size 3 1 o xs.length (xs.map (Value.int .i64)) ∧ CStep w wr g (m + 2 + 20 * (10 - k))) (fun _ j _ => (intOf j).toNat)
  case atStart => exact ⟨k, [], hk, rfl, by simpa using hk, ho, HS.out.mono (by omega)⟩
  case round =>
    obtain ⟨k, xs, hk, rfl, hl, ho, hs⟩ := hrel
    have HS := Lib.hid hs
    have HO := Lib.hid ho
    clear hs ho
    by_cases hk0 : 0 < k
    · have hd : decide (0 < (k : Int)) = true := by simp; omega
      go_wp2_with fail
      refine (pick_c 10 g _ _ HS.out.cur (by omega)).mono ?_
      rintro e w2 ⟨x1, rfl, _, hs⟩
      have HS2 := Lib.hid (HS.out.trans hs)
      have HO2 := Lib.hid (hs.row HO.out hga)
      clear hs HS HO
      go_wp2_with fail
      refine (pick_c 10 g _ _ HS2.out.cur (by omega)).mono ?_
      rintro e w3 ⟨x2, rfl, _, hs⟩
      have HS3 := Lib.hid (HS2.out.trans hs)
      have HO3 := Lib.hid (hs.row HO2.out hga)
      clear hs HS2 HO2
      go_wp2_with fail
      refine (pick_c 10 g _ _ HS3.out.cur (by omega)).mono ?_
      rintro e w4 ⟨x3, rfl, _, hs⟩
      have HS4 := Lib.hid (HS3.out.trans hs)
      have HO4 := Lib.hid (hs.row HO3.out hga)
      clear hs HS3 HO3
      go_wp2_with fail
      refine (amongL_c [x1, 8, 1, 2, x2, x3] g _ _ _ rfl HS4.out.cur (by omega) (by simp) (by simp)).mono ?_
      rintro e w5 ⟨x, rfl, _, hs⟩
      have HS5 := Lib.hid (HS4.out.trans hs)
      have HO5 := Lib.hid (hs.row HO4.out hga)
      clear hs HS4 HO4
      go_wp2_with (at_builtin; refine wpList_append_own_at _ rfl _ _ 24 rfl w.heap.size 3 i (.int .i64 0) 1 8 Tryz.underlying24 hi hz0 hz1 hz2 rfl (by decide) _ xs.length (xs.map (Value.int .i64)) rfl (HO5.out.alloc _) ⟨w5.heap.size, 0, none⟩ 1 1 [.int .i64 x] rfl rfl (news_new _ [.int .i64 x] _) (by simp [Value.oneCell']) (by unfold maxLen; omega) (by omega) (by have := HS5.out.gr.size; simp; omega) ?_)
      intro v' w6 ho5 hg5 _ _
      have HS6 := Lib.hid ((HS5.out.alloc _).grown hg5 hga (fun k hk => ((HO5.out.alloc (.cells #[.int .i64 x] 3)).lt k hk).1))
      have HO6 := Lib.hid ho5
      clear ho5 hg5
      go_wp2
      go_roundw
      case rel => exact ⟨k - 1, xs ++ [x], by omega, by go_num, by simp; omega, ownsRow_cast HO6.out (by simp) (ints_snoc _ _).symm, HS6.out.mono (by omega)⟩
      case measure => simp [intOf]; omega
    · obtain rfl : k = 0 := by omega
      clear hk0
      go_wp2_with fail
      refine (pick_c 40 g _ _ HS.out.cur (by omega)).mono ?_
      rintro e w2 ⟨x, rfl, _, hs⟩
      have HS2 := Lib.hid (HS.out.trans hs)
      have HO2 := Lib.hid (hs.row HO.out hga)
      clear hs HS HO
      by_cases e0 : x = 0
      · subst e0
        go_wp2_with fail
        refine (amongL_c [10, -1, 4611686018427387904] g _ _ _ rfl HS2.out.cur (by omega) (by decide) (by decide)).mono ?_
        rintro e w3 ⟨y, rfl, _, hs⟩
        have HS3 := Lib.hid (HS2.out.trans hs)
        have HO3 := Lib.hid (hs.row HO2.out hga)
        clear hs HS2 HO2
        go_wp2_with (at_builtin; refine wpList_append_own_at _ rfl _ _ 24 rfl w.heap.size 3 i (.int .i64 0) 1 8 Tryz.underlying24 hi hz0 hz1 hz2 rfl (by decide) _ xs.length (xs.map (Value.int .i64)) rfl (HO3.out.alloc _) ⟨w3.heap.size, 0, none⟩ 1 1 [.int .i64 y] rfl rfl (news_new _ [.int .i64 y] _) (by simp [Value.oneCell']) (by unfold maxLen; omega) (by omega) (by have := HS3.out.gr.size; simp; omega) ?_)
        intro v' w6 ho5 hg5 _ _
        have HS6 := Lib.hid ((HS3.out.alloc _).grown hg5 hga (fun k hk => ((HO3.out.alloc (.cells #[.int .i64 y] 3)).lt k hk).1))
        have HO6 := Lib.hid ho5
        clear ho5 hg5
        go_wp2
        go_ret
        exact ⟨_, xs ++ [y], rfl, by simp; omega, ownsRow_cast HO6.out (by simp) (ints_snoc _ _).symm, HS6.out.mono (by omega)⟩
      · by_cases e1 : x = 1
        · subst e1
          go_wp2
          go_loopw [3] (fun o wr => ∃ (xs : List Int), xs.length ≤ 11 ∧ wr.ownsRow w.heap.size 3 1 o xs.length (xs.map (Value.int .i64)) ∧ CStep w wr g (m + 2 + 20 * (10 - 0) + 2)) (fun o _ => 11 - lenOf o)
          case atStart => exact ⟨xs, by omega, HO2.out, HS2.out⟩
          case round =>
            obtain ⟨xs, hl, ho, hs⟩ := hrel
            obtain ⟨aa, cc, hvv, _, _, _⟩ := (Ints.of_own ho).parts
            subst hvv
            have HS3 := Lib.hid hs
            have HO3 := Lib.hid ho
            clear hs ho HS2 HO2
            by_cases hlt : xs.length < 11
            · have hd : decide ((xs.length : Int) < 11) = true := by simp; omega
              go_wp2_with (at_builtin; refine wpList_append_own_at _ rfl _ _ 24 rfl w.heap.size 3 i (.int .i64 0) 1 8 Tryz.underlying24 hi hz0 hz1 hz2 rfl (by decide) _ xs.length (xs.map (Value.int .i64)) rfl (HO3.out.alloc _) ⟨wr.heap.size, 0, none⟩ 1 1 [.int .i64 8] rfl rfl (news_new _ [.int .i64 8] _) (by simp [Value.oneCell']) (by unfold maxLen; omega) (by omega) (by have := HS3.out.gr.size; simp; omega) ?_)
              intro v' w6 ho5 hg5 _ _
              have HS6 := Lib.hid ((HS3.out.alloc _).grown hg5 hga (fun k hk => ((HO3.out.alloc (.cells #[.int .i64 8] 3)).lt k hk).1))
              obtain ⟨b, cap, rfl, _⟩ := own_form ho5 (by omega)
              have HO6 := Lib.hid ho5
              clear ho5 hg5
              go_wp2
              go_roundw
              case rel => exact ⟨xs ++ [8], by simp; omega, ownsRow_cast HO6.out (by simp) (ints_snoc _ _).symm, HS6.out⟩
              case measure => simp [lenOf]; omega
            · have hd : decide ((xs.length : Int) < 11) = false := by simp; omega
              go_wp2
              go_ret
              exact ⟨_, xs, rfl, hl, HO3.out, HS3.out.mono (by omega)⟩
        · go_wp2
          go_ret
          exact ⟨_, xs, rfl, by omega, HO2.out, HS2.out.mono (by omega)⟩
theorem ints_take {w : World} {a : Option Addr} {c : Nat} {xs : List Int} (h : Ints w (.slice a xs.length c) xs) (n : Nat) (hn : n ≤ xs.length) : Ints w (.slice a n c) (xs.take n) := by
  obtain ⟨a', c', e, h1, h2, h3, h4⟩ := h
  cases e
  have hl : (xs.take n).length = n := by rw [List.length_take]; omega
  refine ⟨a, c, by rw [hl], by rw [hl]; omega, h2, by rw [List.length_map, Nat.mul_one], fun hn0 => ?_⟩
  rw [hl] at hn0 ⊢
  obtain ⟨b, off, e, hc⟩ := h4 (by omega)
  refine ⟨b, off, e, fun j hj => ?_⟩
  rw [hc j (by omega), List.map_take, List.getElem?_take, if_pos (by omega)]
/-- one of the first numbers of those that are written where they are asked for, a few more now and then -/
theorem amongT_c (xs : List Int) (n : Nat) (b g m : Nat) (w : World) (h : CurAt w g m) (hm : m + 2 < 4611686018427387904) (hv : Ints w (.slice (some ⟨b, 0, none⟩) xs.length xs.length) xs) (hne : b ≠ g) (hn0 : 0 < n) (hn : n ≤ xs.length) :
    Calls Tryz.prog 61 #[.pointer (some ⟨g, 0, none⟩), .slice (some ⟨b, 0, none⟩) n xs.length] w (DrawI w g (m + 2) fun x => x ∈ xs) :=
  (among_c _ (xs.take n) g m _ h hm (ints_take hv n hn) (by simpa [Value.ownBlock] using hne) (by rw [List.length_take]; omega)).mono fun e w' ⟨x, he, hx, hs⟩ => ⟨x, he, List.mem_of_mem_take hx, hs⟩
theorem div11 {x : Int} (h0 : 0 ≤ x) (h1 : x < 24) : Int.tdiv x 11 = 0 ∨ Int.tdiv x 11 = 1 ∨ Int.tdiv x 11 = 2 := by
  rw [Int.tdiv_eq_ediv_of_nonneg h0]; omega
end Go.Proofs.YtfbnmkpkihfocaaGreat
namespace Go.Proofs.YtfbnmkpkihfocaaGreat
open Go.RowKit
set_option linter.unusedVariables false
set_option linter.unusedSimpArgs false
set_option maxRecDepth 100000
theorem own_block_ne' {w : World} {lo g : Nat} {e : TypeId} {size n : Nat} {v : Value} {xs : List Value} (h : w.ownsRow lo e size v n xs) (hg : g < lo) : v.ownBlock ≠ some g := by
  rcases h.2 with ⟨rfl, _⟩ | ⟨k, cap, cur, rfl, hb, _⟩
  · simp [Value.ownBlock]
  · simp [Value.ownBlock]; omega
set_option maxHeartbeats 1000000 in
theorem state7_c (g m : Nat) (w : World) (h : CurAt w g m) (hm : m + 10 < 4611686018427387904) :
    Calls Tryz.prog 25 #[.pointer (some ⟨g, 0, none⟩)] w (DrawF w g (m + 10)) := by
  have hga := h.lt
  have B0 := Lib.hid (Bk.new w 31 #[.int .i64 0, .int .i64 0])
  have HC := Lib.hid ((CStep.refl h).alloc (.cells #[.int .i64 0, .int .i64 0] 31))
  clear h
  go_enter Tryz.func25, Tryz.ntmps25
  go_wp2_with fail
  refine (one_c 30 g m _ HC.out.cur (by omega)).mono ?_
  rintro e w1 ⟨b, rfl, hs⟩
  have HS := Lib.hid (HC.out.trans hs)
  have B1 := Lib.hid (B0.out.step hs (by omega))
  clear hs HC B0
  cases b with
  | true =>
    go_wp2_with fail
    refine (amongL_c [7, -1, 1] g _ _ _ rfl HS.out.cur (by omega) (by decide) (by decide)).mono ?_
    rintro e w2 ⟨x, rfl, _, hs⟩
    have HS2 := Lib.hid (HS.out.trans hs)
    have B2 := Lib.hid (B1.out.step hs (by omega))
    clear hs
    go_wp2_with fail
    refine (amongL_c [0, 3, -1, 1] g _ _ _ rfl HS2.out.cur (by omega) (by decide) (by decide)).mono ?_
    rintro e w3 ⟨y, rfl, _, hs⟩
    have HS3 := Lib.hid (HS2.out.trans hs)
    have B3 := Lib.hid (B2.out.step hs (by omega))
    obtain ⟨q0, q1, f0, f1⟩ := B3.out.two'
    clear hs
    go_wp2
    obtain ⟨z0, z1⟩ := two_res B3.out (.int .i64 x) (.int .i64 y)
    exact bodyPost_ret (v := .agg #[.int .i64 x, .int .i64 y]) (by simp [results, Tryz.results25, go_sem, z0, z1]) rfl ⟨x, y, rfl, ((HS3.out.store hga (p := ⟨w.heap.size, 0, none⟩) (Nat.le_refl _) _).store hga (p := ⟨w.heap.size, 1, none⟩) (Nat.le_refl _) _).mono (by omega)⟩
  | false =>
    go_wp2_with fail
    refine (l7All_c _).mono ?_
    rintro e w2 ⟨v, rfl, ho, hb⟩
    have HS2 := Lib.hid (HS.out.below hb)
    have B2 := Lib.hid (B1.out.below hb)
    have HO := Lib.hid ho
    have hgs := Lib.hid (show g < w1.heap.size from HS.out.cur.lt)
    obtain ⟨bb, cap, rfl, _, _, _, _⟩ := own_form ho (by decide)
    have hl15 : allSt.length = 15 := by decide
    clear ho hb
    go_wp2_with fail
    refine (pick_c 15 g _ _ HS2.out.cur (by omega)).mono ?_
    rintro e w3 ⟨x, rfl, hx, hs⟩
    have HS3 := Lib.hid (HS2.out.trans hs)
    have B3 := Lib.hid (B2.out.step hs (by omega))
    have HP := Lib.hid (Pairs.of_own (hs.row HO.out hgs.out))
    obtain ⟨q0, q1, f0, f1⟩ := B3.out.two'
    obtain ⟨k, rfl⟩ := Int.eq_ofNat_of_zero_le hx.1
    have hk : k < allSt.length := by have := hx.2 (by omega); rw [hl15]; omega
    have hk15 : k < 15 := by omega
    have hki : (k : Int) < 15 := by omega
    clear hs hx
    obtain ⟨s, hsx⟩ := elem_at hk
    obtain ⟨a2, c2, e2, _, _, HPp⟩ := HP.out.parts
    cases e2
    obtain ⟨b3, o3, e3, g0, g1⟩ := HPp.out k s hsx.out
    cases e3
    simp only [Nat.zero_add] at g0 g1
    clear HPp
    go_wp2
    obtain ⟨z0, z1⟩ := two_res B3.out (.int .i64 s.1) (.int .i64 s.2)
    exact bodyPost_ret (v := .agg #[.int .i64 s.1, .int .i64 s.2]) (by simp [results, Tryz.results25, go_sem, z0, z1]) rfl ⟨s.1, s.2, rfl, ((HS3.out.store hga (p := ⟨w.heap.size, 0, none⟩) (Nat.le_refl _) _).store hga (p := ⟨w.heap.size, 1, none⟩) (Nat.le_refl _) _).mono (by omega)⟩
def fsD (bar kind : Int) : Int := if stateB bar kind then stD bar kind else 0
def fsK (bar kind : Int) : Int := if stateB bar kind then stL bar kind else 0
def fsV (bar kind : Int) : Value := .tuple #[.agg #[.int .i64 (fsD bar kind), .int .i64 (fsK bar kind)], .bool (stateB bar kind)]
theorem FaultOfState_c (bar kind : Int) (w : World) : Calls Tryz.prog 19 #[.agg #[.int .i64 bar, .int .i64 kind]] w fun e w' => e = .returned (fsV bar kind) ∧ Below w.heap.size w w' := by
  have B1 := Lib.hid (Bk.new (w.alloc (.cells #[.int .i64 bar, .int .i64 kind] 31)) 44 #[.int .i64 0, .int .i64 0])
  rw [World.size_alloc] at B1
  have B0 := Lib.hid ((Bk.new w 31 #[.int .i64 bar, .int .i64 kind]).alloc (.cells #[.int .i64 0, .int .i64 0] 44))
  have hb0 : Hid (Below w.heap.size w ((w.alloc (.cells #[.int .i64 bar, .int .i64 kind] 31)).alloc (.cells #[.int .i64 0, .int .i64 0] 44))) := Below.alc (below_one _) _
  rcases hq : stateB bar kind with _ | _
  · have HF := Lib.hid (show fsV bar kind = .tuple #[.agg #[.int .i64 0, .int .i64 0], .bool false] by simp [fsV, fsD, fsK, hq])
    have HQ := Lib.hid hq; clear hq
    go_enter Tryz.func19, Tryz.ntmps19
    go_wp2_with fail
    refine (IsState_c bar kind _).mono ?_
    rintro e w1 ⟨rfl, hb1⟩
    rw [HQ.out]
    have C1 := Lib.hid (B1.out.below hb1)
    have hb := Lib.hid (hb0.out.trans (hb1.mono hb0.out.size))
    obtain ⟨q0, q1, f0, f1⟩ := C1.out.two'
    clear hb1
    go_wp2
    obtain ⟨z0, z1⟩ := two_res C1.out (.int .i64 0) (.int .i64 0)
    exact bodyPost_ret (v := .tuple #[.agg #[.int .i64 0, .int .i64 0], .bool false]) (by simp [results, Tryz.results19, go_sem, z0, z1]) rfl ⟨by rw [HF.out], two_below' hb.out (by omega) _ _⟩
  · have HF := Lib.hid (show fsV bar kind = .tuple #[.agg #[.int .i64 (stD bar kind), .int .i64 (stL bar kind)], .bool true] by simp [fsV, fsD, fsK, hq])
    have HQ := Lib.hid hq; clear hq
    go_enter Tryz.func19, Tryz.ntmps19
    go_wp2_with fail
    refine (IsState_c bar kind _).mono ?_
    rintro e w1 ⟨rfl, hb1⟩
    rw [HQ.out]
    have C1 := Lib.hid (B1.out.below hb1)
    have C0 := Lib.hid (B0.out.below hb1)
    have hb := Lib.hid (hb0.out.trans (hb1.mono hb0.out.size))
    have p0 : w1.cell? ⟨w.heap.size, 0, none⟩ = some (.int .i64 bar) := C0.out.cell 0
    have p1 : w1.cell? ⟨w.heap.size, 1, none⟩ = some (.int .i64 kind) := C0.out.cell 1
    clear hb1
    go_wp2_with fail
    refine (Sfault_c bar kind HQ.out _).mono ?_
    rintro e w2 ⟨rfl, hb2⟩
    unfold faultV
    have D1 := Lib.hid (C1.out.below hb2)
    have hbb := Lib.hid (Below.chain hb.out hb2)
    obtain ⟨q0, q1, f0, f1⟩ := D1.out.two'
    clear hb2
    go_wp2
    obtain ⟨z0, z1⟩ := two_res D1.out (.int .i64 (stD bar kind)) (.int .i64 (stL bar kind))
    exact bodyPost_ret (v := .tuple #[.agg #[.int .i64 (stD bar kind), .int .i64 (stL bar kind)], .bool true]) (by simp [results, Tryz.results19, go_sem, z0, z1]) rfl ⟨by rw [HF.out], two_below' hbb.out (by omega) _ _⟩

theorem DrawQuietOrder_c (v : Value) (xs : List Nat) (w : World) (h : Code w v xs) :
    Calls Tryz.prog 12 #[v] w fun e w' => ∃ (u : Value) (ys : List Int), e = .returned u ∧ ys.length ≤ 11 ∧ Ints w' u ys ∧ Below w.heap.size w w' := by
  have HK := Lib.hid (cur_new h)
  obtain ⟨a, c, rfl, _⟩ := h
  go_enter Tryz.func12, Tryz.ntmps12
  go_wp2_with fail
  refine (test7_c w.heap.size 0 _ HK.out (by omega)).mono ?_
  rintro e w1 ⟨u, ys, rfl, hl, ho, hs⟩
  have HS := Lib.hid hs
  have HI := Lib.hid (Ints.of_own ho)
  have HNB := Lib.hid (own_block_ne' ho (show w.heap.size < _ by simp))
  obtain ⟨ua, uc, rfl, huc, _, _⟩ := HI.out.parts
  clear hs ho
  by_cases h5 : 5 < ys.length
  · have hd : decide (5 < (ys.length : Int)) = true := by simp; omega
    have hc5 : (5 : Int) ≤ (uc : Int) := by omega
    have hc6 : 5 ≤ uc := by omega
    have HT := Lib.hid (ints_take HI.out 5 (by omega))
    go_wp2_with fail
    refine (one_c 8 w.heap.size _ _ HS.out.cur (by omega)).mono ?_
    rintro e w2 ⟨b, rfl, hs⟩
    have HB := Lib.hid (draw_below (HS.out.trans hs))
    have hgr := hs.gr
    have HI2 : Hid (Ints w2 (.slice ua ys.length uc) ys) := HI.out.grown hgr (.inr HNB.out)
    have HT2 := Lib.hid (ints_take HI2.out 5 (by omega))
    clear hs hgr HT
    cases b with
    | true =>
      go_wp2
      go_ret
      exact ⟨_, ys, rfl, hl, HI2.out, HB.out⟩
    | false =>
      go_wp2
      go_ret
      exact ⟨_, ys.take 5, rfl, by rw [List.length_take]; omega, HT2.out, HB.out⟩
  · have hd : decide (5 < (ys.length : Int)) = false := by simp; omega
    go_wp2
    go_ret
    exact ⟨_, ys, rfl, hl, HI.out, draw_below HS.out⟩
theorem DrawFirstFinding_c (v : Value) (xs : List Nat) (w : World) (h : Code w v xs) :
    Calls Tryz.prog 8 #[v] w fun e w' => ∃ (u : Value) (ys : List Int) (d l : Int), e = .returned (.tuple #[u, .agg #[.int .i64 d, .int .i64 l]]) ∧ Ints w' u ys ∧ Below w.heap.size w w' := by
  have HK := Lib.hid (cur_new (h.below (below_one (.cells #[.int .i64 0, .int .i64 0] 31))))
  have B0 := Lib.hid ((Bk.new w 31 #[.int .i64 0, .int .i64 0]).alloc (.cells #[v, .int .i64 0, .int .u64 0] 55))
  obtain ⟨a, c, rfl, _⟩ := h
  rw [World.size_alloc] at HK
  go_enter Tryz.func8, Tryz.ntmps8
  go_wp2_with fail
  refine (test7_c (w.heap.size + 1) 0 _ HK.out (by omega)).mono ?_
  rintro e w1 ⟨u, ys, rfl, hl, ho, hs⟩
  have HS := Lib.hid hs
  have HO := Lib.hid ho
  have B1 := Lib.hid (B0.out.step hs (by omega))
  have hgl : w.heap.size + 1 < w1.heap.size := hs.cur.lt
  clear hs ho B0
  go_wp2_with fail
  refine (state7_c (w.heap.size + 1) _ _ HS.out.cur (by omega)).mono ?_
  rintro e w2 ⟨d, l, rfl, hs⟩
  have HS2 := Lib.hid (HS.out.trans hs)
  have HO2 := hs.row HO.out (by simp)
  have B2 := Lib.hid (B1.out.step hs (by omega))
  obtain ⟨q0, q1, f0, f1⟩ := B2.out.two'
  obtain ⟨z0, z1⟩ := two_res B2.out (.int .i64 d) (.int .i64 l)
  have hb : Below w.heap.size w w2 := ((Below.refl _ _).alloc (Nat.le_refl _) _).trans (((Below.refl _ _).alloc (by simp) _).trans (HS2.out.low (by omega) (by simp; omega)))
  have HB := Lib.hid (two_below' hb (Nat.le_refl _) (.int .i64 d) (.int .i64 l))
  have HI2 : Hid (Ints ((w2.setCell ⟨w.heap.size, 0, none⟩ (.int .i64 d)).setCell ⟨w.heap.size, 1, none⟩ (.int .i64 l)) u ys) := by
    refine Ints.of_own (lo := w.heap.size + 1) (e := 3) ?_
    have g1 : w2.grownBy ((w2.setCell ⟨w.heap.size, 0, none⟩ (.int .i64 d)).setCell ⟨w.heap.size, 1, none⟩ (.int .i64 l)) (some w.heap.size) :=
      ⟨rfl, rfl, rfl, by simp [World.setCell], fun k hk hne => by rw [Below.heap_setCell _ _ _ _ (fun e => hne (by rw [e])), Below.heap_setCell _ _ _ _ (fun e => hne (by rw [e]))]⟩
    exact (own_lo (lo' := w.heap.size + 1) HO2 (by simp)).kept g1 (Or.inr (own_block_ne' (own_lo (lo' := w.heap.size + 1) HO2 (by simp)) (by omega)))
  clear hs HO HO2 HS HS2 B1 hb
  go_wp2
  exact bodyPost_ret (v := .tuple #[u, .agg #[.int .i64 d, .int .i64 l]]) (by simp [results, Tryz.results8, go_sem, z0, z1]) rfl ⟨u, ys, d, l, rfl, HI2.out, HB.out⟩
set_option maxHeartbeats 4000000 in
theorem DrawReadStates_c (v : Value) (xs : List Nat) (w : World) (h : Code w v xs) :
    Calls Tryz.prog 5 #[v] w fun e w' => ∃ (u1 u2 : Value) (test cells : List Int), e = .returned (.tuple #[u1, u2]) ∧ Ints w' u1 test ∧ Ints w' u2 cells ∧ Below w.heap.size w w' := by
  obtain ⟨inf, hi, hz0, hz1, hz2⟩ := info_parts info_int
  have HK := Lib.hid (cur_new h)
  obtain ⟨a, c, rfl, _⟩ := h
  go_enter Tryz.func5, Tryz.ntmps5
  go_wp2_with fail
  refine (test7_c w.heap.size 0 _ HK.out (by omega)).mono ?_
  rintro e w1 ⟨u, ys, rfl, hl, ho, hs⟩
  have HS := Lib.hid hs
  have HO := Lib.hid ho
  have hgl : w.heap.size < w1.heap.size := hs.cur.lt
  have hlt1 := ho.lt
  obtain ⟨ua, uc, rfl, huc, hucm, _⟩ := (Ints.of_own ho).parts
  clear hs ho
  go_wp2_with fail
  refine (state7_c w.heap.size _ _ HS.out.cur (by omega)).mono ?_
  rintro e w2 ⟨d, l, rfl, hs⟩
  have HS2 := Lib.hid (((HS.out.trans hs).alloc (.cells #[] 3)).alloc (.cells #[.int .i64 d, .int .i64 l] 31))
  have HO2 := Lib.hid (((hs.row HO.out (by simp)).alloc (.cells #[] 3)).alloc (.cells #[.int .i64 d, .int .i64 l] 31))
  have P2 := Lib.hid ((row_start w2 w2.heap.size (Nat.le_refl _)).alloc (.cells #[.int .i64 d, .int .i64 l] 31))
  have B2 := Lib.hid (Bk.new (w2.alloc (.cells #[] 3)) 31 #[.int .i64 d, .int .i64 l])
  have hgl2 : w.heap.size < w2.heap.size := Nat.lt_of_lt_of_le hgl hs.gr.size
  have HTB : Hid (∀ g, (Value.slice ua ys.length uc).ownBlock = some g → g < w2.heap.size) := fun g hg => Nat.lt_of_lt_of_le (hlt1 g hg).2 hs.gr.size
  rw [World.size_alloc] at B2
  clear hs HS HO hlt1
  go_wp2
  go_loopw [7, 8] (fun o j wr => ∃ (k : Nat) (cs : List Int), k ≤ ys.length ∧ j = .int .i64 (k : Int) ∧ cs.length = k ∧ Hid (wr.ownsRow w2.heap.size 3 1 o cs.length (cs.map (Value.int .i64))) ∧ Hid (wr.ownsRow (w.heap.size + 1) 3 1 (.slice ua ys.length uc) ys.length (ys.map (Value.int .i64))) ∧ Hid (Bk wr (w2.heap.size + 1) 31 #[.int .i64 d, .int .i64 l]) ∧ Hid (o.ownBlock ≠ some (w2.heap.size + 1)) ∧ Hid (CStep (w.alloc (.cells #[.slice a xs.length c, .int .i64 0, .int .u64 0] 55)) wr w.heap.size (400 + 20 * k))) (fun _ j _ => ys.length - (intOf j).toNat)
  case atStart => exact ⟨0, [], by omega, rfl, rfl, P2, own_lo HO2.out (by simp), B2, (by show _ ≠ _; simp [Value.ownBlock]), HS2.out.mono (by omega)⟩
  case round =>
    obtain ⟨k, cs, hk, rfl, hcl, PP, OO, BB, NB, SS⟩ := hrel
    by_cases hlt : k < ys.length
    · have hdk : decide ((k : Int) < (ys.length : Int)) = true := by simp; omega
      obtain ⟨x, hx⟩ := elem_at hlt
      go_wp2_with fail
      refine (cell_c w.heap.size _ _ SS.out.cur (by omega)).mono ?_
      rintro e w3 ⟨y, rfl, _, hs⟩
      have S3 := Lib.hid (SS.out.trans hs)
      have P3 := Lib.hid (hs.row PP.out (by omega))
      have O3 := Lib.hid (hs.row OO.out (by omega))
      have B3 := Lib.hid (BB.out.step hs (by omega))
      obtain ⟨_, _, he, _, _, H2⟩ := (Ints.of_own O3.out).parts
      cases he
      obtain ⟨b, off, rfl, f0⟩ := H2.out k x hx.out
      have HCL := Lib.hid hcl
      clear hs SS PP OO BB H2 hcl
      have HIN := Lib.hid (fun w => l1In_c x 0 9 w)
      rcases hq : inB x 0 9 with _ | _
      · rw [hq] at HIN
        as_aux_lemma =>
          go_wp2_with fail
          refine (HIN.out _).mono ?_
          rintro e _ ⟨rfl, rfl⟩
          have hlc := HCL.out
          go_wp2_with (at_builtin; refine wpList_append_own_at _ rfl _ _ 24 rfl w2.heap.size 3 inf (.int .i64 0) 1 8 Tryz.underlying24 hi hz0 hz1 hz2 rfl (by decide) _ cs.length (cs.map (Value.int .i64)) rfl (P3.out.alloc _) ⟨w3.heap.size, 0, none⟩ 1 1 [.int .i64 y] rfl rfl (news_new _ [.int .i64 y] _) (by simp [Value.oneCell']) (by unfold maxLen; omega) (by omega) (by have := B3.out.lt; simp at *; omega) ?_)
          intro v' w5 ho5 hg5 hat5 hat6
          have hlt5 := (P3.out.alloc (.cells #[.int .i64 y] 3)).lt
          have CS6 := Lib.hid ((S3.out.alloc (.cells #[.int .i64 y] 3)).grown hg5 (by simp) (fun q hq => by have := (hlt5 q hq).1; simp; omega))
          have O6 := Lib.hid ((O3.out.alloc (.cells #[.int .i64 y] 3)).kept hg5 (Or.inr (fun e => by have h1 := (hlt5 b e.symm).1; have h2 := HTB.out b rfl; omega)))
          have B6 := Lib.hid ((B3.out.alloc (.cells #[.int .i64 y] 3)).grown hg5 (fun e => NB.out e.symm))
          have P6 := Lib.hid ho5
          have hbl := B3.out.lt
          have N6 : Hid (v'.ownBlock ≠ some (w2.heap.size + 1)) := by
            show _ ≠ _
            rcases hat6 with h | h
            · rw [h]; exact NB.out
            · rw [h]; simp; omega
          clear ho5 hg5 hat5 hat6 hlt5
          go_wp2
          go_roundw
          case rel => exact ⟨k + 1, cs ++ [y], by omega, by go_num, by rw [List.length_append, HCL.out]; rfl, ownsRow_cast P6.out (by have h9 := HCL.out; simp only [List.length_append, List.length_cons, List.length_nil]; omega) (ints_snoc _ _).symm, O6, B6, N6, CS6.out.mono (by omega)⟩
          case measure => simp [intOf]; omega
      · rw [hq] at HIN
        obtain ⟨x0, x1⟩ := inB_true hq
        have HST := Lib.hid (fun w => l7State_c d l w)
        obtain ⟨q0, q1, _, _⟩ := B3.out.two'
        rcases hq2 : stateB d l with _ | _
        · rw [hq2] at HST
          as_aux_lemma =>
            go_wp2_with fail
            refine (HIN.out _).mono ?_
            rintro e _ ⟨rfl, rfl⟩
            go_wp2_with fail
            refine (HST.out _).mono ?_
            rintro e w4 ⟨rfl, hb4⟩
            have S4 := Lib.hid (S3.out.below hb4)
            have P4 := Lib.hid (own_keep P3.out hb4)
            have O4 := Lib.hid (own_keep O3.out hb4)
            have B4 := Lib.hid (B3.out.below hb4)
            clear hb4 S3 P3 O3 B3 q0 q1 f0
            have hlc := HCL.out
            go_wp2_with (at_builtin; refine wpList_append_own_at _ rfl _ _ 24 rfl w2.heap.size 3 inf (.int .i64 0) 1 8 Tryz.underlying24 hi hz0 hz1 hz2 rfl (by decide) _ cs.length (cs.map (Value.int .i64)) rfl (P4.out.alloc _) ⟨w4.heap.size, 0, none⟩ 1 1 [.int .i64 y] rfl rfl (news_new _ [.int .i64 y] _) (by simp [Value.oneCell']) (by unfold maxLen; omega) (by omega) (by have := B4.out.lt; simp at *; omega) ?_)
            intro v' w5 ho5 hg5 hat5 hat6
            have hlt5 := (P4.out.alloc (.cells #[.int .i64 y] 3)).lt
            have CS6 := Lib.hid ((S4.out.alloc (.cells #[.int .i64 y] 3)).grown hg5 (by simp) (fun q hq => by have := (hlt5 q hq).1; simp; omega))
            have O6 := Lib.hid ((O4.out.alloc (.cells #[.int .i64 y] 3)).kept hg5 (Or.inr (fun e => by have h1 := (hlt5 b e.symm).1; have h2 := HTB.out b rfl; omega)))
            have B6 := Lib.hid ((B4.out.alloc (.cells #[.int .i64 y] 3)).grown hg5 (fun e => NB.out e.symm))
            have P6 := Lib.hid ho5
            have hbl := B4.out.lt
            have N6 : Hid (v'.ownBlock ≠ some (w2.heap.size + 1)) := by
              show _ ≠ _
              rcases hat6 with h | h
              · rw [h]; exact NB.out
              · rw [h]; simp; omega
            clear ho5 hg5 hat5 hat6 hlt5
            go_wp2
            go_roundw
            case rel => exact ⟨k + 1, cs ++ [y], by omega, by go_num, by rw [List.length_append, HCL.out]; rfl, ownsRow_cast P6.out (by have h9 := HCL.out; simp only [List.length_append, List.length_cons, List.length_nil]; omega) (ints_snoc _ _).symm, O6, B6, N6, CS6.out.mono (by omega)⟩
            case measure => simp [intOf]; omega
        · rw [hq2] at HST
          as_aux_lemma =>
            go_wp2_with fail
            refine (HIN.out _).mono ?_
            rintro e _ ⟨rfl, rfl⟩
            go_wp2_with fail
            refine (HST.out _).mono ?_
            rintro e w4 ⟨rfl, hb4⟩
            have S4 := Lib.hid (S3.out.below hb4)
            have P4 := Lib.hid (own_keep P3.out hb4)
            have O4 := Lib.hid (own_keep O3.out hb4)
            have B4 := Lib.hid (B3.out.below hb4)
            have f4 := cell_later hb4 f0
            obtain ⟨q40, q41, _, _⟩ := B4.out.two'
            have bd := stDL_bd hq2
            have bdx := dg_bd x
            clear hb4 S3 P3 O3 B3 q0 q1 f0
            go_wp2
            go_region_held3 (fun w' => w'.cell? ⟨w2.heap.size + 1, 0, none⟩ = some (.int .i64 d) ∧ w'.cell? ⟨w2.heap.size + 1, 1, none⟩ = some (.int .i64 l) ∧ w'.cell? ⟨b, off + k, none⟩ = some (.int .i64 x))
              (first | go_keep | (go_split_ands; exact ⟨cell_later ‹_› ‹_›, cell_later ‹_› ‹_›, cell_later ‹_› ‹_›⟩))
              (first | (go_at_call 30; refine (l7Fault_c d l hq2 _).mono ?_; rintro e w6 ⟨rfl, hb6⟩; unfold faultV) | (go_at_call 31; refine (l2Digit_c x x0 x1 _).mono ?_; rintro e w7 ⟨rfl, hb7⟩) | (go_at_call 29; refine (l3Shown_c (stD d l) (stL d l) (dg x) bd.1 bd.2.1 bd.2.2.1 bd.2.2.2 bdx.1 bdx.2 _).mono ?_; rintro e w8 ⟨rfl, hb8⟩))
            go_split_ands
            have hb9 : Below w4.heap.size w4 w8 := Below.chain (Below.chain (Below.chain (Below.refl _ _).drew hb6) hb7) hb8
            have S8 := Lib.hid (S4.out.below hb9)
            have P8 := Lib.hid (own_keep P4.out hb9)
            have O8 := Lib.hid (own_keep O4.out hb9)
            have B8 := Lib.hid (B4.out.below hb9)
            clear hb6 hb7 hb8 hb9 S4 P4 O4 B4 q40 q41 f4
            generalize shC (stD d l) (stL d l) (dg x) = z at *
            have hlc := HCL.out
            go_wp2_with (at_builtin; refine wpList_append_own_at _ rfl _ _ 24 rfl w2.heap.size 3 inf (.int .i64 0) 1 8 Tryz.underlying24 hi hz0 hz1 hz2 rfl (by decide) _ cs.length (cs.map (Value.int .i64)) rfl (P8.out.alloc _) ⟨w8.heap.size, 0, none⟩ 1 1 [.int .i64 z] rfl rfl (news_new _ [.int .i64 z] _) (by simp [Value.oneCell']) (by unfold maxLen; omega) (by omega) (by have := B8.out.lt; simp at *; omega) ?_)
            intro v' w5 ho5 hg5 hat5 hat6
            have hlt5 := (P8.out.alloc (.cells #[.int .i64 z] 3)).lt
            have CS6 := Lib.hid ((S8.out.alloc (.cells #[.int .i64 z] 3)).grown hg5 (by simp) (fun q hq => by have := (hlt5 q hq).1; simp; omega))
            have O6 := Lib.hid ((O8.out.alloc (.cells #[.int .i64 z] 3)).kept hg5 (Or.inr (fun e => by have h1 := (hlt5 b e.symm).1; have h2 := HTB.out b rfl; omega)))
            have B6 := Lib.hid ((B8.out.alloc (.cells #[.int .i64 z] 3)).grown hg5 (fun e => NB.out e.symm))
            have P6 := Lib.hid ho5
            have hbl := B8.out.lt
            have N6 : Hid (v'.ownBlock ≠ some (w2.heap.size + 1)) := by
              show _ ≠ _
              rcases hat6 with h | h
              · rw [h]; exact NB.out
              · rw [h]; simp; omega
            clear ho5 hg5 hat5 hat6 hlt5
            go_wp2
            go_roundw
            case rel => exact ⟨k + 1, cs ++ [z], by omega, by go_num, by rw [List.length_append, HCL.out]; rfl, ownsRow_cast P6.out (by have h9 := HCL.out; simp only [List.length_append, List.length_cons, List.length_nil]; omega) (ints_snoc _ _).symm, O6, B6, N6, CS6.out.mono (by omega)⟩
            case measure => simp [intOf]; omega
    · obtain rfl : k = ys.length := by omega
      have hdk : decide ((ys.length : Int) < (ys.length : Int)) = false := by simp
      clear hlt
      go_wp2_with fail
      refine (pick_c 20 w.heap.size _ _ SS.out.cur (by omega)).mono ?_
      rintro e w3 ⟨y, rfl, _, hs⟩
      have S3 := Lib.hid (SS.out.trans hs)
      have P3 := Lib.hid (hs.row PP.out (by omega))
      have O3 := Lib.hid (hs.row OO.out (by omega))
      have B3 := Lib.hid (BB.out.step hs (by omega))
      have HI3 := Lib.hid (Ints.of_own O3.out)
      have hcl11 : cs.length ≤ 11 := by omega
      have h2b := B3.out.lt
      have HBD : Hid (∀ (W : World) (m : Nat), CStep (w.alloc (.cells #[.slice a xs.length c, .int .i64 0, .int .u64 0] 55)) W w.heap.size m → Below w.heap.size w W) := fun W m h => draw_below h
      clear hs SS PP OO BB hcl HO2 P2 B2 HS2
      rcases y0 : (y == 0) with _ | _
      rotate_left
      · obtain rfl : y = 0 := by simpa using y0
        clear y0
        as_aux_lemma =>
          go_wp2_with (at_builtin; refine wpList_append_own_at _ rfl _ _ 24 rfl w2.heap.size 3 inf (.int .i64 0) 1 8 Tryz.underlying24 hi hz0 hz1 hz2 rfl (by decide) _ cs.length (cs.map (Value.int .i64)) rfl (P3.out.alloc _) ⟨w3.heap.size, 0, none⟩ 1 1 [.int .i64 8] rfl rfl (news_new _ [.int .i64 8] _) (by simp [Value.oneCell']) (by unfold maxLen; omega) (by omega) (by simp; omega) ?_)
          intro v' w5 ho5 hg5 hat5 hat6
          have hlt5 := (P3.out.alloc (.cells #[.int .i64 8] 3)).lt
          have CS6 := Lib.hid ((S3.out.alloc (.cells #[.int .i64 8] 3)).grown hg5 (by simp) (fun q hq => by have := (hlt5 q hq).1; simp; omega))
          have HI6 : Hid (Ints w5 (.slice ua ys.length uc) ys) := by
            refine Ints.of_own (lo := w.heap.size + 1) (e := 3) ((O3.out.alloc (.cells #[.int .i64 8] 3)).kept hg5 ?_)
            cases ua with
            | none => left; rfl
            | some ad => right; intro e; have h1 := (hlt5 ad.block e.symm).1; have h2 := HTB.out ad.block rfl; omega
          have P6 := Lib.hid (Ints.of_own (xs := cs ++ [8]) (ownsRow_cast ho5 (by simp) (by simp)))
          have HB6 := Lib.hid (HBD.out _ _ CS6.out)
          clear ho5 hg5 hat5 hat6 hlt5
          go_wp2
          exact bodyPost_ret (v := .tuple #[_, _]) (by simp [results, Tryz.results5, go_sem]) rfl ⟨_, _, ys, cs ++ [8], rfl, HI6.out, P6.out, HB6.out⟩
      · have HBx := Lib.hid (HBD.out _ _ S3.out)
        have HP3 := Lib.hid (Ints.of_own P3.out)
        rcases y1 : (y == 1) with _ | _
        · as_aux_lemma =>
            go_wp2
            exact bodyPost_ret (v := .tuple #[_, _]) (by simp [results, Tryz.results5, go_sem]) rfl ⟨_, _, ys, cs, rfl, HI3.out, HP3.out, HBx.out⟩
        · obtain rfl : y = 1 := by simpa using y1
          clear y0 y1
          by_cases hz : cs.length = 0
          · obtain rfl : cs = [] := List.eq_nil_of_length_eq_zero hz
            simp only [List.length_nil] at *
            obtain ⟨pa, pc, rfl, _⟩ := (Sl.of_own P3.out).slice
            as_aux_lemma =>
              go_wp2
              exact bodyPost_ret (v := .tuple #[_, _]) (by simp [results, Tryz.results5, go_sem]) rfl ⟨_, _, ys, [], rfl, HI3.out, HP3.out, HBx.out⟩
          · have hpos : 0 < cs.length := by omega
            have hd0 : decide (0 < (cs.length : Int)) = true := by simp; omega
            obtain ⟨gq, cq, rfl, hq1, hq2, _⟩ := own_form P3.out hpos
            as_aux_lemma =>
              go_wp2_with fail
              refine (cell_c w.heap.size _ _ S3.out.cur (by omega)).mono ?_
              rintro e w4 ⟨z, rfl, _, hs⟩
              have S4 := Lib.hid (S3.out.trans hs)
              have P4 := Lib.hid (hs.row P3.out (by omega))
              have O4 := Lib.hid (hs.row O3.out (by omega))
              have st := P4.out.stored 0 (.int .i64 z)
              have fz := P4.out.frozenAt 0
              obtain ⟨c0, hc0⟩ : ∃ c0, cs[0]? = some c0 := ⟨_, List.getElem?_eq_getElem hpos⟩
              have cc : w4.cell? ⟨gq, 0, none⟩ = some (.int .i64 c0) := by
                rw [P4.out.cellAt 0 (by simp; omega), List.getElem?_map, hc0]; rfl
              have PI := Lib.hid (Ints.of_own (xs := cs.set 0 z) (ownsRow_cast st.1 (by simp) (by simp [List.map_set])))
              have HI6 : Hid (Ints (w4.setCell ⟨gq, 0, none⟩ (.int .i64 z)) (.slice ua ys.length uc) ys) := by
                refine Ints.of_own (lo := w.heap.size + 1) (e := 3) (O4.out.kept st.2 ?_)
                cases ua with
                | none => left; rfl
                | some ad => right; intro e; have h2 := HTB.out ad.block rfl; simp [Value.ownBlock] at e; omega
              have HB6 := Lib.hid (HBD.out _ _ (S4.out.store (by simp) (p := ⟨gq, 0, none⟩) (by simp; omega) (.int .i64 z)))
              have hpl : ((cs.length : Int) == 0) = false := by rw [beq_eq_false_iff_ne]; omega
              clear hs S4 P4 O4 st
              go_wp2
              exact bodyPost_ret (v := .tuple #[_, _]) (by simp [results, Tryz.results5, go_sem]) rfl ⟨_, _, ys, cs.set 0 z, rfl, HI6.out, PI.out, HB6.out⟩
end Go.Proofs.YtfbnmkpkihfocaaGreat
namespace Go.Proofs.YtfbnmkpkihfocaaGreat
open Go.RowKit
set_option linter.unusedVariables false
set_option linter.unusedSimpArgs false
set_option maxRecDepth 100000
theorem apart_all : ∀ s ∈ allSt, ∀ t ∈ allSt, s ≠ t → ∀ x : Fin 10, shC (stD s.1 s.2) (stL s.1 s.2) (dg (x.1 : Int)) = shC (stD t.1 t.2) (stL t.1 t.2) (dg (x.1 : Int)) → finds s.1 s.2 (x.1 : Int) = false ∧ finds t.1 t.2 (x.1 : Int) = false := by decide +kernel
theorem good_one : ∀ s ∈ allSt, ∀ t ∈ allSt, s.2 = 0 → t.2 = 0 → s = t := by decide +kernel
theorem allSt_st : ∀ s ∈ allSt, stateB s.1 s.2 = true ∧ faultB (stD s.1 s.2) (stL s.1 s.2) = true := by decide +kernel
theorem allSt_nodup : allSt.Nodup := by decide +kernel
theorem fits_at {d l : Int} {ds cs : List Int} (h : fitsB d l ds cs = true) {k : Nat} {x y : Int} (hx : ds[k]? = some x) (hy : cs[k]? = some y) : shC d l (dg x) = y := by
  rcases hq : (shC d l (dg x) == y) with _ | _
  · rw [fitsB_false hx hy hq] at h; cases h
  · simpa using hq
theorem readOk_parts {ds cs : List Int} (h : readOk ds cs = true) : testB ds = true ∧ cs.length = ds.length ∧ cs.all cellB = true := by
  unfold readOk at h
  simp only [Bool.and_eq_true, decide_eq_true_eq] at h
  exact h
theorem read_mem {ds cs : List Int} {s : Int × Int} (h : s ∈ readL ds cs) : s ∈ allSt ∧ fitsB (stD s.1 s.2) (stL s.1 s.2) ds cs = true := by
  unfold readL at h
  split at h
  · unfold readSt at h; rw [List.mem_filter] at h; exact h
  · cases h
/-- all that the law asks of a state that is read -/
theorem rt_state {ds cs : List Int} (ho : readOk ds cs = true) {s : Int × Int} (h : s ∈ readL ds cs) :
    fsV s.1 s.2 = .tuple #[.agg #[.int .i64 (stD s.1 s.2), .int .i64 (stL s.1 s.2)], .bool true] ∧
    ∀ (k : Nat) (x : Int), ds[k]? = some x → ∃ y, cs[k]? = some y ∧ coV x = .tuple #[.int .i64 (dg x), .bool true] ∧ scV (stD s.1 s.2) (stL s.1 s.2) (dg x) = .tuple #[.int .i64 y, .bool true] := by
  obtain ⟨hs, hf⟩ := read_mem h
  obtain ⟨h1, h2⟩ := allSt_st s hs
  obtain ⟨ht, hl, _⟩ := readOk_parts ho
  refine ⟨by unfold fsV fsD fsK; rw [h1]; rfl, fun k x hx => ?_⟩
  have hk := (List.getElem?_eq_some_iff.1 hx).1
  obtain ⟨y, hy⟩ : ∃ y, cs[k]? = some y := ⟨_, List.getElem?_eq_getElem (by omega)⟩
  have he := fits_at hf hx hy
  have hd : digitB x = true := by
    unfold testB at ht; simp only [Bool.and_eq_true, List.all_eq_true] at ht
    exact ht.2 x (List.mem_of_getElem? hx)
  have hb := dg_bd x
  refine ⟨y, hy, by unfold coV; rw [hd]; rfl, ?_⟩
  unfold scV scOk
  rw [h2, show cellB (dg x) = true from inB_mk hb.1 hb.2, he]; rfl
theorem rt_full {ds cs : List Int} (ho : readOk ds cs = true) (hf : fullB ds = true) : (readL ds cs).length ≤ 1 := by
  obtain ⟨ht, hl, _⟩ := readOk_parts ho
  match hq : readL ds cs with
  | [] => simp
  | [s] => simp
  | s :: t :: r =>
    exfalso
    have hs := read_mem (show s ∈ readL ds cs by rw [hq]; simp)
    have htt := read_mem (show t ∈ readL ds cs by rw [hq]; simp)
    have hnd : (readL ds cs).Nodup := by
      unfold readL; rw [if_pos ho]; unfold readSt
      exact allSt_nodup.sublist List.filter_sublist
    have hne : s ≠ t := by
      rw [hq] at hnd
      have := (List.nodup_cons.1 hnd).1
      intro e; exact this (by rw [e]; simp)
    have key : ∀ x ∈ ds, finds s.1 s.2 x = false ∧ finds t.1 t.2 x = false := fun x hx => by
      obtain ⟨k, hk⟩ := List.mem_iff_getElem?.1 hx
      have hk2 := (List.getElem?_eq_some_iff.1 hk).1
      obtain ⟨y, hy⟩ : ∃ y, cs[k]? = some y := ⟨_, List.getElem?_eq_getElem (by omega)⟩
      have e1 := fits_at hs.2 hk hy
      have e2 := fits_at htt.2 hk hy
      have hd : digitB x = true := by
        unfold testB at ht; simp only [Bool.and_eq_true, List.all_eq_true] at ht
        exact ht.2 x hx
      obtain ⟨x0, x1⟩ := digitB_true hd
      obtain ⟨n, rfl⟩ := Int.eq_ofNat_of_zero_le x0
      exact apart_all s hs.1 t htt.1 hne ⟨n, by omega⟩ (by rw [e1, e2])
    have hid : ∀ u : Int × Int, u ∈ allSt → u.2 ≠ 0 → (∀ x ∈ ds, finds u.1 u.2 x = false) → False := fun u hu h0 hx => by
      have hp : placeOf u.1 u.2 ds < 0 := by
        have : firstAt (finds u.1 u.2) ds = -1 := firstAt_none (k := ds.length) (Nat.le_refl _) (fun j x _ hj => hx x (List.mem_of_getElem? hj))
        unfold placeOf; rw [this]; decide
      have hm : u ∈ hiddenSt ds := by
        unfold hiddenSt
        rw [List.mem_filter]
        exact ⟨hu, by simp [h0, hp]⟩
      rw [fullB_hidden, decide_eq_true_eq, List.length_eq_zero_iff] at hf
      rw [hf] at hm; cases hm
    by_cases h0 : s.2 = 0
    · exact hid t htt.1 (fun e => hne (good_one s hs.1 t htt.1 h0 e)) (fun x hx => (key x hx).2)
    · exact hid s hs.1 h0 (fun x hx => (key x hx).1)
theorem perm_sum {s t : List Int} (h : s.Perm t) : s.sum = t.sum := by
  induction h with
  | nil => rfl
  | cons x _ ih => simp [ih]
  | swap x y l => simp; omega
  | trans _ _ h1 h2 => exact h1.trans h2
/-- all that the law asks of a quiet order -/
theorem rt_quiet {xs : List Int} (h : quOk xs = true) : testB xs = true ∧ testB (quL xs) = true ∧ quC xs = chL (quL xs) ∧ chL (quL xs) ≤ chL xs ∧ (quL xs).length = xs.length ∧ (quL xs).sum = xs.sum := by
  have h0 := h
  unfold quOk at h0
  simp only [Bool.and_eq_true, decide_eq_true_eq] at h0
  obtain ⟨a, r, hs⟩ := ordS_ne xs.length xs rfl
  obtain ⟨_, hB⟩ := quiet_same chL (srt_perm xs) (srt_pw xs) hs
  have hq : quL xs = r.foldl (keepS chL) a := by unfold quL bestS; rw [if_pos h, hs]
  rw [← hq] at hB
  have hp : (quL xs).Perm xs := (ordS_perm _ _ _ rfl).1 hB.1
  refine ⟨h0.1, ?_, by unfold quC; rw [if_pos h], ?_, hp.length_eq, perm_sum hp⟩
  · have ht := h0.1
    unfold testB at ht ⊢
    simp only [Bool.and_eq_true, decide_eq_true_eq, List.all_eq_true] at ht ⊢
    exact ⟨by rw [hp.length_eq]; exact ht.1, fun x hx => ht.2 x (hp.subset hx)⟩
  · rcases hB.2 xs ((ordS_perm _ _ _ rfl).2 (List.Perm.refl _)) with h1 | ⟨h1, _⟩ <;> omega
def smTo (xs : List Int) (k : Nat) : Int := (xs.take k).sum
theorem smTo_succ {xs : List Int} {k : Nat} {x : Int} (h : xs[k]? = some x) : smTo xs (k + 1) = smTo xs k + x := by
  unfold smTo; rw [take_snoc h]; simp
theorem smTo_bd {xs : List Int} (hd : ∀ x ∈ xs, 0 ≤ x ∧ x ≤ 9) : ∀ k, k ≤ xs.length → 0 ≤ smTo xs k ∧ smTo xs k ≤ 9 * k
  | 0, _ => by simp [smTo]
  | k + 1, hk => by
    have ih := smTo_bd hd k (by omega)
    have hx : xs[k]? = some (xs[k]'(by omega)) := List.getElem?_eq_getElem (by omega)
    rw [smTo_succ hx]
    have := hd _ (List.getElem_mem (show k < xs.length by omega))
    omega
theorem vSum_c (v : Value) (xs : List Int) (w : World) (hv : Ints w v xs) (hd : ∀ x ∈ xs, 0 ≤ x ∧ x ≤ 9) (hn : xs.length ≤ 10) :
    Calls Tryz.prog 23 #[v] w fun e w' => e = .returned (.int .i64 xs.sum) ∧ w = w' := by
  have HS : Hid (smTo xs xs.length = xs.sum) := by show _ = _; unfold smTo; rw [List.take_length]
  have HD := Lib.hid (smTo_bd hd)
  obtain ⟨a, c, rfl, _, _, HC⟩ := hv.parts
  clear hv hd
  go_enter Tryz.func23, Tryz.ntmps23
  go_wp2
  go_loopw [3, 4] (fun s j wr => ∃ k : Nat, k ≤ xs.length ∧ j = .int .i64 (k : Int) ∧ s = .int .i64 (smTo xs k) ∧ w = wr) (fun _ j _ => xs.length - (intOf j).toNat)
  case atStart => exact ⟨0, by omega, rfl, rfl, rfl⟩
  case round =>
    obtain ⟨k, hk, rfl, rfl, rfl⟩ := hrel
    by_cases hlt : k < xs.length
    · have hdd : decide ((k : Int) < (xs.length : Int)) = true := by simp; omega
      obtain ⟨x, hx⟩ := elem_at hlt
      obtain ⟨b, off, rfl, f0⟩ := HC.out k x hx.out
      have hb1 := HD.out k hk
      have hb2 := HD.out (k + 1) (by omega)
      have HX := Lib.hid (smTo_succ hx.out)
      rw [HX.out] at hb2
      generalize smTo xs k = s at *
      have hw : IntKind.i64.wrap (s + x) = s + x := IntWalk.i64_in _ (by omega)
      go_wp2
      go_roundw
      case rel => exact ⟨k + 1, by omega, by go_num, by rw [HX.out], trivial⟩
      case measure => simp [intOf]; omega
    · obtain rfl : k = xs.length := by omega
      have hdd : decide ((xs.length : Int) < (xs.length : Int)) = false := by simp
      go_wp2
      go_ret
      exact ⟨by rw [HS.out]; rfl, rfl⟩
end Go.Proofs.YtfbnmkpkihfocaaGreat
namespace Go.Proofs.YtfbnmkpkihfocaaGreat
open Go.RowKit
set_option linter.unusedVariables false
set_option linter.unusedSimpArgs false
set_option maxRecDepth 100000
theorem vStatesSame_c (v1 v2 : Value) (xs : List (Int × Int)) (w : World) (h1 : Pairs w v1 xs) (h2 : Pairs w v2 xs) :
    Calls Tryz.prog 17 #[v1, v2] w fun e w' => e = .returned (.bool true) ∧ Below w.heap.size w w' := by
  have hm1 := h1.le
  obtain ⟨a1, c1, rfl, _, _, H1⟩ := h1.parts
  obtain ⟨a2, c2, rfl, _, _, H2⟩ := h2.parts
  have hlb : ((xs.length : Int) != (xs.length : Int)) = false := by simp
  go_enter Tryz.func17, Tryz.ntmps17
  go_wp2
  go_loopw [5] (fun i wr => ∃ k : Nat, k ≤ xs.length ∧ i = .int .i64 k ∧ Below w.heap.size w wr) (fun i _ => xs.length - (intOf i).toNat)
  case atStart => exact ⟨0, by omega, rfl, Below.refl _ _⟩
  case round =>
    obtain ⟨k, hk, rfl, hb⟩ := hrel
    by_cases hlt : k < xs.length
    · have hd : decide ((k : Int) < (xs.length : Int)) = true := by simp; omega
      obtain ⟨⟨x, x'⟩, hx⟩ := elem_at hlt
      obtain ⟨b1, o1, rfl, f1, f1'⟩ := H1.out k _ hx.out
      obtain ⟨b2, o2, rfl, f2, f2'⟩ := H2.out k _ hx.out
      have g1 := cell_later hb f1
      have g1' := cell_later hb f1'
      have g2 := cell_later hb f2
      have g2' := cell_later hb f2'
      clear h1 h2 f1 f1' f2 f2'
      go_wp2_with fail
      go_region
      go_wp2
      go_roundw
      case rel => exact ⟨k + 1, by omega, by go_num, hb.drew⟩
      case measure => simp [intOf]; omega
    · have hd : decide ((k : Int) < (xs.length : Int)) = false := by simp; omega
      go_wp2
      go_ret
      exact ⟨rfl, hb⟩
end Go.Proofs.YtfbnmkpkihfocaaGreat
namespace Go.Proofs.YtfbnmkpkihfocaaGreat
open Go.RowKit
set_option linter.unusedVariables false
set_option maxRecDepth 100000

end Go.Proofs.YtfbnmkpkihfocaaGreat
namespace Go.Proofs.YtfbnmkpkihfocaaGreat
open Go.RowKit
set_option linter.unusedVariables false
set_option maxRecDepth 100000
theorem vInts_c (v1 v2 : Value) (xs ys : List Int) (w : World) (h1 : Ints w v1 xs) (h2 : Ints w v2 ys) :
    Calls Tryz.prog 18 #[v1, v2] w fun e w' => e = .returned (.bool (decide (xs = ys))) ∧ Below w.heap.size w w' := by
  have hm1 := h1.le; have hm2 := h2.le
  obtain ⟨a1, c1, rfl, _, _, H1⟩ := h1.parts
  obtain ⟨a2, c2, rfl, _, _, H2⟩ := h2.parts
  by_cases hl : xs.length = ys.length
  · have hlb : ((xs.length : Int) != (ys.length : Int)) = false := by simp [hl]
    have HL := Lib.hid hl; clear hl
    go_enter Tryz.func18, Tryz.ntmps18
    go_wp2
    go_loopw [5] (fun i wr => ∃ k : Nat, k ≤ xs.length ∧ i = .int .i64 k ∧ Hid (∀ j, j < k → xs[j]? = ys[j]?) ∧ Hid (∃ n, wr = w.drewN n)) (fun i _ => xs.length - (intOf i).toNat)
    case atStart => exact ⟨0, by omega, rfl, fun j hj => by omega, ⟨0, rfl⟩⟩
    case round =>
      obtain ⟨k, hk, rfl, hsame, hw⟩ := hrel
      by_cases hlt : k < xs.length
      · have hlt2 : k < ys.length := by rw [← HL.out]; exact hlt
        obtain ⟨x, hx⟩ := elem_at hlt
        obtain ⟨y, hy⟩ := elem_at hlt2
        obtain ⟨b1, o1, rfl, g1⟩ := H1.out k x hx.out
        obtain ⟨b2, o2, rfl, g2⟩ := H2.out k y hy.out
        obtain ⟨n, rfl⟩ := hw.out
        clear h1 h2
        go_wp2
        go_quiet (fail)
        go_wp2
        · rename_i ht
          go_ret
          refine ⟨bool_ret ?_, below_drewN (below_drewN (Below.refl _ _))⟩
          symm; apply decide_eq_false; rintro rfl
          have := hx.out.symm.trans hy.out; simp at this ht; exact ht this
        · rename_i ht
          exact ⟨⟨k+1, by omega, by go_num, fun j hj => by
            by_cases hj2 : j < k
            · exact hsame.out j hj2
            · obtain rfl : j = k := by omega
              rw [hx.out, hy.out]; simp at ht; rw [ht], ⟨_, rfl⟩⟩, by simp [intOf]; omega⟩
      · obtain ⟨n, rfl⟩ := hw.out
        go_wp2
        go_ret
        refine ⟨bool_ret ?_, below_drewN (Below.refl _ _)⟩
        symm; apply decide_eq_true
        exact list_eq_of HL.out (by omega) hsame.out
  · have hlb : ((xs.length : Int) != (ys.length : Int)) = true := by simp; omega
    go_enter Tryz.func18, Tryz.ntmps18
    go_wp2
    go_ret
    refine ⟨bool_ret ?_, Below.refl _ _⟩
    symm; apply decide_eq_false; rintro rfl; exact hl rfl

end Go.Proofs.YtfbnmkpkihfocaaGreat
namespace Go.Proofs.YtfbnmkpkihfocaaGreat
open Go.RowKit
theorem vIntsSame_c (v1 v2 : Value) (xs : List Int) (w : World) (h1 : Ints w v1 xs) (h2 : Ints w v2 xs) :
    Calls Tryz.prog 18 #[v1, v2] w fun e w' => e = .returned (.bool true) ∧ Below w.heap.size w w' :=
  (vInts_c v1 v2 xs xs w h1 h2).mono fun e w' h => ⟨by rw [h.1, decide_eq_true rfl], h.2⟩
end Go.Proofs.YtfbnmkpkihfocaaGreat
