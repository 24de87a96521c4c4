/- Texts of this claim, gathered: Code, OpenY, Box, Bef, Qop, Ones, All. -/
import Derived.Test.YtfbnmkpkihfocaaGreatK1
import Derived.Laws.AppendOwnNone
namespace Go.Proofs.YtfbnmkpkihfocaaGreat
open Go.RowKit
set_option linter.unusedVariables false
set_option maxRecDepth 100000

/-- A slice of the bytes xs. -/
def Code (w : World) (v : Value) (xs : List Nat) : Prop :=
  ∃ a c, v = .slice a xs.length c ∧ xs.length ≤ c ∧ c ≤ 9223372036854775807 ∧ (a = none → c = 0) ∧ ∀ (k x : Nat), xs[k]? = some x → ∃ b off, a = some ⟨b, off, none⟩ ∧ x ≤ 255 ∧ w.cell? ⟨b, off + k, none⟩ = some (.int .u8 (x : Int))
theorem Code.keep {w w' : World} {v : Value} {xs : List Nat} (h : Code w v xs) (hk : ∀ b o x, w.cell? ⟨b, o, none⟩ = some x → w'.cell? ⟨b, o, none⟩ = some x) : Code w' v xs := by
  obtain ⟨a, c, rfl, h1, h2, h0, h3⟩ := h
  refine ⟨a, c, rfl, h1, h2, h0, fun k x hx => ?_⟩
  obtain ⟨b, off, e, hx, hc⟩ := h3 k x hx
  exact ⟨b, off, e, hx, hk _ _ _ hc⟩
theorem Code.below {w w' : World} {v : Value} {xs : List Nat} (h : Code w v xs) (hb : Below w.heap.size w w') : Code w' v xs := h.keep fun b o x hx => cell_later hb hx
theorem Code.bys {w : World} {v : Value} {xs : List Nat} (h : Code w v xs) : Bys w v w.heap.size := by
  obtain ⟨a, c, rfl, h1, h2, h0, h3⟩ := h
  refine ⟨a, c, xs, rfl, h1, h2, fun k x hx => ?_⟩
  obtain ⟨b, off, e, hx, hc⟩ := h3 k x hx
  exact ⟨b, off, e, World.block_lt_of_cell? _ _ hc, hx, hc⟩
theorem Code.own {w : World} {v : Value} {lo : Nat} {xs : List Nat} (h : w.ownsRow lo 5 1 v xs.length (xs.map fun (x : Nat) => Value.int .u8 (x : Int))) (h255 : ∀ x ∈ xs, x ≤ 255) : Code w v xs := by
  obtain ⟨h1, h2⟩ := h
  rcases h2 with ⟨rfl, h0⟩ | ⟨g, cap, cur, rfl, hb, hg, hn, hc, hs, ht⟩
  · have : xs = [] := List.eq_nil_of_length_eq_zero (by simpa using h0)
    subst this
    exact ⟨none, 0, rfl, by simp, by omega, fun _ => rfl, fun k x hx => by simp at hx⟩
  · refine ⟨_, _, rfl, hn, by unfold maxLen at hc; omega, fun e => (by cases e), fun k x hx => ⟨g, 0, rfl, h255 x (List.mem_of_getElem? hx), ?_⟩⟩
    have hlt := (List.getElem?_eq_some_iff.1 hx).1
    rw [Nat.zero_add, cell_of_row w g k cur 5 (0, 0) hg, ← Array.getElem?_toList]
    have h3 : (cur.toList.take (xs.length * 1))[k]? = some (Value.int .u8 (x : Int)) := by rw [ht, List.getElem?_map, hx]; rfl
    rw [List.getElem?_take, if_pos (by omega)] at h3
    exact h3
/-- the cursor that a draw makes -/
theorem cur_new {w : World} {v : Value} {xs : List Nat} (h : Code w v xs) : CurAt (w.alloc (.cells #[v, .int .i64 0, .int .u64 0] 55)) w.heap.size 0 := by
  have hb := Bk.new w 55 #[v, .int .i64 0, .int .u64 0]
  exact ⟨⟨v, hb.cell 0, h.bys.keep fun b o x hlt hx => cell_later (below_one _) hx⟩, ⟨0, Nat.le_refl _, hb.cell 1⟩, ⟨0, hb.cell 2⟩, hb.frozen 1, hb.frozen 2⟩
/-- behind a draw nothing that was there has been turned -/
theorem draw_below {w w' : World} {o : Obj} {m : Nat} (h : CStep (w.alloc o) w' w.heap.size m) : Below w.heap.size w w' := (below_one o).trans (h.low (Nat.le_refl _) (by simp))
theorem vBig_c (v : Value) (xs : List Nat) (w : World) (h : Code w v xs) : Calls Tryz.prog 4 #[v] w fun e w' => e = .returned (.bool (decide (65536 < xs.length))) ∧ w = w' := by
  obtain ⟨a, c, rfl, _⟩ := h
  go_enter Tryz.func4, Tryz.ntmps4
  go_wp2
  go_ret
  exact ⟨bool_ret (by rw [decide_eq_decide]; omega), rfl⟩
theorem info_u8 : (Tryz.prog.info? 5).map (fun i => (i.zero, i.size, i.bytes)) = some (some (.int .u8 0), 1, 1) := by kernel_rfl
theorem vCut_c (n : Nat) (v : Value) (xs : List Nat) (w : World) (h : Code w v xs) (hx : xs.length ≤ 1000000) (hn : n ≤ 100) : Calls Tryz.prog 9 #[v, .int .i64 (n : Int)] w fun e w' => ∃ v' ys, e = .returned v' ∧ Code w' v' ys ∧ ys.length ≤ xs.length + 1 ∧ Below w.heap.size w w' := by
  obtain ⟨i, hi, hz0, hz1, hz2⟩ := info_parts info_u8
  have HC := Lib.hid h
  obtain ⟨a, c, rfl, hc, hc2, h0, h3⟩ := h
  have H3 := Lib.hid h3
  have HO : Hid ((w.alloc (.cells #[] 5)).ownsRow w.heap.size 5 1 (.slice (some ⟨w.heap.size, 0, none⟩) 0 0) 0 []) := World.ownsRow_lit (e := 5) (size := 1) (base := w.heap.size) w #[] 0 (Nat.le_refl _) (by decide) rfl
  clear h3
  have H255 : Hid (∀ x ∈ xs, x ≤ 255) := by
    intro x hx
    obtain ⟨k, hk⟩ := List.mem_iff_getElem?.1 hx
    obtain ⟨b, off, _, h, _⟩ := H3.out k x hk
    exact h
  cases a with
  | none =>
    have hxs : xs = [] := by
      cases xs with
      | nil => rfl
      | cons x l => obtain ⟨b, off, e, _⟩ := H3.out 0 x rfl; cases e
    subst hxs
    obtain rfl := h0 rfl
    have HB : Hid (Below w.heap.size w (w.alloc (.cells #[] 5))) := below_one _
    clear hc hc2 h0 HC
    by_cases hn0 : 0 < n
    · have hn1 : (0 : Int) < (n : Int) := by omega
      go_enter Tryz.func9, Tryz.ntmps9
      go_wp2_with (first | (at_builtin; refine wpList_append_own_none rfl _ _ 22 rfl w.heap.size 5 i 1 Tryz.underlying22 hi _ 0 [] rfl HO.out rfl ?_) | (at_builtin; refine wpList_append_own_at _ rfl _ _ 22 rfl w.heap.size 5 i (.int .u8 0) 1 1 Tryz.underlying22 hi hz0 hz1 hz2 rfl (by decide) _ 0 ([] : List Value) rfl (HO.out.alloc _) ⟨w.heap.size + 1, 0, none⟩ 1 1 [.int .u8 0] rfl rfl (by have h := news_new (w.alloc (.cells #[] 5)) [.int .u8 0] 5; rw [World.size_alloc] at h; exact h) (by simp [Value.oneCell']) (by unfold maxLen; omega) (by omega) (by have := HB.out.size; simp; omega) ?_))
      intro v2 w2 ho2 hg2 _ _
      have hb2 : Below w.heap.size w w2 := (Below.alc HB.out _).grown hg2 (by have := HB.out.size; simp; omega) (fun k hk => ((HO.out.alloc (.cells #[.int .u8 0] 5)).lt k hk).1)
      go_wp2
      go_ret
      exact ⟨_, [0], rfl, Code.own (ownsRow_cast ho2 (by simp) (by simp)) (by intro x hx; simp at hx; omega), by simp, hb2⟩
    · obtain rfl : n = 0 := by omega
      go_enter Tryz.func9, Tryz.ntmps9
      go_wp2_with (first | (at_builtin; refine wpList_append_own_none rfl _ _ 22 rfl w.heap.size 5 i 1 Tryz.underlying22 hi _ 0 [] rfl HO.out rfl ?_) | (at_builtin; refine wpList_append_own_at _ rfl _ _ 22 rfl w.heap.size 5 i (.int .u8 0) 1 1 Tryz.underlying22 hi hz0 hz1 hz2 rfl (by decide) _ 0 ([] : List Value) rfl (HO.out.alloc _) ⟨w.heap.size + 1, 0, none⟩ 1 1 [.int .u8 0] rfl rfl (by have h := news_new (w.alloc (.cells #[] 5)) [.int .u8 0] 5; rw [World.size_alloc] at h; exact h) (by simp [Value.oneCell']) (by unfold maxLen; omega) (by omega) (by have := HB.out.size; simp; omega) ?_))
      intro v2 w2 ho2 hg2 _ _
      have hb2 : Below w.heap.size w w2 := (Below.alc HB.out _).grown hg2 (by have := HB.out.size; simp; omega) (fun k hk => ((HO.out.alloc (.cells #[.int .u8 0] 5)).lt k hk).1)
      go_wp2
      go_ret
      exact ⟨_, [0], rfl, Code.own (ownsRow_cast ho2 (by simp) (by simp)) (by intro x hx; simp at hx; omega), by simp, hb2⟩
  | some ad =>
    clear h0 HC
    have HB : Hid (Below w.heap.size w (w.alloc (.cells #[] 5))) := below_one _
    by_cases hlt : xs.length < n
    · have hlt2 : (xs.length : Int) < (n : Int) := by omega
      have hl100 : xs.length ≤ 100 := by omega
      generalize xs.length = l at *
      by_cases hcn : c = l
      · subst hcn
        go_enter Tryz.func9, Tryz.ntmps9
        go_wp2_with (at_builtin; refine wpList_append_own_at _ rfl _ _ 22 rfl w.heap.size 5 i (.int .u8 0) 1 1 Tryz.underlying22 hi hz0 hz1 hz2 rfl (by decide) _ 0 [] rfl HO.out _ 0 _ [] rfl rfl (by intro j u hu; simp at hu) (by simp) (by decide) (by decide) (by simp) ?_)
        intro v1 w1 ho1 hg1 _ _
        have HB1 : Hid (Below w.heap.size w w1) := (below_one _).grown hg1 (by simp) (fun k hk => by simp [Value.ownBlock] at hk; omega)
        have HO1 := Lib.hid ho1
        clear ho1 hg1 HB
        have HB := HB1
        go_wp2_with (at_builtin; refine wpList_append_own_at _ rfl _ _ 22 rfl w.heap.size 5 i (.int .u8 0) 1 1 Tryz.underlying22 hi hz0 hz1 hz2 rfl (by decide) _ (0 + 0) ([] ++ [] : List Value) rfl (HO1.out.alloc _) ⟨w1.heap.size, 0, none⟩ 1 1 [.int .u8 (c : Nat)] rfl rfl (news_new _ [.int .u8 (c : Nat)] _) (by simp [Value.oneCell']) (by unfold maxLen; omega) (by omega) (by have := HB.out.size; simp; omega) ?_)
        intro v2 w2 ho2 hg2 _ _
        have hb2 : Below w.heap.size w w2 := (Below.alc HB.out _).grown hg2 (by have := HB.out.size; simp; omega) (fun k hk => ((HO1.out.alloc (.cells #[.int .u8 (c : Nat)] 5)).lt k hk).1)
        go_wp2
        go_ret
        exact ⟨_, [c], rfl, Code.own (ownsRow_cast ho2 (by simp) (by simp)) (by intro x hx; simp at hx; omega), by simp, hb2⟩
      · have hcn1 : (c = l) = False := eq_false hcn
        go_enter Tryz.func9, Tryz.ntmps9
        go_wp2_with (at_builtin; refine wpList_append_own_at _ rfl _ _ 22 rfl w.heap.size 5 i (.int .u8 0) 1 1 Tryz.underlying22 hi hz0 hz1 hz2 rfl (by decide) _ 0 [] rfl HO.out _ 0 _ [] rfl rfl (by intro j u hu; simp at hu) (by simp) (by decide) (by decide) (by simp) ?_)
        intro v1 w1 ho1 hg1 _ _
        have HB1 : Hid (Below w.heap.size w w1) := (below_one _).grown hg1 (by simp) (fun k hk => by simp [Value.ownBlock] at hk; omega)
        have HO1 := Lib.hid ho1
        clear ho1 hg1 HB
        have HB := HB1
        go_wp2_with (at_builtin; refine wpList_append_own_at _ rfl _ _ 22 rfl w.heap.size 5 i (.int .u8 0) 1 1 Tryz.underlying22 hi hz0 hz1 hz2 rfl (by decide) _ (0 + 0) ([] ++ [] : List Value) rfl (HO1.out.alloc _) ⟨w1.heap.size, 0, none⟩ 1 1 [.int .u8 (l : Nat)] rfl rfl (news_new _ [.int .u8 (l : Nat)] _) (by simp [Value.oneCell']) (by unfold maxLen; omega) (by omega) (by have := HB.out.size; simp; omega) ?_)
        intro v2 w2 ho2 hg2 _ _
        have hb2 : Below w.heap.size w w2 := (Below.alc HB.out _).grown hg2 (by have := HB.out.size; simp; omega) (fun k hk => ((HO1.out.alloc (.cells #[.int .u8 (l : Nat)] 5)).lt k hk).1)
        go_wp2
        go_ret
        exact ⟨_, [l], rfl, Code.own (ownsRow_cast ho2 (by simp) (by simp)) (by intro x hx; simp at hx; omega), by simp, hb2⟩
    · have hlt2 : ¬ (xs.length : Int) < (n : Int) := by omega
      by_cases hle : xs.length = n
      · subst hle
        generalize xs.length = l at *
        by_cases hcn : c = l
        · subst hcn
          go_enter Tryz.func9, Tryz.ntmps9
          go_wp2_with (at_builtin; refine wpList_append_own_at _ rfl _ _ 22 rfl w.heap.size 5 i (.int .u8 0) 1 1 Tryz.underlying22 hi hz0 hz1 hz2 rfl (by decide) _ 0 [] rfl HO.out _ 0 _ [] rfl rfl (by intro j u hu; simp at hu) (by simp) (by decide) (by decide) (by simp) ?_)
          intro v1 w1 ho1 hg1 _ _
          have HB1 : Hid (Below w.heap.size w w1) := (below_one _).grown hg1 (by simp) (fun k hk => by simp [Value.ownBlock] at hk; omega)
          have HO1 := Lib.hid ho1
          clear ho1 hg1 HB
          have HB := HB1
          go_wp2_with (at_builtin; refine wpList_append_own_at _ rfl _ _ 22 rfl w.heap.size 5 i (.int .u8 0) 1 1 Tryz.underlying22 hi hz0 hz1 hz2 rfl (by decide) _ (0 + 0) ([] ++ [] : List Value) rfl (HO1.out.alloc _) ⟨w1.heap.size, 0, none⟩ 1 1 [.int .u8 (c : Nat)] rfl rfl (news_new _ [.int .u8 (c : Nat)] _) (by simp [Value.oneCell']) (by unfold maxLen; omega) (by omega) (by have := HB.out.size; simp; omega) ?_)
          intro v2 w2 ho2 hg2 _ _
          have hb2 : Below w.heap.size w w2 := (Below.alc HB.out _).grown hg2 (by have := HB.out.size; simp; omega) (fun k hk => ((HO1.out.alloc (.cells #[.int .u8 (c : Nat)] 5)).lt k hk).1)
          go_wp2
          go_ret
          exact ⟨_, [c], rfl, Code.own (ownsRow_cast ho2 (by simp) (by simp)) (by intro x hx; simp at hx; omega), by simp, hb2⟩
        · have hcn1 : (c = l) = False := eq_false hcn
          go_enter Tryz.func9, Tryz.ntmps9
          go_wp2_with (at_builtin; refine wpList_append_own_at _ rfl _ _ 22 rfl w.heap.size 5 i (.int .u8 0) 1 1 Tryz.underlying22 hi hz0 hz1 hz2 rfl (by decide) _ 0 [] rfl HO.out _ 0 _ [] rfl rfl (by intro j u hu; simp at hu) (by simp) (by decide) (by decide) (by simp) ?_)
          intro v1 w1 ho1 hg1 _ _
          have HB1 : Hid (Below w.heap.size w w1) := (below_one _).grown hg1 (by simp) (fun k hk => by simp [Value.ownBlock] at hk; omega)
          have HO1 := Lib.hid ho1
          clear ho1 hg1 HB
          have HB := HB1
          go_wp2_with (at_builtin; refine wpList_append_own_at _ rfl _ _ 22 rfl w.heap.size 5 i (.int .u8 0) 1 1 Tryz.underlying22 hi hz0 hz1 hz2 rfl (by decide) _ (0 + 0) ([] ++ [] : List Value) rfl (HO1.out.alloc _) ⟨w1.heap.size, 0, none⟩ 1 1 [.int .u8 (l : Nat)] rfl rfl (news_new _ [.int .u8 (l : Nat)] _) (by simp [Value.oneCell']) (by unfold maxLen; omega) (by omega) (by have := HB.out.size; simp; omega) ?_)
          intro v2 w2 ho2 hg2 _ _
          have hb2 : Below w.heap.size w w2 := (Below.alc HB.out _).grown hg2 (by have := HB.out.size; simp; omega) (fun k hk => ((HO1.out.alloc (.cells #[.int .u8 (l : Nat)] 5)).lt k hk).1)
          go_wp2
          go_ret
          exact ⟨_, [l], rfl, Code.own (ownsRow_cast ho2 (by simp) (by simp)) (by intro x hx; simp at hx; omega), by simp, hb2⟩
      · have hcn1 : (c = n) = False := eq_false (by omega)
        have HN : ∀ (j : Nat) u, ((xs.drop n).map fun (x : Nat) => Value.int .u8 (x : Int))[j]? = some u → (w.alloc (.cells #[] 5)).cell? ((ad.add n).add j) = some u := by
          intro j u hu
          rw [List.getElem?_map, List.getElem?_drop] at hu
          obtain ⟨x, hx, rfl⟩ := Option.map_eq_some_iff.1 hu
          obtain ⟨b, off, e, _, hc⟩ := H3.out (n + j) x hx
          cases e
          rw [Addr.add_lit, Addr.add_lit, Nat.add_assoc]
          exact cell_later (below_one _) hc
        have HL : Hid (((xs.drop n).map fun (x : Nat) => Value.int .u8 (x : Int)).length = (xs.length - n) * 1) := by show _ = _; simp
        have H1 : Hid (∀ u ∈ ((xs.drop n).map fun (x : Nat) => Value.int .u8 (x : Int)), u.oneCell' = true) := by intro u hu; obtain ⟨y, _, rfl⟩ := List.mem_map.1 hu; rfl
        have HF : Hid (∀ w' v', w'.ownsRow w.heap.size 5 1 v' (xs.length - n + 1) (((xs.drop n).map fun (x : Nat) => Value.int .u8 (x : Int)) ++ [.int .u8 (n : Int)]) → ∃ ys, Code w' v' ys ∧ ys.length ≤ xs.length + 1) :=
          fun w' v' ho => ⟨xs.drop n ++ [n], Code.own (ownsRow_cast ho (by simp) (by simp)) (fun x hx => (List.mem_append.1 hx).elim (fun h => H255.out x (List.mem_of_mem_drop h)) (fun h => by have := List.mem_singleton.1 h; omega)), by simp⟩
        have hle2 : n ≤ xs.length := by omega
        generalize ((xs.drop n).map fun (x : Nat) => Value.int .u8 (x : Int)) = news at *
        have HN2 := Lib.hid HN
        clear HN
        go_enter Tryz.func9, Tryz.ntmps9
        go_wp2_with (at_builtin; refine wpList_append_own_at _ rfl _ _ 22 rfl w.heap.size 5 i (.int .u8 0) 1 1 Tryz.underlying22 hi hz0 hz1 hz2 rfl (by decide) _ 0 [] rfl HO.out (ad.add n) (xs.length - n) (c - n) news rfl HL.out HN2.out H1.out (by unfold maxLen; omega) (by omega) (by simp) ?_)
        intro v1 w1 ho1 hg1 _ _
        have HB1 : Hid (Below w.heap.size w w1) := (below_one _).grown hg1 (by simp) (fun k hk => by simp [Value.ownBlock] at hk; omega)
        have HO1 := Lib.hid ho1
        clear ho1 hg1 HB
        have HB := HB1
        go_wp2_with (at_builtin; revert HO1)
        intro HO1
        refine wpList_append_own_at _ rfl _ _ 22 rfl w.heap.size 5 i (.int .u8 0) 1 1 Tryz.underlying22 hi hz0 hz1 hz2 rfl (by decide) _ (xs.length - n) news rfl (HO1.out.alloc _) ⟨w1.heap.size, 0, none⟩ 1 1 [.int .u8 (n : Nat)] rfl rfl (news_new _ [.int .u8 (n : Nat)] _) (by simp [Value.oneCell']) (by unfold maxLen; omega) (by omega) (by have := HB.out.size; simp; omega) ?_
        intro v2 w2 ho2 hg2 _ _
        have hb2 : Below w.heap.size w w2 := (Below.alc HB.out _).grown hg2 (by have := HB.out.size; simp; omega) (fun k hk => ((HO1.out.alloc (.cells #[.int .u8 (n : Nat)] 5)).lt k hk).1)
        obtain ⟨ys, hys, hyl⟩ := HF.out w2 v2 ho2
        go_wp2
        go_ret
        exact ⟨_, ys, rfl, hys, hyl, hb2⟩
end Go.Proofs.YtfbnmkpkihfocaaGreat
namespace Go.Proofs.YtfbnmkpkihfocaaGreat
open Go.ChangeShapes Go.WideShapes Go.ChangeAt Go.RowKit Go.Joins Go.Deep
set_option linter.unusedVariables false
set_option maxRecDepth 100000
section
variable {H : Type} {enc : TypeId × Value → H} {w : World} {base : Nat} {spare : Nat → Bool} {held : Bool}
theorem u8_wf {n : Int} (h : (Lit.int .u8 n).wf = true) : 0 ≤ n ∧ n ≤ 255 := by
  simp only [Lit.wf, Bool.and_eq_true, decide_eq_true_eq] at h
  have h0 : IntKind.u8.min = 0 := by decide
  have h1 : IntKind.u8.max = 255 := by decide
  omega
theorem open_bytes {r : Reach} {b0 : Nat} {v : Value} {d : DataW H} {p : List MemPlace} (hv : Value.okWide Tryz.prog w r b0 22 v) (h : DataW.Trod enc Tryz.prog w base spare held 22 v d p) : ∃ xs, Code w v xs := by
  obtain ⟨a0, len0, cap0, rfl⟩ := okWide_slice Tryz.underlying22 hv
  obtain ⟨fuel, hf⟩ := h
  rcases open_ints Tryz.underlying22 Tryz.underlying5 (by kernel_rfl) hf with ⟨hcs, _⟩ | ⟨x, l, c, zs, hcs, _, hl, hm, hz, _, hcell, hwz⟩
  · simp [Value.cells] at hcs
    obtain ⟨rfl, rfl, rfl⟩ := hcs
    exact ⟨[], none, 0, rfl, by simp, by omega, fun _ => rfl, fun k x hx => by simp at hx⟩
  · simp [Value.cells] at hcs
    obtain ⟨rfl, rfl, rfl⟩ := hcs
    refine ⟨(zs.take len0).map Int.toNat, ?_⟩
    have hlc : len0 ≤ zs.length := by
      revert hz; cases spare x.block <;> simp <;> omega
    have hlen : ((zs.take len0).map Int.toNat).length = len0 := by rw [List.length_map, List.length_take, Nat.min_eq_left hlc]
    refine ⟨some x, cap0, by rw [hlen], by rw [hlen]; exact hl, by unfold maxLen at hm; omega, (fun e => by cases e), fun k y hy => ?_⟩
    have hk : k < len0 := by have := (List.getElem?_eq_some_iff.1 hy).1; omega
    obtain ⟨b, off, spot⟩ := x
    have h0 := hcell 0 (by omega)
    have hs : spot = none := by
      cases spot with
      | none => rfl
      | some s =>
        exfalso
        unfold Addr.add at h0; simp [World.cell?] at h0
        split at h0 <;> simp_all
    subst hs
    have hkz : k < zs.length := by omega
    rw [List.getElem?_map, List.getElem?_take, if_pos hk, List.getElem?_eq_getElem hkz] at hy
    simp only [Option.map_some, Option.some.injEq] at hy
    have hw := u8_wf (hwz zs[k] (List.getElem_mem hkz))
    refine ⟨b, off, rfl, by omega, ?_⟩
    have := hcell k hkz
    rw [Addr.add_lit] at this
    rw [this]
    have e : zs.getD k 0 = (y : Int) := by simp [hkz]; omega
    rw [e]
end
end Go.Proofs.YtfbnmkpkihfocaaGreat
namespace Go.Proofs.YtfbnmkpkihfocaaGreat
open Go.RowKit
set_option linter.unusedVariables false
/-- the cells of a box that was made ahead of a call -/
theorem box_after {w w1 : World} {cs : Array Value} {t : TypeId} (hb : Below (w.alloc (.cells cs t)).heap.size (w.alloc (.cells cs t)) w1) :
    (∀ j v, cs[j]? = some v → w1.cell? ⟨w.heap.size, j, none⟩ = some v) ∧ ∀ j, w1.frozen? ⟨w.heap.size, j, none⟩ = false := by
  refine ⟨fun j v h => ?_, fun j => ?_⟩
  · rw [hb.cell (p := ⟨w.heap.size, j, none⟩) (by simp), World.cell?_alloc_at _ _ _ _ rfl]; exact h
  · rw [hb.frozen (p := ⟨w.heap.size, j, none⟩) (by simp), World.frozen?_alloc_new]
theorem two_set {w w2 : World} {b : Nat} {x y : Value} (X Y : Value) (h0 : w2.cell? ⟨b, 0, none⟩ = some x) (h1 : w2.cell? ⟨b, 1, none⟩ = some y) (hb : Below w.heap.size w w2) (hbb : w.heap.size ≤ b) :
    ((w2.setCell ⟨b, 0, none⟩ X).setCell ⟨b, 1, none⟩ Y).cell? ⟨b, 0, none⟩ = some X ∧ ((w2.setCell ⟨b, 0, none⟩ X).setCell ⟨b, 1, none⟩ Y).cell? ⟨b, 1, none⟩ = some Y ∧ Below w.heap.size w ((w2.setCell ⟨b, 0, none⟩ X).setCell ⟨b, 1, none⟩ Y) := by
  refine ⟨?_, ?_, (hb.setCell hbb _).setCell hbb _⟩
  · rw [World.cell?_setCell_other _ _ _ _ (by simp)]; exact World.cell?_setCell_same _ _ _ h0
  · exact World.cell?_setCell_same _ _ _ (u := y) (by rw [World.cell?_setCell_other _ _ _ _ (by simp)]; exact h1)
end Go.Proofs.YtfbnmkpkihfocaaGreat
namespace Go.Proofs.YtfbnmkpkihfocaaGreat
open Go.RowKit
set_option linter.unusedVariables false
set_option maxRecDepth 100000
def befL : List Int → List Int → Bool
  | [], [] => false
  | [], _ :: _ => true
  | _ :: _, [] => false
  | x :: s, y :: t => if x = y then befL s t else decide (x < y)
theorem befL_irr : ∀ a : List Int, befL a a = false
  | [] => rfl
  | x :: s => by simp [befL, befL_irr s]
theorem befL_trans : ∀ a b c : List Int, befL a b = true → befL b c = true → befL a c = true
  | [], [], _, h, _ => by simp [befL] at h
  | [], _ :: _, [], _, h => by simp [befL] at h
  | [], _ :: _, _ :: _, _, _ => rfl
  | _ :: _, [], _, h, _ => by simp [befL] at h
  | _ :: _, _ :: _, [], _, h => by simp [befL] at h
  | x :: s, y :: t, z :: u, h1, h2 => by
    unfold befL at *
    by_cases e1 : x = y
    · subst e1
      rw [if_pos rfl] at h1
      by_cases e2 : x = z
      · subst e2
        rw [if_pos rfl] at h2 ⊢
        exact befL_trans s t u h1 h2
      · rw [if_neg e2] at h2 ⊢; exact h2
    · rw [if_neg e1] at h1
      simp at h1
      by_cases e2 : y = z
      · subst e2
        rw [if_neg e1]; simpa using h1
      · rw [if_neg e2] at h2
        simp at h2
        rw [if_neg (by omega)]; simp; omega
theorem befL_tri : ∀ a b : List Int, befL a b = false → befL b a = false → a = b
  | [], [], _, _ => rfl
  | [], _ :: _, h, _ => by simp [befL] at h
  | _ :: _, [], _, h => by simp [befL] at h
  | x :: s, y :: t, h1, h2 => by
    unfold befL at *
    by_cases e : x = y
    · subst e
      rw [if_pos rfl] at h1 h2
      rw [befL_tri s t h1 h2]
    · rw [if_neg e] at h1
      rw [if_neg (fun h => e h.symm)] at h2
      simp at h1 h2
      omega
theorem befL_asym {a b : List Int} (h : befL a b = true) : befL b a = false := by
  rw [Bool.eq_false_iff]; intro h2
  have := befL_trans a b a h h2
  rw [befL_irr] at this; cases this
theorem befL_cons (x : Int) (s t : List Int) : befL (x :: s) (x :: t) = befL s t := by simp [befL]
theorem befL_step {a b : List Int} {k : Nat} {x : Int} (ha : a[k]? = some x) (hb : b[k]? = some x) : befL (a.drop k) (b.drop k) = befL (a.drop (k + 1)) (b.drop (k + 1)) := by
  have e1 : a.drop k = x :: a.drop (k + 1) := by
    have hlt := (List.getElem?_eq_some_iff.1 ha).1
    rw [List.drop_eq_getElem_cons hlt]
    rw [List.getElem?_eq_getElem hlt] at ha
    rw [Option.some.inj ha]
  have e2 : b.drop k = x :: b.drop (k + 1) := by
    have hlt := (List.getElem?_eq_some_iff.1 hb).1
    rw [List.drop_eq_getElem_cons hlt]
    rw [List.getElem?_eq_getElem hlt] at hb
    rw [Option.some.inj hb]
  rw [e1, e2, befL_cons]
theorem befL_diff {a b : List Int} {k : Nat} {x y : Int} (ha : a[k]? = some x) (hb : b[k]? = some y) (hne : x ≠ y) : befL (a.drop k) (b.drop k) = decide (x < y) := by
  have e1 : a.drop k = x :: a.drop (k + 1) := by
    have hlt := (List.getElem?_eq_some_iff.1 ha).1
    rw [List.drop_eq_getElem_cons hlt]
    rw [List.getElem?_eq_getElem hlt] at ha
    rw [Option.some.inj ha]
  have e2 : b.drop k = y :: b.drop (k + 1) := by
    have hlt := (List.getElem?_eq_some_iff.1 hb).1
    rw [List.drop_eq_getElem_cons hlt]
    rw [List.getElem?_eq_getElem hlt] at hb
    rw [Option.some.inj hb]
  rw [e1, e2]
  unfold befL
  rw [if_neg hne]
theorem befL_end {a b : List Int} {k : Nat} (h : k = a.length ∨ k = b.length) (ha : k ≤ a.length) (hb : k ≤ b.length) : befL (a.drop k) (b.drop k) = decide (a.length < b.length) := by
  rcases h with h | h
  · subst h
    rw [List.drop_length]
    cases hd : b.drop a.length with
    | nil =>
      have := List.drop_eq_nil_iff.1 hd
      simp [befL]; omega
    | cons y t =>
      have : a.length < b.length := by
        rcases Nat.lt_or_ge a.length b.length with h | h
        · exact h
        · rw [List.drop_eq_nil_of_le h] at hd; cases hd
      simp [befL]; omega
  · subst h
    rw [show b.drop b.length = [] by simp]
    cases hd : a.drop b.length with
    | nil =>
      have := List.drop_eq_nil_iff.1 hd
      simp [befL]; omega
    | cons y t =>
      simp [befL]; omega
theorem l7Before_c (v1 v2 : Value) (a b : List Int) (w : World) (h1 : Ints w v1 a) (h2 : Ints w v2 b) :
    Calls Tryz.prog 58 #[v1, v2] w fun e w' => e = .returned (.bool (befL a b)) ∧ Below w.heap.size w w' := by
  have m1 := h1.le; have m2 := h2.le
  obtain ⟨a1, c1, rfl, _, _, H1⟩ := h1.parts
  obtain ⟨a2, c2, rfl, _, _, H2⟩ := h2.parts
  clear h1 h2
  go_enter Tryz.func58, Tryz.ntmps58
  go_wp2
  go_loopw [5] (fun i wr => ∃ k : Nat, k ≤ a.length ∧ k ≤ b.length ∧ i = .int .i64 (k : Int) ∧ Hid (befL a b = befL (a.drop k) (b.drop k)) ∧ Below w.heap.size w wr) (fun i _ => a.length - (intOf i).toNat)
  case atStart => exact ⟨0, by omega, by omega, rfl, rfl, Below.refl _ _⟩
  case round =>
    obtain ⟨k, hk1, hk2, rfl, hbe, hb⟩ := hrel
    by_cases hlt1 : k < a.length
    · have hd1 : decide ((k : Int) < (a.length : Int)) = true := by simp; omega
      by_cases hlt2 : k < b.length
      · have hd2 : decide ((k : Int) < (b.length : Int)) = true := by simp; omega
        have n0 : (0 : Int) ≤ (k : Int) := by omega
        obtain ⟨x, hx⟩ := elem_at hlt1
        obtain ⟨y, hy⟩ := elem_at hlt2
        obtain ⟨b1, o1, rfl, f1⟩ := H1.out k x hx.out
        obtain ⟨b2, o2, rfl, f2⟩ := H2.out k y hy.out
        have g1 := cell_later hb f1
        have g2 := cell_later hb f2
        clear f1 f2
        rcases hxy : (x != y) with _ | _
        · have hE : x = y := by simpa using hxy
          have HN : Hid (befL a b = befL (a.drop (k + 1)) (b.drop (k + 1))) := by
            show _ = _
            rw [hbe.out]; exact befL_step hx.out (by rw [hy.out, hE])
          clear hbe hE
          go_wp2
          go_quiet (fail)
          go_wp2
          go_roundw
          case rel => exact ⟨k + 1, by omega, by omega, by go_num, HN, below_drewN hb⟩
          case measure => simp [intOf]; omega
        · have hE : x ≠ y := by simpa using hxy
          have HN := Lib.hid (show befL a b = decide (x < y) by rw [hbe.out]; exact befL_diff hx.out hy.out hE)
          clear hbe hE
          go_wp2
          go_quiet (fail)
          go_wp2
          go_quiet (fail)
          go_wp2
          go_ret
          exact ⟨by rw [HN.out]; rfl, below_drewN (below_drewN hb)⟩
      · have hd2 : decide ((k : Int) < (b.length : Int)) = false := by simp; omega
        have HN := Lib.hid (show befL a b = decide (a.length < b.length) by rw [hbe.out]; exact befL_end (.inr (by omega)) (by omega) (by omega))
        clear hbe
        go_wp2
        go_ret
        exact ⟨by rw [HN.out]; rfl, hb⟩
    · have hd1 : decide ((k : Int) < (a.length : Int)) = false := by simp; omega
      have HN := Lib.hid (show befL a b = decide (a.length < b.length) by rw [hbe.out]; exact befL_end (.inl (by omega)) (by omega) (by omega))
      clear hbe
      go_wp2
      go_ret
      exact ⟨by rw [HN.out]; rfl, hb⟩
end Go.Proofs.YtfbnmkpkihfocaaGreat
namespace Go.Proofs.YtfbnmkpkihfocaaGreat
set_option linter.unusedVariables false
set_option linter.unusedSimpArgs false
/-- all orders, the same ones more than once if some numbers are the same -/
def ordS : Nat → List Int → List (List Int)
  | 0, _ => [[]]
  | n + 1, l => (List.range l.length).flatMap fun i => (ordS n (l.eraseIdx i)).map (l.getD i 0 :: ·)
/-- is this place left out: it holds what the place ahead of it holds -/
def dupQ (l : List Int) (i : Nat) : Bool := decide (0 < i) && (l.getD i 0 == l.getD (i - 1) 0)
/-- all orders of a sorted list, the same ones once -/
def seqS : Nat → List Int → List (List Int)
  | 0, _ => [[]]
  | n + 1, l => (List.range l.length).flatMap fun i => if dupQ l i then [] else (seqS n (l.eraseIdx i)).map (l.getD i 0 :: ·)
theorem getD_erase_perm : ∀ {l : List Int} {i : Nat}, i < l.length → (l.getD i 0 :: l.eraseIdx i).Perm l
  | [], i, h => absurd h (by simp)
  | x :: t, 0, _ => by simp
  | x :: t, i + 1, h => by
    simp only [List.getD_cons_succ, List.eraseIdx_cons_succ]
    exact (List.Perm.swap _ _ _).trans (List.Perm.cons x (getD_erase_perm (by simpa using h)))
theorem ordS_perm : ∀ (n : Nat) (l s : List Int), l.length = n → (s ∈ ordS n l ↔ s.Perm l)
  | 0, l, s, h => by
    have : l = [] := List.eq_nil_of_length_eq_zero h
    subst this
    simp [ordS]
  | n + 1, l, s, h => by
    unfold ordS
    simp only [List.mem_flatMap, List.mem_range, List.mem_map]
    constructor
    · rintro ⟨i, hi, t, ht, rfl⟩
      have hl : (l.eraseIdx i).length = n := by rw [List.length_eraseIdx, if_pos hi]; omega
      exact (List.Perm.cons _ ((ordS_perm n _ t hl).1 ht)).trans (getD_erase_perm hi)
    · intro hp
      match s, hp with
      | [], hp => exact absurd hp.length_eq (by simp [h])
      | x :: t, hp =>
        have hx : x ∈ l := hp.subset (by simp)
        obtain ⟨i, hi, he⟩ := List.getElem_of_mem hx
        have hl : (l.eraseIdx i).length = n := by rw [List.length_eraseIdx, if_pos hi]; omega
        have e : l.getD i 0 = x := by simp [hi, he]
        refine ⟨i, hi, t, (ordS_perm n _ t hl).2 ?_, by rw [e]⟩
        have h2 := hp.trans (getD_erase_perm hi).symm
        rw [e] at h2
        exact (List.perm_cons x).1 h2
theorem first_at {l : List Int} {x : Int} (hx : x ∈ l) : ∃ i, i < l.length ∧ l.getD i 0 = x ∧ dupQ l i = false := by
  induction l with
  | nil => cases hx
  | cons y t ih =>
    by_cases e : y = x
    · exact ⟨0, by simp, by simp [e], by simp [dupQ]⟩
    · have ht : x ∈ t := by
        rcases List.mem_cons.1 hx with h | h
        · exact absurd h.symm e
        · exact h
      obtain ⟨i, hi, he, hd⟩ := ih ht
      refine ⟨i + 1, by simp; omega, by simpa using he, ?_⟩
      unfold dupQ at *
      by_cases hz : i = 0
      · subst hz
        simp only [List.getD_cons_succ, Nat.add_sub_cancel]
        rw [he]
        simp
        exact fun h => e h.symm
      · obtain ⟨j, rfl⟩ : ∃ j, i = j + 1 := ⟨i - 1, by omega⟩
        simp only [List.getD_cons_succ, Nat.add_sub_cancel] at hd ⊢
        simp at hd ⊢
        exact hd
theorem seqS_perm : ∀ (n : Nat) (l s : List Int), l.length = n → (s ∈ seqS n l ↔ s.Perm l)
  | 0, l, s, h => by
    have : l = [] := List.eq_nil_of_length_eq_zero h
    subst this
    simp [seqS]
  | n + 1, l, s, h => by
    unfold seqS
    simp only [List.mem_flatMap, List.mem_range]
    constructor
    · rintro ⟨i, hi, hs⟩
      cases hd : dupQ l i
      · rw [hd] at hs
        simp only [Bool.false_eq_true, if_false, List.mem_map] at hs
        obtain ⟨t, ht, rfl⟩ := hs
        have hl : (l.eraseIdx i).length = n := by rw [List.length_eraseIdx, if_pos hi]; omega
        exact (List.Perm.cons _ ((seqS_perm n _ t hl).1 ht)).trans (getD_erase_perm hi)
      · rw [hd] at hs; simp at hs
    · intro hp
      match s, hp with
      | [], hp => exact absurd hp.length_eq (by simp [h])
      | x :: t, hp =>
        have hx : x ∈ l := hp.subset (by simp)
        obtain ⟨i, hi, he, hd⟩ := first_at hx
        have hl : (l.eraseIdx i).length = n := by rw [List.length_eraseIdx, if_pos hi]; omega
        refine ⟨i, hi, ?_⟩
        rw [hd]
        simp only [Bool.false_eq_true, if_false, List.mem_map]
        refine ⟨t, (seqS_perm n _ t hl).2 ?_, by rw [he]⟩
        have h2 := hp.trans (getD_erase_perm hi).symm
        rw [he] at h2
        exact (List.perm_cons x).1 h2
/-- b stands ahead of s, or is the same -/
def leL (b s : List Int) : Prop := befL b s = true ∨ b = s
theorem seqS_pw : ∀ (n : Nat) (l : List Int), l.length = n → l.Pairwise (· ≤ ·) → (seqS n l).Pairwise leL
  | 0, l, h, _ => by simp [seqS]
  | n + 1, l, h, hs => by
    unfold seqS
    rw [List.pairwise_flatMap]
    constructor
    · intro i hi
      have hi := List.mem_range.1 hi
      cases hd : dupQ l i
      · simp only [Bool.false_eq_true, if_false]
        rw [List.pairwise_map]
        have hl : (l.eraseIdx i).length = n := by rw [List.length_eraseIdx, if_pos hi]; omega
        refine (seqS_pw n _ hl (hs.sublist (List.eraseIdx_sublist _ _))).imp ?_
        rintro a b (h1 | rfl)
        · exact Or.inl (by rw [befL_cons]; exact h1)
        · exact Or.inr rfl
      · simp
    · have hr : (List.range l.length).Pairwise (fun i j => i < j ∧ j < l.length) := by
        rw [List.pairwise_iff_getElem]
        intro i j hi hj hij
        simp only [List.getElem_range]
        exact ⟨hij, by simpa using hj⟩
      refine hr.imp ?_
      rintro i j ⟨hij, hj⟩ x hx y hy
      cases hd : dupQ l i
      · cases hd2 : dupQ l j
        · rw [hd] at hx; rw [hd2] at hy
          simp only [Bool.false_eq_true, if_false, List.mem_map] at hx hy
          obtain ⟨s, _, rfl⟩ := hx
          obtain ⟨t, _, rfl⟩ := hy
          have hle := fun a b (ha : a < l.length) (hb : b < l.length) (hab : a < b) => List.pairwise_iff_getElem.1 hs a b ha hb hab
          have e1 : l.getD i 0 = l[i]'(by omega) := by simp [show i < l.length by omega]
          have e2 : l.getD j 0 = l[j] := by simp [hj]
          have e3 : l.getD (j - 1) 0 = l[j - 1]'(by omega) := by simp [show j - 1 < l.length by omega]
          have hne : l.getD j 0 ≠ l.getD (j - 1) 0 := by
            intro e
            unfold dupQ at hd2
            rw [e, decide_eq_true (show 0 < j by omega)] at hd2
            simp at hd2
          have h1 : l[i]'(by omega) ≤ l[j - 1]'(by omega) := by
            by_cases hh : i = j - 1
            · subst hh; exact Int.le_refl _
            · exact hle i (j - 1) (by omega) (by omega) (by omega)
          have h2 := hle (j - 1) j (by omega) hj (by omega)
          have hlt : l.getD i 0 < l.getD j 0 := by omega
          refine Or.inl ?_
          unfold befL
          rw [if_neg (by omega)]
          exact decide_eq_true hlt
        · rw [hd2] at hy; simp at hy
      · rw [hd] at hx; simp at hx
/-- of two orders the one that is kept: the first one if the other one has no fewer changes -/
def keepI (ch : List Int → Int) (o : Option (List Int)) (s : List Int) : Option (List Int) :=
  match o with
  | none => some s
  | some b => if ch s < ch b then some s else some b
def keepS (ch : List Int → Int) (b s : List Int) : List Int := if (decide (ch s < ch b) || ((ch s == ch b) && befL s b)) then s else b
/-- b is the best one of those in P -/
def Best (ch : List Int → Int) (P : List (List Int)) (b : List Int) : Prop := b ∈ P ∧ ∀ s, s ∈ P → ch b < ch s ∨ (ch b = ch s ∧ leL b s)
theorem Best.one {ch : List Int → Int} {P Q : List (List Int)} {a b : List Int} (ha : Best ch P a) (hb : Best ch Q b) (h : ∀ s, s ∈ P ↔ s ∈ Q) : a = b := by
  have h1 := ha.2 b ((h b).2 hb.1)
  have h2 := hb.2 a ((h a).1 ha.1)
  rcases h1 with h1 | ⟨e1, h1⟩
  · rcases h2 with h2 | ⟨e2, h2⟩ <;> omega
  · rcases h2 with h2 | ⟨e2, h2⟩
    · omega
    · rcases h1 with h1 | h1
      · rcases h2 with h2 | h2
        · rw [befL_asym h1] at h2; cases h2
        · exact h2.symm
      · exact h1
theorem keepI_best (ch : List Int → Int) : ∀ (L P : List (List Int)) (b : List Int), (P ++ L).Pairwise leL → Best ch P b → ∃ c, L.foldl (keepI ch) (some b) = some c ∧ Best ch (P ++ L) c
  | [], P, b, _, hb => ⟨b, rfl, by simpa using hb⟩
  | s :: L, P, b, hp, hb => by
    have e : P ++ s :: L = (P ++ [s]) ++ L := by simp
    rw [e] at hp ⊢
    rw [List.foldl_cons]
    have hps := (List.pairwise_append.1 hp).1
    have hbs : leL b s := (List.pairwise_append.1 hps).2.2 b hb.1 s (by simp)
    by_cases hlt : ch s < ch b
    · rw [show keepI ch (some b) s = some s by simp [keepI, hlt]]
      refine keepI_best ch L _ s hp ⟨by simp, fun t ht => ?_⟩
      rcases List.mem_append.1 ht with h | h
      · rcases hb.2 t h with h1 | h1
        · exact Or.inl (by omega)
        · exact Or.inl (by omega)
      · simp only [List.mem_singleton] at h
        subst h
        exact Or.inr ⟨rfl, Or.inr rfl⟩
    · rw [show keepI ch (some b) s = some b by simp [keepI, hlt]]
      refine keepI_best ch L _ b hp ⟨by simp [hb.1], fun t ht => ?_⟩
      rcases List.mem_append.1 ht with h | h
      · exact hb.2 t h
      · simp only [List.mem_singleton] at h
        subst h
        by_cases he : ch b = ch t
        · exact Or.inr ⟨he, hbs⟩
        · exact Or.inl (by omega)
theorem keepS_best (ch : List Int → Int) : ∀ (L P : List (List Int)) (b : List Int), Best ch P b → Best ch (P ++ L) (L.foldl (keepS ch) b)
  | [], P, b, hb => by simpa using hb
  | s :: L, P, b, hb => by
    rw [show P ++ s :: L = (P ++ [s]) ++ L by simp, List.foldl_cons]
    refine keepS_best ch L _ _ ?_
    unfold keepS
    by_cases hc : (decide (ch s < ch b) || ((ch s == ch b) && befL s b)) = true
    · rw [if_pos hc]
      simp only [Bool.or_eq_true, Bool.and_eq_true, decide_eq_true_eq, beq_iff_eq] at hc
      refine ⟨by simp, fun t ht => ?_⟩
      rcases List.mem_append.1 ht with h | h
      · rcases hc with hc | ⟨hc, hbf⟩
        · rcases hb.2 t h with h1 | h1
          · exact Or.inl (by omega)
          · exact Or.inl (by omega)
        · rcases hb.2 t h with h1 | ⟨h1, h2⟩
          · exact Or.inl (by omega)
          · refine Or.inr ⟨by omega, ?_⟩
            rcases h2 with h2 | rfl
            · exact Or.inl (befL_trans _ _ _ hbf h2)
            · exact Or.inl hbf
      · simp only [List.mem_singleton] at h
        subst h
        exact Or.inr ⟨rfl, Or.inr rfl⟩
    · rw [if_neg hc]
      simp only [Bool.or_eq_true, Bool.and_eq_true, decide_eq_true_eq, beq_iff_eq, not_or, not_and] at hc
      refine ⟨by simp [hb.1], fun t ht => ?_⟩
      rcases List.mem_append.1 ht with h | h
      · exact hb.2 t h
      · simp only [List.mem_singleton] at h
        subst h
        by_cases he : ch b = ch t
        · refine Or.inr ⟨he, ?_⟩
          have hf : befL t b = false := by simpa using hc.2 he.symm
          cases hbt : befL b t
          · exact Or.inr (befL_tri _ _ hbt hf)
          · exact Or.inl hbt
        · exact Or.inl (by omega)
/-- what both texts find -/
theorem quiet_same (ch : List Int → Int) {l srt : List Int} (hp : srt.Perm l) (hs : srt.Pairwise (· ≤ ·)) {all : List Int} {rest : List (List Int)} (ho : ordS l.length l = all :: rest) :
    (seqS srt.length srt).foldl (keepI ch) none = some (rest.foldl (keepS ch) all) ∧ Best ch (ordS l.length l) (rest.foldl (keepS ch) all) := by
  have hB : Best ch (ordS l.length l) (rest.foldl (keepS ch) all) := by
    rw [ho]
    exact keepS_best ch rest [all] all ⟨by simp, fun s h => Or.inr (by simp only [List.mem_singleton] at h; subst h; exact ⟨rfl, Or.inr rfl⟩)⟩
  refine ⟨?_, hB⟩
  have hmem : ∀ s, s ∈ seqS srt.length srt ↔ s ∈ ordS l.length l := fun s => by
    rw [seqS_perm _ _ _ rfl, ordS_perm _ _ _ rfl]
    exact ⟨fun h => h.trans hp, fun h => h.trans hp.symm⟩
  have hpw := seqS_pw _ srt rfl hs
  match hq : seqS srt.length srt with
  | [] =>
    have := (hmem all).2 (by rw [ho]; simp)
    rw [hq] at this; cases this
  | s0 :: L =>
    rw [hq] at hpw hmem
    obtain ⟨c, hc, hcb⟩ := keepI_best ch L [s0] s0 hpw ⟨by simp, fun s h => Or.inr (by simp only [List.mem_singleton] at h; subst h; exact ⟨rfl, Or.inr rfl⟩)⟩
    show L.foldl (keepI ch) (keepI ch none s0) = _
    rw [show keepI ch none s0 = some s0 from rfl, hc]
    exact congrArg some (Best.one hcb hB hmem)
theorem ordS_ne : ∀ (n : Nat) (l : List Int), l.length = n → ∃ a r, ordS n l = a :: r
  | n, l, h => by
    match hq : ordS n l with
    | [] =>
      have := (ordS_perm n l l h).2 (List.Perm.refl _)
      rw [hq] at this; cases this
    | a :: r => exact ⟨a, r, rfl⟩
end Go.Proofs.YtfbnmkpkihfocaaGreat
namespace Go.Proofs.YtfbnmkpkihfocaaGreat
open Go.RowKit
set_option linter.unusedVariables false
set_option maxRecDepth 100000
/-- the number of bars of a cell that light -/
def cnt (c : Int) : Int := ((List.range 7).map fun (i : Nat) => ((c.toNat / 2 ^ i % 2 : Nat) : Int)).sum
def on1 (x : Int) : Int := IntKind.u64.wrap (bits .and .u64 (x / 2) 6148914691236517205 + bits .and .u64 x 6148914691236517205)
def on2 (x : Int) : Int := IntKind.u64.wrap (bits .and .u64 (x / 4) 3689348814741910323 + bits .and .u64 x 3689348814741910323)
def on3 (x : Int) : Int := bits .and .u64 (IntKind.u64.wrap (x / 16 + x)) 1085102592571150095
def on4 (x : Int) : Int := IntKind.u64.wrap (x + x / 256)
def on5 (x : Int) : Int := IntKind.u64.wrap (x + x / 65536)
def on6 (x : Int) : Int := IntKind.u64.wrap (x + x / 4294967296)
def onesF (x : Int) : Int := on6 (on5 (on4 (on3 (on2 (on1 x)))))
theorem onesF_all : ∀ c : Fin 128, onesF (c.1 : Int) = cnt (c.1 : Int) ∧ 0 ≤ cnt (c.1 : Int) ∧ cnt (c.1 : Int) ≤ 7 ∧ bits .and .i64 (wrap64 (cnt (c.1 : Int))) 127 = cnt (c.1 : Int) := by decide +kernel
theorem Ones64_c (c : Nat) (hc : c < 128) (w : World) : Calls Tryz.prog 103 #[.int .u64 c] w fun e w' => e = .returned (.int .i64 (cnt c)) ∧ w = w' := by
  have h0 : (0 : Int) ≤ c := by omega
  have h1 : (c : Int) ≤ 127 := by omega
  have H := Lib.hid (onesF_all ⟨c, hc⟩)
  go_enter Tryz.func103, Tryz.ntmps103
  go_wp2
  go_ret
  refine ⟨?_, rfl⟩
  refine int_ret ?_
  show bits .and .i64 (wrap64 (onesF (c : Int))) 127 = cnt (c : Int)
  rw [H.out.1]; exact H.out.2.2.2
theorem Ones_c (c : Nat) (hc : c < 128) (w : World) : Calls Tryz.prog 95 #[.int .u64 c] w fun e w' => e = .returned (.int .i64 (cnt c)) ∧ w = w' := by
  have h0 : (0 : Int) ≤ c := by omega
  have h1 : (c : Int) ≤ 127 := by omega
  go_enter Tryz.func95, Tryz.ntmps95
  go_wp2_with fail
  refine (Ones64_c c hc _).mono ?_
  rintro e w' ⟨rfl, rfl⟩
  go_wp2
  go_ret
  exact ⟨rfl, rfl⟩
theorem count_c (c : Int) (h0 : 0 ≤ c) (h1 : c ≤ 127) (w : World) : Calls Tryz.prog 81 #[.int .i64 c] w fun e w' => e = .returned (.int .i64 (cnt c)) ∧ w = w' := by
  obtain ⟨n, rfl⟩ := Int.eq_ofNat_of_zero_le h0
  go_enter Tryz.func81, Tryz.ntmps81
  go_wp2_with fail
  refine (Ones_c n (by omega) _).mono ?_
  rintro e w' ⟨rfl, rfl⟩
  go_wp2
  go_ret
  exact ⟨rfl, rfl⟩
def cntTo (c : Int) (k : Nat) : Int := ((List.range k).map fun (i : Nat) => ((c.toNat / 2 ^ i % 2 : Nat) : Int)).sum
theorem cntTo_fin : ∀ (c : Fin 128) (k : Fin 7), cntTo (c.1 : Int) (k.1 + 1) = cntTo (c.1 : Int) k.1 + ((c.1 / 2 ^ k.1 % 2 : Nat) : Int) ∧ 0 ≤ cntTo (c.1 : Int) k.1 ∧ cntTo (c.1 : Int) k.1 ≤ 7 := by decide +kernel
theorem bit_at (n k : Nat) (hn : n < 128) : bits .and .i64 ((n : Int) / 2 ^ k) 1 = ((n / 2 ^ k % 2 : Nat) : Int) := by
  have e : ((n : Int) / 2 ^ k) = ((n / 2 ^ k : Nat) : Int) := by simp
  have hle : n / 2 ^ k ≤ n := Nat.div_le_self _ _
  rw [e, show (1 : Int) = ((1 : Nat) : Int) from rfl, i64_and_nat _ 1 (by omega) (by omega), Nat.and_one_is_mod]
theorem l2Count_c (c : Int) (h0 : 0 ≤ c) (h1 : c ≤ 127) (w : World) : Calls Tryz.prog 82 #[.int .i64 c] w fun e w' => e = .returned (.int .i64 (cnt c)) ∧ w = w' := by
  obtain ⟨n, rfl⟩ := Int.eq_ofNat_of_zero_le h0
  go_enter Tryz.func82, Tryz.ntmps82
  go_wp2
  go_loopw [3, 4] (fun m j wr => ∃ k : Nat, k ≤ 7 ∧ j = .int .i64 (k : Int) ∧ m = .int .i64 (cntTo (n : Int) k) ∧ w = wr) (fun _ j _ => 8 - (intOf j).toNat)
  case atStart => exact ⟨0, by omega, rfl, rfl, by trivial⟩
  case round =>
    obtain ⟨k, hk, rfl, rfl, rfl⟩ := hrel
    by_cases hlt : k < 7
    · have hd : decide ((k : Int) < 7) = true := by simp; omega
      have hf := cntTo_fin ⟨n, by omega⟩ ⟨k, hlt⟩
      simp only at hf
      obtain ⟨hS, hb0, hb1⟩ := hf
      have HS := Lib.hid hS; clear hS
      generalize cntTo (n : Int) k = m at *
      go_wp2
      exact ⟨⟨k + 1, by omega, by go_num, by
        rw [HS.out, bit_at n k (by omega)]
        exact int_val (by have : n / 2 ^ k % 2 < 2 := Nat.mod_lt _ (by omega); simp only [wrap64]; omega), trivial⟩, by simp [intOf]; omega⟩
    · obtain rfl : k = 7 := by omega
      go_wp2
      go_ret
      exact ⟨rfl, rfl⟩
end Go.Proofs.YtfbnmkpkihfocaaGreat
namespace Go.Proofs.YtfbnmkpkihfocaaGreat
open Go.RowKit
set_option linter.unusedVariables false

/-- the first place at which p holds, or -1 -/
def firstAt {α : Type} (p : α → Bool) (xs : List α) : Int := match xs.findIdx? p with | some i => (i : Int) | none => -1
theorem firstAt_none {α : Type} {p : α → Bool} {xs : List α} {k : Nat} (hk : xs.length ≤ k) (h : ∀ j x, j < k → xs[j]? = some x → p x = false) : firstAt p xs = -1 := by
  have : xs.findIdx? p = none := by
    rw [List.findIdx?_eq_none_iff]; intro x hx
    obtain ⟨j, hj⟩ := List.mem_iff_getElem?.1 hx
    exact h j x (Nat.lt_of_lt_of_le (List.getElem?_eq_some_iff.1 hj).1 hk) hj
  simp [firstAt, this]
theorem firstAt_some {α : Type} {p : α → Bool} {xs : List α} {k : Nat} {x : α} (hx : xs[k]? = some x) (hp : p x = true) (h : ∀ j x, j < k → xs[j]? = some x → p x = false) : firstAt p xs = k := by
  have : xs.findIdx? p = some k := by
    rw [List.findIdx?_eq_some_iff_getElem]
    obtain ⟨hl, he⟩ := List.getElem?_eq_some_iff.1 hx
    refine ⟨hl, by rw [he]; exact hp, fun j hj => ?_⟩
    have := h j xs[j] hj (List.getElem?_eq_getElem (by omega))
    simp [this]
  simp [firstAt, this]

/-- fn is a function of the program with a body -/
def CallsIt (fn : Nat) : Prop := ∀ (bs : Array Value) (w : World), (callFunc fn bs).run Tryz.prog w = .ok (.enter fn bs) w
theorem IndexFuncInt_c (v : Value) (xs : List Int) (fn : Nat) (cap : Array Value) (p : Int → Bool) (w : World) (hv : Ints w v xs) (hf : CallsIt fn)
    (hp : ∀ (x : Int) (w' : World), x ∈ xs → Below w.heap.size w w' → Calls Tryz.prog fn (#[.int .i64 x] ++ cap) w' fun e w'' => e = .returned (.bool (p x)) ∧ Below w'.heap.size w' w'') :
    Calls Tryz.prog 66 #[v, .func (.func fn) #[] cap] w fun e w' => e = .returned (.int .i64 (firstAt p xs)) ∧ Below w.heap.size w w' := by
  obtain ⟨a, c, rfl, hc1, hc2, HC⟩ := hv.parts
  have hf' : ∀ (bs : Array Value) (w : World), (callFunc fn bs).run Tryz.prog w = .ok (.enter fn bs) w := hf
  go_enter Tryz.func66, Tryz.ntmps66
  go_wp2
  go_loopw [8] (fun i wr => ∃ k : Nat, k ≤ xs.length ∧ i = .int .i64 k ∧ Hid (∀ j x, j < k → xs[j]? = some x → p x = false) ∧ Below w.heap.size w wr) (fun i _ => xs.length - (intOf i).toNat)
  case atStart => exact ⟨0, by omega, rfl, fun j x hj => by omega, Below.refl _ _⟩
  case round =>
    obtain ⟨k, hk, rfl, hbef, hb⟩ := hrel
    have hlen := hv.le
    by_cases hlt : k < xs.length
    · obtain ⟨x, hx⟩ := elem_at hlt
      obtain ⟨b, off, rfl, g0⟩ := HC.out k x hx.out
      have hblt : b < w.heap.size := World.block_lt_of_cell? w _ g0
      have g1 : wr.cell? ⟨b, off + k, none⟩ = some (.int .i64 x) := ((bcell hb).1 _ _ hblt).trans g0
      clear g0
      go_wp2_with fail
      refine (hp x _ (List.mem_of_getElem? hx.out) hb).mono ?_
      rintro e w1 ⟨rfl, hb1⟩
      have hb2 : Below w.heap.size w w1 := hb.trans (hb1.mono hb.size)
      rcases hpx : p x with _ | _
      · have HP := Lib.hid hpx; clear hpx
        go_wp2
        go_roundw
        case rel => exact ⟨k + 1, by omega, by go_num, fun j y hj hy => by
          by_cases hj2 : j < k
          · exact hbef.out j y hj2 hy
          · obtain rfl : j = k := by omega
            rw [hx.out] at hy; obtain rfl := Option.some.inj hy; exact HP.out, hb2⟩
        case measure => simp [intOf]; omega
      · have HP := Lib.hid hpx; clear hpx
        go_wp2
        go_ret
        exact ⟨int_ret (firstAt_some hx.out HP.out hbef.out).symm, hb2⟩
    · go_wp2
      go_ret
      exact ⟨int_ret (firstAt_none (by omega) hbef.out).symm, hb⟩
theorem ContainsFuncInt_c (v : Value) (xs : List Int) (fn : Nat) (cap : Array Value) (p : Int → Bool) (w : World) (hv : Ints w v xs) (hf : CallsIt fn)
    (hp : ∀ (x : Int) (w' : World), x ∈ xs → Below w.heap.size w w' → Calls Tryz.prog fn (#[.int .i64 x] ++ cap) w' fun e w'' => e = .returned (.bool (p x)) ∧ Below w'.heap.size w' w'') :
    Calls Tryz.prog 63 #[v, .func (.func fn) #[] cap] w fun e w' => e = .returned (.bool (decide (0 ≤ firstAt p xs))) ∧ Below w.heap.size w w' := by
  go_enter Tryz.func63, Tryz.ntmps63
  go_wp2_with fail
  refine (IndexFuncInt_c v xs fn cap p w hv hf hp).mono ?_
  rintro e w' ⟨rfl, hb⟩
  go_wp2
  go_ret
  exact ⟨bool_ret (by simp), hb⟩
theorem firstAt_not_all {xs : List Int} {p : Int → Bool} : (decide (0 ≤ firstAt (fun x => !p x) xs)) = !(xs.all p) := by
  unfold firstAt
  cases h : xs.findIdx? (fun x => !p x) with
  | none => rw [List.findIdx?_eq_none_iff] at h; simp; exact fun x hx => by simpa using h x hx
  | some i =>
    rw [List.findIdx?_eq_some_iff_getElem] at h; obtain ⟨hl, h1, _⟩ := h
    simp; exact ⟨xs[i], List.getElem_mem hl, by simpa using h1⟩
/-- 'is' is a function of the program that looks at one int -/
theorem areAllInt_c (v : Value) (xs : List Int) (fn : Nat) (p : Int → Bool) (w : World) (hv : Ints w v xs) (hf : CallsIt fn)
    (hp : ∀ (x : Int) (w' : World), Calls Tryz.prog fn #[.int .i64 x] w' fun e w'' => e = .returned (.bool (p x)) ∧ w' = w'') :
    Calls Tryz.prog 34 #[v, .func (.func fn) #[] #[]] w fun e w' => e = .returned (.bool (xs.all p)) ∧ Below w.heap.size w w' := by
  go_enter Tryz.func34, Tryz.ntmps34
  go_wp2_with fail
  refine (ContainsFuncInt_c v xs 64 #[.pointer (some ⟨w.heap.size, 0, none⟩)] (fun x => !p x) _ (hv.below (below_one _)) (fun _ _ => by kernel_rfl) ?_).mono ?_
  · intro x w' _ hb
    have hc : w'.cell? ⟨w.heap.size, 0, none⟩ = some (.func (.func fn) #[] #[]) := by
      rw [(bcell hb).1 _ _ (by simp), World.cell?_alloc_at _ _ _ _ rfl]; rfl
    have hf' : ∀ (bs : Array Value) (w : World), (callFunc fn bs).run Tryz.prog w = .ok (.enter fn bs) w := hf
    go_enter Tryz.func64, Tryz.ntmps64
    go_wp2_with fail
    refine (hp x w').mono ?_
    rintro e w'' ⟨rfl, rfl⟩
    go_wp2
    go_ret
    exact ⟨rfl, Below.refl _ _⟩
  · rintro e w' ⟨rfl, hb⟩
    go_wp2
    go_ret
    exact ⟨bool_ret (by rw [firstAt_not_all]; simp), (below_one _).trans (hb.mono (by simp))⟩
end Go.Proofs.YtfbnmkpkihfocaaGreat
