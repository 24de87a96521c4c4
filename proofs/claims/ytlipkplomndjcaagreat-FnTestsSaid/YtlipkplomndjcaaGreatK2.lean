/- Texts of this claim, gathered: Code, OpenY, Box, Mem, All, AllFault, RowsOf, ToFaults, Faults, Groups, Bench, Bench2, ShownRow, Bench3. -/
import Derived.Test.YtlipkplomndjcaaGreatK1
import Derived.Laws.AppendOwnNone
import Derived.Deep.MidRow
import Derived.Deep.RegionHeld3
import Derived.Deep.AppendLies
import Derived.Lib.SliceRun
namespace Go.Proofs.YtlipkplomndjcaaGreat
open Go.RowKit
set_option linter.unusedVariables false
set_option maxRecDepth 100000

/-- A slice of the bytes xs. -/
def Code (w : World) (v : Value) (xs : List Nat) : Prop :=
  ∃ a c, v = .slice a xs.length c ∧ xs.length ≤ c ∧ c ≤ 9223372036854775807 ∧ (a = none → c = 0) ∧ ∀ (k x : Nat), xs[k]? = some x → ∃ b off, a = some ⟨b, off, none⟩ ∧ x ≤ 255 ∧ w.cell? ⟨b, off + k, none⟩ = some (.int .u8 (x : Int))
theorem Code.keep {w w' : World} {v : Value} {xs : List Nat} (h : Code w v xs) (hk : ∀ b o x, w.cell? ⟨b, o, none⟩ = some x → w'.cell? ⟨b, o, none⟩ = some x) : Code w' v xs := by
  obtain ⟨a, c, rfl, h1, h2, h0, h3⟩ := h
  refine ⟨a, c, rfl, h1, h2, h0, fun k x hx => ?_⟩
  obtain ⟨b, off, e, hx, hc⟩ := h3 k x hx
  exact ⟨b, off, e, hx, hk _ _ _ hc⟩
theorem Code.below {w w' : World} {v : Value} {xs : List Nat} (h : Code w v xs) (hb : Below w.heap.size w w') : Code w' v xs := h.keep fun b o x hx => cell_later hb hx
theorem Code.bys {w : World} {v : Value} {xs : List Nat} (h : Code w v xs) : Bys w v w.heap.size := by
  obtain ⟨a, c, rfl, h1, h2, h0, h3⟩ := h
  refine ⟨a, c, xs, rfl, h1, h2, fun k x hx => ?_⟩
  obtain ⟨b, off, e, hx, hc⟩ := h3 k x hx
  exact ⟨b, off, e, World.block_lt_of_cell? _ _ hc, hx, hc⟩
theorem Code.own {w : World} {v : Value} {lo : Nat} {xs : List Nat} (h : w.ownsRow lo 5 1 v xs.length (xs.map fun (x : Nat) => Value.int .u8 (x : Int))) (h255 : ∀ x ∈ xs, x ≤ 255) : Code w v xs := by
  obtain ⟨h1, h2⟩ := h
  rcases h2 with ⟨rfl, h0⟩ | ⟨g, cap, cur, rfl, hb, hg, hn, hc, hs, ht⟩
  · have : xs = [] := List.eq_nil_of_length_eq_zero (by simpa using h0)
    subst this
    exact ⟨none, 0, rfl, by simp, by omega, fun _ => rfl, fun k x hx => by simp at hx⟩
  · refine ⟨_, _, rfl, hn, by unfold maxLen at hc; omega, fun e => (by cases e), fun k x hx => ⟨g, 0, rfl, h255 x (List.mem_of_getElem? hx), ?_⟩⟩
    have hlt := (List.getElem?_eq_some_iff.1 hx).1
    rw [Nat.zero_add, cell_of_row w g k cur 5 (0, 0) hg, ← Array.getElem?_toList]
    have h3 : (cur.toList.take (xs.length * 1))[k]? = some (Value.int .u8 (x : Int)) := by rw [ht, List.getElem?_map, hx]; rfl
    rw [List.getElem?_take, if_pos (by omega)] at h3
    exact h3
/-- the cursor that a draw makes -/
theorem cur_new {w : World} {v : Value} {xs : List Nat} (h : Code w v xs) : CurAt (w.alloc (.cells #[v, .int .i64 0, .int .u64 0] 62)) w.heap.size 0 := by
  have hb := Bk.new w 62 #[v, .int .i64 0, .int .u64 0]
  exact ⟨⟨v, hb.cell 0, h.bys.keep fun b o x hlt hx => cell_later (below_one _) hx⟩, ⟨0, Nat.le_refl _, hb.cell 1⟩, ⟨0, hb.cell 2⟩, hb.frozen 1, hb.frozen 2⟩
/-- behind a draw nothing that was there has been turned -/
theorem draw_below {w w' : World} {o : Obj} {m : Nat} (h : CStep (w.alloc o) w' w.heap.size m) : Below w.heap.size w w' := (below_one o).trans (h.low (Nat.le_refl _) (by simp))
theorem vBig_c (v : Value) (xs : List Nat) (w : World) (h : Code w v xs) : Calls Tryz.prog 5 #[v] w fun e w' => e = .returned (.bool (decide (65536 < xs.length))) ∧ w = w' := by
  obtain ⟨a, c, rfl, _⟩ := h
  go_enter Tryz.func5, Tryz.ntmps5
  go_wp2
  go_ret
  exact ⟨bool_ret (by rw [decide_eq_decide]; omega), rfl⟩
theorem info_u8 : (Tryz.prog.info? 5).map (fun i => (i.zero, i.size, i.bytes)) = some (some (.int .u8 0), 1, 1) := by kernel_rfl
theorem vCut_c (n : Nat) (v : Value) (xs : List Nat) (w : World) (h : Code w v xs) (hx : xs.length ≤ 1000000) (hn : n ≤ 100) : Calls Tryz.prog 14 #[v, .int .i64 (n : Int)] w fun e w' => ∃ v' ys, e = .returned v' ∧ Code w' v' ys ∧ ys.length ≤ xs.length + 1 ∧ Below w.heap.size w w' := by
  obtain ⟨i, hi, hz0, hz1, hz2⟩ := info_parts info_u8
  have HC := Lib.hid h
  obtain ⟨a, c, rfl, hc, hc2, h0, h3⟩ := h
  have H3 := Lib.hid h3
  have HO : Hid ((w.alloc (.cells #[] 5)).ownsRow w.heap.size 5 1 (.slice (some ⟨w.heap.size, 0, none⟩) 0 0) 0 []) := World.ownsRow_lit (e := 5) (size := 1) (base := w.heap.size) w #[] 0 (Nat.le_refl _) (by decide) rfl
  clear h3
  have H255 : Hid (∀ x ∈ xs, x ≤ 255) := by
    intro x hx
    obtain ⟨k, hk⟩ := List.mem_iff_getElem?.1 hx
    obtain ⟨b, off, _, h, _⟩ := H3.out k x hk
    exact h
  cases a with
  | none =>
    have hxs : xs = [] := by
      cases xs with
      | nil => rfl
      | cons x l => obtain ⟨b, off, e, _⟩ := H3.out 0 x rfl; cases e
    subst hxs
    obtain rfl := h0 rfl
    have HB : Hid (Below w.heap.size w (w.alloc (.cells #[] 5))) := below_one _
    clear hc hc2 h0 HC
    by_cases hn0 : 0 < n
    · have hn1 : (0 : Int) < (n : Int) := by omega
      go_enter Tryz.func14, Tryz.ntmps14
      go_wp2_with (first | (at_builtin; refine wpList_append_own_none rfl _ _ 22 rfl w.heap.size 5 i 1 Tryz.underlying22 hi _ 0 [] rfl HO.out rfl ?_) | (at_builtin; refine wpList_append_own_at _ rfl _ _ 22 rfl w.heap.size 5 i (.int .u8 0) 1 1 Tryz.underlying22 hi hz0 hz1 hz2 rfl (by decide) _ 0 ([] : List Value) rfl (HO.out.alloc _) ⟨w.heap.size + 1, 0, none⟩ 1 1 [.int .u8 0] rfl rfl (by have h := news_new (w.alloc (.cells #[] 5)) [.int .u8 0] 5; rw [World.size_alloc] at h; exact h) (by simp [Value.oneCell']) (by unfold maxLen; omega) (by omega) (by have := HB.out.size; simp; omega) ?_))
      intro v2 w2 ho2 hg2 _ _
      have hb2 : Below w.heap.size w w2 := (Below.alc HB.out _).grown hg2 (by have := HB.out.size; simp; omega) (fun k hk => ((HO.out.alloc (.cells #[.int .u8 0] 5)).lt k hk).1)
      go_wp2
      go_ret
      exact ⟨_, [0], rfl, Code.own (ownsRow_cast ho2 (by simp) (by simp)) (by intro x hx; simp at hx; omega), by simp, hb2⟩
    · obtain rfl : n = 0 := by omega
      go_enter Tryz.func14, Tryz.ntmps14
      go_wp2_with (first | (at_builtin; refine wpList_append_own_none rfl _ _ 22 rfl w.heap.size 5 i 1 Tryz.underlying22 hi _ 0 [] rfl HO.out rfl ?_) | (at_builtin; refine wpList_append_own_at _ rfl _ _ 22 rfl w.heap.size 5 i (.int .u8 0) 1 1 Tryz.underlying22 hi hz0 hz1 hz2 rfl (by decide) _ 0 ([] : List Value) rfl (HO.out.alloc _) ⟨w.heap.size + 1, 0, none⟩ 1 1 [.int .u8 0] rfl rfl (by have h := news_new (w.alloc (.cells #[] 5)) [.int .u8 0] 5; rw [World.size_alloc] at h; exact h) (by simp [Value.oneCell']) (by unfold maxLen; omega) (by omega) (by have := HB.out.size; simp; omega) ?_))
      intro v2 w2 ho2 hg2 _ _
      have hb2 : Below w.heap.size w w2 := (Below.alc HB.out _).grown hg2 (by have := HB.out.size; simp; omega) (fun k hk => ((HO.out.alloc (.cells #[.int .u8 0] 5)).lt k hk).1)
      go_wp2
      go_ret
      exact ⟨_, [0], rfl, Code.own (ownsRow_cast ho2 (by simp) (by simp)) (by intro x hx; simp at hx; omega), by simp, hb2⟩
  | some ad =>
    clear h0 HC
    have HB : Hid (Below w.heap.size w (w.alloc (.cells #[] 5))) := below_one _
    by_cases hlt : xs.length < n
    · have hlt2 : (xs.length : Int) < (n : Int) := by omega
      have hl100 : xs.length ≤ 100 := by omega
      generalize xs.length = l at *
      by_cases hcn : c = l
      · subst hcn
        go_enter Tryz.func14, Tryz.ntmps14
        go_wp2_with (at_builtin; refine wpList_append_own_at _ rfl _ _ 22 rfl w.heap.size 5 i (.int .u8 0) 1 1 Tryz.underlying22 hi hz0 hz1 hz2 rfl (by decide) _ 0 [] rfl HO.out _ 0 _ [] rfl rfl (by intro j u hu; simp at hu) (by simp) (by decide) (by decide) (by simp) ?_)
        intro v1 w1 ho1 hg1 _ _
        have HB1 : Hid (Below w.heap.size w w1) := (below_one _).grown hg1 (by simp) (fun k hk => by simp [Value.ownBlock] at hk; omega)
        have HO1 := Lib.hid ho1
        clear ho1 hg1 HB
        have HB := HB1
        go_wp2_with (at_builtin; refine wpList_append_own_at _ rfl _ _ 22 rfl w.heap.size 5 i (.int .u8 0) 1 1 Tryz.underlying22 hi hz0 hz1 hz2 rfl (by decide) _ (0 + 0) ([] ++ [] : List Value) rfl (HO1.out.alloc _) ⟨w1.heap.size, 0, none⟩ 1 1 [.int .u8 (c : Nat)] rfl rfl (news_new _ [.int .u8 (c : Nat)] _) (by simp [Value.oneCell']) (by unfold maxLen; omega) (by omega) (by have := HB.out.size; simp; omega) ?_)
        intro v2 w2 ho2 hg2 _ _
        have hb2 : Below w.heap.size w w2 := (Below.alc HB.out _).grown hg2 (by have := HB.out.size; simp; omega) (fun k hk => ((HO1.out.alloc (.cells #[.int .u8 (c : Nat)] 5)).lt k hk).1)
        go_wp2
        go_ret
        exact ⟨_, [c], rfl, Code.own (ownsRow_cast ho2 (by simp) (by simp)) (by intro x hx; simp at hx; omega), by simp, hb2⟩
      · have hcn1 : (c = l) = False := eq_false hcn
        go_enter Tryz.func14, Tryz.ntmps14
        go_wp2_with (at_builtin; refine wpList_append_own_at _ rfl _ _ 22 rfl w.heap.size 5 i (.int .u8 0) 1 1 Tryz.underlying22 hi hz0 hz1 hz2 rfl (by decide) _ 0 [] rfl HO.out _ 0 _ [] rfl rfl (by intro j u hu; simp at hu) (by simp) (by decide) (by decide) (by simp) ?_)
        intro v1 w1 ho1 hg1 _ _
        have HB1 : Hid (Below w.heap.size w w1) := (below_one _).grown hg1 (by simp) (fun k hk => by simp [Value.ownBlock] at hk; omega)
        have HO1 := Lib.hid ho1
        clear ho1 hg1 HB
        have HB := HB1
        go_wp2_with (at_builtin; refine wpList_append_own_at _ rfl _ _ 22 rfl w.heap.size 5 i (.int .u8 0) 1 1 Tryz.underlying22 hi hz0 hz1 hz2 rfl (by decide) _ (0 + 0) ([] ++ [] : List Value) rfl (HO1.out.alloc _) ⟨w1.heap.size, 0, none⟩ 1 1 [.int .u8 (l : Nat)] rfl rfl (news_new _ [.int .u8 (l : Nat)] _) (by simp [Value.oneCell']) (by unfold maxLen; omega) (by omega) (by have := HB.out.size; simp; omega) ?_)
        intro v2 w2 ho2 hg2 _ _
        have hb2 : Below w.heap.size w w2 := (Below.alc HB.out _).grown hg2 (by have := HB.out.size; simp; omega) (fun k hk => ((HO1.out.alloc (.cells #[.int .u8 (l : Nat)] 5)).lt k hk).1)
        go_wp2
        go_ret
        exact ⟨_, [l], rfl, Code.own (ownsRow_cast ho2 (by simp) (by simp)) (by intro x hx; simp at hx; omega), by simp, hb2⟩
    · have hlt2 : ¬ (xs.length : Int) < (n : Int) := by omega
      by_cases hle : xs.length = n
      · subst hle
        generalize xs.length = l at *
        by_cases hcn : c = l
        · subst hcn
          go_enter Tryz.func14, Tryz.ntmps14
          go_wp2_with (at_builtin; refine wpList_append_own_at _ rfl _ _ 22 rfl w.heap.size 5 i (.int .u8 0) 1 1 Tryz.underlying22 hi hz0 hz1 hz2 rfl (by decide) _ 0 [] rfl HO.out _ 0 _ [] rfl rfl (by intro j u hu; simp at hu) (by simp) (by decide) (by decide) (by simp) ?_)
          intro v1 w1 ho1 hg1 _ _
          have HB1 : Hid (Below w.heap.size w w1) := (below_one _).grown hg1 (by simp) (fun k hk => by simp [Value.ownBlock] at hk; omega)
          have HO1 := Lib.hid ho1
          clear ho1 hg1 HB
          have HB := HB1
          go_wp2_with (at_builtin; refine wpList_append_own_at _ rfl _ _ 22 rfl w.heap.size 5 i (.int .u8 0) 1 1 Tryz.underlying22 hi hz0 hz1 hz2 rfl (by decide) _ (0 + 0) ([] ++ [] : List Value) rfl (HO1.out.alloc _) ⟨w1.heap.size, 0, none⟩ 1 1 [.int .u8 (c : Nat)] rfl rfl (news_new _ [.int .u8 (c : Nat)] _) (by simp [Value.oneCell']) (by unfold maxLen; omega) (by omega) (by have := HB.out.size; simp; omega) ?_)
          intro v2 w2 ho2 hg2 _ _
          have hb2 : Below w.heap.size w w2 := (Below.alc HB.out _).grown hg2 (by have := HB.out.size; simp; omega) (fun k hk => ((HO1.out.alloc (.cells #[.int .u8 (c : Nat)] 5)).lt k hk).1)
          go_wp2
          go_ret
          exact ⟨_, [c], rfl, Code.own (ownsRow_cast ho2 (by simp) (by simp)) (by intro x hx; simp at hx; omega), by simp, hb2⟩
        · have hcn1 : (c = l) = False := eq_false hcn
          go_enter Tryz.func14, Tryz.ntmps14
          go_wp2_with (at_builtin; refine wpList_append_own_at _ rfl _ _ 22 rfl w.heap.size 5 i (.int .u8 0) 1 1 Tryz.underlying22 hi hz0 hz1 hz2 rfl (by decide) _ 0 [] rfl HO.out _ 0 _ [] rfl rfl (by intro j u hu; simp at hu) (by simp) (by decide) (by decide) (by simp) ?_)
          intro v1 w1 ho1 hg1 _ _
          have HB1 : Hid (Below w.heap.size w w1) := (below_one _).grown hg1 (by simp) (fun k hk => by simp [Value.ownBlock] at hk; omega)
          have HO1 := Lib.hid ho1
          clear ho1 hg1 HB
          have HB := HB1
          go_wp2_with (at_builtin; refine wpList_append_own_at _ rfl _ _ 22 rfl w.heap.size 5 i (.int .u8 0) 1 1 Tryz.underlying22 hi hz0 hz1 hz2 rfl (by decide) _ (0 + 0) ([] ++ [] : List Value) rfl (HO1.out.alloc _) ⟨w1.heap.size, 0, none⟩ 1 1 [.int .u8 (l : Nat)] rfl rfl (news_new _ [.int .u8 (l : Nat)] _) (by simp [Value.oneCell']) (by unfold maxLen; omega) (by omega) (by have := HB.out.size; simp; omega) ?_)
          intro v2 w2 ho2 hg2 _ _
          have hb2 : Below w.heap.size w w2 := (Below.alc HB.out _).grown hg2 (by have := HB.out.size; simp; omega) (fun k hk => ((HO1.out.alloc (.cells #[.int .u8 (l : Nat)] 5)).lt k hk).1)
          go_wp2
          go_ret
          exact ⟨_, [l], rfl, Code.own (ownsRow_cast ho2 (by simp) (by simp)) (by intro x hx; simp at hx; omega), by simp, hb2⟩
      · have hcn1 : (c = n) = False := eq_false (by omega)
        have HN : ∀ (j : Nat) u, ((xs.drop n).map fun (x : Nat) => Value.int .u8 (x : Int))[j]? = some u → (w.alloc (.cells #[] 5)).cell? ((ad.add n).add j) = some u := by
          intro j u hu
          rw [List.getElem?_map, List.getElem?_drop] at hu
          obtain ⟨x, hx, rfl⟩ := Option.map_eq_some_iff.1 hu
          obtain ⟨b, off, e, _, hc⟩ := H3.out (n + j) x hx
          cases e
          rw [Addr.add_lit, Addr.add_lit, Nat.add_assoc]
          exact cell_later (below_one _) hc
        have HL : Hid (((xs.drop n).map fun (x : Nat) => Value.int .u8 (x : Int)).length = (xs.length - n) * 1) := by show _ = _; simp
        have H1 : Hid (∀ u ∈ ((xs.drop n).map fun (x : Nat) => Value.int .u8 (x : Int)), u.oneCell' = true) := by intro u hu; obtain ⟨y, _, rfl⟩ := List.mem_map.1 hu; rfl
        have HF : Hid (∀ w' v', w'.ownsRow w.heap.size 5 1 v' (xs.length - n + 1) (((xs.drop n).map fun (x : Nat) => Value.int .u8 (x : Int)) ++ [.int .u8 (n : Int)]) → ∃ ys, Code w' v' ys ∧ ys.length ≤ xs.length + 1) :=
          fun w' v' ho => ⟨xs.drop n ++ [n], Code.own (ownsRow_cast ho (by simp) (by simp)) (fun x hx => (List.mem_append.1 hx).elim (fun h => H255.out x (List.mem_of_mem_drop h)) (fun h => by have := List.mem_singleton.1 h; omega)), by simp⟩
        have hle2 : n ≤ xs.length := by omega
        generalize ((xs.drop n).map fun (x : Nat) => Value.int .u8 (x : Int)) = news at *
        have HN2 := Lib.hid HN
        clear HN
        go_enter Tryz.func14, Tryz.ntmps14
        go_wp2_with (at_builtin; refine wpList_append_own_at _ rfl _ _ 22 rfl w.heap.size 5 i (.int .u8 0) 1 1 Tryz.underlying22 hi hz0 hz1 hz2 rfl (by decide) _ 0 [] rfl HO.out (ad.add n) (xs.length - n) (c - n) news rfl HL.out HN2.out H1.out (by unfold maxLen; omega) (by omega) (by simp) ?_)
        intro v1 w1 ho1 hg1 _ _
        have HB1 : Hid (Below w.heap.size w w1) := (below_one _).grown hg1 (by simp) (fun k hk => by simp [Value.ownBlock] at hk; omega)
        have HO1 := Lib.hid ho1
        clear ho1 hg1 HB
        have HB := HB1
        go_wp2_with (at_builtin; revert HO1)
        intro HO1
        refine wpList_append_own_at _ rfl _ _ 22 rfl w.heap.size 5 i (.int .u8 0) 1 1 Tryz.underlying22 hi hz0 hz1 hz2 rfl (by decide) _ (xs.length - n) news rfl (HO1.out.alloc _) ⟨w1.heap.size, 0, none⟩ 1 1 [.int .u8 (n : Nat)] rfl rfl (news_new _ [.int .u8 (n : Nat)] _) (by simp [Value.oneCell']) (by unfold maxLen; omega) (by omega) (by have := HB.out.size; simp; omega) ?_
        intro v2 w2 ho2 hg2 _ _
        have hb2 : Below w.heap.size w w2 := (Below.alc HB.out _).grown hg2 (by have := HB.out.size; simp; omega) (fun k hk => ((HO1.out.alloc (.cells #[.int .u8 (n : Nat)] 5)).lt k hk).1)
        obtain ⟨ys, hys, hyl⟩ := HF.out w2 v2 ho2
        go_wp2
        go_ret
        exact ⟨_, ys, rfl, hys, hyl, hb2⟩
end Go.Proofs.YtlipkplomndjcaaGreat
namespace Go.Proofs.YtlipkplomndjcaaGreat
open Go.ChangeShapes Go.WideShapes Go.ChangeAt Go.RowKit Go.Joins Go.Deep
set_option linter.unusedVariables false
set_option maxRecDepth 100000
section
variable {H : Type} {enc : TypeId × Value → H} {w : World} {base : Nat} {spare : Nat → Bool} {held : Bool}
theorem u8_wf {n : Int} (h : (Lit.int .u8 n).wf = true) : 0 ≤ n ∧ n ≤ 255 := by
  simp only [Lit.wf, Bool.and_eq_true, decide_eq_true_eq] at h
  have h0 : IntKind.u8.min = 0 := by decide
  have h1 : IntKind.u8.max = 255 := by decide
  omega
theorem open_bytes {r : Reach} {b0 : Nat} {v : Value} {d : DataW H} {p : List MemPlace} (hv : Value.okWide Tryz.prog w r b0 22 v) (h : DataW.Trod enc Tryz.prog w base spare held 22 v d p) : ∃ xs, Code w v xs := by
  obtain ⟨a0, len0, cap0, rfl⟩ := okWide_slice Tryz.underlying22 hv
  obtain ⟨fuel, hf⟩ := h
  rcases open_ints Tryz.underlying22 Tryz.underlying5 (by kernel_rfl) hf with ⟨hcs, _⟩ | ⟨x, l, c, zs, hcs, _, hl, hm, hz, _, hcell, hwz⟩
  · simp [Value.cells] at hcs
    obtain ⟨rfl, rfl, rfl⟩ := hcs
    exact ⟨[], none, 0, rfl, by simp, by omega, fun _ => rfl, fun k x hx => by simp at hx⟩
  · simp [Value.cells] at hcs
    obtain ⟨rfl, rfl, rfl⟩ := hcs
    refine ⟨(zs.take len0).map Int.toNat, ?_⟩
    have hlc : len0 ≤ zs.length := by
      revert hz; cases spare x.block <;> simp <;> omega
    have hlen : ((zs.take len0).map Int.toNat).length = len0 := by rw [List.length_map, List.length_take, Nat.min_eq_left hlc]
    refine ⟨some x, cap0, by rw [hlen], by rw [hlen]; exact hl, by unfold maxLen at hm; omega, (fun e => by cases e), fun k y hy => ?_⟩
    have hk : k < len0 := by have := (List.getElem?_eq_some_iff.1 hy).1; omega
    obtain ⟨b, off, spot⟩ := x
    have h0 := hcell 0 (by omega)
    have hs : spot = none := by
      cases spot with
      | none => rfl
      | some s =>
        exfalso
        unfold Addr.add at h0; simp [World.cell?] at h0
        split at h0 <;> simp_all
    subst hs
    have hkz : k < zs.length := by omega
    rw [List.getElem?_map, List.getElem?_take, if_pos hk, List.getElem?_eq_getElem hkz] at hy
    simp only [Option.map_some, Option.some.injEq] at hy
    have hw := u8_wf (hwz zs[k] (List.getElem_mem hkz))
    refine ⟨b, off, rfl, by omega, ?_⟩
    have := hcell k hkz
    rw [Addr.add_lit] at this
    rw [this]
    have e : zs.getD k 0 = (y : Int) := by simp [hkz]; omega
    rw [e]
end
end Go.Proofs.YtlipkplomndjcaaGreat
namespace Go.Proofs.YtlipkplomndjcaaGreat
open Go.RowKit
set_option linter.unusedVariables false
/-- the cells of a box that was made ahead of a call -/
theorem box_after {w w1 : World} {cs : Array Value} {t : TypeId} (hb : Below (w.alloc (.cells cs t)).heap.size (w.alloc (.cells cs t)) w1) :
    (∀ j v, cs[j]? = some v → w1.cell? ⟨w.heap.size, j, none⟩ = some v) ∧ ∀ j, w1.frozen? ⟨w.heap.size, j, none⟩ = false := by
  refine ⟨fun j v h => ?_, fun j => ?_⟩
  · rw [hb.cell (p := ⟨w.heap.size, j, none⟩) (by simp), World.cell?_alloc_at _ _ _ _ rfl]; exact h
  · rw [hb.frozen (p := ⟨w.heap.size, j, none⟩) (by simp), World.frozen?_alloc_new]
theorem two_set {w w2 : World} {b : Nat} {x y : Value} (X Y : Value) (h0 : w2.cell? ⟨b, 0, none⟩ = some x) (h1 : w2.cell? ⟨b, 1, none⟩ = some y) (hb : Below w.heap.size w w2) (hbb : w.heap.size ≤ b) :
    ((w2.setCell ⟨b, 0, none⟩ X).setCell ⟨b, 1, none⟩ Y).cell? ⟨b, 0, none⟩ = some X ∧ ((w2.setCell ⟨b, 0, none⟩ X).setCell ⟨b, 1, none⟩ Y).cell? ⟨b, 1, none⟩ = some Y ∧ Below w.heap.size w ((w2.setCell ⟨b, 0, none⟩ X).setCell ⟨b, 1, none⟩ Y) := by
  refine ⟨?_, ?_, (hb.setCell hbb _).setCell hbb _⟩
  · rw [World.cell?_setCell_other _ _ _ _ (by simp)]; exact World.cell?_setCell_same _ _ _ h0
  · exact World.cell?_setCell_same _ _ _ (u := y) (by rw [World.cell?_setCell_other _ _ _ _ (by simp)]; exact h1)
end Go.Proofs.YtlipkplomndjcaaGreat
namespace Go.Proofs.YtlipkplomndjcaaGreat
open Go.RowKit
set_option linter.unusedVariables false
theorem range_below {w w' : World} {g o : Nat} {cs : List Value} (h : w.rangeAt g o cs) (hb : Below w.heap.size w w') : w'.rangeAt g o cs := fun j v hv => cell_later hb (h j v hv)
theorem there_below {w w' : World} {g o n : Nat} (h : w.there g o n) (hb : Below w.heap.size w w') : w'.there g o n := fun j hj => by
  obtain ⟨h1, h2⟩ := h j hj
  obtain ⟨u, hu⟩ := Option.isSome_iff_exists.1 h1
  have hlt := World.block_lt_of_cell? w _ hu
  exact ⟨by rw [cell_later hb hu]; rfl, by rw [hb.frozen (p := ⟨g, o + j, none⟩) hlt]; exact h2⟩
theorem there_new (w : World) (cs : Array Value) (t : TypeId) {n : Nat} (h : n ≤ cs.size) : (w.alloc (.cells cs t)).there w.heap.size 0 n := fun j hj => by
  rw [Nat.zero_add]
  refine ⟨?_, World.frozen?_alloc_new _ _ _ _⟩
  rw [World.cell?_alloc_at _ _ _ _ rfl, Array.getElem?_eq_getElem (by omega)]; rfl
theorem range_new (w : World) (cs : List Value) (t : TypeId) : (w.alloc (.cells cs.toArray t)).rangeAt w.heap.size 0 cs := fun j v hv => by
  rw [Nat.zero_add, World.cell?_alloc_at _ _ _ _ rfl]; simpa using hv
theorem there_sub {w : World} {g o n o' n' : Nat} (h : w.there g o n) (h1 : o ≤ o') (h2 : o' + n' ≤ o + n) : w.there g o' n' := fun j hj => by
  have := h (o' - o + j) (by omega)
  rwa [show o + (o' - o + j) = o' + j by omega] at this
theorem range_sub {w : World} {g o : Nat} {cs : List Value} (h : w.rangeAt g o cs) (p n : Nat) : w.rangeAt g (o + p) ((cs.drop p).take n) := fun j v hv => by
  rw [List.getElem?_take] at hv
  split at hv
  · rw [List.getElem?_drop] at hv
    have := h (p + j) v hv
    rwa [← Nat.add_assoc] at this
  · cases hv
theorem range_nil (w : World) (g o : Nat) : w.rangeAt g o [] := fun j v hv => by simp at hv
theorem range_append {w : World} {g o : Nat} {xs ys : List Value} (h1 : w.rangeAt g o xs) (h2 : w.rangeAt g (o + xs.length) ys) : w.rangeAt g o (xs ++ ys) := fun j v hv => by
  by_cases hj : j < xs.length
  · rw [List.getElem?_append_left hj] at hv; exact h1 j v hv
  · rw [List.getElem?_append_right (by omega)] at hv
    have := h2 _ v hv
    rwa [show o + xs.length + (j - xs.length) = o + j by omega] at this
theorem below_cells {w : World} : ∀ (vs : List Value) (a : World) (g o : Nat), Below w.heap.size w a → w.heap.size ≤ g → Below w.heap.size w (a.setCells g o vs)
  | [], _, _, _, h, _ => h
  | v :: r, a, g, o, h, hg => by rw [World.setCells]; exact below_cells r _ g (o + 1) (h.setCell hg v) hg
theorem range_grow {w : World} {g : Nat} {xs ys : List Value} (h : w.rangeAt g 0 xs) (ht : w.there g xs.length ys.length) : (w.setCells g xs.length ys).rangeAt g 0 (xs ++ ys) :=
  range_append (World.rangeAt_setCells_apart h _ _ _ (.inr (.inl (by omega)))) (by rw [Nat.zero_add]; exact World.rangeAt_setCells_same _ _ _ _ ht)
theorem wpList_load_want {P : Program} {ops : Array Oper} {rest : List Oper} {op : Oper} {a : Act} {w : World} {Q : Exit → Act → World → Prop} (hw : Region.wanted op (yielded ops a.tmps) = true) (ty : TypeId) (x : Operand) (ho : op.op = .load ty x)
    (b o : Nat) (hx : a.eval x = .pointer (some ⟨b, o, none⟩)) (cs : List Value) (d : TypeDesc) (hc : w.rangeAt b o cs)
    (hu : P.underlying ty = some d) (hd : d.isRow = true) (hi : (P.info? ty).map (·.size) = some cs.length)
    (h : wpList P ops Q rest (a.put op.dst (.agg cs.toArray)) w) : wpList P ops Q (op :: rest) a w :=
  BigFrame.wpList_want hw fun _ hK => wp_load_mid ty x ho b o hx cs d hc hu hd hi (hK _ _ h)
theorem wpList_store_want {P : Program} {ops : Array Oper} {rest : List Oper} {op : Oper} {a : Act} {w : World} {Q : Exit → Act → World → Prop} (hw : Region.wanted op (yielded ops a.tmps) = true) (ty : TypeId) (x y : Operand) (ho : op.op = .store ty x y)
    (b o : Nat) (cs : List Value) (hx : a.eval x = .pointer (some ⟨b, o, none⟩)) (hy : a.eval y = .agg cs.toArray)
    (ht : w.there b o cs.length) (hi : (P.info? ty).map (·.size) = some cs.length) (h1 : ∀ v ∈ cs, v.oneCell' = true)
    (h : wpList P ops Q rest (a.put op.dst undef) (w.setCells b o cs)) : wpList P ops Q (op :: rest) a w :=
  BigFrame.wpList_want hw fun _ hK => wp_store_mid ty x y ho b o cs.toArray hx hy (by simpa using ht) (by simpa using hi) (all_oneCell_toArray h1) (hK _ _ (by simpa using h))
/-- the results of a function whose result lies in memory -/
theorem res_cell {P : Program} {fn : Func} {r : Nat} {t : TypeId} {tmps : Array Value} {w : World} {g : Nat} {v : Value} (h : fn.results = #[.cell r t]) (hr : tmps.getD r undef = .pointer (some ⟨g, 0, none⟩)) (hl : (loadVar t ⟨g, 0, none⟩).run P w = .ok v w) :
    (results fn tmps).run P w = .ok v w := by
  unfold results
  rw [h]
  simp only [List.mapM_toArray, List.mapM_cons, List.mapM_nil, Sem.run_bind, Sem.run_pure, Sem.run_map, Result.andThen_ok, hr, asAddr, hl]
  rfl
theorem res_cell2 {P : Program} {fn : Func} {r k : Nat} {t : TypeId} {tmps : Array Value} {w : World} {g : Nat} {v : Value} (h : fn.results = #[.cell r t, .tmp k]) (hr : tmps.getD r undef = .pointer (some ⟨g, 0, none⟩)) (hl : (loadVar t ⟨g, 0, none⟩).run P w = .ok v w) :
    (results fn tmps).run P w = .ok (.tuple #[v, tmps.getD k undef]) w := by
  unfold results
  rw [h]
  simp only [List.mapM_toArray, List.mapM_cons, List.mapM_nil, Sem.run_bind, Sem.run_pure, Sem.run_map, Result.andThen_ok, hr, asAddr, hl]
  rfl
end Go.Proofs.YtlipkplomndjcaaGreat
namespace Go.Proofs.YtlipkplomndjcaaGreat
open Go.RowKit
set_option linter.unusedVariables false

/-- the first place at which p holds, or -1 -/
def firstAt {α : Type} (p : α → Bool) (xs : List α) : Int := match xs.findIdx? p with | some i => (i : Int) | none => -1
theorem firstAt_none {α : Type} {p : α → Bool} {xs : List α} {k : Nat} (hk : xs.length ≤ k) (h : ∀ j x, j < k → xs[j]? = some x → p x = false) : firstAt p xs = -1 := by
  have : xs.findIdx? p = none := by
    rw [List.findIdx?_eq_none_iff]; intro x hx
    obtain ⟨j, hj⟩ := List.mem_iff_getElem?.1 hx
    exact h j x (Nat.lt_of_lt_of_le (List.getElem?_eq_some_iff.1 hj).1 hk) hj
  simp [firstAt, this]
theorem firstAt_some {α : Type} {p : α → Bool} {xs : List α} {k : Nat} {x : α} (hx : xs[k]? = some x) (hp : p x = true) (h : ∀ j x, j < k → xs[j]? = some x → p x = false) : firstAt p xs = k := by
  have : xs.findIdx? p = some k := by
    rw [List.findIdx?_eq_some_iff_getElem]
    obtain ⟨hl, he⟩ := List.getElem?_eq_some_iff.1 hx
    refine ⟨hl, by rw [he]; exact hp, fun j hj => ?_⟩
    have := h j xs[j] hj (List.getElem?_eq_getElem (by omega))
    simp [this]
  simp [firstAt, this]

/-- fn is a function of the program with a body -/
def CallsIt (fn : Nat) : Prop := ∀ (bs : Array Value) (w : World), (callFunc fn bs).run Tryz.prog w = .ok (.enter fn bs) w
theorem IndexFuncInt_c (v : Value) (xs : List Int) (fn : Nat) (cap : Array Value) (p : Int → Bool) (w : World) (hv : Ints w v xs) (hf : CallsIt fn)
    (hp : ∀ (x : Int) (w' : World), x ∈ xs → Below w.heap.size w w' → Calls Tryz.prog fn (#[.int .i64 x] ++ cap) w' fun e w'' => e = .returned (.bool (p x)) ∧ Below w'.heap.size w' w'') :
    Calls Tryz.prog 94 #[v, .func (.func fn) #[] cap] w fun e w' => e = .returned (.int .i64 (firstAt p xs)) ∧ Below w.heap.size w w' := by
  obtain ⟨a, c, rfl, hc1, hc2, HC⟩ := hv.parts
  have hf' : ∀ (bs : Array Value) (w : World), (callFunc fn bs).run Tryz.prog w = .ok (.enter fn bs) w := hf
  go_enter Tryz.func94, Tryz.ntmps94
  go_wp2
  go_loopw [8] (fun i wr => ∃ k : Nat, k ≤ xs.length ∧ i = .int .i64 k ∧ Hid (∀ j x, j < k → xs[j]? = some x → p x = false) ∧ Below w.heap.size w wr) (fun i _ => xs.length - (intOf i).toNat)
  case atStart => exact ⟨0, by omega, rfl, fun j x hj => by omega, Below.refl _ _⟩
  case round =>
    obtain ⟨k, hk, rfl, hbef, hb⟩ := hrel
    have hlen := hv.le
    by_cases hlt : k < xs.length
    · obtain ⟨x, hx⟩ := elem_at hlt
      obtain ⟨b, off, rfl, g0⟩ := HC.out k x hx.out
      have hblt : b < w.heap.size := World.block_lt_of_cell? w _ g0
      have g1 : wr.cell? ⟨b, off + k, none⟩ = some (.int .i64 x) := ((bcell hb).1 _ _ hblt).trans g0
      clear g0
      go_wp2_with fail
      refine (hp x _ (List.mem_of_getElem? hx.out) hb).mono ?_
      rintro e w1 ⟨rfl, hb1⟩
      have hb2 : Below w.heap.size w w1 := hb.trans (hb1.mono hb.size)
      rcases hpx : p x with _ | _
      · have HP := Lib.hid hpx; clear hpx
        go_wp2
        go_roundw
        case rel => exact ⟨k + 1, by omega, by go_num, fun j y hj hy => by
          by_cases hj2 : j < k
          · exact hbef.out j y hj2 hy
          · obtain rfl : j = k := by omega
            rw [hx.out] at hy; obtain rfl := Option.some.inj hy; exact HP.out, hb2⟩
        case measure => simp [intOf]; omega
      · have HP := Lib.hid hpx; clear hpx
        go_wp2
        go_ret
        exact ⟨int_ret (firstAt_some hx.out HP.out hbef.out).symm, hb2⟩
    · go_wp2
      go_ret
      exact ⟨int_ret (firstAt_none (by omega) hbef.out).symm, hb⟩
theorem ContainsFuncInt_c (v : Value) (xs : List Int) (fn : Nat) (cap : Array Value) (p : Int → Bool) (w : World) (hv : Ints w v xs) (hf : CallsIt fn)
    (hp : ∀ (x : Int) (w' : World), x ∈ xs → Below w.heap.size w w' → Calls Tryz.prog fn (#[.int .i64 x] ++ cap) w' fun e w'' => e = .returned (.bool (p x)) ∧ Below w'.heap.size w' w'') :
    Calls Tryz.prog 103 #[v, .func (.func fn) #[] cap] w fun e w' => e = .returned (.bool (decide (0 ≤ firstAt p xs))) ∧ Below w.heap.size w w' := by
  go_enter Tryz.func103, Tryz.ntmps103
  go_wp2_with fail
  refine (IndexFuncInt_c v xs fn cap p w hv hf hp).mono ?_
  rintro e w' ⟨rfl, hb⟩
  go_wp2
  go_ret
  exact ⟨bool_ret (by simp), hb⟩
theorem firstAt_not_all {xs : List Int} {p : Int → Bool} : (decide (0 ≤ firstAt (fun x => !p x) xs)) = !(xs.all p) := by
  unfold firstAt
  cases h : xs.findIdx? (fun x => !p x) with
  | none => rw [List.findIdx?_eq_none_iff] at h; simp; exact fun x hx => by simpa using h x hx
  | some i =>
    rw [List.findIdx?_eq_some_iff_getElem] at h; obtain ⟨hl, h1, _⟩ := h
    simp; exact ⟨xs[i], List.getElem_mem hl, by simpa using h1⟩
/-- 'is' is a function of the program that looks at one int -/
theorem areAllInt_c (v : Value) (xs : List Int) (fn : Nat) (p : Int → Bool) (w : World) (hv : Ints w v xs) (hf : CallsIt fn)
    (hp : ∀ (x : Int) (w' : World), Calls Tryz.prog fn #[.int .i64 x] w' fun e w'' => e = .returned (.bool (p x)) ∧ w' = w'') :
    Calls Tryz.prog 75 #[v, .func (.func fn) #[] #[]] w fun e w' => e = .returned (.bool (xs.all p)) ∧ Below w.heap.size w w' := by
  go_enter Tryz.func75, Tryz.ntmps75
  go_wp2_with fail
  refine (ContainsFuncInt_c v xs 104 #[.pointer (some ⟨w.heap.size, 0, none⟩)] (fun x => !p x) _ (hv.below (below_one _)) (fun _ _ => by kernel_rfl) ?_).mono ?_
  · intro x w' _ hb
    have hc : w'.cell? ⟨w.heap.size, 0, none⟩ = some (.func (.func fn) #[] #[]) := by
      rw [(bcell hb).1 _ _ (by simp), World.cell?_alloc_at _ _ _ _ rfl]; rfl
    have hf' : ∀ (bs : Array Value) (w : World), (callFunc fn bs).run Tryz.prog w = .ok (.enter fn bs) w := hf
    go_enter Tryz.func104, Tryz.ntmps104
    go_wp2_with fail
    refine (hp x w').mono ?_
    rintro e w'' ⟨rfl, rfl⟩
    go_wp2
    go_ret
    exact ⟨rfl, Below.refl _ _⟩
  · rintro e w' ⟨rfl, hb⟩
    go_wp2
    go_ret
    exact ⟨bool_ret (by rw [firstAt_not_all]; simp), (below_one _).trans (hb.mono (by simp))⟩
end Go.Proofs.YtlipkplomndjcaaGreat
namespace Go.Proofs.YtlipkplomndjcaaGreat
open Go.RowKit
set_option linter.unusedVariables false
theorem firstAt_not_allP {xs : List (Int × Int)} {p : Int × Int → Bool} : (decide (0 ≤ firstAt (fun x => !p x) xs)) = !(xs.all p) := by
  unfold firstAt
  cases h : xs.findIdx? (fun x => !p x) with
  | none => rw [List.findIdx?_eq_none_iff] at h; simp; exact fun a b hx => by simpa using h (a, b) hx
  | some i =>
    rw [List.findIdx?_eq_some_iff_getElem] at h; obtain ⟨hl, h1, _⟩ := h
    simp; exact ⟨xs[i].1, xs[i].2, List.getElem_mem hl, by simpa using h1⟩
end Go.Proofs.YtlipkplomndjcaaGreat
namespace Go.Proofs.YtlipkplomndjcaaGreat
open Go.RowKit
set_option linter.unusedVariables false
def rowB (xs : List Int) : Bool := decide (xs.length ≤ 6) && xs.all cellB
theorem rowB_le {xs : List Int} (h : rowB xs = true) : xs.length ≤ 6 := by simp [rowB] at h; exact h.1
theorem rowB_cell {xs : List Int} (h : rowB xs = true) {k : Nat} {x : Int} (hx : xs[k]? = some x) : 0 ≤ x ∧ x ≤ 127 := by
  simp only [rowB, Bool.and_eq_true, List.all_eq_true] at h
  exact cellB_true (h.2 x (List.mem_of_getElem? hx))
def fB (f : Int × Int) : Bool := faultB f.1 f.2
def areB (fs : List (Int × Int)) (r : List Int) : Bool := rowB r && (decide (fs.length = r.length) && fs.all fB)
theorem areB_fault {fs : List (Int × Int)} {r : List Int} (h : areB fs r = true) {k : Nat} {f : Int × Int} (hf : fs[k]? = some f) : 0 ≤ f.1 ∧ f.1 ≤ 127 ∧ 0 ≤ f.2 ∧ f.2 ≤ 127 := by
  simp only [areB, Bool.and_eq_true, List.all_eq_true] at h
  have := faultB_true (h.2.2 f (List.mem_of_getElem? hf))
  exact ⟨this.1, this.2.1, this.2.2.1, this.2.2.2.1⟩
theorem areB_row {fs : List (Int × Int)} {r : List Int} (h : areB fs r = true) : rowB r = true := by
  simp only [areB, Bool.and_eq_true] at h; exact h.1
theorem areB_len {fs : List (Int × Int)} {r : List Int} (h : areB fs r = true) : fs.length = r.length := by
  simp only [areB, Bool.and_eq_true, decide_eq_true_eq] at h; exact h.2.1
end Go.Proofs.YtlipkplomndjcaaGreat
namespace Go.Proofs.YtlipkplomndjcaaGreat
open Go.RowKit
set_option linter.unusedVariables false
set_option maxRecDepth 100000
theorem info_Fault : (Tryz.prog.info? 38).map (fun i => (i.zero, i.size, i.bytes)) = some (some (.agg #[.int .i64 0, .int .i64 0]), 2, 16) := by kernel_rfl
theorem flat2_rep (n : Nat) : flat2 (List.replicate n (0, 0)) = List.replicate (n * 2) (.int .i64 0) := by
  induction n with
  | zero => rfl
  | succ n ih =>
    rw [List.replicate_succ, show (n + 1) * 2 = n * 2 + 1 + 1 by omega, List.replicate_succ, List.replicate_succ, ← ih]; rfl
theorem made_two (x : Value) (n : Nat) : (madeCells #[x, x] n).toList = List.replicate n x := by
  unfold madeCells
  rw [Array.toList_map, Array.toList_range]
  apply List.ext_getElem (by simp)
  intro i h1 h2
  simp only [List.getElem_map, List.getElem_range, List.getElem_replicate]
  have h : i % (#[x, x] : Array Value).size = 0 ∨ i % (#[x, x] : Array Value).size = 1 := by
    have : (#[x, x] : Array Value).size = 2 := rfl
    rw [this]; omega
  rcases h with h | h <;> rw [h] <;> rfl
theorem set_pair {fs : List (Int × Int)} {k n : Nat} (hk : k < n) {a b : Int} {w : World} {lo g cap : Nat} {e : TypeId}
    (ho : w.ownsRow lo e 2 (.slice (some ⟨g, 0, none⟩) n cap) n (flat2 (fs ++ List.replicate (n - k) (0, 0)))) (hf : fs.length = k) :
    (w.cell? ⟨g, k * 2, none⟩ = some (.int .i64 0)) ∧ ((w.setCell ⟨g, k * 2, none⟩ (.int .i64 a)).cell? ⟨g, k * 2 + 1, none⟩ = some (.int .i64 0)) ∧ w.cell? ⟨g, k * 2 + 1, none⟩ = some (.int .i64 0) ∧ w.frozen? ⟨g, k * 2, none⟩ = false ∧ (w.setCell ⟨g, k * 2, none⟩ (.int .i64 a)).frozen? ⟨g, k * 2 + 1, none⟩ = false ∧ w.frozen? ⟨g, k * 2 + 1, none⟩ = false ∧
      ((w.setCell ⟨g, k * 2, none⟩ (.int .i64 a)).setCell ⟨g, k * 2 + 1, none⟩ (.int .i64 b)).ownsRow lo e 2 (.slice (some ⟨g, 0, none⟩) n cap) n (flat2 ((fs ++ [(a, b)]) ++ List.replicate (n - (k + 1)) (0, 0))) := by
  have h1 := ho.stored (k * 2) (.int .i64 a)
  have h2 := h1.1.stored (k * 2 + 1) (.int .i64 b)
  have hp : (fs ++ List.replicate (n - k) ((0 : Int), (0 : Int)))[k]? = some (0, 0) := by
    rw [List.getElem?_append_right (by omega), hf, Nat.sub_self, List.getElem?_replicate, if_pos (by omega)]
  have hc := flat2_at hp
  refine ⟨(ho.cellAt _ (by omega)).trans hc.1, ?_, (ho.cellAt _ (by omega)).trans hc.2, ho.frozenAt _, h1.1.frozenAt _, ho.frozenAt _, ?_⟩
  · rw [h1.1.cellAt _ (by omega), List.getElem?_set_ne (by omega)]; exact hc.2
  · have e2 : ((flat2 (fs ++ List.replicate (n - k) (0, 0))).set (k * 2) (.int .i64 a)).set (k * 2 + 1) (.int .i64 b) = flat2 ((fs ++ [(a, b)]) ++ List.replicate (n - (k + 1)) (0, 0)) := by
      rw [show n - k = (n - (k + 1)) + 1 by omega, List.replicate_succ, flat2_append, flat2_append, flat2_snoc]
      have e3 : flat2 (((0 : Int), (0 : Int)) :: List.replicate (n - (k + 1)) (0, 0)) = .int .i64 0 :: .int .i64 0 :: flat2 (List.replicate (n - (k + 1)) (0, 0)) := rfl
      rw [e3, set_two _ _ _ _ _ _ (by rw [flat2_length, hf])]; simp
    rw [← e2]; exact h2.1
end Go.Proofs.YtlipkplomndjcaaGreat
namespace Go.Proofs.YtlipkplomndjcaaGreat
open Go.RowKit
set_option linter.unusedVariables false
set_option maxRecDepth 100000
def tenI : List Int := [0, 1, 2, 3, 4, 5, 6, 7, 8, 9]
theorem tenI_fin : ∀ k : Fin 10, tenI[k.1]? = some (k.1 : Int) := by decide
theorem tenI_at {k : Nat} (h : k < 10) : tenI[k]? = some (k : Int) := tenI_fin ⟨k, h⟩
/-- those of the first n digits that show a cell under a fault -/
def digTo (d l c : Int) (n : Nat) : List Int := (tenI.take n).filter fun x => shC d l (dg x) == c
def digL (d l c : Int) : List Int := tenI.filter fun x => shC d l (dg x) == c
theorem digTo_all (d l c : Int) : digTo d l c 10 = digL d l c := rfl
theorem digTo_le (d l c : Int) (n : Nat) : (digTo d l c n).length ≤ 10 := Nat.le_trans (List.length_filter_le _ _) (by rw [List.length_take]; simp [tenI]; omega)
theorem digL_le (d l c : Int) : (digL d l c).length ≤ 10 := Nat.le_trans (List.length_filter_le _ _) (by simp [tenI])
theorem digTo_succ (d l c : Int) {n : Nat} (h : n < 10) : digTo d l c (n + 1) = digTo d l c n ++ if shC d l (dg n) == c then [(n : Int)] else [] := by
  unfold digTo
  rw [take_snoc (tenI_at h), List.filter_append]
  cases hq : (shC d l (dg n) == c) <;> simp [hq]
theorem ints_snoc (xs : List Int) (x : Int) : (xs ++ [x]).map (Value.int .i64) = xs.map (Value.int .i64) ++ [.int .i64 x] := by simp


end Go.Proofs.YtlipkplomndjcaaGreat
namespace Go.Proofs.YtlipkplomndjcaaGreat
open Go.RowKit
set_option linter.unusedVariables false
set_option maxRecDepth 100000
abbrev ints (xs : List Int) : List Value := xs.map (Value.int .i64)
/-- slices of ints of the call's own, one beside the other, none over another's array -/
def Inn (w : World) (lo : Nat) (vs : List Value) (xss : List (List Int)) : Prop :=
  vs.length = xss.length ∧ (∀ (k : Nat) (v : Value) (xs : List Int), vs[k]? = some v → xss[k]? = some xs → w.ownsRow lo 3 1 v xs.length (ints xs)) ∧
  (∀ (i j : Nat) (a b : Value), i < j → vs[i]? = some a → vs[j]? = some b → b.ownBlock = none ∨ b.ownBlock ≠ a.ownBlock)
/-- a slice of such slices -/
def OwnSS (w : World) (lo : Nat) (u : Value) (xss : List (List Int)) : Prop :=
  ∃ vs, w.ownsRow lo 24 1 u xss.length vs ∧ Inn w lo vs xss
theorem own_ne_type {w : World} {lo lo' size size' n n' : Nat} {e e' : TypeId} {v v' : Value} {xs xs' : List Value} (h : w.ownsRow lo e size v n xs) (h' : w.ownsRow lo' e' size' v' n' xs') (hne : e ≠ e') : v.ownBlock = none ∨ v.ownBlock ≠ v'.ownBlock := by
  rcases h.2 with ⟨rfl, _⟩ | ⟨g, c, cur, rfl, _, hg, _⟩
  · exact .inl rfl
  · rcases h'.2 with ⟨rfl, _⟩ | ⟨g', c', cur', rfl, _, hg', _⟩
    · right; simp [Value.ownBlock]
    · right
      intro e0
      simp [Value.ownBlock] at e0
      subst e0
      rw [hg] at hg'
      injection hg' with h1; injection h1 with _ h2; exact hne h2
theorem Inn.nil_ (w : World) (lo : Nat) : Inn w lo [] [] := ⟨rfl, fun k v xs h => by simp at h, fun i j a b _ h => by simp at h⟩
theorem Inn.keep {w w' : World} {lo : Nat} {vs : List Value} {xss : List (List Int)} (h : Inn w lo vs xss) (hb : Below w.heap.size w w') : Inn w' lo vs xss :=
  ⟨h.1, fun k v xs h1 h2 => own_keep (h.2.1 k v xs h1 h2) hb, h.2.2⟩
/-- kept while another row (of another type of element) is written -/
theorem Inn.grown {w w' : World} {lo lo' size n : Nat} {e : TypeId} {u : Value} {us : List Value} {vs : List Value} {xss : List (List Int)} (h : Inn w lo vs xss) (ho : w.ownsRow lo' e size u n us) (hne : (3 : Nat) ≠ e) (hg : w.grownBy w' u.ownBlock) : Inn w' lo vs xss :=
  ⟨h.1, fun k v xs h1 h2 => (h.2.1 k v xs h1 h2).kept hg (own_ne_type (h.2.1 k v xs h1 h2) ho hne), h.2.2⟩
theorem Inn.snoc {w : World} {lo lo2 : Nat} {vs : List Value} {xss : List (List Int)} {v : Value} {xs : List Int} (h : Inn w lo vs xss) (hv : w.ownsRow lo2 3 1 v xs.length (ints xs)) (hl : lo ≤ lo2)
    (hnew : ∀ (k : Nat) (a : Value), vs[k]? = some a → ∀ g, a.ownBlock = some g → g < lo2) : Inn w lo (vs ++ [v]) (xss ++ [xs]) := by
  refine ⟨by simp [h.1], fun k a ys h1 h2 => ?_, fun i j a b hij h1 h2 => ?_⟩
  · by_cases hk : k < vs.length
    · rw [List.getElem?_append_left hk] at h1
      rw [List.getElem?_append_left (by rw [← h.1]; exact hk)] at h2
      exact h.2.1 k a ys h1 h2
    · rw [List.getElem?_append_right (by omega)] at h1
      rw [List.getElem?_append_right (by rw [← h.1]; omega)] at h2
      have hk0 : k - vs.length = 0 := by
        by_cases hz : k - vs.length = 0
        · exact hz
        · rw [List.getElem?_eq_none (by simp; omega)] at h1; cases h1
      have hk1 : k - xss.length = 0 := by rw [← h.1]; exact hk0
      rw [hk0] at h1; rw [hk1] at h2
      simp at h1 h2
      subst h1 h2
      exact own_lo hv hl
  · by_cases hj : j < vs.length
    · rw [List.getElem?_append_left (by omega)] at h1
      rw [List.getElem?_append_left hj] at h2
      exact h.2.2 i j a b hij h1 h2
    · rw [List.getElem?_append_right (by omega)] at h2
      have hj0 : j - vs.length = 0 := by
        by_cases hz : j - vs.length = 0
        · exact hz
        · rw [List.getElem?_eq_none (by simp; omega)] at h2; cases h2
      rw [hj0] at h2; simp at h2; subst h2
      rw [List.getElem?_append_left (by omega)] at h1
      cases hb : v.ownBlock with
      | none => exact .inl rfl
      | some g =>
        right; intro e
        have h3 := (hv.lt g hb).1
        have h4 := hnew i a h1 g e.symm
        omega
theorem Inn.lt {w : World} {lo : Nat} {vs : List Value} {xss : List (List Int)} (h : Inn w lo vs xss) : ∀ (k : Nat) (a : Value), vs[k]? = some a → ∀ g, a.ownBlock = some g → g < w.heap.size := by
  intro k a ha g hg
  have hk : k < xss.length := by rw [← h.1]; exact (List.getElem?_eq_some_iff.1 ha).1
  exact ((h.2.1 k a _ ha (List.getElem?_eq_getElem hk)).lt g hg).2

/-! the groups -/
def grpOf (d l x : Int) : List Int := digL d l (shC d l (dg x))
def isHead (d l x : Int) : Bool := (grpOf d l x).headD (-1) == x
def grpTo (d l : Int) (n : Nat) : List (List Int) := ((tenI.take n).filter (isHead d l)).map (grpOf d l)
def grpL (d l : Int) : List (List Int) := grpTo d l 10
theorem grpTo_le (d l : Int) (n : Nat) : (grpTo d l n).length ≤ 10 := by
  unfold grpTo
  rw [List.length_map]
  exact Nat.le_trans (List.length_filter_le _ _) (by rw [List.length_take]; simp [tenI]; omega)
theorem grpTo_succ (d l : Int) {n : Nat} (h : n < 10) : grpTo d l (n + 1) = grpTo d l n ++ if isHead d l n then [grpOf d l n] else [] := by
  unfold grpTo
  rw [take_snoc (tenI_at h), List.filter_append, List.map_append]
  cases hq : isHead d l n <;> simp [hq]
theorem grpOf_head {d l : Int} {n : Nat} (h : n < 10) : (grpOf d l n)[0]? = some ((grpOf d l n).headD (-1)) := by
  have hm : (n : Int) ∈ grpOf d l n := by
    unfold grpOf digL
    rw [List.mem_filter]
    exact ⟨List.mem_of_getElem? (tenI_at h), by simp⟩
  cases hg : grpOf d l n with
  | nil => rw [hg] at hm; simp at hm
  | cons a t => simp
theorem ownss_snoc (xs : List Value) (v : Value) : xs ++ [v] = xs ++ [v] := rfl
theorem info_ints : (Tryz.prog.info? 24).map (fun i => (i.zero, i.size, i.bytes)) = some (some (.slice none 0 0), 1, 24) := by kernel_rfl
end Go.Proofs.YtlipkplomndjcaaGreat
namespace Go.Proofs.YtlipkplomndjcaaGreat
open Go.RowKit
set_option linter.unusedVariables false
set_option maxRecDepth 100000
/-- a value of so many ints -/
def aggI (b : List Int) : Value := .agg (ints b).toArray
def bg (b : List Int) (j : Nat) : Int := b.getD j 0
/-- the dark bars and the lit ones of a place -/
def bF (b : List Int) (k : Nat) : Int × Int := (bg b (6 + k), bg b (12 + k))
theorem ints_get {b : List Int} {j : Nat} (h : j < b.length) : (ints b).toArray[j]? = some (.int .i64 (bg b j)) := by
  simp [ints, h, bg]
/-- the cells of a Bench's box, behind whatever was made behind it -/
theorem bench_cell {w w1 : World} {b : List Int} {t : TypeId} (hb : Below (w.alloc (.cells (ints b).toArray t)).heap.size (w.alloc (.cells (ints b).toArray t)) w1) {j : Nat} (h : j < b.length) :
    w1.cell? ⟨w.heap.size, j, none⟩ = some (.int .i64 (bg b j)) := (box_after hb).1 j _ (ints_get h)
theorem bench_range {w w1 : World} {b : List Int} {t : TypeId} (hb : Below (w.alloc (.cells (ints b).toArray t)).heap.size (w.alloc (.cells (ints b).toArray t)) w1) :
    w1.rangeAt w.heap.size 0 (ints b) := fun j v h => by rw [Nat.zero_add]; exact (box_after hb).1 j v (by simpa using h)
theorem ints_one {b : List Int} : ∀ v ∈ ints b, v.oneCell' = true := fun v hv => by
  simp only [ints, List.mem_map] at hv
  obtain ⟨x, _, rfl⟩ := hv
  rfl
def fsB (b : List Int) : List (Int × Int) := (List.range 6).map (bF b)
def goodAt (b : List Int) (k : Nat) : Bool := cellB (bg b k) && fB (bF b k)
def goodTo (b : List Int) (n : Nat) : Bool := (List.range n).all (goodAt b)
def goodB (b : List Int) : Bool := goodTo b 6 && inB (bg b 18) 0 1000
theorem goodTo_succ (b : List Int) (n : Nat) : goodTo b (n + 1) = (goodTo b n && goodAt b n) := by
  unfold goodTo; rw [List.range_succ, List.all_append]; simp
theorem goodTo_bad {b : List Int} {k n : Nat} (hk : k < n) (h : goodAt b k = false) : goodTo b n = false := by
  unfold goodTo
  rw [Bool.eq_false_iff]; intro h2
  rw [List.all_eq_true] at h2
  rw [h2 k (List.mem_range.2 hk)] at h; cases h
theorem take_range {b : List Int} {n : Nat} (h : n ≤ b.length) : b.take n = (List.range n).map (bg b) := by
  apply List.ext_getElem?
  intro i
  rw [List.getElem?_take, List.getElem?_map]
  by_cases hi : i < n
  · rw [if_pos hi, List.getElem?_range hi, List.getElem?_eq_getElem (by omega)]
    simp [bg, show i < b.length by omega]
  · rw [if_neg hi, List.getElem?_eq_none (by simp; omega)]; rfl
theorem goodB_eq {b : List Int} (hb : b.length = 19) : goodB b = ((rowB (b.take 6) && (fsB b).all fB) && inB (bg b 18) 0 1000) := by
  unfold goodB goodTo rowB fsB
  congr 1
  rw [take_range (by omega), decide_eq_true (by simp), Bool.true_and, List.all_map, List.all_map, Bool.eq_iff_iff]
  simp only [Bool.and_eq_true, List.all_eq_true, goodAt, Function.comp]
  exact ⟨fun h => ⟨fun x hx => (h x hx).1, fun x hx => (h x hx).2⟩, fun h x hx => ⟨h.1 x hx, h.2 x hx⟩⟩
def fsTo (b : List Int) (n : Nat) : List (Int × Int) := (List.range n).map (bF b)
theorem fsTo_succ (b : List Int) (n : Nat) : fsTo b (n + 1) = fsTo b n ++ [bF b n] := by unfold fsTo; rw [List.range_succ, List.map_append]; rfl
theorem fsTo_len (b : List Int) (n : Nat) : (fsTo b n).length = n := by simp [fsTo]
theorem ints_box {w w1 : World} {b : List Int} {t : TypeId} (hb : Below (w.alloc (.cells (ints b).toArray t)).heap.size (w.alloc (.cells (ints b).toArray t)) w1) {n : Nat} (h : n ≤ b.length) (hm : b.length ≤ 1000) (c : Nat) (hc : n ≤ c) (hcm : c ≤ 1000) :
    Ints w1 (.slice (some ⟨w.heap.size, 0, none⟩) n c) (b.take n) := by
  have hl : (b.take n).length = n := by rw [List.length_take]; omega
  refine ⟨_, _, by rw [hl], by rw [hl]; exact hc, by unfold maxLen; omega, by simp, fun _ => ⟨_, _, rfl, fun j hj => ?_⟩⟩
  rw [hl] at hj
  rw [Nat.zero_add, bench_cell hb (by omega), List.getElem?_map, List.getElem?_take, if_pos (by omega), List.getElem?_eq_getElem (by omega)]
  simp [bg, show j < b.length by omega]
end Go.Proofs.YtlipkplomndjcaaGreat
namespace Go.Proofs.YtlipkplomndjcaaGreat
open Go.RowKit
set_option linter.unusedVariables false
set_option maxRecDepth 100000
theorem len6 {b : List Int} (h : b.length = 6) : ∃ x0 x1 x2 x3 x4 x5, b = [x0, x1, x2, x3, x4, x5] := by
  match b, h with
  | [x0, x1, x2, x3, x4, x5], _ => exact ⟨x0, x1, x2, x3, x4, x5, rfl⟩
/-- six of the ints -/
def pt (b : List Int) (o : Nat) : List Int := (b.drop o).take 6
theorem part6 {w : World} {g : Nat} {b : List Int} (h : w.rangeAt g 0 (ints b)) (o : Nat) : w.rangeAt g o (ints (pt b o)) := by
  have := range_sub h o 6
  rw [Nat.zero_add] at this
  simpa [ints, pt, List.map_take, List.map_drop] using this
theorem part6_len {b : List Int} (h : b.length = 19) {o : Nat} (ho : o ≤ 12) : (pt b o).length = 6 := by simp [pt, h]; omega
theorem cell18 {w : World} {g : Nat} {b : List Int} (h : w.rangeAt g 0 (ints b)) {j : Nat} (hj : j < b.length) : w.cell? ⟨g, j, none⟩ = some (.int .i64 (bg b j)) := by
  have := h j (.int .i64 (bg b j)) (by have := ints_get hj; simpa using this)
  rwa [Nat.zero_add] at this
theorem pt_join {b : List Int} (h : b.length = 19) : ints b = ((ints (pt b 0) ++ ints (pt b 6)) ++ ints (pt b 12)) ++ [.int .i64 (bg b 18)] := by
  have : b = ((pt b 0 ++ pt b 6) ++ pt b 12) ++ [bg b 18] := by
    match b, h with
    | [_, _, _, _, _, _, _, _, _, _, _, _, _, _, _, _, _, _, _], _ => rfl
  conv => lhs; rw [this]
  simp [ints]
end Go.Proofs.YtlipkplomndjcaaGreat
namespace Go.Proofs.YtlipkplomndjcaaGreat
open Go.RowKit
set_option linter.unusedVariables false
set_option maxRecDepth 100000
def shownTo (fs : List (Int × Int)) (r : List Int) (k : Nat) : List Int := ((fs.zip r).take k).map fun p => shC p.1.1 p.1.2 p.2
theorem shownTo_le (fs : List (Int × Int)) (r : List Int) (k : Nat) : (shownTo fs r k).length ≤ k := by simp [shownTo, List.length_take]; omega
theorem shownTo_succ {fs : List (Int × Int)} {r : List Int} {k : Nat} {f : Int × Int} {c : Int} (hf : fs[k]? = some f) (hc : r[k]? = some c) : shownTo fs r (k + 1) = shownTo fs r k ++ [shC f.1 f.2 c] := by
  have h : (fs.zip r)[k]? = some (f, c) := by rw [List.getElem?_zip_eq_some]; exact ⟨hf, hc⟩
  unfold shownTo
  rw [take_snoc h]; simp
def srL (fs : List (Int × Int)) (r : List Int) : List Int := if areB fs r then shownTo fs r r.length else []
theorem srL_le (fs : List (Int × Int)) (r : List Int) : (srL fs r).length ≤ 6 := by
  unfold srL; split
  · rename_i h; exact Nat.le_trans (shownTo_le _ _ _) (rowB_le (areB_row h))
  · simp
/-- the post of a text that returns a slice of ints of the call's own and a bool -/
def IntsPost (w : World) (L : List Int) (b : Bool) (e : Ending) (w' : World) : Prop :=
  ∃ u, e = .returned (.tuple #[u, .bool b]) ∧ w'.ownsRow w.heap.size 3 1 u L.length (L.map (Value.int .i64)) ∧ Below w.heap.size w w'
theorem IntsPost.mk' {w w' : World} {L L' : List Int} {b b' : Bool} {u : Value} (hL : L = L') (hbb : b = b') (ho : w'.ownsRow w.heap.size 3 1 u L'.length (L'.map (Value.int .i64))) (hb : Below w.heap.size w w') : IntsPost w L b (.returned (.tuple #[u, .bool b'])) w' := by
  subst hL hbb; exact ⟨u, rfl, ho, hb⟩
end Go.Proofs.YtlipkplomndjcaaGreat
namespace Go.Proofs.YtlipkplomndjcaaGreat
open Go.RowKit
set_option linter.unusedVariables false
set_option maxRecDepth 100000
def shAt (b : List Int) (k : Nat) : Int := shC (bF b k).1 (bF b k).2 (bg b k)
def shTo (b : List Int) (n : Nat) : List Int := (List.range n).map (shAt b)
theorem shTo_succ (b : List Int) (n : Nat) : shTo b (n + 1) = shTo b n ++ [shAt b n] := by unfold shTo; rw [List.range_succ, List.map_append]; rfl
theorem shTo_len (b : List Int) (n : Nat) : (shTo b n).length = n := by simp [shTo]
theorem take_succ_bg {b : List Int} {n : Nat} (h : n < b.length) : b.take (n + 1) = b.take n ++ [bg b n] := by
  rw [take_snoc (List.getElem?_eq_getElem h)]; simp [bg, h]
theorem goodB_at {b : List Int} (h : goodB b = true) {k : Nat} (hk : k < 6) : (0 ≤ (bF b k).1 ∧ (bF b k).1 ≤ 127 ∧ 0 ≤ (bF b k).2 ∧ (bF b k).2 ≤ 127) ∧ 0 ≤ bg b k ∧ bg b k ≤ 127 := by
  unfold goodB goodTo at h
  simp only [Bool.and_eq_true, List.all_eq_true, List.mem_range] at h
  have := h.1 k hk
  unfold goodAt fB at this
  simp only [Bool.and_eq_true] at this
  have h1 := faultB_true this.2
  exact ⟨⟨h1.1, h1.2.1, h1.2.2.1, h1.2.2.2.1⟩, cellB_true this.1⟩
theorem bg_pt {b : List Int} (h : b.length = 19) {k : Nat} (hk : k < 6) : bg (pt b 0) k = bg b k := by
  unfold bg pt; simp [hk]
theorem ints_cells {w : World} {ad : Addr} {n c : Nat} {xs : List Int} (h : Ints w (.slice (some ad) n c) xs) : ∀ j u, (ints xs)[j]? = some u → w.cell? (ad.add j) = some u := by
  intro j u hu
  obtain ⟨a, c', e, _, _, HC⟩ := h.parts
  simp only [ints, List.getElem?_map, Option.map_eq_some_iff] at hu
  obtain ⟨x, hx, rfl⟩ := hu
  obtain ⟨b, off, e2, hc⟩ := HC.out j x hx
  injection e with e1 e3 e4
  rw [e2] at e1
  injection e1 with e5
  subst e5
  rw [Addr.add_lit]; exact hc
theorem Clone_c (v : Value) (xs : List Int) (w : World) (hv : Ints w v xs) (hn : xs.length ≤ 1048576) :
    Calls Tryz.prog 60 #[v] w fun e w' => ∃ u, e = .returned u ∧ w'.ownsRow w.heap.size 3 1 u xs.length (ints xs) ∧ Below w.heap.size w w' := by
  obtain ⟨i, hi, hz0, hz1, hz2⟩ := info_parts info_int
  have hv0 := hv
  obtain ⟨a, c, rfl, _, _, _⟩ := hv.parts
  cases a with
  | none =>
    have hx : xs = [] := by
      obtain ⟨a', c', e, _, _, HC⟩ := hv0.parts
      cases xs with
      | nil => rfl
      | cons x t =>
        obtain ⟨b, off, e2, _⟩ := HC.out 0 x rfl
        injection e with e1
        rw [e2] at e1; cases e1
    subst hx
    have hnil := fun (w : World) => Lib.run_eql_slice_nil (P := Tryz.prog) w 24 3 none 0 c 0 0 Tryz.underlying24
    simp only [List.length_nil, List.map_nil]
    go_enter Tryz.func60, Tryz.ntmps60
    go_wp2
    go_ret
    exact ⟨_, rfl, World.ownsRow_nil _ _ _ _, by (repeat (first | exact Below.refl _ _ | exact (Below.refl _ _).drew | assumption | exact below_one _ | refine Below.chain ?_ (by assumption) | refine Below.drew ?_ | refine Below.alc ?_ _ | refine below_drewN ?_ | (refine Below.setCell ?_ ?_ _) | exact Nat.le_refl _ | (simp; done) | (simp; omega)))⟩
  | some ad =>
    have hc := ints_cells (hv.below (below_one (.cells #[] 3)))
    have ho0 := World.ownsRow_lit (e := 3) (size := 1) (base := w.heap.size) w #[] 0 (Nat.le_refl _) (by decide) rfl
    have HC := Lib.hid hc
    clear hc hv hv0
    have hnil := fun (w : World) => Lib.run_eql_slice_nil (P := Tryz.prog) w 24 3 (some ad) xs.length c 0 0 Tryz.underlying24
    go_enter Tryz.func60, Tryz.ntmps60
    go_wp2_with (at_builtin; refine wpList_append_own_at _ rfl _ _ 24 rfl w.heap.size 3 i (.int .i64 0) 1 8 Tryz.underlying24 hi hz0 hz1 hz2 rfl (by decide) _ 0 [] rfl ho0 ad xs.length c (ints xs) rfl (by simp) HC.out ints_one (by unfold maxLen; omega) (by omega) (by simp) ?_)
    intro v' w1 ho1 hg1 _ _
    have hb1 : Below w.heap.size w w1 := (below_one _).grown hg1 (by simp) (fun g hg => (ho0.lt g hg).1)
    go_wp2
    go_ret
    exact ⟨_, rfl, ownsRow_cast ho1 (by simp) (by simp), hb1⟩
/-- the cells of a Bench, sent or shown -/
def rowOf (b : List Int) (s : Bool) (n : Nat) : List Int := if s then shTo b n else b.take n
theorem rowOf_len {b : List Int} (hb : b.length = 19) (s : Bool) {n : Nat} (h : n ≤ 6) : (rowOf b s n).length = n := by
  unfold rowOf; split
  · exact shTo_len _ _
  · rw [List.length_take]; omega
theorem rowOf_succ {b : List Int} (hb : b.length = 19) (s : Bool) {n : Nat} (h : n < 6) : rowOf b s (n + 1) = rowOf b s n ++ [if s then shAt b n else bg b n] := by
  unfold rowOf; split
  · exact shTo_succ _ _
  · exact take_succ_bg (by omega)
theorem range_grown {w w' : World} {g o : Nat} {cs : List Value} {r : Option Nat} (h : w.rangeAt g o cs) (hg : w.grownBy w' r) (hr : some g ≠ r) : w'.rangeAt g o cs := fun j v hv =>
  hg.cell (h j v hv) hr
/-- what SentRow and BenchRow return -/
def brL (b : List Int) (s : Bool) : List Int := if goodB b then rowOf b s 6 else []
theorem brL_le (b : List Int) (s : Bool) : (brL b s).length ≤ 6 := by
  unfold brL rowOf; split
  · split
    · rw [shTo_len]; omega
    · rw [List.length_take]; omega
  · simp
end Go.Proofs.YtlipkplomndjcaaGreat
