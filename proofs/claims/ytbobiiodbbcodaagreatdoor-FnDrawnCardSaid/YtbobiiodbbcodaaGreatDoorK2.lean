/- Texts of this claim, gathered: Code, OpenY, Ones, All, State, Frac, AllFault, RowsOf. -/
import Derived.Test.YtbobiiodbbcodaaGreatDoorK1
import Derived.Laws.AppendOwnNone
import Derived.Deep.RegionHeld3
namespace Go.Proofs.YtbobiiodbbcodaaGreatDoor
open Go.RowKit
set_option linter.unusedVariables false
set_option maxRecDepth 100000

/-- A slice of the bytes xs. -/
def Code (w : World) (v : Value) (xs : List Nat) : Prop :=
  ∃ a c, v = .slice a xs.length c ∧ xs.length ≤ c ∧ c ≤ 9223372036854775807 ∧ (a = none → c = 0) ∧ ∀ (k x : Nat), xs[k]? = some x → ∃ b off, a = some ⟨b, off, none⟩ ∧ x ≤ 255 ∧ w.cell? ⟨b, off + k, none⟩ = some (.int .u8 (x : Int))
theorem Code.keep {w w' : World} {v : Value} {xs : List Nat} (h : Code w v xs) (hk : ∀ b o x, w.cell? ⟨b, o, none⟩ = some x → w'.cell? ⟨b, o, none⟩ = some x) : Code w' v xs := by
  obtain ⟨a, c, rfl, h1, h2, h0, h3⟩ := h
  refine ⟨a, c, rfl, h1, h2, h0, fun k x hx => ?_⟩
  obtain ⟨b, off, e, hx, hc⟩ := h3 k x hx
  exact ⟨b, off, e, hx, hk _ _ _ hc⟩
theorem Code.below {w w' : World} {v : Value} {xs : List Nat} (h : Code w v xs) (hb : Below w.heap.size w w') : Code w' v xs := h.keep fun b o x hx => cell_later hb hx
theorem Code.bys {w : World} {v : Value} {xs : List Nat} (h : Code w v xs) : Bys w v w.heap.size := by
  obtain ⟨a, c, rfl, h1, h2, h0, h3⟩ := h
  refine ⟨a, c, xs, rfl, h1, h2, fun k x hx => ?_⟩
  obtain ⟨b, off, e, hx, hc⟩ := h3 k x hx
  exact ⟨b, off, e, World.block_lt_of_cell? _ _ hc, hx, hc⟩
theorem Code.own {w : World} {v : Value} {lo : Nat} {xs : List Nat} (h : w.ownsRow lo 5 1 v xs.length (xs.map fun (x : Nat) => Value.int .u8 (x : Int))) (h255 : ∀ x ∈ xs, x ≤ 255) : Code w v xs := by
  obtain ⟨h1, h2⟩ := h
  rcases h2 with ⟨rfl, h0⟩ | ⟨g, cap, cur, rfl, hb, hg, hn, hc, hs, ht⟩
  · have : xs = [] := List.eq_nil_of_length_eq_zero (by simpa using h0)
    subst this
    exact ⟨none, 0, rfl, by simp, by omega, fun _ => rfl, fun k x hx => by simp at hx⟩
  · refine ⟨_, _, rfl, hn, by unfold maxLen at hc; omega, fun e => (by cases e), fun k x hx => ⟨g, 0, rfl, h255 x (List.mem_of_getElem? hx), ?_⟩⟩
    have hlt := (List.getElem?_eq_some_iff.1 hx).1
    rw [Nat.zero_add, cell_of_row w g k cur 5 (0, 0) hg, ← Array.getElem?_toList]
    have h3 : (cur.toList.take (xs.length * 1))[k]? = some (Value.int .u8 (x : Int)) := by rw [ht, List.getElem?_map, hx]; rfl
    rw [List.getElem?_take, if_pos (by omega)] at h3
    exact h3
/-- the cursor that a draw makes -/
theorem cur_new {w : World} {v : Value} {xs : List Nat} (h : Code w v xs) : CurAt (w.alloc (.cells #[v, .int .i64 0, .int .u64 0] 53)) w.heap.size 0 := by
  have hb := Bk.new w 53 #[v, .int .i64 0, .int .u64 0]
  exact ⟨⟨v, hb.cell 0, h.bys.keep fun b o x hlt hx => cell_later (below_one _) hx⟩, ⟨0, Nat.le_refl _, hb.cell 1⟩, ⟨0, hb.cell 2⟩, hb.frozen 1, hb.frozen 2⟩
/-- behind a draw nothing that was there has been turned -/
theorem draw_below {w w' : World} {o : Obj} {m : Nat} (h : CStep (w.alloc o) w' w.heap.size m) : Below w.heap.size w w' := (below_one o).trans (h.low (Nat.le_refl _) (by simp))
theorem vBig_c (v : Value) (xs : List Nat) (w : World) (h : Code w v xs) : Calls Tryz.prog 4 #[v] w fun e w' => e = .returned (.bool (decide (65536 < xs.length))) ∧ w = w' := by
  obtain ⟨a, c, rfl, _⟩ := h
  go_enter Tryz.func4, Tryz.ntmps4
  go_wp2
  go_ret
  exact ⟨bool_ret (by rw [decide_eq_decide]; omega), rfl⟩
theorem info_u8 : (Tryz.prog.info? 5).map (fun i => (i.zero, i.size, i.bytes)) = some (some (.int .u8 0), 1, 1) := by kernel_rfl
theorem vCut_c (n : Nat) (v : Value) (xs : List Nat) (w : World) (h : Code w v xs) (hx : xs.length ≤ 1000000) (hn : n ≤ 100) : Calls Tryz.prog 13 #[v, .int .i64 (n : Int)] w fun e w' => ∃ v' ys, e = .returned v' ∧ Code w' v' ys ∧ ys.length ≤ xs.length + 1 ∧ Below w.heap.size w w' := by
  obtain ⟨i, hi, hz0, hz1, hz2⟩ := info_parts info_u8
  have HC := Lib.hid h
  obtain ⟨a, c, rfl, hc, hc2, h0, h3⟩ := h
  have H3 := Lib.hid h3
  have HO : Hid ((w.alloc (.cells #[] 5)).ownsRow w.heap.size 5 1 (.slice (some ⟨w.heap.size, 0, none⟩) 0 0) 0 []) := World.ownsRow_lit (e := 5) (size := 1) (base := w.heap.size) w #[] 0 (Nat.le_refl _) (by decide) rfl
  clear h3
  have H255 : Hid (∀ x ∈ xs, x ≤ 255) := by
    intro x hx
    obtain ⟨k, hk⟩ := List.mem_iff_getElem?.1 hx
    obtain ⟨b, off, _, h, _⟩ := H3.out k x hk
    exact h
  cases a with
  | none =>
    have hxs : xs = [] := by
      cases xs with
      | nil => rfl
      | cons x l => obtain ⟨b, off, e, _⟩ := H3.out 0 x rfl; cases e
    subst hxs
    obtain rfl := h0 rfl
    have HB : Hid (Below w.heap.size w (w.alloc (.cells #[] 5))) := below_one _
    clear hc hc2 h0 HC
    by_cases hn0 : 0 < n
    · have hn1 : (0 : Int) < (n : Int) := by omega
      go_enter Tryz.func13, Tryz.ntmps13
      go_wp2_with (first | (at_builtin; refine wpList_append_own_none rfl _ _ 22 rfl w.heap.size 5 i 1 Tryz.underlying22 hi _ 0 [] rfl HO.out rfl ?_) | (at_builtin; refine wpList_append_own_at _ rfl _ _ 22 rfl w.heap.size 5 i (.int .u8 0) 1 1 Tryz.underlying22 hi hz0 hz1 hz2 rfl (by decide) _ 0 ([] : List Value) rfl (HO.out.alloc _) ⟨w.heap.size + 1, 0, none⟩ 1 1 [.int .u8 0] rfl rfl (by have h := news_new (w.alloc (.cells #[] 5)) [.int .u8 0] 5; rw [World.size_alloc] at h; exact h) (by simp [Value.oneCell']) (by unfold maxLen; omega) (by omega) (by have := HB.out.size; simp; omega) ?_))
      intro v2 w2 ho2 hg2 _ _
      have hb2 : Below w.heap.size w w2 := (Below.alc HB.out _).grown hg2 (by have := HB.out.size; simp; omega) (fun k hk => ((HO.out.alloc (.cells #[.int .u8 0] 5)).lt k hk).1)
      go_wp2
      go_ret
      exact ⟨_, [0], rfl, Code.own (ownsRow_cast ho2 (by simp) (by simp)) (by intro x hx; simp at hx; omega), by simp, hb2⟩
    · obtain rfl : n = 0 := by omega
      go_enter Tryz.func13, Tryz.ntmps13
      go_wp2_with (first | (at_builtin; refine wpList_append_own_none rfl _ _ 22 rfl w.heap.size 5 i 1 Tryz.underlying22 hi _ 0 [] rfl HO.out rfl ?_) | (at_builtin; refine wpList_append_own_at _ rfl _ _ 22 rfl w.heap.size 5 i (.int .u8 0) 1 1 Tryz.underlying22 hi hz0 hz1 hz2 rfl (by decide) _ 0 ([] : List Value) rfl (HO.out.alloc _) ⟨w.heap.size + 1, 0, none⟩ 1 1 [.int .u8 0] rfl rfl (by have h := news_new (w.alloc (.cells #[] 5)) [.int .u8 0] 5; rw [World.size_alloc] at h; exact h) (by simp [Value.oneCell']) (by unfold maxLen; omega) (by omega) (by have := HB.out.size; simp; omega) ?_))
      intro v2 w2 ho2 hg2 _ _
      have hb2 : Below w.heap.size w w2 := (Below.alc HB.out _).grown hg2 (by have := HB.out.size; simp; omega) (fun k hk => ((HO.out.alloc (.cells #[.int .u8 0] 5)).lt k hk).1)
      go_wp2
      go_ret
      exact ⟨_, [0], rfl, Code.own (ownsRow_cast ho2 (by simp) (by simp)) (by intro x hx; simp at hx; omega), by simp, hb2⟩
  | some ad =>
    clear h0 HC
    have HB : Hid (Below w.heap.size w (w.alloc (.cells #[] 5))) := below_one _
    by_cases hlt : xs.length < n
    · have hlt2 : (xs.length : Int) < (n : Int) := by omega
      have hl100 : xs.length ≤ 100 := by omega
      generalize xs.length = l at *
      by_cases hcn : c = l
      · subst hcn
        go_enter Tryz.func13, Tryz.ntmps13
        go_wp2_with (at_builtin; refine wpList_append_own_at _ rfl _ _ 22 rfl w.heap.size 5 i (.int .u8 0) 1 1 Tryz.underlying22 hi hz0 hz1 hz2 rfl (by decide) _ 0 [] rfl HO.out _ 0 _ [] rfl rfl (by intro j u hu; simp at hu) (by simp) (by decide) (by decide) (by simp) ?_)
        intro v1 w1 ho1 hg1 _ _
        have HB1 : Hid (Below w.heap.size w w1) := (below_one _).grown hg1 (by simp) (fun k hk => by simp [Value.ownBlock] at hk; omega)
        have HO1 := Lib.hid ho1
        clear ho1 hg1 HB
        have HB := HB1
        go_wp2_with (at_builtin; refine wpList_append_own_at _ rfl _ _ 22 rfl w.heap.size 5 i (.int .u8 0) 1 1 Tryz.underlying22 hi hz0 hz1 hz2 rfl (by decide) _ (0 + 0) ([] ++ [] : List Value) rfl (HO1.out.alloc _) ⟨w1.heap.size, 0, none⟩ 1 1 [.int .u8 (c : Nat)] rfl rfl (news_new _ [.int .u8 (c : Nat)] _) (by simp [Value.oneCell']) (by unfold maxLen; omega) (by omega) (by have := HB.out.size; simp; omega) ?_)
        intro v2 w2 ho2 hg2 _ _
        have hb2 : Below w.heap.size w w2 := (Below.alc HB.out _).grown hg2 (by have := HB.out.size; simp; omega) (fun k hk => ((HO1.out.alloc (.cells #[.int .u8 (c : Nat)] 5)).lt k hk).1)
        go_wp2
        go_ret
        exact ⟨_, [c], rfl, Code.own (ownsRow_cast ho2 (by simp) (by simp)) (by intro x hx; simp at hx; omega), by simp, hb2⟩
      · have hcn1 : (c = l) = False := eq_false hcn
        go_enter Tryz.func13, Tryz.ntmps13
        go_wp2_with (at_builtin; refine wpList_append_own_at _ rfl _ _ 22 rfl w.heap.size 5 i (.int .u8 0) 1 1 Tryz.underlying22 hi hz0 hz1 hz2 rfl (by decide) _ 0 [] rfl HO.out _ 0 _ [] rfl rfl (by intro j u hu; simp at hu) (by simp) (by decide) (by decide) (by simp) ?_)
        intro v1 w1 ho1 hg1 _ _
        have HB1 : Hid (Below w.heap.size w w1) := (below_one _).grown hg1 (by simp) (fun k hk => by simp [Value.ownBlock] at hk; omega)
        have HO1 := Lib.hid ho1
        clear ho1 hg1 HB
        have HB := HB1
        go_wp2_with (at_builtin; refine wpList_append_own_at _ rfl _ _ 22 rfl w.heap.size 5 i (.int .u8 0) 1 1 Tryz.underlying22 hi hz0 hz1 hz2 rfl (by decide) _ (0 + 0) ([] ++ [] : List Value) rfl (HO1.out.alloc _) ⟨w1.heap.size, 0, none⟩ 1 1 [.int .u8 (l : Nat)] rfl rfl (news_new _ [.int .u8 (l : Nat)] _) (by simp [Value.oneCell']) (by unfold maxLen; omega) (by omega) (by have := HB.out.size; simp; omega) ?_)
        intro v2 w2 ho2 hg2 _ _
        have hb2 : Below w.heap.size w w2 := (Below.alc HB.out _).grown hg2 (by have := HB.out.size; simp; omega) (fun k hk => ((HO1.out.alloc (.cells #[.int .u8 (l : Nat)] 5)).lt k hk).1)
        go_wp2
        go_ret
        exact ⟨_, [l], rfl, Code.own (ownsRow_cast ho2 (by simp) (by simp)) (by intro x hx; simp at hx; omega), by simp, hb2⟩
    · have hlt2 : ¬ (xs.length : Int) < (n : Int) := by omega
      by_cases hle : xs.length = n
      · subst hle
        generalize xs.length = l at *
        by_cases hcn : c = l
        · subst hcn
          go_enter Tryz.func13, Tryz.ntmps13
          go_wp2_with (at_builtin; refine wpList_append_own_at _ rfl _ _ 22 rfl w.heap.size 5 i (.int .u8 0) 1 1 Tryz.underlying22 hi hz0 hz1 hz2 rfl (by decide) _ 0 [] rfl HO.out _ 0 _ [] rfl rfl (by intro j u hu; simp at hu) (by simp) (by decide) (by decide) (by simp) ?_)
          intro v1 w1 ho1 hg1 _ _
          have HB1 : Hid (Below w.heap.size w w1) := (below_one _).grown hg1 (by simp) (fun k hk => by simp [Value.ownBlock] at hk; omega)
          have HO1 := Lib.hid ho1
          clear ho1 hg1 HB
          have HB := HB1
          go_wp2_with (at_builtin; refine wpList_append_own_at _ rfl _ _ 22 rfl w.heap.size 5 i (.int .u8 0) 1 1 Tryz.underlying22 hi hz0 hz1 hz2 rfl (by decide) _ (0 + 0) ([] ++ [] : List Value) rfl (HO1.out.alloc _) ⟨w1.heap.size, 0, none⟩ 1 1 [.int .u8 (c : Nat)] rfl rfl (news_new _ [.int .u8 (c : Nat)] _) (by simp [Value.oneCell']) (by unfold maxLen; omega) (by omega) (by have := HB.out.size; simp; omega) ?_)
          intro v2 w2 ho2 hg2 _ _
          have hb2 : Below w.heap.size w w2 := (Below.alc HB.out _).grown hg2 (by have := HB.out.size; simp; omega) (fun k hk => ((HO1.out.alloc (.cells #[.int .u8 (c : Nat)] 5)).lt k hk).1)
          go_wp2
          go_ret
          exact ⟨_, [c], rfl, Code.own (ownsRow_cast ho2 (by simp) (by simp)) (by intro x hx; simp at hx; omega), by simp, hb2⟩
        · have hcn1 : (c = l) = False := eq_false hcn
          go_enter Tryz.func13, Tryz.ntmps13
          go_wp2_with (at_builtin; refine wpList_append_own_at _ rfl _ _ 22 rfl w.heap.size 5 i (.int .u8 0) 1 1 Tryz.underlying22 hi hz0 hz1 hz2 rfl (by decide) _ 0 [] rfl HO.out _ 0 _ [] rfl rfl (by intro j u hu; simp at hu) (by simp) (by decide) (by decide) (by simp) ?_)
          intro v1 w1 ho1 hg1 _ _
          have HB1 : Hid (Below w.heap.size w w1) := (below_one _).grown hg1 (by simp) (fun k hk => by simp [Value.ownBlock] at hk; omega)
          have HO1 := Lib.hid ho1
          clear ho1 hg1 HB
          have HB := HB1
          go_wp2_with (at_builtin; refine wpList_append_own_at _ rfl _ _ 22 rfl w.heap.size 5 i (.int .u8 0) 1 1 Tryz.underlying22 hi hz0 hz1 hz2 rfl (by decide) _ (0 + 0) ([] ++ [] : List Value) rfl (HO1.out.alloc _) ⟨w1.heap.size, 0, none⟩ 1 1 [.int .u8 (l : Nat)] rfl rfl (news_new _ [.int .u8 (l : Nat)] _) (by simp [Value.oneCell']) (by unfold maxLen; omega) (by omega) (by have := HB.out.size; simp; omega) ?_)
          intro v2 w2 ho2 hg2 _ _
          have hb2 : Below w.heap.size w w2 := (Below.alc HB.out _).grown hg2 (by have := HB.out.size; simp; omega) (fun k hk => ((HO1.out.alloc (.cells #[.int .u8 (l : Nat)] 5)).lt k hk).1)
          go_wp2
          go_ret
          exact ⟨_, [l], rfl, Code.own (ownsRow_cast ho2 (by simp) (by simp)) (by intro x hx; simp at hx; omega), by simp, hb2⟩
      · have hcn1 : (c = n) = False := eq_false (by omega)
        have HN : ∀ (j : Nat) u, ((xs.drop n).map fun (x : Nat) => Value.int .u8 (x : Int))[j]? = some u → (w.alloc (.cells #[] 5)).cell? ((ad.add n).add j) = some u := by
          intro j u hu
          rw [List.getElem?_map, List.getElem?_drop] at hu
          obtain ⟨x, hx, rfl⟩ := Option.map_eq_some_iff.1 hu
          obtain ⟨b, off, e, _, hc⟩ := H3.out (n + j) x hx
          cases e
          rw [Addr.add_lit, Addr.add_lit, Nat.add_assoc]
          exact cell_later (below_one _) hc
        have HL : Hid (((xs.drop n).map fun (x : Nat) => Value.int .u8 (x : Int)).length = (xs.length - n) * 1) := by show _ = _; simp
        have H1 : Hid (∀ u ∈ ((xs.drop n).map fun (x : Nat) => Value.int .u8 (x : Int)), u.oneCell' = true) := by intro u hu; obtain ⟨y, _, rfl⟩ := List.mem_map.1 hu; rfl
        have HF : Hid (∀ w' v', w'.ownsRow w.heap.size 5 1 v' (xs.length - n + 1) (((xs.drop n).map fun (x : Nat) => Value.int .u8 (x : Int)) ++ [.int .u8 (n : Int)]) → ∃ ys, Code w' v' ys ∧ ys.length ≤ xs.length + 1) :=
          fun w' v' ho => ⟨xs.drop n ++ [n], Code.own (ownsRow_cast ho (by simp) (by simp)) (fun x hx => (List.mem_append.1 hx).elim (fun h => H255.out x (List.mem_of_mem_drop h)) (fun h => by have := List.mem_singleton.1 h; omega)), by simp⟩
        have hle2 : n ≤ xs.length := by omega
        generalize ((xs.drop n).map fun (x : Nat) => Value.int .u8 (x : Int)) = news at *
        have HN2 := Lib.hid HN
        clear HN
        go_enter Tryz.func13, Tryz.ntmps13
        go_wp2_with (at_builtin; refine wpList_append_own_at _ rfl _ _ 22 rfl w.heap.size 5 i (.int .u8 0) 1 1 Tryz.underlying22 hi hz0 hz1 hz2 rfl (by decide) _ 0 [] rfl HO.out (ad.add n) (xs.length - n) (c - n) news rfl HL.out HN2.out H1.out (by unfold maxLen; omega) (by omega) (by simp) ?_)
        intro v1 w1 ho1 hg1 _ _
        have HB1 : Hid (Below w.heap.size w w1) := (below_one _).grown hg1 (by simp) (fun k hk => by simp [Value.ownBlock] at hk; omega)
        have HO1 := Lib.hid ho1
        clear ho1 hg1 HB
        have HB := HB1
        go_wp2_with (at_builtin; revert HO1)
        intro HO1
        refine wpList_append_own_at _ rfl _ _ 22 rfl w.heap.size 5 i (.int .u8 0) 1 1 Tryz.underlying22 hi hz0 hz1 hz2 rfl (by decide) _ (xs.length - n) news rfl (HO1.out.alloc _) ⟨w1.heap.size, 0, none⟩ 1 1 [.int .u8 (n : Nat)] rfl rfl (news_new _ [.int .u8 (n : Nat)] _) (by simp [Value.oneCell']) (by unfold maxLen; omega) (by omega) (by have := HB.out.size; simp; omega) ?_
        intro v2 w2 ho2 hg2 _ _
        have hb2 : Below w.heap.size w w2 := (Below.alc HB.out _).grown hg2 (by have := HB.out.size; simp; omega) (fun k hk => ((HO1.out.alloc (.cells #[.int .u8 (n : Nat)] 5)).lt k hk).1)
        obtain ⟨ys, hys, hyl⟩ := HF.out w2 v2 ho2
        go_wp2
        go_ret
        exact ⟨_, ys, rfl, hys, hyl, hb2⟩
end Go.Proofs.YtbobiiodbbcodaaGreatDoor
namespace Go.Proofs.YtbobiiodbbcodaaGreatDoor
open Go.ChangeShapes Go.WideShapes Go.ChangeAt Go.RowKit Go.Joins Go.Deep
set_option linter.unusedVariables false
set_option maxRecDepth 100000
section
variable {H : Type} {enc : TypeId × Value → H} {w : World} {base : Nat} {spare : Nat → Bool} {held : Bool}
theorem u8_wf {n : Int} (h : (Lit.int .u8 n).wf = true) : 0 ≤ n ∧ n ≤ 255 := by
  simp only [Lit.wf, Bool.and_eq_true, decide_eq_true_eq] at h
  have h0 : IntKind.u8.min = 0 := by decide
  have h1 : IntKind.u8.max = 255 := by decide
  omega
theorem open_bytes {r : Reach} {b0 : Nat} {v : Value} {d : DataW H} {p : List MemPlace} (hv : Value.okWide Tryz.prog w r b0 22 v) (h : DataW.Trod enc Tryz.prog w base spare held 22 v d p) : ∃ xs, Code w v xs := by
  obtain ⟨a0, len0, cap0, rfl⟩ := okWide_slice Tryz.underlying22 hv
  obtain ⟨fuel, hf⟩ := h
  rcases open_ints Tryz.underlying22 Tryz.underlying5 (by kernel_rfl) hf with ⟨hcs, _⟩ | ⟨x, l, c, zs, hcs, _, hl, hm, hz, _, hcell, hwz⟩
  · simp [Value.cells] at hcs
    obtain ⟨rfl, rfl, rfl⟩ := hcs
    exact ⟨[], none, 0, rfl, by simp, by omega, fun _ => rfl, fun k x hx => by simp at hx⟩
  · simp [Value.cells] at hcs
    obtain ⟨rfl, rfl, rfl⟩ := hcs
    refine ⟨(zs.take len0).map Int.toNat, ?_⟩
    have hlc : len0 ≤ zs.length := by
      revert hz; cases spare x.block <;> simp <;> omega
    have hlen : ((zs.take len0).map Int.toNat).length = len0 := by rw [List.length_map, List.length_take, Nat.min_eq_left hlc]
    refine ⟨some x, cap0, by rw [hlen], by rw [hlen]; exact hl, by unfold maxLen at hm; omega, (fun e => by cases e), fun k y hy => ?_⟩
    have hk : k < len0 := by have := (List.getElem?_eq_some_iff.1 hy).1; omega
    obtain ⟨b, off, spot⟩ := x
    have h0 := hcell 0 (by omega)
    have hs : spot = none := by
      cases spot with
      | none => rfl
      | some s =>
        exfalso
        unfold Addr.add at h0; simp [World.cell?] at h0
        split at h0 <;> simp_all
    subst hs
    have hkz : k < zs.length := by omega
    rw [List.getElem?_map, List.getElem?_take, if_pos hk, List.getElem?_eq_getElem hkz] at hy
    simp only [Option.map_some, Option.some.injEq] at hy
    have hw := u8_wf (hwz zs[k] (List.getElem_mem hkz))
    refine ⟨b, off, rfl, by omega, ?_⟩
    have := hcell k hkz
    rw [Addr.add_lit] at this
    rw [this]
    have e : zs.getD k 0 = (y : Int) := by simp [hkz]; omega
    rw [e]
end
end Go.Proofs.YtbobiiodbbcodaaGreatDoor
namespace Go.Proofs.YtbobiiodbbcodaaGreatDoor
open Go.RowKit
set_option linter.unusedVariables false
set_option maxRecDepth 100000
/-- the number of bars of a cell that light -/
def cnt (c : Int) : Int := ((List.range 7).map fun (i : Nat) => ((c.toNat / 2 ^ i % 2 : Nat) : Int)).sum
def on1 (x : Int) : Int := IntKind.u64.wrap (bits .and .u64 (x / 2) 6148914691236517205 + bits .and .u64 x 6148914691236517205)
def on2 (x : Int) : Int := IntKind.u64.wrap (bits .and .u64 (x / 4) 3689348814741910323 + bits .and .u64 x 3689348814741910323)
def on3 (x : Int) : Int := bits .and .u64 (IntKind.u64.wrap (x / 16 + x)) 1085102592571150095
def on4 (x : Int) : Int := IntKind.u64.wrap (x + x / 256)
def on5 (x : Int) : Int := IntKind.u64.wrap (x + x / 65536)
def on6 (x : Int) : Int := IntKind.u64.wrap (x + x / 4294967296)
def onesF (x : Int) : Int := on6 (on5 (on4 (on3 (on2 (on1 x)))))
theorem onesF_all : ∀ c : Fin 128, onesF (c.1 : Int) = cnt (c.1 : Int) ∧ 0 ≤ cnt (c.1 : Int) ∧ cnt (c.1 : Int) ≤ 7 ∧ bits .and .i64 (wrap64 (cnt (c.1 : Int))) 127 = cnt (c.1 : Int) := by decide +kernel
theorem Ones64_c (c : Nat) (hc : c < 128) (w : World) : Calls Tryz.prog 91 #[.int .u64 c] w fun e w' => e = .returned (.int .i64 (cnt c)) ∧ w = w' := by
  have h0 : (0 : Int) ≤ c := by omega
  have h1 : (c : Int) ≤ 127 := by omega
  have H := Lib.hid (onesF_all ⟨c, hc⟩)
  go_enter Tryz.func91, Tryz.ntmps91
  go_wp2
  go_ret
  refine ⟨?_, rfl⟩
  refine int_ret ?_
  show bits .and .i64 (wrap64 (onesF (c : Int))) 127 = cnt (c : Int)
  rw [H.out.1]; exact H.out.2.2.2
theorem Ones_c (c : Nat) (hc : c < 128) (w : World) : Calls Tryz.prog 81 #[.int .u64 c] w fun e w' => e = .returned (.int .i64 (cnt c)) ∧ w = w' := by
  have h0 : (0 : Int) ≤ c := by omega
  have h1 : (c : Int) ≤ 127 := by omega
  go_enter Tryz.func81, Tryz.ntmps81
  go_wp2_with fail
  refine (Ones64_c c hc _).mono ?_
  rintro e w' ⟨rfl, rfl⟩
  go_wp2
  go_ret
  exact ⟨rfl, rfl⟩
theorem count_c (c : Int) (h0 : 0 ≤ c) (h1 : c ≤ 127) (w : World) : Calls Tryz.prog 62 #[.int .i64 c] w fun e w' => e = .returned (.int .i64 (cnt c)) ∧ w = w' := by
  obtain ⟨n, rfl⟩ := Int.eq_ofNat_of_zero_le h0
  go_enter Tryz.func62, Tryz.ntmps62
  go_wp2_with fail
  refine (Ones_c n (by omega) _).mono ?_
  rintro e w' ⟨rfl, rfl⟩
  go_wp2
  go_ret
  exact ⟨rfl, rfl⟩
def cntTo (c : Int) (k : Nat) : Int := ((List.range k).map fun (i : Nat) => ((c.toNat / 2 ^ i % 2 : Nat) : Int)).sum
theorem cntTo_fin : ∀ (c : Fin 128) (k : Fin 7), cntTo (c.1 : Int) (k.1 + 1) = cntTo (c.1 : Int) k.1 + ((c.1 / 2 ^ k.1 % 2 : Nat) : Int) ∧ 0 ≤ cntTo (c.1 : Int) k.1 ∧ cntTo (c.1 : Int) k.1 ≤ 7 := by decide +kernel
theorem bit_at (n k : Nat) (hn : n < 128) : bits .and .i64 ((n : Int) / 2 ^ k) 1 = ((n / 2 ^ k % 2 : Nat) : Int) := by
  have e : ((n : Int) / 2 ^ k) = ((n / 2 ^ k : Nat) : Int) := by simp
  have hle : n / 2 ^ k ≤ n := Nat.div_le_self _ _
  rw [e, show (1 : Int) = ((1 : Nat) : Int) from rfl, i64_and_nat _ 1 (by omega) (by omega), Nat.and_one_is_mod]
theorem l2Count_c (c : Int) (h0 : 0 ≤ c) (h1 : c ≤ 127) (w : World) : Calls Tryz.prog 45 #[.int .i64 c] w fun e w' => e = .returned (.int .i64 (cnt c)) ∧ w = w' := by
  obtain ⟨n, rfl⟩ := Int.eq_ofNat_of_zero_le h0
  go_enter Tryz.func45, Tryz.ntmps45
  go_wp2
  go_loopw [3, 4] (fun m j wr => ∃ k : Nat, k ≤ 7 ∧ j = .int .i64 (k : Int) ∧ m = .int .i64 (cntTo (n : Int) k) ∧ w = wr) (fun _ j _ => 8 - (intOf j).toNat)
  case atStart => exact ⟨0, by omega, rfl, rfl, by trivial⟩
  case round =>
    obtain ⟨k, hk, rfl, rfl, rfl⟩ := hrel
    by_cases hlt : k < 7
    · have hd : decide ((k : Int) < 7) = true := by simp; omega
      have hf := cntTo_fin ⟨n, by omega⟩ ⟨k, hlt⟩
      simp only at hf
      obtain ⟨hS, hb0, hb1⟩ := hf
      have HS := Lib.hid hS; clear hS
      generalize cntTo (n : Int) k = m at *
      go_wp2
      exact ⟨⟨k + 1, by omega, by go_num, by
        rw [HS.out, bit_at n k (by omega)]
        exact int_val (by have : n / 2 ^ k % 2 < 2 := Nat.mod_lt _ (by omega); simp only [wrap64]; omega), trivial⟩, by simp [intOf]; omega⟩
    · obtain rfl : k = 7 := by omega
      go_wp2
      go_ret
      exact ⟨rfl, rfl⟩
end Go.Proofs.YtbobiiodbbcodaaGreatDoor
namespace Go.Proofs.YtbobiiodbbcodaaGreatDoor
open Go.RowKit
set_option linter.unusedVariables false

/-- the first place at which p holds, or -1 -/
def firstAt {α : Type} (p : α → Bool) (xs : List α) : Int := match xs.findIdx? p with | some i => (i : Int) | none => -1
theorem firstAt_none {α : Type} {p : α → Bool} {xs : List α} {k : Nat} (hk : xs.length ≤ k) (h : ∀ j x, j < k → xs[j]? = some x → p x = false) : firstAt p xs = -1 := by
  have : xs.findIdx? p = none := by
    rw [List.findIdx?_eq_none_iff]; intro x hx
    obtain ⟨j, hj⟩ := List.mem_iff_getElem?.1 hx
    exact h j x (Nat.lt_of_lt_of_le (List.getElem?_eq_some_iff.1 hj).1 hk) hj
  simp [firstAt, this]
theorem firstAt_some {α : Type} {p : α → Bool} {xs : List α} {k : Nat} {x : α} (hx : xs[k]? = some x) (hp : p x = true) (h : ∀ j x, j < k → xs[j]? = some x → p x = false) : firstAt p xs = k := by
  have : xs.findIdx? p = some k := by
    rw [List.findIdx?_eq_some_iff_getElem]
    obtain ⟨hl, he⟩ := List.getElem?_eq_some_iff.1 hx
    refine ⟨hl, by rw [he]; exact hp, fun j hj => ?_⟩
    have := h j xs[j] hj (List.getElem?_eq_getElem (by omega))
    simp [this]
  simp [firstAt, this]

/-- fn is a function of the program with a body -/
def CallsIt (fn : Nat) : Prop := ∀ (bs : Array Value) (w : World), (callFunc fn bs).run Tryz.prog w = .ok (.enter fn bs) w
theorem IndexFuncInt_c (v : Value) (xs : List Int) (fn : Nat) (cap : Array Value) (p : Int → Bool) (w : World) (hv : Ints w v xs) (hf : CallsIt fn)
    (hp : ∀ (x : Int) (w' : World), x ∈ xs → Below w.heap.size w w' → Calls Tryz.prog fn (#[.int .i64 x] ++ cap) w' fun e w'' => e = .returned (.bool (p x)) ∧ Below w'.heap.size w' w'') :
    Calls Tryz.prog 86 #[v, .func (.func fn) #[] cap] w fun e w' => e = .returned (.int .i64 (firstAt p xs)) ∧ Below w.heap.size w w' := by
  obtain ⟨a, c, rfl, hc1, hc2, HC⟩ := hv.parts
  have hf' : ∀ (bs : Array Value) (w : World), (callFunc fn bs).run Tryz.prog w = .ok (.enter fn bs) w := hf
  go_enter Tryz.func86, Tryz.ntmps86
  go_wp2
  go_loopw [8] (fun i wr => ∃ k : Nat, k ≤ xs.length ∧ i = .int .i64 k ∧ Hid (∀ j x, j < k → xs[j]? = some x → p x = false) ∧ Below w.heap.size w wr) (fun i _ => xs.length - (intOf i).toNat)
  case atStart => exact ⟨0, by omega, rfl, fun j x hj => by omega, Below.refl _ _⟩
  case round =>
    obtain ⟨k, hk, rfl, hbef, hb⟩ := hrel
    have hlen := hv.le
    by_cases hlt : k < xs.length
    · obtain ⟨x, hx⟩ := elem_at hlt
      obtain ⟨b, off, rfl, g0⟩ := HC.out k x hx.out
      have hblt : b < w.heap.size := World.block_lt_of_cell? w _ g0
      have g1 : wr.cell? ⟨b, off + k, none⟩ = some (.int .i64 x) := ((bcell hb).1 _ _ hblt).trans g0
      clear g0
      go_wp2_with fail
      refine (hp x _ (List.mem_of_getElem? hx.out) hb).mono ?_
      rintro e w1 ⟨rfl, hb1⟩
      have hb2 : Below w.heap.size w w1 := hb.trans (hb1.mono hb.size)
      rcases hpx : p x with _ | _
      · have HP := Lib.hid hpx; clear hpx
        go_wp2
        go_roundw
        case rel => exact ⟨k + 1, by omega, by go_num, fun j y hj hy => by
          by_cases hj2 : j < k
          · exact hbef.out j y hj2 hy
          · obtain rfl : j = k := by omega
            rw [hx.out] at hy; obtain rfl := Option.some.inj hy; exact HP.out, hb2⟩
        case measure => simp [intOf]; omega
      · have HP := Lib.hid hpx; clear hpx
        go_wp2
        go_ret
        exact ⟨int_ret (firstAt_some hx.out HP.out hbef.out).symm, hb2⟩
    · go_wp2
      go_ret
      exact ⟨int_ret (firstAt_none (by omega) hbef.out).symm, hb⟩
theorem ContainsFuncInt_c (v : Value) (xs : List Int) (fn : Nat) (cap : Array Value) (p : Int → Bool) (w : World) (hv : Ints w v xs) (hf : CallsIt fn)
    (hp : ∀ (x : Int) (w' : World), x ∈ xs → Below w.heap.size w w' → Calls Tryz.prog fn (#[.int .i64 x] ++ cap) w' fun e w'' => e = .returned (.bool (p x)) ∧ Below w'.heap.size w' w'') :
    Calls Tryz.prog 92 #[v, .func (.func fn) #[] cap] w fun e w' => e = .returned (.bool (decide (0 ≤ firstAt p xs))) ∧ Below w.heap.size w w' := by
  go_enter Tryz.func92, Tryz.ntmps92
  go_wp2_with fail
  refine (IndexFuncInt_c v xs fn cap p w hv hf hp).mono ?_
  rintro e w' ⟨rfl, hb⟩
  go_wp2
  go_ret
  exact ⟨bool_ret (by simp), hb⟩
theorem firstAt_not_all {xs : List Int} {p : Int → Bool} : (decide (0 ≤ firstAt (fun x => !p x) xs)) = !(xs.all p) := by
  unfold firstAt
  cases h : xs.findIdx? (fun x => !p x) with
  | none => rw [List.findIdx?_eq_none_iff] at h; simp; exact fun x hx => by simpa using h x hx
  | some i =>
    rw [List.findIdx?_eq_some_iff_getElem] at h; obtain ⟨hl, h1, _⟩ := h
    simp; exact ⟨xs[i], List.getElem_mem hl, by simpa using h1⟩
/-- 'is' is a function of the program that looks at one int -/
theorem areAllInt_c (v : Value) (xs : List Int) (fn : Nat) (p : Int → Bool) (w : World) (hv : Ints w v xs) (hf : CallsIt fn)
    (hp : ∀ (x : Int) (w' : World), Calls Tryz.prog fn #[.int .i64 x] w' fun e w'' => e = .returned (.bool (p x)) ∧ w' = w'') :
    Calls Tryz.prog 82 #[v, .func (.func fn) #[] #[]] w fun e w' => e = .returned (.bool (xs.all p)) ∧ Below w.heap.size w w' := by
  go_enter Tryz.func82, Tryz.ntmps82
  go_wp2_with fail
  refine (ContainsFuncInt_c v xs 93 #[.pointer (some ⟨w.heap.size, 0, none⟩)] (fun x => !p x) _ (hv.below (below_one _)) (fun _ _ => by kernel_rfl) ?_).mono ?_
  · intro x w' _ hb
    have hc : w'.cell? ⟨w.heap.size, 0, none⟩ = some (.func (.func fn) #[] #[]) := by
      rw [(bcell hb).1 _ _ (by simp), World.cell?_alloc_at _ _ _ _ rfl]; rfl
    have hf' : ∀ (bs : Array Value) (w : World), (callFunc fn bs).run Tryz.prog w = .ok (.enter fn bs) w := hf
    go_enter Tryz.func93, Tryz.ntmps93
    go_wp2_with fail
    refine (hp x w').mono ?_
    rintro e w'' ⟨rfl, rfl⟩
    go_wp2
    go_ret
    exact ⟨rfl, Below.refl _ _⟩
  · rintro e w' ⟨rfl, hb⟩
    go_wp2
    go_ret
    exact ⟨bool_ret (by rw [firstAt_not_all]; simp), (below_one _).trans (hb.mono (by simp))⟩
end Go.Proofs.YtbobiiodbbcodaaGreatDoor
namespace Go.Proofs.YtbobiiodbbcodaaGreatDoor
open Go.RowKit
set_option linter.unusedVariables false

theorem IsState_c (bar kind : Int) (w : World) : Calls Tryz.prog 84 #[.agg #[.int .i64 bar, .int .i64 kind]] w fun e w' => e = .returned (.bool (stateB bar kind)) ∧ Below w.heap.size w w' := by
  by_cases h0 : kind = 0
  · subst h0
    go_enter Tryz.func84, Tryz.ntmps84
    go_wp2_with (go_at_call 42; refine (within_c _ _ _ _).mono ?_; rintro e w' ⟨rfl, rfl⟩)
    all_goals (go_ret; exact ⟨bool_ret (by simp_all [stateB, inB]; try omega), below_one _⟩)
  · have h1 : (kind != 0) = true := by simpa using h0
    go_enter Tryz.func84, Tryz.ntmps84
    go_wp2_with (go_at_call 42; refine (within_c _ _ _ _).mono ?_; rintro e w' ⟨rfl, rfl⟩)
    all_goals (go_ret; exact ⟨bool_ret (by simp_all [stateB, inB]; try omega), below_one _⟩)
def faultV (bar kind : Int) : Value := .agg #[.int .i64 (stD bar kind), .int .i64 (stL bar kind)]
theorem Sfault_c (bar kind : Int) (h : stateB bar kind = true) (w : World) : Calls Tryz.prog 85 #[.agg #[.int .i64 bar, .int .i64 kind]] w fun e w' => e = .returned (faultV bar kind) ∧ Below w.heap.size w w' := by
  rcases stateB_cases h with ⟨rfl, rfl⟩ | ⟨rfl, h0, h1⟩ | ⟨rfl, h0, h1⟩
  · go_enter Tryz.func85, Tryz.ntmps85
    go_wp2
    exact bodyPost_ret (v := faultV 0 0) (by simp [results, Tryz.results85, go_sem, faultV, stD, stL]) rfl ⟨rfl, (below_one _).alloc (by simp) _⟩
  · rcases bar_cases h0 h1 with rfl | rfl | rfl | rfl | rfl | rfl | rfl
    all_goals
      clear h0 h1 h
      go_enter Tryz.func85, Tryz.ntmps85
      go_wp2
      refine bodyPost_ret (v := faultV _ 1) (by simp [results, Tryz.results85, go_sem, faultV, stD, stL]) rfl ⟨rfl, ?_⟩
      repeat (first | exact below_one _ | apply Below.setCell | apply Below.alloc | simp)
  · rcases bar_cases h0 h1 with rfl | rfl | rfl | rfl | rfl | rfl | rfl
    all_goals
      clear h0 h1 h
      go_enter Tryz.func85, Tryz.ntmps85
      go_wp2
      refine bodyPost_ret (v := faultV _ 2) (by simp [results, Tryz.results85, go_sem, faultV, stD, stL]) rfl ⟨rfl, ?_⟩
      repeat (first | exact below_one _ | apply Below.setCell | apply Below.alloc | simp)
/-- the place of the first digit of a test that finds a state, or -1 -/
def placeOf (bar kind : Int) (xs : List Int) : Int := firstAt (finds bar kind) xs
theorem finding_c (v : Value) (xs : List Int) (bar kind : Int) (w : World) (hv : Ints w v xs) (hs : stateB bar kind = true) (ht : testB xs = true) :
    Calls Tryz.prog 73 #[.agg #[.int .i64 bar, .int .i64 kind], v] w fun e w' => e = .returned (.int .i64 (placeOf bar kind xs)) ∧ Below w.heap.size w w' := by
  have bd := stDL_bd hs
  go_enter Tryz.func73, Tryz.ntmps73
  go_wp2_with fail
  refine (Sfault_c bar kind hs _).mono ?_
  rintro e w1 ⟨rfl, hb1⟩
  unfold faultV
  go_wp2_with fail
  refine (IndexFuncInt_c v xs 87 #[.pointer (some ⟨w1.heap.size, 0, none⟩)] (finds bar kind) _ ?_ (fun _ _ => by kernel_rfl) ?_).mono ?_
  · exact Ints.below (Ints.below (Ints.below hv (below_one _)) hb1) (below_one _)
  · intro x w2 hx hb2
    have hd : 0 ≤ x ∧ x ≤ 9 := by
      simp only [testB, Bool.and_eq_true, List.all_eq_true] at ht
      exact digitB_true (ht.2 x hx)
    have hx0 := hd.1; have hx1 := hd.2
    have bdx := dg_bd x
    have c0 : w2.cell? ⟨w1.heap.size, 0, none⟩ = some (.int .i64 (stD bar kind)) := by
      rw [(bcell hb2).1 _ _ (by simp), World.cell?_alloc_at _ _ _ _ rfl]; rfl
    have c1 : w2.cell? ⟨w1.heap.size, 1, none⟩ = some (.int .i64 (stL bar kind)) := by
      rw [(bcell hb2).1 _ _ (by simp), World.cell?_alloc_at _ _ _ _ rfl]; rfl
    have hix := fun w => index_dig x hx0 hx1 w
    clear hv hb1 hb2 hs ht hx hd
    go_enter Tryz.func87, Tryz.ntmps87
    go_wp2_with fail
    go_region_held3 (fun w' => w'.cell? ⟨w1.heap.size, 0, none⟩ = some (.int .i64 (stD bar kind)) ∧ w'.cell? ⟨w1.heap.size, 1, none⟩ = some (.int .i64 (stL bar kind)))
      (first | go_keep | (go_split_ands; exact ⟨cell_later (by assumption) (by assumption), cell_later (by assumption) (by assumption)⟩))
      (first | (go_at_call 64; refine (digitCells_c _).mono ?_; rintro e w' ⟨rfl, hb⟩) | (go_at_call 66; refine (shown_c _ _ _ (by omega) (by omega) (by omega) (by omega) (by omega) (by omega) _).mono ?_; rintro e w' ⟨rfl, hb⟩))
    go_wp2
    go_ret
    exact ⟨rfl, by (repeat (first | exact Below.refl _ _ | exact (Below.refl _ _).drew | assumption | exact below_one _ | refine Below.chain ?_ (by assumption) | refine Below.drew ?_ | refine Below.alc ?_ _ | refine below_drewN ?_ | (refine Below.setCell ?_ ?_ _) | exact Nat.le_refl _ | (simp; done) | (simp; omega)))⟩
  · rintro e w3 ⟨rfl, hb3⟩
    go_wp2
    go_ret
    exact ⟨rfl, ((((below_one _).trans (hb1.mono (by simp))).alloc (by have := hb1.size; simp at this; omega) _).trans (hb3.mono (by have := hb1.size; simp at this ⊢; omega)))⟩
/-- what both texts of FirstFinding return -/
def ffOk (xs : List Int) (bar kind : Int) : Bool := testB xs && (stateB bar kind && decide (0 ≤ placeOf bar kind xs))
def ffN (xs : List Int) (bar kind : Int) : Int := if ffOk xs bar kind then placeOf bar kind xs else 0
def firstFindingV (xs : List Int) (bar kind : Int) : Value := .tuple #[.int .i64 (ffN xs bar kind), .bool (ffOk xs bar kind)]

theorem l7Fault_c (bar kind : Int) (h : stateB bar kind = true) (w : World) : Calls Tryz.prog 88 #[.agg #[.int .i64 bar, .int .i64 kind]] w fun e w' => e = .returned (faultV bar kind) ∧ Below w.heap.size w w' := by
  rcases stateB_cases h with ⟨rfl, rfl⟩ | ⟨rfl, h0, h1⟩ | ⟨rfl, h0, h1⟩
  · go_enter Tryz.func88, Tryz.ntmps88
    go_wp2
    exact bodyPost_ret (v := faultV 0 0) (by simp [results, Tryz.results88, go_sem, faultV, stD, stL]) rfl ⟨rfl, (below_one _).alloc (by simp) _⟩
  · rcases bar_cases h0 h1 with rfl | rfl | rfl | rfl | rfl | rfl | rfl
    all_goals
      clear h0 h1 h
      go_enter Tryz.func88, Tryz.ntmps88
      go_wp2
      refine bodyPost_ret (v := faultV _ 1) (by simp [results, Tryz.results88, go_sem, faultV, stD, stL]) rfl ⟨rfl, ?_⟩
      repeat (first | exact below_one _ | apply Below.setCell | apply Below.alloc | simp)
  · rcases bar_cases h0 h1 with rfl | rfl | rfl | rfl | rfl | rfl | rfl
    all_goals
      clear h0 h1 h
      go_enter Tryz.func88, Tryz.ntmps88
      go_wp2
      refine bodyPost_ret (v := faultV _ 2) (by simp [results, Tryz.results88, go_sem, faultV, stD, stL]) rfl ⟨rfl, ?_⟩
      repeat (first | exact below_one _ | apply Below.setCell | apply Below.alloc | simp)
theorem testB_digit {xs : List Int} (ht : testB xs = true) {k : Nat} {x : Int} (hx : xs[k]? = some x) : 0 ≤ x ∧ x ≤ 9 := by
  simp only [testB, Bool.and_eq_true, List.all_eq_true] at ht
  exact digitB_true (ht.2 x (List.mem_of_getElem? hx))
theorem l7Place_c (v : Value) (xs : List Int) (bar kind : Int) (w : World) (hv : Ints w v xs) (hs : stateB bar kind = true) (ht : testB xs = true) :
    Calls Tryz.prog 75 #[v, .agg #[.int .i64 bar, .int .i64 kind]] w fun e w' => e = .returned (.int .i64 (placeOf bar kind xs)) ∧ Below w.heap.size w w' := by
  have bd := stDL_bd hs
  have hm := hv.le
  obtain ⟨a, c, rfl, hc1, hc2, HC⟩ := hv.parts
  clear hv
  go_enter Tryz.func75, Tryz.ntmps75
  go_wp2_with fail
  refine (l7Fault_c bar kind hs _).mono ?_
  rintro e w1 ⟨rfl, hb1⟩
  unfold faultV
  have hz1 : w.heap.size < w1.heap.size := by have := hb1.size; simp at this; omega
  go_wp2_with fail
  go_loopw [6, 7] (fun i q wr => ∃ k : Nat, k ≤ xs.length ∧ i = .int .i64 k ∧ Hid (∀ j x, j < k → xs[j]? = some x → finds bar kind x = false) ∧ Below w.heap.size w wr ∧
      wr.cell? ⟨w1.heap.size, 0, none⟩ = some (.int .i64 (stD bar kind)) ∧ wr.cell? ⟨w1.heap.size, 1, none⟩ = some (.int .i64 (stL bar kind))) (fun i _ _ => xs.length - (intOf i).toNat)
  case atStart => exact ⟨0, by omega, rfl, fun j x hj => by omega, by (repeat (first | exact Below.refl _ _ | exact (Below.refl _ _).drew | assumption | exact below_one _ | refine Below.chain ?_ (by assumption) | refine Below.drew ?_ | refine Below.alc ?_ _ | refine below_drewN ?_ | (refine Below.setCell ?_ ?_ _) | exact Nat.le_refl _ | (simp; done) | (simp; omega))), by rw [World.cell?_alloc_at _ _ _ _ rfl]; rfl, by rw [World.cell?_alloc_at _ _ _ _ rfl]; rfl⟩
  case round =>
    obtain ⟨k, hk, rfl, hbef, hb, g0, g1⟩ := hrel
    by_cases hlt : k < xs.length
    · obtain ⟨x, hx⟩ := elem_at hlt
      obtain ⟨b, off, rfl, h0⟩ := HC.out k x hx.out
      have hblt : b < w.heap.size := World.block_lt_of_cell? w _ h0
      have h1 : wr.cell? ⟨b, off + k, none⟩ = some (.int .i64 x) := ((bcell hb).1 _ _ hblt).trans h0
      have hxd := testB_digit ht hx.out
      have bdx := dg_bd x
      clear h0 hb1
      go_wp2_with fail
      refine (l2Digit_c x hxd.1 hxd.2 _).mono ?_
      rintro e w2 ⟨rfl, hb2⟩
      have g02 := cell_later hb2 g0
      have g12 := cell_later hb2 g1
      go_wp2_with fail
      refine (l3Shown_c _ _ _ bd.1 bd.2.1 bd.2.2.1 bd.2.2.2 bdx.1 bdx.2 _).mono ?_
      rintro e w3 ⟨rfl, hb3⟩
      have g03 := cell_later hb3 g02
      have g13 := cell_later hb3 g12
      clear g0 g1 g02 g12
      have hb4 : Below w.heap.size w w3 := by (repeat (first | exact Below.refl _ _ | exact (Below.refl _ _).drew | assumption | exact below_one _ | refine Below.chain ?_ (by assumption) | refine Below.drew ?_ | refine Below.alc ?_ _ | refine below_drewN ?_ | (refine Below.setCell ?_ ?_ _) | exact Nat.le_refl _ | (simp; done) | (simp; omega)))
      rcases hf : finds bar kind x with _ | _
      · have ht2 : (shC (stD bar kind) (stL bar kind) (dg x) != dg x) = false := hf
        have HP := Lib.hid hf; clear hf
        go_wp2
        go_roundw
        case rel => exact ⟨k + 1, by omega, by go_num, fun j y hj hy => by
          by_cases hj2 : j < k
          · exact hbef.out j y hj2 hy
          · obtain rfl : j = k := by omega
            rw [hx.out] at hy; obtain rfl := Option.some.inj hy; exact HP.out, hb4, g03, g13⟩
        case measure => simp [intOf]; omega
      · have ht2 : (shC (stD bar kind) (stL bar kind) (dg x) != dg x) = true := hf
        have HP := Lib.hid hf; clear hf
        go_wp2
        go_ret
        exact ⟨int_ret (firstAt_some hx.out HP.out hbef.out).symm, hb4⟩
    · go_wp2
      go_ret
      exact ⟨int_ret (firstAt_none (by omega) hbef.out).symm, hb⟩
theorem l1Most_c (a b : Int) (w : World) : Calls Tryz.prog 63 #[.int .i64 a, .int .i64 b] w fun e w' => e = .returned (.int .i64 (max a b)) ∧ w = w' := by
  by_cases h : b < a
  · go_enter Tryz.func63, Tryz.ntmps63
    go_wp2
    go_ret
    exact ⟨int_ret (by omega), rfl⟩
  · go_enter Tryz.func63, Tryz.ntmps63
    go_wp2
    go_ret
    exact ⟨int_ret (by omega), rfl⟩
end Go.Proofs.YtbobiiodbbcodaaGreatDoor
namespace Go.Proofs.YtbobiiodbbcodaaGreatDoor
open Go.RowKit
set_option linter.unusedVariables false
set_option maxRecDepth 100000
def fracN (a b : Nat) : Int := ((a / Nat.gcd a b : Nat) : Int)
def fracD (a b : Nat) : Int := ((b / Nat.gcd a b : Nat) : Int)
def fracV (a b : Nat) : Value := .agg #[.int .i64 (fracN a b), .int .i64 (fracD a b)]
theorem wrapK (n : Int) : IntKind.i64.wrap n = wrap64 n := by
  simp only [IntKind.wrap, IntKind.bits, IntKind.signed, wrap64]; simp; split <;> omega
theorem fraction_c (a b : Nat) (ha : a ≤ 1000000000) (hb : b ≤ 1000000000) (hb0 : 0 < b) (w : World) : Calls Tryz.prog 32 #[.int .i64 a, .int .i64 b] w fun e w' => e = .returned (fracV a b) ∧ Below w.heap.size w w' := by
  have hg0 : 0 < Nat.gcd a b := Nat.gcd_pos_of_pos_right _ hb0
  have hgl : Nat.gcd a b ≤ b := Nat.gcd_le_right _ hb0
  have hb0' := below_one (w := w) (.cells #[.int .i64 0, .int .i64 0] 25)
  have c0 : (w.alloc (.cells #[.int .i64 0, .int .i64 0] 25)).cell? ⟨w.heap.size, 0, none⟩ = some (.int .i64 0) := by rw [World.cell?_alloc_at _ _ _ _ rfl]; rfl
  go_enter Tryz.func32, Tryz.ntmps32
  go_wp2
  go_loopw [5, 6] (fun x y wr => ∃ p q : Nat, x = .int .i64 (p : Int) ∧ y = .int .i64 (q : Int) ∧ p ≤ 1000000000 ∧ q ≤ 1000000000 ∧ Hid (Nat.gcd p q = Nat.gcd a b) ∧ Hid (∃ n, wr = (w.alloc (.cells #[.int .i64 0, .int .i64 0] 25)).drewN n)) (fun _ y _ => (intOf y).toNat)
  case atStart => exact ⟨a, b, rfl, rfl, ha, hb, rfl, ⟨0, rfl⟩⟩
  case round =>
    obtain ⟨p, q, rfl, rfl, hp, hq, hgc, hw⟩ := hrel
    obtain ⟨n, rfl⟩ := hw.out
    by_cases hz : q = 0
    · have hzb : ((q : Int) != 0) = false := by simp [hz]
      have hpg : p = Nat.gcd a b := by rw [← hgc.out, hz]; simp
      have HZ := Lib.hid hz; have HP := Lib.hid hpg; clear hz hpg
      have hp0 : (0 : Int) < (p : Int) := by have := HP.out; omega
      have e1 : wrap64 ((a : Int) / (p : Int)) = fracN a b := by
        unfold fracN; rw [← HP.out]
        have : a / p ≤ a := Nat.div_le_self _ _
        rw [show ((a : Int) / (p : Int)) = ((a / p : Nat) : Int) by simp]
        generalize a / p = t at *
        simp only [wrap64]; omega
      have e2 : wrap64 ((b : Int) / (p : Int)) = fracD a b := by
        unfold fracD; rw [← HP.out]
        have : b / p ≤ b := Nat.div_le_self _ _
        rw [show ((b : Int) / (p : Int)) = ((b / p : Nat) : Int) by simp]
        generalize b / p = t at *
        simp only [wrap64]; omega
      go_wp2
      go_region
      go_wp2
      refine bodyPost_ret (v := fracV a b) (by simp [results, Tryz.results32, go_sem, fracV, e1, e2]) rfl ⟨rfl, by (repeat (first | exact Below.refl _ _ | exact (Below.refl _ _).drew | assumption | exact below_one _ | refine Below.chain ?_ (by assumption) | refine Below.drew ?_ | refine Below.alc ?_ _ | refine below_drewN ?_ | (refine Below.setCell ?_ ?_ _) | exact Nat.le_refl _ | (simp; done) | (simp; omega)))⟩
    · have hzb : ((q : Int) != 0) = true := by simp [hz]
      have hq0 : (0 : Int) < (q : Int) := by omega
      go_wp2
      go_quiet (fail)
      go_wp2
      go_roundw
      case rel => exact ⟨q, p % q, rfl, int_val (by simp), hq, by have := Nat.mod_lt p (show 0 < q by omega); omega, by rw [Hid, ← hgc.out, Nat.gcd_comm p q, Nat.gcd_rec q p, Nat.gcd_comm], ⟨_, World.drewN_drewN _ _ _⟩⟩
      case measure =>
        have := Nat.mod_lt p (show 0 < q by omega)
        simp only [intOf]; omega
theorem l9Cut_c (a b : Nat) (ha : a ≤ 1000000000) (hb : b ≤ 1000000000) (hb0 : 0 < b) (w : World) : Calls Tryz.prog 35 #[.int .i64 a, .int .i64 b] w fun e w' => e = .returned (fracV a b) ∧ Below w.heap.size w w' := by
  have hg0 : 0 < Nat.gcd a b := Nat.gcd_pos_of_pos_right _ hb0
  have hgl : Nat.gcd a b ≤ b := Nat.gcd_le_right _ hb0
  have hb0' := below_one (w := w) (.cells #[.int .i64 0, .int .i64 0] 25)
  have c0 : (w.alloc (.cells #[.int .i64 0, .int .i64 0] 25)).cell? ⟨w.heap.size, 0, none⟩ = some (.int .i64 0) := by rw [World.cell?_alloc_at _ _ _ _ rfl]; rfl
  have c1 : (w.alloc (.cells #[.int .i64 0, .int .i64 0] 25)).cell? ⟨w.heap.size, 1, none⟩ = some (.int .i64 0) := by rw [World.cell?_alloc_at _ _ _ _ rfl]; rfl
  go_enter Tryz.func35, Tryz.ntmps35
  go_wp2
  go_loopw [5, 6] (fun x y wr => ∃ p q : Nat, x = .int .i64 (p : Int) ∧ y = .int .i64 (q : Int) ∧ p ≤ 1000000000 ∧ q ≤ 1000000000 ∧ Hid (Nat.gcd p q = Nat.gcd a b) ∧ Hid (∃ n, wr = (w.alloc (.cells #[.int .i64 0, .int .i64 0] 25)).drewN n)) (fun _ y _ => (intOf y).toNat)
  case atStart => exact ⟨a, b, rfl, rfl, ha, hb, rfl, ⟨0, rfl⟩⟩
  case round =>
    obtain ⟨p, q, rfl, rfl, hp, hq, hgc, hw⟩ := hrel
    obtain ⟨n, rfl⟩ := hw.out
    by_cases hz : q = 0
    · have hzb : decide ((0 : Int) < (q : Int)) = false := by simp; omega
      have hzb2 : decide (0 < q) = false := by simp; omega
      have hpg : p = Nat.gcd a b := by rw [← hgc.out, hz]; simp
      have HZ := Lib.hid hz; have HP := Lib.hid hpg; clear hz hpg
      have hp0 : (0 : Int) < (p : Int) := by have := HP.out; omega
      have e1 : wrap64 ((a : Int) / (p : Int)) = fracN a b := by
        unfold fracN; rw [← HP.out]
        have : a / p ≤ a := Nat.div_le_self _ _
        rw [show ((a : Int) / (p : Int)) = ((a / p : Nat) : Int) by simp]
        generalize a / p = t at *
        simp only [wrap64]; omega
      have e2 : wrap64 ((b : Int) / (p : Int)) = fracD a b := by
        unfold fracD; rw [← HP.out]
        have : b / p ≤ b := Nat.div_le_self _ _
        rw [show ((b : Int) / (p : Int)) = ((b / p : Nat) : Int) by simp]
        generalize b / p = t at *
        simp only [wrap64]; omega
      have hpn : (p : Int) ≠ 0 := by omega
      have hpn2 : ¬ p = 0 := by omega
      have hpd : decide (p = 0) = false := by simp; omega
      have e3 : max (p : Int) 1 = (p : Int) := by omega
      have g0 : ((w.alloc (.cells #[.int .i64 0, .int .i64 0] 25)).drewN n).cell? ⟨w.heap.size, 0, none⟩ = some (.int .i64 0) := c0
      go_wp2
      go_region_held3 (fun w' => ∃ x, w'.cell? ⟨w.heap.size, 0, none⟩ = some x) (first | exact ⟨_, g0⟩ | exact (fun ⟨v, h⟩ => cell?_setCell_some h) (cell?_setCell_some c0) | exact (fun ⟨v, h⟩ => RowKit.cell?_setCell_some h) (RowKit.cell?_setCell_some c0) | go_keep) (first | (go_at_call_of 63 (Value.int .i64 p); refine (l1Most_c (p : Int) 1 _).mono ?_; rintro e w' ⟨rfl, rfl⟩; rw [e3]))
      go_wp2
      have d0 : ((w.alloc (.cells #[.int .i64 0, .int .i64 0] 25)).drewN (n + 1)).cell? ⟨w.heap.size, 0, none⟩ = some (.int .i64 0) := c0
      have d1 : ((w.alloc (.cells #[.int .i64 0, .int .i64 0] 25)).drewN (n + 1)).cell? ⟨w.heap.size, 1, none⟩ = some (.int .i64 0) := c1
      have bl : Below w.heap.size w ((w.alloc (.cells #[.int .i64 0, .int .i64 0] 25)).drewN (n + 1)) := by (repeat (first | exact Below.refl _ _ | exact (Below.refl _ _).drew | assumption | exact below_one _ | refine Below.chain ?_ (by assumption) | refine Below.drew ?_ | refine Below.alc ?_ _ | refine below_drewN ?_ | (refine Below.setCell ?_ ?_ _) | exact Nat.le_refl _ | (simp; done) | (simp; omega)))
      generalize (w.alloc (.cells #[.int .i64 0, .int .i64 0] 25)).drewN (n + 1) = w1 at *
      refine bodyPost_ret (v := fracV a b) (by simp [results, Tryz.results35, go_sem, fracV, d0, d1]; exact ⟨wrapK _ |>.trans e1, wrapK _ |>.trans e2⟩) rfl ⟨rfl, by (repeat (first | exact Below.refl _ _ | exact (Below.refl _ _).drew | assumption | exact below_one _ | refine Below.chain ?_ (by assumption) | refine Below.drew ?_ | refine Below.alc ?_ _ | refine below_drewN ?_ | (refine Below.setCell ?_ ?_ _) | exact Nat.le_refl _ | (simp; done) | (simp; omega)))⟩
    · have hzb : decide ((0 : Int) < (q : Int)) = true := by simp; omega
      have hzb2 : decide (0 < q) = true := by simp; omega
      have hq0 : (0 : Int) < (q : Int) := by omega
      go_wp2
      go_quiet (fail)
      go_wp2
      go_roundw
      case rel => exact ⟨q, p % q, rfl, int_val (by simp), hq, by have := Nat.mod_lt p (show 0 < q by omega); omega, by rw [Hid, ← hgc.out, Nat.gcd_comm p q, Nat.gcd_rec q p, Nat.gcd_comm], ⟨_, World.drewN_drewN _ _ _⟩⟩
      case measure =>
        have := Nat.mod_lt p (show 0 < q by omega)
        simp only [intOf]; omega
end Go.Proofs.YtbobiiodbbcodaaGreatDoor
namespace Go.Proofs.YtbobiiodbbcodaaGreatDoor
open Go.RowKit
set_option linter.unusedVariables false
theorem firstAt_not_allP {xs : List (Int × Int)} {p : Int × Int → Bool} : (decide (0 ≤ firstAt (fun x => !p x) xs)) = !(xs.all p) := by
  unfold firstAt
  cases h : xs.findIdx? (fun x => !p x) with
  | none => rw [List.findIdx?_eq_none_iff] at h; simp; exact fun a b hx => by simpa using h (a, b) hx
  | some i =>
    rw [List.findIdx?_eq_some_iff_getElem] at h; obtain ⟨hl, h1, _⟩ := h
    simp; exact ⟨xs[i].1, xs[i].2, List.getElem_mem hl, by simpa using h1⟩
end Go.Proofs.YtbobiiodbbcodaaGreatDoor
namespace Go.Proofs.YtbobiiodbbcodaaGreatDoor
open Go.RowKit
set_option linter.unusedVariables false
def rowB (xs : List Int) : Bool := decide (xs.length ≤ 6) && xs.all cellB
theorem rowB_le {xs : List Int} (h : rowB xs = true) : xs.length ≤ 6 := by simp [rowB] at h; exact h.1
theorem rowB_cell {xs : List Int} (h : rowB xs = true) {k : Nat} {x : Int} (hx : xs[k]? = some x) : 0 ≤ x ∧ x ≤ 127 := by
  simp only [rowB, Bool.and_eq_true, List.all_eq_true] at h
  exact cellB_true (h.2 x (List.mem_of_getElem? hx))
def fB (f : Int × Int) : Bool := faultB f.1 f.2
def areB (fs : List (Int × Int)) (r : List Int) : Bool := rowB r && (decide (fs.length = r.length) && fs.all fB)
theorem areB_fault {fs : List (Int × Int)} {r : List Int} (h : areB fs r = true) {k : Nat} {f : Int × Int} (hf : fs[k]? = some f) : 0 ≤ f.1 ∧ f.1 ≤ 127 ∧ 0 ≤ f.2 ∧ f.2 ≤ 127 := by
  simp only [areB, Bool.and_eq_true, List.all_eq_true] at h
  have := faultB_true (h.2.2 f (List.mem_of_getElem? hf))
  exact ⟨this.1, this.2.1, this.2.2.1, this.2.2.2.1⟩
theorem areB_row {fs : List (Int × Int)} {r : List Int} (h : areB fs r = true) : rowB r = true := by
  simp only [areB, Bool.and_eq_true] at h; exact h.1
theorem areB_len {fs : List (Int × Int)} {r : List Int} (h : areB fs r = true) : fs.length = r.length := by
  simp only [areB, Bool.and_eq_true, decide_eq_true_eq] at h; exact h.2.1
theorem IsRow_c (v : Value) (xs : List Int) (w : World) (hv : Ints w v xs) : Calls Tryz.prog 68 #[v] w fun e w' => e = .returned (.bool (rowB xs)) ∧ Below w.heap.size w w' := by
  obtain ⟨a, c, hvv, hc1, hc2, HC⟩ := hv.parts
  by_cases h : xs.length ≤ 6
  · subst hvv
    go_enter Tryz.func68, Tryz.ntmps68
    go_wp2_with (go_at_call 82; refine (areAllInt_c _ xs 77 cellB _ hv (fun _ _ => by kernel_rfl) (fun x w' => IsCell_c x w')).mono ?_; rintro e w' ⟨rfl, hb⟩)
    go_ret
    exact ⟨bool_ret (by simp [rowB, h]), by assumption⟩
  · subst hvv
    go_enter Tryz.func68, Tryz.ntmps68
    go_wp2_with fail
    go_ret
    exact ⟨bool_ret (by simp [rowB]; omega), Below.refl _ _⟩
end Go.Proofs.YtbobiiodbbcodaaGreatDoor
