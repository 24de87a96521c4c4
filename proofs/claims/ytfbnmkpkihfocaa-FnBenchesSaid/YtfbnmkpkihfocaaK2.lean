/- Texts of this claim, gathered: Code, OpenY, All, Faults, Draw, Box. -/
import Derived.Test.YtfbnmkpkihfocaaK1
import Derived.Laws.AppendOwnNone
import Derived.Deep.RegionHeld3
namespace Go.Proofs.Ytfbnmkpkihfocaa
open Go.RowKit
set_option linter.unusedVariables false
set_option maxRecDepth 100000

/-- A slice of the bytes xs. -/
def Code (w : World) (v : Value) (xs : List Nat) : Prop :=
  ∃ a c, v = .slice a xs.length c ∧ xs.length ≤ c ∧ c ≤ 9223372036854775807 ∧ (a = none → c = 0) ∧ ∀ (k x : Nat), xs[k]? = some x → ∃ b off, a = some ⟨b, off, none⟩ ∧ x ≤ 255 ∧ w.cell? ⟨b, off + k, none⟩ = some (.int .u8 (x : Int))
theorem Code.keep {w w' : World} {v : Value} {xs : List Nat} (h : Code w v xs) (hk : ∀ b o x, w.cell? ⟨b, o, none⟩ = some x → w'.cell? ⟨b, o, none⟩ = some x) : Code w' v xs := by
  obtain ⟨a, c, rfl, h1, h2, h0, h3⟩ := h
  refine ⟨a, c, rfl, h1, h2, h0, fun k x hx => ?_⟩
  obtain ⟨b, off, e, hx, hc⟩ := h3 k x hx
  exact ⟨b, off, e, hx, hk _ _ _ hc⟩
theorem Code.below {w w' : World} {v : Value} {xs : List Nat} (h : Code w v xs) (hb : Below w.heap.size w w') : Code w' v xs := h.keep fun b o x hx => cell_later hb hx
theorem Code.bys {w : World} {v : Value} {xs : List Nat} (h : Code w v xs) : Bys w v w.heap.size := by
  obtain ⟨a, c, rfl, h1, h2, h0, h3⟩ := h
  refine ⟨a, c, xs, rfl, h1, h2, fun k x hx => ?_⟩
  obtain ⟨b, off, e, hx, hc⟩ := h3 k x hx
  exact ⟨b, off, e, World.block_lt_of_cell? _ _ hc, hx, hc⟩
theorem Code.own {w : World} {v : Value} {lo : Nat} {xs : List Nat} (h : w.ownsRow lo 5 1 v xs.length (xs.map fun (x : Nat) => Value.int .u8 (x : Int))) (h255 : ∀ x ∈ xs, x ≤ 255) : Code w v xs := by
  obtain ⟨h1, h2⟩ := h
  rcases h2 with ⟨rfl, h0⟩ | ⟨g, cap, cur, rfl, hb, hg, hn, hc, hs, ht⟩
  · have : xs = [] := List.eq_nil_of_length_eq_zero (by simpa using h0)
    subst this
    exact ⟨none, 0, rfl, by simp, by omega, fun _ => rfl, fun k x hx => by simp at hx⟩
  · refine ⟨_, _, rfl, hn, by unfold maxLen at hc; omega, fun e => (by cases e), fun k x hx => ⟨g, 0, rfl, h255 x (List.mem_of_getElem? hx), ?_⟩⟩
    have hlt := (List.getElem?_eq_some_iff.1 hx).1
    rw [Nat.zero_add, cell_of_row w g k cur 5 (0, 0) hg, ← Array.getElem?_toList]
    have h3 : (cur.toList.take (xs.length * 1))[k]? = some (Value.int .u8 (x : Int)) := by rw [ht, List.getElem?_map, hx]; rfl
    rw [List.getElem?_take, if_pos (by omega)] at h3
    exact h3
/-- the cursor that a draw makes -/
theorem cur_new {w : World} {v : Value} {xs : List Nat} (h : Code w v xs) : CurAt (w.alloc (.cells #[v, .int .i64 0, .int .u64 0] 75)) w.heap.size 0 := by
  have hb := Bk.new w 75 #[v, .int .i64 0, .int .u64 0]
  exact ⟨⟨v, hb.cell 0, h.bys.keep fun b o x hlt hx => cell_later (below_one _) hx⟩, ⟨0, Nat.le_refl _, hb.cell 1⟩, ⟨0, hb.cell 2⟩, hb.frozen 1, hb.frozen 2⟩
/-- behind a draw nothing that was there has been turned -/
theorem draw_below {w w' : World} {o : Obj} {m : Nat} (h : CStep (w.alloc o) w' w.heap.size m) : Below w.heap.size w w' := (below_one o).trans (h.low (Nat.le_refl _) (by simp))
theorem vBig_c (v : Value) (xs : List Nat) (w : World) (h : Code w v xs) : Calls Try.prog 5 #[v] w fun e w' => e = .returned (.bool (decide (65536 < xs.length))) ∧ w = w' := by
  obtain ⟨a, c, rfl, _⟩ := h
  go_enter Try.func5, Try.ntmps5
  go_wp2
  go_ret
  exact ⟨bool_ret (by rw [decide_eq_decide]; omega), rfl⟩
theorem info_u8 : (Try.prog.info? 5).map (fun i => (i.zero, i.size, i.bytes)) = some (some (.int .u8 0), 1, 1) := by kernel_rfl
theorem vCut_c (n : Nat) (v : Value) (xs : List Nat) (w : World) (h : Code w v xs) (hx : xs.length ≤ 1000000) (hn : n ≤ 100) : Calls Try.prog 16 #[v, .int .i64 (n : Int)] w fun e w' => ∃ v' ys, e = .returned v' ∧ Code w' v' ys ∧ ys.length ≤ xs.length + 1 ∧ Below w.heap.size w w' := by
  obtain ⟨i, hi, hz0, hz1, hz2⟩ := info_parts info_u8
  have HC := Lib.hid h
  obtain ⟨a, c, rfl, hc, hc2, h0, h3⟩ := h
  have H3 := Lib.hid h3
  have HO : Hid ((w.alloc (.cells #[] 5)).ownsRow w.heap.size 5 1 (.slice (some ⟨w.heap.size, 0, none⟩) 0 0) 0 []) := World.ownsRow_lit (e := 5) (size := 1) (base := w.heap.size) w #[] 0 (Nat.le_refl _) (by decide) rfl
  clear h3
  have H255 : Hid (∀ x ∈ xs, x ≤ 255) := by
    intro x hx
    obtain ⟨k, hk⟩ := List.mem_iff_getElem?.1 hx
    obtain ⟨b, off, _, h, _⟩ := H3.out k x hk
    exact h
  cases a with
  | none =>
    have hxs : xs = [] := by
      cases xs with
      | nil => rfl
      | cons x l => obtain ⟨b, off, e, _⟩ := H3.out 0 x rfl; cases e
    subst hxs
    obtain rfl := h0 rfl
    have HB : Hid (Below w.heap.size w (w.alloc (.cells #[] 5))) := below_one _
    clear hc hc2 h0 HC
    by_cases hn0 : 0 < n
    · have hn1 : (0 : Int) < (n : Int) := by omega
      go_enter Try.func16, Try.ntmps16
      go_wp2_with (first | (at_builtin; refine wpList_append_own_none rfl _ _ 22 rfl w.heap.size 5 i 1 Try.underlying22 hi _ 0 [] rfl HO.out rfl ?_) | (at_builtin; refine wpList_append_own_at _ rfl _ _ 22 rfl w.heap.size 5 i (.int .u8 0) 1 1 Try.underlying22 hi hz0 hz1 hz2 rfl (by decide) _ 0 ([] : List Value) rfl (HO.out.alloc _) ⟨w.heap.size + 1, 0, none⟩ 1 1 [.int .u8 0] rfl rfl (by have h := news_new (w.alloc (.cells #[] 5)) [.int .u8 0] 5; rw [World.size_alloc] at h; exact h) (by simp [Value.oneCell']) (by unfold maxLen; omega) (by omega) (by have := HB.out.size; simp; omega) ?_))
      intro v2 w2 ho2 hg2 _ _
      have hb2 : Below w.heap.size w w2 := (Below.alc HB.out _).grown hg2 (by have := HB.out.size; simp; omega) (fun k hk => ((HO.out.alloc (.cells #[.int .u8 0] 5)).lt k hk).1)
      go_wp2
      go_ret
      exact ⟨_, [0], rfl, Code.own (ownsRow_cast ho2 (by simp) (by simp)) (by intro x hx; simp at hx; omega), by simp, hb2⟩
    · obtain rfl : n = 0 := by omega
      go_enter Try.func16, Try.ntmps16
      go_wp2_with (first | (at_builtin; refine wpList_append_own_none rfl _ _ 22 rfl w.heap.size 5 i 1 Try.underlying22 hi _ 0 [] rfl HO.out rfl ?_) | (at_builtin; refine wpList_append_own_at _ rfl _ _ 22 rfl w.heap.size 5 i (.int .u8 0) 1 1 Try.underlying22 hi hz0 hz1 hz2 rfl (by decide) _ 0 ([] : List Value) rfl (HO.out.alloc _) ⟨w.heap.size + 1, 0, none⟩ 1 1 [.int .u8 0] rfl rfl (by have h := news_new (w.alloc (.cells #[] 5)) [.int .u8 0] 5; rw [World.size_alloc] at h; exact h) (by simp [Value.oneCell']) (by unfold maxLen; omega) (by omega) (by have := HB.out.size; simp; omega) ?_))
      intro v2 w2 ho2 hg2 _ _
      have hb2 : Below w.heap.size w w2 := (Below.alc HB.out _).grown hg2 (by have := HB.out.size; simp; omega) (fun k hk => ((HO.out.alloc (.cells #[.int .u8 0] 5)).lt k hk).1)
      go_wp2
      go_ret
      exact ⟨_, [0], rfl, Code.own (ownsRow_cast ho2 (by simp) (by simp)) (by intro x hx; simp at hx; omega), by simp, hb2⟩
  | some ad =>
    clear h0 HC
    have HB : Hid (Below w.heap.size w (w.alloc (.cells #[] 5))) := below_one _
    by_cases hlt : xs.length < n
    · have hlt2 : (xs.length : Int) < (n : Int) := by omega
      have hl100 : xs.length ≤ 100 := by omega
      generalize xs.length = l at *
      by_cases hcn : c = l
      · subst hcn
        go_enter Try.func16, Try.ntmps16
        go_wp2_with (at_builtin; refine wpList_append_own_at _ rfl _ _ 22 rfl w.heap.size 5 i (.int .u8 0) 1 1 Try.underlying22 hi hz0 hz1 hz2 rfl (by decide) _ 0 [] rfl HO.out _ 0 _ [] rfl rfl (by intro j u hu; simp at hu) (by simp) (by decide) (by decide) (by simp) ?_)
        intro v1 w1 ho1 hg1 _ _
        have HB1 : Hid (Below w.heap.size w w1) := (below_one _).grown hg1 (by simp) (fun k hk => by simp [Value.ownBlock] at hk; omega)
        have HO1 := Lib.hid ho1
        clear ho1 hg1 HB
        have HB := HB1
        go_wp2_with (at_builtin; refine wpList_append_own_at _ rfl _ _ 22 rfl w.heap.size 5 i (.int .u8 0) 1 1 Try.underlying22 hi hz0 hz1 hz2 rfl (by decide) _ (0 + 0) ([] ++ [] : List Value) rfl (HO1.out.alloc _) ⟨w1.heap.size, 0, none⟩ 1 1 [.int .u8 (c : Nat)] rfl rfl (news_new _ [.int .u8 (c : Nat)] _) (by simp [Value.oneCell']) (by unfold maxLen; omega) (by omega) (by have := HB.out.size; simp; omega) ?_)
        intro v2 w2 ho2 hg2 _ _
        have hb2 : Below w.heap.size w w2 := (Below.alc HB.out _).grown hg2 (by have := HB.out.size; simp; omega) (fun k hk => ((HO1.out.alloc (.cells #[.int .u8 (c : Nat)] 5)).lt k hk).1)
        go_wp2
        go_ret
        exact ⟨_, [c], rfl, Code.own (ownsRow_cast ho2 (by simp) (by simp)) (by intro x hx; simp at hx; omega), by simp, hb2⟩
      · have hcn1 : (c = l) = False := eq_false hcn
        go_enter Try.func16, Try.ntmps16
        go_wp2_with (at_builtin; refine wpList_append_own_at _ rfl _ _ 22 rfl w.heap.size 5 i (.int .u8 0) 1 1 Try.underlying22 hi hz0 hz1 hz2 rfl (by decide) _ 0 [] rfl HO.out _ 0 _ [] rfl rfl (by intro j u hu; simp at hu) (by simp) (by decide) (by decide) (by simp) ?_)
        intro v1 w1 ho1 hg1 _ _
        have HB1 : Hid (Below w.heap.size w w1) := (below_one _).grown hg1 (by simp) (fun k hk => by simp [Value.ownBlock] at hk; omega)
        have HO1 := Lib.hid ho1
        clear ho1 hg1 HB
        have HB := HB1
        go_wp2_with (at_builtin; refine wpList_append_own_at _ rfl _ _ 22 rfl w.heap.size 5 i (.int .u8 0) 1 1 Try.underlying22 hi hz0 hz1 hz2 rfl (by decide) _ (0 + 0) ([] ++ [] : List Value) rfl (HO1.out.alloc _) ⟨w1.heap.size, 0, none⟩ 1 1 [.int .u8 (l : Nat)] rfl rfl (news_new _ [.int .u8 (l : Nat)] _) (by simp [Value.oneCell']) (by unfold maxLen; omega) (by omega) (by have := HB.out.size; simp; omega) ?_)
        intro v2 w2 ho2 hg2 _ _
        have hb2 : Below w.heap.size w w2 := (Below.alc HB.out _).grown hg2 (by have := HB.out.size; simp; omega) (fun k hk => ((HO1.out.alloc (.cells #[.int .u8 (l : Nat)] 5)).lt k hk).1)
        go_wp2
        go_ret
        exact ⟨_, [l], rfl, Code.own (ownsRow_cast ho2 (by simp) (by simp)) (by intro x hx; simp at hx; omega), by simp, hb2⟩
    · have hlt2 : ¬ (xs.length : Int) < (n : Int) := by omega
      by_cases hle : xs.length = n
      · subst hle
        generalize xs.length = l at *
        by_cases hcn : c = l
        · subst hcn
          go_enter Try.func16, Try.ntmps16
          go_wp2_with (at_builtin; refine wpList_append_own_at _ rfl _ _ 22 rfl w.heap.size 5 i (.int .u8 0) 1 1 Try.underlying22 hi hz0 hz1 hz2 rfl (by decide) _ 0 [] rfl HO.out _ 0 _ [] rfl rfl (by intro j u hu; simp at hu) (by simp) (by decide) (by decide) (by simp) ?_)
          intro v1 w1 ho1 hg1 _ _
          have HB1 : Hid (Below w.heap.size w w1) := (below_one _).grown hg1 (by simp) (fun k hk => by simp [Value.ownBlock] at hk; omega)
          have HO1 := Lib.hid ho1
          clear ho1 hg1 HB
          have HB := HB1
          go_wp2_with (at_builtin; refine wpList_append_own_at _ rfl _ _ 22 rfl w.heap.size 5 i (.int .u8 0) 1 1 Try.underlying22 hi hz0 hz1 hz2 rfl (by decide) _ (0 + 0) ([] ++ [] : List Value) rfl (HO1.out.alloc _) ⟨w1.heap.size, 0, none⟩ 1 1 [.int .u8 (c : Nat)] rfl rfl (news_new _ [.int .u8 (c : Nat)] _) (by simp [Value.oneCell']) (by unfold maxLen; omega) (by omega) (by have := HB.out.size; simp; omega) ?_)
          intro v2 w2 ho2 hg2 _ _
          have hb2 : Below w.heap.size w w2 := (Below.alc HB.out _).grown hg2 (by have := HB.out.size; simp; omega) (fun k hk => ((HO1.out.alloc (.cells #[.int .u8 (c : Nat)] 5)).lt k hk).1)
          go_wp2
          go_ret
          exact ⟨_, [c], rfl, Code.own (ownsRow_cast ho2 (by simp) (by simp)) (by intro x hx; simp at hx; omega), by simp, hb2⟩
        · have hcn1 : (c = l) = False := eq_false hcn
          go_enter Try.func16, Try.ntmps16
          go_wp2_with (at_builtin; refine wpList_append_own_at _ rfl _ _ 22 rfl w.heap.size 5 i (.int .u8 0) 1 1 Try.underlying22 hi hz0 hz1 hz2 rfl (by decide) _ 0 [] rfl HO.out _ 0 _ [] rfl rfl (by intro j u hu; simp at hu) (by simp) (by decide) (by decide) (by simp) ?_)
          intro v1 w1 ho1 hg1 _ _
          have HB1 : Hid (Below w.heap.size w w1) := (below_one _).grown hg1 (by simp) (fun k hk => by simp [Value.ownBlock] at hk; omega)
          have HO1 := Lib.hid ho1
          clear ho1 hg1 HB
          have HB := HB1
          go_wp2_with (at_builtin; refine wpList_append_own_at _ rfl _ _ 22 rfl w.heap.size 5 i (.int .u8 0) 1 1 Try.underlying22 hi hz0 hz1 hz2 rfl (by decide) _ (0 + 0) ([] ++ [] : List Value) rfl (HO1.out.alloc _) ⟨w1.heap.size, 0, none⟩ 1 1 [.int .u8 (l : Nat)] rfl rfl (news_new _ [.int .u8 (l : Nat)] _) (by simp [Value.oneCell']) (by unfold maxLen; omega) (by omega) (by have := HB.out.size; simp; omega) ?_)
          intro v2 w2 ho2 hg2 _ _
          have hb2 : Below w.heap.size w w2 := (Below.alc HB.out _).grown hg2 (by have := HB.out.size; simp; omega) (fun k hk => ((HO1.out.alloc (.cells #[.int .u8 (l : Nat)] 5)).lt k hk).1)
          go_wp2
          go_ret
          exact ⟨_, [l], rfl, Code.own (ownsRow_cast ho2 (by simp) (by simp)) (by intro x hx; simp at hx; omega), by simp, hb2⟩
      · have hcn1 : (c = n) = False := eq_false (by omega)
        have HN : ∀ (j : Nat) u, ((xs.drop n).map fun (x : Nat) => Value.int .u8 (x : Int))[j]? = some u → (w.alloc (.cells #[] 5)).cell? ((ad.add n).add j) = some u := by
          intro j u hu
          rw [List.getElem?_map, List.getElem?_drop] at hu
          obtain ⟨x, hx, rfl⟩ := Option.map_eq_some_iff.1 hu
          obtain ⟨b, off, e, _, hc⟩ := H3.out (n + j) x hx
          cases e
          rw [Addr.add_lit, Addr.add_lit, Nat.add_assoc]
          exact cell_later (below_one _) hc
        have HL : Hid (((xs.drop n).map fun (x : Nat) => Value.int .u8 (x : Int)).length = (xs.length - n) * 1) := by show _ = _; simp
        have H1 : Hid (∀ u ∈ ((xs.drop n).map fun (x : Nat) => Value.int .u8 (x : Int)), u.oneCell' = true) := by intro u hu; obtain ⟨y, _, rfl⟩ := List.mem_map.1 hu; rfl
        have HF : Hid (∀ w' v', w'.ownsRow w.heap.size 5 1 v' (xs.length - n + 1) (((xs.drop n).map fun (x : Nat) => Value.int .u8 (x : Int)) ++ [.int .u8 (n : Int)]) → ∃ ys, Code w' v' ys ∧ ys.length ≤ xs.length + 1) :=
          fun w' v' ho => ⟨xs.drop n ++ [n], Code.own (ownsRow_cast ho (by simp) (by simp)) (fun x hx => (List.mem_append.1 hx).elim (fun h => H255.out x (List.mem_of_mem_drop h)) (fun h => by have := List.mem_singleton.1 h; omega)), by simp⟩
        have hle2 : n ≤ xs.length := by omega
        generalize ((xs.drop n).map fun (x : Nat) => Value.int .u8 (x : Int)) = news at *
        have HN2 := Lib.hid HN
        clear HN
        go_enter Try.func16, Try.ntmps16
        go_wp2_with (at_builtin; refine wpList_append_own_at _ rfl _ _ 22 rfl w.heap.size 5 i (.int .u8 0) 1 1 Try.underlying22 hi hz0 hz1 hz2 rfl (by decide) _ 0 [] rfl HO.out (ad.add n) (xs.length - n) (c - n) news rfl HL.out HN2.out H1.out (by unfold maxLen; omega) (by omega) (by simp) ?_)
        intro v1 w1 ho1 hg1 _ _
        have HB1 : Hid (Below w.heap.size w w1) := (below_one _).grown hg1 (by simp) (fun k hk => by simp [Value.ownBlock] at hk; omega)
        have HO1 := Lib.hid ho1
        clear ho1 hg1 HB
        have HB := HB1
        go_wp2_with (at_builtin; revert HO1)
        intro HO1
        refine wpList_append_own_at _ rfl _ _ 22 rfl w.heap.size 5 i (.int .u8 0) 1 1 Try.underlying22 hi hz0 hz1 hz2 rfl (by decide) _ (xs.length - n) news rfl (HO1.out.alloc _) ⟨w1.heap.size, 0, none⟩ 1 1 [.int .u8 (n : Nat)] rfl rfl (news_new _ [.int .u8 (n : Nat)] _) (by simp [Value.oneCell']) (by unfold maxLen; omega) (by omega) (by have := HB.out.size; simp; omega) ?_
        intro v2 w2 ho2 hg2 _ _
        have hb2 : Below w.heap.size w w2 := (Below.alc HB.out _).grown hg2 (by have := HB.out.size; simp; omega) (fun k hk => ((HO1.out.alloc (.cells #[.int .u8 (n : Nat)] 5)).lt k hk).1)
        obtain ⟨ys, hys, hyl⟩ := HF.out w2 v2 ho2
        go_wp2
        go_ret
        exact ⟨_, ys, rfl, hys, hyl, hb2⟩
end Go.Proofs.Ytfbnmkpkihfocaa
namespace Go.Proofs.Ytfbnmkpkihfocaa
open Go.ChangeShapes Go.WideShapes Go.ChangeAt Go.RowKit Go.Joins Go.Deep
set_option linter.unusedVariables false
set_option maxRecDepth 100000
section
variable {H : Type} {enc : TypeId × Value → H} {w : World} {base : Nat} {spare : Nat → Bool} {held : Bool}
theorem u8_wf {n : Int} (h : (Lit.int .u8 n).wf = true) : 0 ≤ n ∧ n ≤ 255 := by
  simp only [Lit.wf, Bool.and_eq_true, decide_eq_true_eq] at h
  have h0 : IntKind.u8.min = 0 := by decide
  have h1 : IntKind.u8.max = 255 := by decide
  omega
theorem open_bytes {r : Reach} {b0 : Nat} {v : Value} {d : DataW H} {p : List MemPlace} (hv : Value.okWide Try.prog w r b0 22 v) (h : DataW.Trod enc Try.prog w base spare held 22 v d p) : ∃ xs, Code w v xs := by
  obtain ⟨a0, len0, cap0, rfl⟩ := okWide_slice Try.underlying22 hv
  obtain ⟨fuel, hf⟩ := h
  rcases open_ints Try.underlying22 Try.underlying5 (by kernel_rfl) hf with ⟨hcs, _⟩ | ⟨x, l, c, zs, hcs, _, hl, hm, hz, _, hcell, hwz⟩
  · simp [Value.cells] at hcs
    obtain ⟨rfl, rfl, rfl⟩ := hcs
    exact ⟨[], none, 0, rfl, by simp, by omega, fun _ => rfl, fun k x hx => by simp at hx⟩
  · simp [Value.cells] at hcs
    obtain ⟨rfl, rfl, rfl⟩ := hcs
    refine ⟨(zs.take len0).map Int.toNat, ?_⟩
    have hlc : len0 ≤ zs.length := by
      revert hz; cases spare x.block <;> simp <;> omega
    have hlen : ((zs.take len0).map Int.toNat).length = len0 := by rw [List.length_map, List.length_take, Nat.min_eq_left hlc]
    refine ⟨some x, cap0, by rw [hlen], by rw [hlen]; exact hl, by unfold maxLen at hm; omega, (fun e => by cases e), fun k y hy => ?_⟩
    have hk : k < len0 := by have := (List.getElem?_eq_some_iff.1 hy).1; omega
    obtain ⟨b, off, spot⟩ := x
    have h0 := hcell 0 (by omega)
    have hs : spot = none := by
      cases spot with
      | none => rfl
      | some s =>
        exfalso
        unfold Addr.add at h0; simp [World.cell?] at h0
        split at h0 <;> simp_all
    subst hs
    have hkz : k < zs.length := by omega
    rw [List.getElem?_map, List.getElem?_take, if_pos hk, List.getElem?_eq_getElem hkz] at hy
    simp only [Option.map_some, Option.some.injEq] at hy
    have hw := u8_wf (hwz zs[k] (List.getElem_mem hkz))
    refine ⟨b, off, rfl, by omega, ?_⟩
    have := hcell k hkz
    rw [Addr.add_lit] at this
    rw [this]
    have e : zs.getD k 0 = (y : Int) := by simp [hkz]; omega
    rw [e]
end
end Go.Proofs.Ytfbnmkpkihfocaa
namespace Go.Proofs.Ytfbnmkpkihfocaa
open Go.RowKit
set_option linter.unusedVariables false

/-- the first place at which p holds, or -1 -/
def firstAt {α : Type} (p : α → Bool) (xs : List α) : Int := match xs.findIdx? p with | some i => (i : Int) | none => -1
theorem firstAt_none {α : Type} {p : α → Bool} {xs : List α} {k : Nat} (hk : xs.length ≤ k) (h : ∀ j x, j < k → xs[j]? = some x → p x = false) : firstAt p xs = -1 := by
  have : xs.findIdx? p = none := by
    rw [List.findIdx?_eq_none_iff]; intro x hx
    obtain ⟨j, hj⟩ := List.mem_iff_getElem?.1 hx
    exact h j x (Nat.lt_of_lt_of_le (List.getElem?_eq_some_iff.1 hj).1 hk) hj
  simp [firstAt, this]
theorem firstAt_some {α : Type} {p : α → Bool} {xs : List α} {k : Nat} {x : α} (hx : xs[k]? = some x) (hp : p x = true) (h : ∀ j x, j < k → xs[j]? = some x → p x = false) : firstAt p xs = k := by
  have : xs.findIdx? p = some k := by
    rw [List.findIdx?_eq_some_iff_getElem]
    obtain ⟨hl, he⟩ := List.getElem?_eq_some_iff.1 hx
    refine ⟨hl, by rw [he]; exact hp, fun j hj => ?_⟩
    have := h j xs[j] hj (List.getElem?_eq_getElem (by omega))
    simp [this]
  simp [firstAt, this]

/-- fn is a function of the program with a body -/
def CallsIt (fn : Nat) : Prop := ∀ (bs : Array Value) (w : World), (callFunc fn bs).run Try.prog w = .ok (.enter fn bs) w
theorem IndexFuncInt_c (v : Value) (xs : List Int) (fn : Nat) (cap : Array Value) (p : Int → Bool) (w : World) (hv : Ints w v xs) (hf : CallsIt fn)
    (hp : ∀ (x : Int) (w' : World), x ∈ xs → Below w.heap.size w w' → Calls Try.prog fn (#[.int .i64 x] ++ cap) w' fun e w'' => e = .returned (.bool (p x)) ∧ Below w'.heap.size w' w'') :
    Calls Try.prog 109 #[v, .func (.func fn) #[] cap] w fun e w' => e = .returned (.int .i64 (firstAt p xs)) ∧ Below w.heap.size w w' := by
  obtain ⟨a, c, rfl, hc1, hc2, HC⟩ := hv.parts
  have hf' : ∀ (bs : Array Value) (w : World), (callFunc fn bs).run Try.prog w = .ok (.enter fn bs) w := hf
  go_enter Try.func109, Try.ntmps109
  go_wp2
  go_loopw [8] (fun i wr => ∃ k : Nat, k ≤ xs.length ∧ i = .int .i64 k ∧ Hid (∀ j x, j < k → xs[j]? = some x → p x = false) ∧ Below w.heap.size w wr) (fun i _ => xs.length - (intOf i).toNat)
  case atStart => exact ⟨0, by omega, rfl, fun j x hj => by omega, Below.refl _ _⟩
  case round =>
    obtain ⟨k, hk, rfl, hbef, hb⟩ := hrel
    have hlen := hv.le
    by_cases hlt : k < xs.length
    · obtain ⟨x, hx⟩ := elem_at hlt
      obtain ⟨b, off, rfl, g0⟩ := HC.out k x hx.out
      have hblt : b < w.heap.size := World.block_lt_of_cell? w _ g0
      have g1 : wr.cell? ⟨b, off + k, none⟩ = some (.int .i64 x) := ((bcell hb).1 _ _ hblt).trans g0
      clear g0
      go_wp2_with fail
      refine (hp x _ (List.mem_of_getElem? hx.out) hb).mono ?_
      rintro e w1 ⟨rfl, hb1⟩
      have hb2 : Below w.heap.size w w1 := hb.trans (hb1.mono hb.size)
      rcases hpx : p x with _ | _
      · have HP := Lib.hid hpx; clear hpx
        go_wp2
        go_roundw
        case rel => exact ⟨k + 1, by omega, by go_num, fun j y hj hy => by
          by_cases hj2 : j < k
          · exact hbef.out j y hj2 hy
          · obtain rfl : j = k := by omega
            rw [hx.out] at hy; obtain rfl := Option.some.inj hy; exact HP.out, hb2⟩
        case measure => simp [intOf]; omega
      · have HP := Lib.hid hpx; clear hpx
        go_wp2
        go_ret
        exact ⟨int_ret (firstAt_some hx.out HP.out hbef.out).symm, hb2⟩
    · go_wp2
      go_ret
      exact ⟨int_ret (firstAt_none (by omega) hbef.out).symm, hb⟩
theorem ContainsFuncInt_c (v : Value) (xs : List Int) (fn : Nat) (cap : Array Value) (p : Int → Bool) (w : World) (hv : Ints w v xs) (hf : CallsIt fn)
    (hp : ∀ (x : Int) (w' : World), x ∈ xs → Below w.heap.size w w' → Calls Try.prog fn (#[.int .i64 x] ++ cap) w' fun e w'' => e = .returned (.bool (p x)) ∧ Below w'.heap.size w' w'') :
    Calls Try.prog 104 #[v, .func (.func fn) #[] cap] w fun e w' => e = .returned (.bool (decide (0 ≤ firstAt p xs))) ∧ Below w.heap.size w w' := by
  go_enter Try.func104, Try.ntmps104
  go_wp2_with fail
  refine (IndexFuncInt_c v xs fn cap p w hv hf hp).mono ?_
  rintro e w' ⟨rfl, hb⟩
  go_wp2
  go_ret
  exact ⟨bool_ret (by simp), hb⟩
theorem firstAt_not_all {xs : List Int} {p : Int → Bool} : (decide (0 ≤ firstAt (fun x => !p x) xs)) = !(xs.all p) := by
  unfold firstAt
  cases h : xs.findIdx? (fun x => !p x) with
  | none => rw [List.findIdx?_eq_none_iff] at h; simp; exact fun x hx => by simpa using h x hx
  | some i =>
    rw [List.findIdx?_eq_some_iff_getElem] at h; obtain ⟨hl, h1, _⟩ := h
    simp; exact ⟨xs[i], List.getElem_mem hl, by simpa using h1⟩
/-- 'is' is a function of the program that looks at one int -/
theorem areAllInt_c (v : Value) (xs : List Int) (fn : Nat) (p : Int → Bool) (w : World) (hv : Ints w v xs) (hf : CallsIt fn)
    (hp : ∀ (x : Int) (w' : World), Calls Try.prog fn #[.int .i64 x] w' fun e w'' => e = .returned (.bool (p x)) ∧ w' = w'') :
    Calls Try.prog 92 #[v, .func (.func fn) #[] #[]] w fun e w' => e = .returned (.bool (xs.all p)) ∧ Below w.heap.size w w' := by
  go_enter Try.func92, Try.ntmps92
  go_wp2_with fail
  refine (ContainsFuncInt_c v xs 105 #[.pointer (some ⟨w.heap.size, 0, none⟩)] (fun x => !p x) _ (hv.below (below_one _)) (fun _ _ => by kernel_rfl) ?_).mono ?_
  · intro x w' _ hb
    have hc : w'.cell? ⟨w.heap.size, 0, none⟩ = some (.func (.func fn) #[] #[]) := by
      rw [(bcell hb).1 _ _ (by simp), World.cell?_alloc_at _ _ _ _ rfl]; rfl
    have hf' : ∀ (bs : Array Value) (w : World), (callFunc fn bs).run Try.prog w = .ok (.enter fn bs) w := hf
    go_enter Try.func105, Try.ntmps105
    go_wp2_with fail
    refine (hp x w').mono ?_
    rintro e w'' ⟨rfl, rfl⟩
    go_wp2
    go_ret
    exact ⟨rfl, Below.refl _ _⟩
  · rintro e w' ⟨rfl, hb⟩
    go_wp2
    go_ret
    exact ⟨bool_ret (by rw [firstAt_not_all]; simp), (below_one _).trans (hb.mono (by simp))⟩
end Go.Proofs.Ytfbnmkpkihfocaa
namespace Go.Proofs.Ytfbnmkpkihfocaa
open Go.RowKit
set_option linter.unusedVariables false
set_option maxRecDepth 100000
def tenI : List Int := [0, 1, 2, 3, 4, 5, 6, 7, 8, 9]
theorem tenI_fin : ∀ k : Fin 10, tenI[k.1]? = some (k.1 : Int) := by decide
theorem tenI_at {k : Nat} (h : k < 10) : tenI[k]? = some (k : Int) := tenI_fin ⟨k, h⟩
/-- those of the first n digits that show a cell under a fault -/
def digTo (d l c : Int) (n : Nat) : List Int := (tenI.take n).filter fun x => shC d l (dg x) == c
def digL (d l c : Int) : List Int := tenI.filter fun x => shC d l (dg x) == c
theorem digTo_all (d l c : Int) : digTo d l c 10 = digL d l c := rfl
theorem digTo_le (d l c : Int) (n : Nat) : (digTo d l c n).length ≤ 10 := Nat.le_trans (List.length_filter_le _ _) (by rw [List.length_take]; simp [tenI]; omega)
theorem digL_le (d l c : Int) : (digL d l c).length ≤ 10 := Nat.le_trans (List.length_filter_le _ _) (by simp [tenI])
theorem digTo_succ (d l c : Int) {n : Nat} (h : n < 10) : digTo d l c (n + 1) = digTo d l c n ++ if shC d l (dg n) == c then [(n : Int)] else [] := by
  unfold digTo
  rw [take_snoc (tenI_at h), List.filter_append]
  cases hq : (shC d l (dg n) == c) <;> simp [hq]
theorem ints_snoc (xs : List Int) (x : Int) : (xs ++ [x]).map (Value.int .i64) = xs.map (Value.int .i64) ++ [.int .i64 x] := by simp

theorem digits_c (d l c : Int) (w : World) (d0 : 0 ≤ d) (d1 : d ≤ 127) (l0 : 0 ≤ l) (l1 : l ≤ 127) :
    Calls Try.prog 59 #[.agg #[.int .i64 d, .int .i64 l], .int .i64 c] w fun e w' => ∃ u, e = .returned u ∧ w'.ownsRow w.heap.size 3 1 u (digL d l c).length ((digL d l c).map (Value.int .i64)) ∧ Below w.heap.size w w' := by
  obtain ⟨i, hi, hz0, hz1, hz2⟩ := info_parts info_int
  have q0 : (w.alloc (.cells #[.int .i64 d, .int .i64 l] 25)).cell? ⟨w.heap.size, 0, none⟩ = some (.int .i64 d) := by rw [World.cell?_alloc_at _ _ _ _ rfl]; rfl
  have q1 : (w.alloc (.cells #[.int .i64 d, .int .i64 l] 25)).cell? ⟨w.heap.size, 1, none⟩ = some (.int .i64 l) := by rw [World.cell?_alloc_at _ _ _ _ rfl]; rfl
  have hb0 := below_one (w := w) (.cells #[.int .i64 d, .int .i64 l] 25)
  go_enter Try.func59, Try.ntmps59
  go_wp2_with fail
  refine (digitCells_c _).mono ?_
  rintro e w1 ⟨rfl, hb1⟩
  have r0 := cell_later hb1 q0
  have r1 := cell_later hb1 q1
  have hb2 := Below.chain hb0 hb1
  clear q0 q1 hb0 hb1
  go_wp2
  go_loopw [5, 6, 7, 9] (fun o _ _ j wr => ∃ k : Nat, k ≤ 10 ∧ j = .int .i64 (k : Int) ∧ wr.ownsRow (w.heap.size + 1) 3 1 o (digTo d l c k).length ((digTo d l c k).map (Value.int .i64)) ∧ Below w.heap.size w wr ∧ w.heap.size + 1 ≤ wr.heap.size ∧ wr.cell? ⟨w.heap.size, 0, none⟩ = some (.int .i64 d) ∧ wr.cell? ⟨w.heap.size, 1, none⟩ = some (.int .i64 l)) (fun _ _ _ j _ => 11 - (intOf j).toNat)
  case atStart => exact ⟨0, by omega, rfl, World.ownsRow_nil _ _ _ _, hb2, World.block_lt_of_cell? _ _ r0, r0, r1⟩
  case round =>
    obtain ⟨k, hk, rfl, ho, hb, hsz, g0, g1⟩ := hrel
    clear r0 r1 hb2
    by_cases hlt : k < 10
    · have hd : decide ((k : Int) < 10) = true := by simp; omega
      have hix := fun w => index_dig (k : Int) (by omega) (by omega) w
      have bdx := dg_bd (k : Int)
      have hsc := digTo_succ d l c hlt
      have hle := digTo_le d l c k
      generalize digTo d l c k = cur at *
      have HS := Lib.hid hsc; clear hsc
      go_wp2_with fail
      refine (shown_c d l (dg k) d0 d1 l0 l1 bdx.1 bdx.2 _).mono ?_
      rintro e w2 ⟨rfl, hb3⟩
      have g02 := cell_later hb3 g0
      have g12 := cell_later hb3 g1
      have hb4 := Below.chain hb hb3
      have ho2 := own_keep ho hb3
      have hsz2 := Nat.le_trans hsz hb3.size
      clear g0 g1 hb hb3 ho hsz hix
      rcases hq : (shC d l (dg (k : Int)) == c) with _ | _
      · have hS2 : digTo d l c (k + 1) = cur := by rw [HS.out]; simp [hq]
        have HS2 := Lib.hid hS2; clear hS2 HS
        go_wp2
        go_roundw
        case rel => exact ⟨k + 1, by omega, by go_num, by rw [HS2.out]; exact ho2, hb4, hsz2, g02, g12⟩
        case measure => simp [intOf]; omega
      · have hS2 : digTo d l c (k + 1) = cur ++ [(k : Int)] := by rw [HS.out]; simp [hq]
        have HS2 := Lib.hid hS2; clear hS2 HS
        go_wp2_with (at_builtin; refine wpList_append_own_at _ rfl _ _ 27 rfl (w.heap.size + 1) 3 i (.int .i64 0) 1 8 Try.underlying27 hi hz0 hz1 hz2 rfl (by decide) _ cur.length (cur.map (Value.int .i64)) rfl (ho2.alloc _) ⟨w2.heap.size, 0, none⟩ 1 1 [.int .i64 k] rfl rfl (news_new _ [.int .i64 k] _) (by simp [Value.oneCell']) (by unfold maxLen; omega) (by omega) (by simp; omega) ?_)
        intro v' w3 ho5 hg5 _ _
        have hlt2 := World.block_lt_of_cell? _ _ g02
        have hb7 : Below w.heap.size w w3 := (Below.alc hb4 _).grown hg5 (by have := hb4.size; simp; omega) (fun g hg => by have := (ho2.lt g hg).1; omega)
        have hkeep : ∀ o v, w2.cell? ⟨w.heap.size, o, none⟩ = some v → w3.cell? ⟨w.heap.size, o, none⟩ = some v := fun o v h =>
          hg5.cell (cell_later (below_one _) h) (fun e => by have := (ho2.lt _ e.symm).1; simp at this; omega)
        have g03 := hkeep _ _ g02
        have g13 := hkeep _ _ g12
        have hsz3 : w.heap.size + 1 ≤ w3.heap.size := Nat.le_trans (by simp; omega) hg5.size
        clear ho2 hb4 hg5 g02 g12 hkeep hlt2 hsz2
        go_wp2
        go_roundw
        case rel => exact ⟨k + 1, by omega, by go_num, by rw [HS2.out]; exact ownsRow_cast ho5 (by simp) (ints_snoc _ _).symm, hb7, hsz3, g03, g13⟩
        case measure => simp [intOf]; omega
    · obtain rfl : k = 10 := by omega
      go_wp2
      go_ret
      exact ⟨_, rfl, by rw [← digTo_all]; exact own_lo ho (by omega), hb⟩

theorem l3Digits_c (d l c : Int) (w : World) (d0 : 0 ≤ d) (d1 : d ≤ 127) (l0 : 0 ≤ l) (l1 : l ≤ 127) :
    Calls Try.prog 61 #[.agg #[.int .i64 d, .int .i64 l], .int .i64 c] w fun e w' => ∃ u, e = .returned u ∧ w'.ownsRow w.heap.size 3 1 u (digL d l c).length ((digL d l c).map (Value.int .i64)) ∧ Below w.heap.size w w' := by
  obtain ⟨i, hi, hz0, hz1, hz2⟩ := info_parts info_int
  have q0 : (w.alloc (.cells #[.int .i64 d, .int .i64 l] 25)).cell? ⟨w.heap.size, 0, none⟩ = some (.int .i64 d) := by rw [World.cell?_alloc_at _ _ _ _ rfl]; rfl
  have q1 : (w.alloc (.cells #[.int .i64 d, .int .i64 l] 25)).cell? ⟨w.heap.size, 1, none⟩ = some (.int .i64 l) := by rw [World.cell?_alloc_at _ _ _ _ rfl]; rfl
  have r0 := cell_later (below_one (.cells #[] 3)) q0
  have r1 := cell_later (below_one (.cells #[] 3)) q1
  have hb2 : Below w.heap.size w ((w.alloc (.cells #[.int .i64 d, .int .i64 l] 25)).alloc (.cells #[] 3)) := by (repeat (first | exact Below.refl _ _ | exact (Below.refl _ _).drew | assumption | exact below_one _ | refine Below.chain ?_ (by assumption) | refine Below.drew ?_ | refine Below.alc ?_ _ | refine below_drewN ?_ | (refine Below.setCell ?_ ?_ _) | exact Nat.le_refl _ | (simp; done) | (simp; omega)))
  have ho0 := World.ownsRow_lit (e := 3) (size := 1) (base := w.heap.size + 1) (w.alloc (.cells #[.int .i64 d, .int .i64 l] 25)) #[] 0 (by simp) (by decide) rfl
  rw [show (w.alloc (.cells #[.int .i64 d, .int .i64 l] 25)).heap.size = w.heap.size + 1 by simp] at ho0
  clear q0 q1
  go_enter Try.func61, Try.ntmps61
  go_wp2
  go_loopw [5, 6] (fun o j wr => ∃ k : Nat, k ≤ 10 ∧ j = .int .i64 (k : Int) ∧ wr.ownsRow (w.heap.size + 1) 3 1 o (digTo d l c k).length ((digTo d l c k).map (Value.int .i64)) ∧ Below w.heap.size w wr ∧ w.heap.size + 1 ≤ wr.heap.size ∧ wr.cell? ⟨w.heap.size, 0, none⟩ = some (.int .i64 d) ∧ wr.cell? ⟨w.heap.size, 1, none⟩ = some (.int .i64 l)) (fun _ j _ => 11 - (intOf j).toNat)
  case atStart => exact ⟨0, by omega, rfl, ho0, hb2, World.block_lt_of_cell? _ _ r0, r0, r1⟩
  case round =>
    obtain ⟨k, hk, rfl, ho, hb, hsz, g0, g1⟩ := hrel
    clear r0 r1 hb2 ho0
    by_cases hlt : k < 10
    · have hd : decide ((k : Int) < 10) = true := by simp; omega
      have bdx := dg_bd (k : Int)
      have hsc := digTo_succ d l c hlt
      have hle := digTo_le d l c k
      generalize digTo d l c k = cur at *
      have HS := Lib.hid hsc; clear hsc
      go_wp2_with fail
      go_region_held3 (fun w' => w'.cell? ⟨w.heap.size, 0, none⟩ = some (.int .i64 d) ∧ w'.cell? ⟨w.heap.size, 1, none⟩ = some (.int .i64 l))
        (first | go_keep | (go_split_ands; exact ⟨cell_later (by assumption) (by assumption), cell_later (by assumption) (by assumption)⟩))
        (first | (go_at_call 55; refine (l2Digit_c (k : Int) (by omega) (by omega) _).mono ?_; rintro e w' ⟨rfl, hb2⟩) | (go_at_call 54; refine (l3Shown_c d l (dg k) d0 d1 l0 l1 bdx.1 bdx.2 _).mono ?_; rintro e w' ⟨rfl, hb3⟩))
      go_split_ands
      have g02 : w'.cell? ⟨w.heap.size, 0, none⟩ = some (.int .i64 d) := by assumption
      have g12 : w'.cell? ⟨w.heap.size, 1, none⟩ = some (.int .i64 l) := by assumption
      have hb23 : Below wr.heap.size wr w' := Below.chain (Below.chain (Below.refl _ _).drew hb2) hb3
      have hb4 := Below.chain hb hb23
      have ho2 := own_keep ho hb23
      have hsz2 := Nat.le_trans hsz hb23.size
      clear g0 g1 hb hb3 hb2 hb23 ho hsz
      rcases hq : (shC d l (dg (k : Int)) == c) with _ | _
      · have hS2 : digTo d l c (k + 1) = cur := by rw [HS.out]; simp [hq]
        have HS2 := Lib.hid hS2; clear hS2 HS
        go_wp2
        go_roundw
        case rel => exact ⟨k + 1, by omega, by go_num, by rw [HS2.out]; exact ho2, hb4, hsz2, g02, g12⟩
        case measure => simp [intOf]; omega
      · have hS2 : digTo d l c (k + 1) = cur ++ [(k : Int)] := by rw [HS.out]; simp [hq]
        have HS2 := Lib.hid hS2; clear hS2 HS
        go_wp2_with (at_builtin; refine wpList_append_own_at _ rfl _ _ 27 rfl (w.heap.size + 1) 3 i (.int .i64 0) 1 8 Try.underlying27 hi hz0 hz1 hz2 rfl (by decide) _ cur.length (cur.map (Value.int .i64)) rfl (ho2.alloc _) ⟨w'.heap.size, 0, none⟩ 1 1 [.int .i64 k] rfl rfl (news_new _ [.int .i64 k] _) (by simp [Value.oneCell']) (by unfold maxLen; omega) (by omega) (by simp; omega) ?_)
        intro v' w3 ho5 hg5 _ _
        have hlt2 := World.block_lt_of_cell? _ _ g02
        have hb7 : Below w.heap.size w w3 := (Below.alc hb4 _).grown hg5 (by have := hb4.size; simp; omega) (fun g hg => by have := (ho2.lt g hg).1; omega)
        have hkeep : ∀ o v, w'.cell? ⟨w.heap.size, o, none⟩ = some v → w3.cell? ⟨w.heap.size, o, none⟩ = some v := fun o v h =>
          hg5.cell (cell_later (below_one _) h) (fun e => by have := (ho2.lt _ e.symm).1; simp at this; omega)
        have g03 := hkeep _ _ g02
        have g13 := hkeep _ _ g12
        have hsz3 : w.heap.size + 1 ≤ w3.heap.size := Nat.le_trans (by simp; omega) hg5.size
        clear ho2 hb4 hg5 g02 g12 hkeep hlt2 hsz2
        go_wp2
        go_roundw
        case rel => exact ⟨k + 1, by omega, by go_num, by rw [HS2.out]; exact ownsRow_cast ho5 (by simp) (ints_snoc _ _).symm, hb7, hsz3, g03, g13⟩
        case measure => simp [intOf]; omega
    · obtain rfl : k = 10 := by omega
      go_wp2
      go_ret
      exact ⟨_, rfl, by rw [← digTo_all]; exact own_lo ho (by omega), hb⟩
end Go.Proofs.Ytfbnmkpkihfocaa
namespace Go.Proofs.Ytfbnmkpkihfocaa
open Go.RowKit
set_option linter.unusedVariables false
set_option linter.unusedSimpArgs false
set_option maxRecDepth 100000

theorem cell_c (g m : Nat) (w : World) (h : CurAt w g m) (hm : m + 20 < 4611686018427387904) :
    Calls Try.prog 57 #[.pointer (some ⟨g, 0, none⟩)] w (DrawI w g (m + 20) fun _ => True) := by
  have HC := Lib.hid h
  clear h
  go_enter Try.func57, Try.ntmps57
  go_wp2_with fail
  refine (pick_c 40 g m _ HC.out (by omega)).mono ?_
  rintro e w1 ⟨x, rfl, hx, hs⟩
  have HS := Lib.hid hs
  clear hs hx
  have A1 := Lib.hid (fun xs hp hl => amongL_c xs g (m + 2) w1 _ rfl HS.out.cur (by omega) hp hl)
  have O1 := Lib.hid (fun n => one_c n g (m + 2) w1 HS.out.cur (by omega))
  by_cases e0 : x = 0
  · subst e0
    go_wp2_with fail
    refine (A1.out [-1, 128, 4611686018427387904] (by decide) (by decide)).mono ?_
    rintro e w2 ⟨y, rfl, hy, hs⟩
    have HS2 := Lib.hid (HS.out.trans hs)
    clear hs hy
    go_wp2
    go_ret
    exact ⟨_, rfl, trivial, HS2.out.mono (by omega)⟩
  · by_cases e1 : x = 1 ∨ x = 2 ∨ x = 3
    · rcases e1 with rfl | rfl | rfl <;>
      · go_wp2_with fail
        refine (A1.out [0, 127, 64] (by decide) (by decide)).mono ?_
        rintro e w2 ⟨y, rfl, hy, hs⟩
        have HS2 := Lib.hid (HS.out.trans hs)
        clear hs hy
        go_wp2
        go_ret
        exact ⟨_, rfl, trivial, HS2.out.mono (by omega)⟩
    · have e1' : ¬ x = 1 := fun h => e1 (.inl h)
      have e2' : ¬ x = 2 := fun h => e1 (.inr (.inl h))
      have e3' : ¬ x = 3 := fun h => e1 (.inr (.inr h))
      clear e1
      go_wp2_with fail
      refine (O1.out 3).mono ?_
      rintro e w2 ⟨b, rfl, hs⟩
      have HS2 := Lib.hid (HS.out.trans hs)
      clear hs
      cases b with
      | true =>
        go_wp2_with fail
        refine (pick_c 128 g (m + 4) _ HS2.out.cur (by omega)).mono ?_
        rintro e w3 ⟨y, rfl, hy, hs⟩
        have HS3 := Lib.hid (HS2.out.trans hs)
        clear hs hy
        go_wp2
        go_ret
        exact ⟨_, rfl, trivial, HS3.out.mono (by omega)⟩
      | false =>
        go_wp2_with fail
        refine (pick_c 10 g (m + 4) _ HS2.out.cur (by omega)).mono ?_
        rintro e w3 ⟨y, rfl, hy, hs⟩
        have HS3 := Lib.hid (HS2.out.trans hs)
        have y0 := hy.1
        have y1 := hy.2 (by omega)
        clear hs hy
        go_wp2_with fail
        refine (l2Digit_c y y0 (by omega) _).mono ?_
        rintro e w4 ⟨rfl, hb⟩
        have HS4 := Lib.hid (HS3.out.below hb)
        clear hb
        go_wp2_with fail
        refine (one_c 5 g (m + 6) _ HS4.out.cur (by omega)).mono ?_
        rintro e w5 ⟨b, rfl, hs⟩
        have HS5 := Lib.hid (HS4.out.trans hs)
        clear hs
        cases b with
        | false =>
          go_wp2
          go_ret
          exact ⟨_, rfl, trivial, HS5.out.mono (by omega)⟩
        | true =>
          go_wp2_with fail
          refine (pick_c 7 g (m + 8) _ HS5.out.cur (by omega)).mono ?_
          rintro e w6 ⟨z, rfl, hz, hs⟩
          have HS6 := Lib.hid (HS5.out.trans hs)
          obtain ⟨k, rfl⟩ := Int.eq_ofNat_of_zero_le hz.1
          have z1 : k < 7 := by have := hz.2 (by omega); omega
          clear hs hz
          go_wp2
          go_ret
          exact ⟨_, rfl, trivial, HS6.out.mono (by omega)⟩

/-- What a draw of a slice of ints gives. -/
def DrawS (w : World) (g m n : Nat) (e : Ending) (w' : World) : Prop :=
  ∃ (v : Value) (xs : List Int), e = .returned v ∧ xs.length ≤ n ∧ w'.ownsRow w.heap.size 3 1 v xs.length (xs.map (Value.int .i64)) ∧ CStep w w' g m
theorem DrawS.mono {w : World} {g m m' n n' : Nat} {e : Ending} {w' : World} (h : DrawS w g m n e w') (hm : m ≤ m') (hn : n ≤ n') : DrawS w g m' n' e w' := by
  obtain ⟨v, xs, h1, h2, h3, h4⟩ := h
  exact ⟨v, xs, h1, by omega, h3, h4.mono hm⟩
/-- behind an append to a row of the call's own -/
theorem CStep.grown {a b c : World} {g m : Nat} {r : Option Nat} (h : CStep a b g m) (hg : b.grownBy c r) (hga : g < a.heap.size) (hr : ∀ k, r = some k → a.heap.size ≤ k) : CStep a c g m :=
  ⟨⟨hg.os.trans h.gr.os, hg.tape.trans h.gr.tape, hg.output.trans h.gr.output, Nat.le_trans h.gr.size hg.size, fun i hi hne => (hg.block i (Nat.lt_of_lt_of_le hi h.gr.size) (fun e => by
    have := hr i e.symm; omega)).trans (h.gr.block i hi hne)⟩, h.cur.grown hg (fun k hk => by have := hr k hk; omega)⟩
theorem row_start (w : World) (lo : Nat) (h : lo ≤ w.heap.size) : (w.alloc (.cells #[] 3)).ownsRow lo 3 1 (.slice (some ⟨w.heap.size, 0, none⟩) 0 0) ([] : List Int).length (([] : List Int).map (Value.int .i64)) :=
  World.ownsRow_lit (e := 3) (size := 1) (base := lo) w #[] 0 h (by decide) rfl
set_option maxHeartbeats 1000000 in
theorem row_c (g m : Nat) (w : World) (h : CurAt w g m) (hm : m + 150 < 4611686018427387904) :
    Calls Try.prog 71 #[.pointer (some ⟨g, 0, none⟩)] w (DrawS w g (m + 150) 7) := by
  have HC := Lib.hid h
  have hga := h.lt
  obtain ⟨i, hi, hz0, hz1, hz2⟩ := info_parts info_int
  have HO := Lib.hid (row_start w w.heap.size (Nat.le_refl _))
  clear h
  go_enter Try.func71, Try.ntmps71
  go_wp2_with fail
  refine (amongL_c [2, 3, 1, 4, 6, 0, 5, 2, 3] g m _ _ (by simp) (HC.out.alloc (.cells #[] 3)) (by omega) (by decide) (by decide)).mono ?_
  rintro e w1 ⟨x, rfl, hx, hs⟩
  have HS := Lib.hid ((((CStep.refl HC.out).alloc (.cells #[] 3)).trans hs))
  have ho := hs.row HO.out hga
  obtain ⟨x0, x1⟩ : 0 ≤ x ∧ x ≤ 6 := by
    simp only [List.mem_cons, List.not_mem_nil, or_false] at hx; omega
  obtain ⟨k, rfl⟩ := Int.eq_ofNat_of_zero_le x0
  have hk : k ≤ 6 := by omega
  clear hs hx x0 x1 HO
  go_wp2
  go_loopw [3, 4] (fun o j wr => ∃ (k : Nat) (xs : List Int), k ≤ 6 ∧ j = .int .i64 (k : Int) ∧ xs.length + k ≤ 6 ∧ wr.ownsRow w.heap.size 3 1 o xs.length (xs.map (Value.int .i64)) ∧ CStep w wr g (m + 2 + 20 * (6 - k))) (fun _ j _ => (intOf j).toNat)
  case atStart => exact ⟨k, [], hk, rfl, by simpa using hk, ho, HS.out.mono (by omega)⟩
  case round =>
    obtain ⟨k, xs, hk, rfl, hl, ho, hs⟩ := hrel
    have HS := Lib.hid hs
    have HO := Lib.hid ho
    clear hs ho
    by_cases hk0 : 0 < k
    · have hd : decide (0 < (k : Int)) = true := by simp; omega
      go_wp2_with fail
      refine (cell_c g _ _ HS.out.cur (by omega)).mono ?_
      rintro e w2 ⟨x, rfl, _, hs⟩
      have HS2 := Lib.hid (HS.out.trans hs)
      have HO2 := Lib.hid (hs.row HO.out hga)
      clear hs
      go_wp2_with (at_builtin; refine wpList_append_own_at _ rfl _ _ 27 rfl w.heap.size 3 i (.int .i64 0) 1 8 Try.underlying27 hi hz0 hz1 hz2 rfl (by decide) _ xs.length (xs.map (Value.int .i64)) rfl (HO2.out.alloc _) ⟨w2.heap.size, 0, none⟩ 1 1 [.int .i64 x] rfl rfl (news_new _ [.int .i64 x] _) (by simp [Value.oneCell']) (by unfold maxLen; omega) (by omega) (by have := HS2.out.gr.size; simp; omega) ?_)
      intro v' w3 ho5 hg5 _ _
      have HS3 := Lib.hid ((HS2.out.alloc _).grown hg5 hga (fun k hk => ((HO2.out.alloc (.cells #[.int .i64 x] 3)).lt k hk).1))
      have HO3 := Lib.hid ho5
      clear ho5 hg5
      go_wp2
      go_roundw
      case rel => exact ⟨k - 1, xs ++ [x], by omega, by go_num, by simp; omega, ownsRow_cast HO3.out (by simp) (ints_snoc _ _).symm, HS3.out.mono (by omega)⟩
      case measure => simp [intOf]; omega
    · obtain rfl : k = 0 := by omega
      clear hk0
      go_wp2_with fail
      refine (one_c 40 g _ _ HS.out.cur (by omega)).mono ?_
      rintro e w2 ⟨b, rfl, hs⟩
      have HS2 := Lib.hid (HS.out.trans hs)
      have HO2 := Lib.hid (hs.row HO.out hga)
      clear hs
      cases b with
      | false =>
        go_wp2
        go_ret
        exact ⟨_, xs, rfl, by omega, HO2.out, HS2.out.mono (by omega)⟩
      | true =>
        go_wp2
        go_ret
        exact ⟨_, [6, 6, 6, 6, 6, 6, 6], rfl, by decide, World.ownsRow_lit (e := 3) (size := 1) (base := w.heap.size) w2 #[.int .i64 6, .int .i64 6, .int .i64 6, .int .i64 6, .int .i64 6, .int .i64 6, .int .i64 6] 7 HS2.out.gr.size (by decide) rfl, (HS2.out.alloc _).mono (by omega)⟩
set_option maxHeartbeats 1000000 in
theorem digits_d (g m : Nat) (w : World) (h : CurAt w g m) (hm : m + 200 < 4611686018427387904) :
    Calls Try.prog 93 #[.pointer (some ⟨g, 0, none⟩)] w (DrawS w g (m + 200) 7) := by
  have HC := Lib.hid h
  have hga := h.lt
  obtain ⟨i, hi, hz0, hz1, hz2⟩ := info_parts info_int
  clear h
  go_enter Try.func93, Try.ntmps93
  go_wp2_with fail
  refine (one_c 6 g m _ HC.out (by omega)).mono ?_
  rintro e w1 ⟨b, rfl, hs⟩
  have HS := Lib.hid hs
  clear hs
  cases b with
  | true =>
    go_wp2_with fail
    refine (row_c g (m + 2) _ HS.out.cur (by omega)).mono ?_
    rintro e w2 ⟨v, xs, rfl, hl, ho, hs⟩
    have HS2 := Lib.hid (HS.out.trans hs)
    have HO2 := Lib.hid (own_lo ho HS.out.gr.size)
    clear hs ho
    go_wp2
    go_ret
    exact ⟨_, xs, rfl, hl, HO2.out, HS2.out.mono (by omega)⟩
  | false =>
    have HO := Lib.hid (row_start w1 w.heap.size HS.out.gr.size)
    have HS1 := Lib.hid (HS.out.alloc (.cells #[] 3))
    go_wp2_with fail
    refine (amongL_c [2, 3, 1, 4, 6] g (m + 2) _ _ (by simp) HS1.out.cur (by omega) (by decide) (by decide)).mono ?_
    rintro e w2 ⟨x, rfl, hx, hs⟩
    have HS2 := Lib.hid (HS1.out.trans hs)
    have ho := hs.row HO.out hga
    obtain ⟨x0, x1⟩ : 0 ≤ x ∧ x ≤ 6 := by
      simp only [List.mem_cons, List.not_mem_nil, or_false] at hx; omega
    obtain ⟨k, rfl⟩ := Int.eq_ofNat_of_zero_le x0
    have hk : k ≤ 6 := by omega
    clear hs hx x0 x1 HO HS1 HS
    go_wp2
    go_loopw [3, 4] (fun o j wr => ∃ (k : Nat) (xs : List Int), k ≤ 6 ∧ j = .int .i64 (k : Int) ∧ xs.length + k ≤ 6 ∧ wr.ownsRow w.heap.size 3 1 o xs.length (xs.map (Value.int .i64)) ∧ CStep w wr g (m + 4 + 20 * (6 - k))) (fun _ j _ => (intOf j).toNat)
    case atStart => exact ⟨k, [], hk, rfl, by simpa using hk, ho, HS2.out.mono (by omega)⟩
    case round =>
      obtain ⟨k, xs, hk, rfl, hl, ho, hs⟩ := hrel
      have HS := Lib.hid hs
      have HO := Lib.hid ho
      clear hs ho
      by_cases hk0 : 0 < k
      · have hd : decide (0 < (k : Int)) = true := by simp; omega
        go_wp2_with fail
        refine (amongL_c [0, 1, 2, 5, 6, 8, 9, 3, 4, 7] g _ _ _ (by simp) HS.out.cur (by omega) (by decide) (by decide)).mono ?_
        rintro e w2 ⟨x, rfl, hx, hs⟩
        obtain ⟨x0, x1⟩ : 0 ≤ x ∧ x ≤ 9 := by
          simp only [List.mem_cons, List.not_mem_nil, or_false] at hx; omega
        have HS2 := Lib.hid (HS.out.trans hs)
        have HO2 := Lib.hid (hs.row HO.out hga)
        clear hs hx
        go_wp2_with fail
        refine (l2Digit_c x x0 x1 _).mono ?_
        rintro e w3 ⟨rfl, hb⟩
        have HS3 := Lib.hid (HS2.out.below hb)
        have HO3 := Lib.hid (own_keep HO2.out hb)
        clear hb
        go_wp2_with (at_builtin; refine wpList_append_own_at _ rfl _ _ 27 rfl w.heap.size 3 i (.int .i64 0) 1 8 Try.underlying27 hi hz0 hz1 hz2 rfl (by decide) _ xs.length (xs.map (Value.int .i64)) rfl (HO3.out.alloc _) ⟨w3.heap.size, 0, none⟩ 1 1 [.int .i64 (dg x)] rfl rfl (news_new _ [.int .i64 (dg x)] _) (by simp [Value.oneCell']) (by unfold maxLen; omega) (by omega) (by have := HS3.out.gr.size; simp; omega) ?_)
        intro v' w4 ho5 hg5 _ _
        have HS4 := Lib.hid ((HS3.out.alloc _).grown hg5 hga (fun k hk => ((HO3.out.alloc (.cells #[.int .i64 (dg x)] 3)).lt k hk).1))
        have HO4 := Lib.hid ho5
        clear ho5 hg5
        go_wp2
        go_roundw
        case rel => exact ⟨k - 1, xs ++ [dg x], by omega, by go_num, by simp; omega, ownsRow_cast HO4.out (by simp) (ints_snoc _ _).symm, HS4.out.mono (by omega)⟩
        case measure => simp [intOf]; omega
      · obtain rfl : k = 0 := by omega
        clear hk0
        go_wp2
        go_ret
        exact ⟨_, xs, rfl, by omega, HO.out, HS.out.mono (by omega)⟩
/-- What a draw of a Fault gives. -/
def DrawF (w : World) (g m : Nat) (e : Ending) (w' : World) : Prop := ∃ d l : Int, e = .returned (.agg #[.int .i64 d, .int .i64 l]) ∧ CStep w w' g m
theorem CStep.store {a b : World} {g m : Nat} (h : CStep a b g m) (hga : g < a.heap.size) {p : Addr} (hp : a.heap.size ≤ p.block) (v : Value) : CStep a (b.setCell p v) g m :=
  ⟨⟨h.gr.os, h.gr.tape, h.gr.output, by have := h.gr.size; simp [World.setCell]; exact this, fun k hk hne => (Below.heap_setCell _ _ _ _ (by omega)).trans (h.gr.block k hk hne)⟩, h.cur.blocks fun k hk => Below.heap_setCell _ _ _ _ (by omega)⟩
theorem Bk.step {a b : World} {g m k t : Nat} {cs : Array Value} (h : Bk a k t cs) (hs : CStep a b g m) (hk : k ≠ g) : Bk b k t cs := h.keep (hs.gr.block k h.lt (fun e => hk (by cases e; rfl)))
theorem two_res {W : World} {b t : Nat} {a c : Value} (h : Bk W b t #[a, c]) (X Y : Value) :
    ((W.setCell ⟨b, 0, none⟩ X).setCell ⟨b, 1, none⟩ Y).cell? ⟨b, 0, none⟩ = some X ∧ ((W.setCell ⟨b, 0, none⟩ X).setCell ⟨b, 1, none⟩ Y).cell? ⟨b, 1, none⟩ = some Y := by
  have h2 := (h.set 0 X).set 1 Y
  exact ⟨h2.cell 0, h2.cell 1⟩
set_option maxHeartbeats 1000000 in
theorem fault3_c (g m : Nat) (w : World) (h : CurAt w g m) (hm : m + 30 < 4611686018427387904) :
    Calls Try.prog 52 #[.pointer (some ⟨g, 0, none⟩)] w (DrawF w g (m + 30)) := by
  have hga := h.lt
  have B0 := Lib.hid (Bk.new w 25 #[.int .i64 0, .int .i64 0])
  have B1 := Lib.hid (Bk.new (w.alloc (.cells #[.int .i64 0, .int .i64 0] 25)) 25 #[.int .i64 0, .int .i64 0])
  have HC := Lib.hid ((((CStep.refl h).alloc (.cells #[.int .i64 0, .int .i64 0] 25)).alloc (.cells #[.int .i64 0, .int .i64 0] 25)))
  clear h
  go_enter Try.func52, Try.ntmps52
  go_wp2_with fail
  refine (amongL_c [1, 2, 0, 3, 1, 5] g m _ _ (by simp) HC.out.cur (by omega) (by decide) (by decide)).mono ?_
  rintro e w1 ⟨x, rfl, hx, hs⟩
  have HS := Lib.hid (HC.out.trans hs)
  have b0 : Bk w1 w.heap.size 25 #[.int .i64 0, .int .i64 0] := (B0.out.alloc _).step hs (by omega)
  have b1 := B1.out.step hs (by simp; omega)
  rw [World.size_alloc] at b1
  obtain ⟨x0, x1⟩ : 0 ≤ x ∧ x ≤ 5 := by
    simp only [List.mem_cons, List.not_mem_nil, or_false] at hx; omega
  obtain ⟨k, rfl⟩ := Int.eq_ofNat_of_zero_le x0
  have hk : k ≤ 5 := by omega
  clear hs hx x0 x1 HC B0 B1
  go_wp2
  go_loopw [4] (fun j wr => ∃ (k : Nat) (d l : Int), k ≤ 5 ∧ j = .int .i64 (k : Int) ∧ Bk wr (w.heap.size + 1) 25 #[.int .i64 d, .int .i64 l] ∧ Bk wr w.heap.size 25 #[.int .i64 0, .int .i64 0] ∧ CStep w wr g (m + 2 + 4 * (5 - k))) (fun j _ => (intOf j).toNat)
  case atStart => exact ⟨k, 0, 0, hk, rfl, b1, b0, HS.out.mono (by omega)⟩
  case round =>
    obtain ⟨k, d, l, hk, rfl, b1, b0, hs⟩ := hrel
    have HS := Lib.hid hs
    have B0 := Lib.hid b0
    have B1 := Lib.hid b1
    clear hs b0 b1
    by_cases hk0 : 0 < k
    · have hd : decide (0 < (k : Int)) = true := by simp; omega
      go_wp2_with fail
      refine (pick_c 7 g _ _ HS.out.cur (by omega)).mono ?_
      rintro e w2 ⟨x, rfl, hx, hs⟩
      obtain ⟨b, rfl⟩ := Int.eq_ofNat_of_zero_le hx.1
      have z1 : b < 7 := by have := hx.2 (by omega); omega
      have HS2 := Lib.hid (HS.out.trans hs)
      have B02 := Lib.hid (B0.out.step hs (by omega))
      have B12 := Lib.hid (B1.out.step hs (by omega))
      have r0 : w2.cell? ⟨w.heap.size + 1, 0, none⟩ = some (.int .i64 d) := B12.out.cell 0
      have r1 : w2.cell? ⟨w.heap.size + 1, 1, none⟩ = some (.int .i64 l) := B12.out.cell 1
      clear hs hx B0 B1 HS
      rcases hq : (bits BinOp.and IntKind.i64 (bits BinOp.or IntKind.i64 d l) (wrap64 (2 ^ b)) != 0) with _ | _
      · go_wp2_with fail
        refine (one_c 3 g _ _ HS2.out.cur (by omega)).mono ?_
        rintro e w3 ⟨t, rfl, hs⟩
        have HS3 := Lib.hid (HS2.out.trans hs)
        have B03 := Lib.hid (B02.out.step hs (by omega))
        have B13 := Lib.hid (B12.out.step hs (by omega))
        have r0 : w3.cell? ⟨w.heap.size + 1, 0, none⟩ = some (.int .i64 d) := B13.out.cell 0
        have r1 : w3.cell? ⟨w.heap.size + 1, 1, none⟩ = some (.int .i64 l) := B13.out.cell 1
        have f0 : w3.frozen? ⟨w.heap.size + 1, 0, none⟩ = false := B13.out.frozen 0
        have f1 : w3.frozen? ⟨w.heap.size + 1, 1, none⟩ = false := B13.out.frozen 1
        clear hs B02 B12
        cases t with
        | true =>
          go_wp2
          go_roundw
          case rel => exact ⟨k - 1, _, _, by omega, by go_num, B13.out.set 1 _, B03.out.other (by simp) _, (HS3.out.store hga (by simp) _).mono (by omega)⟩
          case measure => simp [intOf]; omega
        | false =>
          go_wp2
          go_roundw
          case rel => exact ⟨k - 1, _, _, by omega, by go_num, B13.out.set 0 _, B03.out.other (by simp) _, (HS3.out.store hga (by simp) _).mono (by omega)⟩
          case measure => simp [intOf]; omega
      · go_wp2
        go_roundw
        case rel => exact ⟨k - 1, _, _, by omega, by go_num, B12.out, B02.out, HS2.out.mono (by omega)⟩
        case measure => simp [intOf]; omega
    · obtain rfl : k = 0 := by omega
      clear hk0
      go_wp2_with fail
      refine (pick_c 50 g _ _ HS.out.cur (by omega)).mono ?_
      rintro e w2 ⟨x, rfl, hx, hs⟩
      have HS2 := Lib.hid (HS.out.trans hs)
      have B02 := Lib.hid (B0.out.step hs (by omega))
      have B12 := Lib.hid (B1.out.step hs (by omega))
      clear hs hx B0 B1 HS
      by_cases e0 : x = 0
      · subst e0
        go_wp2_with fail
        refine (amongL_c [-1, 128, 127] g _ _ _ (by simp) HS2.out.cur (by omega) (by decide) (by decide)).mono ?_
        rintro e w3 ⟨y, rfl, hy, hs⟩
        have HS3 := Lib.hid (HS2.out.trans hs)
        have B03 := Lib.hid (B02.out.step hs (by omega))
        have B13 := Lib.hid (B12.out.step hs (by omega))
        have q0 : w3.cell? ⟨w.heap.size, 0, none⟩ = some (.int .i64 0) := B03.out.cell 0
        have q1 : w3.cell? ⟨w.heap.size, 1, none⟩ = some (.int .i64 0) := B03.out.cell 1
        have r0 : w3.cell? ⟨w.heap.size + 1, 0, none⟩ = some (.int .i64 d) := B13.out.cell 0
        have r1 : w3.cell? ⟨w.heap.size + 1, 1, none⟩ = some (.int .i64 l) := B13.out.cell 1
        have f0 : w3.frozen? ⟨w.heap.size + 1, 0, none⟩ = false := B13.out.frozen 0
        have g0 : w3.frozen? ⟨w.heap.size, 0, none⟩ = false := B03.out.frozen 0
        have g1 : w3.frozen? ⟨w.heap.size, 1, none⟩ = false := B03.out.frozen 1
        clear hs hy B02 B12
        go_wp2
        have CS : CStep w (w3.setCell ⟨w.heap.size + 1, 0, none⟩ (.int .i64 y)) g (m + 30) := (HS3.out.store hga (by simp) _).mono (by omega)
        obtain ⟨z0, z1⟩ := two_res (B03.out.other (p := ⟨w.heap.size + 1, 0, none⟩) (by simp) (.int .i64 y)) (.int .i64 y) (.int .i64 l)
        exact bodyPost_ret (v := .agg #[(.int .i64 y), (.int .i64 l)]) (by simp [results, Try.results52, go_sem, z0, z1]) rfl ⟨_, _, rfl, (CS.store hga (by simp) _).store hga (by simp) _⟩
      · by_cases e1 : x = 1
        · subst e1
          go_wp2_with fail
          refine (amongL_c [-1, 128, 127] g _ _ _ (by simp) HS2.out.cur (by omega) (by decide) (by decide)).mono ?_
          rintro e w3 ⟨y, rfl, hy, hs⟩
          have HS3 := Lib.hid (HS2.out.trans hs)
          have B03 := Lib.hid (B02.out.step hs (by omega))
          have B13 := Lib.hid (B12.out.step hs (by omega))
          have q0 : w3.cell? ⟨w.heap.size, 0, none⟩ = some (.int .i64 0) := B03.out.cell 0
          have q1 : w3.cell? ⟨w.heap.size, 1, none⟩ = some (.int .i64 0) := B03.out.cell 1
          have r0 : w3.cell? ⟨w.heap.size + 1, 0, none⟩ = some (.int .i64 d) := B13.out.cell 0
          have r1 : w3.cell? ⟨w.heap.size + 1, 1, none⟩ = some (.int .i64 l) := B13.out.cell 1
          have f1 : w3.frozen? ⟨w.heap.size + 1, 1, none⟩ = false := B13.out.frozen 1
          have g0 : w3.frozen? ⟨w.heap.size, 0, none⟩ = false := B03.out.frozen 0
          have g1 : w3.frozen? ⟨w.heap.size, 1, none⟩ = false := B03.out.frozen 1
          clear hs hy B02 B12
          go_wp2
          have CS : CStep w (w3.setCell ⟨w.heap.size + 1, 1, none⟩ (.int .i64 y)) g (m + 30) := (HS3.out.store hga (by simp) _).mono (by omega)
          obtain ⟨z0, z1⟩ := two_res (B03.out.other (p := ⟨w.heap.size + 1, 1, none⟩) (by simp) (.int .i64 y)) (.int .i64 d) (.int .i64 y)
          exact bodyPost_ret (v := .agg #[(.int .i64 d), (.int .i64 y)]) (by simp [results, Try.results52, go_sem, z0, z1]) rfl ⟨_, _, rfl, (CS.store hga (by simp) _).store hga (by simp) _⟩
        · have q0 : w2.cell? ⟨w.heap.size, 0, none⟩ = some (.int .i64 0) := B02.out.cell 0
          have q1 : w2.cell? ⟨w.heap.size, 1, none⟩ = some (.int .i64 0) := B02.out.cell 1
          have r0 : w2.cell? ⟨w.heap.size + 1, 0, none⟩ = some (.int .i64 d) := B12.out.cell 0
          have r1 : w2.cell? ⟨w.heap.size + 1, 1, none⟩ = some (.int .i64 l) := B12.out.cell 1
          have g0 : w2.frozen? ⟨w.heap.size, 0, none⟩ = false := B02.out.frozen 0
          have g1 : w2.frozen? ⟨w.heap.size, 1, none⟩ = false := B02.out.frozen 1
          go_wp2
          have CS : CStep w w2 g (m + 30) := HS2.out.mono (by omega)
          obtain ⟨z0, z1⟩ := two_res (B02.out) (.int .i64 d) (.int .i64 l)
          exact bodyPost_ret (v := .agg #[(.int .i64 d), (.int .i64 l)]) (by simp [results, Try.results52, go_sem, z0, z1]) rfl ⟨_, _, rfl, (CS.store hga (by simp) _).store hga (by simp) _⟩
end Go.Proofs.Ytfbnmkpkihfocaa
namespace Go.Proofs.Ytfbnmkpkihfocaa
open Go.RowKit
set_option linter.unusedVariables false
/-- the cells of a box that was made ahead of a call -/
theorem box_after {w w1 : World} {cs : Array Value} {t : TypeId} (hb : Below (w.alloc (.cells cs t)).heap.size (w.alloc (.cells cs t)) w1) :
    (∀ j v, cs[j]? = some v → w1.cell? ⟨w.heap.size, j, none⟩ = some v) ∧ ∀ j, w1.frozen? ⟨w.heap.size, j, none⟩ = false := by
  refine ⟨fun j v h => ?_, fun j => ?_⟩
  · rw [hb.cell (p := ⟨w.heap.size, j, none⟩) (by simp), World.cell?_alloc_at _ _ _ _ rfl]; exact h
  · rw [hb.frozen (p := ⟨w.heap.size, j, none⟩) (by simp), World.frozen?_alloc_new]
theorem two_set {w w2 : World} {b : Nat} {x y : Value} (X Y : Value) (h0 : w2.cell? ⟨b, 0, none⟩ = some x) (h1 : w2.cell? ⟨b, 1, none⟩ = some y) (hb : Below w.heap.size w w2) (hbb : w.heap.size ≤ b) :
    ((w2.setCell ⟨b, 0, none⟩ X).setCell ⟨b, 1, none⟩ Y).cell? ⟨b, 0, none⟩ = some X ∧ ((w2.setCell ⟨b, 0, none⟩ X).setCell ⟨b, 1, none⟩ Y).cell? ⟨b, 1, none⟩ = some Y ∧ Below w.heap.size w ((w2.setCell ⟨b, 0, none⟩ X).setCell ⟨b, 1, none⟩ Y) := by
  refine ⟨?_, ?_, (hb.setCell hbb _).setCell hbb _⟩
  · rw [World.cell?_setCell_other _ _ _ _ (by simp)]; exact World.cell?_setCell_same _ _ _ h0
  · exact World.cell?_setCell_same _ _ _ (u := y) (by rw [World.cell?_setCell_other _ _ _ _ (by simp)]; exact h1)
end Go.Proofs.Ytfbnmkpkihfocaa
