/- Texts of this claim, gathered: Code, OpenY, All, AllFault, RowsOf, ToFaults, ShownRow, Faults. -/
import Derived.Test.YtfbnmkpkihfocaaK1
import Derived.Laws.AppendOwnNone
import Derived.Deep.RegionHeld3
import Derived.Deep.AppendLies
namespace Go.Proofs.Ytfbnmkpkihfocaa
open Go.RowKit
set_option linter.unusedVariables false
set_option maxRecDepth 100000

/-- A slice of the bytes xs. -/
def Code (w : World) (v : Value) (xs : List Nat) : Prop :=
  ∃ a c, v = .slice a xs.length c ∧ xs.length ≤ c ∧ c ≤ 9223372036854775807 ∧ (a = none → c = 0) ∧ ∀ (k x : Nat), xs[k]? = some x → ∃ b off, a = some ⟨b, off, none⟩ ∧ x ≤ 255 ∧ w.cell? ⟨b, off + k, none⟩ = some (.int .u8 (x : Int))
theorem Code.keep {w w' : World} {v : Value} {xs : List Nat} (h : Code w v xs) (hk : ∀ b o x, w.cell? ⟨b, o, none⟩ = some x → w'.cell? ⟨b, o, none⟩ = some x) : Code w' v xs := by
  obtain ⟨a, c, rfl, h1, h2, h0, h3⟩ := h
  refine ⟨a, c, rfl, h1, h2, h0, fun k x hx => ?_⟩
  obtain ⟨b, off, e, hx, hc⟩ := h3 k x hx
  exact ⟨b, off, e, hx, hk _ _ _ hc⟩
theorem Code.below {w w' : World} {v : Value} {xs : List Nat} (h : Code w v xs) (hb : Below w.heap.size w w') : Code w' v xs := h.keep fun b o x hx => cell_later hb hx
theorem Code.bys {w : World} {v : Value} {xs : List Nat} (h : Code w v xs) : Bys w v w.heap.size := by
  obtain ⟨a, c, rfl, h1, h2, h0, h3⟩ := h
  refine ⟨a, c, xs, rfl, h1, h2, fun k x hx => ?_⟩
  obtain ⟨b, off, e, hx, hc⟩ := h3 k x hx
  exact ⟨b, off, e, World.block_lt_of_cell? _ _ hc, hx, hc⟩
theorem Code.own {w : World} {v : Value} {lo : Nat} {xs : List Nat} (h : w.ownsRow lo 5 1 v xs.length (xs.map fun (x : Nat) => Value.int .u8 (x : Int))) (h255 : ∀ x ∈ xs, x ≤ 255) : Code w v xs := by
  obtain ⟨h1, h2⟩ := h
  rcases h2 with ⟨rfl, h0⟩ | ⟨g, cap, cur, rfl, hb, hg, hn, hc, hs, ht⟩
  · have : xs = [] := List.eq_nil_of_length_eq_zero (by simpa using h0)
    subst this
    exact ⟨none, 0, rfl, by simp, by omega, fun _ => rfl, fun k x hx => by simp at hx⟩
  · refine ⟨_, _, rfl, hn, by unfold maxLen at hc; omega, fun e => (by cases e), fun k x hx => ⟨g, 0, rfl, h255 x (List.mem_of_getElem? hx), ?_⟩⟩
    have hlt := (List.getElem?_eq_some_iff.1 hx).1
    rw [Nat.zero_add, cell_of_row w g k cur 5 (0, 0) hg, ← Array.getElem?_toList]
    have h3 : (cur.toList.take (xs.length * 1))[k]? = some (Value.int .u8 (x : Int)) := by rw [ht, List.getElem?_map, hx]; rfl
    rw [List.getElem?_take, if_pos (by omega)] at h3
    exact h3
/-- the cursor that a draw makes -/
theorem cur_new {w : World} {v : Value} {xs : List Nat} (h : Code w v xs) : CurAt (w.alloc (.cells #[v, .int .i64 0, .int .u64 0] 75)) w.heap.size 0 := by
  have hb := Bk.new w 75 #[v, .int .i64 0, .int .u64 0]
  exact ⟨⟨v, hb.cell 0, h.bys.keep fun b o x hlt hx => cell_later (below_one _) hx⟩, ⟨0, Nat.le_refl _, hb.cell 1⟩, ⟨0, hb.cell 2⟩, hb.frozen 1, hb.frozen 2⟩
/-- behind a draw nothing that was there has been turned -/
theorem draw_below {w w' : World} {o : Obj} {m : Nat} (h : CStep (w.alloc o) w' w.heap.size m) : Below w.heap.size w w' := (below_one o).trans (h.low (Nat.le_refl _) (by simp))
theorem vBig_c (v : Value) (xs : List Nat) (w : World) (h : Code w v xs) : Calls Try.prog 5 #[v] w fun e w' => e = .returned (.bool (decide (65536 < xs.length))) ∧ w = w' := by
  obtain ⟨a, c, rfl, _⟩ := h
  go_enter Try.func5, Try.ntmps5
  go_wp2
  go_ret
  exact ⟨bool_ret (by rw [decide_eq_decide]; omega), rfl⟩
theorem info_u8 : (Try.prog.info? 5).map (fun i => (i.zero, i.size, i.bytes)) = some (some (.int .u8 0), 1, 1) := by kernel_rfl
theorem vCut_c (n : Nat) (v : Value) (xs : List Nat) (w : World) (h : Code w v xs) (hx : xs.length ≤ 1000000) (hn : n ≤ 100) : Calls Try.prog 16 #[v, .int .i64 (n : Int)] w fun e w' => ∃ v' ys, e = .returned v' ∧ Code w' v' ys ∧ ys.length ≤ xs.length + 1 ∧ Below w.heap.size w w' := by
  obtain ⟨i, hi, hz0, hz1, hz2⟩ := info_parts info_u8
  have HC := Lib.hid h
  obtain ⟨a, c, rfl, hc, hc2, h0, h3⟩ := h
  have H3 := Lib.hid h3
  have HO : Hid ((w.alloc (.cells #[] 5)).ownsRow w.heap.size 5 1 (.slice (some ⟨w.heap.size, 0, none⟩) 0 0) 0 []) := World.ownsRow_lit (e := 5) (size := 1) (base := w.heap.size) w #[] 0 (Nat.le_refl _) (by decide) rfl
  clear h3
  have H255 : Hid (∀ x ∈ xs, x ≤ 255) := by
    intro x hx
    obtain ⟨k, hk⟩ := List.mem_iff_getElem?.1 hx
    obtain ⟨b, off, _, h, _⟩ := H3.out k x hk
    exact h
  cases a with
  | none =>
    have hxs : xs = [] := by
      cases xs with
      | nil => rfl
      | cons x l => obtain ⟨b, off, e, _⟩ := H3.out 0 x rfl; cases e
    subst hxs
    obtain rfl := h0 rfl
    have HB : Hid (Below w.heap.size w (w.alloc (.cells #[] 5))) := below_one _
    clear hc hc2 h0 HC
    by_cases hn0 : 0 < n
    · have hn1 : (0 : Int) < (n : Int) := by omega
      go_enter Try.func16, Try.ntmps16
      go_wp2_with (first | (at_builtin; refine wpList_append_own_none rfl _ _ 22 rfl w.heap.size 5 i 1 Try.underlying22 hi _ 0 [] rfl HO.out rfl ?_) | (at_builtin; refine wpList_append_own_at _ rfl _ _ 22 rfl w.heap.size 5 i (.int .u8 0) 1 1 Try.underlying22 hi hz0 hz1 hz2 rfl (by decide) _ 0 ([] : List Value) rfl (HO.out.alloc _) ⟨w.heap.size + 1, 0, none⟩ 1 1 [.int .u8 0] rfl rfl (by have h := news_new (w.alloc (.cells #[] 5)) [.int .u8 0] 5; rw [World.size_alloc] at h; exact h) (by simp [Value.oneCell']) (by unfold maxLen; omega) (by omega) (by have := HB.out.size; simp; omega) ?_))
      intro v2 w2 ho2 hg2 _ _
      have hb2 : Below w.heap.size w w2 := (Below.alc HB.out _).grown hg2 (by have := HB.out.size; simp; omega) (fun k hk => ((HO.out.alloc (.cells #[.int .u8 0] 5)).lt k hk).1)
      go_wp2
      go_ret
      exact ⟨_, [0], rfl, Code.own (ownsRow_cast ho2 (by simp) (by simp)) (by intro x hx; simp at hx; omega), by simp, hb2⟩
    · obtain rfl : n = 0 := by omega
      go_enter Try.func16, Try.ntmps16
      go_wp2_with (first | (at_builtin; refine wpList_append_own_none rfl _ _ 22 rfl w.heap.size 5 i 1 Try.underlying22 hi _ 0 [] rfl HO.out rfl ?_) | (at_builtin; refine wpList_append_own_at _ rfl _ _ 22 rfl w.heap.size 5 i (.int .u8 0) 1 1 Try.underlying22 hi hz0 hz1 hz2 rfl (by decide) _ 0 ([] : List Value) rfl (HO.out.alloc _) ⟨w.heap.size + 1, 0, none⟩ 1 1 [.int .u8 0] rfl rfl (by have h := news_new (w.alloc (.cells #[] 5)) [.int .u8 0] 5; rw [World.size_alloc] at h; exact h) (by simp [Value.oneCell']) (by unfold maxLen; omega) (by omega) (by have := HB.out.size; simp; omega) ?_))
      intro v2 w2 ho2 hg2 _ _
      have hb2 : Below w.heap.size w w2 := (Below.alc HB.out _).grown hg2 (by have := HB.out.size; simp; omega) (fun k hk => ((HO.out.alloc (.cells #[.int .u8 0] 5)).lt k hk).1)
      go_wp2
      go_ret
      exact ⟨_, [0], rfl, Code.own (ownsRow_cast ho2 (by simp) (by simp)) (by intro x hx; simp at hx; omega), by simp, hb2⟩
  | some ad =>
    clear h0 HC
    have HB : Hid (Below w.heap.size w (w.alloc (.cells #[] 5))) := below_one _
    by_cases hlt : xs.length < n
    · have hlt2 : (xs.length : Int) < (n : Int) := by omega
      have hl100 : xs.length ≤ 100 := by omega
      generalize xs.length = l at *
      by_cases hcn : c = l
      · subst hcn
        go_enter Try.func16, Try.ntmps16
        go_wp2_with (at_builtin; refine wpList_append_own_at _ rfl _ _ 22 rfl w.heap.size 5 i (.int .u8 0) 1 1 Try.underlying22 hi hz0 hz1 hz2 rfl (by decide) _ 0 [] rfl HO.out _ 0 _ [] rfl rfl (by intro j u hu; simp at hu) (by simp) (by decide) (by decide) (by simp) ?_)
        intro v1 w1 ho1 hg1 _ _
        have HB1 : Hid (Below w.heap.size w w1) := (below_one _).grown hg1 (by simp) (fun k hk => by simp [Value.ownBlock] at hk; omega)
        have HO1 := Lib.hid ho1
        clear ho1 hg1 HB
        have HB := HB1
        go_wp2_with (at_builtin; refine wpList_append_own_at _ rfl _ _ 22 rfl w.heap.size 5 i (.int .u8 0) 1 1 Try.underlying22 hi hz0 hz1 hz2 rfl (by decide) _ (0 + 0) ([] ++ [] : List Value) rfl (HO1.out.alloc _) ⟨w1.heap.size, 0, none⟩ 1 1 [.int .u8 (c : Nat)] rfl rfl (news_new _ [.int .u8 (c : Nat)] _) (by simp [Value.oneCell']) (by unfold maxLen; omega) (by omega) (by have := HB.out.size; simp; omega) ?_)
        intro v2 w2 ho2 hg2 _ _
        have hb2 : Below w.heap.size w w2 := (Below.alc HB.out _).grown hg2 (by have := HB.out.size; simp; omega) (fun k hk => ((HO1.out.alloc (.cells #[.int .u8 (c : Nat)] 5)).lt k hk).1)
        go_wp2
        go_ret
        exact ⟨_, [c], rfl, Code.own (ownsRow_cast ho2 (by simp) (by simp)) (by intro x hx; simp at hx; omega), by simp, hb2⟩
      · have hcn1 : (c = l) = False := eq_false hcn
        go_enter Try.func16, Try.ntmps16
        go_wp2_with (at_builtin; refine wpList_append_own_at _ rfl _ _ 22 rfl w.heap.size 5 i (.int .u8 0) 1 1 Try.underlying22 hi hz0 hz1 hz2 rfl (by decide) _ 0 [] rfl HO.out _ 0 _ [] rfl rfl (by intro j u hu; simp at hu) (by simp) (by decide) (by decide) (by simp) ?_)
        intro v1 w1 ho1 hg1 _ _
        have HB1 : Hid (Below w.heap.size w w1) := (below_one _).grown hg1 (by simp) (fun k hk => by simp [Value.ownBlock] at hk; omega)
        have HO1 := Lib.hid ho1
        clear ho1 hg1 HB
        have HB := HB1
        go_wp2_with (at_builtin; refine wpList_append_own_at _ rfl _ _ 22 rfl w.heap.size 5 i (.int .u8 0) 1 1 Try.underlying22 hi hz0 hz1 hz2 rfl (by decide) _ (0 + 0) ([] ++ [] : List Value) rfl (HO1.out.alloc _) ⟨w1.heap.size, 0, none⟩ 1 1 [.int .u8 (l : Nat)] rfl rfl (news_new _ [.int .u8 (l : Nat)] _) (by simp [Value.oneCell']) (by unfold maxLen; omega) (by omega) (by have := HB.out.size; simp; omega) ?_)
        intro v2 w2 ho2 hg2 _ _
        have hb2 : Below w.heap.size w w2 := (Below.alc HB.out _).grown hg2 (by have := HB.out.size; simp; omega) (fun k hk => ((HO1.out.alloc (.cells #[.int .u8 (l : Nat)] 5)).lt k hk).1)
        go_wp2
        go_ret
        exact ⟨_, [l], rfl, Code.own (ownsRow_cast ho2 (by simp) (by simp)) (by intro x hx; simp at hx; omega), by simp, hb2⟩
    · have hlt2 : ¬ (xs.length : Int) < (n : Int) := by omega
      by_cases hle : xs.length = n
      · subst hle
        generalize xs.length = l at *
        by_cases hcn : c = l
        · subst hcn
          go_enter Try.func16, Try.ntmps16
          go_wp2_with (at_builtin; refine wpList_append_own_at _ rfl _ _ 22 rfl w.heap.size 5 i (.int .u8 0) 1 1 Try.underlying22 hi hz0 hz1 hz2 rfl (by decide) _ 0 [] rfl HO.out _ 0 _ [] rfl rfl (by intro j u hu; simp at hu) (by simp) (by decide) (by decide) (by simp) ?_)
          intro v1 w1 ho1 hg1 _ _
          have HB1 : Hid (Below w.heap.size w w1) := (below_one _).grown hg1 (by simp) (fun k hk => by simp [Value.ownBlock] at hk; omega)
          have HO1 := Lib.hid ho1
          clear ho1 hg1 HB
          have HB := HB1
          go_wp2_with (at_builtin; refine wpList_append_own_at _ rfl _ _ 22 rfl w.heap.size 5 i (.int .u8 0) 1 1 Try.underlying22 hi hz0 hz1 hz2 rfl (by decide) _ (0 + 0) ([] ++ [] : List Value) rfl (HO1.out.alloc _) ⟨w1.heap.size, 0, none⟩ 1 1 [.int .u8 (c : Nat)] rfl rfl (news_new _ [.int .u8 (c : Nat)] _) (by simp [Value.oneCell']) (by unfold maxLen; omega) (by omega) (by have := HB.out.size; simp; omega) ?_)
          intro v2 w2 ho2 hg2 _ _
          have hb2 : Below w.heap.size w w2 := (Below.alc HB.out _).grown hg2 (by have := HB.out.size; simp; omega) (fun k hk => ((HO1.out.alloc (.cells #[.int .u8 (c : Nat)] 5)).lt k hk).1)
          go_wp2
          go_ret
          exact ⟨_, [c], rfl, Code.own (ownsRow_cast ho2 (by simp) (by simp)) (by intro x hx; simp at hx; omega), by simp, hb2⟩
        · have hcn1 : (c = l) = False := eq_false hcn
          go_enter Try.func16, Try.ntmps16
          go_wp2_with (at_builtin; refine wpList_append_own_at _ rfl _ _ 22 rfl w.heap.size 5 i (.int .u8 0) 1 1 Try.underlying22 hi hz0 hz1 hz2 rfl (by decide) _ 0 [] rfl HO.out _ 0 _ [] rfl rfl (by intro j u hu; simp at hu) (by simp) (by decide) (by decide) (by simp) ?_)
          intro v1 w1 ho1 hg1 _ _
          have HB1 : Hid (Below w.heap.size w w1) := (below_one _).grown hg1 (by simp) (fun k hk => by simp [Value.ownBlock] at hk; omega)
          have HO1 := Lib.hid ho1
          clear ho1 hg1 HB
          have HB := HB1
          go_wp2_with (at_builtin; refine wpList_append_own_at _ rfl _ _ 22 rfl w.heap.size 5 i (.int .u8 0) 1 1 Try.underlying22 hi hz0 hz1 hz2 rfl (by decide) _ (0 + 0) ([] ++ [] : List Value) rfl (HO1.out.alloc _) ⟨w1.heap.size, 0, none⟩ 1 1 [.int .u8 (l : Nat)] rfl rfl (news_new _ [.int .u8 (l : Nat)] _) (by simp [Value.oneCell']) (by unfold maxLen; omega) (by omega) (by have := HB.out.size; simp; omega) ?_)
          intro v2 w2 ho2 hg2 _ _
          have hb2 : Below w.heap.size w w2 := (Below.alc HB.out _).grown hg2 (by have := HB.out.size; simp; omega) (fun k hk => ((HO1.out.alloc (.cells #[.int .u8 (l : Nat)] 5)).lt k hk).1)
          go_wp2
          go_ret
          exact ⟨_, [l], rfl, Code.own (ownsRow_cast ho2 (by simp) (by simp)) (by intro x hx; simp at hx; omega), by simp, hb2⟩
      · have hcn1 : (c = n) = False := eq_false (by omega)
        have HN : ∀ (j : Nat) u, ((xs.drop n).map fun (x : Nat) => Value.int .u8 (x : Int))[j]? = some u → (w.alloc (.cells #[] 5)).cell? ((ad.add n).add j) = some u := by
          intro j u hu
          rw [List.getElem?_map, List.getElem?_drop] at hu
          obtain ⟨x, hx, rfl⟩ := Option.map_eq_some_iff.1 hu
          obtain ⟨b, off, e, _, hc⟩ := H3.out (n + j) x hx
          cases e
          rw [Addr.add_lit, Addr.add_lit, Nat.add_assoc]
          exact cell_later (below_one _) hc
        have HL : Hid (((xs.drop n).map fun (x : Nat) => Value.int .u8 (x : Int)).length = (xs.length - n) * 1) := by show _ = _; simp
        have H1 : Hid (∀ u ∈ ((xs.drop n).map fun (x : Nat) => Value.int .u8 (x : Int)), u.oneCell' = true) := by intro u hu; obtain ⟨y, _, rfl⟩ := List.mem_map.1 hu; rfl
        have HF : Hid (∀ w' v', w'.ownsRow w.heap.size 5 1 v' (xs.length - n + 1) (((xs.drop n).map fun (x : Nat) => Value.int .u8 (x : Int)) ++ [.int .u8 (n : Int)]) → ∃ ys, Code w' v' ys ∧ ys.length ≤ xs.length + 1) :=
          fun w' v' ho => ⟨xs.drop n ++ [n], Code.own (ownsRow_cast ho (by simp) (by simp)) (fun x hx => (List.mem_append.1 hx).elim (fun h => H255.out x (List.mem_of_mem_drop h)) (fun h => by have := List.mem_singleton.1 h; omega)), by simp⟩
        have hle2 : n ≤ xs.length := by omega
        generalize ((xs.drop n).map fun (x : Nat) => Value.int .u8 (x : Int)) = news at *
        have HN2 := Lib.hid HN
        clear HN
        go_enter Try.func16, Try.ntmps16
        go_wp2_with (at_builtin; refine wpList_append_own_at _ rfl _ _ 22 rfl w.heap.size 5 i (.int .u8 0) 1 1 Try.underlying22 hi hz0 hz1 hz2 rfl (by decide) _ 0 [] rfl HO.out (ad.add n) (xs.length - n) (c - n) news rfl HL.out HN2.out H1.out (by unfold maxLen; omega) (by omega) (by simp) ?_)
        intro v1 w1 ho1 hg1 _ _
        have HB1 : Hid (Below w.heap.size w w1) := (below_one _).grown hg1 (by simp) (fun k hk => by simp [Value.ownBlock] at hk; omega)
        have HO1 := Lib.hid ho1
        clear ho1 hg1 HB
        have HB := HB1
        go_wp2_with (at_builtin; revert HO1)
        intro HO1
        refine wpList_append_own_at _ rfl _ _ 22 rfl w.heap.size 5 i (.int .u8 0) 1 1 Try.underlying22 hi hz0 hz1 hz2 rfl (by decide) _ (xs.length - n) news rfl (HO1.out.alloc _) ⟨w1.heap.size, 0, none⟩ 1 1 [.int .u8 (n : Nat)] rfl rfl (news_new _ [.int .u8 (n : Nat)] _) (by simp [Value.oneCell']) (by unfold maxLen; omega) (by omega) (by have := HB.out.size; simp; omega) ?_
        intro v2 w2 ho2 hg2 _ _
        have hb2 : Below w.heap.size w w2 := (Below.alc HB.out _).grown hg2 (by have := HB.out.size; simp; omega) (fun k hk => ((HO1.out.alloc (.cells #[.int .u8 (n : Nat)] 5)).lt k hk).1)
        obtain ⟨ys, hys, hyl⟩ := HF.out w2 v2 ho2
        go_wp2
        go_ret
        exact ⟨_, ys, rfl, hys, hyl, hb2⟩
end Go.Proofs.Ytfbnmkpkihfocaa
namespace Go.Proofs.Ytfbnmkpkihfocaa
open Go.ChangeShapes Go.WideShapes Go.ChangeAt Go.RowKit Go.Joins Go.Deep
set_option linter.unusedVariables false
set_option maxRecDepth 100000
section
variable {H : Type} {enc : TypeId × Value → H} {w : World} {base : Nat} {spare : Nat → Bool} {held : Bool}
theorem u8_wf {n : Int} (h : (Lit.int .u8 n).wf = true) : 0 ≤ n ∧ n ≤ 255 := by
  simp only [Lit.wf, Bool.and_eq_true, decide_eq_true_eq] at h
  have h0 : IntKind.u8.min = 0 := by decide
  have h1 : IntKind.u8.max = 255 := by decide
  omega
theorem open_bytes {r : Reach} {b0 : Nat} {v : Value} {d : DataW H} {p : List MemPlace} (hv : Value.okWide Try.prog w r b0 22 v) (h : DataW.Trod enc Try.prog w base spare held 22 v d p) : ∃ xs, Code w v xs := by
  obtain ⟨a0, len0, cap0, rfl⟩ := okWide_slice Try.underlying22 hv
  obtain ⟨fuel, hf⟩ := h
  rcases open_ints Try.underlying22 Try.underlying5 (by kernel_rfl) hf with ⟨hcs, _⟩ | ⟨x, l, c, zs, hcs, _, hl, hm, hz, _, hcell, hwz⟩
  · simp [Value.cells] at hcs
    obtain ⟨rfl, rfl, rfl⟩ := hcs
    exact ⟨[], none, 0, rfl, by simp, by omega, fun _ => rfl, fun k x hx => by simp at hx⟩
  · simp [Value.cells] at hcs
    obtain ⟨rfl, rfl, rfl⟩ := hcs
    refine ⟨(zs.take len0).map Int.toNat, ?_⟩
    have hlc : len0 ≤ zs.length := by
      revert hz; cases spare x.block <;> simp <;> omega
    have hlen : ((zs.take len0).map Int.toNat).length = len0 := by rw [List.length_map, List.length_take, Nat.min_eq_left hlc]
    refine ⟨some x, cap0, by rw [hlen], by rw [hlen]; exact hl, by unfold maxLen at hm; omega, (fun e => by cases e), fun k y hy => ?_⟩
    have hk : k < len0 := by have := (List.getElem?_eq_some_iff.1 hy).1; omega
    obtain ⟨b, off, spot⟩ := x
    have h0 := hcell 0 (by omega)
    have hs : spot = none := by
      cases spot with
      | none => rfl
      | some s =>
        exfalso
        unfold Addr.add at h0; simp [World.cell?] at h0
        split at h0 <;> simp_all
    subst hs
    have hkz : k < zs.length := by omega
    rw [List.getElem?_map, List.getElem?_take, if_pos hk, List.getElem?_eq_getElem hkz] at hy
    simp only [Option.map_some, Option.some.injEq] at hy
    have hw := u8_wf (hwz zs[k] (List.getElem_mem hkz))
    refine ⟨b, off, rfl, by omega, ?_⟩
    have := hcell k hkz
    rw [Addr.add_lit] at this
    rw [this]
    have e : zs.getD k 0 = (y : Int) := by simp [hkz]; omega
    rw [e]
end
end Go.Proofs.Ytfbnmkpkihfocaa
namespace Go.Proofs.Ytfbnmkpkihfocaa
open Go.RowKit
set_option linter.unusedVariables false

/-- the first place at which p holds, or -1 -/
def firstAt {α : Type} (p : α → Bool) (xs : List α) : Int := match xs.findIdx? p with | some i => (i : Int) | none => -1
theorem firstAt_none {α : Type} {p : α → Bool} {xs : List α} {k : Nat} (hk : xs.length ≤ k) (h : ∀ j x, j < k → xs[j]? = some x → p x = false) : firstAt p xs = -1 := by
  have : xs.findIdx? p = none := by
    rw [List.findIdx?_eq_none_iff]; intro x hx
    obtain ⟨j, hj⟩ := List.mem_iff_getElem?.1 hx
    exact h j x (Nat.lt_of_lt_of_le (List.getElem?_eq_some_iff.1 hj).1 hk) hj
  simp [firstAt, this]
theorem firstAt_some {α : Type} {p : α → Bool} {xs : List α} {k : Nat} {x : α} (hx : xs[k]? = some x) (hp : p x = true) (h : ∀ j x, j < k → xs[j]? = some x → p x = false) : firstAt p xs = k := by
  have : xs.findIdx? p = some k := by
    rw [List.findIdx?_eq_some_iff_getElem]
    obtain ⟨hl, he⟩ := List.getElem?_eq_some_iff.1 hx
    refine ⟨hl, by rw [he]; exact hp, fun j hj => ?_⟩
    have := h j xs[j] hj (List.getElem?_eq_getElem (by omega))
    simp [this]
  simp [firstAt, this]

/-- fn is a function of the program with a body -/
def CallsIt (fn : Nat) : Prop := ∀ (bs : Array Value) (w : World), (callFunc fn bs).run Try.prog w = .ok (.enter fn bs) w
theorem IndexFuncInt_c (v : Value) (xs : List Int) (fn : Nat) (cap : Array Value) (p : Int → Bool) (w : World) (hv : Ints w v xs) (hf : CallsIt fn)
    (hp : ∀ (x : Int) (w' : World), x ∈ xs → Below w.heap.size w w' → Calls Try.prog fn (#[.int .i64 x] ++ cap) w' fun e w'' => e = .returned (.bool (p x)) ∧ Below w'.heap.size w' w'') :
    Calls Try.prog 109 #[v, .func (.func fn) #[] cap] w fun e w' => e = .returned (.int .i64 (firstAt p xs)) ∧ Below w.heap.size w w' := by
  obtain ⟨a, c, rfl, hc1, hc2, HC⟩ := hv.parts
  have hf' : ∀ (bs : Array Value) (w : World), (callFunc fn bs).run Try.prog w = .ok (.enter fn bs) w := hf
  go_enter Try.func109, Try.ntmps109
  go_wp2
  go_loopw [8] (fun i wr => ∃ k : Nat, k ≤ xs.length ∧ i = .int .i64 k ∧ Hid (∀ j x, j < k → xs[j]? = some x → p x = false) ∧ Below w.heap.size w wr) (fun i _ => xs.length - (intOf i).toNat)
  case atStart => exact ⟨0, by omega, rfl, fun j x hj => by omega, Below.refl _ _⟩
  case round =>
    obtain ⟨k, hk, rfl, hbef, hb⟩ := hrel
    have hlen := hv.le
    by_cases hlt : k < xs.length
    · obtain ⟨x, hx⟩ := elem_at hlt
      obtain ⟨b, off, rfl, g0⟩ := HC.out k x hx.out
      have hblt : b < w.heap.size := World.block_lt_of_cell? w _ g0
      have g1 : wr.cell? ⟨b, off + k, none⟩ = some (.int .i64 x) := ((bcell hb).1 _ _ hblt).trans g0
      clear g0
      go_wp2_with fail
      refine (hp x _ (List.mem_of_getElem? hx.out) hb).mono ?_
      rintro e w1 ⟨rfl, hb1⟩
      have hb2 : Below w.heap.size w w1 := hb.trans (hb1.mono hb.size)
      rcases hpx : p x with _ | _
      · have HP := Lib.hid hpx; clear hpx
        go_wp2
        go_roundw
        case rel => exact ⟨k + 1, by omega, by go_num, fun j y hj hy => by
          by_cases hj2 : j < k
          · exact hbef.out j y hj2 hy
          · obtain rfl : j = k := by omega
            rw [hx.out] at hy; obtain rfl := Option.some.inj hy; exact HP.out, hb2⟩
        case measure => simp [intOf]; omega
      · have HP := Lib.hid hpx; clear hpx
        go_wp2
        go_ret
        exact ⟨int_ret (firstAt_some hx.out HP.out hbef.out).symm, hb2⟩
    · go_wp2
      go_ret
      exact ⟨int_ret (firstAt_none (by omega) hbef.out).symm, hb⟩
theorem ContainsFuncInt_c (v : Value) (xs : List Int) (fn : Nat) (cap : Array Value) (p : Int → Bool) (w : World) (hv : Ints w v xs) (hf : CallsIt fn)
    (hp : ∀ (x : Int) (w' : World), x ∈ xs → Below w.heap.size w w' → Calls Try.prog fn (#[.int .i64 x] ++ cap) w' fun e w'' => e = .returned (.bool (p x)) ∧ Below w'.heap.size w' w'') :
    Calls Try.prog 104 #[v, .func (.func fn) #[] cap] w fun e w' => e = .returned (.bool (decide (0 ≤ firstAt p xs))) ∧ Below w.heap.size w w' := by
  go_enter Try.func104, Try.ntmps104
  go_wp2_with fail
  refine (IndexFuncInt_c v xs fn cap p w hv hf hp).mono ?_
  rintro e w' ⟨rfl, hb⟩
  go_wp2
  go_ret
  exact ⟨bool_ret (by simp), hb⟩
theorem firstAt_not_all {xs : List Int} {p : Int → Bool} : (decide (0 ≤ firstAt (fun x => !p x) xs)) = !(xs.all p) := by
  unfold firstAt
  cases h : xs.findIdx? (fun x => !p x) with
  | none => rw [List.findIdx?_eq_none_iff] at h; simp; exact fun x hx => by simpa using h x hx
  | some i =>
    rw [List.findIdx?_eq_some_iff_getElem] at h; obtain ⟨hl, h1, _⟩ := h
    simp; exact ⟨xs[i], List.getElem_mem hl, by simpa using h1⟩
/-- 'is' is a function of the program that looks at one int -/
theorem areAllInt_c (v : Value) (xs : List Int) (fn : Nat) (p : Int → Bool) (w : World) (hv : Ints w v xs) (hf : CallsIt fn)
    (hp : ∀ (x : Int) (w' : World), Calls Try.prog fn #[.int .i64 x] w' fun e w'' => e = .returned (.bool (p x)) ∧ w' = w'') :
    Calls Try.prog 92 #[v, .func (.func fn) #[] #[]] w fun e w' => e = .returned (.bool (xs.all p)) ∧ Below w.heap.size w w' := by
  go_enter Try.func92, Try.ntmps92
  go_wp2_with fail
  refine (ContainsFuncInt_c v xs 105 #[.pointer (some ⟨w.heap.size, 0, none⟩)] (fun x => !p x) _ (hv.below (below_one _)) (fun _ _ => by kernel_rfl) ?_).mono ?_
  · intro x w' _ hb
    have hc : w'.cell? ⟨w.heap.size, 0, none⟩ = some (.func (.func fn) #[] #[]) := by
      rw [(bcell hb).1 _ _ (by simp), World.cell?_alloc_at _ _ _ _ rfl]; rfl
    have hf' : ∀ (bs : Array Value) (w : World), (callFunc fn bs).run Try.prog w = .ok (.enter fn bs) w := hf
    go_enter Try.func105, Try.ntmps105
    go_wp2_with fail
    refine (hp x w').mono ?_
    rintro e w'' ⟨rfl, rfl⟩
    go_wp2
    go_ret
    exact ⟨rfl, Below.refl _ _⟩
  · rintro e w' ⟨rfl, hb⟩
    go_wp2
    go_ret
    exact ⟨bool_ret (by rw [firstAt_not_all]; simp), (below_one _).trans (hb.mono (by simp))⟩
end Go.Proofs.Ytfbnmkpkihfocaa
namespace Go.Proofs.Ytfbnmkpkihfocaa
open Go.RowKit
set_option linter.unusedVariables false
theorem firstAt_not_allP {xs : List (Int × Int)} {p : Int × Int → Bool} : (decide (0 ≤ firstAt (fun x => !p x) xs)) = !(xs.all p) := by
  unfold firstAt
  cases h : xs.findIdx? (fun x => !p x) with
  | none => rw [List.findIdx?_eq_none_iff] at h; simp; exact fun a b hx => by simpa using h (a, b) hx
  | some i =>
    rw [List.findIdx?_eq_some_iff_getElem] at h; obtain ⟨hl, h1, _⟩ := h
    simp; exact ⟨xs[i].1, xs[i].2, List.getElem_mem hl, by simpa using h1⟩
theorem IndexFuncFault_c (v : Value) (xs : List (Int × Int)) (fn : Nat) (cap : Array Value) (p : Int × Int → Bool) (w : World) (hv : Pairs w v xs) (hf : CallsIt fn)
    (hp : ∀ (x : Int × Int) (w' : World), x ∈ xs → Below w.heap.size w w' → Calls Try.prog fn (#[.agg #[.int .i64 x.1, .int .i64 x.2]] ++ cap) w' fun e w'' => e = .returned (.bool (p x)) ∧ Below w'.heap.size w' w'') :
    Calls Try.prog 108 #[v, .func (.func fn) #[] cap] w fun e w' => e = .returned (.int .i64 (firstAt p xs)) ∧ Below w.heap.size w w' := by
  obtain ⟨a, c, rfl, hc1, hc2, HC⟩ := hv.parts
  have hf' : ∀ (bs : Array Value) (w : World), (callFunc fn bs).run Try.prog w = .ok (.enter fn bs) w := hf
  go_enter Try.func108, Try.ntmps108
  go_wp2
  go_loopw [8] (fun i wr => ∃ k : Nat, k ≤ xs.length ∧ i = .int .i64 k ∧ Hid (∀ j x, j < k → xs[j]? = some x → p x = false) ∧ Below w.heap.size w wr) (fun i _ => xs.length - (intOf i).toNat)
  case atStart => exact ⟨0, by omega, rfl, fun j x hj => by omega, Below.refl _ _⟩
  case round =>
    obtain ⟨k, hk, rfl, hbef, hb⟩ := hrel
    have hlen := hv.le
    by_cases hlt : k < xs.length
    · obtain ⟨x, hx⟩ := elem_at hlt
      obtain ⟨b, off, rfl, g0, g0'⟩ := HC.out k x hx.out
      have g1 := cell_later hb g0
      have g1' := cell_later hb g0'
      clear g0 g0'
      go_wp2_with fail
      refine (hp x _ (List.mem_of_getElem? hx.out) hb).mono ?_
      rintro e w1 ⟨rfl, hb1⟩
      have hb2 : Below w.heap.size w w1 := hb.trans (hb1.mono hb.size)
      rcases hpx : p x with _ | _
      · have HP := Lib.hid hpx; clear hpx
        go_wp2
        go_roundw
        case rel => exact ⟨k + 1, by omega, by go_num, fun j y hj hy => by
          by_cases hj2 : j < k
          · exact hbef.out j y hj2 hy
          · obtain rfl : j = k := by omega
            rw [hx.out] at hy; obtain rfl := Option.some.inj hy; exact HP.out, hb2⟩
        case measure => simp [intOf]; omega
      · have HP := Lib.hid hpx; clear hpx
        go_wp2
        go_ret
        exact ⟨int_ret (firstAt_some hx.out HP.out hbef.out).symm, hb2⟩
    · go_wp2
      go_ret
      exact ⟨int_ret (firstAt_none (by omega) hbef.out).symm, hb⟩
theorem ContainsFuncFault_c (v : Value) (xs : List (Int × Int)) (fn : Nat) (cap : Array Value) (p : Int × Int → Bool) (w : World) (hv : Pairs w v xs) (hf : CallsIt fn)
    (hp : ∀ (x : Int × Int) (w' : World), x ∈ xs → Below w.heap.size w w' → Calls Try.prog fn (#[.agg #[.int .i64 x.1, .int .i64 x.2]] ++ cap) w' fun e w'' => e = .returned (.bool (p x)) ∧ Below w'.heap.size w' w'') :
    Calls Try.prog 98 #[v, .func (.func fn) #[] cap] w fun e w' => e = .returned (.bool (decide (0 ≤ firstAt p xs))) ∧ Below w.heap.size w w' := by
  go_enter Try.func98, Try.ntmps98
  go_wp2_with fail
  refine (IndexFuncFault_c v xs fn cap p w hv hf hp).mono ?_
  rintro e w' ⟨rfl, hb⟩
  go_wp2
  go_ret
  exact ⟨bool_ret (by simp), hb⟩
/-- 'is' is a function of the program that looks at one int -/
theorem areAllFault_c (v : Value) (xs : List (Int × Int)) (fn : Nat) (p : Int × Int → Bool) (w : World) (hv : Pairs w v xs) (hf : CallsIt fn)
    (hp : ∀ (x : Int × Int) (w' : World), Calls Try.prog fn #[.agg #[.int .i64 x.1, .int .i64 x.2]] w' fun e w'' => e = .returned (.bool (p x)) ∧ Below w'.heap.size w' w'') :
    Calls Try.prog 83 #[v, .func (.func fn) #[] #[]] w fun e w' => e = .returned (.bool (xs.all p)) ∧ Below w.heap.size w w' := by
  go_enter Try.func83, Try.ntmps83
  go_wp2_with fail
  refine (ContainsFuncFault_c v xs 99 #[.pointer (some ⟨w.heap.size, 0, none⟩)] (fun x => !p x) _ (hv.below (below_one _)) (fun _ _ => by kernel_rfl) ?_).mono ?_
  · intro x w' _ hb
    have hc : w'.cell? ⟨w.heap.size, 0, none⟩ = some (.func (.func fn) #[] #[]) := by
      rw [(bcell hb).1 _ _ (by simp), World.cell?_alloc_at _ _ _ _ rfl]; rfl
    have hz := World.block_lt_of_cell? w' _ hc
    have hf' : ∀ (bs : Array Value) (w : World), (callFunc fn bs).run Try.prog w = .ok (.enter fn bs) w := hf
    go_enter Try.func99, Try.ntmps99
    go_wp2_with fail
    refine (hp x _).mono ?_
    rintro e w'' ⟨rfl, hbb⟩
    go_wp2
    go_ret
    exact ⟨rfl, Below.chain (below_one _) hbb⟩
  · rintro e w' ⟨rfl, hb⟩
    go_wp2
    go_ret
    exact ⟨bool_ret (by rw [firstAt_not_allP]; simp), (below_one _).trans (hb.mono (by simp))⟩
end Go.Proofs.Ytfbnmkpkihfocaa
namespace Go.Proofs.Ytfbnmkpkihfocaa
open Go.RowKit
set_option linter.unusedVariables false
def rowB (xs : List Int) : Bool := decide (xs.length ≤ 6) && xs.all cellB
theorem rowB_le {xs : List Int} (h : rowB xs = true) : xs.length ≤ 6 := by simp [rowB] at h; exact h.1
theorem rowB_cell {xs : List Int} (h : rowB xs = true) {k : Nat} {x : Int} (hx : xs[k]? = some x) : 0 ≤ x ∧ x ≤ 127 := by
  simp only [rowB, Bool.and_eq_true, List.all_eq_true] at h
  exact cellB_true (h.2 x (List.mem_of_getElem? hx))
def fB (f : Int × Int) : Bool := faultB f.1 f.2
def areB (fs : List (Int × Int)) (r : List Int) : Bool := rowB r && (decide (fs.length = r.length) && fs.all fB)
theorem areB_fault {fs : List (Int × Int)} {r : List Int} (h : areB fs r = true) {k : Nat} {f : Int × Int} (hf : fs[k]? = some f) : 0 ≤ f.1 ∧ f.1 ≤ 127 ∧ 0 ≤ f.2 ∧ f.2 ≤ 127 := by
  simp only [areB, Bool.and_eq_true, List.all_eq_true] at h
  have := faultB_true (h.2.2 f (List.mem_of_getElem? hf))
  exact ⟨this.1, this.2.1, this.2.2.1, this.2.2.2.1⟩
theorem areB_row {fs : List (Int × Int)} {r : List Int} (h : areB fs r = true) : rowB r = true := by
  simp only [areB, Bool.and_eq_true] at h; exact h.1
theorem areB_len {fs : List (Int × Int)} {r : List Int} (h : areB fs r = true) : fs.length = r.length := by
  simp only [areB, Bool.and_eq_true, decide_eq_true_eq] at h; exact h.2.1
theorem IsRow_c (v : Value) (xs : List Int) (w : World) (hv : Ints w v xs) : Calls Try.prog 72 #[v] w fun e w' => e = .returned (.bool (rowB xs)) ∧ Below w.heap.size w w' := by
  obtain ⟨a, c, hvv, hc1, hc2, HC⟩ := hv.parts
  by_cases h : xs.length ≤ 6
  · subst hvv
    go_enter Try.func72, Try.ntmps72
    go_wp2_with (go_at_call 92; refine (areAllInt_c _ xs 58 cellB _ hv (fun _ _ => by kernel_rfl) (fun x w' => IsCell_c x w')).mono ?_; rintro e w' ⟨rfl, hb⟩)
    go_ret
    exact ⟨bool_ret (by simp [rowB, h]), by assumption⟩
  · subst hvv
    go_enter Try.func72, Try.ntmps72
    go_wp2_with fail
    go_ret
    exact ⟨bool_ret (by simp [rowB]; omega), Below.refl _ _⟩
theorem l2Row_c (v : Value) (xs : List Int) (w : World) (hv : Ints w v xs) : Calls Try.prog 73 #[v] w fun e w' => e = .returned (.bool (rowB xs)) ∧ Below w.heap.size w w' := by
  have hm := hv.le
  obtain ⟨a, c, rfl, hc1, hc2, HC⟩ := hv.parts
  go_enter Try.func73, Try.ntmps73
  go_wp2
  go_loopw [3] (fun i wr => ∃ k : Nat, k ≤ xs.length ∧ k ≤ 7 ∧ i = .int .i64 k ∧ Hid (∀ j x, j < k → xs[j]? = some x → cellB x = true) ∧ w = wr) (fun i _ => xs.length - (intOf i).toNat)
  case atStart => exact ⟨0, by omega, by omega, rfl, fun j x hj => by omega, by trivial⟩
  case round =>
    obtain ⟨k, hk, hk2, rfl, hbef, rfl⟩ := hrel
    clear hv
    by_cases hlt : k < xs.length ∧ k ≤ 6
    · obtain ⟨hlt, hle⟩ := hlt
      obtain ⟨x, hx⟩ := elem_at hlt
      obtain ⟨b, off, rfl, g0⟩ := HC.out k x hx.out
      go_wp2_with fail
      refine (l2Cell_c _ _).mono ?_
      rintro e w' ⟨rfl, rfl⟩
      rcases hpx : cellB x with _ | _
      · have HP := Lib.hid hpx; clear hpx
        go_wp2
        go_ret
        exact ⟨bool_ret (by
          symm; simp only [rowB, Bool.and_eq_false_iff]; right
          rw [List.all_eq_false]; exact ⟨x, List.mem_of_getElem? hx.out, by simp [HP.out]⟩), Below.refl _ _⟩
      · have HP := Lib.hid hpx; clear hpx
        go_wp2
        go_roundw
        case rel => exact ⟨k + 1, by omega, by omega, by go_num, fun j y hj hy => by
          by_cases hj2 : j < k
          · exact hbef.out j y hj2 hy
          · obtain rfl : j = k := by omega
            rw [hx.out] at hy; obtain rfl := Option.some.inj hy; exact HP.out, by trivial⟩
        case measure => simp [intOf]; omega
    · have hor : k = xs.length ∨ (k = 7 ∧ k < xs.length) := by omega
      clear hlt
      rcases hor with hor | ⟨hor, hor2⟩
      · have HK := Lib.hid hor
        have h1 : ¬ k < xs.length := by omega
        clear hor
        go_wp2
        go_ret
        refine ⟨bool_ret ?_, Below.refl _ _⟩
        have hall : xs.all cellB = true := by
          rw [List.all_eq_true]; intro x hx
          obtain ⟨j, hj⟩ := List.mem_iff_getElem?.1 hx
          have := (List.getElem?_eq_some_iff.1 hj).1
          exact hbef.out j x (by have := HK.out; omega) hj
        simp [rowB, hall]; omega
      · have HK := Lib.hid hor
        have h1 : ¬ k ≤ 6 := by omega
        clear hor
        go_wp2
        go_ret
        refine ⟨bool_ret ?_, Below.refl _ _⟩
        have := HK.out
        rw [decide_eq_false (by omega)]
        simp [rowB]; omega
end Go.Proofs.Ytfbnmkpkihfocaa
namespace Go.Proofs.Ytfbnmkpkihfocaa
open Go.RowKit
set_option linter.unusedVariables false
set_option maxRecDepth 100000
theorem info_Fault : (Try.prog.info? 25).map (fun i => (i.zero, i.size, i.bytes)) = some (some (.agg #[.int .i64 0, .int .i64 0]), 2, 16) := by kernel_rfl
theorem flat2_rep (n : Nat) : flat2 (List.replicate n (0, 0)) = List.replicate (n * 2) (.int .i64 0) := by
  induction n with
  | zero => rfl
  | succ n ih =>
    rw [List.replicate_succ, show (n + 1) * 2 = n * 2 + 1 + 1 by omega, List.replicate_succ, List.replicate_succ, ← ih]; rfl
theorem made_two (x : Value) (n : Nat) : (madeCells #[x, x] n).toList = List.replicate n x := by
  unfold madeCells
  rw [Array.toList_map, Array.toList_range]
  apply List.ext_getElem (by simp)
  intro i h1 h2
  simp only [List.getElem_map, List.getElem_range, List.getElem_replicate]
  have h : i % (#[x, x] : Array Value).size = 0 ∨ i % (#[x, x] : Array Value).size = 1 := by
    have : (#[x, x] : Array Value).size = 2 := rfl
    rw [this]; omega
  rcases h with h | h <;> rw [h] <;> rfl
theorem set_pair {fs : List (Int × Int)} {k n : Nat} (hk : k < n) {a b : Int} {w : World} {lo g cap : Nat} {e : TypeId}
    (ho : w.ownsRow lo e 2 (.slice (some ⟨g, 0, none⟩) n cap) n (flat2 (fs ++ List.replicate (n - k) (0, 0)))) (hf : fs.length = k) :
    (w.cell? ⟨g, k * 2, none⟩ = some (.int .i64 0)) ∧ ((w.setCell ⟨g, k * 2, none⟩ (.int .i64 a)).cell? ⟨g, k * 2 + 1, none⟩ = some (.int .i64 0)) ∧ w.cell? ⟨g, k * 2 + 1, none⟩ = some (.int .i64 0) ∧ w.frozen? ⟨g, k * 2, none⟩ = false ∧ (w.setCell ⟨g, k * 2, none⟩ (.int .i64 a)).frozen? ⟨g, k * 2 + 1, none⟩ = false ∧ w.frozen? ⟨g, k * 2 + 1, none⟩ = false ∧
      ((w.setCell ⟨g, k * 2, none⟩ (.int .i64 a)).setCell ⟨g, k * 2 + 1, none⟩ (.int .i64 b)).ownsRow lo e 2 (.slice (some ⟨g, 0, none⟩) n cap) n (flat2 ((fs ++ [(a, b)]) ++ List.replicate (n - (k + 1)) (0, 0))) := by
  have h1 := ho.stored (k * 2) (.int .i64 a)
  have h2 := h1.1.stored (k * 2 + 1) (.int .i64 b)
  have hp : (fs ++ List.replicate (n - k) ((0 : Int), (0 : Int)))[k]? = some (0, 0) := by
    rw [List.getElem?_append_right (by omega), hf, Nat.sub_self, List.getElem?_replicate, if_pos (by omega)]
  have hc := flat2_at hp
  refine ⟨(ho.cellAt _ (by omega)).trans hc.1, ?_, (ho.cellAt _ (by omega)).trans hc.2, ho.frozenAt _, h1.1.frozenAt _, ho.frozenAt _, ?_⟩
  · rw [h1.1.cellAt _ (by omega), List.getElem?_set_ne (by omega)]; exact hc.2
  · have e2 : ((flat2 (fs ++ List.replicate (n - k) (0, 0))).set (k * 2) (.int .i64 a)).set (k * 2 + 1) (.int .i64 b) = flat2 ((fs ++ [(a, b)]) ++ List.replicate (n - (k + 1)) (0, 0)) := by
      rw [show n - k = (n - (k + 1)) + 1 by omega, List.replicate_succ, flat2_append, flat2_append, flat2_snoc]
      have e3 : flat2 (((0 : Int), (0 : Int)) :: List.replicate (n - (k + 1)) (0, 0)) = .int .i64 0 :: .int .i64 0 :: flat2 (List.replicate (n - (k + 1)) (0, 0)) := rfl
      rw [e3, set_two _ _ _ _ _ _ (by rw [flat2_length, hf])]; simp
    rw [← e2]; exact h2.1
end Go.Proofs.Ytfbnmkpkihfocaa
namespace Go.Proofs.Ytfbnmkpkihfocaa
open Go.RowKit
set_option linter.unusedVariables false
set_option maxRecDepth 100000
def shownTo (fs : List (Int × Int)) (r : List Int) (k : Nat) : List Int := ((fs.zip r).take k).map fun p => shC p.1.1 p.1.2 p.2
theorem shownTo_le (fs : List (Int × Int)) (r : List Int) (k : Nat) : (shownTo fs r k).length ≤ k := by simp [shownTo, List.length_take]; omega
theorem shownTo_succ {fs : List (Int × Int)} {r : List Int} {k : Nat} {f : Int × Int} {c : Int} (hf : fs[k]? = some f) (hc : r[k]? = some c) : shownTo fs r (k + 1) = shownTo fs r k ++ [shC f.1 f.2 c] := by
  have h : (fs.zip r)[k]? = some (f, c) := by rw [List.getElem?_zip_eq_some]; exact ⟨hf, hc⟩
  unfold shownTo
  rw [take_snoc h]; simp
def srL (fs : List (Int × Int)) (r : List Int) : List Int := if areB fs r then shownTo fs r r.length else []
theorem srL_le (fs : List (Int × Int)) (r : List Int) : (srL fs r).length ≤ 6 := by
  unfold srL; split
  · rename_i h; exact Nat.le_trans (shownTo_le _ _ _) (rowB_le (areB_row h))
  · simp
/-- the post of a text that returns a slice of ints of the call's own and a bool -/
def IntsPost (w : World) (L : List Int) (b : Bool) (e : Ending) (w' : World) : Prop :=
  ∃ u, e = .returned (.tuple #[u, .bool b]) ∧ w'.ownsRow w.heap.size 3 1 u L.length (L.map (Value.int .i64)) ∧ Below w.heap.size w w'
theorem IntsPost.mk' {w w' : World} {L L' : List Int} {b b' : Bool} {u : Value} (hL : L = L') (hbb : b = b') (ho : w'.ownsRow w.heap.size 3 1 u L'.length (L'.map (Value.int .i64))) (hb : Below w.heap.size w w') : IntsPost w L b (.returned (.tuple #[u, .bool b'])) w' := by
  subst hL hbb; exact ⟨u, rfl, ho, hb⟩
end Go.Proofs.Ytfbnmkpkihfocaa
namespace Go.Proofs.Ytfbnmkpkihfocaa
open Go.RowKit
set_option linter.unusedVariables false
set_option maxRecDepth 100000
def tenI : List Int := [0, 1, 2, 3, 4, 5, 6, 7, 8, 9]
theorem tenI_fin : ∀ k : Fin 10, tenI[k.1]? = some (k.1 : Int) := by decide
theorem tenI_at {k : Nat} (h : k < 10) : tenI[k]? = some (k : Int) := tenI_fin ⟨k, h⟩
/-- those of the first n digits that show a cell under a fault -/
def digTo (d l c : Int) (n : Nat) : List Int := (tenI.take n).filter fun x => shC d l (dg x) == c
def digL (d l c : Int) : List Int := tenI.filter fun x => shC d l (dg x) == c
theorem digTo_all (d l c : Int) : digTo d l c 10 = digL d l c := rfl
theorem digTo_le (d l c : Int) (n : Nat) : (digTo d l c n).length ≤ 10 := Nat.le_trans (List.length_filter_le _ _) (by rw [List.length_take]; simp [tenI]; omega)
theorem digL_le (d l c : Int) : (digL d l c).length ≤ 10 := Nat.le_trans (List.length_filter_le _ _) (by simp [tenI])
theorem digTo_succ (d l c : Int) {n : Nat} (h : n < 10) : digTo d l c (n + 1) = digTo d l c n ++ if shC d l (dg n) == c then [(n : Int)] else [] := by
  unfold digTo
  rw [take_snoc (tenI_at h), List.filter_append]
  cases hq : (shC d l (dg n) == c) <;> simp [hq]
theorem ints_snoc (xs : List Int) (x : Int) : (xs ++ [x]).map (Value.int .i64) = xs.map (Value.int .i64) ++ [.int .i64 x] := by simp

theorem digits_c (d l c : Int) (w : World) (d0 : 0 ≤ d) (d1 : d ≤ 127) (l0 : 0 ≤ l) (l1 : l ≤ 127) :
    Calls Try.prog 59 #[.agg #[.int .i64 d, .int .i64 l], .int .i64 c] w fun e w' => ∃ u, e = .returned u ∧ w'.ownsRow w.heap.size 3 1 u (digL d l c).length ((digL d l c).map (Value.int .i64)) ∧ Below w.heap.size w w' := by
  obtain ⟨i, hi, hz0, hz1, hz2⟩ := info_parts info_int
  have q0 : (w.alloc (.cells #[.int .i64 d, .int .i64 l] 25)).cell? ⟨w.heap.size, 0, none⟩ = some (.int .i64 d) := by rw [World.cell?_alloc_at _ _ _ _ rfl]; rfl
  have q1 : (w.alloc (.cells #[.int .i64 d, .int .i64 l] 25)).cell? ⟨w.heap.size, 1, none⟩ = some (.int .i64 l) := by rw [World.cell?_alloc_at _ _ _ _ rfl]; rfl
  have hb0 := below_one (w := w) (.cells #[.int .i64 d, .int .i64 l] 25)
  go_enter Try.func59, Try.ntmps59
  go_wp2_with fail
  refine (digitCells_c _).mono ?_
  rintro e w1 ⟨rfl, hb1⟩
  have r0 := cell_later hb1 q0
  have r1 := cell_later hb1 q1
  have hb2 := Below.chain hb0 hb1
  clear q0 q1 hb0 hb1
  go_wp2
  go_loopw [5, 6, 7, 9] (fun o _ _ j wr => ∃ k : Nat, k ≤ 10 ∧ j = .int .i64 (k : Int) ∧ wr.ownsRow (w.heap.size + 1) 3 1 o (digTo d l c k).length ((digTo d l c k).map (Value.int .i64)) ∧ Below w.heap.size w wr ∧ w.heap.size + 1 ≤ wr.heap.size ∧ wr.cell? ⟨w.heap.size, 0, none⟩ = some (.int .i64 d) ∧ wr.cell? ⟨w.heap.size, 1, none⟩ = some (.int .i64 l)) (fun _ _ _ j _ => 11 - (intOf j).toNat)
  case atStart => exact ⟨0, by omega, rfl, World.ownsRow_nil _ _ _ _, hb2, World.block_lt_of_cell? _ _ r0, r0, r1⟩
  case round =>
    obtain ⟨k, hk, rfl, ho, hb, hsz, g0, g1⟩ := hrel
    clear r0 r1 hb2
    by_cases hlt : k < 10
    · have hd : decide ((k : Int) < 10) = true := by simp; omega
      have hix := fun w => index_dig (k : Int) (by omega) (by omega) w
      have bdx := dg_bd (k : Int)
      have hsc := digTo_succ d l c hlt
      have hle := digTo_le d l c k
      generalize digTo d l c k = cur at *
      have HS := Lib.hid hsc; clear hsc
      go_wp2_with fail
      refine (shown_c d l (dg k) d0 d1 l0 l1 bdx.1 bdx.2 _).mono ?_
      rintro e w2 ⟨rfl, hb3⟩
      have g02 := cell_later hb3 g0
      have g12 := cell_later hb3 g1
      have hb4 := Below.chain hb hb3
      have ho2 := own_keep ho hb3
      have hsz2 := Nat.le_trans hsz hb3.size
      clear g0 g1 hb hb3 ho hsz hix
      rcases hq : (shC d l (dg (k : Int)) == c) with _ | _
      · have hS2 : digTo d l c (k + 1) = cur := by rw [HS.out]; simp [hq]
        have HS2 := Lib.hid hS2; clear hS2 HS
        go_wp2
        go_roundw
        case rel => exact ⟨k + 1, by omega, by go_num, by rw [HS2.out]; exact ho2, hb4, hsz2, g02, g12⟩
        case measure => simp [intOf]; omega
      · have hS2 : digTo d l c (k + 1) = cur ++ [(k : Int)] := by rw [HS.out]; simp [hq]
        have HS2 := Lib.hid hS2; clear hS2 HS
        go_wp2_with (at_builtin; refine wpList_append_own_at _ rfl _ _ 27 rfl (w.heap.size + 1) 3 i (.int .i64 0) 1 8 Try.underlying27 hi hz0 hz1 hz2 rfl (by decide) _ cur.length (cur.map (Value.int .i64)) rfl (ho2.alloc _) ⟨w2.heap.size, 0, none⟩ 1 1 [.int .i64 k] rfl rfl (news_new _ [.int .i64 k] _) (by simp [Value.oneCell']) (by unfold maxLen; omega) (by omega) (by simp; omega) ?_)
        intro v' w3 ho5 hg5 _ _
        have hlt2 := World.block_lt_of_cell? _ _ g02
        have hb7 : Below w.heap.size w w3 := (Below.alc hb4 _).grown hg5 (by have := hb4.size; simp; omega) (fun g hg => by have := (ho2.lt g hg).1; omega)
        have hkeep : ∀ o v, w2.cell? ⟨w.heap.size, o, none⟩ = some v → w3.cell? ⟨w.heap.size, o, none⟩ = some v := fun o v h =>
          hg5.cell (cell_later (below_one _) h) (fun e => by have := (ho2.lt _ e.symm).1; simp at this; omega)
        have g03 := hkeep _ _ g02
        have g13 := hkeep _ _ g12
        have hsz3 : w.heap.size + 1 ≤ w3.heap.size := Nat.le_trans (by simp; omega) hg5.size
        clear ho2 hb4 hg5 g02 g12 hkeep hlt2 hsz2
        go_wp2
        go_roundw
        case rel => exact ⟨k + 1, by omega, by go_num, by rw [HS2.out]; exact ownsRow_cast ho5 (by simp) (ints_snoc _ _).symm, hb7, hsz3, g03, g13⟩
        case measure => simp [intOf]; omega
    · obtain rfl : k = 10 := by omega
      go_wp2
      go_ret
      exact ⟨_, rfl, by rw [← digTo_all]; exact own_lo ho (by omega), hb⟩

theorem l3Digits_c (d l c : Int) (w : World) (d0 : 0 ≤ d) (d1 : d ≤ 127) (l0 : 0 ≤ l) (l1 : l ≤ 127) :
    Calls Try.prog 61 #[.agg #[.int .i64 d, .int .i64 l], .int .i64 c] w fun e w' => ∃ u, e = .returned u ∧ w'.ownsRow w.heap.size 3 1 u (digL d l c).length ((digL d l c).map (Value.int .i64)) ∧ Below w.heap.size w w' := by
  obtain ⟨i, hi, hz0, hz1, hz2⟩ := info_parts info_int
  have q0 : (w.alloc (.cells #[.int .i64 d, .int .i64 l] 25)).cell? ⟨w.heap.size, 0, none⟩ = some (.int .i64 d) := by rw [World.cell?_alloc_at _ _ _ _ rfl]; rfl
  have q1 : (w.alloc (.cells #[.int .i64 d, .int .i64 l] 25)).cell? ⟨w.heap.size, 1, none⟩ = some (.int .i64 l) := by rw [World.cell?_alloc_at _ _ _ _ rfl]; rfl
  have r0 := cell_later (below_one (.cells #[] 3)) q0
  have r1 := cell_later (below_one (.cells #[] 3)) q1
  have hb2 : Below w.heap.size w ((w.alloc (.cells #[.int .i64 d, .int .i64 l] 25)).alloc (.cells #[] 3)) := by (repeat (first | exact Below.refl _ _ | exact (Below.refl _ _).drew | assumption | exact below_one _ | refine Below.chain ?_ (by assumption) | refine Below.drew ?_ | refine Below.alc ?_ _ | refine below_drewN ?_ | (refine Below.setCell ?_ ?_ _) | exact Nat.le_refl _ | (simp; done) | (simp; omega)))
  have ho0 := World.ownsRow_lit (e := 3) (size := 1) (base := w.heap.size + 1) (w.alloc (.cells #[.int .i64 d, .int .i64 l] 25)) #[] 0 (by simp) (by decide) rfl
  rw [show (w.alloc (.cells #[.int .i64 d, .int .i64 l] 25)).heap.size = w.heap.size + 1 by simp] at ho0
  clear q0 q1
  go_enter Try.func61, Try.ntmps61
  go_wp2
  go_loopw [5, 6] (fun o j wr => ∃ k : Nat, k ≤ 10 ∧ j = .int .i64 (k : Int) ∧ wr.ownsRow (w.heap.size + 1) 3 1 o (digTo d l c k).length ((digTo d l c k).map (Value.int .i64)) ∧ Below w.heap.size w wr ∧ w.heap.size + 1 ≤ wr.heap.size ∧ wr.cell? ⟨w.heap.size, 0, none⟩ = some (.int .i64 d) ∧ wr.cell? ⟨w.heap.size, 1, none⟩ = some (.int .i64 l)) (fun _ j _ => 11 - (intOf j).toNat)
  case atStart => exact ⟨0, by omega, rfl, ho0, hb2, World.block_lt_of_cell? _ _ r0, r0, r1⟩
  case round =>
    obtain ⟨k, hk, rfl, ho, hb, hsz, g0, g1⟩ := hrel
    clear r0 r1 hb2 ho0
    by_cases hlt : k < 10
    · have hd : decide ((k : Int) < 10) = true := by simp; omega
      have bdx := dg_bd (k : Int)
      have hsc := digTo_succ d l c hlt
      have hle := digTo_le d l c k
      generalize digTo d l c k = cur at *
      have HS := Lib.hid hsc; clear hsc
      go_wp2_with fail
      go_region_held3 (fun w' => w'.cell? ⟨w.heap.size, 0, none⟩ = some (.int .i64 d) ∧ w'.cell? ⟨w.heap.size, 1, none⟩ = some (.int .i64 l))
        (first | go_keep | (go_split_ands; exact ⟨cell_later (by assumption) (by assumption), cell_later (by assumption) (by assumption)⟩))
        (first | (go_at_call 55; refine (l2Digit_c (k : Int) (by omega) (by omega) _).mono ?_; rintro e w' ⟨rfl, hb2⟩) | (go_at_call 54; refine (l3Shown_c d l (dg k) d0 d1 l0 l1 bdx.1 bdx.2 _).mono ?_; rintro e w' ⟨rfl, hb3⟩))
      go_split_ands
      have g02 : w'.cell? ⟨w.heap.size, 0, none⟩ = some (.int .i64 d) := by assumption
      have g12 : w'.cell? ⟨w.heap.size, 1, none⟩ = some (.int .i64 l) := by assumption
      have hb23 : Below wr.heap.size wr w' := Below.chain (Below.chain (Below.refl _ _).drew hb2) hb3
      have hb4 := Below.chain hb hb23
      have ho2 := own_keep ho hb23
      have hsz2 := Nat.le_trans hsz hb23.size
      clear g0 g1 hb hb3 hb2 hb23 ho hsz
      rcases hq : (shC d l (dg (k : Int)) == c) with _ | _
      · have hS2 : digTo d l c (k + 1) = cur := by rw [HS.out]; simp [hq]
        have HS2 := Lib.hid hS2; clear hS2 HS
        go_wp2
        go_roundw
        case rel => exact ⟨k + 1, by omega, by go_num, by rw [HS2.out]; exact ho2, hb4, hsz2, g02, g12⟩
        case measure => simp [intOf]; omega
      · have hS2 : digTo d l c (k + 1) = cur ++ [(k : Int)] := by rw [HS.out]; simp [hq]
        have HS2 := Lib.hid hS2; clear hS2 HS
        go_wp2_with (at_builtin; refine wpList_append_own_at _ rfl _ _ 27 rfl (w.heap.size + 1) 3 i (.int .i64 0) 1 8 Try.underlying27 hi hz0 hz1 hz2 rfl (by decide) _ cur.length (cur.map (Value.int .i64)) rfl (ho2.alloc _) ⟨w'.heap.size, 0, none⟩ 1 1 [.int .i64 k] rfl rfl (news_new _ [.int .i64 k] _) (by simp [Value.oneCell']) (by unfold maxLen; omega) (by omega) (by simp; omega) ?_)
        intro v' w3 ho5 hg5 _ _
        have hlt2 := World.block_lt_of_cell? _ _ g02
        have hb7 : Below w.heap.size w w3 := (Below.alc hb4 _).grown hg5 (by have := hb4.size; simp; omega) (fun g hg => by have := (ho2.lt g hg).1; omega)
        have hkeep : ∀ o v, w'.cell? ⟨w.heap.size, o, none⟩ = some v → w3.cell? ⟨w.heap.size, o, none⟩ = some v := fun o v h =>
          hg5.cell (cell_later (below_one _) h) (fun e => by have := (ho2.lt _ e.symm).1; simp at this; omega)
        have g03 := hkeep _ _ g02
        have g13 := hkeep _ _ g12
        have hsz3 : w.heap.size + 1 ≤ w3.heap.size := Nat.le_trans (by simp; omega) hg5.size
        clear ho2 hb4 hg5 g02 g12 hkeep hlt2 hsz2
        go_wp2
        go_roundw
        case rel => exact ⟨k + 1, by omega, by go_num, by rw [HS2.out]; exact ownsRow_cast ho5 (by simp) (ints_snoc _ _).symm, hb7, hsz3, g03, g13⟩
        case measure => simp [intOf]; omega
    · obtain rfl : k = 10 := by omega
      go_wp2
      go_ret
      exact ⟨_, rfl, by rw [← digTo_all]; exact own_lo ho (by omega), hb⟩
end Go.Proofs.Ytfbnmkpkihfocaa
