import Derived.Test.YtohgjfdbnkjefaaGreatDoorKc1
import Derived.Laws.AppendOwnNone
import Derived.Lib.ItoaNum
import Derived.Deep.RegionHeld3
import Derived.Lib.ItoaLen
import Derived.Test.YtohgjfdbnkjefaaGreatDoorSfc
import Derived.Lib.IndexAny
open Go.Lib (hid)
namespace Go.Proofs.YtohgjfdbnkjefaaGreatDoor
open Go.RowKit
set_option linter.unusedVariables false
set_option maxRecDepth 100000
def Code (w : World) (v : Value) (xs : List Nat) : Prop :=
 ∃ a c, v = .slice a xs.length c ∧ xs.length ≤ c ∧ c ≤ 9223372036854775807 ∧ (a = none → c = 0) ∧ ∀ (k x : Nat), xs[k]? = some x → ∃ b off, a = some ⟨b, off, none⟩ ∧ x ≤ 255 ∧ w.cell? ⟨b, off + k, none⟩ = some (.int .u8 (x : Int))
theorem Code.keep {w w' : World} {v : Value} {xs : List Nat} (h : Code w v xs) (hk : ∀ b o x, w.cell? ⟨b, o, none⟩ = some x → w'.cell? ⟨b, o, none⟩ = some x) : Code w' v xs := by
 obtain ⟨a, c, rfl, h1, h2, h0, h3⟩ := h
 refine ⟨a, c, rfl, h1, h2, h0, fun k x hx => ?_⟩
 obtain ⟨b, off, e, hx, hc⟩ := h3 k x hx
 exact ⟨b, off, e, hx, hk _ _ _ hc⟩
theorem Code.below {w w' : World} {v : Value} {xs : List Nat} (h : Code w v xs) (hb : Below w.heap.size w w') : Code w' v xs := h.keep fun b o x hx => cell_later hb hx
theorem Code.bys {w : World} {v : Value} {xs : List Nat} (h : Code w v xs) : Bys w v w.heap.size := by
 obtain ⟨a, c, rfl, h1, h2, h0, h3⟩ := h
 refine ⟨a, c, xs, rfl, h1, h2, fun k x hx => ?_⟩
 obtain ⟨b, off, e, hx, hc⟩ := h3 k x hx
 exact ⟨b, off, e, World.block_lt_of_cell? _ _ hc, hx, hc⟩
theorem Code.own {w : World} {v : Value} {lo : Nat} {xs : List Nat} (h : w.ownsRow lo 5 1 v xs.length (xs.map fun (x : Nat) => Value.int .u8 (x : Int))) (h255 : ∀ x ∈ xs, x ≤ 255) : Code w v xs := by
 obtain ⟨h1, h2⟩ := h
 rcases h2 with ⟨rfl, h0⟩ | ⟨g, cap, cur, rfl, hb, hg, hn, hc, hs, ht⟩
 · have : xs = [] := List.eq_nil_of_length_eq_zero (by simpa using h0)
   subst this
   exact ⟨none, 0, rfl, by simp, by omega, fun _ => rfl, fun k x hx => by simp at hx⟩
 · refine ⟨_, _, rfl, hn, by unfold maxLen at hc; omega, fun e => (by cases e), fun k x hx => ⟨g, 0, rfl, h255 x (List.mem_of_getElem? hx), ?_⟩⟩
   have hlt := (List.getElem?_eq_some_iff.1 hx).1
   rw [Nat.zero_add, cell_of_row w g k cur 5 (0, 0) hg, ← Array.getElem?_toList]
   have h3 : (cur.toList.take (xs.length * 1))[k]? = some (Value.int .u8 (x : Int)) := by rw [ht, List.getElem?_map, hx]; rfl
   rw [List.getElem?_take, if_pos (by omega)] at h3
   exact h3
theorem cur_new {w : World} {v : Value} {xs : List Nat} (h : Code w v xs) : CurAt (w.alloc (.cells #[v, .int .i64 0, .int .u64 0] 83)) w.heap.size 0 := by
 have hb := Bk.new w 83 #[v, .int .i64 0, .int .u64 0]
 exact ⟨⟨v, hb.cell 0, h.bys.keep fun b o x hlt hx => cell_later (below_one _) hx⟩, ⟨0, Nat.le_refl _, hb.cell 1⟩, ⟨0, hb.cell 2⟩, hb.frozen 1, hb.frozen 2⟩
theorem vBig_c (v : Value) (xs : List Nat) (w : World) (h : Code w v xs) : Calls Tryz.prog 9 #[v] w fun e w' => e = .returned (.bool (decide (65536 < xs.length))) ∧ w = w' := by
 obtain ⟨a, c, rfl, _⟩ := h
 go_enter Tryz.func9, Tryz.ntmps9
 go_wp2
 go_ret
 exact ⟨bool_ret (by rw [decide_eq_decide]; omega), rfl⟩
theorem info_u8 : (Tryz.prog.info? 5).map (fun i => (i.zero, i.size, i.bytes)) = some (some (.int .u8 0), 1, 1) := by kernel_rfl
theorem vCut_c (n : Nat) (v : Value) (xs : List Nat) (w : World) (h : Code w v xs) (hx : xs.length ≤ 1000000) (hn : n ≤ 100) : Calls Tryz.prog 40 #[v, .int .i64 (n : Int)] w fun e w' => ∃ v' ys, e = .returned v' ∧ Code w' v' ys ∧ ys.length ≤ xs.length + 1 ∧ Below w.heap.size w w' := by
 obtain ⟨i, hi, hz0, hz1, hz2⟩ := info_parts info_u8
 have HC := hid h
 obtain ⟨a, c, rfl, hc, hc2, h0, h3⟩ := h
 have H3 := hid h3
 have HO : Hid ((w.alloc (.cells #[] 5)).ownsRow w.heap.size 5 1 (.slice (some ⟨w.heap.size, 0, none⟩) 0 0) 0 []) := World.ownsRow_lit (e := 5) (size := 1) (base := w.heap.size) w #[] 0 (Nat.le_refl _) (by decide) rfl
 clear h3
 have H255 : Hid (∀ x ∈ xs, x ≤ 255) := by
  intro x hx
  obtain ⟨k, hk⟩ := List.mem_iff_getElem?.1 hx
  obtain ⟨b, off, _, h, _⟩ := H3.out k x hk
  exact h
 cases a with
 | none =>
  have hxs : xs = [] := by
   cases xs with
   | nil => rfl
   | cons x l => obtain ⟨b, off, e, _⟩ := H3.out 0 x rfl; cases e
  subst hxs
  obtain rfl := h0 rfl
  have HB : Hid (Below w.heap.size w (w.alloc (.cells #[] 5))) := below_one _
  clear hc hc2 h0 HC
  by_cases hn0 : 0 < n
  · have hn1 : (0 : Int) < (n : Int) := by omega
    go_enter Tryz.func40, Tryz.ntmps40
    go_wp2_with (first | (at_builtin; refine wpList_append_own_none rfl _ _ 22 rfl w.heap.size 5 i 1 Tryz.underlying22 hi _ 0 [] rfl HO.out rfl ?_) | (at_builtin; refine wpList_append_own_at _ rfl _ _ 22 rfl w.heap.size 5 i (.int .u8 0) 1 1 Tryz.underlying22 hi hz0 hz1 hz2 rfl (by decide) _ 0 ([] : List Value) rfl (HO.out.alloc _) ⟨w.heap.size + 1, 0, none⟩ 1 1 [.int .u8 0] rfl rfl (by have h := news_new (w.alloc (.cells #[] 5)) [.int .u8 0] 5; rw [World.size_alloc] at h; exact h) (by simp [Value.oneCell']) (by unfold maxLen; omega) (by omega) (by have := HB.out.size; simp; omega) ?_))
    intro v2 w2 ho2 hg2 _ _
    have hb2 : Below w.heap.size w w2 := (Below.alc HB.out _).grown hg2 (by have := HB.out.size; simp; omega) (fun k hk => ((HO.out.alloc (.cells #[.int .u8 0] 5)).lt k hk).1)
    go_wp2
    go_ret
    exact ⟨_, [0], rfl, Code.own (ownsRow_cast ho2 (by simp) (by simp)) (by intro x hx; simp at hx; omega), by simp, hb2⟩
  · obtain rfl : n = 0 := by omega
    go_enter Tryz.func40, Tryz.ntmps40
    go_wp2_with (first | (at_builtin; refine wpList_append_own_none rfl _ _ 22 rfl w.heap.size 5 i 1 Tryz.underlying22 hi _ 0 [] rfl HO.out rfl ?_) | (at_builtin; refine wpList_append_own_at _ rfl _ _ 22 rfl w.heap.size 5 i (.int .u8 0) 1 1 Tryz.underlying22 hi hz0 hz1 hz2 rfl (by decide) _ 0 ([] : List Value) rfl (HO.out.alloc _) ⟨w.heap.size + 1, 0, none⟩ 1 1 [.int .u8 0] rfl rfl (by have h := news_new (w.alloc (.cells #[] 5)) [.int .u8 0] 5; rw [World.size_alloc] at h; exact h) (by simp [Value.oneCell']) (by unfold maxLen; omega) (by omega) (by have := HB.out.size; simp; omega) ?_))
    intro v2 w2 ho2 hg2 _ _
    have hb2 : Below w.heap.size w w2 := (Below.alc HB.out _).grown hg2 (by have := HB.out.size; simp; omega) (fun k hk => ((HO.out.alloc (.cells #[.int .u8 0] 5)).lt k hk).1)
    go_wp2
    go_ret
    exact ⟨_, [0], rfl, Code.own (ownsRow_cast ho2 (by simp) (by simp)) (by intro x hx; simp at hx; omega), by simp, hb2⟩
 | some ad =>
  clear h0 HC
  have HB : Hid (Below w.heap.size w (w.alloc (.cells #[] 5))) := below_one _
  by_cases hlt : xs.length < n
  · have hlt2 : (xs.length : Int) < (n : Int) := by omega
    have hl100 : xs.length ≤ 100 := by omega
    generalize xs.length = l at *
    by_cases hcn : c = l
    · subst hcn
      go_enter Tryz.func40, Tryz.ntmps40
      go_wp2_with (at_builtin; refine wpList_append_own_at _ rfl _ _ 22 rfl w.heap.size 5 i (.int .u8 0) 1 1 Tryz.underlying22 hi hz0 hz1 hz2 rfl (by decide) _ 0 [] rfl HO.out _ 0 _ [] rfl rfl (by intro j u hu; simp at hu) (by simp) (by decide) (by decide) (by simp) ?_)
      intro v1 w1 ho1 hg1 _ _
      have HB1 : Hid (Below w.heap.size w w1) := (below_one _).grown hg1 (by simp) (fun k hk => by simp [Value.ownBlock] at hk; omega)
      have HO1 := hid ho1
      clear ho1 hg1 HB
      have HB := HB1
      go_wp2_with (at_builtin; refine wpList_append_own_at _ rfl _ _ 22 rfl w.heap.size 5 i (.int .u8 0) 1 1 Tryz.underlying22 hi hz0 hz1 hz2 rfl (by decide) _ (0 + 0) ([] ++ [] : List Value) rfl (HO1.out.alloc _) ⟨w1.heap.size, 0, none⟩ 1 1 [.int .u8 (c : Nat)] rfl rfl (news_new _ [.int .u8 (c : Nat)] _) (by simp [Value.oneCell']) (by unfold maxLen; omega) (by omega) (by have := HB.out.size; simp; omega) ?_)
      intro v2 w2 ho2 hg2 _ _
      have hb2 : Below w.heap.size w w2 := (Below.alc HB.out _).grown hg2 (by have := HB.out.size; simp; omega) (fun k hk => ((HO1.out.alloc (.cells #[.int .u8 (c : Nat)] 5)).lt k hk).1)
      go_wp2
      go_ret
      exact ⟨_, [c], rfl, Code.own (ownsRow_cast ho2 (by simp) (by simp)) (by intro x hx; simp at hx; omega), by simp, hb2⟩
    · have hcn1 : (c = l) = False := eq_false hcn
      go_enter Tryz.func40, Tryz.ntmps40
      go_wp2_with (at_builtin; refine wpList_append_own_at _ rfl _ _ 22 rfl w.heap.size 5 i (.int .u8 0) 1 1 Tryz.underlying22 hi hz0 hz1 hz2 rfl (by decide) _ 0 [] rfl HO.out _ 0 _ [] rfl rfl (by intro j u hu; simp at hu) (by simp) (by decide) (by decide) (by simp) ?_)
      intro v1 w1 ho1 hg1 _ _
      have HB1 : Hid (Below w.heap.size w w1) := (below_one _).grown hg1 (by simp) (fun k hk => by simp [Value.ownBlock] at hk; omega)
      have HO1 := hid ho1
      clear ho1 hg1 HB
      have HB := HB1
      go_wp2_with (at_builtin; refine wpList_append_own_at _ rfl _ _ 22 rfl w.heap.size 5 i (.int .u8 0) 1 1 Tryz.underlying22 hi hz0 hz1 hz2 rfl (by decide) _ (0 + 0) ([] ++ [] : List Value) rfl (HO1.out.alloc _) ⟨w1.heap.size, 0, none⟩ 1 1 [.int .u8 (l : Nat)] rfl rfl (news_new _ [.int .u8 (l : Nat)] _) (by simp [Value.oneCell']) (by unfold maxLen; omega) (by omega) (by have := HB.out.size; simp; omega) ?_)
      intro v2 w2 ho2 hg2 _ _
      have hb2 : Below w.heap.size w w2 := (Below.alc HB.out _).grown hg2 (by have := HB.out.size; simp; omega) (fun k hk => ((HO1.out.alloc (.cells #[.int .u8 (l : Nat)] 5)).lt k hk).1)
      go_wp2
      go_ret
      exact ⟨_, [l], rfl, Code.own (ownsRow_cast ho2 (by simp) (by simp)) (by intro x hx; simp at hx; omega), by simp, hb2⟩
  · have hlt2 : ¬ (xs.length : Int) < (n : Int) := by omega
    by_cases hle : xs.length = n
    · subst hle
      generalize xs.length = l at *
      by_cases hcn : c = l
      · subst hcn
        go_enter Tryz.func40, Tryz.ntmps40
        go_wp2_with (at_builtin; refine wpList_append_own_at _ rfl _ _ 22 rfl w.heap.size 5 i (.int .u8 0) 1 1 Tryz.underlying22 hi hz0 hz1 hz2 rfl (by decide) _ 0 [] rfl HO.out _ 0 _ [] rfl rfl (by intro j u hu; simp at hu) (by simp) (by decide) (by decide) (by simp) ?_)
        intro v1 w1 ho1 hg1 _ _
        have HB1 : Hid (Below w.heap.size w w1) := (below_one _).grown hg1 (by simp) (fun k hk => by simp [Value.ownBlock] at hk; omega)
        have HO1 := hid ho1
        clear ho1 hg1 HB
        have HB := HB1
        go_wp2_with (at_builtin; refine wpList_append_own_at _ rfl _ _ 22 rfl w.heap.size 5 i (.int .u8 0) 1 1 Tryz.underlying22 hi hz0 hz1 hz2 rfl (by decide) _ (0 + 0) ([] ++ [] : List Value) rfl (HO1.out.alloc _) ⟨w1.heap.size, 0, none⟩ 1 1 [.int .u8 (c : Nat)] rfl rfl (news_new _ [.int .u8 (c : Nat)] _) (by simp [Value.oneCell']) (by unfold maxLen; omega) (by omega) (by have := HB.out.size; simp; omega) ?_)
        intro v2 w2 ho2 hg2 _ _
        have hb2 : Below w.heap.size w w2 := (Below.alc HB.out _).grown hg2 (by have := HB.out.size; simp; omega) (fun k hk => ((HO1.out.alloc (.cells #[.int .u8 (c : Nat)] 5)).lt k hk).1)
        go_wp2
        go_ret
        exact ⟨_, [c], rfl, Code.own (ownsRow_cast ho2 (by simp) (by simp)) (by intro x hx; simp at hx; omega), by simp, hb2⟩
      · have hcn1 : (c = l) = False := eq_false hcn
        go_enter Tryz.func40, Tryz.ntmps40
        go_wp2_with (at_builtin; refine wpList_append_own_at _ rfl _ _ 22 rfl w.heap.size 5 i (.int .u8 0) 1 1 Tryz.underlying22 hi hz0 hz1 hz2 rfl (by decide) _ 0 [] rfl HO.out _ 0 _ [] rfl rfl (by intro j u hu; simp at hu) (by simp) (by decide) (by decide) (by simp) ?_)
        intro v1 w1 ho1 hg1 _ _
        have HB1 : Hid (Below w.heap.size w w1) := (below_one _).grown hg1 (by simp) (fun k hk => by simp [Value.ownBlock] at hk; omega)
        have HO1 := hid ho1
        clear ho1 hg1 HB
        have HB := HB1
        go_wp2_with (at_builtin; refine wpList_append_own_at _ rfl _ _ 22 rfl w.heap.size 5 i (.int .u8 0) 1 1 Tryz.underlying22 hi hz0 hz1 hz2 rfl (by decide) _ (0 + 0) ([] ++ [] : List Value) rfl (HO1.out.alloc _) ⟨w1.heap.size, 0, none⟩ 1 1 [.int .u8 (l : Nat)] rfl rfl (news_new _ [.int .u8 (l : Nat)] _) (by simp [Value.oneCell']) (by unfold maxLen; omega) (by omega) (by have := HB.out.size; simp; omega) ?_)
        intro v2 w2 ho2 hg2 _ _
        have hb2 : Below w.heap.size w w2 := (Below.alc HB.out _).grown hg2 (by have := HB.out.size; simp; omega) (fun k hk => ((HO1.out.alloc (.cells #[.int .u8 (l : Nat)] 5)).lt k hk).1)
        go_wp2
        go_ret
        exact ⟨_, [l], rfl, Code.own (ownsRow_cast ho2 (by simp) (by simp)) (by intro x hx; simp at hx; omega), by simp, hb2⟩
    · have hcn1 : (c = n) = False := eq_false (by omega)
      have HN : ∀ (j : Nat) u, ((xs.drop n).map fun (x : Nat) => Value.int .u8 (x : Int))[j]? = some u → (w.alloc (.cells #[] 5)).cell? ((ad.add n).add j) = some u := by
       intro j u hu
       rw [List.getElem?_map, List.getElem?_drop] at hu
       obtain ⟨x, hx, rfl⟩ := Option.map_eq_some_iff.1 hu
       obtain ⟨b, off, e, _, hc⟩ := H3.out (n + j) x hx
       cases e
       rw [Addr.add_lit, Addr.add_lit, Nat.add_assoc]
       exact cell_later (below_one _) hc
      have HL : Hid (((xs.drop n).map fun (x : Nat) => Value.int .u8 (x : Int)).length = (xs.length - n) * 1) := by show _ = _; simp
      have H1 : Hid (∀ u ∈ ((xs.drop n).map fun (x : Nat) => Value.int .u8 (x : Int)), u.oneCell' = true) := by intro u hu; obtain ⟨y, _, rfl⟩ := List.mem_map.1 hu; rfl
      have HF : Hid (∀ w' v', w'.ownsRow w.heap.size 5 1 v' (xs.length - n + 1) (((xs.drop n).map fun (x : Nat) => Value.int .u8 (x : Int)) ++ [.int .u8 (n : Int)]) → ∃ ys, Code w' v' ys ∧ ys.length ≤ xs.length + 1) :=
       fun w' v' ho => ⟨xs.drop n ++ [n], Code.own (ownsRow_cast ho (by simp) (by simp)) (fun x hx => (List.mem_append.1 hx).elim (fun h => H255.out x (List.mem_of_mem_drop h)) (fun h => by have := List.mem_singleton.1 h; omega)), by simp⟩
      have hle2 : n ≤ xs.length := by omega
      generalize ((xs.drop n).map fun (x : Nat) => Value.int .u8 (x : Int)) = news at *
      have HN2 := hid HN
      clear HN
      go_enter Tryz.func40, Tryz.ntmps40
      go_wp2_with (at_builtin; refine wpList_append_own_at _ rfl _ _ 22 rfl w.heap.size 5 i (.int .u8 0) 1 1 Tryz.underlying22 hi hz0 hz1 hz2 rfl (by decide) _ 0 [] rfl HO.out (ad.add n) (xs.length - n) (c - n) news rfl HL.out HN2.out H1.out (by unfold maxLen; omega) (by omega) (by simp) ?_)
      intro v1 w1 ho1 hg1 _ _
      have HB1 : Hid (Below w.heap.size w w1) := (below_one _).grown hg1 (by simp) (fun k hk => by simp [Value.ownBlock] at hk; omega)
      have HO1 := hid ho1
      clear ho1 hg1 HB
      have HB := HB1
      go_wp2_with (at_builtin; revert HO1)
      intro HO1
      refine wpList_append_own_at _ rfl _ _ 22 rfl w.heap.size 5 i (.int .u8 0) 1 1 Tryz.underlying22 hi hz0 hz1 hz2 rfl (by decide) _ (xs.length - n) news rfl (HO1.out.alloc _) ⟨w1.heap.size, 0, none⟩ 1 1 [.int .u8 (n : Nat)] rfl rfl (news_new _ [.int .u8 (n : Nat)] _) (by simp [Value.oneCell']) (by unfold maxLen; omega) (by omega) (by have := HB.out.size; simp; omega) ?_
      intro v2 w2 ho2 hg2 _ _
      have hb2 : Below w.heap.size w w2 := (Below.alc HB.out _).grown hg2 (by have := HB.out.size; simp; omega) (fun k hk => ((HO1.out.alloc (.cells #[.int .u8 (n : Nat)] 5)).lt k hk).1)
      obtain ⟨ys, hys, hyl⟩ := HF.out w2 v2 ho2
      go_wp2
      go_ret
      exact ⟨_, ys, rfl, hys, hyl, hb2⟩
end Go.Proofs.YtohgjfdbnkjefaaGreatDoor
namespace Go.Proofs.YtohgjfdbnkjefaaGreatDoor
open Go.ChangeShapes Go.WideShapes Go.ChangeAt Go.RowKit Go.Joins Go.Deep
set_option linter.unusedVariables false
set_option maxRecDepth 100000
section
variable {H : Type} {enc : TypeId × Value → H} {w : World} {base : Nat} {spare : Nat → Bool} {held : Bool}
theorem u8_wf {n : Int} (h : (Lit.int .u8 n).wf = true) : 0 ≤ n ∧ n ≤ 255 := by
 simp only [Lit.wf, Bool.and_eq_true, decide_eq_true_eq] at h
 have h0 : IntKind.u8.min = 0 := by decide
 have h1 : IntKind.u8.max = 255 := by decide
 omega
theorem open_bytes {r : Reach} {b0 : Nat} {v : Value} {d : DataW H} {p : List MemPlace} (hv : Value.okWide Tryz.prog w r b0 22 v) (h : DataW.Trod enc Tryz.prog w base spare held 22 v d p) : ∃ xs, Code w v xs := by
 obtain ⟨a0, len0, cap0, rfl⟩ := okWide_slice Tryz.underlying22 hv
 obtain ⟨fuel, hf⟩ := h
 rcases open_ints Tryz.underlying22 Tryz.underlying5 (by kernel_rfl) hf with ⟨hcs, _⟩ | ⟨x, l, c, zs, hcs, _, hl, hm, hz, _, hcell, hwz⟩
 · simp [Value.cells] at hcs
   obtain ⟨rfl, rfl, rfl⟩ := hcs
   exact ⟨[], none, 0, rfl, by simp, by omega, fun _ => rfl, fun k x hx => by simp at hx⟩
 · simp [Value.cells] at hcs
   obtain ⟨rfl, rfl, rfl⟩ := hcs
   refine ⟨(zs.take len0).map Int.toNat, ?_⟩
   have hlc : len0 ≤ zs.length := by
    revert hz; cases spare x.block <;> simp <;> omega
   have hlen : ((zs.take len0).map Int.toNat).length = len0 := by rw [List.length_map, List.length_take, Nat.min_eq_left hlc]
   refine ⟨some x, cap0, by rw [hlen], by rw [hlen]; exact hl, by unfold maxLen at hm; omega, (fun e => by cases e), fun k y hy => ?_⟩
   have hk : k < len0 := by have := (List.getElem?_eq_some_iff.1 hy).1; omega
   obtain ⟨b, off, spot⟩ := x
   have h0 := hcell 0 (by omega)
   have hs : spot = none := by
    cases spot with
    | none => rfl
    | some s =>
     exfalso
     unfold Addr.add at h0; simp [World.cell?] at h0
     split at h0 <;> simp_all
   subst hs
   have hkz : k < zs.length := by omega
   rw [List.getElem?_map, List.getElem?_take, if_pos hk, List.getElem?_eq_getElem hkz] at hy
   simp only [Option.map_some, Option.some.injEq] at hy
   have hw := u8_wf (hwz zs[k] (List.getElem_mem hkz))
   refine ⟨b, off, rfl, by omega, ?_⟩
   have := hcell k hkz
   rw [Addr.add_lit] at this
   rw [this]
   have e : zs.getD k 0 = (y : Int) := by simp [hkz]; omega
   rw [e]
end
end Go.Proofs.YtohgjfdbnkjefaaGreatDoor
namespace Go.Proofs.YtohgjfdbnkjefaaGreatDoor
set_option linter.unusedVariables false
def ckS (s : List UInt8) : Int := s.foldl (fun h c => (41 * h + (c.toNat : Int) + 1) % 999979) 7
theorem ckS_snoc (s : List UInt8) (c : UInt8) : ckS (s ++ [c]) = (41 * ckS s + (c.toNat : Int) + 1) % 999979 := by unfold ckS; rw [List.foldl_append]; rfl
theorem snocB {M : List UInt8 → Prop} (h0 : M []) (h1 : ∀ l x, M l → M (l ++ [x])) (l : List UInt8) : M l := by
 have : ∀ n (l : List UInt8), l.length = n → M l := by
  intro n
  induction n with
  | zero => intro l h; rw [List.eq_nil_of_length_eq_zero h]; exact h0
  | succ n ih =>
   intro l h
   have e : l = l.take n ++ [l[n]'(by omega)] := by
    rw [List.take_append_getElem]; rw [List.take_of_length_le (by omega)]
   rw [e]
   exact h1 _ _ (ih _ (by rw [List.length_take]; omega))
 exact this _ l rfl
theorem ckS_bd (s : List UInt8) : 0 ≤ ckS s ∧ ckS s < 999979 := by
 refine snocB (M := fun s => 0 ≤ ckS s ∧ ckS s < 999979) ?_ (fun l x ih => ?_) s
 · decide
 · rw [ckS_snoc]
   omega
theorem ckS_take {s : List UInt8} {k : Nat} (hk : k < s.length) : ckS (s.take (k + 1)) = (41 * ckS (s.take k) + ((s[k]).toNat : Int) + 1) % 999979 := by
 rw [List.take_succ_eq_append_getElem hk, ckS_snoc]
def sealS (s : List UInt8) : List UInt8 := s ++ 35 :: Lib.itoa (ckS s)
def lineS (k : Int) (c r : List UInt8) : List UInt8 := sealS (Lib.itoa k ++ 32 :: c ++ 64 :: r) ++ [10]
theorem itoa_nat (n : Nat) : Lib.itoa (n : Int) = Lib.decDigits n := by
 unfold Lib.itoa
 rw [if_neg (by omega)]; simp
open Go.RowKit
set_option maxRecDepth 100000
def bs (l : List UInt8) : ByteArray := ⟨l.toArray⟩
theorem ba_len (s : ByteArray) : s.data.toList.length = s.size := by simp
theorem ba_at {s : ByteArray} {k : Nat} (h : k < s.size) : s.data.toList[k]'(by rw [ba_len]; exact h) = s[k] := by simp; rfl
theorem ck_step {s : ByteArray} {k : Nat} (hk : k < s.size) : ckS (s.data.toList.take (k + 1)) = (41 * ckS (s.data.toList.take k) + ((s[k]).toNat : Int) + 1) % 999979 := by
 rw [ckS_take (by rw [ba_len]; exact hk), ba_at hk]
set_option maxHeartbeats 1000000 in
theorem checksum_c (s : ByteArray) (w : World) (hs : s.size ≤ 1073741824) : Calls Tryz.prog 204 #[.string s] w fun e w' => e = .returned (.int .i64 (ckS s.data.toList)) ∧ w = w' := by
 go_enter Tryz.func204, Tryz.ntmps204
 go_wp2
 go_loopw [3, 7] (fun h j wr => ∃ k : Nat, k ≤ s.size ∧ j = .int .i64 (k : Int) ∧ h = .int .i64 (ckS (s.data.toList.take k)) ∧ w = wr) (fun _ j _ => s.size - (intOf j).toNat)
 case atStart => exact ⟨0, by omega, rfl, rfl, rfl⟩
 case round =>
  obtain ⟨k, hk, rfl, rfl, rfl⟩ := hrel
  by_cases hlt : k < s.size
  · have hd : decide ((k : Int) < (s.size : Int)) = true := by simp; omega
    have hbl : s[k].toNat < 256 := s[k].toNat_lt
    have HS := hid (ck_step hlt)
    have hbd := ckS_bd (s.data.toList.take k)
    generalize ckS (s.data.toList.take k) = h at *
    generalize hc : s[k] = c at *
    generalize hn : c.toNat = n at *
    have hw : wrap64 ((n : Nat) : Int) = ((n : Nat) : Int) := by simp only [wrap64]; omega
    have hw1 : IntKind.i64.wrap (41 * h) = 41 * h := IntWalk.i64_in _ (by omega)
    have hw2 : IntKind.i64.wrap (41 * h + (n : Int)) = 41 * h + (n : Int) := IntWalk.i64_in _ (by omega)
    have hw3 : IntKind.i64.wrap (41 * h + (n : Int) + 1) = 41 * h + (n : Int) + 1 := IntWalk.i64_in _ (by omega)
    have hm : Int.tmod (41 * h + (n : Int) + 1) 999979 = (41 * h + (n : Int) + 1) % 999979 := Int.tmod_eq_emod_of_nonneg (by omega)
    go_wp2
    go_roundw
    case rel => exact ⟨k + 1, by omega, by go_num, by rw [HS.out], by trivial⟩
    case measure => simp [intOf]; omega
  · obtain rfl : k = s.size := by omega
    have HE : Hid (s.data.toList.take s.size = s.data.toList) := List.take_of_length_le (by rw [ba_len]; omega)
    rw [HE.out]
    go_wp2
    go_ret
    exact ⟨rfl, rfl⟩
set_option maxHeartbeats 1000000 in
theorem l1Sum_c (s : ByteArray) (w : World) (hs : s.size ≤ 1073741824) : Calls Tryz.prog 238 #[.string s] w fun e w' => e = .returned (.int .i64 (ckS s.data.toList)) ∧ w = w' := by
 go_enter Tryz.func238, Tryz.ntmps238
 go_wp2
 go_loopw [3, 4] (fun h j wr => ∃ k : Nat, k ≤ s.size ∧ j = .int .i64 (k : Int) ∧ h = .int .i64 (ckS (s.data.toList.take k)) ∧ w = wr) (fun _ j _ => s.size - (intOf j).toNat)
 case atStart => exact ⟨0, by omega, rfl, rfl, rfl⟩
 case round =>
  obtain ⟨k, hk, rfl, rfl, rfl⟩ := hrel
  by_cases hlt : k < s.size
  · have hd : decide ((k : Int) < (s.size : Int)) = true := by simp; omega
    have hbl : s[k].toNat < 256 := s[k].toNat_lt
    have HS := hid (ck_step hlt)
    have hbd := ckS_bd (s.data.toList.take k)
    generalize ckS (s.data.toList.take k) = h at *
    generalize hc : s[k] = c at *
    generalize hn : c.toNat = n at *
    have hw : wrap64 ((n : Nat) : Int) = ((n : Nat) : Int) := by simp only [wrap64]; omega
    have hw1 : IntKind.i64.wrap (41 * h) = 41 * h := IntWalk.i64_in _ (by omega)
    have hw2 : IntKind.i64.wrap (41 * h + (n : Int)) = 41 * h + (n : Int) := IntWalk.i64_in _ (by omega)
    have hw3 : IntKind.i64.wrap (41 * h + (n : Int) + 1) = 41 * h + (n : Int) + 1 := IntWalk.i64_in _ (by omega)
    have hm : Int.tmod (41 * h + (n : Int) + 1) 999979 = (41 * h + (n : Int) + 1) % 999979 := Int.tmod_eq_emod_of_nonneg (by omega)
    go_wp2
    go_roundw
    case rel => exact ⟨k + 1, by omega, by go_num, by rw [HS.out], by trivial⟩
    case measure => simp [intOf]; omega
  · obtain rfl : k = s.size := by omega
    have HE : Hid (s.data.toList.take s.size = s.data.toList) := List.take_of_length_le (by rw [ba_len]; omega)
    rw [HE.out]
    go_wp2
    go_ret
    exact ⟨rfl, rfl⟩
theorem piece : ∀ r : Fin 10, ((⟨#[48, 49, 50, 51, 52, 53, 54, 55, 56, 57]⟩ : ByteArray).extract r.1 (r.1 + 1)) = bs [UInt8.ofNat (48 + r.1)] := by decide +kernel
theorem bs_append (a b : List UInt8) : bs a ++ bs b = bs (a ++ b) := ByteArray.ext (by simp [bs])
theorem decDigits_big {u : Nat} (h : ¬ u < 10) : Lib.decDigits u = Lib.decDigits (u / 10) ++ [UInt8.ofNat (48 + u % 10)] := by rw [Lib.decDigits, dif_neg h]
set_option maxHeartbeats 1000000 in
theorem l1Num_c : ∀ (n : Nat) (w : World), n < 4611686018427387904 → Calls Tryz.prog 134 #[.int .i64 (n : Int)] w fun e w' => e = .returned (.string (bs (Lib.decDigits n))) ∧ Below w.heap.size w w' := by
 intro n
 induction n using Nat.strongRecOn with
 | ind n ih =>
  intro w hn
  have h0 : decide ((n : Int) < 0) = false := by first | (simp; done) | (simp; omega)
  by_cases h10 : n < 10
  · have h1 : decide ((n : Int) < 10) = true := by simp; omega
    have HD := hid (Lib.decDigits_one h10)
    have HN := hid h10
    clear ih
    go_enter Tryz.func134, Tryz.ntmps134
    go_wp2
    go_ret
    exact ⟨by rw [HD.out]; exact congrArg (fun x => Ending.returned (.string x)) (piece ⟨n, HN.out⟩), Below.refl _ _⟩
  · have h1 : decide ((n : Int) < 10) = false := by simp; omega
    have IH := hid (ih (n / 10) (by omega))
    have hq : IntKind.i64.wrap ((n : Int) / 10) = ((n / 10 : Nat) : Int) := by rw [IntWalk.i64_in _ (by omega)]; simp
    have hm : (n : Int).tmod 10 = ((n % 10 : Nat) : Int) := by rw [Int.tmod_eq_emod_of_nonneg (by omega)]; simp
    have hlt : n % 10 < 10 := Nat.mod_lt _ (by decide)
    generalize hr : n % 10 = r at *
    have hw : IntKind.i64.wrap ((r : Int) + 1) = (r : Int) + 1 := IntWalk.i64_in _ (by omega)
    have n0 : (0 : Int) ≤ (r : Int) := by omega
    have n1 : (r : Int) ≤ (r : Int) + 1 := by omega
    have n2 : (r : Int) + 1 ≤ 10 := by omega
    have ha : ((bs (Lib.decDigits (n / 10))).size : Int) ≤ 8388608 := by
     have h1 : (bs (Lib.decDigits (n / 10))).size = (Lib.decDigits (n / 10)).length := by show (Lib.decDigits (n / 10)).toArray.size = _; simp
     have h2 := Lib.nDigits_le20 (n / 10) (by omega)
     rw [h1, Lib.decDigits_length]; omega
    have hb : ((((⟨#[48, 49, 50, 51, 52, 53, 54, 55, 56, 57]⟩ : ByteArray).extract r (r + 1)).size : Nat) : Int) ≤ 8388608 := by
     have : ((⟨#[48, 49, 50, 51, 52, 53, 54, 55, 56, 57]⟩ : ByteArray).extract r (r + 1)).size = 1 := by rw [piece ⟨r, hlt⟩]; rfl
     rw [this]; decide
    have hs1 : ¬ (9223372036854775807 < (bs (Lib.decDigits (n / 10))).size + (min (r + 1) 10 - r)) := by omega
    clear ih ha hb
    go_enter Tryz.func134, Tryz.ntmps134
    go_wp2_with fail
    go_region_held3 (fun _ => True) (trivial)
     (first | (go_at_call 134; rw [show (n : Int) / 10 = ((n / 10 : Nat) : Int) by simp]; refine (IH.out _ (by omega)).mono ?_; rintro e wa ⟨rfl, hbc⟩; have hbd : Below w.heap.size w wa := Below.chain (Below.refl _ _).drew hbc))
    have HP := hid (piece ⟨r, hlt⟩)
    have HD := hid (decDigits_big h10)
    go_wp2
    go_ret
    exact ⟨by rw [HP.out, bs_append, HD.out, hr]; rfl, hbd⟩
abbrev Bs := List UInt8
def prU (c : UInt8) : Bool := decide (32 ≤ c.toNat) && decide (c.toNat ≤ 126) && !(c.toNat == 35)
def okE (e : Bs × Bs) : Bool := decide (1 ≤ e.1.length) && decide (e.1.length ≤ 160) && e.1.all prU && !e.1.contains 64 && decide (e.2.length ≤ 250) && e.2.all prU
structure OkE (e : Bs × Bs) : Prop where
 l1 : 1 ≤ e.1.length
 l2 : e.1.length ≤ 160
 p1 : ∀ c ∈ e.1, 32 ≤ c.toNat ∧ c.toNat ≤ 126 ∧ c ≠ 35
 at_ : (64 : UInt8) ∉ e.1
 l3 : e.2.length ≤ 250
 p2 : ∀ c ∈ e.2, 32 ≤ c.toNat ∧ c.toNat ≤ 126 ∧ c ≠ 35
theorem prU_iff (c : UInt8) : prU c = true ↔ (32 ≤ c.toNat ∧ c.toNat ≤ 126 ∧ c ≠ 35) := by
 unfold prU
 simp only [Bool.and_eq_true, decide_eq_true_eq, Bool.not_eq_true', beq_eq_false_iff_ne, ne_eq]
 have h35 : c = 35 ↔ c.toNat = 35 := ⟨fun h => by rw [h]; rfl, fun h => UInt8.toNat_inj.1 (by rw [h]; rfl)⟩
 rw [h35, and_assoc]
theorem okE_iff (e : Bs × Bs) : okE e = true ↔ OkE e := by
 unfold okE
 simp only [Bool.and_eq_true, decide_eq_true_eq, List.all_eq_true, prU_iff, Bool.not_eq_true', ← Bool.not_eq_true, List.contains_iff_mem]
 constructor
 · rintro ⟨⟨⟨⟨⟨a, b⟩, c⟩, d⟩, f⟩, g⟩; exact ⟨a, b, c, d, f, g⟩
 · rintro ⟨a, b, c, d, f, g⟩; exact ⟨⟨⟨⟨⟨a, b⟩, c⟩, d⟩, f⟩, g⟩
theorem decDigits_digit : ∀ (n : Nat), ∀ c ∈ Lib.decDigits n, 48 ≤ c.toNat ∧ c.toNat ≤ 57 := by
 intro n
 induction n using Nat.strongRecOn with
 | ind n ih =>
  intro c hc
  rw [Lib.decDigits] at hc
  split at hc
  · rename_i h
    simp only [List.mem_singleton] at hc
    subst hc
    have : (UInt8.ofNat (48 + n)).toNat = 48 + n := by simp; omega
    omega
  · rename_i h
    rw [List.mem_append] at hc
    rcases hc with hc | hc
    · exact ih (n / 10) (by omega) c hc
    · simp only [List.mem_singleton] at hc
      subst hc
      have : (UInt8.ofNat (48 + n % 10)).toNat = 48 + n % 10 := by simp; omega
      omega
theorem itoa_digit {k : Int} (h : 0 ≤ k) : ∀ c ∈ Lib.itoa k, 48 ≤ c.toNat ∧ c.toNat ≤ 57 := by
 obtain ⟨n, rfl⟩ := Int.eq_ofNat_of_zero_le h
 show ∀ c ∈ Lib.itoa (n : Int), _
 rw [itoa_nat]; exact decDigits_digit n
def bodyS (k : Nat) (e : Bs × Bs) : Bs := Lib.itoa (k : Int) ++ 32 :: (e.1 ++ 64 :: e.2)
def lnS (k : Nat) (e : Bs × Bs) : Bs := sealS (bodyS k e) ++ [10]
theorem lnS_def (k : Nat) (e : Bs × Bs) : lnS k e = lineS (k : Int) e.1 e.2 := by unfold lnS bodyS lineS; simp
theorem not_mem_of_digit {l : Bs} {c : UInt8} (h : ∀ x ∈ l, 48 ≤ x.toNat ∧ x.toNat ≤ 57) (hc : c.toNat < 48 ∨ 57 < c.toNat) : c ∉ l := fun hm => by have := h c hm; omega
theorem bodyS_no {k : Nat} {e : Bs × Bs} (h : OkE e) {c : UInt8} (hc : c = 35 ∨ c = 10) : c ∉ bodyS k e := by
 unfold bodyS
 simp only [List.mem_append, List.mem_cons, not_or]
 refine ⟨not_mem_of_digit (itoa_digit (by omega)) (by rcases hc with rfl | rfl <;> decide), by rcases hc with rfl | rfl <;> decide, fun hm => ?_, by rcases hc with rfl | rfl <;> decide, fun hm => ?_⟩
 · have := h.p1 c hm; rcases hc with rfl | rfl
   · exact this.2.2 rfl
   · exact absurd this.1 (by decide)
 · have := h.p2 c hm; rcases hc with rfl | rfl
   · exact this.2.2 rfl
   · exact absurd this.1 (by decide)
theorem sealS_no10 {k : Nat} {e : Bs × Bs} (h : OkE e) : (10 : UInt8) ∉ sealS (bodyS k e) := by
 unfold sealS
 simp only [List.mem_append, List.mem_cons, not_or]
 exact ⟨bodyS_no h (.inr rfl), by decide, not_mem_of_digit (itoa_digit (ckS_bd _).1) (by decide)⟩
theorem part_inj {a b a' b' : Bs} {c : UInt8} (ha : c ∉ a) (ha' : c ∉ a') (h : a ++ c :: b = a' ++ c :: b') : a = a' ∧ b = b' := by
 induction a generalizing a' with
 | nil =>
  cases a' with
  | nil => simpa using h
  | cons x t => simp at h; exact absurd (by rw [h.1]; simp) ha'
 | cons x t ih =>
  cases a' with
  | nil => simp at h; exact absurd (by rw [h.1]; simp) ha
  | cons y u =>
   simp at h ha ha'
   obtain ⟨h1, h2⟩ := ih ha.2 ha'.2 h.2
   rw [h.1, h1]; exact ⟨rfl, h2⟩
theorem bodyS_inj {k : Nat} {e e' : Bs × Bs} (h : OkE e) (h' : OkE e') (he : bodyS k e = bodyS k e') : e = e' := by
 unfold bodyS at he
 have h1 := List.append_cancel_left he
 simp only [List.cons.injEq, true_and] at h1
 obtain ⟨h2, h3⟩ := part_inj h.at_ h'.at_ h1
 exact Prod.ext h2 h3
theorem lnS_inj {k : Nat} {e e' : Bs × Bs} {x x' : Bs} (h : OkE e) (h' : OkE e') (he : lnS k e ++ x = lnS k e' ++ x') : e = e' ∧ x = x' := by
 unfold lnS at he
 rw [List.append_assoc, List.append_assoc] at he
 obtain ⟨h1, h2⟩ := part_inj (sealS_no10 h) (sealS_no10 h') he
 unfold sealS at h1
 obtain ⟨h3, _⟩ := part_inj (bodyS_no h (.inl rfl)) (bodyS_no h' (.inl rfl)) h1
 exact ⟨bodyS_inj h h' h3, h2⟩
def linesS (k : Nat) : List (Bs × Bs) → Bs
 | [] => []
 | e :: t => lnS k e ++ linesS (k + 1) t
theorem linesS_snoc (k : Nat) (es : List (Bs × Bs)) (e : Bs × Bs) : linesS k (es ++ [e]) = linesS k es ++ lnS (k + es.length) e := by
 induction es generalizing k with
 | nil => simp [linesS]
 | cons x t ih => simp only [List.cons_append, linesS, ih, List.append_assoc, List.length_cons]; rw [show k + (t.length + 1) = k + 1 + t.length by omega]
def Begins (k : Nat) (s : Bs) (e : Bs × Bs) : Prop := OkE e ∧ ∃ x, s = lnS k e ++ x
structure Opens (s : Bs) (es : List (Bs × Bs)) (rest : Bs) : Prop where
 ok : ∀ e ∈ es, OkE e
 le : es.length ≤ 60
 eq : s = linesS 0 es ++ rest
 stop : es.length = 60 ∨ ∀ e, ¬ Begins es.length rest e
theorem opens_at {k : Nat} {s r r' : Bs} {es es' : List (Bs × Bs)} (h : ∀ e ∈ es, OkE e) (h' : ∀ e ∈ es', OkE e) (he : s = linesS k es ++ r) (he' : s = linesS k es' ++ r')
 (hl : k + es.length ≤ 60) (hl' : k + es'.length ≤ 60) (hs : k + es.length = 60 ∨ ∀ e, ¬ Begins (k + es.length) r e) (hs' : k + es'.length = 60 ∨ ∀ e, ¬ Begins (k + es'.length) r' e) : es = es' ∧ r = r' := by
 induction es generalizing k s es' with
 | nil =>
  cases es' with
  | nil => simp [linesS] at he he'; exact ⟨rfl, he.symm.trans he'⟩
  | cons x t =>
   simp only [linesS, List.nil_append, List.append_assoc, List.length_nil, Nat.add_zero, List.length_cons] at he he' hs hl'
   rcases hs with hs | hs
   · omega
   · exact absurd ⟨h' x (by simp), _, he.symm.trans he'⟩ (hs x)
 | cons e t ih =>
  cases es' with
  | nil =>
   simp only [linesS, List.nil_append, List.append_assoc, List.length_nil, Nat.add_zero, List.length_cons] at he he' hs' hl
   rcases hs' with hs' | hs'
   · omega
   · exact absurd ⟨h e (by simp), _, he'.symm.trans he⟩ (hs' e)
  | cons x u =>
   simp only [linesS, List.append_assoc] at he he'
   obtain ⟨rfl, h2⟩ := lnS_inj (h e (by simp)) (h' x (by simp)) (he.symm.trans he')
   simp only [List.length_cons] at hl hl' hs hs'
   rw [show k + (t.length + 1) = k + 1 + t.length by omega] at hl hs
   rw [show k + (u.length + 1) = k + 1 + u.length by omega] at hl' hs'
   obtain ⟨rfl, h3⟩ := ih (k := k + 1) (s := linesS (k + 1) t ++ r) (fun a ha => h a (by simp [ha])) (fun a ha => h' a (by simp [ha])) rfl h2 hl hl' hs hs'
   exact ⟨rfl, h3⟩
theorem Opens.uniq {s r r' : Bs} {es es' : List (Bs × Bs)} (h : Opens s es r) (h' : Opens s es' r') : es = es' ∧ r = r' :=
 opens_at h.ok h'.ok h.eq h'.eq (by have := h.le; omega) (by have := h'.le; omega) (by simpa using h.stop) (by simpa using h'.stop)
theorem Opens.whole {es : List (Bs × Bs)} (h : ∀ e ∈ es, OkE e) (hl : es.length ≤ 60) : Opens (linesS 0 es) es [] :=
 ⟨h, hl, by simp, .inr fun e ⟨_, x, hx⟩ => by unfold lnS at hx; simp at hx⟩
theorem cut_lines {k : Nat} {es : List (Bs × Bs)} {d p : Bs} (h : ∀ e ∈ es, OkE e) (he : d ++ p = linesS k es) (hd : d = [] ∨ ∃ t, d = t ++ [10]) : ∃ i, i ≤ es.length ∧ d = linesS k (es.take i) := by
 induction es generalizing k d with
 | nil =>
  simp only [linesS, List.append_eq_nil_iff] at he
  exact ⟨0, Nat.le_refl _, by simp [linesS, he.1]⟩
 | cons e t ih =>
  rcases hd with rfl | ⟨u, rfl⟩
  · exact ⟨0, by simp, by simp [linesS]⟩
  · simp only [linesS] at he
    -- the first line ends at the first newline
    have h10 := sealS_no10 (k := k) (h e (by simp))
    have hlt : (lnS k e).length ≤ (u ++ [10]).length := by
     rcases Nat.lt_or_ge (u ++ [10]).length (lnS k e).length with hlt | hge
     · exfalso
       have hp : u ++ [10] = (lnS k e).take (u ++ [10]).length := by
        have := congrArg (List.take (u ++ [10]).length) he
        rw [List.take_left', List.take_append_of_le_length (by omega)] at this
        · exact this
        · rfl
       unfold lnS at hp hlt
       rw [List.take_append_of_le_length (by simp at hlt ⊢; omega)] at hp
       apply h10
       have : (10 : UInt8) ∈ (sealS (bodyS k e)).take (u ++ [10]).length := by rw [← hp]; simp
       exact List.mem_of_mem_take this
     · exact hge
    obtain ⟨d2, hd2⟩ : ∃ d2, u ++ [10] = lnS k e ++ d2 := by
     refine ⟨(u ++ [10]).drop (lnS k e).length, ?_⟩
     have := congrArg (List.take (lnS k e).length) he
     rw [List.take_append_of_le_length hlt, List.take_left' rfl] at this
     conv => lhs; rw [← List.take_append_drop (lnS k e).length (u ++ [10])]
     rw [this]
    rw [hd2, List.append_assoc] at he
    have h2 := List.append_cancel_left he
    have hend : d2 = [] ∨ ∃ t, d2 = t ++ [10] := by
     rcases List.eq_nil_or_concat d2 with rfl | ⟨t', x, rfl⟩
     · exact .inl rfl
     · right
       refine ⟨t', ?_⟩
       have := congrArg List.getLast? hd2
       simp at this
       rw [List.concat_eq_append, this]
    obtain ⟨i, hi, hdi⟩ := ih (fun a ha => h a (by simp [ha])) h2 hend
    exact ⟨i + 1, by simp; omega, by rw [hd2, hdi]; simp [linesS]⟩
theorem linesS_end (k : Nat) (es : List (Bs × Bs)) : linesS k es = [] ∨ ∃ t, linesS k es = t ++ [10] := by
 rcases List.eq_nil_or_concat es with rfl | ⟨t, e, rfl⟩
 · exact .inl rfl
 · right
   rw [List.concat_eq_append, linesS_snoc]
   exact ⟨linesS k t ++ sealS (bodyS (k + t.length) e), by simp [lnS]⟩
theorem itoa_len {n : Int} (h0 : 0 ≤ n) (h : n < 1000000) : (Lib.itoa n).length ≤ 20 := by
 obtain ⟨m, rfl⟩ := Int.eq_ofNat_of_zero_le h0
 have h1 : Lib.itoa (Int.ofNat m) = Lib.decDigits m := itoa_nat m
 have hm : m < 1000000 := by have : ((m : Nat) : Int) < 1000000 := h; omega
 have := Lib.nDigits_le20 m (by omega)
 show (Lib.itoa (Int.ofNat m)).length ≤ 20
 rw [h1, Lib.decDigits_length]; exact this
theorem bodyS_len {k : Nat} {e : Bs × Bs} (h : OkE e) (hk : k < 60) : (bodyS k e).length ≤ 432 := by
 have h1 : (Lib.itoa (k : Int)).length ≤ 20 := itoa_len (by omega) (by omega)
 have := h.l2; have := h.l3
 unfold bodyS
 simp
 omega
theorem sealS_len (s : Bs) : (sealS s).length ≤ s.length + 21 := by
 have h2 : (Lib.itoa (ckS s)).length ≤ 20 := itoa_len (ckS_bd s).1 (by have := (ckS_bd s).2; omega)
 unfold sealS
 simp
 omega
theorem lnS_len {k : Nat} {e : Bs × Bs} (h : OkE e) (hk : k < 60) : (lnS k e).length ≤ 454 := by
 have := bodyS_len h hk
 have := sealS_len (bodyS k e)
 unfold lnS
 simp
 omega
theorem box_after {w w1 : World} {cs : Array Value} {t : TypeId} (hb : Below (w.alloc (.cells cs t)).heap.size (w.alloc (.cells cs t)) w1) :
 (∀ j v, cs[j]? = some v → w1.cell? ⟨w.heap.size, j, none⟩ = some v) ∧ ∀ j, w1.frozen? ⟨w.heap.size, j, none⟩ = false := by
 refine ⟨fun j v h => ?_, fun j => ?_⟩
 · rw [hb.cell (p := ⟨w.heap.size, j, none⟩) (by simp), World.cell?_alloc_at _ _ _ _ rfl]; exact h
 · rw [hb.frozen (p := ⟨w.heap.size, j, none⟩) (by simp), World.frozen?_alloc_new]
theorem two_set {w w2 : World} {b : Nat} {x y : Value} (X Y : Value) (h0 : w2.cell? ⟨b, 0, none⟩ = some x) (h1 : w2.cell? ⟨b, 1, none⟩ = some y) (hb : Below w.heap.size w w2) (hbb : w.heap.size ≤ b) :
 ((w2.setCell ⟨b, 0, none⟩ X).setCell ⟨b, 1, none⟩ Y).cell? ⟨b, 0, none⟩ = some X ∧ ((w2.setCell ⟨b, 0, none⟩ X).setCell ⟨b, 1, none⟩ Y).cell? ⟨b, 1, none⟩ = some Y ∧ Below w.heap.size w ((w2.setCell ⟨b, 0, none⟩ X).setCell ⟨b, 1, none⟩ Y) := by
 refine ⟨?_, ?_, (hb.setCell hbb _).setCell hbb _⟩
 · rw [World.cell?_setCell_other _ _ _ _ (by simp)]; exact World.cell?_setCell_same _ _ _ h0
 · exact World.cell?_setCell_same _ _ _ (u := y) (by rw [World.cell?_setCell_other _ _ _ _ (by simp)]; exact h1)
def prB (c : UInt8) : Bool := inB (c.toNat : Int) 32 126 && !(c.toNat == 35)
def printB (s : ByteArray) : Bool := s.data.toList.all prB
theorem printB_bad {s : ByteArray} {k : Nat} (hk : k < s.size) (h : prB s[k] = false) : printB s = false := by
 unfold printB
 rw [Bool.eq_false_iff]; intro h2
 rw [List.all_eq_true] at h2
 have := h2 s[k] (by
  have : s.data.toList[k]? = some s[k] := by simp [hk]; rfl
  exact List.mem_of_getElem? this)
 rw [this] at h; cases h
theorem printB_ok {s : ByteArray} (h : ∀ j (hj : j < s.size), prB s[j] = true) : printB s = true := by
 unfold printB
 rw [List.all_eq_true]
 intro c hc
 obtain ⟨j, hj, rfl⟩ := List.getElem_of_mem hc
 exact h j (by simpa using hj)
theorem byte_lt (c : UInt8) : c.toNat < 256 := c.toNat_lt
theorem isPrinted_c (s : ByteArray) (w : World) (hs : s.size ≤ 1073741824) : Calls Tryz.prog 99 #[.string s] w fun e w' => e = .returned (.bool (printB s)) ∧ w = w' := by
 go_enter Tryz.func99, Tryz.ntmps99
 go_wp2
 go_loopw [6] (fun j wr => ∃ k : Nat, k ≤ s.size ∧ j = .int .i64 (k : Int) ∧ Hid (∀ j (hj : j < s.size), j < k → prB s[j] = true) ∧ w = wr) (fun j _ => s.size - (intOf j).toNat)
 case atStart => exact ⟨0, by omega, rfl, fun j hj h => by omega, rfl⟩
 case round =>
  obtain ⟨k, hk, rfl, hbef, rfl⟩ := hrel
  by_cases hlt : k < s.size
  · have hd : decide ((k : Int) < (s.size : Int)) = true := by simp; omega
    have hbl := byte_lt s[k]
    have hw : wrap64 ((s[k].toNat : Nat) : Int) = ((s[k].toNat : Nat) : Int) := by simp only [wrap64]; omega
    have hpr : prB s[k] = (inB (s[k].toNat : Int) 32 126 && !(s[k].toNat == 35)) := rfl
    have HB := hid (fun h => printB_bad (s := s) hlt h)
    have HE : Hid (prB s[k] = true → ∀ j (hj : j < s.size), j < k + 1 → prB s[j] = true) := fun h j hj hjk => by
     by_cases hj2 : j < k
     · exact hbef.out j hj hj2
     · obtain rfl : j = k := by omega
       exact h
    clear hbef
    generalize hc : s[k] = c at *
    generalize hn : c.toNat = n at *
    go_wp2_with fail
    refine (within_c _ _ _ _).mono ?_
    rintro e w2 ⟨rfl, rfl⟩
    rcases hq : inB (n : Int) 32 126 with _ | _
    · have HF := hid (HB.out (by rw [hpr, hq]; rfl))
      clear HB HE hpr
      go_wp2
      go_ret
      exact ⟨by rw [HF.out]; rfl, rfl⟩
    · rcases hq2 : n == 35 with _ | _
      · have HF := hid (HE.out (by rw [hpr, hq, hq2]; rfl))
        have h35 : ((n : Int) == 35) = false := by simp at hq2 ⊢; omega
        clear HB HE hpr
        go_wp2
        go_roundw
        case rel => exact ⟨k + 1, by omega, by go_num, HF.out, by trivial⟩
        case measure => simp [intOf]; omega
      · have HF := hid (HB.out (by rw [hpr, hq, hq2]; rfl))
        have h35 : ((n : Int) == 35) = true := by simp at hq2 ⊢; omega
        clear HB HE hpr
        go_wp2
        go_ret
        exact ⟨by rw [HF.out]; rfl, rfl⟩
  · obtain rfl : k = s.size := by omega
    go_wp2
    go_ret
    exact ⟨bool_ret (printB_ok fun j hj => hbef.out j hj hj).symm, rfl⟩
theorem l12Bytes_c (s : ByteArray) (m : Int) (w : World) (hs : s.size ≤ 1073741824) : Calls Tryz.prog 124 #[.string s, .int .i64 m] w fun e w' => e = .returned (.bool (printB s && decide ((s.size : Int) ≤ m))) ∧ w = w' := by
 go_enter Tryz.func124, Tryz.ntmps124
 go_wp2
 go_loopw [5] (fun j wr => ∃ k : Nat, k ≤ s.size ∧ j = .int .i64 (k : Int) ∧ Hid (∀ j (hj : j < s.size), j < k → prB s[j] = true) ∧ w = wr) (fun j _ => s.size - (intOf j).toNat)
 case atStart => exact ⟨0, by omega, rfl, fun j hj h => by omega, rfl⟩
 case round =>
  obtain ⟨k, hk, rfl, hbef, rfl⟩ := hrel
  by_cases hlt : k < s.size
  · have hd : decide ((k : Int) < (s.size : Int)) = true := by simp; omega
    have hbl := byte_lt s[k]
    have hw : wrap64 ((s[k].toNat : Nat) : Int) = ((s[k].toNat : Nat) : Int) := by simp only [wrap64]; omega
    have hpr : prB s[k] = (inB (s[k].toNat : Int) 32 126 && !(s[k].toNat == 35)) := rfl
    have HB := hid (fun h => printB_bad (s := s) hlt h)
    have HE : Hid (prB s[k] = true → ∀ j (hj : j < s.size), j < k + 1 → prB s[j] = true) := fun h j hj hjk => by
     by_cases hj2 : j < k
     · exact hbef.out j hj hj2
     · obtain rfl : j = k := by omega
       exact h
    clear hbef
    generalize hc : s[k] = c at *
    generalize hn : c.toNat = n at *
    go_wp2_with fail
    refine (l1In_c _ _ _ _).mono ?_
    rintro e w2 ⟨rfl, rfl⟩
    rcases hq : inB (n : Int) 32 126 with _ | _
    · have HF := hid (HB.out (by rw [hpr, hq]; rfl))
      clear HB HE hpr
      go_wp2
      go_ret
      exact ⟨by rw [HF.out]; rfl, rfl⟩
    · rcases hq2 : n == 35 with _ | _
      · have HF := hid (HE.out (by rw [hpr, hq, hq2]; rfl))
        have h35 : ((n : Int) == 35) = false := by simp at hq2 ⊢; omega
        clear HB HE hpr
        go_wp2
        go_roundw
        case rel => exact ⟨k + 1, by omega, by go_num, HF.out, by trivial⟩
        case measure => simp [intOf]; omega
      · have HF := hid (HB.out (by rw [hpr, hq, hq2]; rfl))
        have h35 : ((n : Int) == 35) = true := by simp at hq2 ⊢; omega
        clear HB HE hpr
        go_wp2
        go_ret
        exact ⟨by rw [HF.out]; rfl, rfl⟩
  · obtain rfl : k = s.size := by omega
    go_wp2
    go_ret
    exact ⟨by rw [printB_ok fun j hj => hbef.out j hj hj]; rfl, rfl⟩
def standsB (s : ByteArray) (c : UInt8) : Bool := s.data.toList.contains c
theorem l1Stands_c (s : ByteArray) (c : UInt8) (w : World) (hs : s.size ≤ 1073741824) : Calls Tryz.prog 125 #[.string s, .int .u8 (c.toNat : Int)] w fun e w' => e = .returned (.bool (standsB s c)) ∧ w = w' := by
 go_enter Tryz.func125, Tryz.ntmps125
 go_wp2
 go_loopw [5] (fun j wr => ∃ k : Nat, k ≤ s.size ∧ j = .int .i64 (k : Int) ∧ Hid (∀ j (hj : j < s.size), j < k → s[j] ≠ c) ∧ w = wr) (fun j _ => s.size - (intOf j).toNat)
 case atStart => exact ⟨0, by omega, rfl, fun j hj h => by omega, rfl⟩
 case round =>
  obtain ⟨k, hk, rfl, hbef, rfl⟩ := hrel
  by_cases hlt : k < s.size
  · have hd : decide ((k : Int) < (s.size : Int)) = true := by simp; omega
    by_cases hq : s[k] = c
    · have h1 : decide (((s[k].toNat : Nat) : Int) = ((c.toNat : Nat) : Int)) = true := by rw [hq]; simp
      have h2 : (((s[k].toNat : Nat) : Int) == ((c.toNat : Nat) : Int)) = true := by rw [hq]; simp
      have hF : standsB s c = true := by
       unfold standsB
       rw [List.contains_iff_mem, ← hq]
       have : s.data.toList[k]? = some s[k] := by simp [hlt]; rfl
       exact List.mem_of_getElem? this
      have HF := hid hF; have HQ := hid hq; clear hF hq
      go_wp2
      go_ret
      exact ⟨by rw [HF.out]; rfl, rfl⟩
    · have hne : s[k].toNat ≠ c.toNat := fun h => hq (UInt8.toNat_inj.1 h)
      have h1 : decide (((s[k].toNat : Nat) : Int) = ((c.toNat : Nat) : Int)) = false := by simp; omega
      have h2 : (((s[k].toNat : Nat) : Int) == ((c.toNat : Nat) : Int)) = false := by simp; omega
      have HN : Hid (∀ j (hj : j < s.size), j < k + 1 → s[j] ≠ c) := fun j hj hjk => by
       by_cases hj2 : j < k
       · exact hbef.out j hj hj2
       · obtain rfl : j = k := by omega
         exact hq
      clear hq hbef hne
      go_wp2
      go_roundw
      case rel => exact ⟨k + 1, by omega, by go_num, HN, by trivial⟩
      case measure => simp [intOf]; omega
  · obtain rfl : k = s.size := by omega
    have hF : standsB s c = false := by
     unfold standsB
     rw [Bool.eq_false_iff]; intro h
     rw [List.contains_iff_mem] at h
     obtain ⟨j, hj, e⟩ := List.getElem_of_mem h
     exact hbef.out j (by simpa using hj) (by simpa using hj) e
    have HF := hid hF; clear hF
    go_wp2
    go_ret
    exact ⟨by rw [HF.out]; rfl, rfl⟩
def cmdB (c : ByteArray) : Bool := inB (c.size : Int) 1 160 && (printB c && !standsB c 64)
def recB (c r : ByteArray) : Bool := cmdB c && (decide ((r.size : Int) ≤ 250) && printB r)
theorem Contains_c (s : ByteArray) (c : UInt8) (w : World) : Calls Tryz.prog 65 #[.string s, .string ⟨#[c]⟩] w fun e w' => e = .returned (.bool (standsB s c)) ∧ w = w' :=
 (Tryz.strings_Contains_one s c w).mono fun e w' h => ⟨by rw [h.1]; unfold standsB; rw [Lib.contains_iff_indexByte], h.2.symm⟩
theorem isCommand_c (s : ByteArray) (w : World) (hs : s.size ≤ 1073741824) : Calls Tryz.prog 53 #[.string s] w fun e w' => e = .returned (.bool (cmdB s)) ∧ w = w' := by
 rcases h1 : inB (s.size : Int) 1 160 with _ | _
 · have H1 := hid h1
   have HF := hid (show cmdB s = false by unfold cmdB; rw [h1]; rfl); clear h1
   go_enter Tryz.func53, Tryz.ntmps53
   go_wp2_with fail
   refine (within_c _ _ _ _).mono ?_
   rintro e w2 ⟨rfl, rfl⟩
   rw [H1.out]
   go_wp2
   go_ret
   exact ⟨by rw [HF.out]; rfl, rfl⟩
 · rcases h2 : printB s with _ | _
   · have H1 := hid h1; have H2 := hid h2
     have HF := hid (show cmdB s = false by unfold cmdB; rw [h1, h2]; rfl); clear h1 h2
     go_enter Tryz.func53, Tryz.ntmps53
     go_wp2_with fail
     refine (within_c _ _ _ _).mono ?_
     rintro e w2 ⟨rfl, rfl⟩
     rw [H1.out]
     go_wp2_with fail
     refine (isPrinted_c s _ hs).mono ?_
     rintro e w2 ⟨rfl, rfl⟩
     rw [H2.out]
     go_wp2
     go_ret
     exact ⟨by rw [HF.out]; rfl, rfl⟩
   · have H1 := hid h1; have H2 := hid h2
     have HF := hid (show cmdB s = !standsB s 64 by unfold cmdB; rw [h1, h2]; rfl); clear h1 h2
     go_enter Tryz.func53, Tryz.ntmps53
     go_wp2_with fail
     refine (within_c _ _ _ _).mono ?_
     rintro e w2 ⟨rfl, rfl⟩
     rw [H1.out]
     go_wp2_with fail
     refine (isPrinted_c s _ hs).mono ?_
     rintro e w2 ⟨rfl, rfl⟩
     rw [H2.out]
     go_wp2_with fail
     refine (Contains_c s 64 _).mono ?_
     rintro e w2 ⟨rfl, rfl⟩
     go_wp2
     go_ret
     exact ⟨by rw [HF.out]; rfl, rfl⟩
theorem empty_size (c : ByteArray) : c.toList.isEmpty = decide (c.size = 0) := by
 rw [Lib.toList_data, Lib.size_eq]
 cases c.data.toList <;> simp
def recV (c r : ByteArray) : Value := .agg #[.string c, .string r]
theorem IsValidRecord_c (c r : ByteArray) (w : World) (hc : c.size ≤ 1073741824) (hr : r.size ≤ 1073741824) : Calls Tryz.prog 105 #[recV c r] w fun e w' => e = .returned (.bool (recB c r)) ∧ Below w.heap.size w w' := by
 unfold recV
 rcases h1 : cmdB c with _ | _
 · have H1 := hid h1
   have HF := hid (show recB c r = false by unfold recB; rw [h1]; rfl); clear h1
   go_enter Tryz.func105, Tryz.ntmps105
   go_wp2_with fail
   refine (isCommand_c _ _ hc).mono ?_
   rintro e w2 ⟨rfl, rfl⟩
   rw [H1.out]
   go_wp2
   go_ret
   exact ⟨by rw [HF.out]; rfl, by exact qBl⟩
 · rcases h2 : decide ((r.size : Int) ≤ 250) with _ | _
   · have H1 := hid h1
     have HF := hid (show recB c r = false by unfold recB; rw [h1, h2]; rfl); clear h1
     go_enter Tryz.func105, Tryz.ntmps105
     go_wp2_with fail
     refine (isCommand_c _ _ hc).mono ?_
     rintro e w2 ⟨rfl, rfl⟩
     rw [H1.out]
     go_wp2
     go_ret
     exact ⟨by rw [HF.out]; rfl, by exact qBl⟩
   · have H1 := hid h1
     have HF := hid (show recB c r = printB r by unfold recB; rw [h1, h2]; rfl); clear h1
     go_enter Tryz.func105, Tryz.ntmps105
     go_wp2_with fail
     refine (isCommand_c _ _ hc).mono ?_
     rintro e w2 ⟨rfl, rfl⟩
     rw [H1.out]
     go_wp2_with fail
     refine (isPrinted_c _ _ hr).mono ?_
     rintro e w2 ⟨rfl, rfl⟩
     go_wp2
     go_ret
     exact ⟨by rw [HF.out]; rfl, by exact qBl⟩
theorem l12Record_c (c r : ByteArray) (w : World) (hc : c.size ≤ 1073741824) (hr : r.size ≤ 1073741824) : Calls Tryz.prog 71 #[recV c r] w fun e w' => e = .returned (.bool (recB c r)) ∧ Below w.heap.size w w' := by
 unfold recV
 rcases h0 : decide (c.size = 0) with _ | _
 · have he : c.toList.isEmpty = false := by rw [empty_size, h0]
   have hsz : 1 ≤ c.size := by have := of_decide_eq_false h0; omega
   have hcb : cmdB c = ((printB c && decide ((c.size : Int) ≤ 160)) && !standsB c 64) := by
    unfold cmdB inB
    rw [decide_eq_true (show (1 : Int) ≤ (c.size : Int) by omega)]
    cases decide ((c.size : Int) ≤ 160) <;> cases printB c <;> cases standsB c 64 <;> rfl
   clear h0
   rcases h1 : (printB c && decide ((c.size : Int) ≤ 160)) with _ | _
   · have H1 := hid h1
     have HF := hid (show recB c r = false by unfold recB; rw [hcb, h1]; rfl); clear h1 hcb
     go_enter Tryz.func71, Tryz.ntmps71
     go_wp2_with fail
     refine (l12Bytes_c _ _ _ hc).mono ?_
     rintro e w2 ⟨rfl, rfl⟩
     rw [H1.out]
     go_wp2
     go_ret
     exact ⟨by rw [HF.out]; rfl, by exact qBl⟩
   · rcases h2 : standsB c 64 with _ | _
     · have H1 := hid h1; have H2 := hid h2
       have HF := hid (show recB c r = (printB r && decide ((r.size : Int) ≤ 250)) by unfold recB; rw [hcb, h1, h2]; cases decide ((r.size : Int) ≤ 250) <;> cases printB r <;> rfl); clear h1 h2 hcb
       go_enter Tryz.func71, Tryz.ntmps71
       go_wp2_with fail
       refine (l12Bytes_c _ _ _ hc).mono ?_
       rintro e w2 ⟨rfl, rfl⟩
       rw [H1.out]
       go_wp2_with fail
       refine (l1Stands_c _ 64 _ hc).mono ?_
       rintro e w2 ⟨rfl, rfl⟩
       rw [H2.out]
       go_wp2_with fail
       refine (l12Bytes_c _ _ _ hr).mono ?_
       rintro e w2 ⟨rfl, rfl⟩
       go_wp2
       go_ret
       exact ⟨by rw [HF.out]; rfl, by exact qBl⟩
     · have H1 := hid h1; have H2 := hid h2
       have HF := hid (show recB c r = false by unfold recB; rw [hcb, h1, h2]; rfl); clear h1 h2 hcb
       go_enter Tryz.func71, Tryz.ntmps71
       go_wp2_with fail
       refine (l12Bytes_c _ _ _ hc).mono ?_
       rintro e w2 ⟨rfl, rfl⟩
       rw [H1.out]
       go_wp2_with fail
       refine (l1Stands_c _ 64 _ hc).mono ?_
       rintro e w2 ⟨rfl, rfl⟩
       rw [H2.out]
       go_wp2
       go_ret
       exact ⟨by rw [HF.out]; rfl, by exact qBl⟩
 · have he : c.toList.isEmpty = true := by rw [empty_size, h0]
   have hsz : c.size = 0 := of_decide_eq_true h0
   have HF := hid (show recB c r = false by unfold recB cmdB inB; rw [hsz]; rfl)
   clear h0 hsz
   go_enter Tryz.func71, Tryz.ntmps71
   go_wp2
   go_ret
   exact ⟨by rw [HF.out]; rfl, by exact qBl⟩
end Go.Proofs.YtohgjfdbnkjefaaGreatDoor
