/- Texts of this claim, gathered: Seq, Set, SetOf, App. -/
import Derived.Test.YtlipkplomndjcaaGreatK4
import Derived.RangeFuncBox
import Derived.RangeFuncLeaves
import Derived.Shelf.Abstract
import Derived.WalkKit
import Derived.OwnWalkIn
import Derived.TacticsInMore
import Derived.LoopNIn
import Derived.LoopIn
import Derived.Maps.AppendAt
import Derived.Test.YtlipkplomndjcaaGreatShelf
import Derived.Lib.SlicesCompact
import Derived.Sort.OwnSortedInts
import Derived.Lib.OwnBridge
import Derived.Deep.AppendLies
import Derived.Deep.RegionHeld3
import Derived.OrdersHeld
namespace Go.Proofs.YtlipkplomndjcaaGreat
open Go.RowKit Go.Shelf
set_option linter.unusedVariables false
attribute [local go_sem] Oper.semAt_some
def upto {α : Type} (f : Nat → α) (k : Nat) : List α := (List.range k).map f
theorem upto_succ {α : Type} (f : Nat → α) (k : Nat) : upto f (k + 1) = upto f k ++ [f k] := by simp [upto, List.range_succ]
theorem upto_length {α : Type} (f : Nat → α) (k : Nat) : (upto f k).length = k := by simp [upto]
theorem upto_all (zs : List Int) : upto (fun j => zs[j]?.getD 0) zs.length = zs := by
  apply List.ext_getElem
  · simp [upto]
  · intro i h1 h2
    simp [upto, h2]
theorem upto_take (zs : List Int) {k : Nat} (hk : k ≤ zs.length) : upto (fun j => zs[j]?.getD 0) k = zs.take k := by
  apply List.ext_getElem
  · simp [upto, hk]
  · intro i h1 h2
    have : i < zs.length := by simp [upto] at h1; omega
    simp [upto, this]
set_option maxRecDepth 100000 in
set_option maxHeartbeats 2000000 in
/-- the closure of slices.Values, for every loop body that keeps what lay below n₀ -/
theorem values1_in (F : Fence) (n : Nat) (h7 : F.fn 108) (hro : F.round = none) (hn : 1 ≤ n) (l Bs n₀ b off len cap : Nat) (zs : List Int) (hreach : len * 8 ≤ 140737488351232) (hb : b < n₀) (J Jx : List Int → World → Prop)
    (hY : ∀ pre x W, J pre W → pre.length < len → YieldAt F (n - 1) Tryz.prog l #[.int .i64 x] W fun e W' =>
      (e = .returned (.bool true) ∧ J (pre ++ [x]) W' ∧ Below n₀ W W') ∨ (e = .returned (.bool false) ∧ Jx (pre ++ [x]) W'))
    (W : World) (hBs : W.cell? ⟨Bs, 0, none⟩ = some (.slice (some ⟨b, off, none⟩) len cap)) (hc : ∀ j, j < len → W.cell? ⟨b, off + j, none⟩ = some (.int .i64 (zs[j]?.getD 0))) (h0 : J [] W) :
    CallsIn F n Tryz.prog 108 #[.func (.yield l) #[] #[], .pointer (some ⟨Bs, 0, none⟩)] W fun e W' => (∃ v, e = .returned v) ∧
      ((∃ ys, ys = upto (fun j => zs[j]?.getD 0) len ∧ J ys W') ∨ (∃ pre, (∃ k, k ≤ len ∧ pre = upto (fun j => zs[j]?.getD 0) k) ∧ Jx pre W')) := by
  refine callsIn_of_wp Tryz.func108 rfl h7 ?_ hro
  simp only [Tryz.ntmps108, List.size_toArray, List.length_cons, List.length_nil, Nat.reduceAdd, Nat.reduceSub, Array.replicate_succ, Array.replicate_zero, List.push_toArray, List.append_toArray, List.nil_append, List.cons_append]
  gi_wp2
  gi_loopw [7] (fun i wr => ∃ k : Nat, k ≤ len ∧ i = .int .i64 k ∧ J (upto (fun j => zs[j]?.getD 0) k) wr ∧ Below n₀ W wr)
    (fun i _ => len - (intOf i).toNat)
  case atStart => exact ⟨0, Nat.zero_le _, rfl, h0, Below.refl _ _⟩
  case round =>
    obtain ⟨k, hk, rfl, hJs, hnx⟩ := hrel
    have hcx : k < len → wr.cell? ⟨b, off + k, none⟩ = some (.int .i64 (zs[k]?.getD 0)) := fun h => (hnx.cell (p := ⟨b, off + k, none⟩) hb).trans (hc k h)
    by_cases hlt : k < len
    · obtain ⟨fn, tmps, assign, body, hy, hR⟩ := hY _ (zs[k]?.getD 0) wr hJs (by rw [upto_length]; exact hlt)
      have hcx' := hcx hlt
      gi_wp2
      refine hR.mono ?_
      rintro e W3 (⟨rfl, hJ3, hk3⟩ | ⟨rfl, hJx3⟩)
      · gi_wp2
        go_roundw
        case rel => exact ⟨k + 1, by omega, by simp, by rw [upto_succ]; exact hJ3, hnx.trans hk3⟩
        case measure => simp [intOf]; omega
      · gi_wp2
        refine bodyPost_ret (results_none rfl _ _ _) rfl ?_
        exact ⟨⟨_, rfl⟩, .inr ⟨_, ⟨k + 1, by omega, (upto_succ _ _).symm⟩, hJx3⟩⟩
    · obtain rfl : k = len := by omega
      gi_wp2
      go_end0
      exact ⟨⟨_, rfl⟩, .inl ⟨_, rfl, hJs⟩⟩
/-- a slice value that holds ints, in a block below n₀; or there are none -/
def VInts (n₀ : Nat) (W : World) (sv : Value) (zs : List Int) : Prop :=
  (∃ a c, sv = .slice a 0 c ∧ zs = []) ∨ ∃ b off cap, sv = .slice (some ⟨b, off, none⟩) zs.length cap ∧ b < n₀ ∧ ∀ j, j < zs.length → W.cell? ⟨b, off + j, none⟩ = some (.int .i64 (zs[j]?.getD 0))
theorem VInts.below {n₀ : Nat} {A B : World} (h : Below n₀ A B) {sv : Value} {zs : List Int} : VInts n₀ A sv zs → VInts n₀ B sv zs
  | .inl e => .inl e
  | .inr ⟨b, off, cap, e, hb, hc⟩ => .inr ⟨b, off, cap, e, hb, fun j hj => (h.cell (p := ⟨b, off + j, none⟩) hb).trans (hc j hj)⟩
theorem VInts.of {w : World} {v : Value} {zs : List Int} (h : Ints w v zs) : VInts w.heap.size w v zs := by
  obtain ⟨a, c, rfl, _, _, HC⟩ := h.parts
  cases zs with
  | nil => exact .inl ⟨a, c, rfl, rfl⟩
  | cons x t =>
    obtain ⟨b, off, rfl, h0⟩ := HC.out 0 x rfl
    refine .inr ⟨b, off, c, rfl, World.block_lt_of_cell? _ _ h0, fun j hj => ?_⟩
    obtain ⟨y, hy⟩ := elem_at hj
    obtain ⟨b2, off2, e, hc⟩ := HC.out j y hy.out
    injection e with e
    injection e with e1 e2
    subst e1 e2
    rw [hc, hy.out]; rfl
set_option maxRecDepth 100000 in
set_option maxHeartbeats 1000000 in
theorem values1_nil_in (F : Fence) (n : Nat) (h7 : F.fn 108) (hro : F.round = none) (l Bs : Nat) (a : Option Addr) (c : Nat) (J : List Int → World → Prop) (W : World) (hBs : W.cell? ⟨Bs, 0, none⟩ = some (.slice a 0 c)) (h0 : J [] W) :
    CallsIn F n Tryz.prog 108 #[.func (.yield l) #[] #[], .pointer (some ⟨Bs, 0, none⟩)] W fun e W' => (∃ v, e = .returned v) ∧ J [] W' := by
  refine callsIn_of_wp Tryz.func108 rfl h7 ?_ hro
  simp only [Tryz.ntmps108, List.size_toArray, List.length_cons, List.length_nil, Nat.reduceAdd, Nat.reduceSub, Array.replicate_succ, Array.replicate_zero, List.push_toArray, List.append_toArray, List.nil_append, List.cons_append]
  gi_wp2
  gi_loopw [7] (fun i wr => i = .int .i64 0 ∧ J [] wr) (fun _ _ => 0)
  case atStart => exact ⟨rfl, h0⟩
  case round =>
    obtain ⟨rfl, hJs⟩ := hrel
    gi_wp2
    go_end0
    exact ⟨⟨_, rfl⟩, hJs⟩
theorem Values_c (a : Option Addr) (len cap : Nat) (w : World) :
    Calls Tryz.prog 87 #[.slice a len cap] w fun e w' => e = .returned (.func (.func 108) #[] #[.pointer (some ⟨w.heap.size, 0, none⟩)]) ∧ w' = w.alloc (.cells #[.slice a len cap] 24) := by
  go_enter Tryz.func87, Tryz.ntmps87
  go_wp2
  go_ret
  exact ⟨rfl, rfl⟩
theorem values_stops (F : Fence) (n : Nat) (h7 : F.fn 108) (hro : F.round = none) (hn : 1 ≤ n) (Bs n₀ : Nat) (sv : Value) (zs : List Int) (hreach : zs.length * 8 ≤ 140737488351232) (w : World) (hBs : Bs < w.heap.size) (hn₀ : n₀ ≤ w.heap.size)
    (hc : w.cell? ⟨Bs, 0, none⟩ = some sv) (hI : VInts n₀ w sv zs) :
    SeqStopsK F n Tryz.prog 108 #[.pointer (some ⟨Bs, 0, none⟩)] (fun x : Int => #[Value.int .i64 x]) (Below n₀) (fun ys => ys = zs) (fun pre => pre <+: zs) zs.length w := fun l J Jx W hW _ _ hY h0 => by
  have hc' := (hW.cell (p := ⟨Bs, 0, none⟩) hBs).trans hc
  rcases hI.below (hW.mono hn₀) with ⟨a, c, rfl, rfl⟩ | ⟨b, off, cap, rfl, hb, hcs⟩
  · exact (values1_nil_in F n h7 hro l Bs a c J W hc' h0).mono fun e W' ⟨he, hj⟩ => ⟨he, .inl ⟨_, rfl, hj⟩⟩
  · refine (values1_in F n h7 hro hn l Bs n₀ b off zs.length cap zs hreach hb J Jx hY W hc' hcs h0).mono ?_
    rintro e W' ⟨he, ⟨ys, rfl, hj⟩ | ⟨pre, ⟨k, hk, rfl⟩, hj⟩⟩
    · exact ⟨he, .inl ⟨_, upto_all zs, hj⟩⟩
    · exact ⟨he, .inr ⟨_, by rw [upto_take zs hk]; exact List.take_prefix _ _, hj⟩⟩
set_option maxRecDepth 100000 in
set_option maxHeartbeats 2000000 in
/-- slices.AppendSeq to nothing: a slice of its own that holds what comes -/
theorem appendSeq_in (F : Fence) (n : Nat) (h3 : F.fn 111) (h5 : F.fn 108) (hro : F.round = none) (hn : 3 ≤ n) (Bs : Nat) (sv : Value) (xs : List Int) (hlen : xs.length ≤ 1048576) (w : World) (hBs : Bs < w.heap.size) (hc : w.cell? ⟨Bs, 0, none⟩ = some sv) (hI : VInts w.heap.size w sv xs) :
    CallsIn F n Tryz.prog 111 #[.slice none 0 0, .func (.func 108) #[] #[.pointer (some ⟨Bs, 0, none⟩)]] w fun e W' => ∃ v, e = .returned v ∧ W'.ownsRow w.heap.size 3 1 v xs.length (xs.map (Value.int .i64)) ∧ Below w.heap.size w W' := by
  have h1 : 1 ≤ n := by omega
  obtain ⟨i0, hi, hz0, hz1, hz2⟩ := info_parts info_int
  refine callsIn_of_wp_marks Tryz.func111 rfl h3 ?_ hro
  simp only [Tryz.ntmps111, List.size_toArray, List.length_cons, List.length_nil, Nat.reduceAdd, Nat.reduceSub, Array.replicate_succ, Array.replicate_zero, List.push_toArray, List.append_toArray, List.nil_append, List.cons_append]
  gi_wp2
  have bO := Boxed.new w 24 (.slice none 0 0)
  have hB0 : Below w.heap.size w (w.alloc (.cells #[.slice none 0 0] 24)) := (Below.refl _ w).alloc (Nat.le_refl _) _
  refine wpIn_rangeFunc_ownG hro h1 (gf := 108) (lb := #[.pointer (some ⟨Bs, 0, none⟩)]) rfl h5 (enters_of Tryz.func108 (by kernel_rfl) rfl)
    (values_stops F (n - 1) h5 hro (by omega) Bs w.heap.size sv xs (by omega) _ (by simp; omega) (by simp) (cell_later hB0 hc) (hI.below hB0)) belowK_t (belowK_b (by simp)) (Below.refl _ _) (fun _ => rfl)
    (fun (pre : List Int) W => (∃ v, Boxed W w.heap.size 24 v ∧ W.ownsRow w.heap.size 3 1 v pre.length (pre.map (Value.int .i64)) ∧ True) ∧ Below w.heap.size w W)
    (fun _ _ _ => False)
    (OwnFrom.and (Own.from (holdsRow_own w.heap.size w.heap.size 24 3 1 (fun (pre : List Int) => pre.length) (fun (pre : List Int) => pre.map (Value.int .i64)) (fun (pre : List Int) v => True)) _) (ownFrom_below (Nat.le_refl _) (by simp)))
    (fun _ _ _ _ _ hs _ _ => hs)
    ⟨⟨_, bO, World.ownsRow_nil _ _ _ _, trivial⟩, hB0⟩
    (fun x => { tmps := #[.slice none 0 0, .func (.func 108) #[] #[.pointer (some ⟨Bs, 0, none⟩)], .pointer (some ⟨w.heap.size, 0, none⟩), undef, .slice none 0 0, .int .i64 x, .func (.func 108) #[] #[.pointer (some ⟨Bs, 0, none⟩)], .int .i64 x, undef, undef, undef, undef, undef], defers := [] }) ?assign ?body ?done ?stop
  case assign =>
    intro l x W K hK
    gi_wp2
    exact hK
  case body =>
    rintro l pre x W ⟨⟨v, hv, hrow, _⟩, hB⟩ hlt
    have hc := hv.cell
    gi_wp2_with (gi_at_builtin; refine wpListIn_append_own _ rfl _ _ 24 rfl w.heap.size 3 i0 (.int .i64 0) 1 8 Tryz.underlying24 hi hz0 hz1 hz2 rfl (by decide) _ _ _ rfl (hrow.alloc _) ⟨W.heap.size, 0, none⟩ 1 1 [.int .i64 x] rfl rfl (cell_one_new _ _ _) (by simp [Value.oneCell']) (by unfold maxLen; omega) (by omega) (by have := hB.size; simp; omega) ?_; intro v' w1 hown' hgrow _; obtain ⟨g', cap', rfl⟩ := ownsRow_succ hown'; obtain ⟨hv1, hv2, hr2, hk2, hb2⟩ := hv.appended (by decide) hrow hB.size (Nat.le_refl _) hown' hgrow; have hc1 := hv1.cell; have hf1 := hv1.frozen)
    exact ⟨hk2.from _, hb2, ⟨_, hv2, by simpa using hr2, trivial⟩, hB.trans hb2⟩
  case done =>
    rintro D ys W hD rfl ⟨⟨v, hv, hrow, _⟩, hB⟩ hK
    have hc := hv.cell
    gi_wp2
    refine ⟨by simp, .inl ⟨_, _, rfl, run_takeDeferred hK, ?_⟩⟩
    exact ⟨_, results_tmp rfl _ _ _, v, rfl, ownsRow_putObj hrow _ hK rfl, hB.trans (belowK_b (w := w) (Nat.le_refl _) W D _ _ (by simp at hD; omega) hK rfl rfl)⟩
  case stop =>
    rintro D c pre W _ _ h _
    exact h.elim
theorem AppendSeq_c (Bs : Nat) (sv : Value) (xs : List Int) (hlen : xs.length ≤ 1048576) (w : World) (hBs : Bs < w.heap.size) (hc : w.cell? ⟨Bs, 0, none⟩ = some sv) (hI : VInts w.heap.size w sv xs) :
    Calls Tryz.prog 111 #[.slice none 0 0, .func (.func 108) #[] #[.pointer (some ⟨Bs, 0, none⟩)]] w fun e W' => ∃ v, e = .returned v ∧ W'.ownsRow w.heap.size 3 1 v xs.length (xs.map (Value.int .i64)) ∧ Below w.heap.size w W' :=
  (callsIn_wide (n := 6)).1 (appendSeq_in Fence.wide 6 trivial trivial rfl (by omega) Bs sv xs hlen w hBs hc hI)
end Go.Proofs.YtlipkplomndjcaaGreat
namespace Go.Proofs.YtlipkplomndjcaaGreat
set_option linter.unusedVariables false
/-- a number put to its place, once -/
def putR : List Int → Int → List Int
  | [], n => [n]
  | x :: t, n => if x < n then x :: putR t n else if x = n then x :: t else n :: x :: t
def setS (xs : List Int) : List Int := xs.foldl putR []
def setL (xs : List Int) : List Int := Lib.compact (xs.mergeSort fun x y => decide (x ≤ y))
theorem eq_of_lt : ∀ (l1 l2 : List Int), l1.Pairwise (· < ·) → l2.Pairwise (· < ·) → (∀ x, x ∈ l1 ↔ x ∈ l2) → l1 = l2
  | [], [], _, _, _ => rfl
  | [], y :: t, _, _, h => by have := (h y).2 (by simp); simp at this
  | x :: t, [], _, _, h => by have := (h x).1 (by simp); simp at this
  | x :: t, y :: s, h1, h2, h => by
    rw [List.pairwise_cons] at h1 h2
    have hx := (h x).1 (by simp)
    have hy := (h y).2 (by simp)
    have e : x = y := by
      rcases List.mem_cons.1 hx with e | e
      · exact e
      · rcases List.mem_cons.1 hy with e2 | e2
        · exact e2.symm
        · have a := h2.1 x e
          have b := h1.1 y e2
          omega
    subst e
    rw [eq_of_lt t s h1.2 h2.2 (fun z => by
      have hz := h z
      simp only [List.mem_cons] at hz
      constructor
      · intro hm
        have := h1.1 z hm
        rcases hz.1 (.inr hm) with e | e
        · omega
        · exact e
      · intro hm
        have := h2.1 z hm
        rcases hz.2 (.inr hm) with e | e
        · omega
        · exact e)]
theorem putR_mem : ∀ (l : List Int) (n x : Int), x ∈ putR l n ↔ x ∈ l ∨ x = n
  | [], n, x => by simp [putR]
  | y :: t, n, x => by
    unfold putR
    split
    · simp only [List.mem_cons, putR_mem t n x]
      constructor
      · rintro (h | h | h)
        · exact .inl (.inl h)
        · exact .inl (.inr h)
        · exact .inr h
      · rintro ((h | h) | h)
        · exact .inl h
        · exact .inr (.inl h)
        · exact .inr (.inr h)
    · split
      · rename_i h1 h2
        subst h2
        simp only [List.mem_cons]
        constructor
        · intro h; exact .inl h
        · rintro (h | h)
          · exact h
          · exact .inl h
      · simp only [List.mem_cons]
        constructor
        · rintro (h | h)
          · exact .inr h
          · exact .inl h
        · rintro (h | h)
          · exact .inr h
          · exact .inl h
theorem putR_lt : ∀ (l : List Int) (n : Int), l.Pairwise (· < ·) → (putR l n).Pairwise (· < ·)
  | [], n, _ => by simp [putR]
  | y :: t, n, h => by
    rw [List.pairwise_cons] at h
    unfold putR
    split
    · rename_i hlt
      rw [List.pairwise_cons]
      refine ⟨fun z hz => ?_, putR_lt t n h.2⟩
      rcases (putR_mem t n z).1 hz with e | e
      · exact h.1 z e
      · omega
    · split
      · rw [List.pairwise_cons]; exact h
      · rename_i h1 h2
        rw [List.pairwise_cons, List.pairwise_cons]
        refine ⟨fun z hz => ?_, h⟩
        rcases List.mem_cons.1 hz with e | e
        · omega
        · have := h.1 z e; omega
theorem setS_snoc (xs : List Int) (x : Int) : setS (xs ++ [x]) = putR (setS xs) x := by unfold setS; rw [List.foldl_append]; rfl
theorem foldl_put (xs : List Int) : ∀ l : List Int, l.Pairwise (· < ·) → (xs.foldl putR l).Pairwise (· < ·) ∧ ∀ x, x ∈ xs.foldl putR l ↔ x ∈ l ∨ x ∈ xs := by
  induction xs with
  | nil => intro l h; exact ⟨h, fun x => by simp⟩
  | cons y t ih =>
    intro l h
    obtain ⟨h1, h2⟩ := ih (putR l y) (putR_lt l y h)
    refine ⟨h1, fun x => ?_⟩
    rw [List.foldl_cons, h2, putR_mem, List.mem_cons, or_assoc]
theorem setS_lt (xs : List Int) : (setS xs).Pairwise (· < ·) := (foldl_put xs [] (by simp)).1
theorem setS_mem (xs : List Int) (x : Int) : x ∈ setS xs ↔ x ∈ xs := by
  have := (foldl_put xs [] (by simp)).2 x
  unfold setS
  rw [this]; simp
theorem compact_sorted (d : Array Int) (hd : ∀ i j, i ≤ j → j < d.size → d[i]! ≤ d[j]!) : ∀ m, m ≤ d.size →
    (Lib.compactUpTo d m).Pairwise (· < ·) ∧ (∀ x, x ∈ Lib.compactUpTo d m ↔ ∃ j, j < m ∧ d[j]! = x)
  | 0, _ => ⟨by simp [Lib.compactUpTo], fun x => by simp [Lib.compactUpTo]⟩
  | m + 1, hm => by
    obtain ⟨h1, h2⟩ := compact_sorted d hd m (by omega)
    rw [Lib.compactUpTo_succ]
    have hle : ∀ x ∈ Lib.compactUpTo d m, x ≤ d[m]! := fun x hx => by
      obtain ⟨j, hj, rfl⟩ := (h2 x).1 hx
      exact hd j m (by omega) (by omega)
    have hmem : (∃ j, j < m + 1 ∧ d[j]! = d[m]!) := ⟨m, by omega, rfl⟩
    cases hk : Lib.keeps d m
    · have hne : ¬ (m = 0 ∨ d[m]! ≠ d[m - 1]!) := by simpa [Lib.keeps] using hk
      have h0 : m ≠ 0 := fun e => hne (.inl e)
      have he : d[m]! = d[m - 1]! := by
        by_cases e : d[m]! = d[m - 1]!
        · exact e
        · exact absurd (.inr e) hne
      simp only [Bool.false_eq_true, if_false, List.append_nil]
      refine ⟨h1, fun x => ?_⟩
      rw [h2]
      constructor
      · rintro ⟨j, hj, e⟩; exact ⟨j, by omega, e⟩
      · rintro ⟨j, hj, e⟩
        by_cases hjm : j = m
        · exact ⟨m - 1, by omega, by rw [← he, ← e, hjm]⟩
        · exact ⟨j, by omega, e⟩
    · have hpos : m = 0 ∨ d[m]! ≠ d[m - 1]! := by simpa [Lib.keeps] using hk
      simp only [if_true]
      refine ⟨?_, fun x => ?_⟩
      · rw [List.pairwise_append]
        refine ⟨h1, by simp, fun x hx y hy => ?_⟩
        simp at hy
        subst hy
        rcases hpos with e | e
        · subst e; simp [Lib.compactUpTo] at hx
        · obtain ⟨j, hj, rfl⟩ := (h2 x).1 hx
          have a := hd j (m - 1) (by omega) (by omega)
          have b := hd (m - 1) m (by omega) (by omega)
          have c : d[m - 1]! ≠ d[m]! := fun h => e h.symm
          omega
      · rw [List.mem_append, h2]
        simp only [List.mem_singleton]
        constructor
        · rintro (⟨j, hj, e⟩ | e)
          · exact ⟨j, by omega, e⟩
          · exact ⟨m, by omega, e.symm⟩
        · rintro ⟨j, hj, e⟩
          by_cases hjm : j = m
          · right; rw [← e, hjm]
          · exact .inl ⟨j, by omega, e⟩
theorem setL_eq (xs : List Int) : setL xs = setS xs := by
  have hp := List.mergeSort_perm xs (fun x y => decide (x ≤ y))
  have hs : (xs.mergeSort fun x y => decide (x ≤ y)).Pairwise (fun a b => decide (a ≤ b) = true) := List.pairwise_mergeSort (fun a b c h1 h2 => by simp at *; omega) (fun a b => by simp; omega) xs
  generalize hz : (xs.mergeSort fun x y => decide (x ≤ y)) = zs at hp hs
  have hd : ∀ i j, i ≤ j → j < zs.toArray.size → zs.toArray[i]! ≤ zs.toArray[j]! := by
    intro i j hij hj
    simp at hj
    rcases Nat.lt_or_ge i j with h | h
    · have := List.pairwise_iff_getElem.1 hs i j (by omega) hj h
      simp at this
      simpa [getElem!_pos, hj, show i < zs.length by omega] using this
    · obtain rfl : i = j := by omega
      exact Int.le_refl _
  obtain ⟨h1, h2⟩ := compact_sorted zs.toArray hd zs.length (by simp)
  unfold setL
  rw [hz]
  refine eq_of_lt _ _ h1 (setS_lt xs) (fun x => ?_)
  have h3 : x ∈ Lib.compact zs ↔ x ∈ zs := by
    unfold Lib.compact
    rw [h2]
    constructor
    · rintro ⟨j, hj, e⟩
      have : zs.toArray[j]! = zs[j] := by simp [getElem!_pos, hj]
      rw [← e, this]; exact List.getElem_mem hj
    · intro hx
      obtain ⟨j, hj, e⟩ := List.getElem_of_mem hx
      exact ⟨j, hj, by simp [getElem!_pos, hj, e]⟩
  rw [h3, setS_mem]
  exact hp.mem_iff
theorem setS_len_le : ∀ (xs l : List Int), (xs.foldl putR l).length ≤ l.length + xs.length
  | [], l => by simp
  | x :: t, l => by
    have h1 := setS_len_le t (putR l x)
    have h2 : ∀ (l : List Int) (n : Int), (putR l n).length ≤ l.length + 1 := by
      intro l n
      induction l with
      | nil => simp [putR]
      | cons y s ih => unfold putR; split <;> (try split) <;> simp <;> omega
    have h3 := h2 l x
    rw [List.foldl_cons, List.length_cons]
    omega
/-- where a number is put -/
theorem putR_at : ∀ (l : List Int) (n : Int) (k : Nat), k ≤ l.length → (∀ j x, j < k → l[j]? = some x → x < n) → (∀ x, l[k]? = some x → ¬ x < n) → putR l n = if l[k]? = some n then l else l.take k ++ n :: l.drop k
  | [], n, k, hk, _, _ => by simp at hk; subst hk; simp [putR]
  | y :: t, n, 0, _, _, h0 => by
    have := h0 y rfl
    unfold putR
    rw [if_neg this]
    by_cases e : y = n
    · subst e; simp
    · simp [e]
  | y :: t, n, k + 1, hk, hb, h0 => by
    have hy := hb 0 y (by omega) rfl
    have ih := putR_at t n k (by simpa using hk) (fun j x hj hx => hb (j + 1) x (by omega) (by simpa using hx)) (fun x hx => h0 x (by simpa using hx))
    unfold putR
    rw [if_pos hy, ih]
    simp only [List.getElem?_cons_succ, List.take_succ_cons, List.drop_succ_cons, List.cons_append]
    split <;> rfl
end Go.Proofs.YtlipkplomndjcaaGreat
namespace Go.Proofs.YtlipkplomndjcaaGreat
open Go.RowKit
set_option linter.unusedVariables false
set_option maxRecDepth 100000
theorem Collect_c (Bs : Nat) (sv : Value) (xs : List Int) (hlen : xs.length ≤ 1048576) (w : World) (hBs : Bs < w.heap.size) (hc : w.cell? ⟨Bs, 0, none⟩ = some sv) (hI : VInts w.heap.size w sv xs) :
    Calls Tryz.prog 106 #[.func (.func 108) #[] #[.pointer (some ⟨Bs, 0, none⟩)]] w fun e W' => ∃ v, e = .returned v ∧ W'.ownsRow w.heap.size 3 1 v xs.length (xs.map (Value.int .i64)) ∧ Below w.heap.size w W' := by
  have H := Lib.hid (AppendSeq_c Bs sv xs hlen w hBs hc hI)
  clear hc hI
  go_enter Tryz.func106, Tryz.ntmps106
  go_wp2_with fail
  refine H.out.mono ?_
  rintro e w1 ⟨v, rfl, ho, hb⟩
  go_wp2
  go_ret
  exact ⟨v, rfl, ho, hb⟩
def srt (xs : List Int) : List Int := xs.mergeSort fun x y => decide (x ≤ y)
theorem srt_len (xs : List Int) : (srt xs).length = xs.length := List.length_mergeSort xs
theorem Sort_c (v : Value) (xs : List Int) (lo : Nat) (w : World) (ho : w.ownsRow lo 3 1 v xs.length (xs.map (Value.int .i64))) (hn : xs.length ≤ 1048576) :
    Calls Tryz.prog 107 #[v] w fun e w' => e = .returned (.tuple #[]) ∧ w'.ownsRow lo 3 1 v xs.length ((srt xs).map (Value.int .i64)) ∧ w.grownBy w' v.ownBlock := by
  by_cases hz : xs.length = 0
  · obtain ⟨a, c, rfl, _⟩ := (Sl.of_own ho).slice
    have hx : xs = [] := List.eq_nil_of_length_eq_zero hz
    subst hx
    refine (Tryz.slices_Sort_int_none a c w).mono ?_
    rintro e w' ⟨rfl, rfl⟩
    exact ⟨rfl, by simpa [srt] using ho, World.grownBy.refl _ _⟩
  · have hv : v ≠ .slice none 0 0 := by
      intro e
      obtain ⟨a, c, e2, _⟩ := (Sl.of_own ho).slice
      rw [e] at e2
      injection e2 with _ e3
      omega
    obtain ⟨g, cap, rfl, hlo, hlt, h1, h2, _, hH⟩ := Lib.holds_of_ownsRow ho hv
    refine (Tryz.slices_Sort_int g 0 cap xs w hH hlt (by omega)).mono ?_
    rintro e w' ⟨rfl, n, os, rfl⟩
    rcases ho.2 with ⟨h0, _⟩ | ⟨g', cap', cur, hv2, hbase, hb, h1', h2', h3, h4⟩
    · cases h0
    · cases hv2
      exact ⟨rfl, ownsRow_sortedI (srt_len xs) hlo hb h1 h2 h3, grownBy_sortedI _⟩
theorem Sorted_c (Bs : Nat) (sv : Value) (xs : List Int) (hlen : xs.length ≤ 1048576) (w : World) (hBs : Bs < w.heap.size) (hc : w.cell? ⟨Bs, 0, none⟩ = some sv) (hI : VInts w.heap.size w sv xs) :
    Calls Tryz.prog 86 #[.func (.func 108) #[] #[.pointer (some ⟨Bs, 0, none⟩)]] w fun e W' => ∃ v, e = .returned v ∧ W'.ownsRow w.heap.size 3 1 v xs.length ((srt xs).map (Value.int .i64)) ∧ Below w.heap.size w W' := by
  have H := Lib.hid (Collect_c Bs sv xs hlen w hBs hc hI)
  have HS := Lib.hid (fun v w h => Sort_c v xs w.heap.size w h hlen)
  clear hc hI
  go_enter Tryz.func86, Tryz.ntmps86
  go_wp2_with fail
  refine H.out.mono ?_
  rintro e w1 ⟨v, rfl, ho, hb⟩
  have ho0 := ho
  obtain ⟨a, c, rfl, _⟩ := (Sl.of_own ho).slice
  go_wp2_with fail
  refine (Sort_c _ xs w.heap.size w1 ho hlen).mono ?_
  rintro e w2 ⟨rfl, ho2, hg2⟩
  have hb2 : Below w.heap.size w w2 := hb.grown hg2 hb.size (fun g hg => (ho0.lt g hg).1)
  clear ho ho0 hg2
  go_wp2
  go_ret
  exact ⟨_, rfl, ho2, hb2⟩
theorem Compact_c (v : Value) (xs : List Int) (lo : Nat) (w : World) (ho : w.ownsRow lo 3 1 v xs.length (xs.map (Value.int .i64))) (hn : xs.length ≤ 1048576) :
    Calls Tryz.prog 100 #[v] w fun e w' => ∃ u, e = .returned u ∧ w'.ownsRow lo 3 1 u (Lib.compact xs).length ((Lib.compact xs).map (Value.int .i64)) ∧ w.grownBy w' v.ownBlock := by
  by_cases hz : xs.length = 0
  · obtain ⟨a, c, rfl, _⟩ := (Sl.of_own ho).slice
    have hx : xs = [] := List.eq_nil_of_length_eq_zero hz
    subst hx
    refine (Tryz.slices_Compact_int_empty a c w).mono ?_
    rintro e w' ⟨rfl, rfl⟩
    exact ⟨_, rfl, by simpa [Lib.compact, Lib.compactUpTo] using ho, World.grownBy.refl _ _⟩
  · have hv : v ≠ .slice none 0 0 := by
      intro e
      obtain ⟨a, c, e2, _⟩ := (Sl.of_own ho).slice
      rw [e] at e2
      injection e2 with _ e3
      omega
    obtain ⟨g, cap, rfl, hlo, hlt, h1, h2, _, hH⟩ := Lib.holds_of_ownsRow ho hv
    refine (Tryz.slices_Compact_int g 0 cap xs w hH (by omega) h1).mono ?_
    rintro e w' ⟨rfl, q, rfl⟩
    have hle := Lib.compact_length_le xs
    have h3 := Lib.ownsRow_putRow (q := q) (k := (Lib.compact xs).length) (ys := Lib.compact xs ++ List.replicate (xs.length - (Lib.compact xs).length) 0) ho (by simp; omega) hle
    rw [List.take_left] at h3
    refine ⟨_, rfl, h3, ?_⟩
    have h4 := grownBy_sortedI (w := w) (g := g) (n := q) (os := #[]) (Lib.compact xs ++ List.replicate (xs.length - (Lib.compact xs).length) 0).toArray
    rw [Sort.grow_empty] at h4
    exact h4
theorem setOf_c (v : Value) (xs : List Int) (w : World) (hv : Ints w v xs) (hn : xs.length ≤ 1048576) :
    Calls Tryz.prog 58 #[v] w fun e w' => ∃ u, e = .returned u ∧ w'.ownsRow w.heap.size 3 1 u (setS xs).length ((setS xs).map (Value.int .i64)) ∧ Below w.heap.size w w' := by
  have hV := VInts.of hv
  obtain ⟨a, c, rfl, _, _, _⟩ := hv.parts
  have hb0 := below_one (w := w) (.cells #[.slice a xs.length c] 24)
  have hV1 := Lib.hid ((VInts.of (hv.below hb0)))
  have q0 : (w.alloc (.cells #[.slice a xs.length c] 24)).cell? ⟨w.heap.size, 0, none⟩ = some (.slice a xs.length c) := by rw [World.cell?_alloc_at _ _ _ _ rfl]; rfl
  have HS := Lib.hid (Sorted_c w.heap.size (.slice a xs.length c) xs hn (w.alloc (.cells #[.slice a xs.length c] 24)) (by simp) q0 hV1.out)
  clear hV hv q0 hV1
  go_enter Tryz.func58, Tryz.ntmps58
  go_wp2_with fail
  refine (Values_c a xs.length c w).mono ?_
  rintro e w' ⟨rfl, rfl⟩
  go_wp2_with fail
  refine HS.out.mono ?_
  rintro e w1 ⟨u, rfl, ho, hb⟩
  have ho1 : w1.ownsRow w.heap.size 3 1 u (srt xs).length ((srt xs).map (Value.int .i64)) := own_lo (ownsRow_cast ho (srt_len xs).symm rfl) (by simp)
  have hb1 := Below.chain hb0 hb
  have hnl : (srt xs).length ≤ 1048576 := by rw [srt_len]; exact hn
  have HE : Hid (Lib.compact (srt xs) = setS xs) := setL_eq xs
  have HO := Lib.hid ho1
  clear ho hb hb0 ho1
  go_wp2_with fail
  refine (Compact_c u (srt xs) w.heap.size w1 HO.out hnl).mono ?_
  rintro e w2 ⟨u2, rfl, ho2, hg2⟩
  have hb2 : Below w.heap.size w w2 := hb1.grown hg2 hb1.size (fun g hg => (HO.out.lt g hg).1)
  rw [HE.out] at ho2
  clear hg2
  go_wp2
  go_ret
  exact ⟨_, rfl, ho2, hb2⟩
end Go.Proofs.YtlipkplomndjcaaGreat
namespace Go.Proofs.YtlipkplomndjcaaGreat
open Go.RowKit
set_option linter.unusedVariables false
section
variable {P : Program} {w : World}
theorem step_append_at {ops : Array Oper} {o : Oper} {a : Act} {K : Act → World → Prop} {Q : Exit → Act → World → Prop} {E : Prop} (hgd : o.guard = none) (s x : Operand) (t : TypeId)
    (ho : o.op = .call { callee := .builtin .append, args := #[s, x], argTypes := #[t, t] })
    (base : Nat) (e : TypeId) (i : TypeInfo) (z : Value) (size bytes : Nat) (ht : P.underlying t = some (.slice e)) (hi : P.info? e = some i) (hz : i.zero = some z)
    (hsize : i.size = size) (hby : i.bytes = bytes) (hzs : z.cells.size = size) (hsz : 0 < size)
    (v : Value) (n : Nat) (xs : List Value) (hs : a.eval s = v) (hown : w.ownsRow base e size v n xs)
    (ad : Addr) (m c : Nat) (news : List Value) (hx : a.eval x = .slice (some ad) m c) (hl : news.length = m * size) (hnews : ∀ j u, news[j]? = some u → w.cell? (ad.add j) = some u) (h1 : ∀ u ∈ news, u.oneCell' = true)
    (h63 : n + m ≤ maxLen) (hbytes : (n + m) * bytes ≤ 140737488355328) (hbase : base ≤ w.heap.size)
    (h : ∀ v' w', w'.ownsRow base e size v' (n + m) (xs ++ news) → w.grownBy w' v.ownBlock → (v'.ownBlock = v.ownBlock ∨ v'.ownBlock = some w.heap.size) → K (a.put o.dst v') w') :
    if Region.wanted o (yielded ops a.tmps) = true then Oper.wp P o a w K Q else E := by
  have hw : Region.wanted o (yielded ops a.tmps) = true := by simp [Region.wanted, hgd]
  rw [if_pos hw]
  obtain ⟨v', w', hr, h2, h3, _, h5⟩ := run_append_own_at (P := P) (w := w) base t o.type e i z size bytes ht hi hz hsize hby hzs hsz v n xs hown ad m c news hl hnews h1 h63 hbytes hbase
  unfold Oper.wp execOp
  simp only [ho, resolve, invoke, builtin, Sem.run_bind, Sem.run_pure, Result.andThen_ok, List.map_toArray, List.map_cons, List.map_nil, hs, hx, hr]
  exact h v' w' h2 h3 h5
end
theorem own_take {w : World} {lo g cap n : Nat} {e : TypeId} {l : List Int} (h : w.ownsRow lo e 1 (.slice (some ⟨g, 0, none⟩) n cap) n (ints l)) (k : Nat) : ∀ j u, (ints (l.take k))[j]? = some u → w.cell? ((⟨g, 0, none⟩ : Addr).add j) = some u := by
  intro j u hu
  rw [Addr.add_lit, Nat.zero_add]
  have hlen : (ints l).length = n * 1 := h.1
  have hu2 : (ints l)[j]? = some u := by
    simp only [ints, List.map_take, List.getElem?_take] at hu ⊢
    split at hu
    · exact hu
    · cases hu
  have hj := (List.getElem?_eq_some_iff.1 hu2).1
  rw [h.cellAt j (by omega)]; exact hu2
theorem own_drop {w : World} {lo g cap n : Nat} {e : TypeId} {l : List Int} (h : w.ownsRow lo e 1 (.slice (some ⟨g, 0, none⟩) n cap) n (ints l)) (k : Nat) : ∀ j u, (ints (l.drop k))[j]? = some u → w.cell? ((⟨g, k, none⟩ : Addr).add j) = some u := by
  intro j u hu
  rw [Addr.add_lit]
  have hlen : (ints l).length = n * 1 := h.1
  have hu2 : (ints l)[k + j]? = some u := by simpa [ints, List.map_drop] using hu
  have hj := (List.getElem?_eq_some_iff.1 hu2).1
  rw [h.cellAt (k + j) (by omega)]; exact hu2
end Go.Proofs.YtlipkplomndjcaaGreat
