/- Texts of this claim, gathered: Cft3, Seq, Set, SetOf, App, Put, Least, Short. -/
import Derived.Test.YtlipkplomndjcaaK5
import Derived.RangeFuncBox
import Derived.RangeFuncLeaves
import Derived.Shelf.Abstract
import Derived.WalkKit
import Derived.OwnWalkIn
import Derived.TacticsInMore
import Derived.LoopNIn
import Derived.LoopIn
import Derived.Maps.AppendAt
import Derived.Test.YtlipkplomndjcaaShelf
import Derived.Lib.SlicesCompact
import Derived.Sort.OwnSortedInts
import Derived.Lib.OwnBridge
import Derived.Deep.AppendLies
import Derived.Deep.RegionHeld3
import Derived.OrdersHeld
import Derived.Deep.DrawnRows
namespace Go.Proofs.Ytlipkplomndjcaa
open Go.RowKit
set_option linter.unusedVariables false
theorem bit_low {m s j : Nat} (hs : s < 2 ^ m) (hj : j < m) : bitB (2 ^ m + s) j = bitB s j := by
  unfold bitB
  have e : 2 ^ m = 2 ^ j * (2 * 2 ^ (m - j - 1)) := by
    rw [← Nat.mul_assoc, ← Nat.pow_succ, ← Nat.pow_add]; congr 1; omega
  rw [e, Nat.mul_add_div (Nat.two_pow_pos j)]
  congr 1
  omega
theorem bit_top {m s : Nat} (hs : s < 2 ^ m) : bitB s m = false ∧ bitB (2 ^ m + s) m = true := by
  unfold bitB
  rw [Nat.div_eq_of_lt hs]
  refine ⟨rfl, ?_⟩
  rw [show 2 ^ m + s = s + 2 ^ m * 1 by omega, Nat.add_mul_div_left _ _ (Nat.two_pow_pos m), Nat.div_eq_of_lt hs]
  rfl
theorem prtL_cons (m s : Nat) : prtL (m + 1) s (m + 1) = (if bitB s m then [(0 : Int)] else []) ++ (prtL m s m).map (· + 1) := by
  unfold prtL
  rw [List.range_succ_eq_map, List.filter_cons]
  have e : ∀ j, m + 1 - 1 - (j + 1) = m - 1 - j := fun j => by omega
  have hf : ((List.range m).map Nat.succ).filter (fun j => bitB s (m + 1 - 1 - j)) = ((List.range m).filter fun j => bitB s (m - 1 - j)).map Nat.succ := by
    rw [List.filter_map]
    congr 1
    apply List.filter_congr
    intro j _
    show bitB s (m + 1 - 1 - (j + 1)) = _
    rw [e]
  rw [hf]
  cases h : bitB s (m + 1 - 1 - 0) <;> simp at h <;> simp [h, List.map_map]
theorem prtL_same {m s s' : Nat} (h : ∀ j, j < m → bitB s j = bitB s' j) : prtL m s m = prtL m s' m := by
  unfold prtL
  congr 1
  apply List.filter_congr
  intro j hj
  rw [List.mem_range] at hj
  exact h _ (by omega)
theorem pick_succ (x : Int) (t : List Int) (m s i : Nat) : pick (x :: t) ((prtL m s i).map (· + 1)) = pick t (prtL m s i) := by
  unfold pick
  rw [List.map_map]
  apply List.map_congr_left
  intro y hy
  obtain ⟨p, rfl, _⟩ := prtL_mem hy
  show (x :: t).getD ((p : Int) + 1).toNat 0 = _
  rw [show ((p : Int) + 1).toNat = p + 1 by omega]
  simp
theorem digsL_low {x : Int} {t : List Int} {s : Nat} (hs : s < 2 ^ t.length) : digsL (x :: t) s = digsL t s := by
  unfold digsL
  rw [List.length_cons, prtL_cons, (bit_top hs).1]
  exact pick_succ x t _ _ _
theorem digsL_high {x : Int} {t : List Int} {s : Nat} (hs : s < 2 ^ t.length) : digsL (x :: t) (2 ^ t.length + s) = x :: digsL t s := by
  unfold digsL
  rw [List.length_cons, prtL_cons, (bit_top hs).2, prtL_same (fun j hj => bit_low hs hj)]
  have h1 := pick_succ x t t.length s t.length
  have h2 : pick (x :: t) ([(0 : Int)] ++ (prtL t.length s t.length).map (· + 1)) = x :: pick (x :: t) ((prtL t.length s t.length).map (· + 1)) := by
    unfold pick; rw [List.map_append]; rfl
  rw [if_pos rfl, h2, h1]
theorem cnt_parts (p : List Int → Bool) : ∀ (l part : List Int), ((part :: loopE l part).filter p).length = ((List.range (2 ^ l.length)).filter fun s => p (part ++ digsL l s)).length
  | [], part => by
    simp [loopE, digsL, pick, prtL, List.filter_cons]
    cases p part <;> rfl
  | x :: t, part => by
    have h1 := cnt_parts p t (part ++ [x])
    have h2 := cnt_parts p t part
    have e : List.range (2 ^ (x :: t).length) = List.range (2 ^ t.length) ++ (List.range (2 ^ t.length)).map (2 ^ t.length + ·) := by
      rw [List.length_cons, Nat.pow_succ, Nat.mul_two, List.range_add]
    rw [e, List.filter_append, List.length_append, List.filter_map, List.length_map]
    have f1 : (List.range (2 ^ t.length)).filter (fun s => p (part ++ digsL (x :: t) s)) = (List.range (2 ^ t.length)).filter (fun s => p (part ++ digsL t s)) := by
      apply List.filter_congr
      intro s hs
      rw [digsL_low (List.mem_range.1 hs)]
    have f2 : (List.range (2 ^ t.length)).filter ((fun s => p (part ++ digsL (x :: t) s)) ∘ (2 ^ t.length + ·)) = (List.range (2 ^ t.length)).filter (fun s => p ((part ++ [x]) ++ digsL t s)) := by
      apply List.filter_congr
      intro s hs
      show p (part ++ digsL (x :: t) (2 ^ t.length + s)) = _
      rw [digsL_high (List.mem_range.1 hs)]; simp
    rw [f1, f2, ← h1, ← h2]
    simp only [loopE, List.filter_cons, List.filter_append]
    split <;> split <;> simp <;> omega
theorem cfA_bits (k : Int) : cfA k = ((List.range 1024).filter fun s => cfP k (digsL tenI s)).length := by
  exact cnt_parts (cfP k) tenI []
end Go.Proofs.Ytlipkplomndjcaa
namespace Go.Proofs.Ytlipkplomndjcaa
open Go.RowKit Go.Shelf
set_option linter.unusedVariables false
attribute [local go_sem] Oper.semAt_some
def upto {α : Type} (f : Nat → α) (k : Nat) : List α := (List.range k).map f
theorem upto_succ {α : Type} (f : Nat → α) (k : Nat) : upto f (k + 1) = upto f k ++ [f k] := by simp [upto, List.range_succ]
theorem upto_length {α : Type} (f : Nat → α) (k : Nat) : (upto f k).length = k := by simp [upto]
theorem upto_all (zs : List Int) : upto (fun j => zs[j]?.getD 0) zs.length = zs := by
  apply List.ext_getElem
  · simp [upto]
  · intro i h1 h2
    simp [upto, h2]
theorem upto_take (zs : List Int) {k : Nat} (hk : k ≤ zs.length) : upto (fun j => zs[j]?.getD 0) k = zs.take k := by
  apply List.ext_getElem
  · simp [upto, hk]
  · intro i h1 h2
    have : i < zs.length := by simp [upto] at h1; omega
    simp [upto, this]
set_option maxRecDepth 100000 in
set_option maxHeartbeats 2000000 in
/-- the closure of slices.Values, for every loop body that keeps what lay below n₀ -/
theorem values1_in (F : Fence) (n : Nat) (h7 : F.fn 182) (hro : F.round = none) (hn : 1 ≤ n) (l Bs n₀ b off len cap : Nat) (zs : List Int) (hreach : len * 8 ≤ 140737488351232) (hb : b < n₀) (J Jx : List Int → World → Prop)
    (hY : ∀ pre x W, J pre W → pre.length < len → YieldAt F (n - 1) Try.prog l #[.int .i64 x] W fun e W' =>
      (e = .returned (.bool true) ∧ J (pre ++ [x]) W' ∧ Below n₀ W W') ∨ (e = .returned (.bool false) ∧ Jx (pre ++ [x]) W'))
    (W : World) (hBs : W.cell? ⟨Bs, 0, none⟩ = some (.slice (some ⟨b, off, none⟩) len cap)) (hc : ∀ j, j < len → W.cell? ⟨b, off + j, none⟩ = some (.int .i64 (zs[j]?.getD 0))) (h0 : J [] W) :
    CallsIn F n Try.prog 182 #[.func (.yield l) #[] #[], .pointer (some ⟨Bs, 0, none⟩)] W fun e W' => (∃ v, e = .returned v) ∧
      ((∃ ys, ys = upto (fun j => zs[j]?.getD 0) len ∧ J ys W') ∨ (∃ pre, (∃ k, k ≤ len ∧ pre = upto (fun j => zs[j]?.getD 0) k) ∧ Jx pre W')) := by
  refine callsIn_of_wp Try.func182 rfl h7 ?_ hro
  simp only [Try.ntmps182, List.size_toArray, List.length_cons, List.length_nil, Nat.reduceAdd, Nat.reduceSub, Array.replicate_succ, Array.replicate_zero, List.push_toArray, List.append_toArray, List.nil_append, List.cons_append]
  gi_wp2
  gi_loopw [7] (fun i wr => ∃ k : Nat, k ≤ len ∧ i = .int .i64 k ∧ J (upto (fun j => zs[j]?.getD 0) k) wr ∧ Below n₀ W wr)
    (fun i _ => len - (intOf i).toNat)
  case atStart => exact ⟨0, Nat.zero_le _, rfl, h0, Below.refl _ _⟩
  case round =>
    obtain ⟨k, hk, rfl, hJs, hnx⟩ := hrel
    have hcx : k < len → wr.cell? ⟨b, off + k, none⟩ = some (.int .i64 (zs[k]?.getD 0)) := fun h => (hnx.cell (p := ⟨b, off + k, none⟩) hb).trans (hc k h)
    by_cases hlt : k < len
    · obtain ⟨fn, tmps, assign, body, hy, hR⟩ := hY _ (zs[k]?.getD 0) wr hJs (by rw [upto_length]; exact hlt)
      have hcx' := hcx hlt
      gi_wp2
      refine hR.mono ?_
      rintro e W3 (⟨rfl, hJ3, hk3⟩ | ⟨rfl, hJx3⟩)
      · gi_wp2
        go_roundw
        case rel => exact ⟨k + 1, by omega, by simp, by rw [upto_succ]; exact hJ3, hnx.trans hk3⟩
        case measure => simp [intOf]; omega
      · gi_wp2
        refine bodyPost_ret (results_none rfl _ _ _) rfl ?_
        exact ⟨⟨_, rfl⟩, .inr ⟨_, ⟨k + 1, by omega, (upto_succ _ _).symm⟩, hJx3⟩⟩
    · obtain rfl : k = len := by omega
      gi_wp2
      go_end0
      exact ⟨⟨_, rfl⟩, .inl ⟨_, rfl, hJs⟩⟩
/-- a slice value that holds ints, in a block below n₀; or there are none -/
def VInts (n₀ : Nat) (W : World) (sv : Value) (zs : List Int) : Prop :=
  (∃ a c, sv = .slice a 0 c ∧ zs = []) ∨ ∃ b off cap, sv = .slice (some ⟨b, off, none⟩) zs.length cap ∧ b < n₀ ∧ ∀ j, j < zs.length → W.cell? ⟨b, off + j, none⟩ = some (.int .i64 (zs[j]?.getD 0))
theorem VInts.below {n₀ : Nat} {A B : World} (h : Below n₀ A B) {sv : Value} {zs : List Int} : VInts n₀ A sv zs → VInts n₀ B sv zs
  | .inl e => .inl e
  | .inr ⟨b, off, cap, e, hb, hc⟩ => .inr ⟨b, off, cap, e, hb, fun j hj => (h.cell (p := ⟨b, off + j, none⟩) hb).trans (hc j hj)⟩
theorem VInts.of {w : World} {v : Value} {zs : List Int} (h : Ints w v zs) : VInts w.heap.size w v zs := by
  obtain ⟨a, c, rfl, _, _, HC⟩ := h.parts
  cases zs with
  | nil => exact .inl ⟨a, c, rfl, rfl⟩
  | cons x t =>
    obtain ⟨b, off, rfl, h0⟩ := HC.out 0 x rfl
    refine .inr ⟨b, off, c, rfl, World.block_lt_of_cell? _ _ h0, fun j hj => ?_⟩
    obtain ⟨y, hy⟩ := elem_at hj
    obtain ⟨b2, off2, e, hc⟩ := HC.out j y hy.out
    injection e with e
    injection e with e1 e2
    subst e1 e2
    rw [hc, hy.out]; rfl
set_option maxRecDepth 100000 in
set_option maxHeartbeats 1000000 in
theorem values1_nil_in (F : Fence) (n : Nat) (h7 : F.fn 182) (hro : F.round = none) (l Bs : Nat) (a : Option Addr) (c : Nat) (J : List Int → World → Prop) (W : World) (hBs : W.cell? ⟨Bs, 0, none⟩ = some (.slice a 0 c)) (h0 : J [] W) :
    CallsIn F n Try.prog 182 #[.func (.yield l) #[] #[], .pointer (some ⟨Bs, 0, none⟩)] W fun e W' => (∃ v, e = .returned v) ∧ J [] W' := by
  refine callsIn_of_wp Try.func182 rfl h7 ?_ hro
  simp only [Try.ntmps182, List.size_toArray, List.length_cons, List.length_nil, Nat.reduceAdd, Nat.reduceSub, Array.replicate_succ, Array.replicate_zero, List.push_toArray, List.append_toArray, List.nil_append, List.cons_append]
  gi_wp2
  gi_loopw [7] (fun i wr => i = .int .i64 0 ∧ J [] wr) (fun _ _ => 0)
  case atStart => exact ⟨rfl, h0⟩
  case round =>
    obtain ⟨rfl, hJs⟩ := hrel
    gi_wp2
    go_end0
    exact ⟨⟨_, rfl⟩, hJs⟩
theorem Values_c (a : Option Addr) (len cap : Nat) (w : World) :
    Calls Try.prog 173 #[.slice a len cap] w fun e w' => e = .returned (.func (.func 182) #[] #[.pointer (some ⟨w.heap.size, 0, none⟩)]) ∧ w' = w.alloc (.cells #[.slice a len cap] 24) := by
  go_enter Try.func173, Try.ntmps173
  go_wp2
  go_ret
  exact ⟨rfl, rfl⟩
theorem values_stops (F : Fence) (n : Nat) (h7 : F.fn 182) (hro : F.round = none) (hn : 1 ≤ n) (Bs n₀ : Nat) (sv : Value) (zs : List Int) (hreach : zs.length * 8 ≤ 140737488351232) (w : World) (hBs : Bs < w.heap.size) (hn₀ : n₀ ≤ w.heap.size)
    (hc : w.cell? ⟨Bs, 0, none⟩ = some sv) (hI : VInts n₀ w sv zs) :
    SeqStopsK F n Try.prog 182 #[.pointer (some ⟨Bs, 0, none⟩)] (fun x : Int => #[Value.int .i64 x]) (Below n₀) (fun ys => ys = zs) (fun pre => pre <+: zs) zs.length w := fun l J Jx W hW _ _ hY h0 => by
  have hc' := (hW.cell (p := ⟨Bs, 0, none⟩) hBs).trans hc
  rcases hI.below (hW.mono hn₀) with ⟨a, c, rfl, rfl⟩ | ⟨b, off, cap, rfl, hb, hcs⟩
  · exact (values1_nil_in F n h7 hro l Bs a c J W hc' h0).mono fun e W' ⟨he, hj⟩ => ⟨he, .inl ⟨_, rfl, hj⟩⟩
  · refine (values1_in F n h7 hro hn l Bs n₀ b off zs.length cap zs hreach hb J Jx hY W hc' hcs h0).mono ?_
    rintro e W' ⟨he, ⟨ys, rfl, hj⟩ | ⟨pre, ⟨k, hk, rfl⟩, hj⟩⟩
    · exact ⟨he, .inl ⟨_, upto_all zs, hj⟩⟩
    · exact ⟨he, .inr ⟨_, by rw [upto_take zs hk]; exact List.take_prefix _ _, hj⟩⟩
set_option maxRecDepth 100000 in
set_option maxHeartbeats 2000000 in
/-- slices.AppendSeq to nothing: a slice of its own that holds what comes -/
theorem appendSeq_in (F : Fence) (n : Nat) (h3 : F.fn 187) (h5 : F.fn 182) (hro : F.round = none) (hn : 3 ≤ n) (Bs : Nat) (sv : Value) (xs : List Int) (hlen : xs.length ≤ 1048576) (w : World) (hBs : Bs < w.heap.size) (hc : w.cell? ⟨Bs, 0, none⟩ = some sv) (hI : VInts w.heap.size w sv xs) :
    CallsIn F n Try.prog 187 #[.slice none 0 0, .func (.func 182) #[] #[.pointer (some ⟨Bs, 0, none⟩)]] w fun e W' => ∃ v, e = .returned v ∧ W'.ownsRow w.heap.size 3 1 v xs.length (xs.map (Value.int .i64)) ∧ Below w.heap.size w W' := by
  have h1 : 1 ≤ n := by omega
  obtain ⟨i0, hi, hz0, hz1, hz2⟩ := info_parts info_int
  refine callsIn_of_wp_marks Try.func187 rfl h3 ?_ hro
  simp only [Try.ntmps187, List.size_toArray, List.length_cons, List.length_nil, Nat.reduceAdd, Nat.reduceSub, Array.replicate_succ, Array.replicate_zero, List.push_toArray, List.append_toArray, List.nil_append, List.cons_append]
  gi_wp2
  have bO := Boxed.new w 24 (.slice none 0 0)
  have hB0 : Below w.heap.size w (w.alloc (.cells #[.slice none 0 0] 24)) := (Below.refl _ w).alloc (Nat.le_refl _) _
  refine wpIn_rangeFunc_ownG hro h1 (gf := 182) (lb := #[.pointer (some ⟨Bs, 0, none⟩)]) rfl h5 (enters_of Try.func182 (by kernel_rfl) rfl)
    (values_stops F (n - 1) h5 hro (by omega) Bs w.heap.size sv xs (by omega) _ (by simp; omega) (by simp) (cell_later hB0 hc) (hI.below hB0)) belowK_t (belowK_b (by simp)) (Below.refl _ _) (fun _ => rfl)
    (fun (pre : List Int) W => (∃ v, Boxed W w.heap.size 24 v ∧ W.ownsRow w.heap.size 3 1 v pre.length (pre.map (Value.int .i64)) ∧ True) ∧ Below w.heap.size w W)
    (fun _ _ _ => False)
    (OwnFrom.and (Own.from (holdsRow_own w.heap.size w.heap.size 24 3 1 (fun (pre : List Int) => pre.length) (fun (pre : List Int) => pre.map (Value.int .i64)) (fun (pre : List Int) v => True)) _) (ownFrom_below (Nat.le_refl _) (by simp)))
    (fun _ _ _ _ _ hs _ _ => hs)
    ⟨⟨_, bO, World.ownsRow_nil _ _ _ _, trivial⟩, hB0⟩
    (fun x => { tmps := #[.slice none 0 0, .func (.func 182) #[] #[.pointer (some ⟨Bs, 0, none⟩)], .pointer (some ⟨w.heap.size, 0, none⟩), undef, .slice none 0 0, .int .i64 x, .func (.func 182) #[] #[.pointer (some ⟨Bs, 0, none⟩)], .int .i64 x, undef, undef, undef, undef, undef], defers := [] }) ?assign ?body ?done ?stop
  case assign =>
    intro l x W K hK
    gi_wp2
    exact hK
  case body =>
    rintro l pre x W ⟨⟨v, hv, hrow, _⟩, hB⟩ hlt
    have hc := hv.cell
    gi_wp2_with (gi_at_builtin; refine wpListIn_append_own _ rfl _ _ 24 rfl w.heap.size 3 i0 (.int .i64 0) 1 8 Try.underlying24 hi hz0 hz1 hz2 rfl (by decide) _ _ _ rfl (hrow.alloc _) ⟨W.heap.size, 0, none⟩ 1 1 [.int .i64 x] rfl rfl (cell_one_new _ _ _) (by simp [Value.oneCell']) (by unfold maxLen; omega) (by omega) (by have := hB.size; simp; omega) ?_; intro v' w1 hown' hgrow _; obtain ⟨g', cap', rfl⟩ := ownsRow_succ hown'; obtain ⟨hv1, hv2, hr2, hk2, hb2⟩ := hv.appended (by decide) hrow hB.size (Nat.le_refl _) hown' hgrow; have hc1 := hv1.cell; have hf1 := hv1.frozen)
    exact ⟨hk2.from _, hb2, ⟨_, hv2, by simpa using hr2, trivial⟩, hB.trans hb2⟩
  case done =>
    rintro D ys W hD rfl ⟨⟨v, hv, hrow, _⟩, hB⟩ hK
    have hc := hv.cell
    gi_wp2
    refine ⟨by simp, .inl ⟨_, _, rfl, run_takeDeferred hK, ?_⟩⟩
    exact ⟨_, results_tmp rfl _ _ _, v, rfl, ownsRow_putObj hrow _ hK rfl, hB.trans (belowK_b (w := w) (Nat.le_refl _) W D _ _ (by simp at hD; omega) hK rfl rfl)⟩
  case stop =>
    rintro D c pre W _ _ h _
    exact h.elim
theorem AppendSeq_c (Bs : Nat) (sv : Value) (xs : List Int) (hlen : xs.length ≤ 1048576) (w : World) (hBs : Bs < w.heap.size) (hc : w.cell? ⟨Bs, 0, none⟩ = some sv) (hI : VInts w.heap.size w sv xs) :
    Calls Try.prog 187 #[.slice none 0 0, .func (.func 182) #[] #[.pointer (some ⟨Bs, 0, none⟩)]] w fun e W' => ∃ v, e = .returned v ∧ W'.ownsRow w.heap.size 3 1 v xs.length (xs.map (Value.int .i64)) ∧ Below w.heap.size w W' :=
  (callsIn_wide (n := 6)).1 (appendSeq_in Fence.wide 6 trivial trivial rfl (by omega) Bs sv xs hlen w hBs hc hI)
end Go.Proofs.Ytlipkplomndjcaa
namespace Go.Proofs.Ytlipkplomndjcaa
set_option linter.unusedVariables false
/-- a number put to its place, once -/
def putR : List Int → Int → List Int
  | [], n => [n]
  | x :: t, n => if x < n then x :: putR t n else if x = n then x :: t else n :: x :: t
def setS (xs : List Int) : List Int := xs.foldl putR []
def setL (xs : List Int) : List Int := Lib.compact (xs.mergeSort fun x y => decide (x ≤ y))
theorem eq_of_lt : ∀ (l1 l2 : List Int), l1.Pairwise (· < ·) → l2.Pairwise (· < ·) → (∀ x, x ∈ l1 ↔ x ∈ l2) → l1 = l2
  | [], [], _, _, _ => rfl
  | [], y :: t, _, _, h => by have := (h y).2 (by simp); simp at this
  | x :: t, [], _, _, h => by have := (h x).1 (by simp); simp at this
  | x :: t, y :: s, h1, h2, h => by
    rw [List.pairwise_cons] at h1 h2
    have hx := (h x).1 (by simp)
    have hy := (h y).2 (by simp)
    have e : x = y := by
      rcases List.mem_cons.1 hx with e | e
      · exact e
      · rcases List.mem_cons.1 hy with e2 | e2
        · exact e2.symm
        · have a := h2.1 x e
          have b := h1.1 y e2
          omega
    subst e
    rw [eq_of_lt t s h1.2 h2.2 (fun z => by
      have hz := h z
      simp only [List.mem_cons] at hz
      constructor
      · intro hm
        have := h1.1 z hm
        rcases hz.1 (.inr hm) with e | e
        · omega
        · exact e
      · intro hm
        have := h2.1 z hm
        rcases hz.2 (.inr hm) with e | e
        · omega
        · exact e)]
theorem putR_mem : ∀ (l : List Int) (n x : Int), x ∈ putR l n ↔ x ∈ l ∨ x = n
  | [], n, x => by simp [putR]
  | y :: t, n, x => by
    unfold putR
    split
    · simp only [List.mem_cons, putR_mem t n x]
      constructor
      · rintro (h | h | h)
        · exact .inl (.inl h)
        · exact .inl (.inr h)
        · exact .inr h
      · rintro ((h | h) | h)
        · exact .inl h
        · exact .inr (.inl h)
        · exact .inr (.inr h)
    · split
      · rename_i h1 h2
        subst h2
        simp only [List.mem_cons]
        constructor
        · intro h; exact .inl h
        · rintro (h | h)
          · exact h
          · exact .inl h
      · simp only [List.mem_cons]
        constructor
        · rintro (h | h)
          · exact .inr h
          · exact .inl h
        · rintro (h | h)
          · exact .inr h
          · exact .inl h
theorem putR_lt : ∀ (l : List Int) (n : Int), l.Pairwise (· < ·) → (putR l n).Pairwise (· < ·)
  | [], n, _ => by simp [putR]
  | y :: t, n, h => by
    rw [List.pairwise_cons] at h
    unfold putR
    split
    · rename_i hlt
      rw [List.pairwise_cons]
      refine ⟨fun z hz => ?_, putR_lt t n h.2⟩
      rcases (putR_mem t n z).1 hz with e | e
      · exact h.1 z e
      · omega
    · split
      · rw [List.pairwise_cons]; exact h
      · rename_i h1 h2
        rw [List.pairwise_cons, List.pairwise_cons]
        refine ⟨fun z hz => ?_, h⟩
        rcases List.mem_cons.1 hz with e | e
        · omega
        · have := h.1 z e; omega
theorem setS_snoc (xs : List Int) (x : Int) : setS (xs ++ [x]) = putR (setS xs) x := by unfold setS; rw [List.foldl_append]; rfl
theorem foldl_put (xs : List Int) : ∀ l : List Int, l.Pairwise (· < ·) → (xs.foldl putR l).Pairwise (· < ·) ∧ ∀ x, x ∈ xs.foldl putR l ↔ x ∈ l ∨ x ∈ xs := by
  induction xs with
  | nil => intro l h; exact ⟨h, fun x => by simp⟩
  | cons y t ih =>
    intro l h
    obtain ⟨h1, h2⟩ := ih (putR l y) (putR_lt l y h)
    refine ⟨h1, fun x => ?_⟩
    rw [List.foldl_cons, h2, putR_mem, List.mem_cons, or_assoc]
theorem setS_lt (xs : List Int) : (setS xs).Pairwise (· < ·) := (foldl_put xs [] (by simp)).1
theorem setS_mem (xs : List Int) (x : Int) : x ∈ setS xs ↔ x ∈ xs := by
  have := (foldl_put xs [] (by simp)).2 x
  unfold setS
  rw [this]; simp
theorem compact_sorted (d : Array Int) (hd : ∀ i j, i ≤ j → j < d.size → d[i]! ≤ d[j]!) : ∀ m, m ≤ d.size →
    (Lib.compactUpTo d m).Pairwise (· < ·) ∧ (∀ x, x ∈ Lib.compactUpTo d m ↔ ∃ j, j < m ∧ d[j]! = x)
  | 0, _ => ⟨by simp [Lib.compactUpTo], fun x => by simp [Lib.compactUpTo]⟩
  | m + 1, hm => by
    obtain ⟨h1, h2⟩ := compact_sorted d hd m (by omega)
    rw [Lib.compactUpTo_succ]
    have hle : ∀ x ∈ Lib.compactUpTo d m, x ≤ d[m]! := fun x hx => by
      obtain ⟨j, hj, rfl⟩ := (h2 x).1 hx
      exact hd j m (by omega) (by omega)
    have hmem : (∃ j, j < m + 1 ∧ d[j]! = d[m]!) := ⟨m, by omega, rfl⟩
    cases hk : Lib.keeps d m
    · have hne : ¬ (m = 0 ∨ d[m]! ≠ d[m - 1]!) := by simpa [Lib.keeps] using hk
      have h0 : m ≠ 0 := fun e => hne (.inl e)
      have he : d[m]! = d[m - 1]! := by
        by_cases e : d[m]! = d[m - 1]!
        · exact e
        · exact absurd (.inr e) hne
      simp only [Bool.false_eq_true, if_false, List.append_nil]
      refine ⟨h1, fun x => ?_⟩
      rw [h2]
      constructor
      · rintro ⟨j, hj, e⟩; exact ⟨j, by omega, e⟩
      · rintro ⟨j, hj, e⟩
        by_cases hjm : j = m
        · exact ⟨m - 1, by omega, by rw [← he, ← e, hjm]⟩
        · exact ⟨j, by omega, e⟩
    · have hpos : m = 0 ∨ d[m]! ≠ d[m - 1]! := by simpa [Lib.keeps] using hk
      simp only [if_true]
      refine ⟨?_, fun x => ?_⟩
      · rw [List.pairwise_append]
        refine ⟨h1, by simp, fun x hx y hy => ?_⟩
        simp at hy
        subst hy
        rcases hpos with e | e
        · subst e; simp [Lib.compactUpTo] at hx
        · obtain ⟨j, hj, rfl⟩ := (h2 x).1 hx
          have a := hd j (m - 1) (by omega) (by omega)
          have b := hd (m - 1) m (by omega) (by omega)
          have c : d[m - 1]! ≠ d[m]! := fun h => e h.symm
          omega
      · rw [List.mem_append, h2]
        simp only [List.mem_singleton]
        constructor
        · rintro (⟨j, hj, e⟩ | e)
          · exact ⟨j, by omega, e⟩
          · exact ⟨m, by omega, e.symm⟩
        · rintro ⟨j, hj, e⟩
          by_cases hjm : j = m
          · right; rw [← e, hjm]
          · exact .inl ⟨j, by omega, e⟩
theorem setL_eq (xs : List Int) : setL xs = setS xs := by
  have hp := List.mergeSort_perm xs (fun x y => decide (x ≤ y))
  have hs : (xs.mergeSort fun x y => decide (x ≤ y)).Pairwise (fun a b => decide (a ≤ b) = true) := List.pairwise_mergeSort (fun a b c h1 h2 => by simp at *; omega) (fun a b => by simp; omega) xs
  generalize hz : (xs.mergeSort fun x y => decide (x ≤ y)) = zs at hp hs
  have hd : ∀ i j, i ≤ j → j < zs.toArray.size → zs.toArray[i]! ≤ zs.toArray[j]! := by
    intro i j hij hj
    simp at hj
    rcases Nat.lt_or_ge i j with h | h
    · have := List.pairwise_iff_getElem.1 hs i j (by omega) hj h
      simp at this
      simpa [getElem!_pos, hj, show i < zs.length by omega] using this
    · obtain rfl : i = j := by omega
      exact Int.le_refl _
  obtain ⟨h1, h2⟩ := compact_sorted zs.toArray hd zs.length (by simp)
  unfold setL
  rw [hz]
  refine eq_of_lt _ _ h1 (setS_lt xs) (fun x => ?_)
  have h3 : x ∈ Lib.compact zs ↔ x ∈ zs := by
    unfold Lib.compact
    rw [h2]
    constructor
    · rintro ⟨j, hj, e⟩
      have : zs.toArray[j]! = zs[j] := by simp [getElem!_pos, hj]
      rw [← e, this]; exact List.getElem_mem hj
    · intro hx
      obtain ⟨j, hj, e⟩ := List.getElem_of_mem hx
      exact ⟨j, hj, by simp [getElem!_pos, hj, e]⟩
  rw [h3, setS_mem]
  exact hp.mem_iff
theorem setS_len_le : ∀ (xs l : List Int), (xs.foldl putR l).length ≤ l.length + xs.length
  | [], l => by simp
  | x :: t, l => by
    have h1 := setS_len_le t (putR l x)
    have h2 : ∀ (l : List Int) (n : Int), (putR l n).length ≤ l.length + 1 := by
      intro l n
      induction l with
      | nil => simp [putR]
      | cons y s ih => unfold putR; split <;> (try split) <;> simp <;> omega
    have h3 := h2 l x
    rw [List.foldl_cons, List.length_cons]
    omega
/-- where a number is put -/
theorem putR_at : ∀ (l : List Int) (n : Int) (k : Nat), k ≤ l.length → (∀ j x, j < k → l[j]? = some x → x < n) → (∀ x, l[k]? = some x → ¬ x < n) → putR l n = if l[k]? = some n then l else l.take k ++ n :: l.drop k
  | [], n, k, hk, _, _ => by simp at hk; subst hk; simp [putR]
  | y :: t, n, 0, _, _, h0 => by
    have := h0 y rfl
    unfold putR
    rw [if_neg this]
    by_cases e : y = n
    · subst e; simp
    · simp [e]
  | y :: t, n, k + 1, hk, hb, h0 => by
    have hy := hb 0 y (by omega) rfl
    have ih := putR_at t n k (by simpa using hk) (fun j x hj hx => hb (j + 1) x (by omega) (by simpa using hx)) (fun x hx => h0 x (by simpa using hx))
    unfold putR
    rw [if_pos hy, ih]
    simp only [List.getElem?_cons_succ, List.take_succ_cons, List.drop_succ_cons, List.cons_append]
    split <;> rfl
end Go.Proofs.Ytlipkplomndjcaa
namespace Go.Proofs.Ytlipkplomndjcaa
open Go.RowKit
set_option linter.unusedVariables false
set_option maxRecDepth 100000
theorem Collect_c (Bs : Nat) (sv : Value) (xs : List Int) (hlen : xs.length ≤ 1048576) (w : World) (hBs : Bs < w.heap.size) (hc : w.cell? ⟨Bs, 0, none⟩ = some sv) (hI : VInts w.heap.size w sv xs) :
    Calls Try.prog 180 #[.func (.func 182) #[] #[.pointer (some ⟨Bs, 0, none⟩)]] w fun e W' => ∃ v, e = .returned v ∧ W'.ownsRow w.heap.size 3 1 v xs.length (xs.map (Value.int .i64)) ∧ Below w.heap.size w W' := by
  have H := Lib.hid (AppendSeq_c Bs sv xs hlen w hBs hc hI)
  clear hc hI
  go_enter Try.func180, Try.ntmps180
  go_wp2_with fail
  refine H.out.mono ?_
  rintro e w1 ⟨v, rfl, ho, hb⟩
  go_wp2
  go_ret
  exact ⟨v, rfl, ho, hb⟩
def srt (xs : List Int) : List Int := xs.mergeSort fun x y => decide (x ≤ y)
theorem srt_len (xs : List Int) : (srt xs).length = xs.length := List.length_mergeSort xs
theorem Sort_c (v : Value) (xs : List Int) (lo : Nat) (w : World) (ho : w.ownsRow lo 3 1 v xs.length (xs.map (Value.int .i64))) (hn : xs.length ≤ 1048576) :
    Calls Try.prog 181 #[v] w fun e w' => e = .returned (.tuple #[]) ∧ w'.ownsRow lo 3 1 v xs.length ((srt xs).map (Value.int .i64)) ∧ w.grownBy w' v.ownBlock := by
  by_cases hz : xs.length = 0
  · obtain ⟨a, c, rfl, _⟩ := (Sl.of_own ho).slice
    have hx : xs = [] := List.eq_nil_of_length_eq_zero hz
    subst hx
    refine (Try.slices_Sort_int_none a c w).mono ?_
    rintro e w' ⟨rfl, rfl⟩
    exact ⟨rfl, by simpa [srt] using ho, World.grownBy.refl _ _⟩
  · have hv : v ≠ .slice none 0 0 := by
      intro e
      obtain ⟨a, c, e2, _⟩ := (Sl.of_own ho).slice
      rw [e] at e2
      injection e2 with _ e3
      omega
    obtain ⟨g, cap, rfl, hlo, hlt, h1, h2, _, hH⟩ := Lib.holds_of_ownsRow ho hv
    refine (Try.slices_Sort_int g 0 cap xs w hH hlt (by omega)).mono ?_
    rintro e w' ⟨rfl, n, os, rfl⟩
    rcases ho.2 with ⟨h0, _⟩ | ⟨g', cap', cur, hv2, hbase, hb, h1', h2', h3, h4⟩
    · cases h0
    · cases hv2
      exact ⟨rfl, ownsRow_sortedI (srt_len xs) hlo hb h1 h2 h3, grownBy_sortedI _⟩
theorem Sorted_c (Bs : Nat) (sv : Value) (xs : List Int) (hlen : xs.length ≤ 1048576) (w : World) (hBs : Bs < w.heap.size) (hc : w.cell? ⟨Bs, 0, none⟩ = some sv) (hI : VInts w.heap.size w sv xs) :
    Calls Try.prog 172 #[.func (.func 182) #[] #[.pointer (some ⟨Bs, 0, none⟩)]] w fun e W' => ∃ v, e = .returned v ∧ W'.ownsRow w.heap.size 3 1 v xs.length ((srt xs).map (Value.int .i64)) ∧ Below w.heap.size w W' := by
  have H := Lib.hid (Collect_c Bs sv xs hlen w hBs hc hI)
  have HS := Lib.hid (fun v w h => Sort_c v xs w.heap.size w h hlen)
  clear hc hI
  go_enter Try.func172, Try.ntmps172
  go_wp2_with fail
  refine H.out.mono ?_
  rintro e w1 ⟨v, rfl, ho, hb⟩
  have ho0 := ho
  obtain ⟨a, c, rfl, _⟩ := (Sl.of_own ho).slice
  go_wp2_with fail
  refine (Sort_c _ xs w.heap.size w1 ho hlen).mono ?_
  rintro e w2 ⟨rfl, ho2, hg2⟩
  have hb2 : Below w.heap.size w w2 := hb.grown hg2 hb.size (fun g hg => (ho0.lt g hg).1)
  clear ho ho0 hg2
  go_wp2
  go_ret
  exact ⟨_, rfl, ho2, hb2⟩
theorem Compact_c (v : Value) (xs : List Int) (lo : Nat) (w : World) (ho : w.ownsRow lo 3 1 v xs.length (xs.map (Value.int .i64))) (hn : xs.length ≤ 1048576) :
    Calls Try.prog 171 #[v] w fun e w' => ∃ u, e = .returned u ∧ w'.ownsRow lo 3 1 u (Lib.compact xs).length ((Lib.compact xs).map (Value.int .i64)) ∧ w.grownBy w' v.ownBlock := by
  by_cases hz : xs.length = 0
  · obtain ⟨a, c, rfl, _⟩ := (Sl.of_own ho).slice
    have hx : xs = [] := List.eq_nil_of_length_eq_zero hz
    subst hx
    refine (Try.slices_Compact_int_empty a c w).mono ?_
    rintro e w' ⟨rfl, rfl⟩
    exact ⟨_, rfl, by simpa [Lib.compact, Lib.compactUpTo] using ho, World.grownBy.refl _ _⟩
  · have hv : v ≠ .slice none 0 0 := by
      intro e
      obtain ⟨a, c, e2, _⟩ := (Sl.of_own ho).slice
      rw [e] at e2
      injection e2 with _ e3
      omega
    obtain ⟨g, cap, rfl, hlo, hlt, h1, h2, _, hH⟩ := Lib.holds_of_ownsRow ho hv
    refine (Try.slices_Compact_int g 0 cap xs w hH (by omega) h1).mono ?_
    rintro e w' ⟨rfl, q, rfl⟩
    have hle := Lib.compact_length_le xs
    have h3 := Lib.ownsRow_putRow (q := q) (k := (Lib.compact xs).length) (ys := Lib.compact xs ++ List.replicate (xs.length - (Lib.compact xs).length) 0) ho (by simp; omega) hle
    rw [List.take_left] at h3
    refine ⟨_, rfl, h3, ?_⟩
    have h4 := grownBy_sortedI (w := w) (g := g) (n := q) (os := #[]) (Lib.compact xs ++ List.replicate (xs.length - (Lib.compact xs).length) 0).toArray
    rw [Sort.grow_empty] at h4
    exact h4
theorem setOf_c (v : Value) (xs : List Int) (w : World) (hv : Ints w v xs) (hn : xs.length ≤ 1048576) :
    Calls Try.prog 160 #[v] w fun e w' => ∃ u, e = .returned u ∧ w'.ownsRow w.heap.size 3 1 u (setS xs).length ((setS xs).map (Value.int .i64)) ∧ Below w.heap.size w w' := by
  have hV := VInts.of hv
  obtain ⟨a, c, rfl, _, _, _⟩ := hv.parts
  have hb0 := below_one (w := w) (.cells #[.slice a xs.length c] 24)
  have hV1 := Lib.hid ((VInts.of (hv.below hb0)))
  have q0 : (w.alloc (.cells #[.slice a xs.length c] 24)).cell? ⟨w.heap.size, 0, none⟩ = some (.slice a xs.length c) := by rw [World.cell?_alloc_at _ _ _ _ rfl]; rfl
  have HS := Lib.hid (Sorted_c w.heap.size (.slice a xs.length c) xs hn (w.alloc (.cells #[.slice a xs.length c] 24)) (by simp) q0 hV1.out)
  clear hV hv q0 hV1
  go_enter Try.func160, Try.ntmps160
  go_wp2_with fail
  refine (Values_c a xs.length c w).mono ?_
  rintro e w' ⟨rfl, rfl⟩
  go_wp2_with fail
  refine HS.out.mono ?_
  rintro e w1 ⟨u, rfl, ho, hb⟩
  have ho1 : w1.ownsRow w.heap.size 3 1 u (srt xs).length ((srt xs).map (Value.int .i64)) := own_lo (ownsRow_cast ho (srt_len xs).symm rfl) (by simp)
  have hb1 := Below.chain hb0 hb
  have hnl : (srt xs).length ≤ 1048576 := by rw [srt_len]; exact hn
  have HE : Hid (Lib.compact (srt xs) = setS xs) := setL_eq xs
  have HO := Lib.hid ho1
  clear ho hb hb0 ho1
  go_wp2_with fail
  refine (Compact_c u (srt xs) w.heap.size w1 HO.out hnl).mono ?_
  rintro e w2 ⟨u2, rfl, ho2, hg2⟩
  have hb2 : Below w.heap.size w w2 := hb1.grown hg2 hb1.size (fun g hg => (HO.out.lt g hg).1)
  rw [HE.out] at ho2
  clear hg2
  go_wp2
  go_ret
  exact ⟨_, rfl, ho2, hb2⟩
end Go.Proofs.Ytlipkplomndjcaa
namespace Go.Proofs.Ytlipkplomndjcaa
open Go.RowKit
set_option linter.unusedVariables false
section
variable {P : Program} {w : World}
theorem step_append_at {ops : Array Oper} {o : Oper} {a : Act} {K : Act → World → Prop} {Q : Exit → Act → World → Prop} {E : Prop} (hgd : o.guard = none) (s x : Operand) (t : TypeId)
    (ho : o.op = .call { callee := .builtin .append, args := #[s, x], argTypes := #[t, t] })
    (base : Nat) (e : TypeId) (i : TypeInfo) (z : Value) (size bytes : Nat) (ht : P.underlying t = some (.slice e)) (hi : P.info? e = some i) (hz : i.zero = some z)
    (hsize : i.size = size) (hby : i.bytes = bytes) (hzs : z.cells.size = size) (hsz : 0 < size)
    (v : Value) (n : Nat) (xs : List Value) (hs : a.eval s = v) (hown : w.ownsRow base e size v n xs)
    (ad : Addr) (m c : Nat) (news : List Value) (hx : a.eval x = .slice (some ad) m c) (hl : news.length = m * size) (hnews : ∀ j u, news[j]? = some u → w.cell? (ad.add j) = some u) (h1 : ∀ u ∈ news, u.oneCell' = true)
    (h63 : n + m ≤ maxLen) (hbytes : (n + m) * bytes ≤ 140737488355328) (hbase : base ≤ w.heap.size)
    (h : ∀ v' w', w'.ownsRow base e size v' (n + m) (xs ++ news) → w.grownBy w' v.ownBlock → (v'.ownBlock = v.ownBlock ∨ v'.ownBlock = some w.heap.size) → K (a.put o.dst v') w') :
    if Region.wanted o (yielded ops a.tmps) = true then Oper.wp P o a w K Q else E := by
  have hw : Region.wanted o (yielded ops a.tmps) = true := by simp [Region.wanted, hgd]
  rw [if_pos hw]
  obtain ⟨v', w', hr, h2, h3, _, h5⟩ := run_append_own_at (P := P) (w := w) base t o.type e i z size bytes ht hi hz hsize hby hzs hsz v n xs hown ad m c news hl hnews h1 h63 hbytes hbase
  unfold Oper.wp execOp
  simp only [ho, resolve, invoke, builtin, Sem.run_bind, Sem.run_pure, Result.andThen_ok, List.map_toArray, List.map_cons, List.map_nil, hs, hx, hr]
  exact h v' w' h2 h3 h5
end
theorem own_take {w : World} {lo g cap n : Nat} {e : TypeId} {l : List Int} (h : w.ownsRow lo e 1 (.slice (some ⟨g, 0, none⟩) n cap) n (ints l)) (k : Nat) : ∀ j u, (ints (l.take k))[j]? = some u → w.cell? ((⟨g, 0, none⟩ : Addr).add j) = some u := by
  intro j u hu
  rw [Addr.add_lit, Nat.zero_add]
  have hlen : (ints l).length = n * 1 := h.1
  have hu2 : (ints l)[j]? = some u := by
    simp only [ints, List.map_take, List.getElem?_take] at hu ⊢
    split at hu
    · exact hu
    · cases hu
  have hj := (List.getElem?_eq_some_iff.1 hu2).1
  rw [h.cellAt j (by omega)]; exact hu2
theorem own_drop {w : World} {lo g cap n : Nat} {e : TypeId} {l : List Int} (h : w.ownsRow lo e 1 (.slice (some ⟨g, 0, none⟩) n cap) n (ints l)) (k : Nat) : ∀ j u, (ints (l.drop k))[j]? = some u → w.cell? ((⟨g, k, none⟩ : Addr).add j) = some u := by
  intro j u hu
  rw [Addr.add_lit]
  have hlen : (ints l).length = n * 1 := h.1
  have hu2 : (ints l)[k + j]? = some u := by simpa [ints, List.map_drop] using hu
  have hj := (List.getElem?_eq_some_iff.1 hu2).1
  rw [h.cellAt (k + j) (by omega)]; exact hu2
end Go.Proofs.Ytlipkplomndjcaa
namespace Go.Proofs.Ytlipkplomndjcaa
open Go.RowKit
set_option linter.unusedVariables false
set_option linter.unusedSimpArgs false
set_option maxRecDepth 100000
attribute [local go_sem ↓] Go.wp_at_zero Go.wp_at_succ
end Go.Proofs.Ytlipkplomndjcaa
namespace Go.Proofs.Ytlipkplomndjcaa
open Go.RowKit
set_option linter.unusedVariables false
set_option maxRecDepth 100000
attribute [local go_sem ↓] Go.wp_at_zero Go.wp_at_succ
theorem setS_take_succ {xs : List Int} {k : Nat} {x : Int} (hx : xs[k]? = some x) : setS (xs.take (k + 1)) = putR (setS (xs.take k)) x := by rw [take_snoc hx, setS_snoc]
theorem setS_len (xs : List Int) : (setS xs).length ≤ xs.length := by
  have := setS_len_le xs []
  simpa [setS] using this
theorem l1Own_c (ad : Addr) (n c : Nat) (xs : List Int) (w : World) (hc : ∀ j u, (ints xs)[j]? = some u → w.cell? (ad.add j) = some u) (hn : xs.length = n) (hn2 : n ≤ 1000) :
    Calls Try.prog 164 #[.slice (some ad) n c] w fun e w' => ∃ u, e = .returned u ∧ w'.ownsRow w.heap.size 3 1 u n (ints xs) ∧ Below w.heap.size w w' := by
  obtain ⟨i, hi, hz0, hz1, hz2⟩ := info_parts info_int
  have hc1 : ∀ j u, (ints xs)[j]? = some u → (w.alloc (.cells #[] 3)).cell? (ad.add j) = some u := fun j u h => by
    have h1 := hc j u h
    have hlt := World.block_lt_of_cell? _ _ h1
    exact (Below.cell (below_one (w := w) (.cells #[] 3)) (p := ad.add j) hlt).trans h1
  have ho0 := World.ownsRow_lit (e := 3) (size := 1) (base := w.heap.size) w #[] 0 (Nat.le_refl _) (by decide) rfl
  have HC := Lib.hid hc1
  clear hc hc1
  go_enter Try.func164, Try.ntmps164
  go_wp2_with (at_builtin; refine wpList_append_own_at _ rfl _ _ 24 rfl w.heap.size 3 i (.int .i64 0) 1 8 Try.underlying24 hi hz0 hz1 hz2 rfl (by decide) _ 0 [] rfl ho0 ad n c (ints xs) rfl (by simp [hn]) HC.out ints_one (by unfold maxLen; omega) (by omega) (by simp) ?_)
  intro v' w1 ho1 hg1 _ _
  have hb1 : Below w.heap.size w w1 := (below_one _).grown hg1 (by simp) (fun g hg => (ho0.lt g hg).1)
  go_wp2
  go_ret
  exact ⟨_, rfl, ownsRow_cast ho1 (by simp) (by simp), hb1⟩
theorem erase_ints (l : List Int) (i : Nat) : ints (l.take i) ++ ints (l.drop (i + 1)) = ints (l.eraseIdx i) := by
  rw [List.eraseIdx_eq_take_drop_succ]; simp [ints]
theorem erase_len {l : List Int} {i : Nat} (h : i < l.length) : (l.eraseIdx i).length = i + (l.length - (i + 1)) := by
  rw [List.length_eraseIdx]; simp [h]; omega
theorem testB_erase {l : List Int} (h : testB l = true) (i : Nat) : testB (l.eraseIdx i) = true := by
  unfold testB at *
  simp only [Bool.and_eq_true, decide_eq_true_eq, List.all_eq_true] at *
  exact ⟨Nat.le_trans (List.length_eraseIdx_le _ _) h.1, fun x hx => h.2 x (List.mem_of_mem_eraseIdx hx)⟩
theorem testB_set {l : List Int} (h : testB l = true) : testB (setS l) = true := by
  unfold testB at *
  simp only [Bool.and_eq_true, decide_eq_true_eq, List.all_eq_true] at *
  exact ⟨Nat.le_trans (setS_len l) h.1, fun x hx => h.2 x ((setS_mem l x).1 hx)⟩
/-- a least test, for its set -/
def leastL (l : List Int) : Bool := ((List.range l.length).all fun i => !fullB (l.eraseIdx i)) && fullB l
theorem leastL_bad {l : List Int} {i : Nat} (hi : i < l.length) (h : fullB (l.eraseIdx i) = true) : leastL l = false := by
  unfold leastL
  rw [Bool.and_eq_false_iff]; left
  rw [Bool.eq_false_iff]; intro h2
  rw [List.all_eq_true] at h2
  have := h2 i (List.mem_range.2 hi)
  rw [h] at this; cases this
theorem leastL_ok {l : List Int} (h : ∀ i, i < l.length → fullB (l.eraseIdx i) = false) : leastL l = fullB l := by
  unfold leastL
  have : ((List.range l.length).all fun i => !fullB (l.eraseIdx i)) = true := by
    rw [List.all_eq_true]; intro i hi
    rw [h i (List.mem_range.1 hi)]; rfl
  rw [this]; rfl
set_option maxHeartbeats 2000000 in
theorem l7Least_c (g cap lo : Nat) (l : List Int) (w : World) (ho : w.ownsRow lo 3 1 (.slice (some ⟨g, 0, none⟩) l.length cap) l.length (ints l)) (ht : testB l = true) :
    Calls Try.prog 137 #[.slice (some ⟨g, 0, none⟩) l.length cap] w fun e w' => e = .returned (.bool (leastL l)) ∧ Below w.heap.size w w' := by
  obtain ⟨inf, hi, hz0, hz1, hz2⟩ := info_parts info_int
  have hI := Ints.of_own ho
  obtain ⟨a, c, e0, hlc, hcm, _⟩ := hI.parts
  injection e0 with e1 _ e3
  subst e1 e3
  have hlen : l.length ≤ 10 := by unfold testB at ht; simp only [Bool.and_eq_true, decide_eq_true_eq] at ht; exact ht.1
  have HO := Lib.hid ho; have HT := Lib.hid ht
  clear ho hI ht
  go_enter Try.func137, Try.ntmps137
  go_wp2
  go_loopw [3] (fun i wr => ∃ k : Nat, k ≤ l.length ∧ i = .int .i64 (k : Int) ∧ Hid (∀ j, j < k → fullB (l.eraseIdx j) = false) ∧ Below w.heap.size w wr) (fun i _ => l.length - (intOf i).toNat)
  case atStart => exact ⟨0, by omega, rfl, fun j h => by omega, Below.refl _ _⟩
  case round =>
    obtain ⟨k, hk, rfl, hbef, hb⟩ := hrel
    by_cases hlt : k < l.length
    · have hd : decide ((k : Int) < (l.length : Int)) = true := by simp; omega
      have n0 : (0 : Int) ≤ (k : Int) := by omega
      have n1 : (k : Int) ≤ (l.length : Int) := by omega
      have n2 : (l.length : Int) ≤ (cap : Int) := by omega
      have n3 : (k : Int) + 1 ≤ (l.length : Int) := by omega
      have n4 : (0 : Int) ≤ (k : Int) + 1 := by omega
      have n5 : (k : Int) ≤ (cap : Int) := by omega
      have n6 : ((k : Int) + 1).toNat = k + 1 := by omega
      have hw : IntKind.i64.wrap ((k : Int) + 1) = (k : Int) + 1 := IntWalk.i64_in _ (by omega)
      have HB := Lib.hid hb
      have HOr := Lib.hid (own_keep HO.out hb)
      have hte := Lib.hid (testB_erase HT.out k)
      have HE := Lib.hid (erase_len hlt)
      clear hb
      by_cases hce : cap = k + 1
      · have hck : (cap = k + 1) = True := by simp [hce]
        have HCE := Lib.hid hce
        clear hce
        go_wp2
        go_region_held3 (fun _ => True) (trivial)
          (first | (go_at_call 164; refine (l1Own_c ⟨g, 0, none⟩ k cap (l.take k) _ (own_take (own_keep HOr.out (Below.refl _ _).drew) k) (by simp; omega) (by omega)).mono ?_; rintro e wa ⟨u, rfl, hou, hbb⟩; have hbc : Below wr.heap.size wr wa := Below.chain (Below.refl _ _).drew hbb; have hsz := hbc.size) | (go_at_call 136; refine (l7Full_c v2 (l.eraseIdx k) _ hI2 hte.out).mono ?_; rintro e wc ⟨rfl, hbd⟩; have hbe := Below.chain hb2 hbd) | (refine step_append_at (by rfl) _ _ _ (by rfl) wr.heap.size 3 inf (.int .i64 0) 1 8 Try.underlying24 hi hz0 hz1 hz2 rfl (by decide) u k (ints (l.take k)) (by rfl) (own_lo hou (by simp)) _ _ _ [] (by rfl) (by have := HCE.out; simp; omega) (fun j u hj => by simp at hj) (by simp) (by unfold maxLen; omega) (by omega) hsz ?_; intro v2 wb hO2 hg2 hat2; have hb2 : Below wr.heap.size wr wb := hbc.grown hg2 hsz (fun q hq => by have := (hou.lt q hq).1; simp at this; omega); have hI2 : Ints wb v2 (l.eraseIdx k) := Ints.of_own (ownsRow_cast hO2 (by rw [HE.out]) (show ints (l.take k) ++ [] = ints (l.eraseIdx k) by rw [← erase_ints, List.drop_eq_nil_of_le (by have := HCE.out; omega)]; simp [ints]))))
        rcases hq : fullB (l.eraseIdx k) with _ | _
        · have HN : Hid (∀ j, j < k + 1 → fullB (l.eraseIdx j) = false) := fun j hj => by
            by_cases hj2 : j < k
            · exact hbef.out j hj2
            · obtain rfl : j = k := by omega
              exact hq
          have hb9 := Below.chain HB.out hbe
          clear hbef hbe hb2 hI2 hO2 hg2 hbc hbb hou hbd
          go_wp2
          go_roundw
          case rel => exact ⟨k + 1, by omega, by go_num, HN, hb9⟩
          case measure => simp [intOf]; omega
        · have HF := Lib.hid (leastL_bad hlt hq)
          have hb9 := Below.chain HB.out hbe
          clear hbef hbe hb2 hI2 hO2 hg2 hbc hbb hou hbd
          go_wp2
          go_ret
          exact ⟨by rw [HF.out]; rfl, hb9⟩
      · have hck : (cap = k + 1) = False := by simp [hce]
        go_wp2
        go_region_held3 (fun _ => True) (trivial)
          (first | (go_at_call 164; refine (l1Own_c ⟨g, 0, none⟩ k cap (l.take k) _ (own_take (own_keep HOr.out (Below.refl _ _).drew) k) (by simp; omega) (by omega)).mono ?_; rintro e wa ⟨u, rfl, hou, hbb⟩; have hbc : Below wr.heap.size wr wa := Below.chain (Below.refl _ _).drew hbb; have hsz := hbc.size) | (go_at_call 136; refine (l7Full_c v2 (l.eraseIdx k) _ hI2 hte.out).mono ?_; rintro e wc ⟨rfl, hbd⟩; have hbe := Below.chain hb2 hbd) | (refine step_append_at (by rfl) _ _ _ (by rfl) wr.heap.size 3 inf (.int .i64 0) 1 8 Try.underlying24 hi hz0 hz1 hz2 rfl (by decide) u k (ints (l.take k)) (by rfl) (own_lo hou (by simp)) ⟨g, k + 1, none⟩ (l.length - (k + 1)) _ (ints (l.drop (k + 1))) (by rfl) (by simp) (own_drop (own_keep HOr.out hbc) (k + 1)) ints_one (by unfold maxLen; omega) (by omega) hsz ?_; intro v2 wb hO2 hg2 hat2; have hb2 : Below wr.heap.size wr wb := hbc.grown hg2 hsz (fun q hq => by have := (hou.lt q hq).1; simp at this; omega); have hI2 : Ints wb v2 (l.eraseIdx k) := Ints.of_own (ownsRow_cast hO2 (by rw [HE.out]) (show ints (l.take k) ++ ints (l.drop (k + 1)) = ints (l.eraseIdx k) from erase_ints l k))))
        rcases hq : fullB (l.eraseIdx k) with _ | _
        · have HN : Hid (∀ j, j < k + 1 → fullB (l.eraseIdx j) = false) := fun j hj => by
            by_cases hj2 : j < k
            · exact hbef.out j hj2
            · obtain rfl : j = k := by omega
              exact hq
          have hb9 := Below.chain HB.out hbe
          clear hbef hbe hb2 hI2 hO2 hg2 hbc hbb hou hbd
          go_wp2
          go_roundw
          case rel => exact ⟨k + 1, by omega, by go_num, HN, hb9⟩
          case measure => simp [intOf]; omega
        · have HF := Lib.hid (leastL_bad hlt hq)
          have hb9 := Below.chain HB.out hbe
          clear hbef hbe hb2 hI2 hO2 hg2 hbc hbb hou hbd
          go_wp2
          go_ret
          exact ⟨by rw [HF.out]; rfl, hb9⟩
    · obtain rfl : k = l.length := by omega
      have HF := Lib.hid (leastL_ok hbef.out)
      have hI2 := Lib.hid (Ints.of_own (own_keep HO.out hb))
      go_wp2_with fail
      refine (l7Full_c _ l _ hI2.out HT.out).mono ?_
      rintro e w2 ⟨rfl, hb2⟩
      have hb3 := Below.chain hb hb2
      go_wp2
      go_ret
      exact ⟨by rw [HF.out]; rfl, hb3⟩
end Go.Proofs.Ytlipkplomndjcaa
namespace Go.Proofs.Ytlipkplomndjcaa
open Go.RowKit
set_option linter.unusedVariables false
/-- one list ahead of another -/
def befL : List Int → List Int → Bool
  | [], [] => false
  | [], _ :: _ => true
  | _ :: _, [] => false
  | x :: s, y :: t => if x = y then befL s t else decide (x < y)
theorem befL_irr : ∀ a : List Int, befL a a = false
  | [] => rfl
  | x :: s => by simp [befL, befL_irr s]
theorem befL_trans : ∀ a b c : List Int, befL a b = true → befL b c = true → befL a c = true
  | [], [], _, h, _ => by simp [befL] at h
  | [], _ :: _, [], _, h => by simp [befL] at h
  | [], _ :: _, _ :: _, _, _ => rfl
  | _ :: _, [], _, h, _ => by simp [befL] at h
  | _ :: _, _ :: _, [], _, h => by simp [befL] at h
  | x :: s, y :: t, z :: u, h1, h2 => by
    unfold befL at *
    by_cases e1 : x = y
    · subst e1
      rw [if_pos rfl] at h1
      by_cases e2 : x = z
      · subst e2
        rw [if_pos rfl] at h2 ⊢
        exact befL_trans s t u h1 h2
      · rw [if_neg e2] at h2 ⊢; exact h2
    · rw [if_neg e1] at h1
      simp at h1
      by_cases e2 : y = z
      · subst e2
        rw [if_neg e1]; simpa using h1
      · rw [if_neg e2] at h2
        simp at h2
        rw [if_neg (by omega)]; simp; omega
theorem befL_tri : ∀ a b : List Int, befL a b = false → befL b a = false → a = b
  | [], [], _, _ => rfl
  | [], _ :: _, h, _ => by simp [befL] at h
  | _ :: _, [], _, h => by simp [befL] at h
  | x :: s, y :: t, h1, h2 => by
    unfold befL at *
    by_cases e : x = y
    · subst e
      rw [if_pos rfl] at h1 h2
      rw [befL_tri s t h1 h2]
    · rw [if_neg e] at h1
      rw [if_neg (fun h => e h.symm)] at h2
      simp at h1 h2
      omega
theorem befL_asym {a b : List Int} (h : befL a b = true) : befL b a = false := by
  rw [Bool.eq_false_iff]; intro h2
  have := befL_trans a b a h h2
  rw [befL_irr] at this; cases this
theorem befL_cons (x : Int) (s t : List Int) : befL (x :: s) (x :: t) = befL s t := by simp [befL]
theorem loopE_cons (x : Int) (t part : List Int) : loopE (x :: t) part = ((part ++ [x]) :: loopE t (part ++ [x])) ++ loopE t part := rfl
theorem befL_pre : ∀ (p a b : List Int), befL (p ++ a) (p ++ b) = befL a b
  | [], _, _ => rfl
  | x :: p, a, b => by
    show befL (x :: (p ++ a)) (x :: (p ++ b)) = _
    rw [befL_cons]; exact befL_pre p a b
def slL (a b : List Int) : Prop := a.length < b.length ∨ (a.length = b.length ∧ befL a b = true)
theorem slL_trans {a b c : List Int} (h1 : slL a b) (h2 : slL b c) : slL a c := by
  unfold slL at *
  rcases h1 with h1 | ⟨h1, h1'⟩ <;> rcases h2 with h2 | ⟨h2, h2'⟩
  · exact .inl (by omega)
  · exact .inl (by omega)
  · exact .inl (by omega)
  · exact .inr ⟨by omega, befL_trans a b c h1' h2'⟩
theorem slL_tri {a b : List Int} (h1 : ¬ slL a b) (h2 : ¬ slL b a) : a = b := by
  unfold slL at *
  have hl : a.length = b.length := by omega
  refine befL_tri a b ?_ ?_
  · rw [Bool.eq_false_iff]; intro h; exact h1 (.inr ⟨hl, h⟩)
  · rw [Bool.eq_false_iff]; intro h; exact h2 (.inr ⟨hl.symm, h⟩)
def isB (S : List Int → Prop) : Option (List Int) → Prop
  | none => ∀ p, S p → fullB p = false
  | some m => S m ∧ fullB m = true ∧ ∀ p, S p → fullB p = true → ¬ slL p m
theorem isB_same {S : List Int → Prop} : ∀ {r r' : Option (List Int)}, isB S r → isB S r' → r = r'
  | none, none, _, _ => rfl
  | none, some m, h, h' => by have := h m h'.1; rw [h'.2.1] at this; cases this
  | some m, none, h, h' => by have := h' m h.1; rw [h.2.1] at this; cases this
  | some m, some m', h, h' => by rw [slL_tri (h'.2.2 m h.1 h.2.1) (h.2.2 m' h'.1 h'.2.1)]
def stepA (b : Option (List Int)) (p : List Int) : Option (List Int) := if fullB p && (match b with | none => true | some m => decide (p.length < m.length)) then some p else b
def bestA (ps : List (List Int)) : Option (List Int) := ps.foldl stepA none
def stepS (b : Option (List Int)) (p : List Int) : Option (List Int) := if fullB p && (match b with | none => true | some m => decide (p.length < m.length) || (decide (p.length = m.length) && befL p m)) then some p else b
def bestS (ps : List (List Int)) : Option (List Int) := ps.foldl stepS none
theorem bestA_snoc (ps : List (List Int)) (p : List Int) : bestA (ps ++ [p]) = stepA (bestA ps) p := by unfold bestA; rw [List.foldl_append]; rfl
theorem bestS_snoc (ps : List (List Int)) (p : List Int) : bestS (ps ++ [p]) = stepS (bestS ps) p := by unfold bestS; rw [List.foldl_append]; rfl
theorem isB_ext {S T : List Int → Prop} (h : ∀ p, S p ↔ T p) {r : Option (List Int)} (hr : isB S r) : isB T r := by
  have : S = T := funext fun p => propext (h p)
  rw [← this]; exact hr
theorem snoc_ind {α : Type} {M : List α → Prop} (h0 : M []) (h1 : ∀ l x, M l → M (l ++ [x])) (l : List α) : M l := by
  have : ∀ l : List α, M l.reverse := by
    intro l
    induction l with
    | nil => exact h0
    | cons x t ih => rw [List.reverse_cons]; exact h1 _ _ ih
  have h := this l.reverse
  rwa [List.reverse_reverse] at h
theorem bestA_is (ps : List (List Int)) : ps.Pairwise (fun a b => befL a b = true) → isB (· ∈ ps) (bestA ps) := by
  refine snoc_ind (M := fun ps => ps.Pairwise (fun a b => befL a b = true) → isB (· ∈ ps) (bestA ps)) ?_ ?_ ps
  · intro _ p hp; simp at hp
  · intro ps p ih hpw
    rw [List.pairwise_append] at hpw
    obtain ⟨hp1, _, hp2⟩ := hpw
    have hi := ih hp1
    have hq : ∀ q ∈ ps, befL q p = true := fun q hq => hp2 q hq p (by simp)
    rw [bestA_snoc]
    unfold stepA
    cases hf : fullB p
    · simp only [Bool.false_and, Bool.false_eq_true, if_false]
      cases hb : bestA ps with
      | none =>
        rw [hb] at hi
        intro q hq2
        rcases List.mem_append.1 hq2 with h | h
        · exact hi q h
        · simp at h; rw [h]; exact hf
      | some m =>
        rw [hb] at hi
        refine ⟨List.mem_append_left _ hi.1, hi.2.1, fun q hq2 hqf => ?_⟩
        rcases List.mem_append.1 hq2 with h | h
        · exact hi.2.2 q h hqf
        · simp at h; rw [h, hf] at hqf; cases hqf
    · simp only [Bool.true_and]
      cases hb : bestA ps with
      | none =>
        rw [hb] at hi
        simp only [if_true]
        refine ⟨by simp, hf, fun q hq2 hqf => ?_⟩
        rcases List.mem_append.1 hq2 with h | h
        · rw [hi q h] at hqf; cases hqf
        · simp at h; subst h
          unfold slL
          rw [befL_irr]; simp
      | some m =>
        rw [hb] at hi
        simp only [decide_eq_true_eq]
        by_cases hl : p.length < m.length
        · rw [if_pos hl]
          refine ⟨by simp, hf, fun q hq2 hqf => ?_⟩
          rcases List.mem_append.1 hq2 with h | h
          · have := hi.2.2 q h hqf
            unfold slL at *
            omega
          · simp at h; subst h
            unfold slL
            rw [befL_irr]; simp
        · rw [if_neg hl]
          refine ⟨List.mem_append_left _ hi.1, hi.2.1, fun q hq2 hqf => ?_⟩
          rcases List.mem_append.1 hq2 with h | h
          · exact hi.2.2 q h hqf
          · simp at h; subst h
            have := befL_asym (hq m hi.1)
            unfold slL
            rw [this]; simp; omega
theorem bestS_is (ps : List (List Int)) : isB (· ∈ ps) (bestS ps) := by
  refine snoc_ind (M := fun ps => isB (· ∈ ps) (bestS ps)) ?_ ?_ ps
  · intro p hp; simp at hp
  · intro ps p hi
    rw [bestS_snoc]
    unfold stepS
    cases hf : fullB p
    · simp only [Bool.false_and, Bool.false_eq_true, if_false]
      cases hb : bestS ps with
      | none =>
        rw [hb] at hi
        intro q hq2
        rcases List.mem_append.1 hq2 with h | h
        · exact hi q h
        · simp at h; rw [h]; exact hf
      | some m =>
        rw [hb] at hi
        refine ⟨List.mem_append_left _ hi.1, hi.2.1, fun q hq2 hqf => ?_⟩
        rcases List.mem_append.1 hq2 with h | h
        · exact hi.2.2 q h hqf
        · simp at h; rw [h, hf] at hqf; cases hqf
    · simp only [Bool.true_and]
      cases hb : bestS ps with
      | none =>
        rw [hb] at hi
        simp only [if_true]
        refine ⟨by simp, hf, fun q hq2 hqf => ?_⟩
        rcases List.mem_append.1 hq2 with h | h
        · rw [hi q h] at hqf; cases hqf
        · simp at h; subst h
          unfold slL
          rw [befL_irr]; simp
      | some m =>
        rw [hb] at hi
        simp only [Bool.or_eq_true, Bool.and_eq_true, decide_eq_true_eq]
        by_cases hl : p.length < m.length ∨ (p.length = m.length ∧ befL p m = true)
        · rw [if_pos hl]
          refine ⟨by simp, hf, fun q hq2 hqf hs => ?_⟩
          rcases List.mem_append.1 hq2 with h | h
          · exact hi.2.2 q h hqf (slL_trans hs hl)
          · simp at h; subst h
            unfold slL at hs
            rw [befL_irr] at hs; simp at hs
        · rw [if_neg hl]
          refine ⟨List.mem_append_left _ hi.1, hi.2.1, fun q hq2 hqf hs => ?_⟩
          rcases List.mem_append.1 hq2 with h | h
          · exact hi.2.2 q h hqf hs
          · simp at h; subst h
            exact hl hs
theorem loopE_form : ∀ (l part q : List Int), q ∈ loopE l part → ∃ y r, q = part ++ y :: r ∧ y ∈ l
  | [], part, q, h => by simp [loopE] at h
  | x :: t, part, q, h => by
    rw [loopE_cons] at h
    rcases List.mem_append.1 h with h | h
    · rcases List.mem_cons.1 h with h | h
      · exact ⟨x, [], by rw [h], by simp⟩
      · obtain ⟨y, r, e, _⟩ := loopE_form t (part ++ [x]) q h
        exact ⟨x, y :: r, by rw [e]; simp, by simp⟩
    · obtain ⟨y, r, e, hy⟩ := loopE_form t part q h
      exact ⟨y, r, e, List.mem_cons_of_mem _ hy⟩
theorem loopE_lex : ∀ (l part : List Int), l.Pairwise (· < ·) → (loopE l part).Pairwise (fun a b => befL a b = true)
  | [], part, _ => by simp [loopE]
  | x :: t, part, h => by
    rw [List.pairwise_cons] at h
    rw [loopE_cons, List.pairwise_append]
    refine ⟨?_, loopE_lex t part h.2, fun a ha b hb => ?_⟩
    · rw [List.pairwise_cons]
      refine ⟨fun q hq => ?_, loopE_lex t (part ++ [x]) h.2⟩
      obtain ⟨y, r, e, _⟩ := loopE_form t (part ++ [x]) q hq
      rw [e]
      have := befL_pre (part ++ [x]) [] (y :: r)
      rw [List.append_nil] at this
      rw [this]; rfl
    · obtain ⟨y, r, e, hy⟩ := loopE_form t part b hb
      have hx : ∃ r2, a = part ++ x :: r2 := by
        rcases List.mem_cons.1 ha with ha | ha
        · exact ⟨[], ha⟩
        · obtain ⟨z, r2, e2, _⟩ := loopE_form t (part ++ [x]) a ha
          exact ⟨z :: r2, by rw [e2]; simp⟩
      obtain ⟨r2, e2⟩ := hx
      rw [e, e2, befL_pre]
      have := h.1 y hy
      unfold befL
      rw [if_neg (by omega)]; simpa using this
theorem subsL_lex (set : List Int) (h : set.Pairwise (· < ·)) : (subsL set).Pairwise (fun a b => befL a b = true) := by
  unfold subsL
  rw [List.pairwise_cons]
  refine ⟨fun q hq => ?_, loopE_lex set [] h⟩
  obtain ⟨y, r, e, _⟩ := loopE_form set [] q hq
  rw [e]; rfl
theorem mem_parts : ∀ (l part q : List Int), q ∈ part :: loopE l part ↔ ∃ s, s < 2 ^ l.length ∧ q = part ++ digsL l s
  | [], part, q => by
    simp [loopE, digsL, pick, prtL]
  | x :: t, part, q => by
    have h1 := mem_parts t (part ++ [x]) q
    have h2 := mem_parts t part q
    have e : q ∈ part :: loopE (x :: t) part ↔ (q ∈ part :: loopE t part ∨ q ∈ (part ++ [x]) :: loopE t (part ++ [x])) := by
      rw [loopE_cons]
      simp only [List.mem_cons, List.mem_append]
      constructor
      · rintro (h | ((h | h) | h))
        · exact .inl (.inl h)
        · exact .inr (.inl h)
        · exact .inr (.inr h)
        · exact .inl (.inr h)
      · rintro ((h | h) | (h | h))
        · exact .inl h
        · exact .inr (.inr h)
        · exact .inr (.inl (.inl h))
        · exact .inr (.inl (.inr h))
    rw [e, h1, h2, List.length_cons, Nat.pow_succ]
    constructor
    · rintro (⟨s, hs, h⟩ | ⟨s, hs, h⟩)
      · exact ⟨s, by omega, by rw [digsL_low hs]; exact h⟩
      · exact ⟨2 ^ t.length + s, by omega, by rw [digsL_high hs, h]; simp⟩
    · rintro ⟨s, hs, h⟩
      by_cases hlt : s < 2 ^ t.length
      · left; exact ⟨s, hlt, by rw [digsL_low hlt] at h; exact h⟩
      · right
        refine ⟨s - 2 ^ t.length, by omega, ?_⟩
        have e2 : s = 2 ^ t.length + (s - 2 ^ t.length) := by omega
        rw [e2, digsL_high (by omega)] at h
        rw [h]; simp
/-- the parts told by bits -/
def partsS (set : List Int) (n : Nat) : List (List Int) := (List.range n).map (digsL set)
theorem partsS_succ (set : List Int) (n : Nat) : partsS set (n + 1) = partsS set n ++ [digsL set n] := by unfold partsS; rw [List.range_succ, List.map_append]; rfl
theorem best_same (set : List Int) (h : set.Pairwise (· < ·)) : bestS (partsS set (2 ^ set.length)) = bestA (subsL set) := by
  refine isB_same (isB_ext (fun p => ?_) (bestS_is _)) (bestA_is _ (subsL_lex set h))
  have := mem_parts set [] p
  unfold partsS
  rw [List.mem_map]
  show _ ↔ p ∈ subsL set
  unfold subsL
  rw [this]
  constructor
  · rintro ⟨s, hs, e⟩; exact ⟨s, List.mem_range.1 hs, e.symm⟩
  · rintro ⟨s, hs, e⟩; exact ⟨s, List.mem_range.2 hs, e.symm⟩
end Go.Proofs.Ytlipkplomndjcaa
