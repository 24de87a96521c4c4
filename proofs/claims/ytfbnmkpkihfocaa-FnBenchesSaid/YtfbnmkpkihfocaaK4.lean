/- Texts of this claim, gathered: ShownRow, Bench3, Job1. -/
import Derived.Test.YtfbnmkpkihfocaaK3
import Derived.Deep.AppendLies
import Derived.Lib.SliceRun
namespace Go.Proofs.Ytfbnmkpkihfocaa
open Go.RowKit
set_option linter.unusedVariables false
set_option maxRecDepth 100000
def shownTo (fs : List (Int × Int)) (r : List Int) (k : Nat) : List Int := ((fs.zip r).take k).map fun p => shC p.1.1 p.1.2 p.2
theorem shownTo_le (fs : List (Int × Int)) (r : List Int) (k : Nat) : (shownTo fs r k).length ≤ k := by simp [shownTo, List.length_take]; omega
theorem shownTo_succ {fs : List (Int × Int)} {r : List Int} {k : Nat} {f : Int × Int} {c : Int} (hf : fs[k]? = some f) (hc : r[k]? = some c) : shownTo fs r (k + 1) = shownTo fs r k ++ [shC f.1 f.2 c] := by
  have h : (fs.zip r)[k]? = some (f, c) := by rw [List.getElem?_zip_eq_some]; exact ⟨hf, hc⟩
  unfold shownTo
  rw [take_snoc h]; simp
def srL (fs : List (Int × Int)) (r : List Int) : List Int := if areB fs r then shownTo fs r r.length else []
theorem srL_le (fs : List (Int × Int)) (r : List Int) : (srL fs r).length ≤ 6 := by
  unfold srL; split
  · rename_i h; exact Nat.le_trans (shownTo_le _ _ _) (rowB_le (areB_row h))
  · simp
/-- the post of a text that returns a slice of ints of the call's own and a bool -/
def IntsPost (w : World) (L : List Int) (b : Bool) (e : Ending) (w' : World) : Prop :=
  ∃ u, e = .returned (.tuple #[u, .bool b]) ∧ w'.ownsRow w.heap.size 3 1 u L.length (L.map (Value.int .i64)) ∧ Below w.heap.size w w'
theorem IntsPost.mk' {w w' : World} {L L' : List Int} {b b' : Bool} {u : Value} (hL : L = L') (hbb : b = b') (ho : w'.ownsRow w.heap.size 3 1 u L'.length (L'.map (Value.int .i64))) (hb : Below w.heap.size w w') : IntsPost w L b (.returned (.tuple #[u, .bool b'])) w' := by
  subst hL hbb; exact ⟨u, rfl, ho, hb⟩
end Go.Proofs.Ytfbnmkpkihfocaa
namespace Go.Proofs.Ytfbnmkpkihfocaa
open Go.RowKit
set_option linter.unusedVariables false
set_option maxRecDepth 100000
def shAt (b : List Int) (k : Nat) : Int := shC (bF b k).1 (bF b k).2 (bg b k)
def shTo (b : List Int) (n : Nat) : List Int := (List.range n).map (shAt b)
theorem shTo_succ (b : List Int) (n : Nat) : shTo b (n + 1) = shTo b n ++ [shAt b n] := by unfold shTo; rw [List.range_succ, List.map_append]; rfl
theorem shTo_len (b : List Int) (n : Nat) : (shTo b n).length = n := by simp [shTo]
theorem take_succ_bg {b : List Int} {n : Nat} (h : n < b.length) : b.take (n + 1) = b.take n ++ [bg b n] := by
  rw [take_snoc (List.getElem?_eq_getElem h)]; simp [bg, h]
theorem goodB_at {b : List Int} (h : goodB b = true) {k : Nat} (hk : k < 6) : (0 ≤ (bF b k).1 ∧ (bF b k).1 ≤ 127 ∧ 0 ≤ (bF b k).2 ∧ (bF b k).2 ≤ 127) ∧ 0 ≤ bg b k ∧ bg b k ≤ 127 := by
  unfold goodB goodTo at h
  simp only [Bool.and_eq_true, List.all_eq_true, List.mem_range] at h
  have := h.1 k hk
  unfold goodAt fB at this
  simp only [Bool.and_eq_true] at this
  have h1 := faultB_true this.2
  exact ⟨⟨h1.1, h1.2.1, h1.2.2.1, h1.2.2.2.1⟩, cellB_true this.1⟩
theorem index6_0 (x0 x1 x2 x3 x4 x5 : Int) (w : World) : (Instr.index 48 (.agg #[.int .i64 x0, .int .i64 x1, .int .i64 x2, .int .i64 x3, .int .i64 x4, .int .i64 x5]) (.int .i64 0)).run Try.prog w = .ok (.int .i64 x0) w := by kernel_rfl
theorem index6_1 (x0 x1 x2 x3 x4 x5 : Int) (w : World) : (Instr.index 48 (.agg #[.int .i64 x0, .int .i64 x1, .int .i64 x2, .int .i64 x3, .int .i64 x4, .int .i64 x5]) (.int .i64 1)).run Try.prog w = .ok (.int .i64 x1) w := by kernel_rfl
theorem index6_2 (x0 x1 x2 x3 x4 x5 : Int) (w : World) : (Instr.index 48 (.agg #[.int .i64 x0, .int .i64 x1, .int .i64 x2, .int .i64 x3, .int .i64 x4, .int .i64 x5]) (.int .i64 2)).run Try.prog w = .ok (.int .i64 x2) w := by kernel_rfl
theorem index6_3 (x0 x1 x2 x3 x4 x5 : Int) (w : World) : (Instr.index 48 (.agg #[.int .i64 x0, .int .i64 x1, .int .i64 x2, .int .i64 x3, .int .i64 x4, .int .i64 x5]) (.int .i64 3)).run Try.prog w = .ok (.int .i64 x3) w := by kernel_rfl
theorem index6_4 (x0 x1 x2 x3 x4 x5 : Int) (w : World) : (Instr.index 48 (.agg #[.int .i64 x0, .int .i64 x1, .int .i64 x2, .int .i64 x3, .int .i64 x4, .int .i64 x5]) (.int .i64 4)).run Try.prog w = .ok (.int .i64 x4) w := by kernel_rfl
theorem index6_5 (x0 x1 x2 x3 x4 x5 : Int) (w : World) : (Instr.index 48 (.agg #[.int .i64 x0, .int .i64 x1, .int .i64 x2, .int .i64 x3, .int .i64 x4, .int .i64 x5]) (.int .i64 5)).run Try.prog w = .ok (.int .i64 x5) w := by kernel_rfl
theorem index6 {b : List Int} (hb : b.length = 6) {k : Nat} (hk : k < 6) (w : World) : (Instr.index 48 (.agg (ints b).toArray) (.int .i64 (k : Int))).run Try.prog w = .ok (.int .i64 (bg b k)) w := by
  obtain ⟨x0, x1, x2, x3, x4, x5, rfl⟩ := len6 hb
  have h : k = 0 ∨ k = 1 ∨ k = 2 ∨ k = 3 ∨ k = 4 ∨ k = 5 := by omega
  rcases h with rfl | rfl | rfl | rfl | rfl | rfl
  · exact index6_0 x0 x1 x2 x3 x4 x5 w
  · exact index6_1 x0 x1 x2 x3 x4 x5 w
  · exact index6_2 x0 x1 x2 x3 x4 x5 w
  · exact index6_3 x0 x1 x2 x3 x4 x5 w
  · exact index6_4 x0 x1 x2 x3 x4 x5 w
  · exact index6_5 x0 x1 x2 x3 x4 x5 w
theorem bg_pt {b : List Int} (h : b.length = 19) {k : Nat} (hk : k < 6) : bg (pt b 0) k = bg b k := by
  unfold bg pt; simp [hk]
theorem shown_b_c (b : List Int) (w : World) (hb : b.length = 19) (hg : goodB b = true) :
    Calls Try.prog 82 #[aggI b] w fun e w' => ∃ u, e = .returned u ∧ w'.ownsRow w.heap.size 3 1 u (shTo b 6).length (ints (shTo b 6)) ∧ Below w.heap.size w w' := by
  unfold aggI
  obtain ⟨i, hi, hz0, hz1, hz2⟩ := info_parts info_int
  have HW : Hid (∀ wr, Below (w.alloc (.cells (ints b).toArray 50)).heap.size (w.alloc (.cells (ints b).toArray 50)) wr → Below w.heap.size w wr) := fun wr h => Below.chain (below_one _) h
  have r0 := range_new w (ints b) 50
  have p1 := part6_len hb (o := 0) (by decide)
  go_enter Try.func82, Try.ntmps82
  go_wp2_with (refine wpList_load6 rfl _ rfl _ _ rfl _ (part6 r0 0) p1 ?_)
  generalize hwb : w.alloc (.cells (ints b).toArray 50) = wb at *
  have hwz : w.heap.size + 1 = wb.heap.size := by rw [← hwb]; simp
  go_loopw [3, 8] (fun o j wr => ∃ k : Nat, k ≤ 6 ∧ j = .int .i64 (k : Int) ∧ wr.ownsRow wb.heap.size 3 1 o k (ints (shTo b k)) ∧ Below wb.heap.size wb wr) (fun _ j _ => 7 - (intOf j).toNat)
  case atStart => exact ⟨0, by omega, rfl, World.ownsRow_nil _ _ _ _, Below.refl _ _⟩
  case round =>
    obtain ⟨k, hk, rfl, ho, hbw⟩ := hrel
    by_cases hlt : k < 6
    · have hd : decide ((k : Int) < 6) = true := by simp; omega
      have hr : wr.rangeAt w.heap.size 0 (ints b) := range_below r0 hbw
      have hix := fun w => index6 p1 hlt w
      have HP := Lib.hid (bg_pt hb hlt)
      have HS := Lib.hid (shTo_succ b k)
      have bd := goodB_at hg hlt
      go_wp2_with (refine wpList_loadB rfl _ rfl _ rfl b hr hb ?_)
      refine (bfault_c b k _ hb hlt).mono ?_
      rintro e w3 ⟨rfl, hb3⟩
      have hb4 := Below.chain hbw hb3
      have ho4 := own_keep ho hb3
      clear hb3 hbw hr ho
      rw [HP.out]
      go_wp2_with fail
      refine (shown_c (bF b k).1 (bF b k).2 (bg b k) bd.1.1 bd.1.2.1 bd.1.2.2.1 bd.1.2.2.2 bd.2.1 bd.2.2 _).mono ?_
      rintro e w4 ⟨rfl, hb5⟩
      have hb6 := Below.chain hb4 hb5
      have ho6 := own_keep ho4 hb5
      clear hb4 hb5 ho4
      have hX : shC (bF b k).1 (bF b k).2 (bg b k) = shAt b k := rfl
      rw [hX]
      clear hX
      generalize shAt b k = X at *
      go_wp2_with (at_builtin; refine wpList_append_own_at _ rfl _ _ 27 rfl wb.heap.size 3 i (.int .i64 0) 1 8 Try.underlying27 hi hz0 hz1 hz2 rfl (by decide) _ k (ints (shTo b k)) rfl (ho6.alloc _) ⟨w4.heap.size, 0, none⟩ 1 1 [.int .i64 X] rfl rfl (news_new _ [.int .i64 X] _) (by simp [Value.oneCell']) (by unfold maxLen; omega) (by omega) (by have := hb6.size; simp; omega) ?_)
      intro v' w5 ho5 hg5 _ _
      have hb7 : Below wb.heap.size wb w5 := (Below.alc hb6 _).grown hg5 (by have := hb6.size; simp; omega) (fun g hg => (ho6.lt g hg).1)
      clear ho6 hb6 hg5
      go_wp2
      go_roundw
      case rel => exact ⟨k + 1, by omega, by go_num, by rw [HS.out]; exact ownsRow_cast ho5 rfl (by simp), hb7⟩
      case measure => simp [intOf]; omega
    · obtain rfl : k = 6 := by omega
      go_wp2
      go_ret
      exact ⟨_, rfl, own_lo (ownsRow_cast ho (shTo_len b 6).symm rfl) (by omega), HW.out _ hbw⟩
theorem ints_cells {w : World} {ad : Addr} {n c : Nat} {xs : List Int} (h : Ints w (.slice (some ad) n c) xs) : ∀ j u, (ints xs)[j]? = some u → w.cell? (ad.add j) = some u := by
  intro j u hu
  obtain ⟨a, c', e, _, _, HC⟩ := h.parts
  simp only [ints, List.getElem?_map, Option.map_eq_some_iff] at hu
  obtain ⟨x, hx, rfl⟩ := hu
  obtain ⟨b, off, e2, hc⟩ := HC.out j x hx
  injection e with e1 e3 e4
  rw [e2] at e1
  injection e1 with e5
  subst e5
  rw [Addr.add_lit]; exact hc
theorem Clone_c (v : Value) (xs : List Int) (w : World) (hv : Ints w v xs) (hn : xs.length ≤ 1048576) :
    Calls Try.prog 80 #[v] w fun e w' => ∃ u, e = .returned u ∧ w'.ownsRow w.heap.size 3 1 u xs.length (ints xs) ∧ Below w.heap.size w w' := by
  obtain ⟨i, hi, hz0, hz1, hz2⟩ := info_parts info_int
  have hv0 := hv
  obtain ⟨a, c, rfl, _, _, _⟩ := hv.parts
  cases a with
  | none =>
    have hx : xs = [] := by
      obtain ⟨a', c', e, _, _, HC⟩ := hv0.parts
      cases xs with
      | nil => rfl
      | cons x t =>
        obtain ⟨b, off, e2, _⟩ := HC.out 0 x rfl
        injection e with e1
        rw [e2] at e1; cases e1
    subst hx
    have hnil := fun (w : World) => Lib.run_eql_slice_nil (P := Try.prog) w 27 3 none 0 c 0 0 Try.underlying27
    simp only [List.length_nil, List.map_nil]
    go_enter Try.func80, Try.ntmps80
    go_wp2
    go_ret
    exact ⟨_, rfl, World.ownsRow_nil _ _ _ _, by (repeat (first | exact Below.refl _ _ | exact (Below.refl _ _).drew | assumption | exact below_one _ | refine Below.chain ?_ (by assumption) | refine Below.drew ?_ | refine Below.alc ?_ _ | refine below_drewN ?_ | (refine Below.setCell ?_ ?_ _) | exact Nat.le_refl _ | (simp; done) | (simp; omega)))⟩
  | some ad =>
    have hc := ints_cells (hv.below (below_one (.cells #[] 3)))
    have ho0 := World.ownsRow_lit (e := 3) (size := 1) (base := w.heap.size) w #[] 0 (Nat.le_refl _) (by decide) rfl
    have HC := Lib.hid hc
    clear hc hv hv0
    have hnil := fun (w : World) => Lib.run_eql_slice_nil (P := Try.prog) w 27 3 (some ad) xs.length c 0 0 Try.underlying27
    go_enter Try.func80, Try.ntmps80
    go_wp2_with (at_builtin; refine wpList_append_own_at _ rfl _ _ 27 rfl w.heap.size 3 i (.int .i64 0) 1 8 Try.underlying27 hi hz0 hz1 hz2 rfl (by decide) _ 0 [] rfl ho0 ad xs.length c (ints xs) rfl (by simp) HC.out ints_one (by unfold maxLen; omega) (by omega) (by simp) ?_)
    intro v' w1 ho1 hg1 _ _
    have hb1 : Below w.heap.size w w1 := (below_one _).grown hg1 (by simp) (fun g hg => (ho0.lt g hg).1)
    go_wp2
    go_ret
    exact ⟨_, rfl, ownsRow_cast ho1 (by simp) (by simp), hb1⟩
/-- the cells of a Bench, sent or shown -/
def rowOf (b : List Int) (s : Bool) (n : Nat) : List Int := if s then shTo b n else b.take n
theorem rowOf_len {b : List Int} (hb : b.length = 19) (s : Bool) {n : Nat} (h : n ≤ 6) : (rowOf b s n).length = n := by
  unfold rowOf; split
  · exact shTo_len _ _
  · rw [List.length_take]; omega
theorem rowOf_succ {b : List Int} (hb : b.length = 19) (s : Bool) {n : Nat} (h : n < 6) : rowOf b s (n + 1) = rowOf b s n ++ [if s then shAt b n else bg b n] := by
  unfold rowOf; split
  · exact shTo_succ _ _
  · exact take_succ_bg (by omega)
theorem range_grown {w w' : World} {g o : Nat} {cs : List Value} {r : Option Nat} (h : w.rangeAt g o cs) (hg : w.grownBy w' r) (hr : some g ≠ r) : w'.rangeAt g o cs := fun j v hv =>
  hg.cell (h j v hv) hr
theorem l12Row_c (b : List Int) (s : Bool) (w : World) (hb : b.length = 19) (hg : goodB b = true) :
    Calls Try.prog 81 #[aggI b, .bool s] w fun e w' => ∃ u, e = .returned u ∧ w'.ownsRow w.heap.size 3 1 u (rowOf b s 6).length (ints (rowOf b s 6)) ∧ Below w.heap.size w w' := by
  unfold aggI
  obtain ⟨i, hi, hz0, hz1, hz2⟩ := info_parts info_int
  have r0 := World.rangeAt_alloc (range_new w (ints b) 50) (.cells #[] 3)
  have ho0 := World.ownsRow_lit (e := 3) (size := 1) (base := w.heap.size + 1) (w.alloc (.cells (ints b).toArray 50)) #[] 0 (by simp) (by decide) rfl
  have hb0 : Below w.heap.size w ((w.alloc (.cells (ints b).toArray 50)).alloc (.cells #[] 3)) := by (repeat (first | exact Below.refl _ _ | exact (Below.refl _ _).drew | assumption | exact below_one _ | refine Below.chain ?_ (by assumption) | refine Below.drew ?_ | refine Below.alc ?_ _ | refine below_drewN ?_ | (refine Below.setCell ?_ ?_ _) | exact Nat.le_refl _ | (simp; done) | (simp; omega)))
  have hw0 : w.heap.size + 1 ≤ ((w.alloc (.cells (ints b).toArray 50)).alloc (.cells #[] 3)).heap.size := by simp
  have HL := Lib.hid (fun n h => rowOf_len hb s (n := n) h)
  go_enter Try.func81, Try.ntmps81
  go_wp2
  generalize (w.alloc (.cells (ints b).toArray 50)).alloc (.cells #[] 3) = wb at *
  simp only [World.size_alloc] at ho0
  go_loopw [5, 6] (fun o j wr => ∃ k : Nat, k ≤ 6 ∧ j = .int .i64 (k : Int) ∧ wr.ownsRow (w.heap.size + 1) 3 1 o k (ints (rowOf b s k)) ∧ Below w.heap.size w wr ∧ wr.rangeAt w.heap.size 0 (ints b) ∧ w.heap.size + 1 ≤ wr.heap.size) (fun _ j _ => 7 - (intOf j).toNat)
  case atStart => exact ⟨0, by omega, rfl, ownsRow_cast ho0 rfl (by cases s <;> simp [rowOf, shTo]), hb0, r0, hw0⟩
  case round =>
    obtain ⟨k, hk, rfl, ho, hbw, hr, hsz⟩ := hrel
    clear ho0 hb0 r0 hw0
    by_cases hlt : k < 6
    · have hd : decide ((k : Int) < 6) = true := by simp; omega
      have g0 := cell18 hr (j := k) (by omega)
      have HS := Lib.hid (rowOf_succ hb s hlt)
      have bd := goodB_at hg hlt
      cases s with
      | false =>
        have HS2 := Lib.hid (show rowOf b false (k + 1) = rowOf b false k ++ [bg b k] from HS.out)
        clear HS
        generalize bg b k = X at *
        go_wp2_with (at_builtin; refine wpList_append_own_at _ rfl _ _ 27 rfl (w.heap.size + 1) 3 i (.int .i64 0) 1 8 Try.underlying27 hi hz0 hz1 hz2 rfl (by decide) _ k (ints (rowOf b false k)) rfl (ho.alloc _) ⟨wr.heap.size, 0, none⟩ 1 1 [.int .i64 X] rfl rfl (news_new _ [.int .i64 X] _) (by simp [Value.oneCell']) (by unfold maxLen; omega) (by omega) (by simp; omega) ?_)
        intro v' w5 ho5 hg5 _ hat
        have hb7 : Below w.heap.size w w5 := (Below.alc hbw _).grown hg5 (by simp; omega) (fun g hg => by have := (ho.lt g hg).1; omega)
        have hr7 := range_grown (World.rangeAt_alloc hr _) hg5 (fun e => by have := (ho.lt _ e.symm).1; omega)
        have hsz7 : w.heap.size + 1 ≤ w5.heap.size := Nat.le_trans (by simp; omega) hg5.size
        clear ho hbw hr hg5 g0
        go_wp2
        go_roundw
        case rel => exact ⟨k + 1, by omega, by go_num, by rw [HS2.out]; exact ownsRow_cast ho5 rfl (by simp), hb7, hr7, hsz7⟩
        case measure => simp [intOf]; omega
      | true =>
        have HS2 := Lib.hid (show rowOf b true (k + 1) = rowOf b true k ++ [shAt b k] from HS.out)
        clear HS
        go_wp2_with (refine wpList_loadB rfl _ rfl _ rfl b hr hb ?_)
        refine (l12Fault_c b k _ hb hlt).mono ?_
        rintro e w3 ⟨rfl, hb3⟩
        have hb4 := Below.chain hbw hb3
        have ho4 := own_keep ho hb3
        have hr4 := range_below hr hb3
        have hsz4 := Nat.le_trans hsz hb3.size
        clear hb3 hbw hr ho g0
        go_wp2_with fail
        refine (l3Shown_c (bF b k).1 (bF b k).2 (bg b k) bd.1.1 bd.1.2.1 bd.1.2.2.1 bd.1.2.2.2 bd.2.1 bd.2.2 _).mono ?_
        rintro e w4 ⟨rfl, hb5⟩
        have hb6 := Below.chain hb4 hb5
        have ho6 := own_keep ho4 hb5
        have hr6 := range_below hr4 hb5
        have hsz6 := Nat.le_trans hsz4 hb5.size
        clear hb4 hb5 ho4 hr4
        have hX : shC (bF b k).1 (bF b k).2 (bg b k) = shAt b k := rfl
        rw [hX]
        clear hX
        generalize shAt b k = X at *
        go_wp2_with (at_builtin; refine wpList_append_own_at _ rfl _ _ 27 rfl (w.heap.size + 1) 3 i (.int .i64 0) 1 8 Try.underlying27 hi hz0 hz1 hz2 rfl (by decide) _ k (ints (rowOf b true k)) rfl (ho6.alloc _) ⟨w4.heap.size, 0, none⟩ 1 1 [.int .i64 X] rfl rfl (news_new _ [.int .i64 X] _) (by simp [Value.oneCell']) (by unfold maxLen; omega) (by omega) (by simp; omega) ?_)
        intro v' w5 ho5 hg5 _ hat
        have hb7 : Below w.heap.size w w5 := (Below.alc hb6 _).grown hg5 (by simp; omega) (fun g hg => by have := (ho6.lt g hg).1; omega)
        have hr7 := range_grown (World.rangeAt_alloc hr6 _) hg5 (fun e => by have := (ho6.lt _ e.symm).1; omega)
        have hsz7 : w.heap.size + 1 ≤ w5.heap.size := Nat.le_trans (by simp; omega) hg5.size
        clear ho6 hb6 hr6 hg5
        go_wp2
        go_roundw
        case rel => exact ⟨k + 1, by omega, by go_num, by rw [HS2.out]; exact ownsRow_cast ho5 rfl (by simp), hb7, hr7, hsz7⟩
        case measure => simp [intOf]; omega
    · obtain rfl : k = 6 := by omega
      go_wp2
      go_ret
      exact ⟨_, rfl, own_lo (ownsRow_cast ho (HL.out 6 (by omega)).symm rfl) (by omega), hbw⟩
/-- what SentRow and BenchRow return -/
def brL (b : List Int) (s : Bool) : List Int := if goodB b then rowOf b s 6 else []
theorem brL_le (b : List Int) (s : Bool) : (brL b s).length ≤ 6 := by
  unfold brL rowOf; split
  · split
    · rw [shTo_len]; omega
    · rw [List.length_take]; omega
  · simp
theorem sSentRow_c (b : List Int) (w : World) (hb : b.length = 19) : Calls Try.prog 37 #[aggI b] w (IntsPost w (brL b false) (goodB b)) := by
  have r0 := range_new w (ints b) 50
  have hb0 := below_one (w := w) (.cells (ints b).toArray 50)
  unfold aggI
  rcases hq : goodB b with _ | _
  · have HL := Lib.hid (show brL b false = [] by simp [brL, hq])
    have HQ := Lib.hid hq; clear hq
    go_enter Try.func37, Try.ntmps37
    go_wp2_with (refine wpList_loadB rfl _ rfl _ rfl b r0 hb ?_)
    refine (l12Good_c b _ hb).mono ?_
    rintro e w1 ⟨rfl, hb1⟩
    rw [HQ.out]
    have hb2 := Below.chain hb0 hb1
    have ho0 := World.ownsRow_lit (e := 3) (size := 1) (base := w.heap.size) w1 #[] 0 hb2.size (by decide) rfl
    go_wp2
    go_ret2
    exact IntsPost.mk' HL.out rfl ho0 (Below.alc hb2 _)
  · have HL := Lib.hid (show brL b false = rowOf b false 6 by simp [brL, hq])
    have HQ := Lib.hid hq
    go_enter Try.func37, Try.ntmps37
    go_wp2_with (refine wpList_loadB rfl _ rfl _ rfl b r0 hb ?_)
    refine (l12Good_c b _ hb).mono ?_
    rintro e w1 ⟨rfl, hb1⟩
    rw [HQ.out]
    have r1 := range_below r0 hb1
    have hb2 := Below.chain hb0 hb1
    go_wp2_with (refine wpList_loadB rfl _ rfl _ rfl b r1 hb ?_)
    refine (l12Row_c b false _ hb hq).mono ?_
    rintro e w2 ⟨u, rfl, ho, hb3⟩
    have hb4 := Below.chain hb2 hb3
    go_wp2
    go_ret2
    exact IntsPost.mk' HL.out rfl (own_lo ho hb2.size) hb4
theorem sBenchRow_c (b : List Int) (w : World) (hb : b.length = 19) : Calls Try.prog 39 #[aggI b] w (IntsPost w (brL b true) (goodB b)) := by
  have r0 := range_new w (ints b) 50
  have hb0 := below_one (w := w) (.cells (ints b).toArray 50)
  unfold aggI
  rcases hq : goodB b with _ | _
  · have HL := Lib.hid (show brL b true = [] by simp [brL, hq])
    have HQ := Lib.hid hq; clear hq
    go_enter Try.func39, Try.ntmps39
    go_wp2_with (refine wpList_loadB rfl _ rfl _ rfl b r0 hb ?_)
    refine (l12Good_c b _ hb).mono ?_
    rintro e w1 ⟨rfl, hb1⟩
    rw [HQ.out]
    have hb2 := Below.chain hb0 hb1
    have ho0 := World.ownsRow_lit (e := 3) (size := 1) (base := w.heap.size) w1 #[] 0 hb2.size (by decide) rfl
    go_wp2
    go_ret2
    exact IntsPost.mk' HL.out rfl ho0 (Below.alc hb2 _)
  · have HL := Lib.hid (show brL b true = rowOf b true 6 by simp [brL, hq])
    have HQ := Lib.hid hq
    go_enter Try.func39, Try.ntmps39
    go_wp2_with (refine wpList_loadB rfl _ rfl _ rfl b r0 hb ?_)
    refine (l12Good_c b _ hb).mono ?_
    rintro e w1 ⟨rfl, hb1⟩
    rw [HQ.out]
    have r1 := range_below r0 hb1
    have hb2 := Below.chain hb0 hb1
    go_wp2_with (refine wpList_loadB rfl _ rfl _ rfl b r1 hb ?_)
    refine (l12Row_c b true _ hb hq).mono ?_
    rintro e w2 ⟨u, rfl, ho, hb3⟩
    have hb4 := Below.chain hb2 hb3
    go_wp2
    go_ret2
    exact IntsPost.mk' HL.out rfl (own_lo ho hb2.size) hb4
theorem BenchRow_c (b : List Int) (w : World) (hb : b.length = 19) : Calls Try.prog 38 #[aggI b] w (IntsPost w (brL b true) (goodB b)) := by
  have r0 := range_new w (ints b) 50
  have hb0 := below_one (w := w) (.cells (ints b).toArray 50)
  unfold aggI
  rcases hq : goodB b with _ | _
  · have HL := Lib.hid (show brL b true = [] by simp [brL, hq])
    have HQ := Lib.hid hq; clear hq
    go_enter Try.func38, Try.ntmps38
    go_wp2_with (refine wpList_loadB rfl _ rfl _ rfl b r0 hb ?_)
    refine (IsBench_c b _ hb).mono ?_
    rintro e w1 ⟨rfl, hb1⟩
    rw [HQ.out]
    have hb2 := Below.chain hb0 hb1
    go_wp2
    go_ret2
    exact IntsPost.mk' HL.out rfl (World.ownsRow_nil _ _ _ _) hb2
  · have HL := Lib.hid (show brL b true = rowOf b true 6 by simp [brL, hq])
    have HQ := Lib.hid hq
    go_enter Try.func38, Try.ntmps38
    go_wp2_with (refine wpList_loadB rfl _ rfl _ rfl b r0 hb ?_)
    refine (IsBench_c b _ hb).mono ?_
    rintro e w1 ⟨rfl, hb1⟩
    rw [HQ.out]
    have r1 := range_below r0 hb1
    have hb2 := Below.chain hb0 hb1
    go_wp2_with (refine wpList_loadB rfl _ rfl _ rfl b r1 hb ?_)
    refine (shown_b_c b _ hb hq).mono ?_
    rintro e w2 ⟨u, rfl, ho, hb3⟩
    have hb4 := Below.chain hb2 hb3
    go_wp2
    go_ret2
    exact IntsPost.mk' HL.out rfl (own_lo ho hb2.size) hb4
theorem SentRow_c (b : List Int) (w : World) (hb : b.length = 19) : Calls Try.prog 36 #[aggI b] w (IntsPost w (brL b false) (goodB b)) := by
  have r0 := range_new w (ints b) 50
  have hb0 := below_one (w := w) (.cells (ints b).toArray 50)
  unfold aggI
  rcases hq : goodB b with _ | _
  · have HL := Lib.hid (show brL b false = [] by simp [brL, hq])
    have HQ := Lib.hid hq; clear hq
    go_enter Try.func36, Try.ntmps36
    go_wp2_with (refine wpList_loadB rfl _ rfl _ rfl b r0 hb ?_)
    refine (IsBench_c b _ hb).mono ?_
    rintro e w1 ⟨rfl, hb1⟩
    rw [HQ.out]
    have hb2 := Below.chain hb0 hb1
    go_wp2
    go_ret2
    exact IntsPost.mk' HL.out rfl (World.ownsRow_nil _ _ _ _) hb2
  · have HL := Lib.hid (show brL b false = rowOf b false 6 by simp [brL, hq])
    have HQ := Lib.hid hq
    go_enter Try.func36, Try.ntmps36
    go_wp2_with (refine wpList_loadB rfl _ rfl _ rfl b r0 hb ?_)
    refine (IsBench_c b _ hb).mono ?_
    rintro e w1 ⟨rfl, hb1⟩
    rw [HQ.out]
    have r1 := range_below r0 hb1
    have hb2 := Below.chain hb0 hb1
    have hI := ints_box (w := w) (b := b) (t := 50) hb1 (n := 6) (by omega) (by omega) 6 (by omega) (by omega)
    go_wp2_with fail
    refine (Clone_c _ (b.take 6) _ hI (by simp; omega)).mono ?_
    rintro e w2 ⟨u, rfl, ho, hb3⟩
    have hb4 := Below.chain hb2 hb3
    go_wp2
    go_ret2
    exact IntsPost.mk' HL.out rfl (own_lo ho hb2.size) hb4
end Go.Proofs.Ytfbnmkpkihfocaa
namespace Go.Proofs.Ytfbnmkpkihfocaa
open Go.RowKit
set_option linter.unusedVariables false
set_option maxRecDepth 100000
/-- a cell whose bars stand elsewhere -/
def permC (p : List Nat) (c : Int) : Int := (((List.range 7).foldl (fun o k => o + c.toNat / 2 ^ (p.getD k 0) % 2 * 2 ^ k) 0 : Nat) : Int)
def mvC (t : Bool) (c : Int) : Int := permC (if t then [3, 4, 5, 0, 1, 2, 6] else [0, 5, 4, 3, 2, 1, 6]) c
theorem mvC_all : ∀ n : Fin 128, ∀ t : Bool, 0 ≤ mvC t (n.1 : Int) ∧ mvC t (n.1 : Int) ≤ 127 := by decide +kernel
theorem mvC_bd {c : Int} (t : Bool) (h0 : 0 ≤ c) (h1 : c ≤ 127) : 0 ≤ mvC t c ∧ mvC t c ≤ 127 := by
  obtain ⟨n, rfl⟩ := Int.eq_ofNat_of_zero_le h0
  exact mvC_all ⟨n, by omega⟩ t
theorem index7_0 (x0 x1 x2 x3 x4 x5 x6 : Int) (w : World) : (Instr.index 108 (.agg #[.int .i64 x0, .int .i64 x1, .int .i64 x2, .int .i64 x3, .int .i64 x4, .int .i64 x5, .int .i64 x6]) (.int .i64 0)).run Try.prog w = .ok (.int .i64 x0) w := by kernel_rfl
theorem index7_1 (x0 x1 x2 x3 x4 x5 x6 : Int) (w : World) : (Instr.index 108 (.agg #[.int .i64 x0, .int .i64 x1, .int .i64 x2, .int .i64 x3, .int .i64 x4, .int .i64 x5, .int .i64 x6]) (.int .i64 1)).run Try.prog w = .ok (.int .i64 x1) w := by kernel_rfl
theorem index7_2 (x0 x1 x2 x3 x4 x5 x6 : Int) (w : World) : (Instr.index 108 (.agg #[.int .i64 x0, .int .i64 x1, .int .i64 x2, .int .i64 x3, .int .i64 x4, .int .i64 x5, .int .i64 x6]) (.int .i64 2)).run Try.prog w = .ok (.int .i64 x2) w := by kernel_rfl
theorem index7_3 (x0 x1 x2 x3 x4 x5 x6 : Int) (w : World) : (Instr.index 108 (.agg #[.int .i64 x0, .int .i64 x1, .int .i64 x2, .int .i64 x3, .int .i64 x4, .int .i64 x5, .int .i64 x6]) (.int .i64 3)).run Try.prog w = .ok (.int .i64 x3) w := by kernel_rfl
theorem index7_4 (x0 x1 x2 x3 x4 x5 x6 : Int) (w : World) : (Instr.index 108 (.agg #[.int .i64 x0, .int .i64 x1, .int .i64 x2, .int .i64 x3, .int .i64 x4, .int .i64 x5, .int .i64 x6]) (.int .i64 4)).run Try.prog w = .ok (.int .i64 x4) w := by kernel_rfl
theorem index7_5 (x0 x1 x2 x3 x4 x5 x6 : Int) (w : World) : (Instr.index 108 (.agg #[.int .i64 x0, .int .i64 x1, .int .i64 x2, .int .i64 x3, .int .i64 x4, .int .i64 x5, .int .i64 x6]) (.int .i64 5)).run Try.prog w = .ok (.int .i64 x5) w := by kernel_rfl
theorem index7_6 (x0 x1 x2 x3 x4 x5 x6 : Int) (w : World) : (Instr.index 108 (.agg #[.int .i64 x0, .int .i64 x1, .int .i64 x2, .int .i64 x3, .int .i64 x4, .int .i64 x5, .int .i64 x6]) (.int .i64 6)).run Try.prog w = .ok (.int .i64 x6) w := by kernel_rfl
theorem mvT_i : ∀ n : Nat, n < 128 → (bits BinOp.or IntKind.i64 (bits BinOp.or IntKind.i64 (bits BinOp.or IntKind.i64 (bits BinOp.or IntKind.i64 (bits BinOp.or IntKind.i64 (bits BinOp.or IntKind.i64 (bits BinOp.or IntKind.i64 0 (wrap64 (bits BinOp.and IntKind.i64 (n : Int) 1 * 8))) (wrap64 (bits BinOp.and IntKind.i64 ((n : Int) / 2) 1 * 16))) (wrap64 (bits BinOp.and IntKind.i64 ((n : Int) / 4) 1 * 32))) (wrap64 (bits BinOp.and IntKind.i64 ((n : Int) / 8) 1))) (wrap64 (bits BinOp.and IntKind.i64 ((n : Int) / 16) 1 * 2))) (wrap64 (bits BinOp.and IntKind.i64 ((n : Int) / 32) 1 * 4))) (wrap64 (bits BinOp.and IntKind.i64 ((n : Int) / 64) 1 * 64))) = mvC true (n : Int) := by decide +kernel
theorem mvM_i : ∀ n : Nat, n < 128 → (bits BinOp.or IntKind.i64 (bits BinOp.or IntKind.i64 (bits BinOp.or IntKind.i64 (bits BinOp.or IntKind.i64 (bits BinOp.or IntKind.i64 (bits BinOp.or IntKind.i64 (bits BinOp.or IntKind.i64 0 (wrap64 (bits BinOp.and IntKind.i64 (n : Int) 1))) (wrap64 (bits BinOp.and IntKind.i64 ((n : Int) / 2) 1 * 32))) (wrap64 (bits BinOp.and IntKind.i64 ((n : Int) / 4) 1 * 16))) (wrap64 (bits BinOp.and IntKind.i64 ((n : Int) / 8) 1 * 8))) (wrap64 (bits BinOp.and IntKind.i64 ((n : Int) / 16) 1 * 4))) (wrap64 (bits BinOp.and IntKind.i64 ((n : Int) / 32) 1 * 2))) (wrap64 (bits BinOp.and IntKind.i64 ((n : Int) / 64) 1 * 64))) = mvC false (n : Int) := by decide +kernel
theorem mvT_s : ∀ n : Nat, n < 128 → (bits BinOp.or IntKind.i64 (bits BinOp.or IntKind.i64 (bits BinOp.or IntKind.i64 (bits BinOp.or IntKind.i64 (bits BinOp.or IntKind.i64 (bits BinOp.or IntKind.i64 (bits BinOp.or IntKind.i64 0 (wrap64 (bits BinOp.and IntKind.i64 ((n : Int) / 8) 1))) (wrap64 (bits BinOp.and IntKind.i64 ((n : Int) / 16) 1 * 2))) (wrap64 (bits BinOp.and IntKind.i64 ((n : Int) / 32) 1 * 4))) (wrap64 (bits BinOp.and IntKind.i64 (n : Int) 1 * 8))) (wrap64 (bits BinOp.and IntKind.i64 ((n : Int) / 2) 1 * 16))) (wrap64 (bits BinOp.and IntKind.i64 ((n : Int) / 4) 1 * 32))) (wrap64 (bits BinOp.and IntKind.i64 ((n : Int) / 64) 1 * 64))) = mvC true (n : Int) := by decide +kernel
theorem mvM_s : ∀ n : Nat, n < 128 → (bits BinOp.or IntKind.i64 (bits BinOp.or IntKind.i64 (bits BinOp.or IntKind.i64 (bits BinOp.or IntKind.i64 (bits BinOp.or IntKind.i64 (bits BinOp.or IntKind.i64 (bits BinOp.or IntKind.i64 0 (wrap64 (bits BinOp.and IntKind.i64 (n : Int) 1))) (wrap64 (bits BinOp.and IntKind.i64 ((n : Int) / 32) 1 * 2))) (wrap64 (bits BinOp.and IntKind.i64 ((n : Int) / 16) 1 * 4))) (wrap64 (bits BinOp.and IntKind.i64 ((n : Int) / 8) 1 * 8))) (wrap64 (bits BinOp.and IntKind.i64 ((n : Int) / 4) 1 * 16))) (wrap64 (bits BinOp.and IntKind.i64 ((n : Int) / 2) 1 * 32))) (wrap64 (bits BinOp.and IntKind.i64 ((n : Int) / 64) 1 * 64))) = mvC false (n : Int) := by decide +kernel
theorem movedT_c (c : Int) (w : World) (h0 : 0 ≤ c) (h1 : c ≤ 127) : Calls Try.prog 101 #[.int .i64 c, .agg #[.int .i64 3, .int .i64 4, .int .i64 5, .int .i64 0, .int .i64 1, .int .i64 2, .int .i64 6]] w fun e w' => e = .returned (.int .i64 (mvC true c)) ∧ Below w.heap.size w w' := by
  obtain ⟨n, rfl⟩ := Int.eq_ofNat_of_zero_le h0
  have hn : n < 128 := by omega
  have i0 := index7_0 3 4 5 0 1 2 6
  have i1 := index7_1 3 4 5 0 1 2 6
  have i2 := index7_2 3 4 5 0 1 2 6
  have i3 := index7_3 3 4 5 0 1 2 6
  have i4 := index7_4 3 4 5 0 1 2 6
  have i5 := index7_5 3 4 5 0 1 2 6
  have i6 := index7_6 3 4 5 0 1 2 6
  go_enter Try.func101, Try.ntmps101
  go_wp2
  refine wp_loop_rounds 8 ?_
  rw [rounds_succ]
  go_wp2
  rw [rounds_succ]
  go_wp2
  rw [rounds_succ]
  go_wp2
  rw [rounds_succ]
  go_wp2
  rw [rounds_succ]
  go_wp2
  rw [rounds_succ]
  go_wp2
  rw [rounds_succ]
  go_wp2
  rw [rounds_succ]
  go_wp2
  go_ret
  exact ⟨int_ret (mvT_i n hn), by (repeat (first | exact Below.refl _ _ | exact (Below.refl _ _).drew | assumption | exact below_one _ | refine Below.chain ?_ (by assumption) | refine Below.drew ?_ | refine Below.alc ?_ _ | refine below_drewN ?_ | (refine Below.setCell ?_ ?_ _) | exact Nat.le_refl _ | (simp; done) | (simp; omega)))⟩
theorem movedM_c (c : Int) (w : World) (h0 : 0 ≤ c) (h1 : c ≤ 127) : Calls Try.prog 101 #[.int .i64 c, .agg #[.int .i64 0, .int .i64 5, .int .i64 4, .int .i64 3, .int .i64 2, .int .i64 1, .int .i64 6]] w fun e w' => e = .returned (.int .i64 (mvC false c)) ∧ Below w.heap.size w w' := by
  obtain ⟨n, rfl⟩ := Int.eq_ofNat_of_zero_le h0
  have hn : n < 128 := by omega
  have i0 := index7_0 0 5 4 3 2 1 6
  have i1 := index7_1 0 5 4 3 2 1 6
  have i2 := index7_2 0 5 4 3 2 1 6
  have i3 := index7_3 0 5 4 3 2 1 6
  have i4 := index7_4 0 5 4 3 2 1 6
  have i5 := index7_5 0 5 4 3 2 1 6
  have i6 := index7_6 0 5 4 3 2 1 6
  go_enter Try.func101, Try.ntmps101
  go_wp2
  refine wp_loop_rounds 8 ?_
  rw [rounds_succ]
  go_wp2
  rw [rounds_succ]
  go_wp2
  rw [rounds_succ]
  go_wp2
  rw [rounds_succ]
  go_wp2
  rw [rounds_succ]
  go_wp2
  rw [rounds_succ]
  go_wp2
  rw [rounds_succ]
  go_wp2
  rw [rounds_succ]
  go_wp2
  go_ret
  exact ⟨int_ret (mvM_i n hn), by (repeat (first | exact Below.refl _ _ | exact (Below.refl _ _).drew | assumption | exact below_one _ | refine Below.chain ?_ (by assumption) | refine Below.drew ?_ | refine Below.alc ?_ _ | refine below_drewN ?_ | (refine Below.setCell ?_ ?_ _) | exact Nat.le_refl _ | (simp; done) | (simp; omega)))⟩
theorem turned_c (c : Int) (w : World) (h0 : 0 ≤ c) (h1 : c ≤ 127) : Calls Try.prog 86 #[.int .i64 c] w fun e w' => e = .returned (.int .i64 (mvC true c)) ∧ Below w.heap.size w w' := by
  go_enter Try.func86, Try.ntmps86
  go_wp2_with fail
  refine (movedT_c c _ h0 h1).mono ?_
  rintro e w1 ⟨rfl, hb1⟩
  go_wp2
  go_ret
  exact ⟨rfl, hb1⟩
theorem mirrored_c (c : Int) (w : World) (h0 : 0 ≤ c) (h1 : c ≤ 127) : Calls Try.prog 87 #[.int .i64 c] w fun e w' => e = .returned (.int .i64 (mvC false c)) ∧ Below w.heap.size w w' := by
  go_enter Try.func87, Try.ntmps87
  go_wp2_with fail
  refine (movedM_c c _ h0 h1).mono ?_
  rintro e w1 ⟨rfl, hb1⟩
  go_wp2
  go_ret
  exact ⟨rfl, hb1⟩
theorem l2Turn_c (c : Int) (w : World) (h0 : 0 ≤ c) (h1 : c ≤ 127) : Calls Try.prog 110 #[.int .i64 c] w fun e w' => e = .returned (.int .i64 (mvC true c)) ∧ Below w.heap.size w w' := by
  obtain ⟨n, rfl⟩ := Int.eq_ofNat_of_zero_le h0
  have hn : n < 128 := by omega
  go_enter Try.func110, Try.ntmps110
  go_wp2
  refine wp_loop_rounds 8 ?_
  rw [rounds_succ]
  go_wp2
  rw [rounds_succ]
  go_wp2
  rw [rounds_succ]
  go_wp2
  rw [rounds_succ]
  go_wp2
  rw [rounds_succ]
  go_wp2
  rw [rounds_succ]
  go_wp2
  rw [rounds_succ]
  go_wp2
  rw [rounds_succ]
  go_wp2
  go_ret
  exact ⟨int_ret (mvT_s n hn), by (repeat (first | exact Below.refl _ _ | exact (Below.refl _ _).drew | assumption | exact below_one _ | refine Below.chain ?_ (by assumption) | refine Below.drew ?_ | refine Below.alc ?_ _ | refine below_drewN ?_ | (refine Below.setCell ?_ ?_ _) | exact Nat.le_refl _ | (simp; done) | (simp; omega)))⟩
theorem l2Mirror_c (c : Int) (w : World) (h0 : 0 ≤ c) (h1 : c ≤ 127) : Calls Try.prog 111 #[.int .i64 c] w fun e w' => e = .returned (.int .i64 (mvC false c)) ∧ Below w.heap.size w w' := by
  obtain ⟨n, rfl⟩ := Int.eq_ofNat_of_zero_le h0
  have hn : n < 128 := by omega
  go_enter Try.func111, Try.ntmps111
  go_wp2
  refine wp_loop_rounds 8 ?_
  rw [rounds_succ]
  go_wp2
  rw [rounds_succ]
  go_wp2
  rw [rounds_succ]
  go_wp2
  rw [rounds_succ]
  go_wp2
  rw [rounds_succ]
  go_wp2
  rw [rounds_succ]
  go_wp2
  rw [rounds_succ]
  go_wp2
  rw [rounds_succ]
  go_wp2
  go_ret
  exact ⟨int_ret (mvM_s n hn), by (repeat (first | exact Below.refl _ _ | exact (Below.refl _ _).drew | assumption | exact below_one _ | refine Below.chain ?_ (by assumption) | refine Below.drew ?_ | refine Below.alc ?_ _ | refine below_drewN ?_ | (refine Below.setCell ?_ ?_ _) | exact Nat.le_refl _ | (simp; done) | (simp; omega)))⟩
end Go.Proofs.Ytfbnmkpkihfocaa
