/- Texts of this claim, gathered: ShownRow, Bench3, Subs. -/
import Derived.Test.YtlipkplomndjcaaK3
import Derived.Deep.AppendLies
import Derived.Lib.SliceRun
namespace Go.Proofs.Ytlipkplomndjcaa
open Go.RowKit
set_option linter.unusedVariables false
set_option maxRecDepth 100000
def shownTo (fs : List (Int × Int)) (r : List Int) (k : Nat) : List Int := ((fs.zip r).take k).map fun p => shC p.1.1 p.1.2 p.2
theorem shownTo_le (fs : List (Int × Int)) (r : List Int) (k : Nat) : (shownTo fs r k).length ≤ k := by simp [shownTo, List.length_take]; omega
theorem shownTo_succ {fs : List (Int × Int)} {r : List Int} {k : Nat} {f : Int × Int} {c : Int} (hf : fs[k]? = some f) (hc : r[k]? = some c) : shownTo fs r (k + 1) = shownTo fs r k ++ [shC f.1 f.2 c] := by
  have h : (fs.zip r)[k]? = some (f, c) := by rw [List.getElem?_zip_eq_some]; exact ⟨hf, hc⟩
  unfold shownTo
  rw [take_snoc h]; simp
def srL (fs : List (Int × Int)) (r : List Int) : List Int := if areB fs r then shownTo fs r r.length else []
theorem srL_le (fs : List (Int × Int)) (r : List Int) : (srL fs r).length ≤ 6 := by
  unfold srL; split
  · rename_i h; exact Nat.le_trans (shownTo_le _ _ _) (rowB_le (areB_row h))
  · simp
/-- the post of a text that returns a slice of ints of the call's own and a bool -/
def IntsPost (w : World) (L : List Int) (b : Bool) (e : Ending) (w' : World) : Prop :=
  ∃ u, e = .returned (.tuple #[u, .bool b]) ∧ w'.ownsRow w.heap.size 3 1 u L.length (L.map (Value.int .i64)) ∧ Below w.heap.size w w'
theorem IntsPost.mk' {w w' : World} {L L' : List Int} {b b' : Bool} {u : Value} (hL : L = L') (hbb : b = b') (ho : w'.ownsRow w.heap.size 3 1 u L'.length (L'.map (Value.int .i64))) (hb : Below w.heap.size w w') : IntsPost w L b (.returned (.tuple #[u, .bool b'])) w' := by
  subst hL hbb; exact ⟨u, rfl, ho, hb⟩
theorem ShownRow_c (v1 v2 : Value) (fs : List (Int × Int)) (r : List Int) (w : World) (h1 : Pairs w v1 fs) (h2 : Ints w v2 r) :
    Calls Try.prog 22 #[v1, v2] w (IntsPost w (srL fs r) (areB fs r)) := by
  obtain ⟨a1, c1, rfl, _, _, H1⟩ := h1.parts
  obtain ⟨a2, c2, rfl, _, _, H2⟩ := h2.parts
  obtain ⟨i, hi, hz0, hz1, hz2⟩ := info_parts info_int
  rcases ha : areB fs r with _ | _
  · have HL := Lib.hid (show srL fs r = [] by simp [srL, ha])
    have HA := Lib.hid ha; clear ha
    go_enter Try.func22, Try.ntmps22
    go_wp2_with fail
    refine (areFaults_c _ _ fs r _ h1 h2).mono ?_
    rintro e w1 ⟨rfl, hb1⟩
    rw [HA.out]
    go_wp2
    go_ret2
    exact IntsPost.mk' HL.out rfl (World.ownsRow_nil _ _ _ _) hb1
  · have HL := Lib.hid (show srL fs r = shownTo fs r r.length by simp [srL, ha])
    have hr6 := rowB_le (areB_row ha)
    have HA := Lib.hid ha; clear ha
    go_enter Try.func22, Try.ntmps22
    go_wp2_with fail
    refine (areFaults_c _ _ fs r _ h1 h2).mono ?_
    rintro e w1 ⟨rfl, hb1⟩
    rw [HA.out]
    clear h1 h2
    go_wp2
    go_loopw [6, 7, 8, 15] (fun o _ _ j wr => ∃ k : Nat, k ≤ r.length ∧ j = .int .i64 (k : Int) ∧ wr.ownsRow w.heap.size 3 1 o (shownTo fs r k).length ((shownTo fs r k).map (Value.int .i64)) ∧ Below w.heap.size w wr) (fun _ _ _ j _ => r.length - (intOf j).toNat)
    case atStart => exact ⟨0, by omega, rfl, World.ownsRow_nil _ _ _ _, hb1⟩
    case round =>
      obtain ⟨k, hk, rfl, ho, hb⟩ := hrel
      clear hb1
      by_cases hlt : k < r.length
      · have hd : decide ((k : Int) < (r.length : Int)) = true := by simp; omega
        have hlf : k < fs.length := by rw [areB_len HA.out]; exact hlt
        obtain ⟨f, hf⟩ := elem_at hlf
        obtain ⟨c, hc⟩ := elem_at hlt
        obtain ⟨b1, o1, rfl, f0, f1⟩ := H1.out k _ hf.out
        obtain ⟨b2, o2, rfl, f2⟩ := H2.out k _ hc.out
        have g0 := cell_later hb f0
        have g1 := cell_later hb f1
        have g2 := cell_later hb f2
        have bd := areB_fault HA.out hf.out
        have bc := rowB_cell (areB_row HA.out) hc.out
        have hS := shownTo_succ hf.out hc.out
        have hle := shownTo_le fs r k
        generalize shownTo fs r k = cur at *
        have HS := Lib.hid hS; clear hS f0 f1 f2
        go_wp2_with fail
        refine (shown_c f.1 f.2 c bd.1 bd.2.1 bd.2.2.1 bd.2.2.2 bc.1 bc.2 _).mono ?_
        rintro e w2 ⟨rfl, hb2⟩
        have ho2 := own_keep ho hb2
        have hb3 := Below.chain hb hb2
        generalize shC f.1 f.2 c = X at *
        clear ho hb hb2 g0 g1 g2
        go_wp2_with (at_builtin; refine wpList_append_own_at _ rfl _ _ 24 rfl w.heap.size 3 i (.int .i64 0) 1 8 Try.underlying24 hi hz0 hz1 hz2 rfl (by decide) _ cur.length (cur.map (Value.int .i64)) rfl (ho2.alloc _) ⟨w2.heap.size, 0, none⟩ 1 1 [.int .i64 X] rfl rfl (news_new _ [.int .i64 X] _) (by simp [Value.oneCell']) (by unfold maxLen; omega) (by omega) (by have := hb3.size; simp; omega) ?_)
        intro v' w3 ho5 hg5 _ _
        have hb7 : Below w.heap.size w w3 := (Below.alc hb3 _).grown hg5 (by have := hb3.size; simp; omega) (fun g hg => (ho2.lt g hg).1)
        clear ho2 hb3 hg5
        go_wp2
        go_roundw
        case rel => exact ⟨k + 1, by omega, by go_num, by rw [HS.out]; exact ownsRow_cast ho5 (by simp) (by simp), hb7⟩
        case measure => simp [intOf]; omega
      · obtain rfl : k = r.length := by omega
        go_wp2
        go_ret2
        exact IntsPost.mk' HL.out rfl ho hb
theorem sShownRow_c (v1 v2 : Value) (fs : List (Int × Int)) (r : List Int) (w : World) (h1 : Pairs w v1 fs) (h2 : Ints w v2 r) :
    Calls Try.prog 28 #[v1, v2] w (IntsPost w (srL fs r) (areB fs r)) := by
  obtain ⟨a1, c1, rfl, _, _, H1⟩ := h1.parts
  obtain ⟨a2, c2, rfl, _, _, H2⟩ := h2.parts
  obtain ⟨i, hi, hz0, hz1, hz2⟩ := info_parts info_int
  have ho0 := World.ownsRow_lit (e := 3) (size := 1) (base := w.heap.size) w #[] 0 (Nat.le_refl _) (by decide) rfl
  have hb0 := below_one (w := w) (.cells #[] 3)
  have h10 := h1.below hb0
  have h20 := h2.below hb0
  rcases ha : areB fs r with _ | _
  · have HL := Lib.hid (show srL fs r = [] by simp [srL, ha])
    have HA := Lib.hid ha; clear ha
    go_enter Try.func28, Try.ntmps28
    go_wp2_with fail
    refine (l3Faults_c _ _ fs r _ h10 h20).mono ?_
    rintro e w1 ⟨rfl, hb1⟩
    rw [HA.out]
    go_wp2
    go_ret2
    exact IntsPost.mk' HL.out rfl (own_keep ho0 hb1) (Below.chain hb0 hb1)
  · have HL := Lib.hid (show srL fs r = shownTo fs r r.length by simp [srL, ha])
    have hr6 := rowB_le (areB_row ha)
    have HA := Lib.hid ha; clear ha
    go_enter Try.func28, Try.ntmps28
    go_wp2_with fail
    refine (l3Faults_c _ _ fs r _ h10 h20).mono ?_
    rintro e w1 ⟨rfl, hb1⟩
    rw [HA.out]
    have ho1 := own_keep ho0 hb1
    have hb01 := Below.chain hb0 hb1
    clear h1 h2 h10 h20 ho0 hb0 hb1
    go_wp2
    go_loopw [6, 7] (fun o j wr => ∃ k : Nat, k ≤ r.length ∧ j = .int .i64 (k : Int) ∧ wr.ownsRow w.heap.size 3 1 o (shownTo fs r k).length ((shownTo fs r k).map (Value.int .i64)) ∧ Below w.heap.size w wr) (fun _ j _ => r.length - (intOf j).toNat)
    case atStart => exact ⟨0, by omega, rfl, ho1, hb01⟩
    case round =>
      obtain ⟨k, hk, rfl, ho, hb⟩ := hrel
      clear ho1 hb01
      by_cases hlt : k < r.length
      · have hd : decide ((k : Int) < (r.length : Int)) = true := by simp; omega
        have hlf : k < fs.length := by rw [areB_len HA.out]; exact hlt
        have hlf2 : (k : Int) < (fs.length : Int) := by omega
        obtain ⟨f, hf⟩ := elem_at hlf
        obtain ⟨c, hc⟩ := elem_at hlt
        obtain ⟨b1, o1, rfl, f0, f1⟩ := H1.out k _ hf.out
        obtain ⟨b2, o2, rfl, f2⟩ := H2.out k _ hc.out
        have l1 := World.block_lt_of_cell? w _ f0
        have l2 := World.block_lt_of_cell? w _ f2
        have g0 := cell_later hb f0
        have g1 := cell_later hb f1
        have g2 := cell_later hb f2
        have bd := areB_fault HA.out hf.out
        have bc := rowB_cell (areB_row HA.out) hc.out
        have hS := shownTo_succ hf.out hc.out
        have hle := shownTo_le fs r k
        have hsz := hb.size
        generalize shownTo fs r k = cur at *
        have HS := Lib.hid hS; clear hS f0 f1 f2
        go_wp2_with fail
        go_region_held3 (fun w' => w'.cell? ⟨b1, o1 + k * 2, none⟩ = some (.int .i64 f.1) ∧ w'.cell? ⟨b1, o1 + k * 2 + 1, none⟩ = some (.int .i64 f.2) ∧ w'.cell? ⟨b2, o2 + k, none⟩ = some (.int .i64 c))
          (first | go_keep | (go_split_ands; exact ⟨cell_later hb2 (by assumption), cell_later hb2 (by assumption), cell_later hb2 (by assumption)⟩) | (go_split_ands; refine ⟨?_, ?_, ?_⟩ <;> assumption))
          (first | (go_at_call 81; refine (l3Shown_c f.1 f.2 c bd.1 bd.2.1 bd.2.2.1 bd.2.2.2 bc.1 bc.2 _).mono ?_; rintro e w' ⟨rfl, hb2⟩; have ho2 := own_keep ho.drew hb2) | (go_split_ands; have hb3 := Below.chain hb.drew hb2; refine step_append_lies _ (by rfl) _ _ _ (by rfl) w.heap.size 3 i _ 1 8 Try.underlying24 hi hz0 hz1 hz2 rfl (by omega) _ cur.length (cur.map (Value.int .i64)) (by rfl) (ho2.alloc _) ⟨w'.heap.size, 0, none⟩ 1 1 [.int .i64 (shC f.1 f.2 c)] (by rfl) (by rfl) (news_new _ [.int .i64 (shC f.1 f.2 c)] _) (by simp [Value.oneCell']) (by omega) (by unfold maxLen; omega) (by omega) (by have := hb3.size; simp; omega) (w'.heap.size + 1) (by simp) ?_; intro gg cap w3 ho5 hg5 hat hlt5; have k0 : w3.cell? ⟨b1, o1 + k * 2, none⟩ = some (.int .i64 f.1) := hg5.cell (by assumption) (fun e => by have := (ho2.lt _ e.symm).1; simp only at this; omega); have k1 : w3.cell? ⟨b1, o1 + k * 2 + 1, none⟩ = some (.int .i64 f.2) := hg5.cell (by assumption) (fun e => by have := (ho2.lt _ e.symm).1; simp only at this; omega); have k2 : w3.cell? ⟨b2, o2 + k, none⟩ = some (.int .i64 c) := hg5.cell (by assumption) (fun e => by have := (ho2.lt _ e.symm).1; simp only at this; omega)))
        have hb7 : Below w.heap.size w w3 := (Below.alc hb3 _).grown hg5 (by have := hb3.size; simp; omega) (fun g hg => (ho2.lt g hg).1)
        clear ho2 hb3 hg5 ho hb g0 g1 g2 k0 k1 k2
        go_wp2
        go_roundw
        case rel => exact ⟨k + 1, by omega, by go_num, by rw [HS.out]; exact ownsRow_cast ho5 (by simp) (by simp), hb7⟩
        case measure => simp [intOf]; omega
      · obtain rfl : k = r.length := by omega
        go_wp2
        go_ret2
        exact IntsPost.mk' HL.out rfl ho hb
end Go.Proofs.Ytlipkplomndjcaa
namespace Go.Proofs.Ytlipkplomndjcaa
open Go.RowKit
set_option linter.unusedVariables false
set_option maxRecDepth 100000
def shAt (b : List Int) (k : Nat) : Int := shC (bF b k).1 (bF b k).2 (bg b k)
def shTo (b : List Int) (n : Nat) : List Int := (List.range n).map (shAt b)
theorem shTo_succ (b : List Int) (n : Nat) : shTo b (n + 1) = shTo b n ++ [shAt b n] := by unfold shTo; rw [List.range_succ, List.map_append]; rfl
theorem shTo_len (b : List Int) (n : Nat) : (shTo b n).length = n := by simp [shTo]
theorem take_succ_bg {b : List Int} {n : Nat} (h : n < b.length) : b.take (n + 1) = b.take n ++ [bg b n] := by
  rw [take_snoc (List.getElem?_eq_getElem h)]; simp [bg, h]
theorem goodB_at {b : List Int} (h : goodB b = true) {k : Nat} (hk : k < 6) : (0 ≤ (bF b k).1 ∧ (bF b k).1 ≤ 127 ∧ 0 ≤ (bF b k).2 ∧ (bF b k).2 ≤ 127) ∧ 0 ≤ bg b k ∧ bg b k ≤ 127 := by
  unfold goodB goodTo at h
  simp only [Bool.and_eq_true, List.all_eq_true, List.mem_range] at h
  have := h.1 k hk
  unfold goodAt fB at this
  simp only [Bool.and_eq_true] at this
  have h1 := faultB_true this.2
  exact ⟨⟨h1.1, h1.2.1, h1.2.2.1, h1.2.2.2.1⟩, cellB_true this.1⟩
theorem index6_0 (x0 x1 x2 x3 x4 x5 : Int) (w : World) : (Instr.index 65 (.agg #[.int .i64 x0, .int .i64 x1, .int .i64 x2, .int .i64 x3, .int .i64 x4, .int .i64 x5]) (.int .i64 0)).run Try.prog w = .ok (.int .i64 x0) w := by kernel_rfl
theorem index6_1 (x0 x1 x2 x3 x4 x5 : Int) (w : World) : (Instr.index 65 (.agg #[.int .i64 x0, .int .i64 x1, .int .i64 x2, .int .i64 x3, .int .i64 x4, .int .i64 x5]) (.int .i64 1)).run Try.prog w = .ok (.int .i64 x1) w := by kernel_rfl
theorem index6_2 (x0 x1 x2 x3 x4 x5 : Int) (w : World) : (Instr.index 65 (.agg #[.int .i64 x0, .int .i64 x1, .int .i64 x2, .int .i64 x3, .int .i64 x4, .int .i64 x5]) (.int .i64 2)).run Try.prog w = .ok (.int .i64 x2) w := by kernel_rfl
theorem index6_3 (x0 x1 x2 x3 x4 x5 : Int) (w : World) : (Instr.index 65 (.agg #[.int .i64 x0, .int .i64 x1, .int .i64 x2, .int .i64 x3, .int .i64 x4, .int .i64 x5]) (.int .i64 3)).run Try.prog w = .ok (.int .i64 x3) w := by kernel_rfl
theorem index6_4 (x0 x1 x2 x3 x4 x5 : Int) (w : World) : (Instr.index 65 (.agg #[.int .i64 x0, .int .i64 x1, .int .i64 x2, .int .i64 x3, .int .i64 x4, .int .i64 x5]) (.int .i64 4)).run Try.prog w = .ok (.int .i64 x4) w := by kernel_rfl
theorem index6_5 (x0 x1 x2 x3 x4 x5 : Int) (w : World) : (Instr.index 65 (.agg #[.int .i64 x0, .int .i64 x1, .int .i64 x2, .int .i64 x3, .int .i64 x4, .int .i64 x5]) (.int .i64 5)).run Try.prog w = .ok (.int .i64 x5) w := by kernel_rfl
theorem index6 {b : List Int} (hb : b.length = 6) {k : Nat} (hk : k < 6) (w : World) : (Instr.index 65 (.agg (ints b).toArray) (.int .i64 (k : Int))).run Try.prog w = .ok (.int .i64 (bg b k)) w := by
  obtain ⟨x0, x1, x2, x3, x4, x5, rfl⟩ := len6 hb
  have h : k = 0 ∨ k = 1 ∨ k = 2 ∨ k = 3 ∨ k = 4 ∨ k = 5 := by omega
  rcases h with rfl | rfl | rfl | rfl | rfl | rfl
  · exact index6_0 x0 x1 x2 x3 x4 x5 w
  · exact index6_1 x0 x1 x2 x3 x4 x5 w
  · exact index6_2 x0 x1 x2 x3 x4 x5 w
  · exact index6_3 x0 x1 x2 x3 x4 x5 w
  · exact index6_4 x0 x1 x2 x3 x4 x5 w
  · exact index6_5 x0 x1 x2 x3 x4 x5 w
theorem bg_pt {b : List Int} (h : b.length = 19) {k : Nat} (hk : k < 6) : bg (pt b 0) k = bg b k := by
  unfold bg pt; simp [hk]
theorem shown_b_c (b : List Int) (w : World) (hb : b.length = 19) (hg : goodB b = true) :
    Calls Try.prog 125 #[aggI b] w fun e w' => ∃ u, e = .returned u ∧ w'.ownsRow w.heap.size 3 1 u (shTo b 6).length (ints (shTo b 6)) ∧ Below w.heap.size w w' := by
  unfold aggI
  obtain ⟨i, hi, hz0, hz1, hz2⟩ := info_parts info_int
  have HW : Hid (∀ wr, Below (w.alloc (.cells (ints b).toArray 67)).heap.size (w.alloc (.cells (ints b).toArray 67)) wr → Below w.heap.size w wr) := fun wr h => Below.chain (below_one _) h
  have r0 := range_new w (ints b) 67
  have p1 := part6_len hb (o := 0) (by decide)
  go_enter Try.func125, Try.ntmps125
  go_wp2_with (refine wpList_load6 rfl _ rfl _ _ rfl _ (part6 r0 0) p1 ?_)
  generalize hwb : w.alloc (.cells (ints b).toArray 67) = wb at *
  have hwz : w.heap.size + 1 = wb.heap.size := by rw [← hwb]; simp
  go_loopw [3, 8] (fun o j wr => ∃ k : Nat, k ≤ 6 ∧ j = .int .i64 (k : Int) ∧ wr.ownsRow wb.heap.size 3 1 o k (ints (shTo b k)) ∧ Below wb.heap.size wb wr) (fun _ j _ => 7 - (intOf j).toNat)
  case atStart => exact ⟨0, by omega, rfl, World.ownsRow_nil _ _ _ _, Below.refl _ _⟩
  case round =>
    obtain ⟨k, hk, rfl, ho, hbw⟩ := hrel
    by_cases hlt : k < 6
    · have hd : decide ((k : Int) < 6) = true := by simp; omega
      have hr : wr.rangeAt w.heap.size 0 (ints b) := range_below r0 hbw
      have hix := fun w => index6 p1 hlt w
      have HP := Lib.hid (bg_pt hb hlt)
      have HS := Lib.hid (shTo_succ b k)
      have bd := goodB_at hg hlt
      go_wp2_with (refine wpList_loadB rfl _ rfl _ rfl b hr hb ?_)
      refine (bfault_c b k _ hb hlt).mono ?_
      rintro e w3 ⟨rfl, hb3⟩
      have hb4 := Below.chain hbw hb3
      have ho4 := own_keep ho hb3
      clear hb3 hbw hr ho
      rw [HP.out]
      go_wp2_with fail
      refine (shown_c (bF b k).1 (bF b k).2 (bg b k) bd.1.1 bd.1.2.1 bd.1.2.2.1 bd.1.2.2.2 bd.2.1 bd.2.2 _).mono ?_
      rintro e w4 ⟨rfl, hb5⟩
      have hb6 := Below.chain hb4 hb5
      have ho6 := own_keep ho4 hb5
      clear hb4 hb5 ho4
      have hX : shC (bF b k).1 (bF b k).2 (bg b k) = shAt b k := rfl
      rw [hX]
      clear hX
      generalize shAt b k = X at *
      go_wp2_with (at_builtin; refine wpList_append_own_at _ rfl _ _ 24 rfl wb.heap.size 3 i (.int .i64 0) 1 8 Try.underlying24 hi hz0 hz1 hz2 rfl (by decide) _ k (ints (shTo b k)) rfl (ho6.alloc _) ⟨w4.heap.size, 0, none⟩ 1 1 [.int .i64 X] rfl rfl (news_new _ [.int .i64 X] _) (by simp [Value.oneCell']) (by unfold maxLen; omega) (by omega) (by have := hb6.size; simp; omega) ?_)
      intro v' w5 ho5 hg5 _ _
      have hb7 : Below wb.heap.size wb w5 := (Below.alc hb6 _).grown hg5 (by have := hb6.size; simp; omega) (fun g hg => (ho6.lt g hg).1)
      clear ho6 hb6 hg5
      go_wp2
      go_roundw
      case rel => exact ⟨k + 1, by omega, by go_num, by rw [HS.out]; exact ownsRow_cast ho5 rfl (by simp), hb7⟩
      case measure => simp [intOf]; omega
    · obtain rfl : k = 6 := by omega
      go_wp2
      go_ret
      exact ⟨_, rfl, own_lo (ownsRow_cast ho (shTo_len b 6).symm rfl) (by omega), HW.out _ hbw⟩
theorem ints_cells {w : World} {ad : Addr} {n c : Nat} {xs : List Int} (h : Ints w (.slice (some ad) n c) xs) : ∀ j u, (ints xs)[j]? = some u → w.cell? (ad.add j) = some u := by
  intro j u hu
  obtain ⟨a, c', e, _, _, HC⟩ := h.parts
  simp only [ints, List.getElem?_map, Option.map_eq_some_iff] at hu
  obtain ⟨x, hx, rfl⟩ := hu
  obtain ⟨b, off, e2, hc⟩ := HC.out j x hx
  injection e with e1 e3 e4
  rw [e2] at e1
  injection e1 with e5
  subst e5
  rw [Addr.add_lit]; exact hc
theorem Clone_c (v : Value) (xs : List Int) (w : World) (hv : Ints w v xs) (hn : xs.length ≤ 1048576) :
    Calls Try.prog 123 #[v] w fun e w' => ∃ u, e = .returned u ∧ w'.ownsRow w.heap.size 3 1 u xs.length (ints xs) ∧ Below w.heap.size w w' := by
  obtain ⟨i, hi, hz0, hz1, hz2⟩ := info_parts info_int
  have hv0 := hv
  obtain ⟨a, c, rfl, _, _, _⟩ := hv.parts
  cases a with
  | none =>
    have hx : xs = [] := by
      obtain ⟨a', c', e, _, _, HC⟩ := hv0.parts
      cases xs with
      | nil => rfl
      | cons x t =>
        obtain ⟨b, off, e2, _⟩ := HC.out 0 x rfl
        injection e with e1
        rw [e2] at e1; cases e1
    subst hx
    have hnil := fun (w : World) => Lib.run_eql_slice_nil (P := Try.prog) w 24 3 none 0 c 0 0 Try.underlying24
    simp only [List.length_nil, List.map_nil]
    go_enter Try.func123, Try.ntmps123
    go_wp2
    go_ret
    exact ⟨_, rfl, World.ownsRow_nil _ _ _ _, by (repeat (first | exact Below.refl _ _ | exact (Below.refl _ _).drew | assumption | exact below_one _ | refine Below.chain ?_ (by assumption) | refine Below.drew ?_ | refine Below.alc ?_ _ | refine below_drewN ?_ | (refine Below.setCell ?_ ?_ _) | exact Nat.le_refl _ | (simp; done) | (simp; omega)))⟩
  | some ad =>
    have hc := ints_cells (hv.below (below_one (.cells #[] 3)))
    have ho0 := World.ownsRow_lit (e := 3) (size := 1) (base := w.heap.size) w #[] 0 (Nat.le_refl _) (by decide) rfl
    have HC := Lib.hid hc
    clear hc hv hv0
    have hnil := fun (w : World) => Lib.run_eql_slice_nil (P := Try.prog) w 24 3 (some ad) xs.length c 0 0 Try.underlying24
    go_enter Try.func123, Try.ntmps123
    go_wp2_with (at_builtin; refine wpList_append_own_at _ rfl _ _ 24 rfl w.heap.size 3 i (.int .i64 0) 1 8 Try.underlying24 hi hz0 hz1 hz2 rfl (by decide) _ 0 [] rfl ho0 ad xs.length c (ints xs) rfl (by simp) HC.out ints_one (by unfold maxLen; omega) (by omega) (by simp) ?_)
    intro v' w1 ho1 hg1 _ _
    have hb1 : Below w.heap.size w w1 := (below_one _).grown hg1 (by simp) (fun g hg => (ho0.lt g hg).1)
    go_wp2
    go_ret
    exact ⟨_, rfl, ownsRow_cast ho1 (by simp) (by simp), hb1⟩
/-- the cells of a Bench, sent or shown -/
def rowOf (b : List Int) (s : Bool) (n : Nat) : List Int := if s then shTo b n else b.take n
theorem rowOf_len {b : List Int} (hb : b.length = 19) (s : Bool) {n : Nat} (h : n ≤ 6) : (rowOf b s n).length = n := by
  unfold rowOf; split
  · exact shTo_len _ _
  · rw [List.length_take]; omega
theorem rowOf_succ {b : List Int} (hb : b.length = 19) (s : Bool) {n : Nat} (h : n < 6) : rowOf b s (n + 1) = rowOf b s n ++ [if s then shAt b n else bg b n] := by
  unfold rowOf; split
  · exact shTo_succ _ _
  · exact take_succ_bg (by omega)
theorem range_grown {w w' : World} {g o : Nat} {cs : List Value} {r : Option Nat} (h : w.rangeAt g o cs) (hg : w.grownBy w' r) (hr : some g ≠ r) : w'.rangeAt g o cs := fun j v hv =>
  hg.cell (h j v hv) hr
theorem l12Row_c (b : List Int) (s : Bool) (w : World) (hb : b.length = 19) (hg : goodB b = true) :
    Calls Try.prog 124 #[aggI b, .bool s] w fun e w' => ∃ u, e = .returned u ∧ w'.ownsRow w.heap.size 3 1 u (rowOf b s 6).length (ints (rowOf b s 6)) ∧ Below w.heap.size w w' := by
  unfold aggI
  obtain ⟨i, hi, hz0, hz1, hz2⟩ := info_parts info_int
  have r0 := World.rangeAt_alloc (range_new w (ints b) 67) (.cells #[] 3)
  have ho0 := World.ownsRow_lit (e := 3) (size := 1) (base := w.heap.size + 1) (w.alloc (.cells (ints b).toArray 67)) #[] 0 (by simp) (by decide) rfl
  have hb0 : Below w.heap.size w ((w.alloc (.cells (ints b).toArray 67)).alloc (.cells #[] 3)) := by (repeat (first | exact Below.refl _ _ | exact (Below.refl _ _).drew | assumption | exact below_one _ | refine Below.chain ?_ (by assumption) | refine Below.drew ?_ | refine Below.alc ?_ _ | refine below_drewN ?_ | (refine Below.setCell ?_ ?_ _) | exact Nat.le_refl _ | (simp; done) | (simp; omega)))
  have hw0 : w.heap.size + 1 ≤ ((w.alloc (.cells (ints b).toArray 67)).alloc (.cells #[] 3)).heap.size := by simp
  have HL := Lib.hid (fun n h => rowOf_len hb s (n := n) h)
  go_enter Try.func124, Try.ntmps124
  go_wp2
  generalize (w.alloc (.cells (ints b).toArray 67)).alloc (.cells #[] 3) = wb at *
  simp only [World.size_alloc] at ho0
  go_loopw [5, 6] (fun o j wr => ∃ k : Nat, k ≤ 6 ∧ j = .int .i64 (k : Int) ∧ wr.ownsRow (w.heap.size + 1) 3 1 o k (ints (rowOf b s k)) ∧ Below w.heap.size w wr ∧ wr.rangeAt w.heap.size 0 (ints b) ∧ w.heap.size + 1 ≤ wr.heap.size) (fun _ j _ => 7 - (intOf j).toNat)
  case atStart => exact ⟨0, by omega, rfl, ownsRow_cast ho0 rfl (by cases s <;> simp [rowOf, shTo]), hb0, r0, hw0⟩
  case round =>
    obtain ⟨k, hk, rfl, ho, hbw, hr, hsz⟩ := hrel
    clear ho0 hb0 r0 hw0
    by_cases hlt : k < 6
    · have hd : decide ((k : Int) < 6) = true := by simp; omega
      have g0 := cell18 hr (j := k) (by omega)
      have HS := Lib.hid (rowOf_succ hb s hlt)
      have bd := goodB_at hg hlt
      cases s with
      | false =>
        have HS2 := Lib.hid (show rowOf b false (k + 1) = rowOf b false k ++ [bg b k] from HS.out)
        clear HS
        generalize bg b k = X at *
        go_wp2_with (at_builtin; refine wpList_append_own_at _ rfl _ _ 24 rfl (w.heap.size + 1) 3 i (.int .i64 0) 1 8 Try.underlying24 hi hz0 hz1 hz2 rfl (by decide) _ k (ints (rowOf b false k)) rfl (ho.alloc _) ⟨wr.heap.size, 0, none⟩ 1 1 [.int .i64 X] rfl rfl (news_new _ [.int .i64 X] _) (by simp [Value.oneCell']) (by unfold maxLen; omega) (by omega) (by simp; omega) ?_)
        intro v' w5 ho5 hg5 _ hat
        have hb7 : Below w.heap.size w w5 := (Below.alc hbw _).grown hg5 (by simp; omega) (fun g hg => by have := (ho.lt g hg).1; omega)
        have hr7 := range_grown (World.rangeAt_alloc hr _) hg5 (fun e => by have := (ho.lt _ e.symm).1; omega)
        have hsz7 : w.heap.size + 1 ≤ w5.heap.size := Nat.le_trans (by simp; omega) hg5.size
        clear ho hbw hr hg5 g0
        go_wp2
        go_roundw
        case rel => exact ⟨k + 1, by omega, by go_num, by rw [HS2.out]; exact ownsRow_cast ho5 rfl (by simp), hb7, hr7, hsz7⟩
        case measure => simp [intOf]; omega
      | true =>
        have HS2 := Lib.hid (show rowOf b true (k + 1) = rowOf b true k ++ [shAt b k] from HS.out)
        clear HS
        go_wp2_with (refine wpList_loadB rfl _ rfl _ rfl b hr hb ?_)
        refine (l12Fault_c b k _ hb hlt).mono ?_
        rintro e w3 ⟨rfl, hb3⟩
        have hb4 := Below.chain hbw hb3
        have ho4 := own_keep ho hb3
        have hr4 := range_below hr hb3
        have hsz4 := Nat.le_trans hsz hb3.size
        clear hb3 hbw hr ho g0
        go_wp2_with fail
        refine (l3Shown_c (bF b k).1 (bF b k).2 (bg b k) bd.1.1 bd.1.2.1 bd.1.2.2.1 bd.1.2.2.2 bd.2.1 bd.2.2 _).mono ?_
        rintro e w4 ⟨rfl, hb5⟩
        have hb6 := Below.chain hb4 hb5
        have ho6 := own_keep ho4 hb5
        have hr6 := range_below hr4 hb5
        have hsz6 := Nat.le_trans hsz4 hb5.size
        clear hb4 hb5 ho4 hr4
        have hX : shC (bF b k).1 (bF b k).2 (bg b k) = shAt b k := rfl
        rw [hX]
        clear hX
        generalize shAt b k = X at *
        go_wp2_with (at_builtin; refine wpList_append_own_at _ rfl _ _ 24 rfl (w.heap.size + 1) 3 i (.int .i64 0) 1 8 Try.underlying24 hi hz0 hz1 hz2 rfl (by decide) _ k (ints (rowOf b true k)) rfl (ho6.alloc _) ⟨w4.heap.size, 0, none⟩ 1 1 [.int .i64 X] rfl rfl (news_new _ [.int .i64 X] _) (by simp [Value.oneCell']) (by unfold maxLen; omega) (by omega) (by simp; omega) ?_)
        intro v' w5 ho5 hg5 _ hat
        have hb7 : Below w.heap.size w w5 := (Below.alc hb6 _).grown hg5 (by simp; omega) (fun g hg => by have := (ho6.lt g hg).1; omega)
        have hr7 := range_grown (World.rangeAt_alloc hr6 _) hg5 (fun e => by have := (ho6.lt _ e.symm).1; omega)
        have hsz7 : w.heap.size + 1 ≤ w5.heap.size := Nat.le_trans (by simp; omega) hg5.size
        clear ho6 hb6 hr6 hg5
        go_wp2
        go_roundw
        case rel => exact ⟨k + 1, by omega, by go_num, by rw [HS2.out]; exact ownsRow_cast ho5 rfl (by simp), hb7, hr7, hsz7⟩
        case measure => simp [intOf]; omega
    · obtain rfl : k = 6 := by omega
      go_wp2
      go_ret
      exact ⟨_, rfl, own_lo (ownsRow_cast ho (HL.out 6 (by omega)).symm rfl) (by omega), hbw⟩
/-- what SentRow and BenchRow return -/
def brL (b : List Int) (s : Bool) : List Int := if goodB b then rowOf b s 6 else []
theorem brL_le (b : List Int) (s : Bool) : (brL b s).length ≤ 6 := by
  unfold brL rowOf; split
  · split
    · rw [shTo_len]; omega
    · rw [List.length_take]; omega
  · simp
theorem sSentRow_c (b : List Int) (w : World) (hb : b.length = 19) : Calls Try.prog 63 #[aggI b] w (IntsPost w (brL b false) (goodB b)) := by
  have r0 := range_new w (ints b) 67
  have hb0 := below_one (w := w) (.cells (ints b).toArray 67)
  unfold aggI
  rcases hq : goodB b with _ | _
  · have HL := Lib.hid (show brL b false = [] by simp [brL, hq])
    have HQ := Lib.hid hq; clear hq
    go_enter Try.func63, Try.ntmps63
    go_wp2_with (refine wpList_loadB rfl _ rfl _ rfl b r0 hb ?_)
    refine (l12Good_c b _ hb).mono ?_
    rintro e w1 ⟨rfl, hb1⟩
    rw [HQ.out]
    have hb2 := Below.chain hb0 hb1
    have ho0 := World.ownsRow_lit (e := 3) (size := 1) (base := w.heap.size) w1 #[] 0 hb2.size (by decide) rfl
    go_wp2
    go_ret2
    exact IntsPost.mk' HL.out rfl ho0 (Below.alc hb2 _)
  · have HL := Lib.hid (show brL b false = rowOf b false 6 by simp [brL, hq])
    have HQ := Lib.hid hq
    go_enter Try.func63, Try.ntmps63
    go_wp2_with (refine wpList_loadB rfl _ rfl _ rfl b r0 hb ?_)
    refine (l12Good_c b _ hb).mono ?_
    rintro e w1 ⟨rfl, hb1⟩
    rw [HQ.out]
    have r1 := range_below r0 hb1
    have hb2 := Below.chain hb0 hb1
    go_wp2_with (refine wpList_loadB rfl _ rfl _ rfl b r1 hb ?_)
    refine (l12Row_c b false _ hb hq).mono ?_
    rintro e w2 ⟨u, rfl, ho, hb3⟩
    have hb4 := Below.chain hb2 hb3
    go_wp2
    go_ret2
    exact IntsPost.mk' HL.out rfl (own_lo ho hb2.size) hb4
theorem sBenchRow_c (b : List Int) (w : World) (hb : b.length = 19) : Calls Try.prog 65 #[aggI b] w (IntsPost w (brL b true) (goodB b)) := by
  have r0 := range_new w (ints b) 67
  have hb0 := below_one (w := w) (.cells (ints b).toArray 67)
  unfold aggI
  rcases hq : goodB b with _ | _
  · have HL := Lib.hid (show brL b true = [] by simp [brL, hq])
    have HQ := Lib.hid hq; clear hq
    go_enter Try.func65, Try.ntmps65
    go_wp2_with (refine wpList_loadB rfl _ rfl _ rfl b r0 hb ?_)
    refine (l12Good_c b _ hb).mono ?_
    rintro e w1 ⟨rfl, hb1⟩
    rw [HQ.out]
    have hb2 := Below.chain hb0 hb1
    have ho0 := World.ownsRow_lit (e := 3) (size := 1) (base := w.heap.size) w1 #[] 0 hb2.size (by decide) rfl
    go_wp2
    go_ret2
    exact IntsPost.mk' HL.out rfl ho0 (Below.alc hb2 _)
  · have HL := Lib.hid (show brL b true = rowOf b true 6 by simp [brL, hq])
    have HQ := Lib.hid hq
    go_enter Try.func65, Try.ntmps65
    go_wp2_with (refine wpList_loadB rfl _ rfl _ rfl b r0 hb ?_)
    refine (l12Good_c b _ hb).mono ?_
    rintro e w1 ⟨rfl, hb1⟩
    rw [HQ.out]
    have r1 := range_below r0 hb1
    have hb2 := Below.chain hb0 hb1
    go_wp2_with (refine wpList_loadB rfl _ rfl _ rfl b r1 hb ?_)
    refine (l12Row_c b true _ hb hq).mono ?_
    rintro e w2 ⟨u, rfl, ho, hb3⟩
    have hb4 := Below.chain hb2 hb3
    go_wp2
    go_ret2
    exact IntsPost.mk' HL.out rfl (own_lo ho hb2.size) hb4
theorem BenchRow_c (b : List Int) (w : World) (hb : b.length = 19) : Calls Try.prog 64 #[aggI b] w (IntsPost w (brL b true) (goodB b)) := by
  have r0 := range_new w (ints b) 67
  have hb0 := below_one (w := w) (.cells (ints b).toArray 67)
  unfold aggI
  rcases hq : goodB b with _ | _
  · have HL := Lib.hid (show brL b true = [] by simp [brL, hq])
    have HQ := Lib.hid hq; clear hq
    go_enter Try.func64, Try.ntmps64
    go_wp2_with (refine wpList_loadB rfl _ rfl _ rfl b r0 hb ?_)
    refine (IsBench_c b _ hb).mono ?_
    rintro e w1 ⟨rfl, hb1⟩
    rw [HQ.out]
    have hb2 := Below.chain hb0 hb1
    go_wp2
    go_ret2
    exact IntsPost.mk' HL.out rfl (World.ownsRow_nil _ _ _ _) hb2
  · have HL := Lib.hid (show brL b true = rowOf b true 6 by simp [brL, hq])
    have HQ := Lib.hid hq
    go_enter Try.func64, Try.ntmps64
    go_wp2_with (refine wpList_loadB rfl _ rfl _ rfl b r0 hb ?_)
    refine (IsBench_c b _ hb).mono ?_
    rintro e w1 ⟨rfl, hb1⟩
    rw [HQ.out]
    have r1 := range_below r0 hb1
    have hb2 := Below.chain hb0 hb1
    go_wp2_with (refine wpList_loadB rfl _ rfl _ rfl b r1 hb ?_)
    refine (shown_b_c b _ hb hq).mono ?_
    rintro e w2 ⟨u, rfl, ho, hb3⟩
    have hb4 := Below.chain hb2 hb3
    go_wp2
    go_ret2
    exact IntsPost.mk' HL.out rfl (own_lo ho hb2.size) hb4
theorem SentRow_c (b : List Int) (w : World) (hb : b.length = 19) : Calls Try.prog 62 #[aggI b] w (IntsPost w (brL b false) (goodB b)) := by
  have r0 := range_new w (ints b) 67
  have hb0 := below_one (w := w) (.cells (ints b).toArray 67)
  unfold aggI
  rcases hq : goodB b with _ | _
  · have HL := Lib.hid (show brL b false = [] by simp [brL, hq])
    have HQ := Lib.hid hq; clear hq
    go_enter Try.func62, Try.ntmps62
    go_wp2_with (refine wpList_loadB rfl _ rfl _ rfl b r0 hb ?_)
    refine (IsBench_c b _ hb).mono ?_
    rintro e w1 ⟨rfl, hb1⟩
    rw [HQ.out]
    have hb2 := Below.chain hb0 hb1
    go_wp2
    go_ret2
    exact IntsPost.mk' HL.out rfl (World.ownsRow_nil _ _ _ _) hb2
  · have HL := Lib.hid (show brL b false = rowOf b false 6 by simp [brL, hq])
    have HQ := Lib.hid hq
    go_enter Try.func62, Try.ntmps62
    go_wp2_with (refine wpList_loadB rfl _ rfl _ rfl b r0 hb ?_)
    refine (IsBench_c b _ hb).mono ?_
    rintro e w1 ⟨rfl, hb1⟩
    rw [HQ.out]
    have r1 := range_below r0 hb1
    have hb2 := Below.chain hb0 hb1
    have hI := ints_box (w := w) (b := b) (t := 67) hb1 (n := 6) (by omega) (by omega) 6 (by omega) (by omega)
    go_wp2_with fail
    refine (Clone_c _ (b.take 6) _ hI (by simp; omega)).mono ?_
    rintro e w2 ⟨u, rfl, ho, hb3⟩
    have hb4 := Below.chain hb2 hb3
    go_wp2
    go_ret2
    exact IntsPost.mk' HL.out rfl (own_lo ho hb2.size) hb4
end Go.Proofs.Ytlipkplomndjcaa
namespace Go.Proofs.Ytlipkplomndjcaa
open Go.RowKit
set_option linter.unusedVariables false
set_option maxRecDepth 100000
def loopE : List Int → List Int → List (List Int)
  | [], _ => []
  | x :: t, part => ((part ++ [x]) :: loopE t (part ++ [x])) ++ loopE t part
def subsL (set : List Int) : List (List Int) := [] :: loopE set []
/-- what a function that is called for each part keeps: all blocks but its own ones -/
structure Fr (D : World → Nat → Prop) (w w' : World) : Prop where
  os : w'.os = w.os
  tape : w'.tape = w.tape
  output : w'.output = w.output
  size : w.heap.size ≤ w'.heap.size
  block : ∀ k, k < w.heap.size → ¬ D w k → w'.heap[k]? = w.heap[k]?
  own : ∀ k, D w' k → D w k ∨ w.heap.size ≤ k
theorem Fr.refl {D : World → Nat → Prop} (w : World) : Fr D w w := ⟨rfl, rfl, rfl, Nat.le_refl _, fun _ _ _ => rfl, fun _ h => .inl h⟩
theorem Fr.trans {D : World → Nat → Prop} {a b c : World} (h : Fr D a b) (k : Fr D b c) : Fr D a c where
  os := k.os.trans h.os
  tape := k.tape.trans h.tape
  output := k.output.trans h.output
  size := Nat.le_trans h.size k.size
  block := fun j hj hd => (k.block j (Nat.lt_of_lt_of_le hj h.size) (fun hd2 => by rcases h.own j hd2 with h3 | h3; exact hd h3; omega)).trans (h.block j hj hd)
  own := fun j hj => by
    rcases k.own j hj with h1 | h1
    · exact h.own j h1
    · exact .inr (Nat.le_trans h.size h1)
theorem Fr.cell {D : World → Nat → Prop} {w w' : World} (h : Fr D w w') {b o : Nat} {v : Value} (hc : w.cell? ⟨b, o, none⟩ = some v) (hd : ¬ D w b) : w'.cell? ⟨b, o, none⟩ = some v := by
  rw [World.cell?_of_block (w := w) (a := ⟨b, o, none⟩) (h.block b (World.block_lt_of_cell? _ _ hc) hd)]; exact hc
theorem Fr.ints {D : World → Nat → Prop} {w w' : World} (h : Fr D w w') {v : Value} {xs : List Int} (hv : Ints w v xs) (hd : ∀ g, v.ownBlock = some g → ¬ D w g) : Ints w' v xs := by
  obtain ⟨a, c, rfl, h1, h2, h3, h4⟩ := hv
  refine ⟨a, c, rfl, h1, h2, h3, fun hn => ?_⟩
  obtain ⟨b, off, rfl, hc⟩ := h4 hn
  refine ⟨b, off, rfl, fun j hj => ?_⟩
  have := hc j hj
  rw [List.getElem?_eq_getElem (by omega)] at this
  rw [h.cell this (hd b rfl), ← this, hc j hj]
/-- a function that is called for each part -/
structure Doer (D : World → Nat → Prop) (I : List (List Int) → World → Prop) (fn : Nat) (cb : Array Value) (S : List Int) : Prop where
  calls : CallsIt fn
  keepI : ∀ done w w', I done w → Below w.heap.size w w' → I done w'
  keepD : ∀ done w w', I done w → Below w.heap.size w w' → ∀ k, D w' k → D w k
  ltD : ∀ done w k, I done w → D w k → k < w.heap.size
  run : ∀ (done : List (List Int)) (part : List Int) v w, part.length ≤ 10 → (∀ y ∈ part, y ∈ S) → I done w → Ints w v part → (∀ g, v.ownBlock = some g → ¬ D w g) → Calls Try.prog fn (#[v] ++ cb) w fun e w' => e = .returned (.tuple #[]) ∧ I (done ++ [part]) w' ∧ Fr D w w'
theorem Doer.fr {D : World → Nat → Prop} {I : List (List Int) → World → Prop} {fn : Nat} {cb : Array Value} {S : List Int} (H : Doer D I fn cb S) {done : List (List Int)} {w w' : World} (hI : I done w) (hb : Below w.heap.size w w') : Fr D w w' :=
  ⟨hb.os, hb.tape, hb.output, hb.size, fun k hk _ => hb.block k hk, fun k hk => .inl (H.keepD done w w' hI hb k hk)⟩
/-- what the walk of a set finds in memory -/
structure SEnv (D : World → Nat → Prop) (w : World) (B2 B3 B4 fn : Nat) (cb : Array Value) (a : Option Addr) (c : Nat) (set : List Int) : Prop where
  c2 : w.cell? ⟨B2, 0, none⟩ = some (.func (.func fn) #[] cb)
  c3 : w.cell? ⟨B3, 0, none⟩ = some (.slice a set.length c)
  c4 : w.cell? ⟨B4, 0, none⟩ = some (.func (.func 159) #[] #[.pointer (some ⟨B2, 0, none⟩), .pointer (some ⟨B3, 0, none⟩), .pointer (some ⟨B4, 0, none⟩)])
  hs : Ints w (.slice a set.length c) set
  d2 : ¬ D w B2
  d3 : ¬ D w B3
  d4 : ¬ D w B4
  ds : ∀ g, (Value.slice a set.length c).ownBlock = some g → ¬ D w g
  lt2 : B2 < w.heap.size
  lts : ∀ g, (Value.slice a set.length c).ownBlock = some g → g < w.heap.size
theorem SEnv.keep {D : World → Nat → Prop} {w w' : World} {B2 B3 B4 fn : Nat} {cb : Array Value} {a : Option Addr} {c : Nat} {set : List Int} (h : SEnv D w B2 B3 B4 fn cb a c set) (hf : Fr D w w') : SEnv D w' B2 B3 B4 fn cb a c set where
  c2 := hf.cell h.c2 h.d2
  c3 := hf.cell h.c3 h.d3
  c4 := hf.cell h.c4 h.d4
  hs := hf.ints h.hs h.ds
  d2 := fun hd => by rcases hf.own _ hd with h1 | h1; exact h.d2 h1; have := World.block_lt_of_cell? _ _ h.c2; simp at this; omega
  d3 := fun hd => by rcases hf.own _ hd with h1 | h1; exact h.d3 h1; have := World.block_lt_of_cell? _ _ h.c3; simp at this; omega
  d4 := fun hd => by rcases hf.own _ hd with h1 | h1; exact h.d4 h1; have := World.block_lt_of_cell? _ _ h.c4; simp at this; omega
  ds := fun g hg hd => by rcases hf.own _ hd with h1 | h1; exact h.ds g hg h1; have := h.lts g hg; omega
  lt2 := Nat.lt_of_lt_of_le h.lt2 hf.size
  lts := fun g hg => Nat.lt_of_lt_of_le (h.lts g hg) hf.size
set_option maxHeartbeats 4000000 in
theorem extend_c {D : World → Nat → Prop} {I : List (List Int) → World → Prop} {fn B2 B3 B4 : Nat} {cb : Array Value} {a : Option Addr} {c : Nat} {set : List Int} (H : Doer D I fn cb set) (hset : set.length ≤ 10) :
    ∀ (m : Nat) (fr : Nat) (part : List Int) (vp : Value) (done : List (List Int)) (w : World), fr + m = set.length → part.length ≤ fr → (∀ y ∈ part, y ∈ set) → SEnv D w B2 B3 B4 fn cb a c set → I done w → Ints w vp part → (∀ g, vp.ownBlock = some g → ¬ D w g ∧ g < w.heap.size) →
      Calls Try.prog 159 #[vp, .int .i64 (fr : Int), .pointer (some ⟨B2, 0, none⟩), .pointer (some ⟨B3, 0, none⟩), .pointer (some ⟨B4, 0, none⟩)] w fun e w' => e = .returned (.tuple #[]) ∧ I (done ++ part :: loopE (set.drop fr) part) w' ∧ Fr D w w' := by
  intro m
  induction m using Nat.strongRecOn with
  | ind m ih =>
    intro fr part vp done w hm hpl hpm hE hI hvp hdp
    have hcf : ∀ (bs : Array Value) (w : World), (callFunc fn bs).run Try.prog w = .ok (.enter fn bs) w := H.calls
    have k2 := hE.c2
    have HR := Lib.hid (H.run done part vp w (by omega) hpm hI hvp (fun g hg => (hdp g hg).1))
    have hpv := hvp
    obtain ⟨pa, pc, rfl, _, _, _⟩ := hpv.parts
    go_enter Try.func159, Try.ntmps159
    go_wp2_with fail
    refine HR.out.mono ?_
    rintro e w1 ⟨rfl, hI1, hF1⟩
    have hE1 := hE.keep hF1
    have hv1 := hF1.ints hvp (fun g hg => (hdp g hg).1)
    have hd1 : ∀ g, (Value.slice pa part.length pc).ownBlock = some g → ¬ D w1 g ∧ g < w1.heap.size := fun g hg => ⟨fun hd => by rcases hF1.own g hd with h | h; exact (hdp g hg).1 h; have := (hdp g hg).2; omega, Nat.lt_of_lt_of_le (hdp g hg).2 hF1.size⟩
    clear k2 hE hI hvp hdp
    obtain ⟨i, hi, hz0, hz1, hz2⟩ := info_parts info_int
    have HI1 := Lib.hid hI1; have HE1 := Lib.hid hE1; have HF1 := Lib.hid hF1; have HV1 := Lib.hid hv1; have HD1 := Lib.hid hd1
    clear hI1 hE1 hF1 hv1 hd1
    have IH := Lib.hid ih; have HPM := Lib.hid hpm
    clear ih hpm
    go_wp2
    go_loopw [7] (fun j wr => ∃ (k : Nat) (V : List (List Int)), fr ≤ k ∧ k ≤ set.length ∧ j = .int .i64 (k : Int) ∧ Hid (loopE (set.drop fr) part = V ++ loopE (set.drop k) part) ∧ Hid (I (done ++ part :: V) wr) ∧ Hid (Fr D w1 wr)) (fun j _ => set.length - (intOf j).toNat)
    case atStart => exact ⟨fr, [], by omega, by omega, rfl, rfl, HI1.out, Fr.refl _⟩
    case round =>
      obtain ⟨k, V, hfk, hks, rfl, hV, hIr, hFr⟩ := hrel
      have hEr := Lib.hid (HE1.out.keep hFr.out)
      have c3 := hEr.out.c3
      have c4 := hEr.out.c4
      by_cases hlt : k < set.length
      · have hd : decide ((k : Int) < (set.length : Int)) = true := by simp; omega
        obtain ⟨x, hx⟩ := elem_at hlt
        obtain ⟨a', c', ea, _, _, HS⟩ := hEr.out.hs.parts
        injection ea with ea1 ea2 ea3
        subst ea1
        obtain ⟨b, off, rfl, g0⟩ := HS.out k x hx.out
        have hvr := HF1.out.trans hFr.out
        have hv2 : Ints wr (.slice pa part.length pc) part := hFr.out.ints HV1.out (fun g hg => (HD1.out g hg).1)
        clear HS
        have hw : IntKind.i64.wrap ((k : Int) + 1) = ((k + 1 : Nat) : Int) := by rw [IntWalk.i64_in _ (by omega)]; simp
        go_wp2_with fail
        go_region_held3 (fun w' => w'.cell? ⟨B3, 0, none⟩ = some (.slice (some ⟨b, off, none⟩) set.length c) ∧ w'.cell? ⟨B4, 0, none⟩ = some (.func (.func 159) #[] #[.pointer (some ⟨B2, 0, none⟩), .pointer (some ⟨B3, 0, none⟩), .pointer (some ⟨B4, 0, none⟩)]) ∧ w'.cell? ⟨b, off + k, none⟩ = some (.int .i64 x))
          (first | (refine ⟨?_, ?_, ?_⟩ <;> assumption) | go_keep)
          (first | (go_at_call 123; refine (Clone_c _ part _ (by first | exact Sl.drew hv2 | exact Sl.drew (Sl.alloc hv2 _) | exact Sl.alloc (Sl.drew hv2) _) (by omega)).mono ?_; rintro e w' ⟨uc, rfl, hoc, hbc⟩; have hb3 : Below wr.heap.size wr w' := Below.chain (by (repeat (first | exact Below.refl _ _ | exact (Below.refl _ _).drew | assumption | exact below_one _ | refine Below.chain ?_ (by assumption) | refine Below.drew ?_ | refine Below.alc ?_ _ | refine below_drewN ?_ | (refine Below.setCell ?_ ?_ _) | exact Nat.le_refl _ | (simp; done) | (simp; omega)))) hbc; have l0 := cell_later hb3 c3; have l1 := cell_later hb3 c4; have l2 := cell_later hb3 g0) | (go_at_call 159; have hF5a := H.fr hIr.out hb7; have hd3 : ∀ g, (Value.slice (some ⟨gg, 0, none⟩) (part.length + 1) cap).ownBlock = some g → ¬ D w3 g ∧ g < w3.heap.size := fun g hg => ⟨fun hdd => by have h1 := H.ltD _ _ _ hIr.out (H.keepD _ _ _ hIr.out hb7 g hdd); have h2 := (ho5.lt g hg).1; omega, (ho5.lt g hg).2⟩; have HX := IH.out (set.length - (k + 1)) (by omega) (k + 1) (part ++ [x]) (.slice (some ⟨gg, 0, none⟩) (part.length + 1) cap) (done ++ part :: V) w3 (by omega) (by simp; omega) (fun y hy => by rcases List.mem_append.1 hy with h | h; exact HPM.out y h; rw [List.mem_singleton] at h; rw [h]; exact List.mem_of_getElem? hx.out) (hEr.out.keep hF5a) (H.keepI _ _ _ hIr.out hb7) (Ints.of_own (ownsRow_cast ho5 (by simp) (by simp))) hd3; rw [show ((k + 1 : Nat) : Int) = (k : Int) + 1 by simp] at HX; refine HX.mono ?_; rintro e w4 ⟨rfl, hI4, hF4⟩; have hF5 := hF5a.trans hF4; have n0 := hF5.cell c3 hEr.out.d3; have n1 := hF5.cell c4 hEr.out.d4; have n2 := hF5.cell g0 (hEr.out.ds b rfl)) | (go_split_ands; refine step_append_lies _ (by rfl) _ _ _ (by rfl) wr.heap.size 3 i _ 1 8 Try.underlying24 hi hz0 hz1 hz2 rfl (by omega) _ part.length (ints part) (by rfl) (by first | exact own_lo hoc (by simp) | exact own_lo (hoc.alloc _) (by simp)) _ 1 1 [.int .i64 x] (by rfl) (by rfl) (by first | exact news_new _ [.int .i64 x] _ | exact fun j u hu => cell_later hbc (news_new _ [.int .i64 x] _ j u hu)) (by simp [Value.oneCell']) (by omega) (by unfold maxLen; omega) (by omega) (by have := hb3.size; simp; omega) _ rfl ?_; intro gg cap w3 ho5 hg5 hat hlt5; have hb7 : Below wr.heap.size wr w3 := (by first | exact hb3 | exact Below.alc hb3 _ : Below wr.heap.size wr _).grown hg5 (by have := hb3.size; simp; omega) (fun g hg => by have := (hoc.lt g hg).1; simp at this; omega); have k0 := cell_later hb7 c3; have k1 := cell_later hb7 c4; have k2 := cell_later hb7 g0))
        all_goals
          have HI4 := Lib.hid hI4; have HF5 := Lib.hid hF5
          clear hI4 hF5 hF4 hF5a hd3 ho5 hg5 hb7 hoc hbc hb3 k0 k1 k2 l0 l1 l2 n0 n1 n2 g0 c3 c4
          have hdr : set.drop k = x :: set.drop (k + 1) := by
            rw [List.drop_eq_getElem_cons hlt]
            have := hx.out
            rw [List.getElem?_eq_getElem hlt] at this
            rw [Option.some.inj this]
          have HV2 : Hid (loopE (set.drop fr) part = (V ++ (part ++ [x]) :: loopE (set.drop (k + 1)) (part ++ [x])) ++ loopE (set.drop (k + 1)) part) := by
            show _ = _
            rw [hV.out, hdr]
            simp [loopE]
          have HI5 : Hid (I (done ++ part :: (V ++ (part ++ [x]) :: loopE (set.drop (k + 1)) (part ++ [x]))) w4) := by
            have := HI4.out
            show I _ _
            simpa using this
          clear hdr hV HI4
          go_wp2
          go_roundw
          case rel => exact ⟨k + 1, _, by omega, by omega, by go_num, HV2, HI5, hFr.out.trans HF5.out⟩
          case measure => simp [intOf]; omega
      · obtain rfl : k = set.length := by omega
        have HI5 : Hid (I (done ++ part :: loopE (set.drop fr) part) wr) := by
          have h1 := hIr.out
          have h2 := hV.out
          rw [List.drop_length] at h2
          simp only [loopE, List.append_nil] at h2
          show I _ _
          rw [h2]; exact h1
        have HF5 := Lib.hid (HF1.out.trans hFr.out)
        clear hV hIr
        go_wp2
        refine bodyPost_end (results_none rfl _ _ _) rfl ?_
        exact ⟨rfl, HI5.out, HF5.out⟩
theorem subsets_c {D : World → Nat → Prop} {I : List (List Int) → World → Prop} {fn : Nat} {cb : Array Value} {set : List Int} (H : Doer D I fn cb set) (hset : set.length ≤ 10) (v : Value) (w : World) (done : List (List Int)) (hI : I done w) (hv : Ints w v set)
    (hds : ∀ g, v.ownBlock = some g → ¬ D w g ∧ g < w.heap.size) :
    Calls Try.prog 130 #[v, .func (.func fn) #[] cb] w fun e w' => e = .returned (.tuple #[]) ∧ I (done ++ subsL set) w' ∧ Fr D w w' := by
  obtain ⟨a, c, rfl, _, _, _⟩ := hv.parts
  have hbA : Below w.heap.size w (((w.alloc (.cells #[.slice a set.length c] 24)).alloc (.cells #[.func (.func fn) #[] cb] 120)).alloc (.cells #[.func (.func 159) #[] #[.pointer (some ⟨w.heap.size + 1, 0, none⟩), .pointer (some ⟨w.heap.size, 0, none⟩), .pointer (some ⟨w.heap.size + 1 + 1, 0, none⟩)]] 132)) := by (repeat (first | exact Below.refl _ _ | exact (Below.refl _ _).drew | assumption | exact below_one _ | refine Below.chain ?_ (by assumption) | refine Below.drew ?_ | refine Below.alc ?_ _ | refine below_drewN ?_ | (refine Below.setCell ?_ ?_ _) | exact Nat.le_refl _ | (simp; done) | (simp; omega)))
  have hE : SEnv D (((w.alloc (.cells #[.slice a set.length c] 24)).alloc (.cells #[.func (.func fn) #[] cb] 120)).alloc (.cells #[.func (.func 159) #[] #[.pointer (some ⟨w.heap.size + 1, 0, none⟩), .pointer (some ⟨w.heap.size, 0, none⟩), .pointer (some ⟨w.heap.size + 1 + 1, 0, none⟩)]] 132)) (w.heap.size + 1) w.heap.size (w.heap.size + 1 + 1) fn cb a c set :=
    have hnd : ∀ k, w.heap.size ≤ k → ¬ D (((w.alloc (.cells #[.slice a set.length c] 24)).alloc (.cells #[.func (.func fn) #[] cb] 120)).alloc (.cells #[.func (.func 159) #[] #[.pointer (some ⟨w.heap.size + 1, 0, none⟩), .pointer (some ⟨w.heap.size, 0, none⟩), .pointer (some ⟨w.heap.size + 1 + 1, 0, none⟩)]] 132)) k := fun k hk hd => by
      have := H.ltD _ _ _ hI (H.keepD _ _ _ hI hbA k hd); omega
    { c2 := by rw [World.cell?_alloc_past _ _ _ (by simp), World.cell?_alloc_at _ _ _ _ (by simp)]; rfl
      c3 := by rw [World.cell?_alloc_past _ _ _ (by simp only [World.size_alloc]; omega), World.cell?_alloc_past _ _ _ (by simp), World.cell?_alloc_at _ _ _ _ rfl]; rfl
      c4 := by rw [World.cell?_alloc_at _ _ _ _ (by simp)]; rfl
      hs := hv.below hbA
      d2 := hnd _ (by omega)
      d3 := hnd _ (by omega)
      d4 := hnd _ (by omega)
      ds := fun g hg hd => (hds g hg).1 (H.keepD _ _ _ hI hbA g hd)
      lt2 := by simp
      lts := fun g hg => by have := (hds g hg).2; simp; omega }
  have HX := extend_c H hset set.length 0 [] (.slice none 0 0) done _ (by omega) (by simp) (fun y hy => by simp at hy) hE (H.keepI _ _ _ hI hbA) (Sl.nil_ _ _) (fun g hg => by simp [Value.ownBlock] at hg)
  have hF := Lib.hid (H.fr hI hbA)
  have HY := Lib.hid HX
  have hst : (store ⟨w.heap.size + 1 + 1, 0, none⟩ (.func (.func 159) #[] #[.pointer (some ⟨w.heap.size + 1, 0, none⟩), .pointer (some ⟨w.heap.size, 0, none⟩), .pointer (some ⟨w.heap.size + 1 + 1, 0, none⟩)])).run Try.prog (((w.alloc (.cells #[.slice a set.length c] 24)).alloc (.cells #[.func (.func fn) #[] cb] 120)).alloc (.cells #[.nilFunc] 132)) = .ok () (((w.alloc (.cells #[.slice a set.length c] 24)).alloc (.cells #[.func (.func fn) #[] cb] 120)).alloc (.cells #[.func (.func 159) #[] #[.pointer (some ⟨w.heap.size + 1, 0, none⟩), .pointer (some ⟨w.heap.size, 0, none⟩), .pointer (some ⟨w.heap.size + 1 + 1, 0, none⟩)]] 132)) := by
    rw [run_store _ _ _ _ _ rfl]
    simp [go_sem]
  clear HX hE hds hI hv
  go_enter Try.func130, Try.ntmps130
  go_wp2_with fail
  refine HY.out.mono ?_
  rintro e w1 ⟨rfl, hI1, hF1⟩
  have HI := Lib.hid hI1; have HF := Lib.hid (hF.out.trans hF1)
  clear hI1 hF1
  go_wp2
  refine bodyPost_end (results_none rfl _ _ _) rfl ?_
  exact ⟨rfl, HI.out, HF.out⟩
#print axioms subsets_c
end Go.Proofs.Ytlipkplomndjcaa
