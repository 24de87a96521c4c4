/- Walks of ShownRow, both texts. -/
import Derived.Test.YtlipkplomndjcaaRowsOf
import Derived.Test.YtlipkplomndjcaaHelp
import Derived.Test.YtlipkplomndjcaaToFaults
import Derived.Deep.AppendLies
namespace Go.Proofs.Ytlipkplomndjcaa
open Go.RowKit
set_option linter.unusedVariables false
set_option maxRecDepth 100000
def shownTo (fs : List (Int × Int)) (r : List Int) (k : Nat) : List Int := ((fs.zip r).take k).map fun p => shC p.1.1 p.1.2 p.2
theorem shownTo_le (fs : List (Int × Int)) (r : List Int) (k : Nat) : (shownTo fs r k).length ≤ k := by simp [shownTo, List.length_take]; omega
theorem shownTo_succ {fs : List (Int × Int)} {r : List Int} {k : Nat} {f : Int × Int} {c : Int} (hf : fs[k]? = some f) (hc : r[k]? = some c) : shownTo fs r (k + 1) = shownTo fs r k ++ [shC f.1 f.2 c] := by
  have h : (fs.zip r)[k]? = some (f, c) := by rw [List.getElem?_zip_eq_some]; exact ⟨hf, hc⟩
  unfold shownTo
  rw [take_snoc h]; simp
def srL (fs : List (Int × Int)) (r : List Int) : List Int := if areB fs r then shownTo fs r r.length else []
theorem srL_le (fs : List (Int × Int)) (r : List Int) : (srL fs r).length ≤ 6 := by
  unfold srL; split
  · rename_i h; exact Nat.le_trans (shownTo_le _ _ _) (rowB_le (areB_row h))
  · simp
/-- the post of a text that returns a slice of ints of the call's own and a bool -/
def IntsPost (w : World) (L : List Int) (b : Bool) (e : Ending) (w' : World) : Prop :=
  ∃ u, e = .returned (.tuple #[u, .bool b]) ∧ w'.ownsRow w.heap.size 3 1 u L.length (L.map (Value.int .i64)) ∧ Below w.heap.size w w'
theorem IntsPost.mk' {w w' : World} {L L' : List Int} {b b' : Bool} {u : Value} (hL : L = L') (hbb : b = b') (ho : w'.ownsRow w.heap.size 3 1 u L'.length (L'.map (Value.int .i64))) (hb : Below w.heap.size w w') : IntsPost w L b (.returned (.tuple #[u, .bool b'])) w' := by
  subst hL hbb; exact ⟨u, rfl, ho, hb⟩
theorem ShownRow_c (v1 v2 : Value) (fs : List (Int × Int)) (r : List Int) (w : World) (h1 : Pairs w v1 fs) (h2 : Ints w v2 r) :
    Calls Try.prog 22 #[v1, v2] w (IntsPost w (srL fs r) (areB fs r)) := by
  obtain ⟨a1, c1, rfl, _, _, H1⟩ := h1.parts
  obtain ⟨a2, c2, rfl, _, _, H2⟩ := h2.parts
  obtain ⟨i, hi, hz0, hz1, hz2⟩ := info_parts info_int
  rcases ha : areB fs r with _ | _
  · have HL := Lib.hid (show srL fs r = [] by simp [srL, ha])
    have HA := Lib.hid ha; clear ha
    go_enter Try.func22, Try.ntmps22
    go_wp2_with fail
    refine (areFaults_c _ _ fs r _ h1 h2).mono ?_
    rintro e w1 ⟨rfl, hb1⟩
    rw [HA.out]
    go_wp2
    go_ret2
    exact IntsPost.mk' HL.out rfl (World.ownsRow_nil _ _ _ _) hb1
  · have HL := Lib.hid (show srL fs r = shownTo fs r r.length by simp [srL, ha])
    have hr6 := rowB_le (areB_row ha)
    have HA := Lib.hid ha; clear ha
    go_enter Try.func22, Try.ntmps22
    go_wp2_with fail
    refine (areFaults_c _ _ fs r _ h1 h2).mono ?_
    rintro e w1 ⟨rfl, hb1⟩
    rw [HA.out]
    clear h1 h2
    go_wp2
    go_loopw [6, 7, 8, 15] (fun o _ _ j wr => ∃ k : Nat, k ≤ r.length ∧ j = .int .i64 (k : Int) ∧ wr.ownsRow w.heap.size 3 1 o (shownTo fs r k).length ((shownTo fs r k).map (Value.int .i64)) ∧ Below w.heap.size w wr) (fun _ _ _ j _ => r.length - (intOf j).toNat)
    case atStart => exact ⟨0, by omega, rfl, World.ownsRow_nil _ _ _ _, hb1⟩
    case round =>
      obtain ⟨k, hk, rfl, ho, hb⟩ := hrel
      clear hb1
      by_cases hlt : k < r.length
      · have hd : decide ((k : Int) < (r.length : Int)) = true := by simp; omega
        have hlf : k < fs.length := by rw [areB_len HA.out]; exact hlt
        obtain ⟨f, hf⟩ := elem_at hlf
        obtain ⟨c, hc⟩ := elem_at hlt
        obtain ⟨b1, o1, rfl, f0, f1⟩ := H1.out k _ hf.out
        obtain ⟨b2, o2, rfl, f2⟩ := H2.out k _ hc.out
        have g0 := cell_later hb f0
        have g1 := cell_later hb f1
        have g2 := cell_later hb f2
        have bd := areB_fault HA.out hf.out
        have bc := rowB_cell (areB_row HA.out) hc.out
        have hS := shownTo_succ hf.out hc.out
        have hle := shownTo_le fs r k
        generalize shownTo fs r k = cur at *
        have HS := Lib.hid hS; clear hS f0 f1 f2
        go_wp2_with fail
        refine (shown_c f.1 f.2 c bd.1 bd.2.1 bd.2.2.1 bd.2.2.2 bc.1 bc.2 _).mono ?_
        rintro e w2 ⟨rfl, hb2⟩
        have ho2 := own_keep ho hb2
        have hb3 := Below.chain hb hb2
        generalize shC f.1 f.2 c = X at *
        clear ho hb hb2 g0 g1 g2
        go_wp2_with (at_builtin; refine wpList_append_own_at _ rfl _ _ 24 rfl w.heap.size 3 i (.int .i64 0) 1 8 Try.underlying24 hi hz0 hz1 hz2 rfl (by decide) _ cur.length (cur.map (Value.int .i64)) rfl (ho2.alloc _) ⟨w2.heap.size, 0, none⟩ 1 1 [.int .i64 X] rfl rfl (news_new _ [.int .i64 X] _) (by simp [Value.oneCell']) (by unfold maxLen; omega) (by omega) (by have := hb3.size; simp; omega) ?_)
        intro v' w3 ho5 hg5 _ _
        have hb7 : Below w.heap.size w w3 := (Below.alc hb3 _).grown hg5 (by have := hb3.size; simp; omega) (fun g hg => (ho2.lt g hg).1)
        clear ho2 hb3 hg5
        go_wp2
        go_roundw
        case rel => exact ⟨k + 1, by omega, by go_num, by rw [HS.out]; exact ownsRow_cast ho5 (by simp) (by simp), hb7⟩
        case measure => simp [intOf]; omega
      · obtain rfl : k = r.length := by omega
        go_wp2
        go_ret2
        exact IntsPost.mk' HL.out rfl ho hb
theorem sShownRow_c (v1 v2 : Value) (fs : List (Int × Int)) (r : List Int) (w : World) (h1 : Pairs w v1 fs) (h2 : Ints w v2 r) :
    Calls Try.prog 28 #[v1, v2] w (IntsPost w (srL fs r) (areB fs r)) := by
  obtain ⟨a1, c1, rfl, _, _, H1⟩ := h1.parts
  obtain ⟨a2, c2, rfl, _, _, H2⟩ := h2.parts
  obtain ⟨i, hi, hz0, hz1, hz2⟩ := info_parts info_int
  have ho0 := World.ownsRow_lit (e := 3) (size := 1) (base := w.heap.size) w #[] 0 (Nat.le_refl _) (by decide) rfl
  have hb0 := below_one (w := w) (.cells #[] 3)
  have h10 := h1.below hb0
  have h20 := h2.below hb0
  rcases ha : areB fs r with _ | _
  · have HL := Lib.hid (show srL fs r = [] by simp [srL, ha])
    have HA := Lib.hid ha; clear ha
    go_enter Try.func28, Try.ntmps28
    go_wp2_with fail
    refine (l3Faults_c _ _ fs r _ h10 h20).mono ?_
    rintro e w1 ⟨rfl, hb1⟩
    rw [HA.out]
    go_wp2
    go_ret2
    exact IntsPost.mk' HL.out rfl (own_keep ho0 hb1) (Below.chain hb0 hb1)
  · have HL := Lib.hid (show srL fs r = shownTo fs r r.length by simp [srL, ha])
    have hr6 := rowB_le (areB_row ha)
    have HA := Lib.hid ha; clear ha
    go_enter Try.func28, Try.ntmps28
    go_wp2_with fail
    refine (l3Faults_c _ _ fs r _ h10 h20).mono ?_
    rintro e w1 ⟨rfl, hb1⟩
    rw [HA.out]
    have ho1 := own_keep ho0 hb1
    have hb01 := Below.chain hb0 hb1
    clear h1 h2 h10 h20 ho0 hb0 hb1
    go_wp2
    go_loopw [6, 7] (fun o j wr => ∃ k : Nat, k ≤ r.length ∧ j = .int .i64 (k : Int) ∧ wr.ownsRow w.heap.size 3 1 o (shownTo fs r k).length ((shownTo fs r k).map (Value.int .i64)) ∧ Below w.heap.size w wr) (fun _ j _ => r.length - (intOf j).toNat)
    case atStart => exact ⟨0, by omega, rfl, ho1, hb01⟩
    case round =>
      obtain ⟨k, hk, rfl, ho, hb⟩ := hrel
      clear ho1 hb01
      by_cases hlt : k < r.length
      · have hd : decide ((k : Int) < (r.length : Int)) = true := by simp; omega
        have hlf : k < fs.length := by rw [areB_len HA.out]; exact hlt
        have hlf2 : (k : Int) < (fs.length : Int) := by omega
        obtain ⟨f, hf⟩ := elem_at hlf
        obtain ⟨c, hc⟩ := elem_at hlt
        obtain ⟨b1, o1, rfl, f0, f1⟩ := H1.out k _ hf.out
        obtain ⟨b2, o2, rfl, f2⟩ := H2.out k _ hc.out
        have l1 := World.block_lt_of_cell? w _ f0
        have l2 := World.block_lt_of_cell? w _ f2
        have g0 := cell_later hb f0
        have g1 := cell_later hb f1
        have g2 := cell_later hb f2
        have bd := areB_fault HA.out hf.out
        have bc := rowB_cell (areB_row HA.out) hc.out
        have hS := shownTo_succ hf.out hc.out
        have hle := shownTo_le fs r k
        have hsz := hb.size
        generalize shownTo fs r k = cur at *
        have HS := Lib.hid hS; clear hS f0 f1 f2
        go_wp2_with fail
        go_region_held3 (fun w' => w'.cell? ⟨b1, o1 + k * 2, none⟩ = some (.int .i64 f.1) ∧ w'.cell? ⟨b1, o1 + k * 2 + 1, none⟩ = some (.int .i64 f.2) ∧ w'.cell? ⟨b2, o2 + k, none⟩ = some (.int .i64 c))
          (first | go_keep | (go_split_ands; exact ⟨cell_later hb2 (by assumption), cell_later hb2 (by assumption), cell_later hb2 (by assumption)⟩) | (go_split_ands; refine ⟨?_, ?_, ?_⟩ <;> assumption))
          (first | (go_at_call 81; refine (l3Shown_c f.1 f.2 c bd.1 bd.2.1 bd.2.2.1 bd.2.2.2 bc.1 bc.2 _).mono ?_; rintro e w' ⟨rfl, hb2⟩; have ho2 := own_keep ho.drew hb2) | (go_split_ands; have hb3 := Below.chain hb.drew hb2; refine step_append_lies _ (by rfl) _ _ _ (by rfl) w.heap.size 3 i _ 1 8 Try.underlying24 hi hz0 hz1 hz2 rfl (by omega) _ cur.length (cur.map (Value.int .i64)) (by rfl) (ho2.alloc _) ⟨w'.heap.size, 0, none⟩ 1 1 [.int .i64 (shC f.1 f.2 c)] (by rfl) (by rfl) (news_new _ [.int .i64 (shC f.1 f.2 c)] _) (by simp [Value.oneCell']) (by omega) (by unfold maxLen; omega) (by omega) (by have := hb3.size; simp; omega) (w'.heap.size + 1) (by simp) ?_; intro gg cap w3 ho5 hg5 hat hlt5; have k0 : w3.cell? ⟨b1, o1 + k * 2, none⟩ = some (.int .i64 f.1) := hg5.cell (by assumption) (fun e => by have := (ho2.lt _ e.symm).1; simp only at this; omega); have k1 : w3.cell? ⟨b1, o1 + k * 2 + 1, none⟩ = some (.int .i64 f.2) := hg5.cell (by assumption) (fun e => by have := (ho2.lt _ e.symm).1; simp only at this; omega); have k2 : w3.cell? ⟨b2, o2 + k, none⟩ = some (.int .i64 c) := hg5.cell (by assumption) (fun e => by have := (ho2.lt _ e.symm).1; simp only at this; omega)))
        have hb7 : Below w.heap.size w w3 := (Below.alc hb3 _).grown hg5 (by have := hb3.size; simp; omega) (fun g hg => (ho2.lt g hg).1)
        clear ho2 hb3 hg5 ho hb g0 g1 g2 k0 k1 k2
        go_wp2
        go_roundw
        case rel => exact ⟨k + 1, by omega, by go_num, by rw [HS.out]; exact ownsRow_cast ho5 (by simp) (by simp), hb7⟩
        case measure => simp [intOf]; omega
      · obtain rfl : k = r.length := by omega
        go_wp2
        go_ret2
        exact IntsPost.mk' HL.out rfl ho hb
end Go.Proofs.Ytlipkplomndjcaa
