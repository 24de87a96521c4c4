/- Walks of the checker's draws of arguments for the laws on faults: each gives some arguments, and turns nothing that was there. -/
import Derived.Test.YtlipkplomndjcaaDraw
import Derived.Test.YtlipkplomndjcaaCode
import Derived.Test.YtlipkplomndjcaaShownRow
import Derived.Test.YtlipkplomndjcaaApp
namespace Go.Proofs.Ytlipkplomndjcaa
open Go.RowKit
set_option linter.unusedVariables false
set_option linter.unusedSimpArgs false
set_option maxRecDepth 100000

/-- What a draw of a slice of Faults gives. -/
def DrawP (w : World) (g m n : Nat) (e : Ending) (w' : World) : Prop :=
  ∃ (v : Value) (ps : List (Int × Int)), e = .returned v ∧ ps.length ≤ n ∧ Pairs w' v ps ∧ v.ownBlock ≠ some g ∧ CStep w w' g m
theorem own_block_ne {w : World} {lo g : Nat} {e : TypeId} {size n : Nat} {v : Value} {xs : List Value} (h : w.ownsRow lo e size v n xs) (hg : g < lo) : v.ownBlock ≠ some g := by
  rcases h.2 with ⟨rfl, _⟩ | ⟨k, cap, cur, rfl, hb, _⟩
  · simp [Value.ownBlock]
  · simp [Value.ownBlock]; omega
/-- the row without its first pair -/
theorem pairs_tail {w : World} {lo g cap : Nat} {p : Int × Int} {ps : List (Int × Int)} (h : w.ownsRow lo 42 2 (.slice (some ⟨g, 0, none⟩) (ps.length + 1) cap) (ps.length + 1) (flat2 (p :: ps))) (hc : cap ≤ 9223372036854775807) (hn : ps.length + 1 ≤ cap) :
    Pairs w (.slice (some ⟨g, 2, none⟩) ps.length (cap - 1)) ps := by
  refine ⟨_, _, rfl, by omega, by unfold maxLen; omega, ?_, fun _ => ⟨g, 2, rfl, fun j hj => ?_⟩⟩
  · have := h.1; simp [flat2] at this ⊢; omega
  · rw [h.cellAt (2 + j) (by omega)]
    rw [show 2 + j = j + 1 + 1 by omega]; rfl
theorem pairs_none {w : World} {a : Option Addr} {c : Nat} (hc : c ≤ 9223372036854775807) : Pairs w (.slice a 0 c) [] := ⟨a, c, rfl, Nat.zero_le _, by unfold maxLen; omega, rfl, fun h => absurd h (by decide)⟩
theorem own_setCell {w : World} {lo : Nat} {e : TypeId} {size n : Nat} {v : Value} {xs : List Value} (h : w.ownsRow lo e size v n xs) {p : Addr} (hp : v.ownBlock ≠ some p.block) (x : Value) : (w.setCell p x).ownsRow lo e size v n xs :=
  h.kept (row := some p.block) ⟨rfl, rfl, rfl, by simp [World.setCell], fun k hk hne => Below.heap_setCell _ _ _ _ (fun e => hne (by rw [e]))⟩ (.inr hp)
set_option maxHeartbeats 1000000 in
theorem panel3_c (v : Value) (xs : List Int) (g m : Nat) (w : World) (h : CurAt w g m) (hm : m + 500 < 4611686018427387904) (hv : Ints w v xs) (hl : xs.length ≤ 7) :
    Calls Try.prog 96 #[.pointer (some ⟨g, 0, none⟩), v] w (DrawP w g (m + 500) 7) := by
  have HC := Lib.hid h
  have hga := h.lt
  obtain ⟨a, c, rfl, _, _, _⟩ := hv.parts
  clear hv
  obtain ⟨i, hi, hz0, hz1, hz2⟩ := info_parts info_Fault
  have HO : Hid ((w.alloc (.cells #[] 42)).ownsRow w.heap.size 42 2 (.slice (some ⟨w.heap.size, 0, none⟩) 0 0) ([] : List (Int × Int)).length (flat2 [])) := World.ownsRow_lit (e := 42) (size := 2) (base := w.heap.size) w #[] 0 (Nat.le_refl _) (by decide) rfl
  have HS0 := Lib.hid ((CStep.refl HC.out).alloc (.cells #[] 42))
  clear h
  go_enter Try.func96, Try.ntmps96
  go_wp2
  go_loopw [5, 6] (fun o j wr => ∃ (k : Nat) (ps : List (Int × Int)), k ≤ xs.length ∧ j = .int .i64 (k : Int) ∧ ps.length = k ∧ wr.ownsRow w.heap.size 42 2 o ps.length (flat2 ps) ∧ CStep w wr g (m + 40 * k)) (fun _ j _ => xs.length - (intOf j).toNat)
  case atStart => exact ⟨0, [], by omega, rfl, rfl, HO.out, HS0.out⟩
  case round =>
    obtain ⟨k, ps, hk, rfl, rfl, ho, hs⟩ := hrel
    have NE : Hid (u5.ownBlock ≠ some wr.heap.size) := fun e => by have := (ho.lt _ e).2; omega
    have HS := Lib.hid (hs.alloc (.cells #[.int .i64 0, .int .i64 0] 42))
    have HS1 := Lib.hid hs
    have HB := Lib.hid (Bk.new wr 42 #[.int .i64 0, .int .i64 0])
    have HO1 := Lib.hid (ho.alloc (.cells #[.int .i64 0, .int .i64 0] 42))
    have HO2 := Lib.hid ho
    have hsz := hs.gr.size
    clear hs ho HO HS0
    by_cases hlt : ps.length < xs.length
    · have hd : decide ((ps.length : Int) < (xs.length : Int)) = true := by simp; omega
      go_wp2_with fail
      refine (one_c 2 g _ _ HS.out.cur (by omega)).mono ?_
      rintro e w2 ⟨b, rfl, hs⟩
      have HS2 := Lib.hid (HS.out.trans hs)
      have HB2 := Lib.hid (HB.out.step hs (by omega))
      have HO3 := Lib.hid (hs.row HO1.out hga)
      have hlt2 : wr.heap.size < w2.heap.size := HB2.out.lt
      clear hs HB HO1 HO2 HS HS1
      cases b with
      | false =>
        have q0 : w2.cell? ⟨wr.heap.size, 0, none⟩ = some (.int .i64 0) := HB2.out.cell 0
        have q1 : w2.cell? ⟨wr.heap.size, 1, none⟩ = some (.int .i64 0) := HB2.out.cell 1
        go_wp2_with (at_builtin; refine wpList_append_own_at _ rfl _ _ 27 rfl w.heap.size 42 i (.agg #[.int .i64 0, .int .i64 0]) 2 16 Try.underlying27 hi hz0 hz1 hz2 rfl (by decide) _ ps.length (flat2 ps) rfl (HO3.out.alloc _) ⟨w2.heap.size, 0, none⟩ 1 1 [.int .i64 0, .int .i64 0] rfl rfl (news_new _ [.int .i64 0, .int .i64 0] _) (by simp [Value.oneCell']) (by unfold maxLen; omega) (by omega) (by have := HS2.out.gr.size; simp; omega) ?_)
        intro v' w4 ho5 hg5 _ _
        have HS4 := Lib.hid ((HS2.out.alloc _).grown hg5 hga (fun k hk => ((HO3.out.alloc (.cells #[.int .i64 0, .int .i64 0] 42)).lt k hk).1))
        have HO4 := Lib.hid ho5
        clear ho5 hg5
        go_wp2
        go_roundw
        case rel => exact ⟨ps.length + 1, ps ++ [(0, 0)], by omega, by go_num, by simp, ownsRow_cast HO4.out (by simp) (flat2_snoc _ _ _).symm, HS4.out.mono (by omega)⟩
        case measure => simp [intOf]; omega
      | true =>
        go_wp2_with fail
        refine (fault3_c g _ _ HS2.out.cur (by omega)).mono ?_
        rintro e w3 ⟨d, l, rfl, hs⟩
        have HB3 := Lib.hid (HB2.out.step hs (by omega))
        have HO5 := Lib.hid (hs.row HO3.out hga)
        have HS5 := Lib.hid (HS2.out.trans hs)
        have r0 : w3.cell? ⟨wr.heap.size, 0, none⟩ = some (.int .i64 0) := HB3.out.cell 0
        have r1 : w3.cell? ⟨wr.heap.size, 1, none⟩ = some (.int .i64 0) := HB3.out.cell 1
        have f0 : w3.frozen? ⟨wr.heap.size, 0, none⟩ = false := HB3.out.frozen 0
        have f1 : w3.frozen? ⟨wr.heap.size, 1, none⟩ = false := HB3.out.frozen 1
        clear hs HB2 HO3 HS2
        have HO6 : Hid (((w3.setCell ⟨wr.heap.size, 0, none⟩ (.int .i64 d)).setCell ⟨wr.heap.size, 1, none⟩ (.int .i64 l)).ownsRow w.heap.size 42 2 u5 ps.length (flat2 ps)) := own_setCell (own_setCell HO5.out (p := ⟨wr.heap.size, 0, none⟩) NE.out _) (p := ⟨wr.heap.size, 1, none⟩) NE.out _
        have HS6 : Hid (CStep w ((w3.setCell ⟨wr.heap.size, 0, none⟩ (.int .i64 d)).setCell ⟨wr.heap.size, 1, none⟩ (.int .i64 l)) g _) := (HS5.out.store hga hsz _).store hga hsz _
        have e6 : ((w3.setCell ⟨wr.heap.size, 0, none⟩ (.int .i64 d)).setCell ⟨wr.heap.size, 1, none⟩ (.int .i64 l)).heap.size = w3.heap.size := by simp [World.setCell]
        have hn6 := Lib.hid (news_new ((w3.setCell ⟨wr.heap.size, 0, none⟩ (.int .i64 d)).setCell ⟨wr.heap.size, 1, none⟩ (.int .i64 l)) [.int .i64 d, .int .i64 l] 42)
        go_wp2_with (at_builtin; refine wpList_append_own_at _ rfl _ _ 27 rfl w.heap.size 42 i (.agg #[.int .i64 0, .int .i64 0]) 2 16 Try.underlying27 hi hz0 hz1 hz2 rfl (by decide) _ ps.length (flat2 ps) rfl (HO6.out.alloc _) ⟨w3.heap.size, 0, none⟩ 1 1 [.int .i64 d, .int .i64 l] rfl rfl (by have h := hn6.out; rw [e6] at h; exact h) (by simp [Value.oneCell']) (by unfold maxLen; omega) (by omega) (by have := HS6.out.gr.size; simp at this ⊢; omega) ?_)
        intro v' w4 ho5 hg5 _ _
        have HS4 := Lib.hid ((HS6.out.alloc _).grown hg5 hga (fun k hk => ((HO6.out.alloc (.cells #[.int .i64 d, .int .i64 l] 42)).lt k hk).1))
        have HO4 := Lib.hid ho5
        clear ho5 hg5
        go_wp2
        go_roundw
        case rel => exact ⟨ps.length + 1, ps ++ [(d, l)], by omega, by go_num, by simp, ownsRow_cast HO4.out (by simp) (flat2_snoc _ _ _).symm, HS4.out.mono (by omega)⟩
        case measure => simp [intOf]; omega
    · have hl7 : ps.length ≤ 7 := by omega
      have hd : decide ((ps.length : Int) < (xs.length : Int)) = false := by simp; omega
      by_cases h0 : ps.length = 0
      · have hps : ps = [] := List.eq_nil_of_length_eq_zero h0
        subst hps
        obtain ⟨a2, c2, rfl, _, _, _⟩ := (Pairs.of_own HO2.out).parts
        simp only [List.length_nil] at hd ⊢
        go_wp2
        go_ret
        exact ⟨_, [], rfl, by omega, Pairs.of_own HO2.out, own_block_ne HO2.out hga, HS1.out.mono (by omega)⟩
      · obtain ⟨b, cap, rfl, hb1, hb2, hc1, hc2⟩ := own_form HO2.out (by omega)
        have hd0 : 0 < ps.length := by omega
        go_wp2_with fail
        refine (one_c 30 g _ _ HS1.out.cur (by omega)).mono ?_
        rintro e w2 ⟨t, rfl, hs⟩
        have HS2 := Lib.hid (HS1.out.trans hs)
        have HO3 := Lib.hid (hs.row HO2.out hga)
        clear hs
        cases t with
        | false =>
          go_wp2
          go_ret
          exact ⟨_, ps, rfl, by omega, Pairs.of_own HO3.out, own_block_ne HO3.out hga, HS2.out.mono (by omega)⟩
        | true =>
          cases ps with
          | nil => exact absurd rfl h0
          | cons p ps =>
            have hl1 : ps.length + 1 ≤ 7 := by simpa using hl7
            simp only [List.length_cons] at hc1 hd HO3
            by_cases hcp : cap = 1
            · have hcp2 : (cap = 1) = True := eq_true hcp
              subst hcp
              have hps0 : ps = [] := List.eq_nil_of_length_eq_zero (by omega)
              subst hps0
              go_wp2
              go_ret
              exact ⟨_, [], rfl, by simp, pairs_none (by omega), by simp [Value.ownBlock]; omega, HS2.out.mono (by omega)⟩
            · have hcp2 : (cap = 1) = False := eq_false hcp
              go_wp2
              go_ret
              exact ⟨_, ps, rfl, by omega, pairs_tail HO3.out (by unfold maxLen at hc2; omega) hc1, by simp [Value.ownBlock]; omega, HS2.out.mono (by omega)⟩
end Go.Proofs.Ytlipkplomndjcaa
