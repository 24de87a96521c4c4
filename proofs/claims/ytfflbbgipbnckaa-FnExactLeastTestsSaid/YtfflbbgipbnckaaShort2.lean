/- The walks of ShortestTest, both texts. -/
import Derived.Test.YtfflbbgipbnckaaShort
import Derived.Test.YtfflbbgipbnckaaLeast2
import Derived.Test.YtfflbbgipbnckaaCft
namespace Go.Proofs.Ytfflbbgipbnckaa
open Go.RowKit
set_option linter.unusedVariables false
set_option maxRecDepth 100000
theorem befL_step {a b : List Int} {k : Nat} {x : Int} (ha : a[k]? = some x) (hb : b[k]? = some x) : befL (a.drop k) (b.drop k) = befL (a.drop (k + 1)) (b.drop (k + 1)) := by
  have e1 : a.drop k = x :: a.drop (k + 1) := by
    have hlt := (List.getElem?_eq_some_iff.1 ha).1
    rw [List.drop_eq_getElem_cons hlt]
    rw [List.getElem?_eq_getElem hlt] at ha
    rw [Option.some.inj ha]
  have e2 : b.drop k = x :: b.drop (k + 1) := by
    have hlt := (List.getElem?_eq_some_iff.1 hb).1
    rw [List.drop_eq_getElem_cons hlt]
    rw [List.getElem?_eq_getElem hlt] at hb
    rw [Option.some.inj hb]
  rw [e1, e2, befL_cons]
theorem befL_diff {a b : List Int} {k : Nat} {x y : Int} (ha : a[k]? = some x) (hb : b[k]? = some y) (hne : x ≠ y) : befL (a.drop k) (b.drop k) = decide (x < y) := by
  have e1 : a.drop k = x :: a.drop (k + 1) := by
    have hlt := (List.getElem?_eq_some_iff.1 ha).1
    rw [List.drop_eq_getElem_cons hlt]
    rw [List.getElem?_eq_getElem hlt] at ha
    rw [Option.some.inj ha]
  have e2 : b.drop k = y :: b.drop (k + 1) := by
    have hlt := (List.getElem?_eq_some_iff.1 hb).1
    rw [List.drop_eq_getElem_cons hlt]
    rw [List.getElem?_eq_getElem hlt] at hb
    rw [Option.some.inj hb]
  rw [e1, e2]
  unfold befL
  rw [if_neg hne]
theorem befL_end {a b : List Int} {k : Nat} (h : k = a.length ∨ k = b.length) (ha : k ≤ a.length) (hb : k ≤ b.length) : befL (a.drop k) (b.drop k) = decide (a.length < b.length) := by
  rcases h with h | h
  · subst h
    rw [List.drop_length]
    cases hd : b.drop a.length with
    | nil =>
      have := List.drop_eq_nil_iff.1 hd
      simp [befL]; omega
    | cons y t =>
      have : a.length < b.length := by
        rcases Nat.lt_or_ge a.length b.length with h | h
        · exact h
        · rw [List.drop_eq_nil_of_le h] at hd; cases hd
      simp [befL]; omega
  · subst h
    rw [show b.drop b.length = [] by simp]
    cases hd : a.drop b.length with
    | nil =>
      have := List.drop_eq_nil_iff.1 hd
      simp [befL]; omega
    | cons y t =>
      simp [befL]; omega
set_option maxHeartbeats 1000000 in
theorem l7Before_c (v1 v2 : Value) (a b : List Int) (w : World) (h1 : Ints w v1 a) (h2 : Ints w v2 b) :
    Calls Try.prog 38 #[v1, v2] w fun e w' => e = .returned (.bool (befL a b)) ∧ Below w.heap.size w w' := by
  have m1 := h1.le; have m2 := h2.le
  obtain ⟨a1, c1, rfl, _, _, H1⟩ := h1.parts
  obtain ⟨a2, c2, rfl, _, _, H2⟩ := h2.parts
  clear h1 h2
  go_enter Try.func38, Try.ntmps38
  go_wp2
  go_loopw [5] (fun i wr => ∃ k : Nat, k ≤ a.length ∧ k ≤ b.length ∧ i = .int .i64 (k : Int) ∧ Hid (befL a b = befL (a.drop k) (b.drop k)) ∧ Below w.heap.size w wr) (fun i _ => a.length - (intOf i).toNat)
  case atStart => exact ⟨0, by omega, by omega, rfl, rfl, Below.refl _ _⟩
  case round =>
    obtain ⟨k, hk1, hk2, rfl, hbe, hb⟩ := hrel
    by_cases hlt1 : k < a.length
    · have hd1 : decide ((k : Int) < (a.length : Int)) = true := by simp; omega
      by_cases hlt2 : k < b.length
      · have hd2 : decide ((k : Int) < (b.length : Int)) = true := by simp; omega
        have n0 : (0 : Int) ≤ (k : Int) := by omega
        obtain ⟨x, hx⟩ := elem_at hlt1
        obtain ⟨y, hy⟩ := elem_at hlt2
        obtain ⟨b1, o1, rfl, f1⟩ := H1.out k x hx.out
        obtain ⟨b2, o2, rfl, f2⟩ := H2.out k y hy.out
        have g1 := cell_later hb f1
        have g2 := cell_later hb f2
        clear f1 f2
        rcases hxy : (x != y) with _ | _
        · have hE : x = y := by simpa using hxy
          have HN : Hid (befL a b = befL (a.drop (k + 1)) (b.drop (k + 1))) := by
            show _ = _
            rw [hbe.out]; exact befL_step hx.out (by rw [hy.out, hE])
          clear hbe hE
          go_wp2
          go_quiet (fail)
          go_wp2
          go_roundw
          case rel => exact ⟨k + 1, by omega, by omega, by go_num, HN, below_drewN hb⟩
          case measure => simp [intOf]; omega
        · have hE : x ≠ y := by simpa using hxy
          have HN := Lib.hid (show befL a b = decide (x < y) by rw [hbe.out]; exact befL_diff hx.out hy.out hE)
          clear hbe hE
          go_wp2
          go_quiet (fail)
          go_wp2
          go_quiet (fail)
          go_wp2
          go_ret
          exact ⟨by rw [HN.out]; rfl, below_drewN (below_drewN hb)⟩
      · have hd2 : decide ((k : Int) < (b.length : Int)) = false := by simp; omega
        have HN := Lib.hid (show befL a b = decide (a.length < b.length) by rw [hbe.out]; exact befL_end (.inr (by omega)) (by omega) (by omega))
        clear hbe
        go_wp2
        go_ret
        exact ⟨by rw [HN.out]; rfl, hb⟩
    · have hd1 : decide ((k : Int) < (a.length : Int)) = false := by simp; omega
      have HN := Lib.hid (show befL a b = decide (a.length < b.length) by rw [hbe.out]; exact befL_end (.inl (by omega)) (by omega) (by omega))
      clear hbe
      go_wp2
      go_ret
      exact ⟨by rw [HN.out]; rfl, hb⟩
theorem full_nil : fullB [] = false := by decide
/-- what lies in the variable of the best part so far -/
def BestV (lo m : Nat) (w : World) (bv : Value) : Option (List Int) → Prop
  | none => bv = .slice none 0 0
  | some b => b ≠ [] ∧ b.length ≤ 10 ∧ w.ownsRow lo 3 1 bv b.length (ints b) ∧ ∃ g cap, bv = .slice (some ⟨g, 0, none⟩) b.length cap ∧ g ≠ m
structure StI (lo m : Nat) (done : List (List Int)) (w : World) : Prop where
  lm : lo ≤ m
  fm : w.frozen? ⟨m, 0, none⟩ = false
  best : ∃ bv, w.cell? ⟨m, 0, none⟩ = some bv ∧ BestV lo m w bv (bestA done)
theorem BestV.keep {lo m : Nat} {w w' : World} {bv : Value} {r : Option (List Int)} (h : BestV lo m w bv r) (hb : Below w.heap.size w w') : BestV lo m w' bv r := by
  cases r with
  | none => exact h
  | some b => exact ⟨h.1, h.2.1, own_keep h.2.2.1 hb, h.2.2.2⟩
theorem StI.keep {lo m : Nat} {done : List (List Int)} {w w' : World} (h : StI lo m done w) (hb : Below w.heap.size w w') : StI lo m done w' := by
  obtain ⟨bv, hc, hB⟩ := h.best
  exact ⟨h.lm, by rw [hb.frozen (p := ⟨m, 0, none⟩) (World.block_lt_of_cell? _ _ hc)]; exact h.fm, bv, cell_later hb hc, hB.keep hb⟩
set_option maxHeartbeats 2000000 in
theorem st_doer (lo m : Nat) (S : List Int) (hS : ∀ y ∈ S, digitB y = true) : Doer (fun _ j => j = m) (StI lo m) 41 #[.pointer (some ⟨m, 0, none⟩)] S where
  calls := fun bs w => by kernel_rfl
  keepI := fun done w w' h hb => h.keep hb
  keepD := fun done w w' h hb j hj => hj
  ltD := fun done w j h hj => by obtain ⟨bv, hc, _⟩ := h.best; rw [hj]; exact World.block_lt_of_cell? _ _ hc
  run := by
    intro done part v w hpl hps hI hv hd
    have ht : testB part = true := by
      unfold testB
      rw [decide_eq_true hpl, Bool.true_and, List.all_eq_true]
      exact fun y hy => hS y (hps y hy)
    have hle := hv.le
    have hv2 := Lib.hid hv
    obtain ⟨a, c, rfl, _, _, _⟩ := hv.parts
    have HN := Lib.hid (bestA_snoc done part)
    have hFr0 : Hid (∀ w', Below w.heap.size w w' → Fr (fun _ j => j = m) w w') := fun w' hb => ⟨hb.os, hb.tape, hb.output, hb.size, fun j hj _ => hb.block j hj, fun j hj => .inl hj⟩
    have hFr : Hid (∀ w', Below w.heap.size w w' → ∀ x, Fr (fun _ j => j = m) w (w'.setCell ⟨m, 0, none⟩ x)) := fun w' hb x =>
      ⟨hb.os, hb.tape, hb.output, by simp; exact hb.size, fun j hj hne => by rw [heap_setCell_other _ _ _ _ hne]; exact hb.block j hj, fun j hj => .inl hj⟩
    have HF := Lib.hid (isFull_c _ part w hv ht)
    rcases h2 : fullB part with _ | _
    · have HC := Lib.hid (show bestA (done ++ [part]) = bestA done by rw [HN.out]; unfold stepA; rw [h2]; rfl)
      have HI := Lib.hid hI; have H2 := Lib.hid h2
      clear hI h2 hv ht
      go_enter Try.func41, Try.ntmps41
      go_wp2_with fail
      refine HF.out.mono ?_
      rintro e w1 ⟨rfl, hb1⟩
      rw [H2.out]
      have HB := Lib.hid hb1
      clear hb1
      go_wp2
      refine bodyPost_end (results_none rfl _ _ _) rfl ?_
      have hk := HI.out.keep HB.out
      obtain ⟨bv, k1, k2⟩ := hk.best
      exact ⟨rfl, ⟨hk.lm, hk.fm, bv, k1, by rw [HC.out]; exact k2⟩, hFr0.out _ HB.out⟩
    · have hne : part ≠ [] := fun e => by rw [e, full_nil] at h2; cases h2
      have hpos : 0 < part.length := List.length_pos_iff.2 hne
      have HNE := Lib.hid hne
      have fin : Hid (∀ (w2 : World) (u : Value), Below w.heap.size w w2 → w2.ownsRow w.heap.size 3 1 u part.length (ints part) → stepA (bestA done) part = some part → StI lo m (done ++ [part]) (w2.setCell ⟨m, 0, none⟩ u)) := by
        intro w2 u hb2 ho2 hst
        obtain ⟨bv, k1, _⟩ := (hI.keep hb2).best
        have hlm := hI.lm
        obtain ⟨bv0, k0, _⟩ := hI.best
        have hmlt : m < w.heap.size := World.block_lt_of_cell? _ _ k0
        obtain ⟨g, cap, e, hg1, hg2, _, _⟩ := own_form ho2 hpos
        refine ⟨hI.lm, by rw [World.frozen?_setCell]; exact (hI.keep hb2).fm, u, World.cell?_setCell_same _ _ _ k1, ?_⟩
        rw [HN.out, hst]
        refine ⟨HNE.out, hpl, ?_, g, cap, e, by omega⟩
        exact (own_lo ho2 (by omega)).kept (grownBy_setCell' w2 m u) (.inr (by rw [e]; intro h; simp [Value.ownBlock] at h; omega))
      clear hne
      obtain ⟨bv, hc, hB⟩ := hI.best
      have hfm := hI.fm
      have HI := Lib.hid hI; have H2 := Lib.hid h2
      have HV := hv2
      clear hI hv ht
      cases hr : bestA done with
      | none =>
        rw [hr] at hB
        obtain rfl : bv = .slice none 0 0 := hB
        have hst := Lib.hid (show stepA (bestA done) part = some part by rw [hr]; unfold stepA; rw [h2]; rfl)
        have hnil := fun (w : World) => Lib.run_eql_slice_nil (P := Try.prog) w 22 3 none 0 0 0 0 Try.underlying22
        clear h2 hr
        go_enter Try.func41, Try.ntmps41
        go_wp2_with fail
        refine HF.out.mono ?_
        rintro e w1 ⟨rfl, hb1⟩
        rw [H2.out]
        have g1 := cell_later hb1 hc
        have HCl := Lib.hid (Clone_c _ part w1 (HV.out.below hb1) (by omega))
        go_wp2_with fail
        refine HCl.out.mono ?_
        rintro e w2 ⟨u, rfl, ho2, hb2⟩
        obtain ⟨ug, ucap, rfl, _, _, _, _⟩ := own_form ho2 hpos
        have g2 := cell_later hb2 g1
        have hb3 := Below.chain hb1 hb2
        have f2 := (hb3.frozen (p := ⟨m, 0, none⟩) (World.block_lt_of_cell? _ _ hc)).trans hfm
        have HO := Lib.hid (own_lo (lo' := w.heap.size) ho2 hb1.size)
        have HB := Lib.hid hb3
        clear ho2 hb1 hb2 g1 hb3
        go_wp2
        refine bodyPost_end (results_none rfl _ _ _) rfl ?_
        exact ⟨rfl, fin.out _ _ HB.out HO.out hst.out, hFr.out _ HB.out _⟩
      | some b =>
        rw [hr] at hB
        obtain ⟨hb0, hb10, hob, g, cap, rfl, hgm⟩ := hB
        have hnil := fun (w : World) => Lib.run_eql_slice_nil (P := Try.prog) w 22 3 (some ⟨g, 0, none⟩) b.length cap 0 0 Try.underlying22
        have hob2 := Lib.hid hob
        clear hob hb0
        by_cases hl : part.length < b.length
        · have hst := Lib.hid (show stepA (bestA done) part = some part by rw [hr]; unfold stepA; rw [h2]; simp [hl])
          have hd : decide ((part.length : Int) < (b.length : Int)) = true := by simp; omega
          clear h2 hr
          go_enter Try.func41, Try.ntmps41
          go_wp2_with fail
          refine HF.out.mono ?_
          rintro e w1 ⟨rfl, hb1⟩
          rw [H2.out]
          have g1 := cell_later hb1 hc
          have HCl := Lib.hid (Clone_c _ part w1 (HV.out.below hb1) (by omega))
          go_wp2_with fail
          refine HCl.out.mono ?_
          rintro e w2 ⟨u, rfl, ho2, hb2⟩
          obtain ⟨ug, ucap, rfl, _, _, _, _⟩ := own_form ho2 hpos
          have g2 := cell_later hb2 g1
          have hb3 := Below.chain hb1 hb2
          have f2 := (hb3.frozen (p := ⟨m, 0, none⟩) (World.block_lt_of_cell? _ _ hc)).trans hfm
          have HO := Lib.hid (own_lo (lo' := w.heap.size) ho2 hb1.size)
          have HB := Lib.hid hb3
          clear ho2 hb1 hb2 g1 hb3
          go_wp2
          refine bodyPost_end (results_none rfl _ _ _) rfl ?_
          exact ⟨rfl, fin.out _ _ HB.out HO.out hst.out, hFr.out _ HB.out _⟩
        · have hst := Lib.hid (show bestA (done ++ [part]) = bestA done by rw [HN.out, hr]; unfold stepA; rw [h2]; simp [hl])
          have hd : decide ((part.length : Int) < (b.length : Int)) = false := by simp; omega
          clear h2 hr
          go_enter Try.func41, Try.ntmps41
          go_wp2_with fail
          refine HF.out.mono ?_
          rintro e w1 ⟨rfl, hb1⟩
          rw [H2.out]
          have g1 := cell_later hb1 hc
          have HB := Lib.hid hb1
          clear hb1
          go_wp2
          refine bodyPost_end (results_none rfl _ _ _) rfl ?_
          have hk := HI.out.keep HB.out
          obtain ⟨bv, k1, k2⟩ := hk.best
          exact ⟨rfl, ⟨hk.lm, hk.fm, bv, k1, by rw [hst.out]; exact k2⟩, hFr0.out _ HB.out⟩
end Go.Proofs.Ytfflbbgipbnckaa
