/- The walks of ShortestTest, both texts. -/
import Derived.Test.YtfflbbgipbnckaaShort2
import Derived.Test.YtfflbbgipbnckaaShownRow
namespace Go.Proofs.Ytfflbbgipbnckaa
open Go.RowKit
set_option linter.unusedVariables false
set_option maxRecDepth 100000
def shR (xs : List Int) : Option (List Int) := bestA (subsL (setS xs))
def shL (xs : List Int) : List Int := if testB xs then (shR xs).getD [] else []
def shB (xs : List Int) : Bool := testB xs && (shR xs).isSome
theorem shR_len {xs : List Int} (ht : testB xs = true) : ((shR xs).getD []).length ≤ 10 := by
  have h := bestA_is (subsL (setS xs)) (subsL_lex _ (setS_lt xs))
  unfold shR
  cases hr : bestA (subsL (setS xs)) with
  | none => simp
  | some m =>
    rw [hr] at h
    have hm := h.1
    have := (mem_parts (setS xs) [] m).1 hm
    obtain ⟨s, _, e⟩ := this
    have hl : m.length ≤ (setS xs).length := by
      rw [e, List.nil_append]; unfold digsL pick
      rw [List.length_map]; exact prtL_le _ _ _
    have h2 := setS_len xs
    have h3 : xs.length ≤ 10 := by unfold testB at ht; simp only [Bool.and_eq_true, decide_eq_true_eq] at ht; exact ht.1
    simp; omega
theorem shL_le (xs : List Int) : (shL xs).length ≤ 10 := by
  unfold shL
  split
  · rename_i h; exact shR_len h
  · simp
theorem neq_nil {P : Program} (w : World) (t e : TypeId) (a : Option Addr) (n c n' c' : Nat)
    (h : P.underlying t = some (.slice e)) :
    (binOp .neq t (.slice a n c) (.slice none n' c')).run P w = .ok (.bool (!a.isNone)) w := by
  simp only [binOp]
  simp [Op.equal, Op.maxDepth, Lib.run_equalIn_slice_nil w 9999 t e a n c n' c' h]
set_option maxHeartbeats 2000000 in
theorem ShortestTest_c (v : Value) (xs : List Int) (w : World) (hv : Ints w v xs) :
    Calls Try.prog 13 #[v] w (IntsPost w (shL xs) (shB xs)) := by
  have HV := Lib.hid hv
  rcases hq : testB xs with _ | _
  · have HL := Lib.hid (show shL xs = [] by simp [shL, hq])
    have HB := Lib.hid (show shB xs = false by simp [shB, hq])
    have HQ := Lib.hid hq; clear hq hv
    go_enter Try.func13, Try.ntmps13
    go_wp2_with fail
    refine (isTest_c v xs _ HV.out).mono ?_
    rintro e w1 ⟨rfl, hb1⟩
    rw [HQ.out]
    go_wp2
    go_ret2
    exact IntsPost.mk' HL.out HB.out (World.ownsRow_nil _ _ _ _) hb1
  · have HL := Lib.hid (show shL xs = (shR xs).getD [] by simp [shL, hq])
    have HBB := Lib.hid (show shB xs = (shR xs).isSome by simp [shB, hq])
    have hlen : xs.length ≤ 10 := by unfold testB at hq; simp only [Bool.and_eq_true, decide_eq_true_eq] at hq; exact hq.1
    have hsl := setS_len xs
    have hsd : Hid (∀ y ∈ setS xs, digitB y = true) := by
      have := testB_set hq
      unfold testB at this
      simp only [Bool.and_eq_true, List.all_eq_true] at this
      exact this.2
    have HR : Hid (shR xs = bestA ([] ++ subsL (setS xs))) := rfl
    have HQ := Lib.hid hq; clear hq hv
    go_enter Try.func13, Try.ntmps13
    go_wp2_with fail
    refine (isTest_c v xs _ HV.out).mono ?_
    rintro e w1 ⟨rfl, hb1⟩
    rw [HQ.out]
    have hb2 := Below.alc hb1 (.cells #[.slice none 0 0] 22)
    have q1 : (w1.alloc (.cells #[.slice none 0 0] 22)).cell? ⟨w1.heap.size, 0, none⟩ = some (.slice none 0 0) := by rw [World.cell?_alloc_at _ _ _ _ rfl]; rfl
    have q2 : (w1.alloc (.cells #[.slice none 0 0] 22)).frozen? ⟨w1.heap.size, 0, none⟩ = false := World.frozen?_alloc_new _ _ _ _
    have HS := Lib.hid (setOf_c v xs _ (HV.out.below hb2) (by omega))
    go_wp2_with fail
    refine HS.out.mono ?_
    rintro e w2 ⟨u, rfl, ho, hb3⟩
    have g1 := cell_later hb3 q1
    have g2 := (hb3.frozen (p := ⟨w1.heap.size, 0, none⟩) (World.block_lt_of_cell? _ _ q1)).trans q2
    have hb4 := Below.chain hb2 hb3
    have hI0 : StI w.heap.size w1.heap.size [] w2 := ⟨hb1.size, g2, .slice none 0 0, g1, rfl⟩
    have hlt := ho.lt
    have hIu := Ints.of_own ho
    have HX := Lib.hid (subsets_c (st_doer w.heap.size w1.heap.size (setS xs) hsd.out) (by omega) u w2 [] hI0 hIu (fun g hg => ⟨fun hd => by have := (hlt g hg).1; simp at this; omega, (hlt g hg).2⟩))
    clear q1 q2 hb2 hb3 ho g1 g2 hI0 hlt hIu
    go_wp2_with fail
    refine HX.out.mono ?_
    rintro e w3 ⟨rfl, hI3, hF3⟩
    have hmw := hb1.size
    have hb5 : Below w.heap.size w w3 := ⟨hF3.os.trans hb4.os, hF3.tape.trans hb4.tape, hF3.output.trans hb4.output, Nat.le_trans hb4.size hF3.size, fun j hj => (hF3.block j (Nat.lt_of_lt_of_le hj hb4.size) (by omega)).trans (hb4.block j hj)⟩
    obtain ⟨bv, k1, k2⟩ := hI3.best
    rw [← HR.out] at k2
    clear hI3 hF3 hb4 hb1
    cases hr : shR xs with
    | none =>
      rw [hr] at k2
      obtain rfl : bv = .slice none 0 0 := k2
      have hnil := fun (w : World) => neq_nil (P := Try.prog) w 22 3 none 0 0 0 0 Try.underlying22
      have H1 := Lib.hid (show shL xs = [] by rw [HL.out, hr]; rfl)
      have H2 := Lib.hid (show shB xs = false by rw [HBB.out, hr]; rfl)
      have HB5 := Lib.hid hb5
      clear hr hb5
      go_wp2
      go_quiet (fail)
      go_wp2
      go_ret2
      exact IntsPost.mk' H1.out H2.out (World.ownsRow_nil _ _ _ _) (below_drewN HB5.out)
    | some b =>
      rw [hr] at k2
      obtain ⟨_, _, hob, g, cap, rfl, _⟩ := k2
      have hnil := fun (w : World) => neq_nil (P := Try.prog) w 22 3 (some ⟨g, 0, none⟩) b.length cap 0 0 Try.underlying22
      have H1 := Lib.hid (show shL xs = b by rw [HL.out, hr]; rfl)
      have H2 := Lib.hid (show shB xs = true by rw [HBB.out, hr]; rfl)
      have HB5 := Lib.hid hb5
      have HO := Lib.hid hob
      clear hr hb5 hob
      go_wp2
      go_quiet (fail)
      go_wp2
      go_ret2
      exact IntsPost.mk' H1.out H2.out HO.out (below_drewN HB5.out)
end Go.Proofs.Ytfflbbgipbnckaa
