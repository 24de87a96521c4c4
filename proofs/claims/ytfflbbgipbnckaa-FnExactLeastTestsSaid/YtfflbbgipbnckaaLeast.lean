/- The walks of l7Set, isLeast, l7Least and IsLeastTest, both texts. -/
import Derived.Test.YtfflbbgipbnckaaPut
import Derived.Test.YtfflbbgipbnckaaStates
namespace Go.Proofs.Ytfflbbgipbnckaa
open Go.RowKit
set_option linter.unusedVariables false
set_option maxRecDepth 100000
attribute [local go_sem ↓] Go.wp_at_zero Go.wp_at_succ
theorem setS_take_succ {xs : List Int} {k : Nat} {x : Int} (hx : xs[k]? = some x) : setS (xs.take (k + 1)) = putR (setS (xs.take k)) x := by rw [take_snoc hx, setS_snoc]
theorem setS_len (xs : List Int) : (setS xs).length ≤ xs.length := by
  have := setS_len_le xs []
  simpa [setS] using this
set_option maxHeartbeats 1000000 in
theorem l7Set_c (v : Value) (xs : List Int) (w : World) (hv : Ints w v xs) (hn : xs.length ≤ 900) :
    Calls Try.prog 33 #[v] w fun e w' => ∃ g cap, e = .returned (.slice (some ⟨g, 0, none⟩) (setS xs).length cap) ∧ w'.ownsRow w.heap.size 3 1 (.slice (some ⟨g, 0, none⟩) (setS xs).length cap) (setS xs).length (ints (setS xs)) ∧ Below w.heap.size w w' := by
  have ho0 := World.ownsRow_lit (e := 3) (size := 1) (base := w.heap.size) w #[] 0 (Nat.le_refl _) (by decide) rfl
  obtain ⟨a, c, rfl, _, _, HC⟩ := hv.parts
  clear hv
  go_enter Try.func33, Try.ntmps33
  go_wp2
  go_loopw [3, 4] (fun o i wr => ∃ (k g cap : Nat), k ≤ xs.length ∧ i = .int .i64 (k : Int) ∧ o = .slice (some ⟨g, 0, none⟩) (setS (xs.take k)).length cap ∧ wr.ownsRow w.heap.size 3 1 (.slice (some ⟨g, 0, none⟩) (setS (xs.take k)).length cap) (setS (xs.take k)).length (ints (setS (xs.take k))) ∧ Below w.heap.size w wr) (fun _ i _ => xs.length - (intOf i).toNat)
  case atStart => exact ⟨0, w.heap.size, 0, by omega, rfl, by simp [setS], by simpa [setS] using ho0, below_one _⟩
  case round =>
    obtain ⟨k, g, cap, hk, rfl, rfl, ho, hb⟩ := hrel
    clear ho0
    by_cases hlt : k < xs.length
    · have hd : decide ((k : Int) < (xs.length : Int)) = true := by simp; omega
      obtain ⟨x, hx⟩ := elem_at hlt
      obtain ⟨b1, o1, rfl, f0⟩ := HC.out k x hx.out
      have g0 := cell_later hb f0
      have HS := Lib.hid (setS_take_succ hx.out)
      have hle := setS_len (xs.take k)
      rw [List.length_take] at hle
      clear f0
      generalize setS (xs.take k) = l at *
      have HP := Lib.hid (l1Put_c g cap w.heap.size l x wr ho (by omega) hb.size)
      clear ho
      go_wp2_with fail
      refine HP.out.mono ?_
      rintro e w2 ⟨g2, c2, rfl, ho2, hb2⟩
      have hb3 := Below.chain hb hb2
      rw [← HS.out] at ho2
      clear hb hb2 g0
      go_wp2
      go_roundw
      case rel => exact ⟨k + 1, g2, c2, by omega, by go_num, by rw [HS.out], ho2, hb3⟩
      case measure => simp [intOf]; omega
    · obtain rfl : k = xs.length := by omega
      rw [List.take_length] at ho
      have HL : Hid (setS (xs.take xs.length) = setS xs) := by show _ = _; rw [List.take_length]
      have HO := Lib.hid ho
      clear ho
      go_wp2
      go_ret
      exact ⟨g, cap, by rw [HL.out]; rfl, HO.out, hb⟩
theorem l1Own_c (ad : Addr) (n c : Nat) (xs : List Int) (w : World) (hc : ∀ j u, (ints xs)[j]? = some u → w.cell? (ad.add j) = some u) (hn : xs.length = n) (hn2 : n ≤ 1000) :
    Calls Try.prog 56 #[.slice (some ad) n c] w fun e w' => ∃ u, e = .returned u ∧ w'.ownsRow w.heap.size 3 1 u n (ints xs) ∧ Below w.heap.size w w' := by
  obtain ⟨i, hi, hz0, hz1, hz2⟩ := info_parts info_int
  have hc1 : ∀ j u, (ints xs)[j]? = some u → (w.alloc (.cells #[] 3)).cell? (ad.add j) = some u := fun j u h => by
    have h1 := hc j u h
    have hlt := World.block_lt_of_cell? _ _ h1
    exact (Below.cell (below_one (w := w) (.cells #[] 3)) (p := ad.add j) hlt).trans h1
  have ho0 := World.ownsRow_lit (e := 3) (size := 1) (base := w.heap.size) w #[] 0 (Nat.le_refl _) (by decide) rfl
  have HC := Lib.hid hc1
  clear hc hc1
  go_enter Try.func56, Try.ntmps56
  go_wp2_with (at_builtin; refine wpList_append_own_at _ rfl _ _ 22 rfl w.heap.size 3 i (.int .i64 0) 1 8 Try.underlying22 hi hz0 hz1 hz2 rfl (by decide) _ 0 [] rfl ho0 ad n c (ints xs) rfl (by simp [hn]) HC.out ints_one (by unfold maxLen; omega) (by omega) (by simp) ?_)
  intro v' w1 ho1 hg1 _ _
  have hb1 : Below w.heap.size w w1 := (below_one _).grown hg1 (by simp) (fun g hg => (ho0.lt g hg).1)
  go_wp2
  go_ret
  exact ⟨_, rfl, ownsRow_cast ho1 (by simp) (by simp), hb1⟩
theorem erase_ints (l : List Int) (i : Nat) : ints (l.take i) ++ ints (l.drop (i + 1)) = ints (l.eraseIdx i) := by
  rw [List.eraseIdx_eq_take_drop_succ]; simp [ints]
theorem erase_len {l : List Int} {i : Nat} (h : i < l.length) : (l.eraseIdx i).length = i + (l.length - (i + 1)) := by
  rw [List.length_eraseIdx]; simp [h]; omega
theorem testB_erase {l : List Int} (h : testB l = true) (i : Nat) : testB (l.eraseIdx i) = true := by
  unfold testB at *
  simp only [Bool.and_eq_true, decide_eq_true_eq, List.all_eq_true] at *
  exact ⟨Nat.le_trans (List.length_eraseIdx_le _ _) h.1, fun x hx => h.2 x (List.mem_of_mem_eraseIdx hx)⟩
theorem testB_set {l : List Int} (h : testB l = true) : testB (setS l) = true := by
  unfold testB at *
  simp only [Bool.and_eq_true, decide_eq_true_eq, List.all_eq_true] at *
  exact ⟨Nat.le_trans (setS_len l) h.1, fun x hx => h.2 x ((setS_mem l x).1 hx)⟩
/-- a least test, for its set -/
def leastL (l : List Int) : Bool := ((List.range l.length).all fun i => !fullB (l.eraseIdx i)) && fullB l
theorem leastL_bad {l : List Int} {i : Nat} (hi : i < l.length) (h : fullB (l.eraseIdx i) = true) : leastL l = false := by
  unfold leastL
  rw [Bool.and_eq_false_iff]; left
  rw [Bool.eq_false_iff]; intro h2
  rw [List.all_eq_true] at h2
  have := h2 i (List.mem_range.2 hi)
  rw [h] at this; cases this
theorem leastL_ok {l : List Int} (h : ∀ i, i < l.length → fullB (l.eraseIdx i) = false) : leastL l = fullB l := by
  unfold leastL
  have : ((List.range l.length).all fun i => !fullB (l.eraseIdx i)) = true := by
    rw [List.all_eq_true]; intro i hi
    rw [h i (List.mem_range.1 hi)]; rfl
  rw [this]; rfl
set_option maxHeartbeats 2000000 in
theorem l7Least_c (g cap lo : Nat) (l : List Int) (w : World) (ho : w.ownsRow lo 3 1 (.slice (some ⟨g, 0, none⟩) l.length cap) l.length (ints l)) (ht : testB l = true) :
    Calls Try.prog 32 #[.slice (some ⟨g, 0, none⟩) l.length cap] w fun e w' => e = .returned (.bool (leastL l)) ∧ Below w.heap.size w w' := by
  obtain ⟨inf, hi, hz0, hz1, hz2⟩ := info_parts info_int
  have hI := Ints.of_own ho
  obtain ⟨a, c, e0, hlc, hcm, _⟩ := hI.parts
  injection e0 with e1 _ e3
  subst e1 e3
  have hlen : l.length ≤ 10 := by unfold testB at ht; simp only [Bool.and_eq_true, decide_eq_true_eq] at ht; exact ht.1
  have HO := Lib.hid ho; have HT := Lib.hid ht
  clear ho hI ht
  go_enter Try.func32, Try.ntmps32
  go_wp2
  go_loopw [3] (fun i wr => ∃ k : Nat, k ≤ l.length ∧ i = .int .i64 (k : Int) ∧ Hid (∀ j, j < k → fullB (l.eraseIdx j) = false) ∧ Below w.heap.size w wr) (fun i _ => l.length - (intOf i).toNat)
  case atStart => exact ⟨0, by omega, rfl, fun j h => by omega, Below.refl _ _⟩
  case round =>
    obtain ⟨k, hk, rfl, hbef, hb⟩ := hrel
    by_cases hlt : k < l.length
    · have hd : decide ((k : Int) < (l.length : Int)) = true := by simp; omega
      have n0 : (0 : Int) ≤ (k : Int) := by omega
      have n1 : (k : Int) ≤ (l.length : Int) := by omega
      have n2 : (l.length : Int) ≤ (cap : Int) := by omega
      have n3 : (k : Int) + 1 ≤ (l.length : Int) := by omega
      have n4 : (0 : Int) ≤ (k : Int) + 1 := by omega
      have n5 : (k : Int) ≤ (cap : Int) := by omega
      have n6 : ((k : Int) + 1).toNat = k + 1 := by omega
      have hw : IntKind.i64.wrap ((k : Int) + 1) = (k : Int) + 1 := IntWalk.i64_in _ (by omega)
      have HB := Lib.hid hb
      have HOr := Lib.hid (own_keep HO.out hb)
      have hte := Lib.hid (testB_erase HT.out k)
      have HE := Lib.hid (erase_len hlt)
      clear hb
      by_cases hce : cap = k + 1
      · have hck : (cap = k + 1) = True := by simp [hce]
        have HCE := Lib.hid hce
        clear hce
        go_wp2
        go_region_held3 (fun _ => True) (trivial)
          (first | (go_at_call 56; refine (l1Own_c ⟨g, 0, none⟩ k cap (l.take k) _ (own_take (own_keep HOr.out (Below.refl _ _).drew) k) (by simp; omega) (by omega)).mono ?_; rintro e wa ⟨u, rfl, hou, hbb⟩; have hbc : Below wr.heap.size wr wa := Below.chain (Below.refl _ _).drew hbb; have hsz := hbc.size) | (go_at_call 37; refine (l7Full_c v2 (l.eraseIdx k) _ hI2 hte.out).mono ?_; rintro e wc ⟨rfl, hbd⟩; have hbe := Below.chain hb2 hbd) | (refine step_append_at (by rfl) _ _ _ (by rfl) wr.heap.size 3 inf (.int .i64 0) 1 8 Try.underlying22 hi hz0 hz1 hz2 rfl (by decide) u k (ints (l.take k)) (by rfl) (own_lo hou (by simp)) _ _ _ [] (by rfl) (by have := HCE.out; simp; omega) (fun j u hj => by simp at hj) (by simp) (by unfold maxLen; omega) (by omega) hsz ?_; intro v2 wb hO2 hg2 hat2; have hb2 : Below wr.heap.size wr wb := hbc.grown hg2 hsz (fun q hq => by have := (hou.lt q hq).1; simp at this; omega); have hI2 : Ints wb v2 (l.eraseIdx k) := Ints.of_own (ownsRow_cast hO2 (by rw [HE.out]) (show ints (l.take k) ++ [] = ints (l.eraseIdx k) by rw [← erase_ints, List.drop_eq_nil_of_le (by have := HCE.out; omega)]; simp [ints]))))
        rcases hq : fullB (l.eraseIdx k) with _ | _
        · have HN : Hid (∀ j, j < k + 1 → fullB (l.eraseIdx j) = false) := fun j hj => by
            by_cases hj2 : j < k
            · exact hbef.out j hj2
            · obtain rfl : j = k := by omega
              exact hq
          have hb9 := Below.chain HB.out hbe
          clear hbef hbe hb2 hI2 hO2 hg2 hbc hbb hou hbd
          go_wp2
          go_roundw
          case rel => exact ⟨k + 1, by omega, by go_num, HN, hb9⟩
          case measure => simp [intOf]; omega
        · have HF := Lib.hid (leastL_bad hlt hq)
          have hb9 := Below.chain HB.out hbe
          clear hbef hbe hb2 hI2 hO2 hg2 hbc hbb hou hbd
          go_wp2
          go_ret
          exact ⟨by rw [HF.out]; rfl, hb9⟩
      · have hck : (cap = k + 1) = False := by simp [hce]
        go_wp2
        go_region_held3 (fun _ => True) (trivial)
          (first | (go_at_call 56; refine (l1Own_c ⟨g, 0, none⟩ k cap (l.take k) _ (own_take (own_keep HOr.out (Below.refl _ _).drew) k) (by simp; omega) (by omega)).mono ?_; rintro e wa ⟨u, rfl, hou, hbb⟩; have hbc : Below wr.heap.size wr wa := Below.chain (Below.refl _ _).drew hbb; have hsz := hbc.size) | (go_at_call 37; refine (l7Full_c v2 (l.eraseIdx k) _ hI2 hte.out).mono ?_; rintro e wc ⟨rfl, hbd⟩; have hbe := Below.chain hb2 hbd) | (refine step_append_at (by rfl) _ _ _ (by rfl) wr.heap.size 3 inf (.int .i64 0) 1 8 Try.underlying22 hi hz0 hz1 hz2 rfl (by decide) u k (ints (l.take k)) (by rfl) (own_lo hou (by simp)) ⟨g, k + 1, none⟩ (l.length - (k + 1)) _ (ints (l.drop (k + 1))) (by rfl) (by simp) (own_drop (own_keep HOr.out hbc) (k + 1)) ints_one (by unfold maxLen; omega) (by omega) hsz ?_; intro v2 wb hO2 hg2 hat2; have hb2 : Below wr.heap.size wr wb := hbc.grown hg2 hsz (fun q hq => by have := (hou.lt q hq).1; simp at this; omega); have hI2 : Ints wb v2 (l.eraseIdx k) := Ints.of_own (ownsRow_cast hO2 (by rw [HE.out]) (show ints (l.take k) ++ ints (l.drop (k + 1)) = ints (l.eraseIdx k) from erase_ints l k))))
        rcases hq : fullB (l.eraseIdx k) with _ | _
        · have HN : Hid (∀ j, j < k + 1 → fullB (l.eraseIdx j) = false) := fun j hj => by
            by_cases hj2 : j < k
            · exact hbef.out j hj2
            · obtain rfl : j = k := by omega
              exact hq
          have hb9 := Below.chain HB.out hbe
          clear hbef hbe hb2 hI2 hO2 hg2 hbc hbb hou hbd
          go_wp2
          go_roundw
          case rel => exact ⟨k + 1, by omega, by go_num, HN, hb9⟩
          case measure => simp [intOf]; omega
        · have HF := Lib.hid (leastL_bad hlt hq)
          have hb9 := Below.chain HB.out hbe
          clear hbef hbe hb2 hI2 hO2 hg2 hbc hbb hou hbd
          go_wp2
          go_ret
          exact ⟨by rw [HF.out]; rfl, hb9⟩
    · obtain rfl : k = l.length := by omega
      have HF := Lib.hid (leastL_ok hbef.out)
      have hI2 := Lib.hid (Ints.of_own (own_keep HO.out hb))
      go_wp2_with fail
      refine (l7Full_c _ l _ hI2.out HT.out).mono ?_
      rintro e w2 ⟨rfl, hb2⟩
      have hb3 := Below.chain hb hb2
      go_wp2
      go_ret
      exact ⟨by rw [HF.out]; rfl, hb3⟩
end Go.Proofs.Ytfflbbgipbnckaa
