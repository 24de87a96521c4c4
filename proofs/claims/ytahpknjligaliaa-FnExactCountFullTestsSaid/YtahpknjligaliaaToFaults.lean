/- Walks of the laws' copies of faults and lists of faults, and of the bound on their size. -/
import Derived.Test.YtahpknjligaliaaHelp
import Derived.Test.YtahpknjligaliaaPairs
import Derived.Deep.RegionHeld3
namespace Go.Proofs.Ytahpknjligaliaa
open Go.RowKit
set_option linter.unusedVariables false
set_option maxRecDepth 100000
theorem toFault_c (a b : Int) (w : World) : Calls Try.prog 53 #[.agg #[.int .i64 a, .int .i64 b]] w fun e w' => e = .returned (.agg #[.int .i64 a, .int .i64 b]) ∧ Below w.heap.size w w' := by
  go_enter Try.func53, Try.ntmps53
  go_wp2
  refine bodyPost_ret (v := .agg #[.int .i64 a, .int .i64 b]) (by simp [results, Try.results53, go_sem]) rfl ⟨rfl, by (repeat (first | exact Below.refl _ _ | exact (Below.refl _ _).drew | assumption | exact below_one _ | refine Below.chain ?_ (by assumption) | refine Below.drew ?_ | refine Below.alc ?_ _ | refine below_drewN ?_ | (refine Below.setCell ?_ ?_ _) | exact Nat.le_refl _ | (simp; done) | (simp; omega)))⟩
theorem szFaultS_no (v : Value) (fs : List (Int × Int)) (k : Int) (w : World) (h : Pairs w v fs) (h0 : 0 ≤ k) (h1 : k ≤ 1048576) (hk : k < fs.length) :
    Calls Try.prog 47 #[v, .int .i64 k] w fun e w' => e = .returned (.int .i64 (-1)) ∧ w = w' := by
  have hm := h.le
  obtain ⟨a, c, rfl, _, _, _⟩ := h.parts
  go_enter Try.func47, Try.ntmps47
  go_wp2
  go_ret
  exact ⟨rfl, rfl⟩
theorem szFaultS_yes (v : Value) (fs : List (Int × Int)) (k : Int) (w : World) (h : Pairs w v fs) (h0 : 0 ≤ k) (h1 : k ≤ 1048576) (hk : fs.length ≤ k) :
    Calls Try.prog 47 #[v, .int .i64 k] w fun e w' => e = .returned (.int .i64 (k - fs.length)) ∧ w = w' := by
  have hm := h.le
  obtain ⟨a, c, rfl, _, _, _⟩ := h.parts
  go_enter Try.func47, Try.ntmps47
  go_wp2
  go_ret
  exact ⟨rfl, rfl⟩
theorem info_Fault : (Try.prog.info? 65).map (fun i => (i.zero, i.size, i.bytes)) = some (some (.agg #[.int .i64 0, .int .i64 0]), 2, 16) := by kernel_rfl
theorem flat2_rep (n : Nat) : flat2 (List.replicate n (0, 0)) = List.replicate (n * 2) (.int .i64 0) := by
  induction n with
  | zero => rfl
  | succ n ih =>
    rw [List.replicate_succ, show (n + 1) * 2 = n * 2 + 1 + 1 by omega, List.replicate_succ, List.replicate_succ, ← ih]; rfl
theorem made_two (x : Value) (n : Nat) : (madeCells #[x, x] n).toList = List.replicate n x := by
  unfold madeCells
  rw [Array.toList_map, Array.toList_range]
  apply List.ext_getElem (by simp)
  intro i h1 h2
  simp only [List.getElem_map, List.getElem_range, List.getElem_replicate]
  have h : i % (#[x, x] : Array Value).size = 0 ∨ i % (#[x, x] : Array Value).size = 1 := by
    have : (#[x, x] : Array Value).size = 2 := rfl
    rw [this]; omega
  rcases h with h | h <;> rw [h] <;> rfl
theorem set_pair {fs : List (Int × Int)} {k n : Nat} (hk : k < n) {a b : Int} {w : World} {lo g cap : Nat} {e : TypeId}
    (ho : w.ownsRow lo e 2 (.slice (some ⟨g, 0, none⟩) n cap) n (flat2 (fs ++ List.replicate (n - k) (0, 0)))) (hf : fs.length = k) :
    (w.cell? ⟨g, k * 2, none⟩ = some (.int .i64 0)) ∧ ((w.setCell ⟨g, k * 2, none⟩ (.int .i64 a)).cell? ⟨g, k * 2 + 1, none⟩ = some (.int .i64 0)) ∧ w.cell? ⟨g, k * 2 + 1, none⟩ = some (.int .i64 0) ∧ w.frozen? ⟨g, k * 2, none⟩ = false ∧ (w.setCell ⟨g, k * 2, none⟩ (.int .i64 a)).frozen? ⟨g, k * 2 + 1, none⟩ = false ∧ w.frozen? ⟨g, k * 2 + 1, none⟩ = false ∧
      ((w.setCell ⟨g, k * 2, none⟩ (.int .i64 a)).setCell ⟨g, k * 2 + 1, none⟩ (.int .i64 b)).ownsRow lo e 2 (.slice (some ⟨g, 0, none⟩) n cap) n (flat2 ((fs ++ [(a, b)]) ++ List.replicate (n - (k + 1)) (0, 0))) := by
  have h1 := ho.stored (k * 2) (.int .i64 a)
  have h2 := h1.1.stored (k * 2 + 1) (.int .i64 b)
  have hp : (fs ++ List.replicate (n - k) ((0 : Int), (0 : Int)))[k]? = some (0, 0) := by
    rw [List.getElem?_append_right (by omega), hf, Nat.sub_self, List.getElem?_replicate, if_pos (by omega)]
  have hc := flat2_at hp
  refine ⟨(ho.cellAt _ (by omega)).trans hc.1, ?_, (ho.cellAt _ (by omega)).trans hc.2, ho.frozenAt _, h1.1.frozenAt _, ho.frozenAt _, ?_⟩
  · rw [h1.1.cellAt _ (by omega), List.getElem?_set_ne (by omega)]; exact hc.2
  · have e2 : ((flat2 (fs ++ List.replicate (n - k) (0, 0))).set (k * 2) (.int .i64 a)).set (k * 2 + 1) (.int .i64 b) = flat2 ((fs ++ [(a, b)]) ++ List.replicate (n - (k + 1)) (0, 0)) := by
      rw [show n - k = (n - (k + 1)) + 1 by omega, List.replicate_succ, flat2_append, flat2_append, flat2_snoc]
      have e3 : flat2 (((0 : Int), (0 : Int)) :: List.replicate (n - (k + 1)) (0, 0)) = .int .i64 0 :: .int .i64 0 :: flat2 (List.replicate (n - (k + 1)) (0, 0)) := rfl
      rw [e3, set_two _ _ _ _ _ _ (by rw [flat2_length, hf])]; simp
    rw [← e2]; exact h2.1
theorem toFaultS_c (v : Value) (fs : List (Int × Int)) (w : World) (hv : Pairs w v fs) (hn : fs.length ≤ 1048576) :
    Calls Try.prog 49 #[v] w fun e w' => ∃ u, e = .returned u ∧ w'.ownsRow w.heap.size 65 2 u fs.length (flat2 fs) ∧ Below w.heap.size w w' := by
  obtain ⟨a, c, rfl, hc1, hc2, HC⟩ := hv.parts
  obtain ⟨i, hi, hz0, hz1, hz2⟩ := info_parts info_Fault
  go_enter Try.func49, Try.ntmps49
  go_wp2_with (at_make; refine wpList_make_full _ rfl _ _ 56 rfl w.heap.size 65 i (.agg #[.int .i64 0, .int .i64 0]) 2 Try.underlying56 hi hz0 hz1 _ _ _ _ fs.length rfl rfl rfl rfl (by rw [hz2]; omega) (by unfold maxLen; omega) (Nat.le_refl _) ?_)
  intro w1 hown hg
  have hb1 : Below w.heap.size w w1 := gr_below hg
  have hown1 : w1.ownsRow w.heap.size 65 2 (.slice (some ⟨w.heap.size, 0, none⟩) fs.length fs.length) fs.length (flat2 (fs.take 0 ++ List.replicate (fs.length - 0) (0, 0))) := by
    rw [List.take_zero, List.nil_append, Nat.sub_zero, flat2_rep]
    have := hown
    rw [made_two] at this
    exact this
  clear hown hg hi hz0 hz1 hz2 hv
  go_wp2
  go_loopw [4] (fun i wr => ∃ k : Nat, k ≤ fs.length ∧ i = .int .i64 k ∧ wr.ownsRow w.heap.size 65 2 (.slice (some ⟨w.heap.size, 0, none⟩) fs.length fs.length) fs.length (flat2 (fs.take k ++ List.replicate (fs.length - k) (0, 0))) ∧ Below w.heap.size w wr) (fun i _ => fs.length - (intOf i).toNat)
  case atStart => exact ⟨0, by omega, rfl, hown1, hb1⟩
  case round =>
    obtain ⟨k, hk, rfl, ho, hb⟩ := hrel
    clear hown1 hb1
    by_cases hlt : k < fs.length
    · have hd : decide ((k : Int) < (fs.length : Int)) = true := by simp; omega
      obtain ⟨x, hx⟩ := elem_at hlt
      obtain ⟨b, off, rfl, f0, f1⟩ := HC.out k x hx.out
      have g0 := cell_later hb f0
      have g1 := cell_later hb f1
      clear f0 f1
      go_wp2_with fail
      refine (toFault_c x.1 x.2 _).mono ?_
      rintro e w2 ⟨rfl, hb2⟩
      have ho2 := own_keep ho hb2
      have hb3 := Below.chain hb hb2
      obtain ⟨m0, m1, m2, m3, m4, m5, m6⟩ := set_pair (a := x.1) (b := x.2) hlt ho2 (by rw [List.length_take, Nat.min_eq_left hk])
      have ho6 : Hid (((w2.setCell ⟨w.heap.size, k * 2, none⟩ (.int .i64 x.1)).setCell ⟨w.heap.size, k * 2 + 1, none⟩ (.int .i64 x.2)).ownsRow w.heap.size 65 2 (.slice (some ⟨w.heap.size, 0, none⟩) fs.length fs.length) fs.length (flat2 (fs.take (k + 1) ++ List.replicate (fs.length - (k + 1)) (0, 0)))) := by
        rw [take_snoc hx.out]; exact m6
      clear ho ho2 hb hb2 g0 g1 m6
      go_wp2
      go_roundw
      case rel => exact ⟨k + 1, by omega, by go_num, ho6.out, (hb3.setCell (Nat.le_refl _) _).setCell (Nat.le_refl _) _⟩
      case measure => simp [intOf]; omega
    · obtain rfl : k = fs.length := by omega
      go_wp2
      go_ret
      exact ⟨_, rfl, by simpa using ho, hb⟩
end Go.Proofs.Ytahpknjligaliaa
