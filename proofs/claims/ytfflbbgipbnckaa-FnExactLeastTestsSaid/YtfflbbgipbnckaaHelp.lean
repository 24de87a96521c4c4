/- Walks of the laws' helpers over slices of ints: a copy, an equality test, marks written and held. -/
import Derived.Test.YtfflbbgipbnckaaBase
namespace Go.Proofs.Ytfflbbgipbnckaa
open Go.RowKit
set_option linter.unusedVariables false

theorem info_int : (Try.prog.info? 3).map (fun i => (i.zero, i.size, i.bytes)) = some (some (.int .i64 0), 1, 8) := by kernel_rfl
def seqI (k : Int) (n : Nat) : List Int := (List.range n).map fun (i : Nat) => k + (i : Int)
theorem seqI_length (k : Int) (n : Nat) : (seqI k n).length = n := by simp [seqI]
theorem seqI_at {k : Int} {n j : Nat} (h : j < n) : (seqI k n)[j]? = some (k + j) := by simp [seqI, h]

theorem toIntS_c (v : Value) (xs : List Int) (w : World) (hv : Ints w v xs) (hn : xs.length ≤ 1048576) :
    Calls Try.prog 9 #[v] w fun e w' => ∃ u, e = .returned u ∧ w'.ownsRow w.heap.size 3 1 u xs.length (xs.map (Value.int .i64)) ∧ Below w.heap.size w w' := by
  obtain ⟨a, c, rfl, hc1, hc2, HC⟩ := hv.parts
  have hu := Try.underlying22
  obtain ⟨i, hi, hz0, hz1, hz2⟩ := info_parts info_int
  go_enter Try.func9, Try.ntmps9
  go_wp2_with (at_make; refine wpList_make_full _ rfl _ _ 22 rfl w.heap.size 3 i (.int .i64 0) 1 hu hi hz0 hz1 _ _ _ _ xs.length rfl rfl rfl rfl (by rw [hz2]; omega) (by unfold maxLen; omega) (Nat.le_refl _) ?_)
  intro w1 hown hg
  have hb1 : Below w.heap.size w w1 := gr_below hg
  have hown1 : w1.ownsRow w.heap.size 3 1 (.slice (some ⟨w.heap.size, 0, none⟩) xs.length xs.length) xs.length ((xs.take 0 ++ List.replicate (xs.length - 0) 0).map (Value.int .i64)) := by
    have := hown; rw [toList_madeCells_one] at this; simpa using this
  clear hown hg hi hz0 hz1 hz2
  go_wp2
  go_loopw [4] (fun i wr => ∃ k : Nat, k ≤ xs.length ∧ i = .int .i64 k ∧ wr.ownsRow w.heap.size 3 1 (.slice (some ⟨w.heap.size, 0, none⟩) xs.length xs.length) xs.length ((xs.take k ++ List.replicate (xs.length - k) 0).map (Value.int .i64)) ∧ Below w.heap.size w wr) (fun i _ => xs.length - (intOf i).toNat)
  case atStart => exact ⟨0, by omega, rfl, hown1, hb1⟩
  case round =>
    obtain ⟨k, hk, rfl, ho, hb⟩ := hrel
    clear hown1 hb1
    by_cases hlt : k < xs.length
    · obtain ⟨x, hx⟩ := elem_at hlt
      obtain ⟨b, off, rfl, g0⟩ := HC.out k x hx.out
      have hblt : b < w.heap.size := World.block_lt_of_cell? w _ g0
      have g1 : wr.cell? ⟨b, off + k, none⟩ = some (.int .i64 x) := ((bcell hb).1 _ _ hblt).trans g0
      clear g0
      have g2 : wr.cell? ⟨w.heap.size, k, none⟩ = some (.int .i64 0) := by
        rw [ho.cellAt k (by omega), List.getElem?_map, List.getElem?_append_right (by simp; omega)]
        rw [List.length_take, Nat.min_eq_left hk, Nat.sub_self, List.getElem?_replicate, if_pos (by omega)]; rfl
      have g3 := ho.frozenAt k
      have hst := ho.stored k (.int .i64 x)
      have hown2 : Hid ((wr.setCell ⟨w.heap.size, k, none⟩ (.int .i64 x)).ownsRow w.heap.size 3 1 (.slice (some ⟨w.heap.size, 0, none⟩) xs.length xs.length) xs.length ((xs.take (k + 1) ++ List.replicate (xs.length - (k + 1)) 0).map (Value.int .i64))) := by
        have h1 := hst.1
        rw [take_snoc hx.out]
        have e : ((xs.take k ++ List.replicate (xs.length - k) 0).map (Value.int .i64)).set k (.int .i64 x) = ((xs.take k ++ [x]) ++ List.replicate (xs.length - (k + 1)) 0).map (Value.int .i64) := by
          rw [show xs.length - k = (xs.length - (k + 1)) + 1 by omega, List.replicate_succ, List.map_append, List.set_append_right _ _ (by simp; omega)]
          simp [List.length_take, Nat.min_eq_left hk]
        rw [← e]; exact h1
      clear hst
      go_wp2
      go_roundw
      case rel => exact ⟨k + 1, by omega, by go_num, hown2.out, hb.setCell (Nat.le_refl _) _⟩
      case measure => simp [intOf]; omega
    · obtain rfl : k = xs.length := by omega
      go_wp2
      go_ret
      exact ⟨_, rfl, by simpa using ho, hb⟩

theorem eqIntS_c (v1 v2 : Value) (xs ys : List Int) (w : World) (h1 : Ints w v1 xs) (h2 : Ints w v2 ys) :
    Calls Try.prog 11 #[v1, v2] w fun e w' => e = .returned (.bool (decide (xs = ys))) ∧ Below w.heap.size w w' := by
  have hm1 := h1.le; have hm2 := h2.le
  obtain ⟨a1, c1, rfl, _, _, H1⟩ := h1.parts
  obtain ⟨a2, c2, rfl, _, _, H2⟩ := h2.parts
  by_cases hl : xs.length = ys.length
  · have hlb : ((xs.length : Int) != (ys.length : Int)) = false := by simp [hl]
    have HL := Lib.hid hl; clear hl
    go_enter Try.func11, Try.ntmps11
    go_wp2
    go_loopw [5] (fun i wr => ∃ k : Nat, k ≤ xs.length ∧ i = .int .i64 k ∧ Hid (∀ j, j < k → xs[j]? = ys[j]?) ∧ Hid (∃ n, wr = w.drewN n)) (fun i _ => xs.length - (intOf i).toNat)
    case atStart => exact ⟨0, by omega, rfl, fun j hj => by omega, ⟨0, rfl⟩⟩
    case round =>
      obtain ⟨k, hk, rfl, hsame, hw⟩ := hrel
      by_cases hlt : k < xs.length
      · have hlt2 : k < ys.length := by rw [← HL.out]; exact hlt
        obtain ⟨x, hx⟩ := elem_at hlt
        obtain ⟨y, hy⟩ := elem_at hlt2
        obtain ⟨b1, o1, rfl, g1⟩ := H1.out k x hx.out
        obtain ⟨b2, o2, rfl, g2⟩ := H2.out k y hy.out
        obtain ⟨n, rfl⟩ := hw.out
        clear h1 h2
        go_wp2
        go_quiet (fail)
        go_wp2
        · rename_i ht
          go_ret
          refine ⟨bool_ret ?_, below_drewN (below_drewN (Below.refl _ _))⟩
          symm; apply decide_eq_false; rintro rfl
          have := hx.out.symm.trans hy.out; simp at this ht; exact ht this
        · rename_i ht
          exact ⟨⟨k+1, by omega, by go_num, fun j hj => by
            by_cases hj2 : j < k
            · exact hsame.out j hj2
            · obtain rfl : j = k := by omega
              rw [hx.out, hy.out]; simp at ht; rw [ht], ⟨_, rfl⟩⟩, by simp [intOf]; omega⟩
      · obtain ⟨n, rfl⟩ := hw.out
        go_wp2
        go_ret
        refine ⟨bool_ret ?_, below_drewN (Below.refl _ _)⟩
        symm; apply decide_eq_true
        exact list_eq_of HL.out (by omega) hsame.out
  · have hlb : ((xs.length : Int) != (ys.length : Int)) = true := by simp; omega
    go_enter Try.func11, Try.ntmps11
    go_wp2
    go_ret
    refine ⟨bool_ret ?_, Below.refl _ _⟩
    symm; apply decide_eq_false; rintro rfl; exact hl rfl

theorem markIntS_c (v : Value) (xs : List Int) (k0 : Int) (lo : Nat) (e0 : TypeId) (w : World) (ho : w.ownsRow lo e0 1 v xs.length (xs.map (Value.int .i64))) (hk0 : 0 ≤ k0) (hk1 : k0 + xs.length ≤ 4611686018427387904) :
    Calls Try.prog 14 #[v, .int .i64 k0] w fun e w' => e = .returned (.int .i64 (k0 + xs.length)) ∧ w'.ownsRow lo e0 1 v xs.length ((seqI k0 xs.length).map (Value.int .i64)) ∧ w.grownBy w' v.ownBlock := by
  by_cases hz : xs.length = 0
  · obtain ⟨a, c, rfl, _⟩ := (Sl.of_own ho).slice
    have hx : xs = [] := List.eq_nil_of_length_eq_zero hz
    subst hx
    simp only [List.length_nil, List.map_nil] at ho ⊢
    go_enter Try.func14, Try.ntmps14
    go_wp2
    refine wp_loop_rounds 1 ?_
    rw [rounds_succ]
    go_wp2
    go_ret
    exact ⟨int_ret (by simp), by simpa [seqI] using ho, World.grownBy.refl _ _⟩
  · obtain ⟨g, cap, hv, hlo, hlt, _⟩ := own_form ho (by omega)
    subst hv
    go_enter Try.func14, Try.ntmps14
    go_wp2
    go_loopw [5, 1] (fun i q wr => ∃ k : Nat, k ≤ xs.length ∧ i = .int .i64 k ∧ q = .int .i64 (k0 + k) ∧ wr.ownsRow lo e0 1 (.slice (some ⟨g, 0, none⟩) xs.length cap) xs.length ((seqI k0 k ++ xs.drop k).map (Value.int .i64)) ∧ w.grownBy wr (some g)) (fun i _ _ => xs.length - (intOf i).toNat)
    case atStart => exact ⟨0, by omega, rfl, by simp, by simpa [seqI] using ho, World.grownBy.refl _ _⟩
    case round =>
      obtain ⟨k, hk, rfl, rfl, ho1, hg1⟩ := hrel
      clear ho
      by_cases hlt : k < xs.length
      · obtain ⟨x, hx⟩ := elem_at hlt
        have g2 : wr.cell? ⟨g, k, none⟩ = some (.int .i64 x) := by
          rw [ho1.cellAt k (by omega), List.getElem?_map, List.getElem?_append_right (by simp [seqI_length])]
          simp [seqI_length, hx.out]
        have g3 := ho1.frozenAt k
        have hst := ho1.stored k (.int .i64 (k0 + k))
        have hown2 : Hid ((wr.setCell ⟨g, k, none⟩ (.int .i64 (k0 + k))).ownsRow lo e0 1 (.slice (some ⟨g, 0, none⟩) xs.length cap) xs.length ((seqI k0 (k + 1) ++ xs.drop (k + 1)).map (Value.int .i64))) := by
          have h1 := hst.1
          have e : ((seqI k0 k ++ xs.drop k).map (Value.int .i64)).set k (.int .i64 (k0 + k)) = (seqI k0 (k + 1) ++ xs.drop (k + 1)).map (Value.int .i64) := by
            rw [List.drop_eq_getElem_cons hlt, List.map_append, List.map_cons, set_mid _ _ _ _ (by simp [seqI_length])]
            simp [seqI, List.range_succ]
          rw [← e]; exact h1
        have hgg : Hid (w.grownBy (wr.setCell ⟨g, k, none⟩ (.int .i64 (k0 + k))) (some g)) :=
          ⟨hst.2.os.trans hg1.os, hst.2.tape.trans hg1.tape, hst.2.output.trans hg1.output, Nat.le_trans hg1.size hst.2.size, fun j hj hne => (hst.2.block j (Nat.lt_of_lt_of_le hj hg1.size) hne).trans (hg1.block j hj hne)⟩
        clear hst
        go_wp2
        go_roundw
        case rel => exact ⟨k + 1, by omega, by go_num, by go_num, hown2.out, hgg.out⟩
        case measure => simp [intOf]; omega
      · obtain rfl : k = xs.length := by omega
        go_wp2
        go_ret
        exact ⟨rfl, by simpa using ho1, hg1⟩
theorem heldIntS_c (v : Value) (n : Nat) (k0 : Int) (w : World) (hv : Ints w v (seqI k0 n)) (hk0 : 0 ≤ k0) (hk1 : k0 + n ≤ 4611686018427387904) :
    Calls Try.prog 15 #[v, .int .i64 k0] w fun e w' => e = .returned (.int .i64 (k0 + n)) ∧ Below w.heap.size w w' := by
  obtain ⟨a, c, rfl, hc1, hc2, HC⟩ := hv.parts
  clear hv
  simp only [seqI_length] at hc1 ⊢
  go_enter Try.func15, Try.ntmps15
  go_wp2
  go_loopw [5, 1] (fun i q wr => ∃ k : Nat, k ≤ n ∧ i = .int .i64 k ∧ q = .int .i64 (k0 + k) ∧ w = wr) (fun i _ _ => n - (intOf i).toNat)
  case atStart => exact ⟨0, by omega, rfl, by simp, rfl⟩
  case round =>
    obtain ⟨k, hk, rfl, rfl, rfl⟩ := hrel
    by_cases hlt : k < n
    · obtain ⟨b, off, rfl, g0⟩ := HC.out k _ (seqI_at hlt)
      have ht : ((k0 + (k : Int)) != (k0 + (k : Int))) = false := by simp
      go_wp2
      go_roundw
      case rel => exact ⟨k + 1, by omega, by go_num, by go_num, by trivial⟩
      case measure => simp [intOf]; omega
    · obtain rfl : k = n := by omega
      go_wp2
      go_ret
      exact ⟨rfl, Below.refl _ _⟩
end Go.Proofs.Ytfflbbgipbnckaa
