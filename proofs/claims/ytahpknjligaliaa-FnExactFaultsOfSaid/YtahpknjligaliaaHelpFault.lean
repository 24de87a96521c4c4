/- Walks of the laws' helpers over slices of Faults: an equality test, marks written and held. -/
import Derived.Test.YtahpknjligaliaaHelp
import Derived.Test.YtahpknjligaliaaPairs
import Derived.Deep.RegionHeld3
namespace Go.Proofs.Ytahpknjligaliaa
open Go.RowKit
set_option linter.unusedVariables false
set_option maxRecDepth 100000

theorem eqFault_c (a b c d : Int) (w : World) : Calls Try.prog 132 #[.agg #[.int .i64 a, .int .i64 b], .agg #[.int .i64 c, .int .i64 d]] w fun e w' => e = .returned (.bool (pairEq a b c d)) ∧ Below w.heap.size w w' := by
  rcases h1 : (a != c) with _ | _
  · rcases h2 : (b != d) with _ | _
    · go_enter Try.func132, Try.ntmps132
      go_wp2
      go_ret
      exact ⟨bool_ret (by simp at h1 h2; simp [pairEq, h1, h2]), by (repeat (first | exact Below.refl _ _ | exact (Below.refl _ _).drew | assumption | exact below_one _ | refine Below.chain ?_ (by assumption) | refine Below.drew ?_ | refine Below.alc ?_ _ | refine below_drewN ?_ | (refine Below.setCell ?_ ?_ _) | exact Nat.le_refl _ | (simp; done) | (simp; omega)))⟩
    · go_enter Try.func132, Try.ntmps132
      go_wp2
      go_ret
      exact ⟨bool_ret (by simp at h1 h2; simp [pairEq, h1, h2]), by (repeat (first | exact Below.refl _ _ | exact (Below.refl _ _).drew | assumption | exact below_one _ | refine Below.chain ?_ (by assumption) | refine Below.drew ?_ | refine Below.alc ?_ _ | refine below_drewN ?_ | (refine Below.setCell ?_ ?_ _) | exact Nat.le_refl _ | (simp; done) | (simp; omega)))⟩
  · go_enter Try.func132, Try.ntmps132
    go_wp2
    go_ret
    exact ⟨bool_ret (by simp at h1; simp [pairEq, h1]), by (repeat (first | exact Below.refl _ _ | exact (Below.refl _ _).drew | assumption | exact below_one _ | refine Below.chain ?_ (by assumption) | refine Below.drew ?_ | refine Below.alc ?_ _ | refine below_drewN ?_ | (refine Below.setCell ?_ ?_ _) | exact Nat.le_refl _ | (simp; done) | (simp; omega)))⟩
theorem eqFaultS_c (v1 v2 : Value) (xs ys : List (Int × Int)) (w : World) (h1 : Pairs w v1 xs) (h2 : Pairs w v2 ys) :
    Calls Try.prog 51 #[v1, v2] w fun e w' => e = .returned (.bool (decide (xs = ys))) ∧ Below w.heap.size w w' := by
  have hm1 := h1.le; have hm2 := h2.le
  obtain ⟨a1, c1, rfl, _, _, H1⟩ := h1.parts
  obtain ⟨a2, c2, rfl, _, _, H2⟩ := h2.parts
  by_cases hl : xs.length = ys.length
  · have hlb : ((xs.length : Int) != (ys.length : Int)) = false := by simp [hl]
    have HL := Lib.hid hl; clear hl
    go_enter Try.func51, Try.ntmps51
    go_wp2
    go_loopw [5] (fun i wr => ∃ k : Nat, k ≤ xs.length ∧ i = .int .i64 k ∧ Hid (∀ j, j < k → xs[j]? = ys[j]?) ∧ Below w.heap.size w wr) (fun i _ => xs.length - (intOf i).toNat)
    case atStart => exact ⟨0, by omega, rfl, fun j hj => by omega, Below.refl _ _⟩
    case round =>
      obtain ⟨k, hk, rfl, hsame, hb⟩ := hrel
      by_cases hlt : k < xs.length
      · have hlt2 : k < ys.length := by rw [← HL.out]; exact hlt
        have hd : decide ((k : Int) < (xs.length : Int)) = true := by simp; omega
        obtain ⟨⟨x, x'⟩, hx⟩ := elem_at hlt
        obtain ⟨⟨y, y'⟩, hy⟩ := elem_at hlt2
        obtain ⟨b1, o1, rfl, f1, f1'⟩ := H1.out k _ hx.out
        obtain ⟨b2, o2, rfl, f2, f2'⟩ := H2.out k _ hy.out
        have g1 := cell_later hb f1
        have g1' := cell_later hb f1'
        have g2 := cell_later hb f2
        have g2' := cell_later hb f2'
        clear h1 h2 f1 f1' f2 f2'
        go_wp2_with fail
        go_region_held3 (fun w' => w'.cell? ⟨b1, o1 + k * 2, none⟩ = some (.int .i64 x) ∧ w'.cell? ⟨b1, o1 + k * 2 + 1, none⟩ = some (.int .i64 x') ∧ w'.cell? ⟨b2, o2 + k * 2, none⟩ = some (.int .i64 y) ∧ w'.cell? ⟨b2, o2 + k * 2 + 1, none⟩ = some (.int .i64 y'))
          (first | go_keep | (go_split_ands; exact ⟨cell_later (by assumption) (by assumption), cell_later (by assumption) (by assumption), cell_later (by assumption) (by assumption), cell_later (by assumption) (by assumption)⟩))
          (first | (go_at_call 132; refine (eqFault_c _ _ _ _ _).mono ?_; rintro e w' ⟨rfl, hb2⟩))
        have hb3 : Below w.heap.size w _ := Below.chain hb.drew hb2
        rcases he : pairEq x x' y y' with _ | _
        · have he2 : ¬ (x, x') = (y, y') := of_decide_eq_false he
          have HE := Lib.hid he2; clear he2 hb
          go_wp2
          go_ret
          refine ⟨bool_ret ?_, hb3⟩
          symm; apply decide_eq_false; rintro rfl
          have := hx.out.symm.trans hy.out
          exact HE.out (Option.some.inj this)
        · have he2 : (x, x') = (y, y') := of_decide_eq_true he
          have HE := Lib.hid he2; clear he2 hb
          go_wp2
          go_roundw
          case rel => exact ⟨k + 1, by omega, by go_num, fun j hj => by
            by_cases hj2 : j < k
            · exact hsame.out j hj2
            · obtain rfl : j = k := by omega
              rw [hx.out, hy.out, HE.out], hb3⟩
          case measure => simp [intOf]; omega
      · go_wp2
        go_ret
        refine ⟨bool_ret ?_, hb⟩
        symm; apply decide_eq_true
        exact list_eq_of HL.out (by omega) hsame.out
  · have hlb : ((xs.length : Int) != (ys.length : Int)) = true := by simp; omega
    go_enter Try.func51, Try.ntmps51
    go_wp2
    go_ret
    refine ⟨bool_ret ?_, Below.refl _ _⟩
    symm; apply decide_eq_false; rintro rfl; exact hl rfl
theorem markFaultS_c (v : Value) (xs : List (Int × Int)) (k0 : Int) (lo : Nat) (e0 : TypeId) (w : World) (ho : w.ownsRow lo e0 2 v xs.length (flat2 xs)) (hk0 : 0 ≤ k0) (hk1 : k0 + 2 * xs.length ≤ 4611686018427387904) :
    Calls Try.prog 60 #[v, .int .i64 k0] w fun e w' => e = .returned (.int .i64 (k0 + 2 * xs.length)) ∧ w'.ownsRow lo e0 2 v xs.length (flat2 (seqP k0 xs.length)) ∧ w.grownBy w' v.ownBlock := by
  by_cases hz : xs.length = 0
  · obtain ⟨a, c, rfl, _⟩ := (Sl.of_own ho).slice
    have hx : xs = [] := List.eq_nil_of_length_eq_zero hz
    subst hx
    simp only [List.length_nil] at ho ⊢
    go_enter Try.func60, Try.ntmps60
    go_wp2
    refine wp_loop_rounds 1 ?_
    rw [rounds_succ]
    go_wp2
    go_ret
    exact ⟨int_ret (by simp), ho, World.grownBy.refl _ _⟩
  · obtain ⟨g, cap, hv, hlo, hlt, _⟩ := own_form ho (by omega)
    subst hv
    have hm : (xs.length : Int) ≤ 4611686018427387904 := by omega
    go_enter Try.func60, Try.ntmps60
    go_wp2
    go_loopw [5, 1] (fun i q wr => ∃ k : Nat, k ≤ xs.length ∧ i = .int .i64 k ∧ q = .int .i64 (k0 + 2 * k) ∧ wr.ownsRow lo e0 2 (.slice (some ⟨g, 0, none⟩) xs.length cap) xs.length (flat2 (seqP k0 k ++ xs.drop k)) ∧ w.grownBy wr (some g)) (fun i _ _ => xs.length - (intOf i).toNat)
    case atStart => exact ⟨0, by omega, rfl, by simp, by simpa [seqP] using ho, World.grownBy.refl _ _⟩
    case round =>
      obtain ⟨k, hk, rfl, rfl, ho1, hg1⟩ := hrel
      clear ho
      by_cases hlt : k < xs.length
      · have hgg := mark2_set ho1 hlt
        obtain ⟨⟨_, g2⟩, ⟨_, g2'⟩, g3, g4, g5, ho2, hg2⟩ := hgg
        have hg3 : Hid (w.grownBy ((wr.setCell ⟨g, k * 2, none⟩ (.int .i64 (k0 + 2 * k))).setCell ⟨g, k * 2 + 1, none⟩ (.int .i64 (k0 + 2 * k + 1))) (some g)) := hg1.trans hg2
        have HO := Lib.hid ho2
        clear ho1 hg1 ho2 hg2
        go_wp2
        go_roundw
        case rel => exact ⟨k + 1, by omega, by go_num, by go_num, HO.out, hg3.out⟩
        case measure => simp [intOf]; omega
      · obtain rfl : k = xs.length := by omega
        go_wp2
        go_ret
        exact ⟨rfl, by simpa using ho1, hg1⟩
theorem heldFaultS_c (v : Value) (n : Nat) (k0 : Int) (w : World) (hv : Pairs w v (seqP k0 n)) (hk0 : 0 ≤ k0) (hk1 : k0 + 2 * n ≤ 4611686018427387904) :
    Calls Try.prog 72 #[v, .int .i64 k0] w fun e w' => e = .returned (.int .i64 (k0 + 2 * n)) ∧ Below w.heap.size w w' := by
  obtain ⟨a, c, rfl, hc1, hc2, HC⟩ := hv.parts
  clear hv
  simp only [seqP_length] at hc1 ⊢
  have hm : (n : Int) ≤ 4611686018427387904 := by omega
  go_enter Try.func72, Try.ntmps72
  go_wp2
  go_loopw [5, 1] (fun i q wr => ∃ k : Nat, k ≤ n ∧ i = .int .i64 k ∧ q = .int .i64 (k0 + 2 * k) ∧ w = wr) (fun i _ _ => n - (intOf i).toNat)
  case atStart => exact ⟨0, by omega, rfl, by simp, by trivial⟩
  case round =>
    obtain ⟨k, hk, rfl, rfl, rfl⟩ := hrel
    by_cases hlt : k < n
    · obtain ⟨b, off, rfl, g0, g1⟩ := HC.out k _ (seqP_at hlt)
      simp only at g0 g1
      have ht : ((k0 + 2 * (k : Int)) != (k0 + 2 * (k : Int))) = false := by simp
      have ht2 : ((k0 + 2 * (k : Int) + 1) != (k0 + 2 * (k : Int) + 1)) = false := by simp
      go_wp2
      go_roundw
      case rel => exact ⟨k + 1, by omega, by go_num, by go_num, by trivial⟩
      case measure => simp [intOf]; omega
    · obtain rfl : k = n := by omega
      go_wp2
      go_ret
      exact ⟨rfl, Below.refl _ _⟩
end Go.Proofs.Ytahpknjligaliaa
