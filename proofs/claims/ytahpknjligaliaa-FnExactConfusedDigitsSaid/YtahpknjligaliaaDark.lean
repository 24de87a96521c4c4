/- Walks of the sums over the sets of dark bars. -/
import Derived.Test.YtahpknjligaliaaGroups
import Derived.Test.YtahpknjligaliaaOnes
import Derived.Test.YtahpknjligaliaaFrac
import Derived.Test.YtahpknjligaliaaAll
namespace Go.Proofs.Ytahpknjligaliaa
open Go.RowKit
set_option linter.unusedVariables false
set_option maxRecDepth 100000
def dkS (g : Nat → Nat) (k : Int) (n : Nat) : Nat := (((List.range n).filter fun d : Nat => cnt (d : Int) == k).map g).sum
def dkM (k : Int) (n : Nat) : Nat := ((List.range n).filter fun d : Nat => cnt (d : Int) == k).length
theorem dkS_succ (g : Nat → Nat) (k : Int) (n : Nat) : dkS g k (n + 1) = dkS g k n + if cnt (n : Int) == k then g n else 0 := by
  unfold dkS
  rw [List.range_succ, List.filter_append, List.map_append, List.sum_append]
  cases h : cnt (n : Int) == k <;> simp [h]
theorem dkM_succ (k : Int) (n : Nat) : dkM k (n + 1) = dkM k n + if cnt (n : Int) == k then 1 else 0 := by
  unfold dkM
  rw [List.range_succ, List.filter_append, List.length_append]
  cases h : cnt (n : Int) == k <;> simp [h]
theorem dkM_le (k : Int) (n : Nat) : dkM k n ≤ n := by
  unfold dkM; exact Nat.le_trans (List.length_filter_le _ _) (by simp)
theorem dkS_le {g : Nat → Nat} (hg : ∀ d, g d ≤ 10) (k : Int) (n : Nat) : dkS g k n ≤ 10 * n := by
  induction n with
  | zero => simp [dkS]
  | succ n ih => rw [dkS_succ]; have := hg n; split <;> omega
theorem dkM_pos : ∀ k : Fin 8, 0 < dkM (k.1 : Int) 128 := by decide +kernel
theorem overDark_c (k : Int) (fn : Nat) (g : Nat → Nat) (w : World) (hg : ∀ d, g d ≤ 10) (hf : CallsIt fn)
    (hp : ∀ (d : Nat) (w' : World), d < 128 → Calls Try.prog fn #[.agg #[.int .i64 (d : Int), .int .i64 0]] w' fun e w'' => e = .returned (.int .i64 (g d : Nat)) ∧ Below w'.heap.size w' w'') :
    Calls Try.prog 144 #[.int .i64 k, .func (.func fn) #[] #[]] w fun e w' => e = .returned (.tuple #[.int .i64 (dkS g k 128 : Nat), .int .i64 (dkM k 128 : Nat), .bool (inB k 0 7)]) ∧ Below w.heap.size w w' := by
  have hf' : ∀ (bs : Array Value) (w : World), (callFunc fn bs).run Try.prog w = .ok (.enter fn bs) w := hf
  go_enter Try.func144, Try.ntmps144
  go_wp2
  go_loopw [7, 8, 9, 10] (fun s m _ j wr => ∃ n : Nat, n ≤ 128 ∧ j = .int .i64 (n : Int) ∧ s = .int .i64 (dkS g k n : Nat) ∧ m = .int .i64 (dkM k n : Nat) ∧ Below w.heap.size w wr) (fun _ _ _ j _ => 129 - (intOf j).toNat)
  case atStart => exact ⟨0, by omega, rfl, rfl, rfl, Below.refl _ _⟩
  case round =>
    obtain ⟨n, hn, rfl, rfl, rfl, hb⟩ := hrel
    by_cases hlt : n < 128
    · have hd : decide ((n : Int) < 128) = true := by simp; omega
      have hS := dkS_succ g k n
      have hM := dkM_succ k n
      have hSl := dkS_le hg k n
      have hMl := dkM_le k n
      have hgn := hg n
      generalize dkS g k n = s at *
      generalize dkM k n = m at *
      have HS := Lib.hid hS; have HM := Lib.hid hM; clear hS hM
      go_wp2_with fail
      refine (count_c (n : Int) (by omega) (by omega) _).mono ?_
      rintro e w2 ⟨rfl, rfl⟩
      rcases hq : cnt (n : Int) == k with _ | _
      · have HS2 := Lib.hid (show dkS g k (n + 1) = s by rw [HS.out, hq]; rfl)
        have HM2 := Lib.hid (show dkM k (n + 1) = m by rw [HM.out, hq]; rfl)
        clear HS HM
        go_wp2
        go_roundw
        case rel => exact ⟨n + 1, by omega, by go_num, by rw [HS2.out], by rw [HM2.out], by (repeat (first | exact Below.refl _ _ | exact (Below.refl _ _).drew | assumption | exact below_one _ | refine Below.chain ?_ (by assumption) | refine Below.drew ?_ | refine Below.alc ?_ _ | refine below_drewN ?_ | (refine Below.setCell ?_ ?_ _) | exact Nat.le_refl _ | (simp; done) | (simp; omega)))⟩
        case measure => simp [intOf]; omega
      · have HS2 := Lib.hid (show dkS g k (n + 1) = s + g n by rw [HS.out, hq]; rfl)
        have HM2 := Lib.hid (show dkM k (n + 1) = m + 1 by rw [HM.out, hq]; rfl)
        clear HS HM
        go_wp2_with fail
        refine (hp n _ hlt).mono ?_
        rintro e w3 ⟨rfl, hb3⟩
        have hb4 : Below w.heap.size w w3 := Below.chain hb hb3
        clear hb3
        go_wp2
        go_roundw
        case rel => exact ⟨n + 1, by omega, by go_num, by rw [HS2.out]; exact int_val (by omega), by rw [HM2.out]; exact int_val (by omega), hb4⟩
        case measure => simp [intOf]; omega
    · obtain rfl : n = 128 := by omega
      go_wp2_with fail
      refine (within_c k 0 7 _).mono ?_
      rintro e w4 ⟨rfl, rfl⟩
      go_wp2
      exact bodyPost_ret (v := .tuple #[.int .i64 (dkS g k 128 : Nat), .int .i64 (dkM k 128 : Nat), .bool (inB k 0 7)]) (by simp [results, Try.results144, go_sem]) rfl ⟨rfl, hb⟩
end Go.Proofs.Ytahpknjligaliaa
