/- Walks of the sums over the tests of so many digits. -/
import Derived.Test.YtahpknjligaliaaStates2
import Derived.Test.YtahpknjligaliaaFrac
import Derived.Test.YtahpknjligaliaaBox
import Derived.Test.YtahpknjligaliaaGroups
import Derived.Test.YtahpknjligaliaaHelp
namespace Go.Proofs.Ytahpknjligaliaa
open Go.RowKit
set_option linter.unusedVariables false
set_option maxRecDepth 100000
/-- the last m digits of a number, the last one first -/
def dgs (n m : Nat) : List Int := (List.range m).map fun i => ((n / 10 ^ i % 10 : Nat) : Int)
theorem dgs_len (n m : Nat) : (dgs n m).length = m := by simp [dgs]
theorem dgs_succ (n m : Nat) : dgs n (m + 1) = dgs n m ++ [((n / 10 ^ m % 10 : Nat) : Int)] := by
  unfold dgs; rw [List.range_succ, List.map_append]; rfl
theorem dgs_test (n : Nat) {m : Nat} (hm : m ≤ 4) : testB (dgs n m) = true := by
  unfold testB
  rw [dgs_len, decide_eq_true (by omega), Bool.true_and, List.all_eq_true]
  intro x hx
  unfold dgs at hx
  rw [List.mem_map] at hx
  obtain ⟨i, _, rfl⟩ := hx
  have := Nat.mod_lt (n / 10 ^ i) (show 0 < 10 by omega)
  exact inB_mk (by omega) (by omega)
theorem pw_le {m : Nat} (hm : m ≤ 4) : 10 ^ m ≤ 10000 := Nat.pow_le_pow_right (by omega) hm
theorem pw_pos (m : Nat) : 0 < 10 ^ m := Nat.pow_pos (by omega)
def otS (g : List Int → Nat) (m n : Nat) : Nat := ((List.range n).map fun j => g (dgs j m)).sum
theorem otS_succ (g : List Int → Nat) (m n : Nat) : otS g m (n + 1) = otS g m n + g (dgs n m) := by
  unfold otS; rw [List.range_succ, List.map_append, List.sum_append]; simp
theorem otS_le {g : List Int → Nat} (hg : ∀ xs, g xs ≤ 15) (m n : Nat) : otS g m n ≤ 15 * n := by
  induction n with
  | zero => simp [otS]
  | succ n ih => rw [otS_succ]; have := hg (dgs n m); omega
theorem power_c (m : Nat) (hm : m ≤ 4) (w : World) : Calls Try.prog 195 #[.int .i64 (m : Int)] w fun e w' => e = .returned (.int .i64 ((10 ^ m : Nat) : Int)) ∧ w = w' := by
  go_enter Try.func195, Try.ntmps195
  go_wp2
  go_loopw [3, 5] (fun p j wr => ∃ k : Nat, k ≤ m ∧ j = .int .i64 (k : Int) ∧ p = .int .i64 ((10 ^ k : Nat) : Int) ∧ w = wr) (fun _ j _ => 5 - (intOf j).toNat)
  case atStart => exact ⟨0, by omega, rfl, rfl, rfl⟩
  case round =>
    obtain ⟨k, hk, rfl, rfl, rfl⟩ := hrel
    by_cases hlt : k < m
    · have hd : decide ((k : Int) < (m : Int)) = true := by simp; omega
      have hp := pw_le (show k ≤ 4 by omega)
      have hs : (10 : Nat) ^ (k + 1) = 10 ^ k * 10 := Nat.pow_succ ..
      generalize (10 : Nat) ^ k = p at *
      have HS := Lib.hid hs; clear hs
      go_wp2
      go_roundw
      case rel => exact ⟨k + 1, by omega, by go_num, by rw [HS.out]; exact int_val (by omega), by trivial⟩
      case measure => simp [intOf]; omega
    · obtain rfl : k = m := by omega
      go_wp2
      go_ret
      exact ⟨rfl, rfl⟩
theorem l9Power_c (m : Nat) (hm : m ≤ 4) (w : World) : Calls Try.prog 147 #[.int .i64 10, .int .i64 (m : Int)] w fun e w' => e = .returned (.int .i64 ((10 ^ m : Nat) : Int)) ∧ w = w' := by
  go_enter Try.func147, Try.ntmps147
  go_wp2
  go_loopw [5, 6] (fun p j wr => ∃ k : Nat, k ≤ m ∧ j = .int .i64 (k : Int) ∧ p = .int .i64 ((10 ^ k : Nat) : Int) ∧ w = wr) (fun _ j _ => 5 - (intOf j).toNat)
  case atStart => exact ⟨0, by omega, rfl, rfl, rfl⟩
  case round =>
    obtain ⟨k, hk, rfl, rfl, rfl⟩ := hrel
    by_cases hlt : k < m
    · have hd : decide ((k : Int) < (m : Int)) = true := by simp; omega
      have hp := pw_le (show k ≤ 4 by omega)
      have hs : (10 : Nat) ^ (k + 1) = 10 ^ k * 10 := Nat.pow_succ ..
      generalize (10 : Nat) ^ k = p at *
      have HS := Lib.hid hs; clear hs
      go_wp2
      go_roundw
      case rel => exact ⟨k + 1, by omega, by go_num, by rw [HS.out]; exact int_val (by omega), by trivial⟩
      case measure => simp [intOf]; omega
    · obtain rfl : k = m := by omega
      go_wp2
      go_ret
      exact ⟨rfl, rfl⟩
theorem l9Test_c (n m : Nat) (hn : n ≤ 10000) (hm : m ≤ 4) (w : World) : Calls Try.prog 149 #[.int .i64 (n : Int), .int .i64 (m : Int)] w fun e w' => ∃ u, e = .returned u ∧ w'.ownsRow w.heap.size 3 1 u (dgs n m).length (ints (dgs n m)) ∧ Below w.heap.size w w' := by
  obtain ⟨i, hi, hz0, hz1, hz2⟩ := info_parts info_int
  have ho0 := World.ownsRow_lit (e := 3) (size := 1) (base := w.heap.size) w #[] 0 (Nat.le_refl _) (by decide) rfl
  go_enter Try.func149, Try.ntmps149
  go_wp2
  go_loopw [0, 5, 6] (fun q o j wr => ∃ k : Nat, k ≤ m ∧ j = .int .i64 (k : Int) ∧ q = .int .i64 ((n / 10 ^ k : Nat) : Int) ∧ wr.ownsRow w.heap.size 3 1 o (dgs n k).length (ints (dgs n k)) ∧ Below w.heap.size w wr) (fun _ _ j _ => m - (intOf j).toNat)
  case atStart => exact ⟨0, by omega, rfl, by simp, ho0, by (repeat (first | exact Below.refl _ _ | exact (Below.refl _ _).drew | assumption | exact below_one _ | refine Below.chain ?_ (by assumption) | refine Below.drew ?_ | refine Below.alc ?_ _ | refine below_drewN ?_ | (refine Below.setCell ?_ ?_ _) | exact Nat.le_refl _ | (simp; done) | (simp; omega)))⟩
  case round =>
    obtain ⟨k, hk, rfl, rfl, ho, hb⟩ := hrel
    clear ho0
    by_cases hlt : k < m
    · have hd : decide ((k : Int) < (m : Int)) = true := by simp; omega
      have hs := dgs_succ n k
      have hl := dgs_len n k
      have hq : n / 10 ^ k ≤ 10000 := Nat.le_trans (Nat.div_le_self _ _) hn
      have hq2 : n / 10 ^ (k + 1) = n / 10 ^ k / 10 := by rw [Nat.pow_succ, Nat.div_div_eq_div_mul]
      generalize n / 10 ^ k = q at *
      generalize dgs n k = cur at *
      have HS := Lib.hid hs; have HQ := Lib.hid hq2; clear hs hq2
      have ht : ((q : Int).tmod 10) = ((q % 10 : Nat) : Int) := rfl
      have htd : ((q : Int).tdiv 10) = ((q / 10 : Nat) : Int) := rfl
      have HT := Lib.hid ht; clear ht
      go_wp2_with (at_builtin; refine wpList_append_own_at _ rfl _ _ 35 rfl w.heap.size 3 i (.int .i64 0) 1 8 Try.underlying35 hi hz0 hz1 hz2 rfl (by decide) _ cur.length (ints cur) rfl (ho.alloc _) ⟨wr.heap.size, 0, none⟩ 1 1 [.int .i64 ((q : Int).tmod 10)] rfl rfl (news_new _ [.int .i64 ((q : Int).tmod 10)] _) (by simp [Value.oneCell']) (by unfold maxLen; omega) (by omega) (by have := hb.size; simp; omega) ?_)
      intro v' w3 ho5 hg5 _ _
      have hb7 : Below w.heap.size w w3 := (Below.alc hb _).grown hg5 (by have := hb.size; simp; omega) (fun g hg => (ho.lt g hg).1)
      rw [HT.out] at ho5
      clear ho hb hg5
      go_wp2
      go_roundw
      case rel => exact ⟨k + 1, by omega, by go_num, by rw [HQ.out]; exact int_val (by omega), by rw [HS.out]; exact ownsRow_cast ho5 (by simp; omega) (by simp), hb7⟩
      case measure => simp [intOf]; omega
    · obtain rfl : k = m := by omega
      go_wp2
      go_ret
      exact ⟨_, rfl, ho, hb⟩
theorem overTests_no (m : Int) (fn : Nat) (w : World) (hc : inB m 0 4 = false) :
    Calls Try.prog 150 #[.int .i64 m, .func (.func fn) #[] #[]] w fun e w' => e = .returned (.tuple #[.int .i64 0, .int .i64 0, .bool false]) ∧ w = w' := by
  have HC := Lib.hid hc; clear hc
  go_enter Try.func150, Try.ntmps150
  go_wp2_with fail
  refine (within_c m 0 4 _).mono ?_
  rintro e w1 ⟨rfl, rfl⟩
  rw [HC.out]
  go_wp2
  exact bodyPost_ret (v := .tuple #[.int .i64 0, .int .i64 0, .bool false]) (by simp [results, Try.results150, go_sem]) rfl ⟨rfl, rfl⟩
theorem overTests_c (m : Nat) (hm : m ≤ 4) (fn : Nat) (g : List Int → Nat) (w : World) (hg : ∀ xs, g xs ≤ 15) (hf : CallsIt fn)
    (hp : ∀ (v : Value) (xs : List Int) (w' : World), Ints w' v xs → testB xs = true → Calls Try.prog fn #[v] w' fun e w'' => e = .returned (.int .i64 (g xs : Nat)) ∧ Below w'.heap.size w' w'') :
    Calls Try.prog 150 #[.int .i64 (m : Int), .func (.func fn) #[] #[]] w fun e w' => e = .returned (.tuple #[.int .i64 (otS g m (10 ^ m) : Nat), .int .i64 ((10 ^ m : Nat) : Int), .bool true]) ∧ Below w.heap.size w w' := by
  have hf' : ∀ (bs : Array Value) (w : World), (callFunc fn bs).run Try.prog w = .ok (.enter fn bs) w := hf
  have HC := Lib.hid (show inB (m : Int) 0 4 = true from inB_mk (by omega) (by omega))
  obtain ⟨i, hi, hz0, hz1, hz2⟩ := info_parts info_int
  have hP := pw_le hm
  have HD : Hid (∀ n k, dgs n (k + 1) = dgs n k ++ [((n / 10 ^ k % 10 : Nat) : Int)] ∧ n / 10 ^ (k + 1) = n / 10 ^ k / 10) := fun n k => ⟨dgs_succ n k, by rw [Nat.pow_succ, Nat.div_div_eq_div_mul]⟩
  go_enter Try.func150, Try.ntmps150
  go_wp2_with fail
  refine (within_c (m : Int) 0 4 _).mono ?_
  rintro e w1 ⟨rfl, rfl⟩
  rw [HC.out]
  go_wp2_with fail
  refine (power_c m hm _).mono ?_
  rintro e w1 ⟨rfl, rfl⟩
  generalize hN : 10 ^ m = N at *
  have HN := Lib.hid hN; clear hN
  go_wp2
  go_loopw [7, 17] (fun s j wr => ∃ n : Nat, n ≤ N ∧ j = .int .i64 (n : Int) ∧ s = .int .i64 (otS g m n : Nat) ∧ Below w.heap.size w wr) (fun _ j _ => N - (intOf j).toNat)
  case atStart => exact ⟨0, by omega, rfl, rfl, Below.refl _ _⟩
  case round =>
    obtain ⟨n, hn, rfl, rfl, hb⟩ := hrel
    rename World => wo
    have hSl := otS_le hg m n
    by_cases hlt : n < N
    · have hd : decide ((n : Int) < (N : Int)) = true := by simp; omega
      have hS := otS_succ g m n
      have hgn := hg (dgs n m)
      have htst := dgs_test n hm
      generalize otS g m n = s at *
      have HS := Lib.hid hS; clear hS
      go_wp2
      go_loopw [9, 10, 21] (fun q o j wr2 => ∃ k : Nat, k ≤ m ∧ j = .int .i64 (k : Int) ∧ q = .int .i64 ((n / 10 ^ k : Nat) : Int) ∧ wr2.ownsRow wo.heap.size 3 1 o (dgs n k).length (ints (dgs n k)) ∧ Below wo.heap.size wo wr2) (fun _ _ j _ => m - (intOf j).toNat)
      case atStart => exact ⟨0, by omega, rfl, by simp, World.ownsRow_nil _ _ _ _, Below.refl _ _⟩
      case round =>
        obtain ⟨k, hk, rfl, rfl, ho, hb2⟩ := hrel
        by_cases hlt2 : k < m
        · have hdd : decide ((k : Int) < (m : Int)) = true := by simp; omega
          have hl := dgs_len n k
          have hq : n / 10 ^ k ≤ 10000 := Nat.le_trans (Nat.div_le_self _ _) (by omega)
          have hs := (HD.out n k).1
          have hq2 := (HD.out n k).2
          generalize n / 10 ^ k = q at *
          generalize dgs n k = cur at *
          have HS3 := Lib.hid hs; have HQ := Lib.hid hq2; clear hs hq2
          have ht : ((q : Int) % 10) = ((q % 10 : Nat) : Int) := rfl
          have HT := Lib.hid ht; clear ht
          go_wp2_with (at_builtin; refine wpList_append_own_at _ rfl _ _ 35 rfl wo.heap.size 3 i (.int .i64 0) 1 8 Try.underlying35 hi hz0 hz1 hz2 rfl (by decide) _ cur.length (ints cur) rfl (ho.alloc _) ⟨wr.heap.size, 0, none⟩ 1 1 [.int .i64 ((q : Int) % 10)] rfl rfl (news_new _ [.int .i64 ((q : Int) % 10)] _) (by simp [Value.oneCell']) (by unfold maxLen; omega) (by omega) (by have := hb2.size; simp; omega) ?_)
          intro v' w3 ho5 hg5 _ _
          have hb7 : Below wo.heap.size wo w3 := (Below.alc hb2 _).grown hg5 (by have := hb2.size; simp; omega) (fun g hg => (ho.lt g hg).1)
          rw [HT.out] at ho5
          clear ho hb2 hg5
          go_wp2
          go_roundw
          case rel => exact ⟨k + 1, by omega, by go_num, by rw [HQ.out]; exact int_val (by omega), by rw [HS3.out]; exact ownsRow_cast ho5 (by simp; omega) (by simp), hb7⟩
          case measure => simp [intOf]; omega
        · obtain rfl : k = m := by omega
          go_wp2_with fail
          refine (hp _ _ _ (Ints.of_own ho) htst).mono ?_
          rintro e w3 ⟨rfl, hb3⟩
          have hb4 : Below w.heap.size w w3 := Below.chain hb (Below.chain hb2 hb3)
          go_wp2
          go_roundw
          case rel => exact ⟨n + 1, by omega, by go_num, by rw [HS.out]; exact int_val (by omega), hb4⟩
          case measure => simp [intOf]; omega
    · obtain rfl : n = N := by omega
      go_wp2
      exact bodyPost_ret (v := .tuple #[.int .i64 (otS g m n : Nat), .int .i64 ((n : Nat) : Int), .bool true]) (by simp [results, Try.results150, go_sem]) rfl ⟨by rw [HN.out], hb⟩
end Go.Proofs.Ytahpknjligaliaa
