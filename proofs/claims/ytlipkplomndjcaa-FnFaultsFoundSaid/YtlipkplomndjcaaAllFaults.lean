/- The walk of the list of all faults, in order of the dark bars, and then of the lit ones. -/
import Derived.Test.YtlipkplomndjcaaToFaults
import Derived.Test.YtlipkplomndjcaaBase
namespace Go.Proofs.Ytlipkplomndjcaa
open Go.RowKit
set_option linter.unusedVariables false
set_option maxRecDepth 100000
def freeB (d l : Nat) : Bool := (d &&& l) == 0
/-- the faults of the dark bars d and lit bars below n that are as q tells -/
def rowF (q : Int × Int → Bool) (d n : Nat) : List (Int × Int) := ((List.range n).filter fun (l : Nat) => freeB d l && q ((d : Int), (l : Int))).map fun (l : Nat) => ((d : Int), (l : Int))
def colF (q : Int × Int → Bool) (d : Nat) : List (Int × Int) := (List.range d).flatMap fun e => rowF q e 128
def faultsTo (q : Int × Int → Bool) (d n : Nat) : List (Int × Int) := colF q d ++ rowF q d n
def allF (q : Int × Int → Bool) : List (Int × Int) := colF q 128
theorem rowF_succ (q : Int × Int → Bool) (d n : Nat) : rowF q d (n + 1) = rowF q d n ++ if freeB d n && q ((d : Int), (n : Int)) then [((d : Int), (n : Int))] else [] := by
  unfold rowF
  rw [List.range_succ, List.filter_append, List.map_append]
  cases h : (freeB d n && q ((d : Int), (n : Int))) <;> simp [h]
theorem rowF_le (q : Int × Int → Bool) (d n : Nat) : (rowF q d n).length ≤ n := by
  unfold rowF
  rw [List.length_map]
  exact Nat.le_trans (List.length_filter_le _ _) (by simp)
theorem colF_succ (q : Int × Int → Bool) (d : Nat) : colF q (d + 1) = colF q d ++ rowF q d 128 := by
  unfold colF; rw [List.range_succ, List.flatMap_append]; simp
theorem colF_le (q : Int × Int → Bool) (d : Nat) : (colF q d).length ≤ d * 128 := by
  induction d with
  | zero => simp [colF]
  | succ d ih => rw [colF_succ, List.length_append]; have := rowF_le q d 128; omega
theorem faultsTo_zero (q : Int × Int → Bool) (d : Nat) : faultsTo q d 0 = colF q d := by simp [faultsTo, rowF]
theorem faultsTo_full (q : Int × Int → Bool) (d : Nat) : faultsTo q d 128 = colF q (d + 1) := by rw [colF_succ]; rfl
theorem faultsTo_succ (q : Int × Int → Bool) (d n : Nat) : faultsTo q d (n + 1) = faultsTo q d n ++ if freeB d n && q ((d : Int), (n : Int)) then [((d : Int), (n : Int))] else [] := by
  unfold faultsTo; rw [rowF_succ, List.append_assoc]
theorem faultsTo_le (q : Int × Int → Bool) {d n : Nat} (hd : d ≤ 127) (hn : n ≤ 128) : (faultsTo q d n).length ≤ 16384 := by
  unfold faultsTo; rw [List.length_append]; have := colF_le q d; have := rowF_le q d n; omega
theorem allF_le (q : Int × Int → Bool) : (allF q).length ≤ 16384 := colF_le q 128
theorem free_bits {d l : Nat} (hd : d ≤ 127) (hl : l ≤ 127) : (bits .and .i64 (d : Int) (l : Int) == 0) = freeB d l := by
  rw [i64_and_nat d l (by omega) (by omega)]
  unfold freeB
  rw [Bool.eq_iff_iff]; simp
theorem allFaults_c (w : World) : Calls Try.prog 89 #[] w fun e w' => ∃ u, e = .returned u ∧ w'.ownsRow w.heap.size 42 2 u (allF fun _ => true).length (flat2 (allF fun _ => true)) ∧ Below w.heap.size w w' := by
  obtain ⟨i, hi, hz0, hz1, hz2⟩ := info_parts info_Fault
  go_enter Try.func89, Try.ntmps89
  go_wp2
  go_loopw [1, 2, 3, 4] (fun o _ _ j wr => ∃ d : Nat, d ≤ 128 ∧ j = .int .i64 (d : Int) ∧ wr.ownsRow w.heap.size 42 2 o (colF (fun _ => true) d).length (flat2 (colF (fun _ => true) d)) ∧ Below w.heap.size w wr) (fun _ _ _ j _ => 129 - (intOf j).toNat)
  case atStart => exact ⟨0, by omega, rfl, World.ownsRow_nil _ _ _ _, Below.refl _ _⟩
  case round =>
    obtain ⟨d, hd, rfl, ho, hb⟩ := hrel
    by_cases hlt : d < 128
    · have hdd : decide ((d : Int) < 128) = true := by simp; omega
      rw [← faultsTo_zero] at ho
      go_wp2
      go_loopw [1, 3, 7] (fun o _ j wr => ∃ n : Nat, n ≤ 128 ∧ j = .int .i64 (n : Int) ∧ wr.ownsRow w.heap.size 42 2 o (faultsTo (fun _ => true) d n).length (flat2 (faultsTo (fun _ => true) d n)) ∧ Below w.heap.size w wr) (fun _ _ j _ => 129 - (intOf j).toNat)
      case atStart => exact ⟨0, by omega, rfl, ho, hb⟩
      case round =>
        obtain ⟨n, hn, rfl, ho2, hb2⟩ := hrel
        clear ho hb
        by_cases hlt2 : n < 128
        · have hdn : decide ((n : Int) < 128) = true := by simp; omega
          have hfb := free_bits (d := d) (l := n) (by omega) (by omega)
          have hsc := faultsTo_succ (fun _ => true) d n
          have hle := faultsTo_le (fun _ => true) (d := d) (n := n) (by omega) (by omega)
          generalize faultsTo (fun _ => true) d n = cur at *
          have HS := Lib.hid hsc; clear hsc
          rcases hq : freeB d n with _ | _
          · rw [hq] at hfb
            have hS2 : faultsTo (fun _ => true) d (n + 1) = cur := by rw [HS.out]; simp [hq]
            have HS2 := Lib.hid hS2; clear hS2 HS hq
            go_wp2
            go_roundw
            case rel => exact ⟨n + 1, by omega, by go_num, by rw [HS2.out]; exact ho2, hb2⟩
            case measure => simp [intOf]; omega
          · rw [hq] at hfb
            have hS2 : faultsTo (fun _ => true) d (n + 1) = cur ++ [((d : Int), (n : Int))] := by rw [HS.out]; simp [hq]
            have HS2 := Lib.hid hS2; clear hS2 HS hq
            go_wp2_with (at_builtin; refine wpList_append_own_at _ rfl _ _ 27 rfl w.heap.size 42 i (.agg #[.int .i64 0, .int .i64 0]) 2 16 Try.underlying27 hi hz0 hz1 hz2 rfl (by decide) _ cur.length (flat2 cur) rfl (ho2.alloc _) ⟨wr.heap.size, 0, none⟩ 1 1 [.int .i64 d, .int .i64 n] rfl rfl (news_new _ [.int .i64 d, .int .i64 n] _) (by simp [Value.oneCell']) (by unfold maxLen; omega) (by omega) (by have := hb2.size; simp; omega) ?_)
            intro v' w3 ho5 hg5 _ _
            have hb7 : Below w.heap.size w w3 := (Below.alc hb2 _).grown hg5 (by have := hb2.size; simp; omega) (fun g hg => (ho2.lt g hg).1)
            clear ho2 hb2 hg5
            go_wp2
            go_roundw
            case rel => exact ⟨n + 1, by omega, by go_num, by rw [HS2.out]; exact ownsRow_cast ho5 (by simp) (flat2_snoc _ _ _).symm, hb7⟩
            case measure => simp [intOf]; omega
        · obtain rfl : n = 128 := by omega
          rw [faultsTo_full] at ho2
          go_wp2
          go_roundw
          case rel => exact ⟨d + 1, by omega, by go_num, ho2, hb2⟩
          case measure => simp [intOf]; omega
    · obtain rfl : d = 128 := by omega
      go_wp2
      go_ret
      exact ⟨_, rfl, ho, hb⟩
end Go.Proofs.Ytlipkplomndjcaa
