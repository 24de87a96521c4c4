/- Walks of the sums over the sets of dark bars. -/
import Derived.Test.YtlipkplomndjcaaGroups
import Derived.Test.YtlipkplomndjcaaOnes
import Derived.Test.YtlipkplomndjcaaFrac
import Derived.Test.YtlipkplomndjcaaAll
namespace Go.Proofs.Ytlipkplomndjcaa
open Go.RowKit
set_option linter.unusedVariables false
set_option maxRecDepth 100000
def dkS (g : Nat → Nat) (k : Int) (n : Nat) : Nat := (((List.range n).filter fun d : Nat => cnt (d : Int) == k).map g).sum
def dkM (k : Int) (n : Nat) : Nat := ((List.range n).filter fun d : Nat => cnt (d : Int) == k).length
theorem dkS_succ (g : Nat → Nat) (k : Int) (n : Nat) : dkS g k (n + 1) = dkS g k n + if cnt (n : Int) == k then g n else 0 := by
  unfold dkS
  rw [List.range_succ, List.filter_append, List.map_append, List.sum_append]
  cases h : cnt (n : Int) == k <;> simp [h]
theorem dkM_succ (k : Int) (n : Nat) : dkM k (n + 1) = dkM k n + if cnt (n : Int) == k then 1 else 0 := by
  unfold dkM
  rw [List.range_succ, List.filter_append, List.length_append]
  cases h : cnt (n : Int) == k <;> simp [h]
theorem dkM_le (k : Int) (n : Nat) : dkM k n ≤ n := by
  unfold dkM; exact Nat.le_trans (List.length_filter_le _ _) (by simp)
theorem dkS_le {g : Nat → Nat} (hg : ∀ d, g d ≤ 10) (k : Int) (n : Nat) : dkS g k n ≤ 10 * n := by
  induction n with
  | zero => simp [dkS]
  | succ n ih => rw [dkS_succ]; have := hg n; split <;> omega
theorem dkM_pos : ∀ k : Fin 8, 0 < dkM (k.1 : Int) 128 := by decide +kernel
end Go.Proofs.Ytlipkplomndjcaa
