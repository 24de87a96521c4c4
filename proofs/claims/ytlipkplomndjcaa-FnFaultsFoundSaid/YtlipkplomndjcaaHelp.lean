/- Walks of the laws' helpers over slices of ints: a copy, an equality test, marks written and held. -/
import Derived.Test.YtlipkplomndjcaaBase
namespace Go.Proofs.Ytlipkplomndjcaa
open Go.RowKit
set_option linter.unusedVariables false

theorem info_int : (Try.prog.info? 3).map (fun i => (i.zero, i.size, i.bytes)) = some (some (.int .i64 0), 1, 8) := by kernel_rfl
def seqI (k : Int) (n : Nat) : List Int := (List.range n).map fun (i : Nat) => k + (i : Int)
theorem seqI_length (k : Int) (n : Nat) : (seqI k n).length = n := by simp [seqI]
theorem seqI_at {k : Int} {n j : Nat} (h : j < n) : (seqI k n)[j]? = some (k + j) := by simp [seqI, h]



end Go.Proofs.Ytlipkplomndjcaa
