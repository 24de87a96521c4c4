/- The walk of the law CountHarmless: for every int it returns true and turns nothing that was there. -/
import Derived.Test.YtahpknjligaliaaHarm
namespace Go.Proofs.Ytahpknjligaliaa
open Go.RowKit
set_option linter.unusedVariables false
set_option maxRecDepth 100000
theorem FnExactCountHarmless_walk (k : Int) (w : World) : Calls Try.prog 8 #[.int .i64 k] w fun e w' => e = .returned (.bool true) ∧ Below w.heap.size w w' := by
  go_enter Try.func8, Try.ntmps8
  go_wp2_with fail
  refine (sCountHarmless_c k _).mono ?_
  rintro e w1 ⟨rfl, hb1⟩
  unfold chV
  go_wp2_with fail
  refine (CountHarmless_c k _).mono ?_
  rintro e w2 ⟨rfl, hb2⟩
  unfold chV
  go_wp2
  go_ret
  exact ⟨rfl, Below.chain hb1 hb2⟩
end Go.Proofs.Ytahpknjligaliaa
