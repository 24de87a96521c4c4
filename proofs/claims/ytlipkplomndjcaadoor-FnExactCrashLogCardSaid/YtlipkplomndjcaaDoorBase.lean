/- Walks of the small functions on cells, digits and faults: each returns what its plain function says. -/
import Derived.Test.YtlipkplomndjcaaDoorProg
import Derived.Test.YtlipkplomndjcaaDoorLib
import Derived.Test.YtlipkplomndjcaaDoorPure
namespace Go.Proofs.YtlipkplomndjcaaDoor
open Go.RowKit
set_option linter.unusedVariables false

theorem within_c (n lo hi : Int) (w : World) : Calls Tryd.prog 35 #[.int .i64 n, .int .i64 lo, .int .i64 hi] w fun e w' => e = .returned (.bool (inB n lo hi)) ∧ w = w' := by
  go_enter Tryd.func35, Tryd.ntmps35
  go_wp2
  all_goals (go_ret; exact ⟨bool_ret (by simp [inB, *]; try omega), rfl⟩)
theorem l1In_c (n lo hi : Int) (w : World) : Calls Tryd.prog 34 #[.int .i64 n, .int .i64 lo, .int .i64 hi] w fun e w' => e = .returned (.bool (inB n lo hi)) ∧ w = w' := by
  go_enter Tryd.func34, Tryd.ntmps34
  go_wp2
  all_goals (go_ret; exact ⟨bool_ret (by simp [inB, *]; try omega), rfl⟩)

/-- the ten cells as a value -/
def digA : Value := .agg #[.int .i64 63, .int .i64 6, .int .i64 91, .int .i64 79, .int .i64 102, .int .i64 109, .int .i64 125, .int .i64 7, .int .i64 127, .int .i64 111]
end Go.Proofs.YtlipkplomndjcaaDoor
