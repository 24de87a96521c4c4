/- Walks of the fractions without a common divisor. -/
import Derived.Test.YtlipkplomndjcaaState
namespace Go.Proofs.Ytlipkplomndjcaa
open Go.RowKit
set_option linter.unusedVariables false
set_option maxRecDepth 100000
def fracN (a b : Nat) : Int := ((a / Nat.gcd a b : Nat) : Int)
def fracD (a b : Nat) : Int := ((b / Nat.gcd a b : Nat) : Int)
def fracV (a b : Nat) : Value := .agg #[.int .i64 (fracN a b), .int .i64 (fracD a b)]
theorem wrapK (n : Int) : IntKind.i64.wrap n = wrap64 n := by
  simp only [IntKind.wrap, IntKind.bits, IntKind.signed, wrap64]; simp; split <;> omega
end Go.Proofs.Ytlipkplomndjcaa
