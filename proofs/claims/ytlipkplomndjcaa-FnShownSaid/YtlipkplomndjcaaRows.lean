/-
  No cell of these rows narrows 'for every input' (looked for: loops, veiled, ifaces, maps, wideKeys, modest, calm, conditions, laid).
  DERIVED. THE GIVEN ROWS OF THIS SEAT. 5 by the template 'for every input the law returns true; each argument reads behind the call as it read before'; 0 by the template 'total and deterministic' (their statements: YtlipkplomndjcaaTotals.lean).
  GIVEN WITH THE SEED: the statements are not yours to turn. If you find one false, say at which input.
  Laid BY PROGRAM, IN A SANDBOX (cutbox-rows.mjs): the forced cells as the released guide's own fill.sh prints them over the translation 5019373a96a6a1ef… (all of the seat's roots in one cut). By AI agents, Wed Nov 11 2026. No macro, syntax, notation, axiom, sorry.
-/
import Derived.Test.YtlipkplomndjcaaChecked
import GoSem.Claim
import GoSem.ClaimJoined
import GoSem.ClaimMapViews
import Derived.JoinedTies
import Derived.KernelRfl
namespace Go.Proofs.Ytlipkplomndjcaa
/- THE CELL 'sum', in the pinned program and in every row, IS THE sha256 OF THE DUMP (.gsa) THAT YtlipkplomndjcaaProg.lean LOADS. Nothing in Lean hashes anything: it is a label: what it is worth is what the hold of that sum in a sandbox is worth. -/
noncomputable def Try.pinned : Pinned := { name := "ytlipkplomndjcaa", sum := "5019373a96a6a1efa4c3cf19f1e310a0b10f2974d5deb8a2bd917ef6ef990a9d", checked := Try.checked }
namespace Rows
def none {H : Type} : Left H := { results := [], args := [] }

/-- 'laws.FnFaultsFound': WHATEVER THE INPUT: true; the input reads as it did. -/
def fnFaultsFoundSpec : ChangeSpec := { name := "fnFaultsFound", fn := fun _ => fun
  | [d] => { results := [.lit (.bool true)], args := [d] }
  | _ => none }
def fnFaultsFoundRow : OpenClaim := { program := "ytlipkplomndjcaa", sum := "5019373a96a6a1efa4c3cf19f1e310a0b10f2974d5deb8a2bd917ef6ef990a9d", func := "loop.example/g01265/laws.FnFaultsFound", spec := "fnFaultsFound", unfollowed := true, recurses := true, apart := false }
def FnFaultsFoundSaid : Prop := fnFaultsFoundRow.holds Try.pinned (OpenSpec.ofChange fnFaultsFoundSpec)

/-- ITS FALSE NEIGHBOUR: 'it returns false'. Refute it at one input. -/
def fnFaultsFoundWrong : ChangeSpec := { name := "fnFaultsFound", fn := fun _ => fun
  | [d] => { results := [.lit (.bool false)], args := [d] }
  | _ => none }
def FnFaultsFoundWrongFalsely : Prop := fnFaultsFoundRow.holds Try.pinned (OpenSpec.ofChange fnFaultsFoundWrong)

/-- 'laws.FnShown': WHATEVER THE INPUT: true; the input reads as it did. -/
def fnShownSpec : ChangeSpec := { name := "fnShown", fn := fun _ => fun
  | [d] => { results := [.lit (.bool true)], args := [d] }
  | _ => none }
def fnShownRow : OpenClaim := { program := "ytlipkplomndjcaa", sum := "5019373a96a6a1efa4c3cf19f1e310a0b10f2974d5deb8a2bd917ef6ef990a9d", func := "loop.example/g01265/laws.FnShown", spec := "fnShown", unfollowed := true, recurses := true, apart := false }
def FnShownSaid : Prop := fnShownRow.holds Try.pinned (OpenSpec.ofChange fnShownSpec)

/-- ITS FALSE NEIGHBOUR: 'it returns false'. Refute it at one input. -/
def fnShownWrong : ChangeSpec := { name := "fnShown", fn := fun _ => fun
  | [d] => { results := [.lit (.bool false)], args := [d] }
  | _ => none }
def FnShownWrongFalsely : Prop := fnShownRow.holds Try.pinned (OpenSpec.ofChange fnShownWrong)

/-- 'laws.FnTold': WHATEVER THE INPUT: true; the input reads as it did. -/
def fnToldSpec : ChangeSpec := { name := "fnTold", fn := fun _ => fun
  | [d] => { results := [.lit (.bool true)], args := [d] }
  | _ => none }
def fnToldRow : OpenClaim := { program := "ytlipkplomndjcaa", sum := "5019373a96a6a1efa4c3cf19f1e310a0b10f2974d5deb8a2bd917ef6ef990a9d", func := "loop.example/g01265/laws.FnTold", spec := "fnTold", unfollowed := true, recurses := true, apart := false }
def FnToldSaid : Prop := fnToldRow.holds Try.pinned (OpenSpec.ofChange fnToldSpec)

/-- ITS FALSE NEIGHBOUR: 'it returns false'. Refute it at one input. -/
def fnToldWrong : ChangeSpec := { name := "fnTold", fn := fun _ => fun
  | [d] => { results := [.lit (.bool false)], args := [d] }
  | _ => none }
def FnToldWrongFalsely : Prop := fnToldRow.holds Try.pinned (OpenSpec.ofChange fnToldWrong)

/-- 'laws.FnBenches': WHATEVER THE INPUT: true; the input reads as it did. -/
def fnBenchesSpec : ChangeSpec := { name := "fnBenches", fn := fun _ => fun
  | [d] => { results := [.lit (.bool true)], args := [d] }
  | _ => none }
def fnBenchesRow : OpenClaim := { program := "ytlipkplomndjcaa", sum := "5019373a96a6a1efa4c3cf19f1e310a0b10f2974d5deb8a2bd917ef6ef990a9d", func := "loop.example/g01265/laws.FnBenches", spec := "fnBenches", unfollowed := true, recurses := true, apart := false }
def FnBenchesSaid : Prop := fnBenchesRow.holds Try.pinned (OpenSpec.ofChange fnBenchesSpec)

/-- ITS FALSE NEIGHBOUR: 'it returns false'. Refute it at one input. -/
def fnBenchesWrong : ChangeSpec := { name := "fnBenches", fn := fun _ => fun
  | [d] => { results := [.lit (.bool false)], args := [d] }
  | _ => none }
def FnBenchesWrongFalsely : Prop := fnBenchesRow.holds Try.pinned (OpenSpec.ofChange fnBenchesWrong)

/-- 'laws.FnLeastTests': WHATEVER THE INPUT: true; the input reads as it did. -/
def fnLeastTestsSpec : ChangeSpec := { name := "fnLeastTests", fn := fun _ => fun
  | [d] => { results := [.lit (.bool true)], args := [d] }
  | _ => none }
def fnLeastTestsRow : OpenClaim := { program := "ytlipkplomndjcaa", sum := "5019373a96a6a1efa4c3cf19f1e310a0b10f2974d5deb8a2bd917ef6ef990a9d", func := "loop.example/g01265/laws.FnLeastTests", spec := "fnLeastTests", unfollowed := true, recurses := true, apart := false }
def FnLeastTestsSaid : Prop := fnLeastTestsRow.holds Try.pinned (OpenSpec.ofChange fnLeastTestsSpec)

/-- ITS FALSE NEIGHBOUR: 'it returns false'. Refute it at one input. -/
def fnLeastTestsWrong : ChangeSpec := { name := "fnLeastTests", fn := fun _ => fun
  | [d] => { results := [.lit (.bool false)], args := [d] }
  | _ => none }
def FnLeastTestsWrongFalsely : Prop := fnLeastTestsRow.holds Try.pinned (OpenSpec.ofChange fnLeastTestsWrong)

/- THE SECOND FORM. 'bulk': how many values and letters a reading holds, each counted each time it is reached (what is shared counts as often as it is met; a slice's spare places count too). A statement '..UptoSaid' is the law's where the arguments, and the package variables that the reading takes, are together of bulk at most 1048576: NARROWER than '..Said'. Prove '..Said' where nothing that the law and all that it calls make is longer than what came in: it says more and counts as full. Else prove '..UptoSaid'. A law counts once. -/
mutual
def uptoBulk {H : Type} : DataW H → Nat
  | .lit (.string bytes) => bytes.length + 1
  | .lit _ => 1
  | .nil => 1
  | .ptr d => uptoBulk d + 1
  | .slice elems spare => uptoBulkAll elems + uptoBulkAll spare + 1
  | .agg parts => uptoBulkAll parts + 1
  | .iface _ d => uptoBulk d + 1
  | .map entries => uptoBulkEntries entries + 1
  | .held _ => 1
def uptoBulkAll {H : Type} : List (DataW H) → Nat
  | [] => 0
  | d :: r => uptoBulk d + uptoBulkAll r
def uptoBulkEntries {H : Type} : List (Lit × DataW H) → Nat
  | [] => 0
  | x :: r => uptoBulkEntry x + uptoBulkEntries r
def uptoBulkEntry {H : Type} : Lit × DataW H → Nat
  | (.string bytes, d) => bytes.length + uptoBulk d + 1
  | (_, d) => uptoBulk d + 1
 end
def uptoSmall : (H : Type) → List (DataW H) → Bool := fun _ ds => decide (uptoBulkAll ds ≤ 1048576)
def OpenSpec.upto (s : _root_.Go.ChangeSpec) : _root_.Go.OpenSpec := { _root_.Go.OpenSpec.ofChange s with cond := some uptoSmall }

/-- 'laws.FnFaultsFound', WHERE WHAT IT READS IS OF BULK AT MOST 1048576: true; the input reads as it did. -/
def fnFaultsFoundUptoRow : OpenClaim := { program := "ytlipkplomndjcaa", sum := "5019373a96a6a1efa4c3cf19f1e310a0b10f2974d5deb8a2bd917ef6ef990a9d", func := "loop.example/g01265/laws.FnFaultsFound", spec := "fnFaultsFound", unfollowed := true, recurses := true, apart := false, narrowed := true }
def FnFaultsFoundUptoSaid : Prop := fnFaultsFoundUptoRow.holds Try.pinned (OpenSpec.upto fnFaultsFoundSpec)

/-- 'laws.FnShown', WHERE WHAT IT READS IS OF BULK AT MOST 1048576: true; the input reads as it did. -/
def fnShownUptoRow : OpenClaim := { program := "ytlipkplomndjcaa", sum := "5019373a96a6a1efa4c3cf19f1e310a0b10f2974d5deb8a2bd917ef6ef990a9d", func := "loop.example/g01265/laws.FnShown", spec := "fnShown", unfollowed := true, recurses := true, apart := false, narrowed := true }
def FnShownUptoSaid : Prop := fnShownUptoRow.holds Try.pinned (OpenSpec.upto fnShownSpec)

/-- 'laws.FnTold', WHERE WHAT IT READS IS OF BULK AT MOST 1048576: true; the input reads as it did. -/
def fnToldUptoRow : OpenClaim := { program := "ytlipkplomndjcaa", sum := "5019373a96a6a1efa4c3cf19f1e310a0b10f2974d5deb8a2bd917ef6ef990a9d", func := "loop.example/g01265/laws.FnTold", spec := "fnTold", unfollowed := true, recurses := true, apart := false, narrowed := true }
def FnToldUptoSaid : Prop := fnToldUptoRow.holds Try.pinned (OpenSpec.upto fnToldSpec)

/-- 'laws.FnBenches', WHERE WHAT IT READS IS OF BULK AT MOST 1048576: true; the input reads as it did. -/
def fnBenchesUptoRow : OpenClaim := { program := "ytlipkplomndjcaa", sum := "5019373a96a6a1efa4c3cf19f1e310a0b10f2974d5deb8a2bd917ef6ef990a9d", func := "loop.example/g01265/laws.FnBenches", spec := "fnBenches", unfollowed := true, recurses := true, apart := false, narrowed := true }
def FnBenchesUptoSaid : Prop := fnBenchesUptoRow.holds Try.pinned (OpenSpec.upto fnBenchesSpec)

/-- 'laws.FnLeastTests', WHERE WHAT IT READS IS OF BULK AT MOST 1048576: true; the input reads as it did. -/
def fnLeastTestsUptoRow : OpenClaim := { program := "ytlipkplomndjcaa", sum := "5019373a96a6a1efa4c3cf19f1e310a0b10f2974d5deb8a2bd917ef6ef990a9d", func := "loop.example/g01265/laws.FnLeastTests", spec := "fnLeastTests", unfollowed := true, recurses := true, apart := false, narrowed := true }
def FnLeastTestsUptoSaid : Prop := fnLeastTestsUptoRow.holds Try.pinned (OpenSpec.upto fnLeastTestsSpec)

end Rows
end Go.Proofs.Ytlipkplomndjcaa
