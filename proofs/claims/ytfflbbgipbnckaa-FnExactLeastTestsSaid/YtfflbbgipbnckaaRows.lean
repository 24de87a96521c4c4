/-
  No cell of these rows narrows 'for every input' (looked for: loops, veiled, ifaces, maps, wideKeys, modest, calm, conditions, laid).
  DERIVED. THE GIVEN ROWS OF THIS SEAT. 5 by the template 'for every input the law returns true; each argument reads behind the call as it read before'; 0 by the template 'total and deterministic' (their statements: YtfflbbgipbnckaaTotals.lean).
  GIVEN WITH THE SEED: the statements are not yours to turn. If you find one false, say at which input.
  Laid BY PROGRAM, IN A SANDBOX (cutbox-rows.mjs): the forced cells as the released guide's own fill.sh prints them over the translation 52efee9dabf11e87… (all of the seat's roots in one cut). By AI agents, Wed Nov 11 2026. No macro, syntax, notation, axiom, sorry.
-/
import Derived.Test.YtfflbbgipbnckaaChecked
import GoSem.Claim
import GoSem.ClaimJoined
import GoSem.ClaimMapViews
import Derived.JoinedTies
import Derived.KernelRfl
namespace Go.Proofs.Ytfflbbgipbnckaa
/- THE CELL 'sum', in the pinned program and in every row, IS THE sha256 OF THE DUMP (.gsa) THAT YtfflbbgipbnckaaProg.lean LOADS. Nothing in Lean hashes anything: it is a label: what it is worth is what the hold of that sum in a sandbox is worth. -/
noncomputable def Try.pinned : Pinned := { name := "ytfflbbgipbnckaa", sum := "52efee9dabf11e876413cc07ebc9da2d645a6db5b9d8cefa0c0d6f5d96207dd9", checked := Try.checked }
namespace Rows
def none {H : Type} : Left H := { results := [], args := [] }

/-- 'laws.FnExactIsLeastTest': WHATEVER THE INPUT: true; the input reads as it did. -/
def fnExactIsLeastTestSpec : ChangeSpec := { name := "fnExactIsLeastTest", fn := fun _ => fun
  | [d] => { results := [.lit (.bool true)], args := [d] }
  | _ => none }
def fnExactIsLeastTestRow : OpenClaim := { program := "ytfflbbgipbnckaa", sum := "52efee9dabf11e876413cc07ebc9da2d645a6db5b9d8cefa0c0d6f5d96207dd9", func := "loop.example/g01265/laws.FnExactIsLeastTest", spec := "fnExactIsLeastTest", unfollowed := true, recurses := true, apart := false }
def FnExactIsLeastTestSaid : Prop := fnExactIsLeastTestRow.holds Try.pinned (OpenSpec.ofChange fnExactIsLeastTestSpec)

/-- ITS FALSE NEIGHBOUR: 'it returns false'. Refute it at one input. -/
def fnExactIsLeastTestWrong : ChangeSpec := { name := "fnExactIsLeastTest", fn := fun _ => fun
  | [d] => { results := [.lit (.bool false)], args := [d] }
  | _ => none }
def FnExactIsLeastTestWrongFalsely : Prop := fnExactIsLeastTestRow.holds Try.pinned (OpenSpec.ofChange fnExactIsLeastTestWrong)

/-- 'laws.FnExactShortestTest': WHATEVER THE INPUT: true; the input reads as it did. -/
def fnExactShortestTestSpec : ChangeSpec := { name := "fnExactShortestTest", fn := fun _ => fun
  | [d] => { results := [.lit (.bool true)], args := [d] }
  | _ => none }
def fnExactShortestTestRow : OpenClaim := { program := "ytfflbbgipbnckaa", sum := "52efee9dabf11e876413cc07ebc9da2d645a6db5b9d8cefa0c0d6f5d96207dd9", func := "loop.example/g01265/laws.FnExactShortestTest", spec := "fnExactShortestTest", unfollowed := true, recurses := true, apart := false }
def FnExactShortestTestSaid : Prop := fnExactShortestTestRow.holds Try.pinned (OpenSpec.ofChange fnExactShortestTestSpec)

/-- ITS FALSE NEIGHBOUR: 'it returns false'. Refute it at one input. -/
def fnExactShortestTestWrong : ChangeSpec := { name := "fnExactShortestTest", fn := fun _ => fun
  | [d] => { results := [.lit (.bool false)], args := [d] }
  | _ => none }
def FnExactShortestTestWrongFalsely : Prop := fnExactShortestTestRow.holds Try.pinned (OpenSpec.ofChange fnExactShortestTestWrong)

/-- 'laws.FnExactLeastTests': WHATEVER THE INPUT: true; the input reads as it did. -/
def fnExactLeastTestsSpec : ChangeSpec := { name := "fnExactLeastTests", fn := fun _ => fun
  | [] => { results := [.lit (.bool true)], args := [] }
  | _ => none }
def fnExactLeastTestsRow : OpenClaim := { program := "ytfflbbgipbnckaa", sum := "52efee9dabf11e876413cc07ebc9da2d645a6db5b9d8cefa0c0d6f5d96207dd9", func := "loop.example/g01265/laws.FnExactLeastTests", spec := "fnExactLeastTests", unfollowed := true, recurses := true, apart := false }
def FnExactLeastTestsSaid : Prop := fnExactLeastTestsRow.holds Try.pinned (OpenSpec.ofChange fnExactLeastTestsSpec)

/-- ITS FALSE NEIGHBOUR: 'it returns false'. Refute it at one input. -/
def fnExactLeastTestsWrong : ChangeSpec := { name := "fnExactLeastTests", fn := fun _ => fun
  | [] => { results := [.lit (.bool false)], args := [] }
  | _ => none }
def FnExactLeastTestsWrongFalsely : Prop := fnExactLeastTestsRow.holds Try.pinned (OpenSpec.ofChange fnExactLeastTestsWrong)

/-- 'laws.FnExactDoJob': WHATEVER THE INPUT: true; the input reads as it did. -/
def fnExactDoJobSpec : ChangeSpec := { name := "fnExactDoJob", fn := fun _ => fun
  | [d1, d2] => { results := [.lit (.bool true)], args := [d1, d2] }
  | _ => none }
def fnExactDoJobRow : OpenClaim := { program := "ytfflbbgipbnckaa", sum := "52efee9dabf11e876413cc07ebc9da2d645a6db5b9d8cefa0c0d6f5d96207dd9", func := "loop.example/g01265/laws.FnExactDoJob", spec := "fnExactDoJob", unfollowed := true, recurses := true, apart := false }
def FnExactDoJobSaid : Prop := fnExactDoJobRow.holds Try.pinned (OpenSpec.ofChange fnExactDoJobSpec)

/-- ITS FALSE NEIGHBOUR: 'it returns false'. Refute it at one input. -/
def fnExactDoJobWrong : ChangeSpec := { name := "fnExactDoJob", fn := fun _ => fun
  | [d1, d2] => { results := [.lit (.bool false)], args := [d1, d2] }
  | _ => none }
def FnExactDoJobWrongFalsely : Prop := fnExactDoJobRow.holds Try.pinned (OpenSpec.ofChange fnExactDoJobWrong)

/-- 'laws.FnExactDoJobs': WHATEVER THE INPUT: true; the input reads as it did. -/
def fnExactDoJobsSpec : ChangeSpec := { name := "fnExactDoJobs", fn := fun _ => fun
  | [d1, d2] => { results := [.lit (.bool true)], args := [d1, d2] }
  | _ => none }
def fnExactDoJobsRow : OpenClaim := { program := "ytfflbbgipbnckaa", sum := "52efee9dabf11e876413cc07ebc9da2d645a6db5b9d8cefa0c0d6f5d96207dd9", func := "loop.example/g01265/laws.FnExactDoJobs", spec := "fnExactDoJobs", unfollowed := true, recurses := true, apart := false }
def FnExactDoJobsSaid : Prop := fnExactDoJobsRow.holds Try.pinned (OpenSpec.ofChange fnExactDoJobsSpec)

/-- ITS FALSE NEIGHBOUR: 'it returns false'. Refute it at one input. -/
def fnExactDoJobsWrong : ChangeSpec := { name := "fnExactDoJobs", fn := fun _ => fun
  | [d1, d2] => { results := [.lit (.bool false)], args := [d1, d2] }
  | _ => none }
def FnExactDoJobsWrongFalsely : Prop := fnExactDoJobsRow.holds Try.pinned (OpenSpec.ofChange fnExactDoJobsWrong)

/- THE SECOND FORM. 'bulk': how many values and letters a reading holds, each counted each time it is reached (what is shared counts as often as it is met; a slice's spare places count too). A statement '..UptoSaid' is the law's where the arguments, and the package variables that the reading takes, are together of bulk at most 1048576: NARROWER than '..Said'. Prove '..Said' where nothing that the law and all that it calls make is longer than what came in: it says more and counts as full. Else prove '..UptoSaid'. A law counts once. -/
mutual
def uptoBulk {H : Type} : DataW H → Nat
  | .lit (.string bytes) => bytes.length + 1
  | .lit _ => 1
  | .nil => 1
  | .ptr d => uptoBulk d + 1
  | .slice elems spare => uptoBulkAll elems + uptoBulkAll spare + 1
  | .agg parts => uptoBulkAll parts + 1
  | .iface _ d => uptoBulk d + 1
  | .map entries => uptoBulkEntries entries + 1
  | .held _ => 1
def uptoBulkAll {H : Type} : List (DataW H) → Nat
  | [] => 0
  | d :: r => uptoBulk d + uptoBulkAll r
def uptoBulkEntries {H : Type} : List (Lit × DataW H) → Nat
  | [] => 0
  | x :: r => uptoBulkEntry x + uptoBulkEntries r
def uptoBulkEntry {H : Type} : Lit × DataW H → Nat
  | (.string bytes, d) => bytes.length + uptoBulk d + 1
  | (_, d) => uptoBulk d + 1
 end
def uptoSmall : (H : Type) → List (DataW H) → Bool := fun _ ds => decide (uptoBulkAll ds ≤ 1048576)
def OpenSpec.upto (s : _root_.Go.ChangeSpec) : _root_.Go.OpenSpec := { _root_.Go.OpenSpec.ofChange s with cond := some uptoSmall }

/-- 'laws.FnExactIsLeastTest', WHERE WHAT IT READS IS OF BULK AT MOST 1048576: true; the input reads as it did. -/
def fnExactIsLeastTestUptoRow : OpenClaim := { program := "ytfflbbgipbnckaa", sum := "52efee9dabf11e876413cc07ebc9da2d645a6db5b9d8cefa0c0d6f5d96207dd9", func := "loop.example/g01265/laws.FnExactIsLeastTest", spec := "fnExactIsLeastTest", unfollowed := true, recurses := true, apart := false, narrowed := true }
def FnExactIsLeastTestUptoSaid : Prop := fnExactIsLeastTestUptoRow.holds Try.pinned (OpenSpec.upto fnExactIsLeastTestSpec)

/-- 'laws.FnExactShortestTest', WHERE WHAT IT READS IS OF BULK AT MOST 1048576: true; the input reads as it did. -/
def fnExactShortestTestUptoRow : OpenClaim := { program := "ytfflbbgipbnckaa", sum := "52efee9dabf11e876413cc07ebc9da2d645a6db5b9d8cefa0c0d6f5d96207dd9", func := "loop.example/g01265/laws.FnExactShortestTest", spec := "fnExactShortestTest", unfollowed := true, recurses := true, apart := false, narrowed := true }
def FnExactShortestTestUptoSaid : Prop := fnExactShortestTestUptoRow.holds Try.pinned (OpenSpec.upto fnExactShortestTestSpec)

/-- 'laws.FnExactLeastTests', WHERE WHAT IT READS IS OF BULK AT MOST 1048576: true; the input reads as it did. -/
def fnExactLeastTestsUptoRow : OpenClaim := { program := "ytfflbbgipbnckaa", sum := "52efee9dabf11e876413cc07ebc9da2d645a6db5b9d8cefa0c0d6f5d96207dd9", func := "loop.example/g01265/laws.FnExactLeastTests", spec := "fnExactLeastTests", unfollowed := true, recurses := true, apart := false, narrowed := true }
def FnExactLeastTestsUptoSaid : Prop := fnExactLeastTestsUptoRow.holds Try.pinned (OpenSpec.upto fnExactLeastTestsSpec)

/-- 'laws.FnExactDoJob', WHERE WHAT IT READS IS OF BULK AT MOST 1048576: true; the input reads as it did. -/
def fnExactDoJobUptoRow : OpenClaim := { program := "ytfflbbgipbnckaa", sum := "52efee9dabf11e876413cc07ebc9da2d645a6db5b9d8cefa0c0d6f5d96207dd9", func := "loop.example/g01265/laws.FnExactDoJob", spec := "fnExactDoJob", unfollowed := true, recurses := true, apart := false, narrowed := true }
def FnExactDoJobUptoSaid : Prop := fnExactDoJobUptoRow.holds Try.pinned (OpenSpec.upto fnExactDoJobSpec)

/-- 'laws.FnExactDoJobs', WHERE WHAT IT READS IS OF BULK AT MOST 1048576: true; the input reads as it did. -/
def fnExactDoJobsUptoRow : OpenClaim := { program := "ytfflbbgipbnckaa", sum := "52efee9dabf11e876413cc07ebc9da2d645a6db5b9d8cefa0c0d6f5d96207dd9", func := "loop.example/g01265/laws.FnExactDoJobs", spec := "fnExactDoJobs", unfollowed := true, recurses := true, apart := false, narrowed := true }
def FnExactDoJobsUptoSaid : Prop := fnExactDoJobsUptoRow.holds Try.pinned (OpenSpec.upto fnExactDoJobsSpec)

end Rows
end Go.Proofs.Ytfflbbgipbnckaa
