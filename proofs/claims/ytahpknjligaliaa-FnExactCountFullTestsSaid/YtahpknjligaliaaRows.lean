/-
  No cell of these rows narrows 'for every input' (looked for: loops, veiled, ifaces, maps, wideKeys, modest, calm, conditions, laid).
  DERIVED. THE GIVEN ROWS OF THIS SEAT. 23 by the template 'for every input the law returns true; each argument reads behind the call as it read before'; 0 by the template 'total and deterministic' (their statements: YtahpknjligaliaaTotals.lean).
  GIVEN WITH THE SEED: the statements are not yours to turn. If you find one false, say at which input.
  Laid BY PROGRAM, IN A SANDBOX (cutbox-rows.mjs): the forced cells as the released guide's own fill.sh prints them over the translation 5faf52f17a9d66fe… (all of the seat's roots in one cut). By AI agents, Wed Nov 11 2026. No macro, syntax, notation, axiom, sorry.
-/
import Derived.Test.YtahpknjligaliaaChecked
import GoSem.Claim
import GoSem.ClaimJoined
import GoSem.ClaimMapViews
import Derived.JoinedTies
import Derived.KernelRfl
namespace Go.Proofs.Ytahpknjligaliaa
/- THE CELL 'sum', in the pinned program and in every row, IS THE sha256 OF THE DUMP (.gsa) THAT YtahpknjligaliaaProg.lean LOADS. Nothing in Lean hashes anything: it is a label: what it is worth is what the hold of that sum in a sandbox is worth. -/
noncomputable def Try.pinned : Pinned := { name := "ytahpknjligaliaa", sum := "5faf52f17a9d66fe693adf580a6a4f3b510f638a729b47c5f37b7435aa411e67", checked := Try.checked }
namespace Rows
def none {H : Type} : Left H := { results := [], args := [] }

/-- 'laws.FnExactNewConsole': WHATEVER THE INPUT: true; the input reads as it did. -/
def fnExactNewConsoleSpec : ChangeSpec := { name := "fnExactNewConsole", fn := fun _ => fun
  | [d] => { results := [.lit (.bool true)], args := [d] }
  | _ => none }
def fnExactNewConsoleRow : OpenClaim := { program := "ytahpknjligaliaa", sum := "5faf52f17a9d66fe693adf580a6a4f3b510f638a729b47c5f37b7435aa411e67", func := "loop.example/g01265/laws.FnExactNewConsole", spec := "fnExactNewConsole", unfollowed := true, recurses := true, apart := false }
def FnExactNewConsoleSaid : Prop := fnExactNewConsoleRow.holds Try.pinned (OpenSpec.ofChange fnExactNewConsoleSpec)

/-- ITS FALSE NEIGHBOUR: 'it returns false'. Refute it at one input. -/
def fnExactNewConsoleWrong : ChangeSpec := { name := "fnExactNewConsole", fn := fun _ => fun
  | [d] => { results := [.lit (.bool false)], args := [d] }
  | _ => none }
def FnExactNewConsoleWrongFalsely : Prop := fnExactNewConsoleRow.holds Try.pinned (OpenSpec.ofChange fnExactNewConsoleWrong)

/-- 'laws.FnExactFirstFinding': WHATEVER THE INPUT: true; the input reads as it did. -/
def fnExactFirstFindingSpec : ChangeSpec := { name := "fnExactFirstFinding", fn := fun _ => fun
  | [d1, d2] => { results := [.lit (.bool true)], args := [d1, d2] }
  | _ => none }
def fnExactFirstFindingRow : OpenClaim := { program := "ytahpknjligaliaa", sum := "5faf52f17a9d66fe693adf580a6a4f3b510f638a729b47c5f37b7435aa411e67", func := "loop.example/g01265/laws.FnExactFirstFinding", spec := "fnExactFirstFinding", unfollowed := true, recurses := true, apart := false }
def FnExactFirstFindingSaid : Prop := fnExactFirstFindingRow.holds Try.pinned (OpenSpec.ofChange fnExactFirstFindingSpec)

/-- ITS FALSE NEIGHBOUR: 'it returns false'. Refute it at one input. -/
def fnExactFirstFindingWrong : ChangeSpec := { name := "fnExactFirstFinding", fn := fun _ => fun
  | [d1, d2] => { results := [.lit (.bool false)], args := [d1, d2] }
  | _ => none }
def FnExactFirstFindingWrongFalsely : Prop := fnExactFirstFindingRow.holds Try.pinned (OpenSpec.ofChange fnExactFirstFindingWrong)

/-- 'laws.FnExactBenchRow': WHATEVER THE INPUT: true; the input reads as it did. -/
def fnExactBenchRowSpec : ChangeSpec := { name := "fnExactBenchRow", fn := fun _ => fun
  | [d] => { results := [.lit (.bool true)], args := [d] }
  | _ => none }
def fnExactBenchRowRow : OpenClaim := { program := "ytahpknjligaliaa", sum := "5faf52f17a9d66fe693adf580a6a4f3b510f638a729b47c5f37b7435aa411e67", func := "loop.example/g01265/laws.FnExactBenchRow", spec := "fnExactBenchRow", unfollowed := true, recurses := true, apart := false }
def FnExactBenchRowSaid : Prop := fnExactBenchRowRow.holds Try.pinned (OpenSpec.ofChange fnExactBenchRowSpec)

/-- ITS FALSE NEIGHBOUR: 'it returns false'. Refute it at one input. -/
def fnExactBenchRowWrong : ChangeSpec := { name := "fnExactBenchRow", fn := fun _ => fun
  | [d] => { results := [.lit (.bool false)], args := [d] }
  | _ => none }
def FnExactBenchRowWrongFalsely : Prop := fnExactBenchRowRow.holds Try.pinned (OpenSpec.ofChange fnExactBenchRowWrong)

/-- 'laws.FnExactSentRow': WHATEVER THE INPUT: true; the input reads as it did. -/
def fnExactSentRowSpec : ChangeSpec := { name := "fnExactSentRow", fn := fun _ => fun
  | [d] => { results := [.lit (.bool true)], args := [d] }
  | _ => none }
def fnExactSentRowRow : OpenClaim := { program := "ytahpknjligaliaa", sum := "5faf52f17a9d66fe693adf580a6a4f3b510f638a729b47c5f37b7435aa411e67", func := "loop.example/g01265/laws.FnExactSentRow", spec := "fnExactSentRow", unfollowed := true, recurses := true, apart := false }
def FnExactSentRowSaid : Prop := fnExactSentRowRow.holds Try.pinned (OpenSpec.ofChange fnExactSentRowSpec)

/-- ITS FALSE NEIGHBOUR: 'it returns false'. Refute it at one input. -/
def fnExactSentRowWrong : ChangeSpec := { name := "fnExactSentRow", fn := fun _ => fun
  | [d] => { results := [.lit (.bool false)], args := [d] }
  | _ => none }
def FnExactSentRowWrongFalsely : Prop := fnExactSentRowRow.holds Try.pinned (OpenSpec.ofChange fnExactSentRowWrong)

/-- 'laws.FnExactIsFullTest': WHATEVER THE INPUT: true; the input reads as it did. -/
def fnExactIsFullTestSpec : ChangeSpec := { name := "fnExactIsFullTest", fn := fun _ => fun
  | [d] => { results := [.lit (.bool true)], args := [d] }
  | _ => none }
def fnExactIsFullTestRow : OpenClaim := { program := "ytahpknjligaliaa", sum := "5faf52f17a9d66fe693adf580a6a4f3b510f638a729b47c5f37b7435aa411e67", func := "loop.example/g01265/laws.FnExactIsFullTest", spec := "fnExactIsFullTest", unfollowed := true, recurses := true, apart := false }
def FnExactIsFullTestSaid : Prop := fnExactIsFullTestRow.holds Try.pinned (OpenSpec.ofChange fnExactIsFullTestSpec)

/-- ITS FALSE NEIGHBOUR: 'it returns false'. Refute it at one input. -/
def fnExactIsFullTestWrong : ChangeSpec := { name := "fnExactIsFullTest", fn := fun _ => fun
  | [d] => { results := [.lit (.bool false)], args := [d] }
  | _ => none }
def FnExactIsFullTestWrongFalsely : Prop := fnExactIsFullTestRow.holds Try.pinned (OpenSpec.ofChange fnExactIsFullTestWrong)

/-- 'laws.FnExactCountHarmless': WHATEVER THE INPUT: true; the input reads as it did. -/
def fnExactCountHarmlessSpec : ChangeSpec := { name := "fnExactCountHarmless", fn := fun _ => fun
  | [d] => { results := [.lit (.bool true)], args := [d] }
  | _ => none }
def fnExactCountHarmlessRow : OpenClaim := { program := "ytahpknjligaliaa", sum := "5faf52f17a9d66fe693adf580a6a4f3b510f638a729b47c5f37b7435aa411e67", func := "loop.example/g01265/laws.FnExactCountHarmless", spec := "fnExactCountHarmless", apart := false }
def FnExactCountHarmlessSaid : Prop := fnExactCountHarmlessRow.holds Try.pinned (OpenSpec.ofChange fnExactCountHarmlessSpec)

/-- ITS FALSE NEIGHBOUR: 'it returns false'. Refute it at one input. -/
def fnExactCountHarmlessWrong : ChangeSpec := { name := "fnExactCountHarmless", fn := fun _ => fun
  | [d] => { results := [.lit (.bool false)], args := [d] }
  | _ => none }
def FnExactCountHarmlessWrongFalsely : Prop := fnExactCountHarmlessRow.holds Try.pinned (OpenSpec.ofChange fnExactCountHarmlessWrong)

/-- 'laws.FnExactCountFullTests': WHATEVER THE INPUT: true; the input reads as it did. -/
def fnExactCountFullTestsSpec : ChangeSpec := { name := "fnExactCountFullTests", fn := fun _ => fun
  | [d] => { results := [.lit (.bool true)], args := [d] }
  | _ => none }
def fnExactCountFullTestsRow : OpenClaim := { program := "ytahpknjligaliaa", sum := "5faf52f17a9d66fe693adf580a6a4f3b510f638a729b47c5f37b7435aa411e67", func := "loop.example/g01265/laws.FnExactCountFullTests", spec := "fnExactCountFullTests", unfollowed := true, recurses := true, apart := false }
def FnExactCountFullTestsSaid : Prop := fnExactCountFullTestsRow.holds Try.pinned (OpenSpec.ofChange fnExactCountFullTestsSpec)

/-- ITS FALSE NEIGHBOUR: 'it returns false'. Refute it at one input. -/
def fnExactCountFullTestsWrong : ChangeSpec := { name := "fnExactCountFullTests", fn := fun _ => fun
  | [d] => { results := [.lit (.bool false)], args := [d] }
  | _ => none }
def FnExactCountFullTestsWrongFalsely : Prop := fnExactCountFullTestsRow.holds Try.pinned (OpenSpec.ofChange fnExactCountFullTestsWrong)

/-- 'laws.FnExactCountNumbers': WHATEVER THE INPUT: true; the input reads as it did. -/
def fnExactCountNumbersSpec : ChangeSpec := { name := "fnExactCountNumbers", fn := fun _ => fun
  | [d1, d2] => { results := [.lit (.bool true)], args := [d1, d2] }
  | _ => none }
def fnExactCountNumbersRow : OpenClaim := { program := "ytahpknjligaliaa", sum := "5faf52f17a9d66fe693adf580a6a4f3b510f638a729b47c5f37b7435aa411e67", func := "loop.example/g01265/laws.FnExactCountNumbers", spec := "fnExactCountNumbers", unfollowed := true, recurses := true, apart := false }
def FnExactCountNumbersSaid : Prop := fnExactCountNumbersRow.holds Try.pinned (OpenSpec.ofChange fnExactCountNumbersSpec)

/-- ITS FALSE NEIGHBOUR: 'it returns false'. Refute it at one input. -/
def fnExactCountNumbersWrong : ChangeSpec := { name := "fnExactCountNumbers", fn := fun _ => fun
  | [d1, d2] => { results := [.lit (.bool false)], args := [d1, d2] }
  | _ => none }
def FnExactCountNumbersWrongFalsely : Prop := fnExactCountNumbersRow.holds Try.pinned (OpenSpec.ofChange fnExactCountNumbersWrong)

/-- 'laws.FnExactConfusedDigits': WHATEVER THE INPUT: true; the input reads as it did. -/
def fnExactConfusedDigitsSpec : ChangeSpec := { name := "fnExactConfusedDigits", fn := fun _ => fun
  | [d] => { results := [.lit (.bool true)], args := [d] }
  | _ => none }
def fnExactConfusedDigitsRow : OpenClaim := { program := "ytahpknjligaliaa", sum := "5faf52f17a9d66fe693adf580a6a4f3b510f638a729b47c5f37b7435aa411e67", func := "loop.example/g01265/laws.FnExactConfusedDigits", spec := "fnExactConfusedDigits", unfollowed := true, recurses := true, apart := false }
def FnExactConfusedDigitsSaid : Prop := fnExactConfusedDigitsRow.holds Try.pinned (OpenSpec.ofChange fnExactConfusedDigitsSpec)

/-- ITS FALSE NEIGHBOUR: 'it returns false'. Refute it at one input. -/
def fnExactConfusedDigitsWrong : ChangeSpec := { name := "fnExactConfusedDigits", fn := fun _ => fun
  | [d] => { results := [.lit (.bool false)], args := [d] }
  | _ => none }
def FnExactConfusedDigitsWrongFalsely : Prop := fnExactConfusedDigitsRow.holds Try.pinned (OpenSpec.ofChange fnExactConfusedDigitsWrong)

/-- 'laws.FnExactShownRow': WHATEVER THE INPUT: true; the input reads as it did. -/
def fnExactShownRowSpec : ChangeSpec := { name := "fnExactShownRow", fn := fun _ => fun
  | [d1, d2] => { results := [.lit (.bool true)], args := [d1, d2] }
  | _ => none }
def fnExactShownRowRow : OpenClaim := { program := "ytahpknjligaliaa", sum := "5faf52f17a9d66fe693adf580a6a4f3b510f638a729b47c5f37b7435aa411e67", func := "loop.example/g01265/laws.FnExactShownRow", spec := "fnExactShownRow", unfollowed := true, recurses := true, apart := false }
def FnExactShownRowSaid : Prop := fnExactShownRowRow.holds Try.pinned (OpenSpec.ofChange fnExactShownRowSpec)

/-- ITS FALSE NEIGHBOUR: 'it returns false'. Refute it at one input. -/
def fnExactShownRowWrong : ChangeSpec := { name := "fnExactShownRow", fn := fun _ => fun
  | [d1, d2] => { results := [.lit (.bool false)], args := [d1, d2] }
  | _ => none }
def FnExactShownRowWrongFalsely : Prop := fnExactShownRowRow.holds Try.pinned (OpenSpec.ofChange fnExactShownRowWrong)

/-- 'laws.FnExactIsValidRecord': WHATEVER THE INPUT: true; the input reads as it did. -/
def fnExactIsValidRecordSpec : ChangeSpec := { name := "fnExactIsValidRecord", fn := fun _ => fun
  | [d] => { results := [.lit (.bool true)], args := [d] }
  | _ => none }
def fnExactIsValidRecordRow : OpenClaim := { program := "ytahpknjligaliaa", sum := "5faf52f17a9d66fe693adf580a6a4f3b510f638a729b47c5f37b7435aa411e67", func := "loop.example/g01265/laws.FnExactIsValidRecord", spec := "fnExactIsValidRecord", inPlace := ["internal/bytealg.IndexByteString", "internal/bytealg.IndexString"], named := ["internal/bytealg.MaxLen"], apart := false }
def FnExactIsValidRecordSaid : Prop := fnExactIsValidRecordRow.holds Try.pinned (OpenSpec.ofChange fnExactIsValidRecordSpec)

/-- ITS FALSE NEIGHBOUR: 'it returns false'. Refute it at one input. -/
def fnExactIsValidRecordWrong : ChangeSpec := { name := "fnExactIsValidRecord", fn := fun _ => fun
  | [d] => { results := [.lit (.bool false)], args := [d] }
  | _ => none }
def FnExactIsValidRecordWrongFalsely : Prop := fnExactIsValidRecordRow.holds Try.pinned (OpenSpec.ofChange fnExactIsValidRecordWrong)

/-- 'laws.FnExactMeanImages': WHATEVER THE INPUT: true; the input reads as it did. -/
def fnExactMeanImagesSpec : ChangeSpec := { name := "fnExactMeanImages", fn := fun _ => fun
  | [d] => { results := [.lit (.bool true)], args := [d] }
  | _ => none }
def fnExactMeanImagesRow : OpenClaim := { program := "ytahpknjligaliaa", sum := "5faf52f17a9d66fe693adf580a6a4f3b510f638a729b47c5f37b7435aa411e67", func := "loop.example/g01265/laws.FnExactMeanImages", spec := "fnExactMeanImages", unfollowed := true, recurses := true, apart := false }
def FnExactMeanImagesSaid : Prop := fnExactMeanImagesRow.holds Try.pinned (OpenSpec.ofChange fnExactMeanImagesSpec)

/-- ITS FALSE NEIGHBOUR: 'it returns false'. Refute it at one input. -/
def fnExactMeanImagesWrong : ChangeSpec := { name := "fnExactMeanImages", fn := fun _ => fun
  | [d] => { results := [.lit (.bool false)], args := [d] }
  | _ => none }
def FnExactMeanImagesWrongFalsely : Prop := fnExactMeanImagesRow.holds Try.pinned (OpenSpec.ofChange fnExactMeanImagesWrong)

/-- 'laws.FnExactMeanFound': WHATEVER THE INPUT: true; the input reads as it did. -/
def fnExactMeanFoundSpec : ChangeSpec := { name := "fnExactMeanFound", fn := fun _ => fun
  | [d] => { results := [.lit (.bool true)], args := [d] }
  | _ => none }
def fnExactMeanFoundRow : OpenClaim := { program := "ytahpknjligaliaa", sum := "5faf52f17a9d66fe693adf580a6a4f3b510f638a729b47c5f37b7435aa411e67", func := "loop.example/g01265/laws.FnExactMeanFound", spec := "fnExactMeanFound", unfollowed := true, recurses := true, apart := false }
def FnExactMeanFoundSaid : Prop := fnExactMeanFoundRow.holds Try.pinned (OpenSpec.ofChange fnExactMeanFoundSpec)

/-- ITS FALSE NEIGHBOUR: 'it returns false'. Refute it at one input. -/
def fnExactMeanFoundWrong : ChangeSpec := { name := "fnExactMeanFound", fn := fun _ => fun
  | [d] => { results := [.lit (.bool false)], args := [d] }
  | _ => none }
def FnExactMeanFoundWrongFalsely : Prop := fnExactMeanFoundRow.holds Try.pinned (OpenSpec.ofChange fnExactMeanFoundWrong)

/-- 'laws.FnExactFaultsOf': WHATEVER THE INPUT: true; the input reads as it did. -/
def fnExactFaultsOfSpec : ChangeSpec := { name := "fnExactFaultsOf", fn := fun _ => fun
  | [d1, d2] => { results := [.lit (.bool true)], args := [d1, d2] }
  | _ => none }
def fnExactFaultsOfRow : OpenClaim := { program := "ytahpknjligaliaa", sum := "5faf52f17a9d66fe693adf580a6a4f3b510f638a729b47c5f37b7435aa411e67", func := "loop.example/g01265/laws.FnExactFaultsOf", spec := "fnExactFaultsOf", unfollowed := true, recurses := true, apart := false }
def FnExactFaultsOfSaid : Prop := fnExactFaultsOfRow.holds Try.pinned (OpenSpec.ofChange fnExactFaultsOfSpec)

/-- ITS FALSE NEIGHBOUR: 'it returns false'. Refute it at one input. -/
def fnExactFaultsOfWrong : ChangeSpec := { name := "fnExactFaultsOf", fn := fun _ => fun
  | [d1, d2] => { results := [.lit (.bool false)], args := [d1, d2] }
  | _ => none }
def FnExactFaultsOfWrongFalsely : Prop := fnExactFaultsOfRow.holds Try.pinned (OpenSpec.ofChange fnExactFaultsOfWrong)

/-- 'laws.FnExactChanceHarmless': WHATEVER THE INPUT: true; the input reads as it did. -/
def fnExactChanceHarmlessSpec : ChangeSpec := { name := "fnExactChanceHarmless", fn := fun _ => fun
  | [d] => { results := [.lit (.bool true)], args := [d] }
  | _ => none }
def fnExactChanceHarmlessRow : OpenClaim := { program := "ytahpknjligaliaa", sum := "5faf52f17a9d66fe693adf580a6a4f3b510f638a729b47c5f37b7435aa411e67", func := "loop.example/g01265/laws.FnExactChanceHarmless", spec := "fnExactChanceHarmless", unfollowed := true, recurses := true, apart := false }
def FnExactChanceHarmlessSaid : Prop := fnExactChanceHarmlessRow.holds Try.pinned (OpenSpec.ofChange fnExactChanceHarmlessSpec)

/-- ITS FALSE NEIGHBOUR: 'it returns false'. Refute it at one input. -/
def fnExactChanceHarmlessWrong : ChangeSpec := { name := "fnExactChanceHarmless", fn := fun _ => fun
  | [d] => { results := [.lit (.bool false)], args := [d] }
  | _ => none }
def FnExactChanceHarmlessWrongFalsely : Prop := fnExactChanceHarmlessRow.holds Try.pinned (OpenSpec.ofChange fnExactChanceHarmlessWrong)

/-- 'laws.FnExactChanceFull': WHATEVER THE INPUT: true; the input reads as it did. -/
def fnExactChanceFullSpec : ChangeSpec := { name := "fnExactChanceFull", fn := fun _ => fun
  | [d] => { results := [.lit (.bool true)], args := [d] }
  | _ => none }
def fnExactChanceFullRow : OpenClaim := { program := "ytahpknjligaliaa", sum := "5faf52f17a9d66fe693adf580a6a4f3b510f638a729b47c5f37b7435aa411e67", func := "loop.example/g01265/laws.FnExactChanceFull", spec := "fnExactChanceFull", unfollowed := true, recurses := true, apart := false }
def FnExactChanceFullSaid : Prop := fnExactChanceFullRow.holds Try.pinned (OpenSpec.ofChange fnExactChanceFullSpec)

/-- ITS FALSE NEIGHBOUR: 'it returns false'. Refute it at one input. -/
def fnExactChanceFullWrong : ChangeSpec := { name := "fnExactChanceFull", fn := fun _ => fun
  | [d] => { results := [.lit (.bool false)], args := [d] }
  | _ => none }
def FnExactChanceFullWrongFalsely : Prop := fnExactChanceFullRow.holds Try.pinned (OpenSpec.ofChange fnExactChanceFullWrong)

/-- 'laws.FnExactHiddenStates': WHATEVER THE INPUT: true; the input reads as it did. -/
def fnExactHiddenStatesSpec : ChangeSpec := { name := "fnExactHiddenStates", fn := fun _ => fun
  | [d] => { results := [.lit (.bool true)], args := [d] }
  | _ => none }
def fnExactHiddenStatesRow : OpenClaim := { program := "ytahpknjligaliaa", sum := "5faf52f17a9d66fe693adf580a6a4f3b510f638a729b47c5f37b7435aa411e67", func := "loop.example/g01265/laws.FnExactHiddenStates", spec := "fnExactHiddenStates", unfollowed := true, recurses := true, apart := false }
def FnExactHiddenStatesSaid : Prop := fnExactHiddenStatesRow.holds Try.pinned (OpenSpec.ofChange fnExactHiddenStatesSpec)

/-- ITS FALSE NEIGHBOUR: 'it returns false'. Refute it at one input. -/
def fnExactHiddenStatesWrong : ChangeSpec := { name := "fnExactHiddenStates", fn := fun _ => fun
  | [d] => { results := [.lit (.bool false)], args := [d] }
  | _ => none }
def FnExactHiddenStatesWrongFalsely : Prop := fnExactHiddenStatesRow.holds Try.pinned (OpenSpec.ofChange fnExactHiddenStatesWrong)

/-- 'laws.FnExactFoundStates': WHATEVER THE INPUT: true; the input reads as it did. -/
def fnExactFoundStatesSpec : ChangeSpec := { name := "fnExactFoundStates", fn := fun _ => fun
  | [d] => { results := [.lit (.bool true)], args := [d] }
  | _ => none }
def fnExactFoundStatesRow : OpenClaim := { program := "ytahpknjligaliaa", sum := "5faf52f17a9d66fe693adf580a6a4f3b510f638a729b47c5f37b7435aa411e67", func := "loop.example/g01265/laws.FnExactFoundStates", spec := "fnExactFoundStates", unfollowed := true, recurses := true, apart := false }
def FnExactFoundStatesSaid : Prop := fnExactFoundStatesRow.holds Try.pinned (OpenSpec.ofChange fnExactFoundStatesSpec)

/-- ITS FALSE NEIGHBOUR: 'it returns false'. Refute it at one input. -/
def fnExactFoundStatesWrong : ChangeSpec := { name := "fnExactFoundStates", fn := fun _ => fun
  | [d] => { results := [.lit (.bool false)], args := [d] }
  | _ => none }
def FnExactFoundStatesWrongFalsely : Prop := fnExactFoundStatesRow.holds Try.pinned (OpenSpec.ofChange fnExactFoundStatesWrong)

/-- 'laws.FnExactChanceTold': WHATEVER THE INPUT: true; the input reads as it did. -/
def fnExactChanceToldSpec : ChangeSpec := { name := "fnExactChanceTold", fn := fun _ => fun
  | [d] => { results := [.lit (.bool true)], args := [d] }
  | _ => none }
def fnExactChanceToldRow : OpenClaim := { program := "ytahpknjligaliaa", sum := "5faf52f17a9d66fe693adf580a6a4f3b510f638a729b47c5f37b7435aa411e67", func := "loop.example/g01265/laws.FnExactChanceTold", spec := "fnExactChanceTold", unfollowed := true, recurses := true, apart := false }
def FnExactChanceToldSaid : Prop := fnExactChanceToldRow.holds Try.pinned (OpenSpec.ofChange fnExactChanceToldSpec)

/-- ITS FALSE NEIGHBOUR: 'it returns false'. Refute it at one input. -/
def fnExactChanceToldWrong : ChangeSpec := { name := "fnExactChanceTold", fn := fun _ => fun
  | [d] => { results := [.lit (.bool false)], args := [d] }
  | _ => none }
def FnExactChanceToldWrongFalsely : Prop := fnExactChanceToldRow.holds Try.pinned (OpenSpec.ofChange fnExactChanceToldWrong)

/-- 'laws.FnExactReadStates': WHATEVER THE INPUT: true; the input reads as it did. -/
def fnExactReadStatesSpec : ChangeSpec := { name := "fnExactReadStates", fn := fun _ => fun
  | [d1, d2] => { results := [.lit (.bool true)], args := [d1, d2] }
  | _ => none }
def fnExactReadStatesRow : OpenClaim := { program := "ytahpknjligaliaa", sum := "5faf52f17a9d66fe693adf580a6a4f3b510f638a729b47c5f37b7435aa411e67", func := "loop.example/g01265/laws.FnExactReadStates", spec := "fnExactReadStates", unfollowed := true, recurses := true, apart := false }
def FnExactReadStatesSaid : Prop := fnExactReadStatesRow.holds Try.pinned (OpenSpec.ofChange fnExactReadStatesSpec)

/-- ITS FALSE NEIGHBOUR: 'it returns false'. Refute it at one input. -/
def fnExactReadStatesWrong : ChangeSpec := { name := "fnExactReadStates", fn := fun _ => fun
  | [d1, d2] => { results := [.lit (.bool false)], args := [d1, d2] }
  | _ => none }
def FnExactReadStatesWrongFalsely : Prop := fnExactReadStatesRow.holds Try.pinned (OpenSpec.ofChange fnExactReadStatesWrong)

/-- 'laws.FnExactFirstNumber': WHATEVER THE INPUT: true; the input reads as it did. -/
def fnExactFirstNumberSpec : ChangeSpec := { name := "fnExactFirstNumber", fn := fun _ => fun
  | [d1, d2] => { results := [.lit (.bool true)], args := [d1, d2] }
  | _ => none }
def fnExactFirstNumberRow : OpenClaim := { program := "ytahpknjligaliaa", sum := "5faf52f17a9d66fe693adf580a6a4f3b510f638a729b47c5f37b7435aa411e67", func := "loop.example/g01265/laws.FnExactFirstNumber", spec := "fnExactFirstNumber", unfollowed := true, recurses := true, apart := false }
def FnExactFirstNumberSaid : Prop := fnExactFirstNumberRow.holds Try.pinned (OpenSpec.ofChange fnExactFirstNumberSpec)

/-- ITS FALSE NEIGHBOUR: 'it returns false'. Refute it at one input. -/
def fnExactFirstNumberWrong : ChangeSpec := { name := "fnExactFirstNumber", fn := fun _ => fun
  | [d1, d2] => { results := [.lit (.bool false)], args := [d1, d2] }
  | _ => none }
def FnExactFirstNumberWrongFalsely : Prop := fnExactFirstNumberRow.holds Try.pinned (OpenSpec.ofChange fnExactFirstNumberWrong)

/-- 'laws.FnExactDoJob': WHATEVER THE INPUT: true; the input reads as it did. -/
def fnExactDoJobSpec : ChangeSpec := { name := "fnExactDoJob", fn := fun _ => fun
  | [d1, d2] => { results := [.lit (.bool true)], args := [d1, d2] }
  | _ => none }
def fnExactDoJobRow : OpenClaim := { program := "ytahpknjligaliaa", sum := "5faf52f17a9d66fe693adf580a6a4f3b510f638a729b47c5f37b7435aa411e67", func := "loop.example/g01265/laws.FnExactDoJob", spec := "fnExactDoJob", unfollowed := true, recurses := true, apart := false }
def FnExactDoJobSaid : Prop := fnExactDoJobRow.holds Try.pinned (OpenSpec.ofChange fnExactDoJobSpec)

/-- ITS FALSE NEIGHBOUR: 'it returns false'. Refute it at one input. -/
def fnExactDoJobWrong : ChangeSpec := { name := "fnExactDoJob", fn := fun _ => fun
  | [d1, d2] => { results := [.lit (.bool false)], args := [d1, d2] }
  | _ => none }
def FnExactDoJobWrongFalsely : Prop := fnExactDoJobRow.holds Try.pinned (OpenSpec.ofChange fnExactDoJobWrong)

/-- 'laws.FnExactDoJobs': WHATEVER THE INPUT: true; the input reads as it did. -/
def fnExactDoJobsSpec : ChangeSpec := { name := "fnExactDoJobs", fn := fun _ => fun
  | [d1, d2] => { results := [.lit (.bool true)], args := [d1, d2] }
  | _ => none }
def fnExactDoJobsRow : OpenClaim := { program := "ytahpknjligaliaa", sum := "5faf52f17a9d66fe693adf580a6a4f3b510f638a729b47c5f37b7435aa411e67", func := "loop.example/g01265/laws.FnExactDoJobs", spec := "fnExactDoJobs", unfollowed := true, recurses := true, apart := false }
def FnExactDoJobsSaid : Prop := fnExactDoJobsRow.holds Try.pinned (OpenSpec.ofChange fnExactDoJobsSpec)

/-- ITS FALSE NEIGHBOUR: 'it returns false'. Refute it at one input. -/
def fnExactDoJobsWrong : ChangeSpec := { name := "fnExactDoJobs", fn := fun _ => fun
  | [d1, d2] => { results := [.lit (.bool false)], args := [d1, d2] }
  | _ => none }
def FnExactDoJobsWrongFalsely : Prop := fnExactDoJobsRow.holds Try.pinned (OpenSpec.ofChange fnExactDoJobsWrong)

/- THE SECOND FORM. 'bulk': how many values and letters a reading holds, each counted each time it is reached (what is shared counts as often as it is met; a slice's spare places count too). A statement '..UptoSaid' is the law's where the arguments, and the package variables that the reading takes, are together of bulk at most 1048576: NARROWER than '..Said'. Prove '..Said' where nothing that the law and all that it calls make is longer than what came in: it says more and counts as full. Else prove '..UptoSaid'. A law counts once. -/
mutual
def uptoBulk {H : Type} : DataW H → Nat
  | .lit (.string bytes) => bytes.length + 1
  | .lit _ => 1
  | .nil => 1
  | .ptr d => uptoBulk d + 1
  | .slice elems spare => uptoBulkAll elems + uptoBulkAll spare + 1
  | .agg parts => uptoBulkAll parts + 1
  | .iface _ d => uptoBulk d + 1
  | .map entries => uptoBulkEntries entries + 1
  | .held _ => 1
def uptoBulkAll {H : Type} : List (DataW H) → Nat
  | [] => 0
  | d :: r => uptoBulk d + uptoBulkAll r
def uptoBulkEntries {H : Type} : List (Lit × DataW H) → Nat
  | [] => 0
  | x :: r => uptoBulkEntry x + uptoBulkEntries r
def uptoBulkEntry {H : Type} : Lit × DataW H → Nat
  | (.string bytes, d) => bytes.length + uptoBulk d + 1
  | (_, d) => uptoBulk d + 1
 end
def uptoSmall : (H : Type) → List (DataW H) → Bool := fun _ ds => decide (uptoBulkAll ds ≤ 1048576)
def OpenSpec.upto (s : _root_.Go.ChangeSpec) : _root_.Go.OpenSpec := { _root_.Go.OpenSpec.ofChange s with cond := some uptoSmall }

/-- 'laws.FnExactNewConsole', WHERE WHAT IT READS IS OF BULK AT MOST 1048576: true; the input reads as it did. -/
def fnExactNewConsoleUptoRow : OpenClaim := { program := "ytahpknjligaliaa", sum := "5faf52f17a9d66fe693adf580a6a4f3b510f638a729b47c5f37b7435aa411e67", func := "loop.example/g01265/laws.FnExactNewConsole", spec := "fnExactNewConsole", unfollowed := true, recurses := true, apart := false, narrowed := true }
def FnExactNewConsoleUptoSaid : Prop := fnExactNewConsoleUptoRow.holds Try.pinned (OpenSpec.upto fnExactNewConsoleSpec)

/-- 'laws.FnExactFirstFinding', WHERE WHAT IT READS IS OF BULK AT MOST 1048576: true; the input reads as it did. -/
def fnExactFirstFindingUptoRow : OpenClaim := { program := "ytahpknjligaliaa", sum := "5faf52f17a9d66fe693adf580a6a4f3b510f638a729b47c5f37b7435aa411e67", func := "loop.example/g01265/laws.FnExactFirstFinding", spec := "fnExactFirstFinding", unfollowed := true, recurses := true, apart := false, narrowed := true }
def FnExactFirstFindingUptoSaid : Prop := fnExactFirstFindingUptoRow.holds Try.pinned (OpenSpec.upto fnExactFirstFindingSpec)

/-- 'laws.FnExactBenchRow', WHERE WHAT IT READS IS OF BULK AT MOST 1048576: true; the input reads as it did. -/
def fnExactBenchRowUptoRow : OpenClaim := { program := "ytahpknjligaliaa", sum := "5faf52f17a9d66fe693adf580a6a4f3b510f638a729b47c5f37b7435aa411e67", func := "loop.example/g01265/laws.FnExactBenchRow", spec := "fnExactBenchRow", unfollowed := true, recurses := true, apart := false, narrowed := true }
def FnExactBenchRowUptoSaid : Prop := fnExactBenchRowUptoRow.holds Try.pinned (OpenSpec.upto fnExactBenchRowSpec)

/-- 'laws.FnExactSentRow', WHERE WHAT IT READS IS OF BULK AT MOST 1048576: true; the input reads as it did. -/
def fnExactSentRowUptoRow : OpenClaim := { program := "ytahpknjligaliaa", sum := "5faf52f17a9d66fe693adf580a6a4f3b510f638a729b47c5f37b7435aa411e67", func := "loop.example/g01265/laws.FnExactSentRow", spec := "fnExactSentRow", unfollowed := true, recurses := true, apart := false, narrowed := true }
def FnExactSentRowUptoSaid : Prop := fnExactSentRowUptoRow.holds Try.pinned (OpenSpec.upto fnExactSentRowSpec)

/-- 'laws.FnExactIsFullTest', WHERE WHAT IT READS IS OF BULK AT MOST 1048576: true; the input reads as it did. -/
def fnExactIsFullTestUptoRow : OpenClaim := { program := "ytahpknjligaliaa", sum := "5faf52f17a9d66fe693adf580a6a4f3b510f638a729b47c5f37b7435aa411e67", func := "loop.example/g01265/laws.FnExactIsFullTest", spec := "fnExactIsFullTest", unfollowed := true, recurses := true, apart := false, narrowed := true }
def FnExactIsFullTestUptoSaid : Prop := fnExactIsFullTestUptoRow.holds Try.pinned (OpenSpec.upto fnExactIsFullTestSpec)

/-- 'laws.FnExactCountHarmless', WHERE WHAT IT READS IS OF BULK AT MOST 1048576: true; the input reads as it did. -/
def fnExactCountHarmlessUptoRow : OpenClaim := { program := "ytahpknjligaliaa", sum := "5faf52f17a9d66fe693adf580a6a4f3b510f638a729b47c5f37b7435aa411e67", func := "loop.example/g01265/laws.FnExactCountHarmless", spec := "fnExactCountHarmless", apart := false, narrowed := true }
def FnExactCountHarmlessUptoSaid : Prop := fnExactCountHarmlessUptoRow.holds Try.pinned (OpenSpec.upto fnExactCountHarmlessSpec)

/-- 'laws.FnExactCountFullTests', WHERE WHAT IT READS IS OF BULK AT MOST 1048576: true; the input reads as it did. -/
def fnExactCountFullTestsUptoRow : OpenClaim := { program := "ytahpknjligaliaa", sum := "5faf52f17a9d66fe693adf580a6a4f3b510f638a729b47c5f37b7435aa411e67", func := "loop.example/g01265/laws.FnExactCountFullTests", spec := "fnExactCountFullTests", unfollowed := true, recurses := true, apart := false, narrowed := true }
def FnExactCountFullTestsUptoSaid : Prop := fnExactCountFullTestsUptoRow.holds Try.pinned (OpenSpec.upto fnExactCountFullTestsSpec)

/-- 'laws.FnExactCountNumbers', WHERE WHAT IT READS IS OF BULK AT MOST 1048576: true; the input reads as it did. -/
def fnExactCountNumbersUptoRow : OpenClaim := { program := "ytahpknjligaliaa", sum := "5faf52f17a9d66fe693adf580a6a4f3b510f638a729b47c5f37b7435aa411e67", func := "loop.example/g01265/laws.FnExactCountNumbers", spec := "fnExactCountNumbers", unfollowed := true, recurses := true, apart := false, narrowed := true }
def FnExactCountNumbersUptoSaid : Prop := fnExactCountNumbersUptoRow.holds Try.pinned (OpenSpec.upto fnExactCountNumbersSpec)

/-- 'laws.FnExactConfusedDigits', WHERE WHAT IT READS IS OF BULK AT MOST 1048576: true; the input reads as it did. -/
def fnExactConfusedDigitsUptoRow : OpenClaim := { program := "ytahpknjligaliaa", sum := "5faf52f17a9d66fe693adf580a6a4f3b510f638a729b47c5f37b7435aa411e67", func := "loop.example/g01265/laws.FnExactConfusedDigits", spec := "fnExactConfusedDigits", unfollowed := true, recurses := true, apart := false, narrowed := true }
def FnExactConfusedDigitsUptoSaid : Prop := fnExactConfusedDigitsUptoRow.holds Try.pinned (OpenSpec.upto fnExactConfusedDigitsSpec)

/-- 'laws.FnExactShownRow', WHERE WHAT IT READS IS OF BULK AT MOST 1048576: true; the input reads as it did. -/
def fnExactShownRowUptoRow : OpenClaim := { program := "ytahpknjligaliaa", sum := "5faf52f17a9d66fe693adf580a6a4f3b510f638a729b47c5f37b7435aa411e67", func := "loop.example/g01265/laws.FnExactShownRow", spec := "fnExactShownRow", unfollowed := true, recurses := true, apart := false, narrowed := true }
def FnExactShownRowUptoSaid : Prop := fnExactShownRowUptoRow.holds Try.pinned (OpenSpec.upto fnExactShownRowSpec)

/-- 'laws.FnExactIsValidRecord', WHERE WHAT IT READS IS OF BULK AT MOST 1048576: true; the input reads as it did. -/
def fnExactIsValidRecordUptoRow : OpenClaim := { program := "ytahpknjligaliaa", sum := "5faf52f17a9d66fe693adf580a6a4f3b510f638a729b47c5f37b7435aa411e67", func := "loop.example/g01265/laws.FnExactIsValidRecord", spec := "fnExactIsValidRecord", inPlace := ["internal/bytealg.IndexByteString", "internal/bytealg.IndexString"], named := ["internal/bytealg.MaxLen"], apart := false, narrowed := true }
def FnExactIsValidRecordUptoSaid : Prop := fnExactIsValidRecordUptoRow.holds Try.pinned (OpenSpec.upto fnExactIsValidRecordSpec)

/-- 'laws.FnExactMeanImages', WHERE WHAT IT READS IS OF BULK AT MOST 1048576: true; the input reads as it did. -/
def fnExactMeanImagesUptoRow : OpenClaim := { program := "ytahpknjligaliaa", sum := "5faf52f17a9d66fe693adf580a6a4f3b510f638a729b47c5f37b7435aa411e67", func := "loop.example/g01265/laws.FnExactMeanImages", spec := "fnExactMeanImages", unfollowed := true, recurses := true, apart := false, narrowed := true }
def FnExactMeanImagesUptoSaid : Prop := fnExactMeanImagesUptoRow.holds Try.pinned (OpenSpec.upto fnExactMeanImagesSpec)

/-- 'laws.FnExactMeanFound', WHERE WHAT IT READS IS OF BULK AT MOST 1048576: true; the input reads as it did. -/
def fnExactMeanFoundUptoRow : OpenClaim := { program := "ytahpknjligaliaa", sum := "5faf52f17a9d66fe693adf580a6a4f3b510f638a729b47c5f37b7435aa411e67", func := "loop.example/g01265/laws.FnExactMeanFound", spec := "fnExactMeanFound", unfollowed := true, recurses := true, apart := false, narrowed := true }
def FnExactMeanFoundUptoSaid : Prop := fnExactMeanFoundUptoRow.holds Try.pinned (OpenSpec.upto fnExactMeanFoundSpec)

/-- 'laws.FnExactFaultsOf', WHERE WHAT IT READS IS OF BULK AT MOST 1048576: true; the input reads as it did. -/
def fnExactFaultsOfUptoRow : OpenClaim := { program := "ytahpknjligaliaa", sum := "5faf52f17a9d66fe693adf580a6a4f3b510f638a729b47c5f37b7435aa411e67", func := "loop.example/g01265/laws.FnExactFaultsOf", spec := "fnExactFaultsOf", unfollowed := true, recurses := true, apart := false, narrowed := true }
def FnExactFaultsOfUptoSaid : Prop := fnExactFaultsOfUptoRow.holds Try.pinned (OpenSpec.upto fnExactFaultsOfSpec)

/-- 'laws.FnExactChanceHarmless', WHERE WHAT IT READS IS OF BULK AT MOST 1048576: true; the input reads as it did. -/
def fnExactChanceHarmlessUptoRow : OpenClaim := { program := "ytahpknjligaliaa", sum := "5faf52f17a9d66fe693adf580a6a4f3b510f638a729b47c5f37b7435aa411e67", func := "loop.example/g01265/laws.FnExactChanceHarmless", spec := "fnExactChanceHarmless", unfollowed := true, recurses := true, apart := false, narrowed := true }
def FnExactChanceHarmlessUptoSaid : Prop := fnExactChanceHarmlessUptoRow.holds Try.pinned (OpenSpec.upto fnExactChanceHarmlessSpec)

/-- 'laws.FnExactChanceFull', WHERE WHAT IT READS IS OF BULK AT MOST 1048576: true; the input reads as it did. -/
def fnExactChanceFullUptoRow : OpenClaim := { program := "ytahpknjligaliaa", sum := "5faf52f17a9d66fe693adf580a6a4f3b510f638a729b47c5f37b7435aa411e67", func := "loop.example/g01265/laws.FnExactChanceFull", spec := "fnExactChanceFull", unfollowed := true, recurses := true, apart := false, narrowed := true }
def FnExactChanceFullUptoSaid : Prop := fnExactChanceFullUptoRow.holds Try.pinned (OpenSpec.upto fnExactChanceFullSpec)

/-- 'laws.FnExactHiddenStates', WHERE WHAT IT READS IS OF BULK AT MOST 1048576: true; the input reads as it did. -/
def fnExactHiddenStatesUptoRow : OpenClaim := { program := "ytahpknjligaliaa", sum := "5faf52f17a9d66fe693adf580a6a4f3b510f638a729b47c5f37b7435aa411e67", func := "loop.example/g01265/laws.FnExactHiddenStates", spec := "fnExactHiddenStates", unfollowed := true, recurses := true, apart := false, narrowed := true }
def FnExactHiddenStatesUptoSaid : Prop := fnExactHiddenStatesUptoRow.holds Try.pinned (OpenSpec.upto fnExactHiddenStatesSpec)

/-- 'laws.FnExactFoundStates', WHERE WHAT IT READS IS OF BULK AT MOST 1048576: true; the input reads as it did. -/
def fnExactFoundStatesUptoRow : OpenClaim := { program := "ytahpknjligaliaa", sum := "5faf52f17a9d66fe693adf580a6a4f3b510f638a729b47c5f37b7435aa411e67", func := "loop.example/g01265/laws.FnExactFoundStates", spec := "fnExactFoundStates", unfollowed := true, recurses := true, apart := false, narrowed := true }
def FnExactFoundStatesUptoSaid : Prop := fnExactFoundStatesUptoRow.holds Try.pinned (OpenSpec.upto fnExactFoundStatesSpec)

/-- 'laws.FnExactChanceTold', WHERE WHAT IT READS IS OF BULK AT MOST 1048576: true; the input reads as it did. -/
def fnExactChanceToldUptoRow : OpenClaim := { program := "ytahpknjligaliaa", sum := "5faf52f17a9d66fe693adf580a6a4f3b510f638a729b47c5f37b7435aa411e67", func := "loop.example/g01265/laws.FnExactChanceTold", spec := "fnExactChanceTold", unfollowed := true, recurses := true, apart := false, narrowed := true }
def FnExactChanceToldUptoSaid : Prop := fnExactChanceToldUptoRow.holds Try.pinned (OpenSpec.upto fnExactChanceToldSpec)

/-- 'laws.FnExactReadStates', WHERE WHAT IT READS IS OF BULK AT MOST 1048576: true; the input reads as it did. -/
def fnExactReadStatesUptoRow : OpenClaim := { program := "ytahpknjligaliaa", sum := "5faf52f17a9d66fe693adf580a6a4f3b510f638a729b47c5f37b7435aa411e67", func := "loop.example/g01265/laws.FnExactReadStates", spec := "fnExactReadStates", unfollowed := true, recurses := true, apart := false, narrowed := true }
def FnExactReadStatesUptoSaid : Prop := fnExactReadStatesUptoRow.holds Try.pinned (OpenSpec.upto fnExactReadStatesSpec)

/-- 'laws.FnExactFirstNumber', WHERE WHAT IT READS IS OF BULK AT MOST 1048576: true; the input reads as it did. -/
def fnExactFirstNumberUptoRow : OpenClaim := { program := "ytahpknjligaliaa", sum := "5faf52f17a9d66fe693adf580a6a4f3b510f638a729b47c5f37b7435aa411e67", func := "loop.example/g01265/laws.FnExactFirstNumber", spec := "fnExactFirstNumber", unfollowed := true, recurses := true, apart := false, narrowed := true }
def FnExactFirstNumberUptoSaid : Prop := fnExactFirstNumberUptoRow.holds Try.pinned (OpenSpec.upto fnExactFirstNumberSpec)

/-- 'laws.FnExactDoJob', WHERE WHAT IT READS IS OF BULK AT MOST 1048576: true; the input reads as it did. -/
def fnExactDoJobUptoRow : OpenClaim := { program := "ytahpknjligaliaa", sum := "5faf52f17a9d66fe693adf580a6a4f3b510f638a729b47c5f37b7435aa411e67", func := "loop.example/g01265/laws.FnExactDoJob", spec := "fnExactDoJob", unfollowed := true, recurses := true, apart := false, narrowed := true }
def FnExactDoJobUptoSaid : Prop := fnExactDoJobUptoRow.holds Try.pinned (OpenSpec.upto fnExactDoJobSpec)

/-- 'laws.FnExactDoJobs', WHERE WHAT IT READS IS OF BULK AT MOST 1048576: true; the input reads as it did. -/
def fnExactDoJobsUptoRow : OpenClaim := { program := "ytahpknjligaliaa", sum := "5faf52f17a9d66fe693adf580a6a4f3b510f638a729b47c5f37b7435aa411e67", func := "loop.example/g01265/laws.FnExactDoJobs", spec := "fnExactDoJobs", unfollowed := true, recurses := true, apart := false, narrowed := true }
def FnExactDoJobsUptoSaid : Prop := fnExactDoJobsUptoRow.holds Try.pinned (OpenSpec.upto fnExactDoJobsSpec)

end Rows
end Go.Proofs.Ytahpknjligaliaa
