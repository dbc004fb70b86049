/-
  No cell of these rows narrows 'for every input' (looked for: loops, veiled, ifaces, maps, wideKeys, modest, calm, conditions, laid).
  DERIVED. THE GIVEN ROWS OF THIS SEAT. 12 by the template 'for every input the law returns true; each argument reads behind the call as it read before'; 0 by the template 'total and deterministic' (their statements: YthpaampkpajdfaaTotals.lean).
  GIVEN WITH THE SEED: the statements are not yours to turn. If you find one false, say at which input.
  Laid BY PROGRAM, IN A SANDBOX (cutbox-rows.mjs): the forced cells as the released guide's own fill.sh prints them over the translation 831e647567d95a0d… (all of the seat's roots in one cut). By AI agents, Wed Nov 11 2026. No macro, syntax, notation, axiom, sorry.
-/
import Derived.Test.YthpaampkpajdfaaChecked
import GoSem.Claim
import GoSem.ClaimJoined
import GoSem.ClaimMapViews
import Derived.JoinedTies
import Derived.KernelRfl
namespace Go.Proofs.Ythpaampkpajdfaa
/- THE CELL 'sum', in the pinned program and in every row, IS THE sha256 OF THE DUMP (.gsa) THAT YthpaampkpajdfaaProg.lean LOADS. Nothing in Lean hashes anything: it is a label: what it is worth is what the hold of that sum in a sandbox is worth. -/
noncomputable def Try.pinned : Pinned := { name := "ythpaampkpajdfaa", sum := "831e647567d95a0d5e2b813f6ce2ef6495be450bd579d8eefc739a2c65482cb6", checked := Try.checked }
namespace Rows
def none {H : Type} : Left H := { results := [], args := [] }

/-- 'laws.FnExactStepTimes': WHATEVER THE INPUT: true; the input reads as it did. -/
def fnExactStepTimesSpec : ChangeSpec := { name := "fnExactStepTimes", fn := fun _ => fun
  | [d1, d2] => { results := [.lit (.bool true)], args := [d1, d2] }
  | _ => none }
def fnExactStepTimesRow : OpenClaim := { program := "ythpaampkpajdfaa", sum := "831e647567d95a0d5e2b813f6ce2ef6495be450bd579d8eefc739a2c65482cb6", func := "loop.example/g00930/laws.FnExactStepTimes", spec := "fnExactStepTimes", apart := false }
def FnExactStepTimesSaid : Prop := fnExactStepTimesRow.holds Try.pinned (OpenSpec.ofChange fnExactStepTimesSpec)

/-- ITS FALSE NEIGHBOUR: 'it returns false'. Refute it at one input. -/
def fnExactStepTimesWrong : ChangeSpec := { name := "fnExactStepTimes", fn := fun _ => fun
  | [d1, d2] => { results := [.lit (.bool false)], args := [d1, d2] }
  | _ => none }
def FnExactStepTimesWrongFalsely : Prop := fnExactStepTimesRow.holds Try.pinned (OpenSpec.ofChange fnExactStepTimesWrong)

/-- 'laws.FnExactStepsBy': WHATEVER THE INPUT: true; the input reads as it did. -/
def fnExactStepsBySpec : ChangeSpec := { name := "fnExactStepsBy", fn := fun _ => fun
  | [d1, d2, d3] => { results := [.lit (.bool true)], args := [d1, d2, d3] }
  | _ => none }
def fnExactStepsByRow : OpenClaim := { program := "ythpaampkpajdfaa", sum := "831e647567d95a0d5e2b813f6ce2ef6495be450bd579d8eefc739a2c65482cb6", func := "loop.example/g00930/laws.FnExactStepsBy", spec := "fnExactStepsBy", apart := false }
def FnExactStepsBySaid : Prop := fnExactStepsByRow.holds Try.pinned (OpenSpec.ofChange fnExactStepsBySpec)

/-- ITS FALSE NEIGHBOUR: 'it returns false'. Refute it at one input. -/
def fnExactStepsByWrong : ChangeSpec := { name := "fnExactStepsBy", fn := fun _ => fun
  | [d1, d2, d3] => { results := [.lit (.bool false)], args := [d1, d2, d3] }
  | _ => none }
def FnExactStepsByWrongFalsely : Prop := fnExactStepsByRow.holds Try.pinned (OpenSpec.ofChange fnExactStepsByWrong)

/-- 'laws.FnExactStepsBetween': WHATEVER THE INPUT: true; the input reads as it did. -/
def fnExactStepsBetweenSpec : ChangeSpec := { name := "fnExactStepsBetween", fn := fun _ => fun
  | [d1, d2, d3, d4] => { results := [.lit (.bool true)], args := [d1, d2, d3, d4] }
  | _ => none }
def fnExactStepsBetweenRow : OpenClaim := { program := "ythpaampkpajdfaa", sum := "831e647567d95a0d5e2b813f6ce2ef6495be450bd579d8eefc739a2c65482cb6", func := "loop.example/g00930/laws.FnExactStepsBetween", spec := "fnExactStepsBetween", apart := false }
def FnExactStepsBetweenSaid : Prop := fnExactStepsBetweenRow.holds Try.pinned (OpenSpec.ofChange fnExactStepsBetweenSpec)

/-- ITS FALSE NEIGHBOUR: 'it returns false'. Refute it at one input. -/
def fnExactStepsBetweenWrong : ChangeSpec := { name := "fnExactStepsBetween", fn := fun _ => fun
  | [d1, d2, d3, d4] => { results := [.lit (.bool false)], args := [d1, d2, d3, d4] }
  | _ => none }
def FnExactStepsBetweenWrongFalsely : Prop := fnExactStepsBetweenRow.holds Try.pinned (OpenSpec.ofChange fnExactStepsBetweenWrong)

/-- 'laws.FnExactBrokenSteps': WHATEVER THE INPUT: true; the input reads as it did. -/
def fnExactBrokenStepsSpec : ChangeSpec := { name := "fnExactBrokenSteps", fn := fun _ => fun
  | [d1, d2, d3] => { results := [.lit (.bool true)], args := [d1, d2, d3] }
  | _ => none }
def fnExactBrokenStepsRow : OpenClaim := { program := "ythpaampkpajdfaa", sum := "831e647567d95a0d5e2b813f6ce2ef6495be450bd579d8eefc739a2c65482cb6", func := "loop.example/g00930/laws.FnExactBrokenSteps", spec := "fnExactBrokenSteps", apart := false }
def FnExactBrokenStepsSaid : Prop := fnExactBrokenStepsRow.holds Try.pinned (OpenSpec.ofChange fnExactBrokenStepsSpec)

/-- ITS FALSE NEIGHBOUR: 'it returns false'. Refute it at one input. -/
def fnExactBrokenStepsWrong : ChangeSpec := { name := "fnExactBrokenSteps", fn := fun _ => fun
  | [d1, d2, d3] => { results := [.lit (.bool false)], args := [d1, d2, d3] }
  | _ => none }
def FnExactBrokenStepsWrongFalsely : Prop := fnExactBrokenStepsRow.holds Try.pinned (OpenSpec.ofChange fnExactBrokenStepsWrong)

/-- 'laws.FnExactDigitFor': WHATEVER THE INPUT: true; the input reads as it did. -/
def fnExactDigitForSpec : ChangeSpec := { name := "fnExactDigitFor", fn := fun _ => fun
  | [d1, d2] => { results := [.lit (.bool true)], args := [d1, d2] }
  | _ => none }
def fnExactDigitForRow : OpenClaim := { program := "ythpaampkpajdfaa", sum := "831e647567d95a0d5e2b813f6ce2ef6495be450bd579d8eefc739a2c65482cb6", func := "loop.example/g00930/laws.FnExactDigitFor", spec := "fnExactDigitFor", apart := false }
def FnExactDigitForSaid : Prop := fnExactDigitForRow.holds Try.pinned (OpenSpec.ofChange fnExactDigitForSpec)

/-- ITS FALSE NEIGHBOUR: 'it returns false'. Refute it at one input. -/
def fnExactDigitForWrong : ChangeSpec := { name := "fnExactDigitFor", fn := fun _ => fun
  | [d1, d2] => { results := [.lit (.bool false)], args := [d1, d2] }
  | _ => none }
def FnExactDigitForWrongFalsely : Prop := fnExactDigitForRow.holds Try.pinned (OpenSpec.ofChange fnExactDigitForWrong)

/-- 'laws.FnExactBusiestTime': WHATEVER THE INPUT: true; the input reads as it did. -/
def fnExactBusiestTimeSpec : ChangeSpec := { name := "fnExactBusiestTime", fn := fun _ => fun
  | [d1, d2] => { results := [.lit (.bool true)], args := [d1, d2] }
  | _ => none }
def fnExactBusiestTimeRow : OpenClaim := { program := "ythpaampkpajdfaa", sum := "831e647567d95a0d5e2b813f6ce2ef6495be450bd579d8eefc739a2c65482cb6", func := "loop.example/g00930/laws.FnExactBusiestTime", spec := "fnExactBusiestTime", apart := false }
def FnExactBusiestTimeSaid : Prop := fnExactBusiestTimeRow.holds Try.pinned (OpenSpec.ofChange fnExactBusiestTimeSpec)

/-- ITS FALSE NEIGHBOUR: 'it returns false'. Refute it at one input. -/
def fnExactBusiestTimeWrong : ChangeSpec := { name := "fnExactBusiestTime", fn := fun _ => fun
  | [d1, d2] => { results := [.lit (.bool false)], args := [d1, d2] }
  | _ => none }
def FnExactBusiestTimeWrongFalsely : Prop := fnExactBusiestTimeRow.holds Try.pinned (OpenSpec.ofChange fnExactBusiestTimeWrong)

/-- 'laws.FnExactDrumLines': WHATEVER THE INPUT: true; the input reads as it did. -/
def fnExactDrumLinesSpec : ChangeSpec := { name := "fnExactDrumLines", fn := fun _ => fun
  | [d] => { results := [.lit (.bool true)], args := [d] }
  | _ => none }
def fnExactDrumLinesRow : OpenClaim := { program := "ythpaampkpajdfaa", sum := "831e647567d95a0d5e2b813f6ce2ef6495be450bd579d8eefc739a2c65482cb6", func := "loop.example/g00930/laws.FnExactDrumLines", spec := "fnExactDrumLines", apart := false }
def FnExactDrumLinesSaid : Prop := fnExactDrumLinesRow.holds Try.pinned (OpenSpec.ofChange fnExactDrumLinesSpec)

/-- ITS FALSE NEIGHBOUR: 'it returns false'. Refute it at one input. -/
def fnExactDrumLinesWrong : ChangeSpec := { name := "fnExactDrumLines", fn := fun _ => fun
  | [d] => { results := [.lit (.bool false)], args := [d] }
  | _ => none }
def FnExactDrumLinesWrongFalsely : Prop := fnExactDrumLinesRow.holds Try.pinned (OpenSpec.ofChange fnExactDrumLinesWrong)

/-- 'laws.FnExactPrefixSignals': WHATEVER THE INPUT: true; the input reads as it did. -/
def fnExactPrefixSignalsSpec : ChangeSpec := { name := "fnExactPrefixSignals", fn := fun _ => fun
  | [d] => { results := [.lit (.bool true)], args := [d] }
  | _ => none }
def fnExactPrefixSignalsRow : OpenClaim := { program := "ythpaampkpajdfaa", sum := "831e647567d95a0d5e2b813f6ce2ef6495be450bd579d8eefc739a2c65482cb6", func := "loop.example/g00930/laws.FnExactPrefixSignals", spec := "fnExactPrefixSignals", apart := false }
def FnExactPrefixSignalsSaid : Prop := fnExactPrefixSignalsRow.holds Try.pinned (OpenSpec.ofChange fnExactPrefixSignalsSpec)

/-- ITS FALSE NEIGHBOUR: 'it returns false'. Refute it at one input. -/
def fnExactPrefixSignalsWrong : ChangeSpec := { name := "fnExactPrefixSignals", fn := fun _ => fun
  | [d] => { results := [.lit (.bool false)], args := [d] }
  | _ => none }
def FnExactPrefixSignalsWrongFalsely : Prop := fnExactPrefixSignalsRow.holds Try.pinned (OpenSpec.ofChange fnExactPrefixSignalsWrong)

/-- 'laws.FnExactGroupSignals': WHATEVER THE INPUT: true; the input reads as it did. -/
def fnExactGroupSignalsSpec : ChangeSpec := { name := "fnExactGroupSignals", fn := fun _ => fun
  | [d1, d2] => { results := [.lit (.bool true)], args := [d1, d2] }
  | _ => none }
def fnExactGroupSignalsRow : OpenClaim := { program := "ythpaampkpajdfaa", sum := "831e647567d95a0d5e2b813f6ce2ef6495be450bd579d8eefc739a2c65482cb6", func := "loop.example/g00930/laws.FnExactGroupSignals", spec := "fnExactGroupSignals", apart := false }
def FnExactGroupSignalsSaid : Prop := fnExactGroupSignalsRow.holds Try.pinned (OpenSpec.ofChange fnExactGroupSignalsSpec)

/-- ITS FALSE NEIGHBOUR: 'it returns false'. Refute it at one input. -/
def fnExactGroupSignalsWrong : ChangeSpec := { name := "fnExactGroupSignals", fn := fun _ => fun
  | [d1, d2] => { results := [.lit (.bool false)], args := [d1, d2] }
  | _ => none }
def FnExactGroupSignalsWrongFalsely : Prop := fnExactGroupSignalsRow.holds Try.pinned (OpenSpec.ofChange fnExactGroupSignalsWrong)

/-- 'laws.FnExactSignalText': WHATEVER THE INPUT: true; the input reads as it did. -/
def fnExactSignalTextSpec : ChangeSpec := { name := "fnExactSignalText", fn := fun _ => fun
  | [d] => { results := [.lit (.bool true)], args := [d] }
  | _ => none }
def fnExactSignalTextRow : OpenClaim := { program := "ythpaampkpajdfaa", sum := "831e647567d95a0d5e2b813f6ce2ef6495be450bd579d8eefc739a2c65482cb6", func := "loop.example/g00930/laws.FnExactSignalText", spec := "fnExactSignalText", apart := false }
def FnExactSignalTextSaid : Prop := fnExactSignalTextRow.holds Try.pinned (OpenSpec.ofChange fnExactSignalTextSpec)

/-- ITS FALSE NEIGHBOUR: 'it returns false'. Refute it at one input. -/
def fnExactSignalTextWrong : ChangeSpec := { name := "fnExactSignalText", fn := fun _ => fun
  | [d] => { results := [.lit (.bool false)], args := [d] }
  | _ => none }
def FnExactSignalTextWrongFalsely : Prop := fnExactSignalTextRow.holds Try.pinned (OpenSpec.ofChange fnExactSignalTextWrong)

/-- 'laws.FnExactValidFaults': WHATEVER THE INPUT: true; the input reads as it did. -/
def fnExactValidFaultsSpec : ChangeSpec := { name := "fnExactValidFaults", fn := fun _ => fun
  | [d1, d2] => { results := [.lit (.bool true)], args := [d1, d2] }
  | _ => none }
def fnExactValidFaultsRow : OpenClaim := { program := "ythpaampkpajdfaa", sum := "831e647567d95a0d5e2b813f6ce2ef6495be450bd579d8eefc739a2c65482cb6", func := "loop.example/g00930/laws.FnExactValidFaults", spec := "fnExactValidFaults", apart := false }
def FnExactValidFaultsSaid : Prop := fnExactValidFaultsRow.holds Try.pinned (OpenSpec.ofChange fnExactValidFaultsSpec)

/-- ITS FALSE NEIGHBOUR: 'it returns false'. Refute it at one input. -/
def fnExactValidFaultsWrong : ChangeSpec := { name := "fnExactValidFaults", fn := fun _ => fun
  | [d1, d2] => { results := [.lit (.bool false)], args := [d1, d2] }
  | _ => none }
def FnExactValidFaultsWrongFalsely : Prop := fnExactValidFaultsRow.holds Try.pinned (OpenSpec.ofChange fnExactValidFaultsWrong)

/-- 'laws.FnExactRightTable': WHATEVER THE INPUT: true; the input reads as it did. -/
def fnExactRightTableSpec : ChangeSpec := { name := "fnExactRightTable", fn := fun _ => fun
  | [d] => { results := [.lit (.bool true)], args := [d] }
  | _ => none }
def fnExactRightTableRow : OpenClaim := { program := "ythpaampkpajdfaa", sum := "831e647567d95a0d5e2b813f6ce2ef6495be450bd579d8eefc739a2c65482cb6", func := "loop.example/g00930/laws.FnExactRightTable", spec := "fnExactRightTable", apart := false }
def FnExactRightTableSaid : Prop := fnExactRightTableRow.holds Try.pinned (OpenSpec.ofChange fnExactRightTableSpec)

/-- ITS FALSE NEIGHBOUR: 'it returns false'. Refute it at one input. -/
def fnExactRightTableWrong : ChangeSpec := { name := "fnExactRightTable", fn := fun _ => fun
  | [d] => { results := [.lit (.bool false)], args := [d] }
  | _ => none }
def FnExactRightTableWrongFalsely : Prop := fnExactRightTableRow.holds Try.pinned (OpenSpec.ofChange fnExactRightTableWrong)

/- THE SECOND FORM. 'bulk': how many values and letters a reading holds, each counted each time it is reached (what is shared counts as often as it is met; a slice's spare places count too). A statement '..UptoSaid' is the law's where the arguments, and the package variables that the reading takes, are together of bulk at most 1048576: NARROWER than '..Said'. Prove '..Said' where nothing that the law and all that it calls make is longer than what came in: it says more and counts as full. Else prove '..UptoSaid'. A law counts once. -/
mutual
def uptoBulk {H : Type} : DataW H → Nat
  | .lit (.string bytes) => bytes.length + 1
  | .lit _ => 1
  | .nil => 1
  | .ptr d => uptoBulk d + 1
  | .slice elems spare => uptoBulkAll elems + uptoBulkAll spare + 1
  | .agg parts => uptoBulkAll parts + 1
  | .iface _ d => uptoBulk d + 1
  | .map entries => uptoBulkEntries entries + 1
  | .held _ => 1
def uptoBulkAll {H : Type} : List (DataW H) → Nat
  | [] => 0
  | d :: r => uptoBulk d + uptoBulkAll r
def uptoBulkEntries {H : Type} : List (Lit × DataW H) → Nat
  | [] => 0
  | x :: r => uptoBulkEntry x + uptoBulkEntries r
def uptoBulkEntry {H : Type} : Lit × DataW H → Nat
  | (.string bytes, d) => bytes.length + uptoBulk d + 1
  | (_, d) => uptoBulk d + 1
 end
def uptoSmall : (H : Type) → List (DataW H) → Bool := fun _ ds => decide (uptoBulkAll ds ≤ 1048576)
def OpenSpec.upto (s : _root_.Go.ChangeSpec) : _root_.Go.OpenSpec := { _root_.Go.OpenSpec.ofChange s with cond := some uptoSmall }

/-- 'laws.FnExactStepTimes', WHERE WHAT IT READS IS OF BULK AT MOST 1048576: true; the input reads as it did. -/
def fnExactStepTimesUptoRow : OpenClaim := { program := "ythpaampkpajdfaa", sum := "831e647567d95a0d5e2b813f6ce2ef6495be450bd579d8eefc739a2c65482cb6", func := "loop.example/g00930/laws.FnExactStepTimes", spec := "fnExactStepTimes", apart := false, narrowed := true }
def FnExactStepTimesUptoSaid : Prop := fnExactStepTimesUptoRow.holds Try.pinned (OpenSpec.upto fnExactStepTimesSpec)

/-- 'laws.FnExactStepsBy', WHERE WHAT IT READS IS OF BULK AT MOST 1048576: true; the input reads as it did. -/
def fnExactStepsByUptoRow : OpenClaim := { program := "ythpaampkpajdfaa", sum := "831e647567d95a0d5e2b813f6ce2ef6495be450bd579d8eefc739a2c65482cb6", func := "loop.example/g00930/laws.FnExactStepsBy", spec := "fnExactStepsBy", apart := false, narrowed := true }
def FnExactStepsByUptoSaid : Prop := fnExactStepsByUptoRow.holds Try.pinned (OpenSpec.upto fnExactStepsBySpec)

/-- 'laws.FnExactStepsBetween', WHERE WHAT IT READS IS OF BULK AT MOST 1048576: true; the input reads as it did. -/
def fnExactStepsBetweenUptoRow : OpenClaim := { program := "ythpaampkpajdfaa", sum := "831e647567d95a0d5e2b813f6ce2ef6495be450bd579d8eefc739a2c65482cb6", func := "loop.example/g00930/laws.FnExactStepsBetween", spec := "fnExactStepsBetween", apart := false, narrowed := true }
def FnExactStepsBetweenUptoSaid : Prop := fnExactStepsBetweenUptoRow.holds Try.pinned (OpenSpec.upto fnExactStepsBetweenSpec)

/-- 'laws.FnExactBrokenSteps', WHERE WHAT IT READS IS OF BULK AT MOST 1048576: true; the input reads as it did. -/
def fnExactBrokenStepsUptoRow : OpenClaim := { program := "ythpaampkpajdfaa", sum := "831e647567d95a0d5e2b813f6ce2ef6495be450bd579d8eefc739a2c65482cb6", func := "loop.example/g00930/laws.FnExactBrokenSteps", spec := "fnExactBrokenSteps", apart := false, narrowed := true }
def FnExactBrokenStepsUptoSaid : Prop := fnExactBrokenStepsUptoRow.holds Try.pinned (OpenSpec.upto fnExactBrokenStepsSpec)

/-- 'laws.FnExactDigitFor', WHERE WHAT IT READS IS OF BULK AT MOST 1048576: true; the input reads as it did. -/
def fnExactDigitForUptoRow : OpenClaim := { program := "ythpaampkpajdfaa", sum := "831e647567d95a0d5e2b813f6ce2ef6495be450bd579d8eefc739a2c65482cb6", func := "loop.example/g00930/laws.FnExactDigitFor", spec := "fnExactDigitFor", apart := false, narrowed := true }
def FnExactDigitForUptoSaid : Prop := fnExactDigitForUptoRow.holds Try.pinned (OpenSpec.upto fnExactDigitForSpec)

/-- 'laws.FnExactBusiestTime', WHERE WHAT IT READS IS OF BULK AT MOST 1048576: true; the input reads as it did. -/
def fnExactBusiestTimeUptoRow : OpenClaim := { program := "ythpaampkpajdfaa", sum := "831e647567d95a0d5e2b813f6ce2ef6495be450bd579d8eefc739a2c65482cb6", func := "loop.example/g00930/laws.FnExactBusiestTime", spec := "fnExactBusiestTime", apart := false, narrowed := true }
def FnExactBusiestTimeUptoSaid : Prop := fnExactBusiestTimeUptoRow.holds Try.pinned (OpenSpec.upto fnExactBusiestTimeSpec)

/-- 'laws.FnExactDrumLines', WHERE WHAT IT READS IS OF BULK AT MOST 1048576: true; the input reads as it did. -/
def fnExactDrumLinesUptoRow : OpenClaim := { program := "ythpaampkpajdfaa", sum := "831e647567d95a0d5e2b813f6ce2ef6495be450bd579d8eefc739a2c65482cb6", func := "loop.example/g00930/laws.FnExactDrumLines", spec := "fnExactDrumLines", apart := false, narrowed := true }
def FnExactDrumLinesUptoSaid : Prop := fnExactDrumLinesUptoRow.holds Try.pinned (OpenSpec.upto fnExactDrumLinesSpec)

/-- 'laws.FnExactPrefixSignals', WHERE WHAT IT READS IS OF BULK AT MOST 1048576: true; the input reads as it did. -/
def fnExactPrefixSignalsUptoRow : OpenClaim := { program := "ythpaampkpajdfaa", sum := "831e647567d95a0d5e2b813f6ce2ef6495be450bd579d8eefc739a2c65482cb6", func := "loop.example/g00930/laws.FnExactPrefixSignals", spec := "fnExactPrefixSignals", apart := false, narrowed := true }
def FnExactPrefixSignalsUptoSaid : Prop := fnExactPrefixSignalsUptoRow.holds Try.pinned (OpenSpec.upto fnExactPrefixSignalsSpec)

/-- 'laws.FnExactGroupSignals', WHERE WHAT IT READS IS OF BULK AT MOST 1048576: true; the input reads as it did. -/
def fnExactGroupSignalsUptoRow : OpenClaim := { program := "ythpaampkpajdfaa", sum := "831e647567d95a0d5e2b813f6ce2ef6495be450bd579d8eefc739a2c65482cb6", func := "loop.example/g00930/laws.FnExactGroupSignals", spec := "fnExactGroupSignals", apart := false, narrowed := true }
def FnExactGroupSignalsUptoSaid : Prop := fnExactGroupSignalsUptoRow.holds Try.pinned (OpenSpec.upto fnExactGroupSignalsSpec)

/-- 'laws.FnExactSignalText', WHERE WHAT IT READS IS OF BULK AT MOST 1048576: true; the input reads as it did. -/
def fnExactSignalTextUptoRow : OpenClaim := { program := "ythpaampkpajdfaa", sum := "831e647567d95a0d5e2b813f6ce2ef6495be450bd579d8eefc739a2c65482cb6", func := "loop.example/g00930/laws.FnExactSignalText", spec := "fnExactSignalText", apart := false, narrowed := true }
def FnExactSignalTextUptoSaid : Prop := fnExactSignalTextUptoRow.holds Try.pinned (OpenSpec.upto fnExactSignalTextSpec)

/-- 'laws.FnExactValidFaults', WHERE WHAT IT READS IS OF BULK AT MOST 1048576: true; the input reads as it did. -/
def fnExactValidFaultsUptoRow : OpenClaim := { program := "ythpaampkpajdfaa", sum := "831e647567d95a0d5e2b813f6ce2ef6495be450bd579d8eefc739a2c65482cb6", func := "loop.example/g00930/laws.FnExactValidFaults", spec := "fnExactValidFaults", apart := false, narrowed := true }
def FnExactValidFaultsUptoSaid : Prop := fnExactValidFaultsUptoRow.holds Try.pinned (OpenSpec.upto fnExactValidFaultsSpec)

/-- 'laws.FnExactRightTable', WHERE WHAT IT READS IS OF BULK AT MOST 1048576: true; the input reads as it did. -/
def fnExactRightTableUptoRow : OpenClaim := { program := "ythpaampkpajdfaa", sum := "831e647567d95a0d5e2b813f6ce2ef6495be450bd579d8eefc739a2c65482cb6", func := "loop.example/g00930/laws.FnExactRightTable", spec := "fnExactRightTable", apart := false, narrowed := true }
def FnExactRightTableUptoSaid : Prop := fnExactRightTableUptoRow.holds Try.pinned (OpenSpec.upto fnExactRightTableSpec)

end Rows
end Go.Proofs.Ythpaampkpajdfaa
