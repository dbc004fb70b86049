/-
  No cell of these rows narrows 'for every input' (looked for: loops, veiled, ifaces, maps, wideKeys, modest, calm, conditions, laid).
  DERIVED. THE GIVEN ROWS OF THIS SEAT. 8 by the template 'for every input the law returns true; each argument reads behind the call as it read before'; 0 by the template 'total and deterministic' (their statements: YtmdipidejmnijaaTotals.lean).
  GIVEN WITH THE SEED: the statements are not yours to turn. If you find one false, say at which input.
  Laid BY PROGRAM, IN A SANDBOX (cutbox-rows.mjs): the forced cells as the released guide's own fill.sh prints them over the translation f074a4d409cf9435… (all of the seat's roots in one cut). By AI agents, Wed Nov 11 2026. No macro, syntax, notation, axiom, sorry.
-/
import Derived.Test.YtmdipidejmnijaaChecked
import GoSem.Claim
import GoSem.ClaimJoined
import GoSem.ClaimMapViews
import Derived.JoinedTies
import Derived.KernelRfl
namespace Go.Proofs.Ytmdipidejmnijaa
/- THE CELL 'sum', in the pinned program and in every row, IS THE sha256 OF THE DUMP (.gsa) THAT YtmdipidejmnijaaProg.lean LOADS. Nothing in Lean hashes anything: it is a label: what it is worth is what the hold of that sum in a sandbox is worth. -/
noncomputable def Try.pinned : Pinned := { name := "ytmdipidejmnijaa", sum := "f074a4d409cf9435f55c7b8ca6c41b3b35c328e8f259fdf4d6fd6093c9e66f6d", checked := Try.checked }
namespace Rows
def none {H : Type} : Left H := { results := [], args := [] }

/-- 'laws.FnExactValidTrain': WHATEVER THE INPUT: true; the input reads as it did. -/
def fnExactValidTrainSpec : ChangeSpec := { name := "fnExactValidTrain", fn := fun _ => fun
  | [d] => { results := [.lit (.bool true)], args := [d] }
  | _ => none }
def fnExactValidTrainRow : OpenClaim := { program := "ytmdipidejmnijaa", sum := "f074a4d409cf9435f55c7b8ca6c41b3b35c328e8f259fdf4d6fd6093c9e66f6d", func := "loop.example/g00930/laws.FnExactValidTrain", spec := "fnExactValidTrain", apart := false }
def FnExactValidTrainSaid : Prop := fnExactValidTrainRow.holds Try.pinned (OpenSpec.ofChange fnExactValidTrainSpec)

/-- ITS FALSE NEIGHBOUR: 'it returns false'. Refute it at one input. -/
def fnExactValidTrainWrong : ChangeSpec := { name := "fnExactValidTrain", fn := fun _ => fun
  | [d] => { results := [.lit (.bool false)], args := [d] }
  | _ => none }
def FnExactValidTrainWrongFalsely : Prop := fnExactValidTrainRow.holds Try.pinned (OpenSpec.ofChange fnExactValidTrainWrong)

/-- 'laws.FnExactFindTrain': WHATEVER THE INPUT: true; the input reads as it did. -/
def fnExactFindTrainSpec : ChangeSpec := { name := "fnExactFindTrain", fn := fun _ => fun
  | [d1, d2] => { results := [.lit (.bool true)], args := [d1, d2] }
  | _ => none }
def fnExactFindTrainRow : OpenClaim := { program := "ytmdipidejmnijaa", sum := "f074a4d409cf9435f55c7b8ca6c41b3b35c328e8f259fdf4d6fd6093c9e66f6d", func := "loop.example/g00930/laws.FnExactFindTrain", spec := "fnExactFindTrain", apart := false }
def FnExactFindTrainSaid : Prop := fnExactFindTrainRow.holds Try.pinned (OpenSpec.ofChange fnExactFindTrainSpec)

/-- ITS FALSE NEIGHBOUR: 'it returns false'. Refute it at one input. -/
def fnExactFindTrainWrong : ChangeSpec := { name := "fnExactFindTrain", fn := fun _ => fun
  | [d1, d2] => { results := [.lit (.bool false)], args := [d1, d2] }
  | _ => none }
def FnExactFindTrainWrongFalsely : Prop := fnExactFindTrainRow.holds Try.pinned (OpenSpec.ofChange fnExactFindTrainWrong)

/-- 'laws.FnExactJoinTrains': WHATEVER THE INPUT: true; the input reads as it did. -/
def fnExactJoinTrainsSpec : ChangeSpec := { name := "fnExactJoinTrains", fn := fun _ => fun
  | [d1, d2] => { results := [.lit (.bool true)], args := [d1, d2] }
  | _ => none }
def fnExactJoinTrainsRow : OpenClaim := { program := "ytmdipidejmnijaa", sum := "f074a4d409cf9435f55c7b8ca6c41b3b35c328e8f259fdf4d6fd6093c9e66f6d", func := "loop.example/g00930/laws.FnExactJoinTrains", spec := "fnExactJoinTrains", apart := false }
def FnExactJoinTrainsSaid : Prop := fnExactJoinTrainsRow.holds Try.pinned (OpenSpec.ofChange fnExactJoinTrainsSpec)

/-- ITS FALSE NEIGHBOUR: 'it returns false'. Refute it at one input. -/
def fnExactJoinTrainsWrong : ChangeSpec := { name := "fnExactJoinTrains", fn := fun _ => fun
  | [d1, d2] => { results := [.lit (.bool false)], args := [d1, d2] }
  | _ => none }
def FnExactJoinTrainsWrongFalsely : Prop := fnExactJoinTrainsRow.holds Try.pinned (OpenSpec.ofChange fnExactJoinTrainsWrong)

/-- 'laws.FnExactBackTrain': WHATEVER THE INPUT: true; the input reads as it did. -/
def fnExactBackTrainSpec : ChangeSpec := { name := "fnExactBackTrain", fn := fun _ => fun
  | [d] => { results := [.lit (.bool true)], args := [d] }
  | _ => none }
def fnExactBackTrainRow : OpenClaim := { program := "ytmdipidejmnijaa", sum := "f074a4d409cf9435f55c7b8ca6c41b3b35c328e8f259fdf4d6fd6093c9e66f6d", func := "loop.example/g00930/laws.FnExactBackTrain", spec := "fnExactBackTrain", apart := false }
def FnExactBackTrainSaid : Prop := fnExactBackTrainRow.holds Try.pinned (OpenSpec.ofChange fnExactBackTrainSpec)

/-- ITS FALSE NEIGHBOUR: 'it returns false'. Refute it at one input. -/
def fnExactBackTrainWrong : ChangeSpec := { name := "fnExactBackTrain", fn := fun _ => fun
  | [d] => { results := [.lit (.bool false)], args := [d] }
  | _ => none }
def FnExactBackTrainWrongFalsely : Prop := fnExactBackTrainRow.holds Try.pinned (OpenSpec.ofChange fnExactBackTrainWrong)

/-- 'laws.FnExactRatioOf': WHATEVER THE INPUT: true; the input reads as it did. -/
def fnExactRatioOfSpec : ChangeSpec := { name := "fnExactRatioOf", fn := fun _ => fun
  | [d] => { results := [.lit (.bool true)], args := [d] }
  | _ => none }
def fnExactRatioOfRow : OpenClaim := { program := "ytmdipidejmnijaa", sum := "f074a4d409cf9435f55c7b8ca6c41b3b35c328e8f259fdf4d6fd6093c9e66f6d", func := "loop.example/g00930/laws.FnExactRatioOf", spec := "fnExactRatioOf", apart := false }
def FnExactRatioOfSaid : Prop := fnExactRatioOfRow.holds Try.pinned (OpenSpec.ofChange fnExactRatioOfSpec)

/-- ITS FALSE NEIGHBOUR: 'it returns false'. Refute it at one input. -/
def fnExactRatioOfWrong : ChangeSpec := { name := "fnExactRatioOf", fn := fun _ => fun
  | [d] => { results := [.lit (.bool false)], args := [d] }
  | _ => none }
def FnExactRatioOfWrongFalsely : Prop := fnExactRatioOfRow.holds Try.pinned (OpenSpec.ofChange fnExactRatioOfWrong)

/-- 'laws.FnExactLeastTurns': WHATEVER THE INPUT: true; the input reads as it did. -/
def fnExactLeastTurnsSpec : ChangeSpec := { name := "fnExactLeastTurns", fn := fun _ => fun
  | [d] => { results := [.lit (.bool true)], args := [d] }
  | _ => none }
def fnExactLeastTurnsRow : OpenClaim := { program := "ytmdipidejmnijaa", sum := "f074a4d409cf9435f55c7b8ca6c41b3b35c328e8f259fdf4d6fd6093c9e66f6d", func := "loop.example/g00930/laws.FnExactLeastTurns", spec := "fnExactLeastTurns", apart := false }
def FnExactLeastTurnsSaid : Prop := fnExactLeastTurnsRow.holds Try.pinned (OpenSpec.ofChange fnExactLeastTurnsSpec)

/-- ITS FALSE NEIGHBOUR: 'it returns false'. Refute it at one input. -/
def fnExactLeastTurnsWrong : ChangeSpec := { name := "fnExactLeastTurns", fn := fun _ => fun
  | [d] => { results := [.lit (.bool false)], args := [d] }
  | _ => none }
def FnExactLeastTurnsWrongFalsely : Prop := fnExactLeastTurnsRow.holds Try.pinned (OpenSpec.ofChange fnExactLeastTurnsWrong)

/-- 'laws.FnExactOutputTurns': WHATEVER THE INPUT: true; the input reads as it did. -/
def fnExactOutputTurnsSpec : ChangeSpec := { name := "fnExactOutputTurns", fn := fun _ => fun
  | [d1, d2] => { results := [.lit (.bool true)], args := [d1, d2] }
  | _ => none }
def fnExactOutputTurnsRow : OpenClaim := { program := "ytmdipidejmnijaa", sum := "f074a4d409cf9435f55c7b8ca6c41b3b35c328e8f259fdf4d6fd6093c9e66f6d", func := "loop.example/g00930/laws.FnExactOutputTurns", spec := "fnExactOutputTurns", apart := false }
def FnExactOutputTurnsSaid : Prop := fnExactOutputTurnsRow.holds Try.pinned (OpenSpec.ofChange fnExactOutputTurnsSpec)

/-- ITS FALSE NEIGHBOUR: 'it returns false'. Refute it at one input. -/
def fnExactOutputTurnsWrong : ChangeSpec := { name := "fnExactOutputTurns", fn := fun _ => fun
  | [d1, d2] => { results := [.lit (.bool false)], args := [d1, d2] }
  | _ => none }
def FnExactOutputTurnsWrongFalsely : Prop := fnExactOutputTurnsRow.holds Try.pinned (OpenSpec.ofChange fnExactOutputTurnsWrong)

/-- 'laws.FnExactSplitWords': WHATEVER THE INPUT: true; the input reads as it did. -/
def fnExactSplitWordsSpec : ChangeSpec := { name := "fnExactSplitWords", fn := fun _ => fun
  | [d] => { results := [.lit (.bool true)], args := [d] }
  | _ => none }
def fnExactSplitWordsRow : OpenClaim := { program := "ytmdipidejmnijaa", sum := "f074a4d409cf9435f55c7b8ca6c41b3b35c328e8f259fdf4d6fd6093c9e66f6d", func := "loop.example/g00930/laws.FnExactSplitWords", spec := "fnExactSplitWords", apart := false }
def FnExactSplitWordsSaid : Prop := fnExactSplitWordsRow.holds Try.pinned (OpenSpec.ofChange fnExactSplitWordsSpec)

/-- ITS FALSE NEIGHBOUR: 'it returns false'. Refute it at one input. -/
def fnExactSplitWordsWrong : ChangeSpec := { name := "fnExactSplitWords", fn := fun _ => fun
  | [d] => { results := [.lit (.bool false)], args := [d] }
  | _ => none }
def FnExactSplitWordsWrongFalsely : Prop := fnExactSplitWordsRow.holds Try.pinned (OpenSpec.ofChange fnExactSplitWordsWrong)

/- THE SECOND FORM. 'bulk': how many values and letters a reading holds, each counted each time it is reached (what is shared counts as often as it is met; a slice's spare places count too). A statement '..UptoSaid' is the law's where the arguments, and the package variables that the reading takes, are together of bulk at most 1048576: NARROWER than '..Said'. Prove '..Said' where nothing that the law and all that it calls make is longer than what came in: it says more and counts as full. Else prove '..UptoSaid'. A law counts once. -/
mutual
def uptoBulk {H : Type} : DataW H → Nat
  | .lit (.string bytes) => bytes.length + 1
  | .lit _ => 1
  | .nil => 1
  | .ptr d => uptoBulk d + 1
  | .slice elems spare => uptoBulkAll elems + uptoBulkAll spare + 1
  | .agg parts => uptoBulkAll parts + 1
  | .iface _ d => uptoBulk d + 1
  | .map entries => uptoBulkEntries entries + 1
  | .held _ => 1
def uptoBulkAll {H : Type} : List (DataW H) → Nat
  | [] => 0
  | d :: r => uptoBulk d + uptoBulkAll r
def uptoBulkEntries {H : Type} : List (Lit × DataW H) → Nat
  | [] => 0
  | x :: r => uptoBulkEntry x + uptoBulkEntries r
def uptoBulkEntry {H : Type} : Lit × DataW H → Nat
  | (.string bytes, d) => bytes.length + uptoBulk d + 1
  | (_, d) => uptoBulk d + 1
 end
def uptoSmall : (H : Type) → List (DataW H) → Bool := fun _ ds => decide (uptoBulkAll ds ≤ 1048576)
def OpenSpec.upto (s : _root_.Go.ChangeSpec) : _root_.Go.OpenSpec := { _root_.Go.OpenSpec.ofChange s with cond := some uptoSmall }

/-- 'laws.FnExactValidTrain', WHERE WHAT IT READS IS OF BULK AT MOST 1048576: true; the input reads as it did. -/
def fnExactValidTrainUptoRow : OpenClaim := { program := "ytmdipidejmnijaa", sum := "f074a4d409cf9435f55c7b8ca6c41b3b35c328e8f259fdf4d6fd6093c9e66f6d", func := "loop.example/g00930/laws.FnExactValidTrain", spec := "fnExactValidTrain", apart := false, narrowed := true }
def FnExactValidTrainUptoSaid : Prop := fnExactValidTrainUptoRow.holds Try.pinned (OpenSpec.upto fnExactValidTrainSpec)

/-- 'laws.FnExactFindTrain', WHERE WHAT IT READS IS OF BULK AT MOST 1048576: true; the input reads as it did. -/
def fnExactFindTrainUptoRow : OpenClaim := { program := "ytmdipidejmnijaa", sum := "f074a4d409cf9435f55c7b8ca6c41b3b35c328e8f259fdf4d6fd6093c9e66f6d", func := "loop.example/g00930/laws.FnExactFindTrain", spec := "fnExactFindTrain", apart := false, narrowed := true }
def FnExactFindTrainUptoSaid : Prop := fnExactFindTrainUptoRow.holds Try.pinned (OpenSpec.upto fnExactFindTrainSpec)

/-- 'laws.FnExactJoinTrains', WHERE WHAT IT READS IS OF BULK AT MOST 1048576: true; the input reads as it did. -/
def fnExactJoinTrainsUptoRow : OpenClaim := { program := "ytmdipidejmnijaa", sum := "f074a4d409cf9435f55c7b8ca6c41b3b35c328e8f259fdf4d6fd6093c9e66f6d", func := "loop.example/g00930/laws.FnExactJoinTrains", spec := "fnExactJoinTrains", apart := false, narrowed := true }
def FnExactJoinTrainsUptoSaid : Prop := fnExactJoinTrainsUptoRow.holds Try.pinned (OpenSpec.upto fnExactJoinTrainsSpec)

/-- 'laws.FnExactBackTrain', WHERE WHAT IT READS IS OF BULK AT MOST 1048576: true; the input reads as it did. -/
def fnExactBackTrainUptoRow : OpenClaim := { program := "ytmdipidejmnijaa", sum := "f074a4d409cf9435f55c7b8ca6c41b3b35c328e8f259fdf4d6fd6093c9e66f6d", func := "loop.example/g00930/laws.FnExactBackTrain", spec := "fnExactBackTrain", apart := false, narrowed := true }
def FnExactBackTrainUptoSaid : Prop := fnExactBackTrainUptoRow.holds Try.pinned (OpenSpec.upto fnExactBackTrainSpec)

/-- 'laws.FnExactRatioOf', WHERE WHAT IT READS IS OF BULK AT MOST 1048576: true; the input reads as it did. -/
def fnExactRatioOfUptoRow : OpenClaim := { program := "ytmdipidejmnijaa", sum := "f074a4d409cf9435f55c7b8ca6c41b3b35c328e8f259fdf4d6fd6093c9e66f6d", func := "loop.example/g00930/laws.FnExactRatioOf", spec := "fnExactRatioOf", apart := false, narrowed := true }
def FnExactRatioOfUptoSaid : Prop := fnExactRatioOfUptoRow.holds Try.pinned (OpenSpec.upto fnExactRatioOfSpec)

/-- 'laws.FnExactLeastTurns', WHERE WHAT IT READS IS OF BULK AT MOST 1048576: true; the input reads as it did. -/
def fnExactLeastTurnsUptoRow : OpenClaim := { program := "ytmdipidejmnijaa", sum := "f074a4d409cf9435f55c7b8ca6c41b3b35c328e8f259fdf4d6fd6093c9e66f6d", func := "loop.example/g00930/laws.FnExactLeastTurns", spec := "fnExactLeastTurns", apart := false, narrowed := true }
def FnExactLeastTurnsUptoSaid : Prop := fnExactLeastTurnsUptoRow.holds Try.pinned (OpenSpec.upto fnExactLeastTurnsSpec)

/-- 'laws.FnExactOutputTurns', WHERE WHAT IT READS IS OF BULK AT MOST 1048576: true; the input reads as it did. -/
def fnExactOutputTurnsUptoRow : OpenClaim := { program := "ytmdipidejmnijaa", sum := "f074a4d409cf9435f55c7b8ca6c41b3b35c328e8f259fdf4d6fd6093c9e66f6d", func := "loop.example/g00930/laws.FnExactOutputTurns", spec := "fnExactOutputTurns", apart := false, narrowed := true }
def FnExactOutputTurnsUptoSaid : Prop := fnExactOutputTurnsUptoRow.holds Try.pinned (OpenSpec.upto fnExactOutputTurnsSpec)

/-- 'laws.FnExactSplitWords', WHERE WHAT IT READS IS OF BULK AT MOST 1048576: true; the input reads as it did. -/
def fnExactSplitWordsUptoRow : OpenClaim := { program := "ytmdipidejmnijaa", sum := "f074a4d409cf9435f55c7b8ca6c41b3b35c328e8f259fdf4d6fd6093c9e66f6d", func := "loop.example/g00930/laws.FnExactSplitWords", spec := "fnExactSplitWords", apart := false, narrowed := true }
def FnExactSplitWordsUptoSaid : Prop := fnExactSplitWordsUptoRow.holds Try.pinned (OpenSpec.upto fnExactSplitWordsSpec)

end Rows
end Go.Proofs.Ytmdipidejmnijaa
