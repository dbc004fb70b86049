/-
  No cell of these rows narrows 'for every input' (looked for: loops, veiled, ifaces, maps, wideKeys, modest, calm, conditions, laid).
  DERIVED. THE GIVEN ROWS OF THIS SEAT. 9 by the template 'for every input the law returns true; each argument reads behind the call as it read before'; 0 by the template 'total and deterministic' (their statements: YtjokokdmdgbocaaTotals.lean).
  GIVEN WITH THE SEED: the statements are not yours to turn. If you find one false, say at which input.
  Laid BY PROGRAM, IN A SANDBOX (cutbox-rows.mjs): the forced cells as the released guide's own fill.sh prints them over the translation d50c53c178ef688a… (all of the seat's roots in one cut). By AI agents, Wed Nov 11 2026. No macro, syntax, notation, axiom, sorry.
-/
import Derived.Test.YtjokokdmdgbocaaChecked
import GoSem.Claim
import GoSem.ClaimJoined
import GoSem.ClaimMapViews
import Derived.JoinedTies
import Derived.KernelRfl
namespace Go.Proofs.Ytjokokdmdgbocaa
/- THE CELL 'sum', in the pinned program and in every row, IS THE sha256 OF THE DUMP (.gsa) THAT YtjokokdmdgbocaaProg.lean LOADS. Nothing in Lean hashes anything: it is a label: what it is worth is what the hold of that sum in a sandbox is worth. -/
noncomputable def Try.pinned : Pinned := { name := "ytjokokdmdgbocaa", sum := "d50c53c178ef688a146c9086cf6321e671ff78b3f8c3c482ae0507b6ebd33d08", checked := Try.checked }
namespace Rows
def none {H : Type} : Left H := { results := [], args := [] }

/-- 'laws.FnExactConstants': WHATEVER THE INPUT: true; the input reads as it did. -/
def fnExactConstantsSpec : ChangeSpec := { name := "fnExactConstants", fn := fun _ => fun
  | [] => { results := [.lit (.bool true)], args := [] }
  | _ => none }
def fnExactConstantsRow : OpenClaim := { program := "ytjokokdmdgbocaa", sum := "d50c53c178ef688a146c9086cf6321e671ff78b3f8c3c482ae0507b6ebd33d08", func := "loop.example/g00930/laws.FnExactConstants", spec := "fnExactConstants", apart := false }
def FnExactConstantsSaid : Prop := fnExactConstantsRow.holds Try.pinned (OpenSpec.ofChange fnExactConstantsSpec)

/-- ITS FALSE NEIGHBOUR: 'it returns false'. Refute it at one input. -/
def fnExactConstantsWrong : ChangeSpec := { name := "fnExactConstants", fn := fun _ => fun
  | [] => { results := [.lit (.bool false)], args := [] }
  | _ => none }
def FnExactConstantsWrongFalsely : Prop := fnExactConstantsRow.holds Try.pinned (OpenSpec.ofChange fnExactConstantsWrong)

/-- 'laws.FnExactCodeName': WHATEVER THE INPUT: true; the input reads as it did. -/
def fnExactCodeNameSpec : ChangeSpec := { name := "fnExactCodeName", fn := fun _ => fun
  | [d] => { results := [.lit (.bool true)], args := [d] }
  | _ => none }
def fnExactCodeNameRow : OpenClaim := { program := "ytjokokdmdgbocaa", sum := "d50c53c178ef688a146c9086cf6321e671ff78b3f8c3c482ae0507b6ebd33d08", func := "loop.example/g00930/laws.FnExactCodeName", spec := "fnExactCodeName", apart := false }
def FnExactCodeNameSaid : Prop := fnExactCodeNameRow.holds Try.pinned (OpenSpec.ofChange fnExactCodeNameSpec)

/-- ITS FALSE NEIGHBOUR: 'it returns false'. Refute it at one input. -/
def fnExactCodeNameWrong : ChangeSpec := { name := "fnExactCodeName", fn := fun _ => fun
  | [d] => { results := [.lit (.bool false)], args := [d] }
  | _ => none }
def FnExactCodeNameWrongFalsely : Prop := fnExactCodeNameRow.holds Try.pinned (OpenSpec.ofChange fnExactCodeNameWrong)

/-- 'laws.FnExactDrumName': WHATEVER THE INPUT: true; the input reads as it did. -/
def fnExactDrumNameSpec : ChangeSpec := { name := "fnExactDrumName", fn := fun _ => fun
  | [d] => { results := [.lit (.bool true)], args := [d] }
  | _ => none }
def fnExactDrumNameRow : OpenClaim := { program := "ytjokokdmdgbocaa", sum := "d50c53c178ef688a146c9086cf6321e671ff78b3f8c3c482ae0507b6ebd33d08", func := "loop.example/g00930/laws.FnExactDrumName", spec := "fnExactDrumName", apart := false }
def FnExactDrumNameSaid : Prop := fnExactDrumNameRow.holds Try.pinned (OpenSpec.ofChange fnExactDrumNameSpec)

/-- ITS FALSE NEIGHBOUR: 'it returns false'. Refute it at one input. -/
def fnExactDrumNameWrong : ChangeSpec := { name := "fnExactDrumName", fn := fun _ => fun
  | [d] => { results := [.lit (.bool false)], args := [d] }
  | _ => none }
def FnExactDrumNameWrongFalsely : Prop := fnExactDrumNameRow.holds Try.pinned (OpenSpec.ofChange fnExactDrumNameWrong)

/-- 'laws.FnExactJoinSignals': WHATEVER THE INPUT: true; the input reads as it did. -/
def fnExactJoinSignalsSpec : ChangeSpec := { name := "fnExactJoinSignals", fn := fun _ => fun
  | [d1, d2] => { results := [.lit (.bool true)], args := [d1, d2] }
  | _ => none }
def fnExactJoinSignalsRow : OpenClaim := { program := "ytjokokdmdgbocaa", sum := "d50c53c178ef688a146c9086cf6321e671ff78b3f8c3c482ae0507b6ebd33d08", func := "loop.example/g00930/laws.FnExactJoinSignals", spec := "fnExactJoinSignals", apart := false }
def FnExactJoinSignalsSaid : Prop := fnExactJoinSignalsRow.holds Try.pinned (OpenSpec.ofChange fnExactJoinSignalsSpec)

/-- ITS FALSE NEIGHBOUR: 'it returns false'. Refute it at one input. -/
def fnExactJoinSignalsWrong : ChangeSpec := { name := "fnExactJoinSignals", fn := fun _ => fun
  | [d1, d2] => { results := [.lit (.bool false)], args := [d1, d2] }
  | _ => none }
def FnExactJoinSignalsWrongFalsely : Prop := fnExactJoinSignalsRow.holds Try.pinned (OpenSpec.ofChange fnExactJoinSignalsWrong)

/-- 'laws.FnExactIsName': WHATEVER THE INPUT: true; the input reads as it did. -/
def fnExactIsNameSpec : ChangeSpec := { name := "fnExactIsName", fn := fun _ => fun
  | [d] => { results := [.lit (.bool true)], args := [d] }
  | _ => none }
def fnExactIsNameRow : OpenClaim := { program := "ytjokokdmdgbocaa", sum := "d50c53c178ef688a146c9086cf6321e671ff78b3f8c3c482ae0507b6ebd33d08", func := "loop.example/g00930/laws.FnExactIsName", spec := "fnExactIsName", apart := false }
def FnExactIsNameSaid : Prop := fnExactIsNameRow.holds Try.pinned (OpenSpec.ofChange fnExactIsNameSpec)

/-- ITS FALSE NEIGHBOUR: 'it returns false'. Refute it at one input. -/
def fnExactIsNameWrong : ChangeSpec := { name := "fnExactIsName", fn := fun _ => fun
  | [d] => { results := [.lit (.bool false)], args := [d] }
  | _ => none }
def FnExactIsNameWrongFalsely : Prop := fnExactIsNameRow.holds Try.pinned (OpenSpec.ofChange fnExactIsNameWrong)

/-- 'laws.FnExactDepthAhead': WHATEVER THE INPUT: true; the input reads as it did. -/
def fnExactDepthAheadSpec : ChangeSpec := { name := "fnExactDepthAhead", fn := fun _ => fun
  | [d1, d2] => { results := [.lit (.bool true)], args := [d1, d2] }
  | _ => none }
def fnExactDepthAheadRow : OpenClaim := { program := "ytjokokdmdgbocaa", sum := "d50c53c178ef688a146c9086cf6321e671ff78b3f8c3c482ae0507b6ebd33d08", func := "loop.example/g00930/laws.FnExactDepthAhead", spec := "fnExactDepthAhead", apart := false }
def FnExactDepthAheadSaid : Prop := fnExactDepthAheadRow.holds Try.pinned (OpenSpec.ofChange fnExactDepthAheadSpec)

/-- ITS FALSE NEIGHBOUR: 'it returns false'. Refute it at one input. -/
def fnExactDepthAheadWrong : ChangeSpec := { name := "fnExactDepthAhead", fn := fun _ => fun
  | [d1, d2] => { results := [.lit (.bool false)], args := [d1, d2] }
  | _ => none }
def FnExactDepthAheadWrongFalsely : Prop := fnExactDepthAheadRow.holds Try.pinned (OpenSpec.ofChange fnExactDepthAheadWrong)

/-- 'laws.FnExactValidDrum': WHATEVER THE INPUT: true; the input reads as it did. -/
def fnExactValidDrumSpec : ChangeSpec := { name := "fnExactValidDrum", fn := fun _ => fun
  | [d] => { results := [.lit (.bool true)], args := [d] }
  | _ => none }
def fnExactValidDrumRow : OpenClaim := { program := "ytjokokdmdgbocaa", sum := "d50c53c178ef688a146c9086cf6321e671ff78b3f8c3c482ae0507b6ebd33d08", func := "loop.example/g00930/laws.FnExactValidDrum", spec := "fnExactValidDrum", apart := false }
def FnExactValidDrumSaid : Prop := fnExactValidDrumRow.holds Try.pinned (OpenSpec.ofChange fnExactValidDrumSpec)

/-- ITS FALSE NEIGHBOUR: 'it returns false'. Refute it at one input. -/
def fnExactValidDrumWrong : ChangeSpec := { name := "fnExactValidDrum", fn := fun _ => fun
  | [d] => { results := [.lit (.bool false)], args := [d] }
  | _ => none }
def FnExactValidDrumWrongFalsely : Prop := fnExactValidDrumRow.holds Try.pinned (OpenSpec.ofChange fnExactValidDrumWrong)

/-- 'laws.FnExactCarryThrough': WHATEVER THE INPUT: true; the input reads as it did. -/
def fnExactCarryThroughSpec : ChangeSpec := { name := "fnExactCarryThrough", fn := fun _ => fun
  | [d1, d2] => { results := [.lit (.bool true)], args := [d1, d2] }
  | _ => none }
def fnExactCarryThroughRow : OpenClaim := { program := "ytjokokdmdgbocaa", sum := "d50c53c178ef688a146c9086cf6321e671ff78b3f8c3c482ae0507b6ebd33d08", func := "loop.example/g00930/laws.FnExactCarryThrough", spec := "fnExactCarryThrough", apart := false }
def FnExactCarryThroughSaid : Prop := fnExactCarryThroughRow.holds Try.pinned (OpenSpec.ofChange fnExactCarryThroughSpec)

/-- ITS FALSE NEIGHBOUR: 'it returns false'. Refute it at one input. -/
def fnExactCarryThroughWrong : ChangeSpec := { name := "fnExactCarryThrough", fn := fun _ => fun
  | [d1, d2] => { results := [.lit (.bool false)], args := [d1, d2] }
  | _ => none }
def FnExactCarryThroughWrongFalsely : Prop := fnExactCarryThroughRow.holds Try.pinned (OpenSpec.ofChange fnExactCarryThroughWrong)

/-- 'laws.FnExactBestGroup': WHATEVER THE INPUT: true; the input reads as it did. -/
def fnExactBestGroupSpec : ChangeSpec := { name := "fnExactBestGroup", fn := fun _ => fun
  | [d] => { results := [.lit (.bool true)], args := [d] }
  | _ => none }
def fnExactBestGroupRow : OpenClaim := { program := "ytjokokdmdgbocaa", sum := "d50c53c178ef688a146c9086cf6321e671ff78b3f8c3c482ae0507b6ebd33d08", func := "loop.example/g00930/laws.FnExactBestGroup", spec := "fnExactBestGroup", apart := false }
def FnExactBestGroupSaid : Prop := fnExactBestGroupRow.holds Try.pinned (OpenSpec.ofChange fnExactBestGroupSpec)

/-- ITS FALSE NEIGHBOUR: 'it returns false'. Refute it at one input. -/
def fnExactBestGroupWrong : ChangeSpec := { name := "fnExactBestGroup", fn := fun _ => fun
  | [d] => { results := [.lit (.bool false)], args := [d] }
  | _ => none }
def FnExactBestGroupWrongFalsely : Prop := fnExactBestGroupRow.holds Try.pinned (OpenSpec.ofChange fnExactBestGroupWrong)

/- THE SECOND FORM. 'bulk': how many values and letters a reading holds, each counted each time it is reached (what is shared counts as often as it is met; a slice's spare places count too). A statement '..UptoSaid' is the law's where the arguments, and the package variables that the reading takes, are together of bulk at most 1048576: NARROWER than '..Said'. Prove '..Said' where nothing that the law and all that it calls make is longer than what came in: it says more and counts as full. Else prove '..UptoSaid'. A law counts once. -/
mutual
def uptoBulk {H : Type} : DataW H → Nat
  | .lit (.string bytes) => bytes.length + 1
  | .lit _ => 1
  | .nil => 1
  | .ptr d => uptoBulk d + 1
  | .slice elems spare => uptoBulkAll elems + uptoBulkAll spare + 1
  | .agg parts => uptoBulkAll parts + 1
  | .iface _ d => uptoBulk d + 1
  | .map entries => uptoBulkEntries entries + 1
  | .held _ => 1
def uptoBulkAll {H : Type} : List (DataW H) → Nat
  | [] => 0
  | d :: r => uptoBulk d + uptoBulkAll r
def uptoBulkEntries {H : Type} : List (Lit × DataW H) → Nat
  | [] => 0
  | x :: r => uptoBulkEntry x + uptoBulkEntries r
def uptoBulkEntry {H : Type} : Lit × DataW H → Nat
  | (.string bytes, d) => bytes.length + uptoBulk d + 1
  | (_, d) => uptoBulk d + 1
 end
def uptoSmall : (H : Type) → List (DataW H) → Bool := fun _ ds => decide (uptoBulkAll ds ≤ 1048576)
def OpenSpec.upto (s : _root_.Go.ChangeSpec) : _root_.Go.OpenSpec := { _root_.Go.OpenSpec.ofChange s with cond := some uptoSmall }

/-- 'laws.FnExactConstants', WHERE WHAT IT READS IS OF BULK AT MOST 1048576: true; the input reads as it did. -/
def fnExactConstantsUptoRow : OpenClaim := { program := "ytjokokdmdgbocaa", sum := "d50c53c178ef688a146c9086cf6321e671ff78b3f8c3c482ae0507b6ebd33d08", func := "loop.example/g00930/laws.FnExactConstants", spec := "fnExactConstants", apart := false, narrowed := true }
def FnExactConstantsUptoSaid : Prop := fnExactConstantsUptoRow.holds Try.pinned (OpenSpec.upto fnExactConstantsSpec)

/-- 'laws.FnExactCodeName', WHERE WHAT IT READS IS OF BULK AT MOST 1048576: true; the input reads as it did. -/
def fnExactCodeNameUptoRow : OpenClaim := { program := "ytjokokdmdgbocaa", sum := "d50c53c178ef688a146c9086cf6321e671ff78b3f8c3c482ae0507b6ebd33d08", func := "loop.example/g00930/laws.FnExactCodeName", spec := "fnExactCodeName", apart := false, narrowed := true }
def FnExactCodeNameUptoSaid : Prop := fnExactCodeNameUptoRow.holds Try.pinned (OpenSpec.upto fnExactCodeNameSpec)

/-- 'laws.FnExactDrumName', WHERE WHAT IT READS IS OF BULK AT MOST 1048576: true; the input reads as it did. -/
def fnExactDrumNameUptoRow : OpenClaim := { program := "ytjokokdmdgbocaa", sum := "d50c53c178ef688a146c9086cf6321e671ff78b3f8c3c482ae0507b6ebd33d08", func := "loop.example/g00930/laws.FnExactDrumName", spec := "fnExactDrumName", apart := false, narrowed := true }
def FnExactDrumNameUptoSaid : Prop := fnExactDrumNameUptoRow.holds Try.pinned (OpenSpec.upto fnExactDrumNameSpec)

/-- 'laws.FnExactJoinSignals', WHERE WHAT IT READS IS OF BULK AT MOST 1048576: true; the input reads as it did. -/
def fnExactJoinSignalsUptoRow : OpenClaim := { program := "ytjokokdmdgbocaa", sum := "d50c53c178ef688a146c9086cf6321e671ff78b3f8c3c482ae0507b6ebd33d08", func := "loop.example/g00930/laws.FnExactJoinSignals", spec := "fnExactJoinSignals", apart := false, narrowed := true }
def FnExactJoinSignalsUptoSaid : Prop := fnExactJoinSignalsUptoRow.holds Try.pinned (OpenSpec.upto fnExactJoinSignalsSpec)

/-- 'laws.FnExactIsName', WHERE WHAT IT READS IS OF BULK AT MOST 1048576: true; the input reads as it did. -/
def fnExactIsNameUptoRow : OpenClaim := { program := "ytjokokdmdgbocaa", sum := "d50c53c178ef688a146c9086cf6321e671ff78b3f8c3c482ae0507b6ebd33d08", func := "loop.example/g00930/laws.FnExactIsName", spec := "fnExactIsName", apart := false, narrowed := true }
def FnExactIsNameUptoSaid : Prop := fnExactIsNameUptoRow.holds Try.pinned (OpenSpec.upto fnExactIsNameSpec)

/-- 'laws.FnExactDepthAhead', WHERE WHAT IT READS IS OF BULK AT MOST 1048576: true; the input reads as it did. -/
def fnExactDepthAheadUptoRow : OpenClaim := { program := "ytjokokdmdgbocaa", sum := "d50c53c178ef688a146c9086cf6321e671ff78b3f8c3c482ae0507b6ebd33d08", func := "loop.example/g00930/laws.FnExactDepthAhead", spec := "fnExactDepthAhead", apart := false, narrowed := true }
def FnExactDepthAheadUptoSaid : Prop := fnExactDepthAheadUptoRow.holds Try.pinned (OpenSpec.upto fnExactDepthAheadSpec)

/-- 'laws.FnExactValidDrum', WHERE WHAT IT READS IS OF BULK AT MOST 1048576: true; the input reads as it did. -/
def fnExactValidDrumUptoRow : OpenClaim := { program := "ytjokokdmdgbocaa", sum := "d50c53c178ef688a146c9086cf6321e671ff78b3f8c3c482ae0507b6ebd33d08", func := "loop.example/g00930/laws.FnExactValidDrum", spec := "fnExactValidDrum", apart := false, narrowed := true }
def FnExactValidDrumUptoSaid : Prop := fnExactValidDrumUptoRow.holds Try.pinned (OpenSpec.upto fnExactValidDrumSpec)

/-- 'laws.FnExactCarryThrough', WHERE WHAT IT READS IS OF BULK AT MOST 1048576: true; the input reads as it did. -/
def fnExactCarryThroughUptoRow : OpenClaim := { program := "ytjokokdmdgbocaa", sum := "d50c53c178ef688a146c9086cf6321e671ff78b3f8c3c482ae0507b6ebd33d08", func := "loop.example/g00930/laws.FnExactCarryThrough", spec := "fnExactCarryThrough", apart := false, narrowed := true }
def FnExactCarryThroughUptoSaid : Prop := fnExactCarryThroughUptoRow.holds Try.pinned (OpenSpec.upto fnExactCarryThroughSpec)

/-- 'laws.FnExactBestGroup', WHERE WHAT IT READS IS OF BULK AT MOST 1048576: true; the input reads as it did. -/
def fnExactBestGroupUptoRow : OpenClaim := { program := "ytjokokdmdgbocaa", sum := "d50c53c178ef688a146c9086cf6321e671ff78b3f8c3c482ae0507b6ebd33d08", func := "loop.example/g00930/laws.FnExactBestGroup", spec := "fnExactBestGroup", apart := false, narrowed := true }
def FnExactBestGroupUptoSaid : Prop := fnExactBestGroupUptoRow.holds Try.pinned (OpenSpec.upto fnExactBestGroupSpec)

end Rows
end Go.Proofs.Ytjokokdmdgbocaa
