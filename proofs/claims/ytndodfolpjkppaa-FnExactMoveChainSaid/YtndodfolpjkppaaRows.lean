/-
  No cell of these rows narrows 'for every input' (looked for: loops, veiled, ifaces, maps, wideKeys, modest, calm, conditions, laid).
  DERIVED. THE GIVEN ROWS OF THIS SEAT. 11 by the template 'for every input the law returns true; each argument reads behind the call as it read before'; 0 by the template 'total and deterministic' (their statements: YtndodfolpjkppaaTotals.lean).
  GIVEN WITH THE SEED: the statements are not yours to turn. If you find one false, say at which input.
  Laid BY PROGRAM, IN A SANDBOX (cutbox-rows.mjs): the forced cells as the released guide's own fill.sh prints them over the translation bb4c1e990485294e… (all of the seat's roots in one cut). By AI agents, Wed Nov 11 2026. No macro, syntax, notation, axiom, sorry.
-/
import Derived.Test.YtndodfolpjkppaaChecked
import GoSem.Claim
import GoSem.ClaimJoined
import GoSem.ClaimMapViews
import Derived.JoinedTies
import Derived.KernelRfl
namespace Go.Proofs.Ytndodfolpjkppaa
/- THE CELL 'sum', in the pinned program and in every row, IS THE sha256 OF THE DUMP (.gsa) THAT YtndodfolpjkppaaProg.lean LOADS. Nothing in Lean hashes anything: it is a label: what it is worth is what the hold of that sum in a sandbox is worth. -/
noncomputable def Try.pinned : Pinned := { name := "ytndodfolpjkppaa", sum := "bb4c1e990485294e7f73b7ab2ebc3416dea4b3071c2327ccf814115cb6bb3ec9", checked := Try.checked }
namespace Rows
def none {H : Type} : Left H := { results := [], args := [] }

/-- 'laws.FnExactSameRegister': WHATEVER THE INPUT: true; the input reads as it did. -/
def fnExactSameRegisterSpec : ChangeSpec := { name := "fnExactSameRegister", fn := fun _ => fun
  | [d1, d2] => { results := [.lit (.bool true)], args := [d1, d2] }
  | _ => none }
def fnExactSameRegisterRow : OpenClaim := { program := "ytndodfolpjkppaa", sum := "bb4c1e990485294e7f73b7ab2ebc3416dea4b3071c2327ccf814115cb6bb3ec9", func := "loop.example/g00930/laws.FnExactSameRegister", spec := "fnExactSameRegister", apart := false }
def FnExactSameRegisterSaid : Prop := fnExactSameRegisterRow.holds Try.pinned (OpenSpec.ofChange fnExactSameRegisterSpec)

/-- ITS FALSE NEIGHBOUR: 'it returns false'. Refute it at one input. -/
def fnExactSameRegisterWrong : ChangeSpec := { name := "fnExactSameRegister", fn := fun _ => fun
  | [d1, d2] => { results := [.lit (.bool false)], args := [d1, d2] }
  | _ => none }
def FnExactSameRegisterWrongFalsely : Prop := fnExactSameRegisterRow.holds Try.pinned (OpenSpec.ofChange fnExactSameRegisterWrong)

/-- 'laws.FnExactSameChain': WHATEVER THE INPUT: true; the input reads as it did. -/
def fnExactSameChainSpec : ChangeSpec := { name := "fnExactSameChain", fn := fun _ => fun
  | [d1, d2] => { results := [.lit (.bool true)], args := [d1, d2] }
  | _ => none }
def fnExactSameChainRow : OpenClaim := { program := "ytndodfolpjkppaa", sum := "bb4c1e990485294e7f73b7ab2ebc3416dea4b3071c2327ccf814115cb6bb3ec9", func := "loop.example/g00930/laws.FnExactSameChain", spec := "fnExactSameChain", apart := false }
def FnExactSameChainSaid : Prop := fnExactSameChainRow.holds Try.pinned (OpenSpec.ofChange fnExactSameChainSpec)

/-- ITS FALSE NEIGHBOUR: 'it returns false'. Refute it at one input. -/
def fnExactSameChainWrong : ChangeSpec := { name := "fnExactSameChain", fn := fun _ => fun
  | [d1, d2] => { results := [.lit (.bool false)], args := [d1, d2] }
  | _ => none }
def FnExactSameChainWrongFalsely : Prop := fnExactSameChainRow.holds Try.pinned (OpenSpec.ofChange fnExactSameChainWrong)

/-- 'laws.FnExactNewRegister': WHATEVER THE INPUT: true; the input reads as it did. -/
def fnExactNewRegisterSpec : ChangeSpec := { name := "fnExactNewRegister", fn := fun _ => fun
  | [d1, d2, d3] => { results := [.lit (.bool true)], args := [d1, d2, d3] }
  | _ => none }
def fnExactNewRegisterRow : OpenClaim := { program := "ytndodfolpjkppaa", sum := "bb4c1e990485294e7f73b7ab2ebc3416dea4b3071c2327ccf814115cb6bb3ec9", func := "loop.example/g00930/laws.FnExactNewRegister", spec := "fnExactNewRegister", apart := false }
def FnExactNewRegisterSaid : Prop := fnExactNewRegisterRow.holds Try.pinned (OpenSpec.ofChange fnExactNewRegisterSpec)

/-- ITS FALSE NEIGHBOUR: 'it returns false'. Refute it at one input. -/
def fnExactNewRegisterWrong : ChangeSpec := { name := "fnExactNewRegister", fn := fun _ => fun
  | [d1, d2, d3] => { results := [.lit (.bool false)], args := [d1, d2, d3] }
  | _ => none }
def FnExactNewRegisterWrongFalsely : Prop := fnExactNewRegisterRow.holds Try.pinned (OpenSpec.ofChange fnExactNewRegisterWrong)

/-- 'laws.FnExactValidRegister': WHATEVER THE INPUT: true; the input reads as it did. -/
def fnExactValidRegisterSpec : ChangeSpec := { name := "fnExactValidRegister", fn := fun _ => fun
  | [d] => { results := [.lit (.bool true)], args := [d] }
  | _ => none }
def fnExactValidRegisterRow : OpenClaim := { program := "ytndodfolpjkppaa", sum := "bb4c1e990485294e7f73b7ab2ebc3416dea4b3071c2327ccf814115cb6bb3ec9", func := "loop.example/g00930/laws.FnExactValidRegister", spec := "fnExactValidRegister", apart := false }
def FnExactValidRegisterSaid : Prop := fnExactValidRegisterRow.holds Try.pinned (OpenSpec.ofChange fnExactValidRegisterSpec)

/-- ITS FALSE NEIGHBOUR: 'it returns false'. Refute it at one input. -/
def fnExactValidRegisterWrong : ChangeSpec := { name := "fnExactValidRegister", fn := fun _ => fun
  | [d] => { results := [.lit (.bool false)], args := [d] }
  | _ => none }
def FnExactValidRegisterWrongFalsely : Prop := fnExactValidRegisterRow.holds Try.pinned (OpenSpec.ofChange fnExactValidRegisterWrong)

/-- 'laws.FnExactValidChain': WHATEVER THE INPUT: true; the input reads as it did. -/
def fnExactValidChainSpec : ChangeSpec := { name := "fnExactValidChain", fn := fun _ => fun
  | [d] => { results := [.lit (.bool true)], args := [d] }
  | _ => none }
def fnExactValidChainRow : OpenClaim := { program := "ytndodfolpjkppaa", sum := "bb4c1e990485294e7f73b7ab2ebc3416dea4b3071c2327ccf814115cb6bb3ec9", func := "loop.example/g00930/laws.FnExactValidChain", spec := "fnExactValidChain", apart := false }
def FnExactValidChainSaid : Prop := fnExactValidChainRow.holds Try.pinned (OpenSpec.ofChange fnExactValidChainSpec)

/-- ITS FALSE NEIGHBOUR: 'it returns false'. Refute it at one input. -/
def fnExactValidChainWrong : ChangeSpec := { name := "fnExactValidChain", fn := fun _ => fun
  | [d] => { results := [.lit (.bool false)], args := [d] }
  | _ => none }
def FnExactValidChainWrongFalsely : Prop := fnExactValidChainRow.holds Try.pinned (OpenSpec.ofChange fnExactValidChainWrong)

/-- 'laws.FnExactValueOf': WHATEVER THE INPUT: true; the input reads as it did. -/
def fnExactValueOfSpec : ChangeSpec := { name := "fnExactValueOf", fn := fun _ => fun
  | [d] => { results := [.lit (.bool true)], args := [d] }
  | _ => none }
def fnExactValueOfRow : OpenClaim := { program := "ytndodfolpjkppaa", sum := "bb4c1e990485294e7f73b7ab2ebc3416dea4b3071c2327ccf814115cb6bb3ec9", func := "loop.example/g00930/laws.FnExactValueOf", spec := "fnExactValueOf", apart := false }
def FnExactValueOfSaid : Prop := fnExactValueOfRow.holds Try.pinned (OpenSpec.ofChange fnExactValueOfSpec)

/-- ITS FALSE NEIGHBOUR: 'it returns false'. Refute it at one input. -/
def fnExactValueOfWrong : ChangeSpec := { name := "fnExactValueOf", fn := fun _ => fun
  | [d] => { results := [.lit (.bool false)], args := [d] }
  | _ => none }
def FnExactValueOfWrongFalsely : Prop := fnExactValueOfRow.holds Try.pinned (OpenSpec.ofChange fnExactValueOfWrong)

/-- 'laws.FnExactTotalPlay': WHATEVER THE INPUT: true; the input reads as it did. -/
def fnExactTotalPlaySpec : ChangeSpec := { name := "fnExactTotalPlay", fn := fun _ => fun
  | [d] => { results := [.lit (.bool true)], args := [d] }
  | _ => none }
def fnExactTotalPlayRow : OpenClaim := { program := "ytndodfolpjkppaa", sum := "bb4c1e990485294e7f73b7ab2ebc3416dea4b3071c2327ccf814115cb6bb3ec9", func := "loop.example/g00930/laws.FnExactTotalPlay", spec := "fnExactTotalPlay", apart := false }
def FnExactTotalPlaySaid : Prop := fnExactTotalPlayRow.holds Try.pinned (OpenSpec.ofChange fnExactTotalPlaySpec)

/-- ITS FALSE NEIGHBOUR: 'it returns false'. Refute it at one input. -/
def fnExactTotalPlayWrong : ChangeSpec := { name := "fnExactTotalPlay", fn := fun _ => fun
  | [d] => { results := [.lit (.bool false)], args := [d] }
  | _ => none }
def FnExactTotalPlayWrongFalsely : Prop := fnExactTotalPlayRow.holds Try.pinned (OpenSpec.ofChange fnExactTotalPlayWrong)

/-- 'laws.FnExactWorstRipple': WHATEVER THE INPUT: true; the input reads as it did. -/
def fnExactWorstRippleSpec : ChangeSpec := { name := "fnExactWorstRipple", fn := fun _ => fun
  | [d1, d2] => { results := [.lit (.bool true)], args := [d1, d2] }
  | _ => none }
def fnExactWorstRippleRow : OpenClaim := { program := "ytndodfolpjkppaa", sum := "bb4c1e990485294e7f73b7ab2ebc3416dea4b3071c2327ccf814115cb6bb3ec9", func := "loop.example/g00930/laws.FnExactWorstRipple", spec := "fnExactWorstRipple", apart := false }
def FnExactWorstRippleSaid : Prop := fnExactWorstRippleRow.holds Try.pinned (OpenSpec.ofChange fnExactWorstRippleSpec)

/-- ITS FALSE NEIGHBOUR: 'it returns false'. Refute it at one input. -/
def fnExactWorstRippleWrong : ChangeSpec := { name := "fnExactWorstRipple", fn := fun _ => fun
  | [d1, d2] => { results := [.lit (.bool false)], args := [d1, d2] }
  | _ => none }
def FnExactWorstRippleWrongFalsely : Prop := fnExactWorstRippleRow.holds Try.pinned (OpenSpec.ofChange fnExactWorstRippleWrong)

/-- 'laws.FnExactMoveNeeded': WHATEVER THE INPUT: true; the input reads as it did. -/
def fnExactMoveNeededSpec : ChangeSpec := { name := "fnExactMoveNeeded", fn := fun _ => fun
  | [d1, d2] => { results := [.lit (.bool true)], args := [d1, d2] }
  | _ => none }
def fnExactMoveNeededRow : OpenClaim := { program := "ytndodfolpjkppaa", sum := "bb4c1e990485294e7f73b7ab2ebc3416dea4b3071c2327ccf814115cb6bb3ec9", func := "loop.example/g00930/laws.FnExactMoveNeeded", spec := "fnExactMoveNeeded", apart := false }
def FnExactMoveNeededSaid : Prop := fnExactMoveNeededRow.holds Try.pinned (OpenSpec.ofChange fnExactMoveNeededSpec)

/-- ITS FALSE NEIGHBOUR: 'it returns false'. Refute it at one input. -/
def fnExactMoveNeededWrong : ChangeSpec := { name := "fnExactMoveNeeded", fn := fun _ => fun
  | [d1, d2] => { results := [.lit (.bool false)], args := [d1, d2] }
  | _ => none }
def FnExactMoveNeededWrongFalsely : Prop := fnExactMoveNeededRow.holds Try.pinned (OpenSpec.ofChange fnExactMoveNeededWrong)

/-- 'laws.FnExactComplementOf': WHATEVER THE INPUT: true; the input reads as it did. -/
def fnExactComplementOfSpec : ChangeSpec := { name := "fnExactComplementOf", fn := fun _ => fun
  | [d] => { results := [.lit (.bool true)], args := [d] }
  | _ => none }
def fnExactComplementOfRow : OpenClaim := { program := "ytndodfolpjkppaa", sum := "bb4c1e990485294e7f73b7ab2ebc3416dea4b3071c2327ccf814115cb6bb3ec9", func := "loop.example/g00930/laws.FnExactComplementOf", spec := "fnExactComplementOf", apart := false }
def FnExactComplementOfSaid : Prop := fnExactComplementOfRow.holds Try.pinned (OpenSpec.ofChange fnExactComplementOfSpec)

/-- ITS FALSE NEIGHBOUR: 'it returns false'. Refute it at one input. -/
def fnExactComplementOfWrong : ChangeSpec := { name := "fnExactComplementOf", fn := fun _ => fun
  | [d] => { results := [.lit (.bool false)], args := [d] }
  | _ => none }
def FnExactComplementOfWrongFalsely : Prop := fnExactComplementOfRow.holds Try.pinned (OpenSpec.ofChange fnExactComplementOfWrong)

/-- 'laws.FnExactMoveChain': WHATEVER THE INPUT: true; the input reads as it did. -/
def fnExactMoveChainSpec : ChangeSpec := { name := "fnExactMoveChain", fn := fun _ => fun
  | [d1, d2] => { results := [.lit (.bool true)], args := [d1, d2] }
  | _ => none }
def fnExactMoveChainRow : OpenClaim := { program := "ytndodfolpjkppaa", sum := "bb4c1e990485294e7f73b7ab2ebc3416dea4b3071c2327ccf814115cb6bb3ec9", func := "loop.example/g00930/laws.FnExactMoveChain", spec := "fnExactMoveChain", apart := false }
def FnExactMoveChainSaid : Prop := fnExactMoveChainRow.holds Try.pinned (OpenSpec.ofChange fnExactMoveChainSpec)

/-- ITS FALSE NEIGHBOUR: 'it returns false'. Refute it at one input. -/
def fnExactMoveChainWrong : ChangeSpec := { name := "fnExactMoveChain", fn := fun _ => fun
  | [d1, d2] => { results := [.lit (.bool false)], args := [d1, d2] }
  | _ => none }
def FnExactMoveChainWrongFalsely : Prop := fnExactMoveChainRow.holds Try.pinned (OpenSpec.ofChange fnExactMoveChainWrong)

/- THE SECOND FORM. 'bulk': how many values and letters a reading holds, each counted each time it is reached (what is shared counts as often as it is met; a slice's spare places count too). A statement '..UptoSaid' is the law's where the arguments, and the package variables that the reading takes, are together of bulk at most 1048576: NARROWER than '..Said'. Prove '..Said' where nothing that the law and all that it calls make is longer than what came in: it says more and counts as full. Else prove '..UptoSaid'. A law counts once. -/
mutual
def uptoBulk {H : Type} : DataW H → Nat
  | .lit (.string bytes) => bytes.length + 1
  | .lit _ => 1
  | .nil => 1
  | .ptr d => uptoBulk d + 1
  | .slice elems spare => uptoBulkAll elems + uptoBulkAll spare + 1
  | .agg parts => uptoBulkAll parts + 1
  | .iface _ d => uptoBulk d + 1
  | .map entries => uptoBulkEntries entries + 1
  | .held _ => 1
def uptoBulkAll {H : Type} : List (DataW H) → Nat
  | [] => 0
  | d :: r => uptoBulk d + uptoBulkAll r
def uptoBulkEntries {H : Type} : List (Lit × DataW H) → Nat
  | [] => 0
  | x :: r => uptoBulkEntry x + uptoBulkEntries r
def uptoBulkEntry {H : Type} : Lit × DataW H → Nat
  | (.string bytes, d) => bytes.length + uptoBulk d + 1
  | (_, d) => uptoBulk d + 1
 end
def uptoSmall : (H : Type) → List (DataW H) → Bool := fun _ ds => decide (uptoBulkAll ds ≤ 1048576)
def OpenSpec.upto (s : _root_.Go.ChangeSpec) : _root_.Go.OpenSpec := { _root_.Go.OpenSpec.ofChange s with cond := some uptoSmall }

/-- 'laws.FnExactSameRegister', WHERE WHAT IT READS IS OF BULK AT MOST 1048576: true; the input reads as it did. -/
def fnExactSameRegisterUptoRow : OpenClaim := { program := "ytndodfolpjkppaa", sum := "bb4c1e990485294e7f73b7ab2ebc3416dea4b3071c2327ccf814115cb6bb3ec9", func := "loop.example/g00930/laws.FnExactSameRegister", spec := "fnExactSameRegister", apart := false, narrowed := true }
def FnExactSameRegisterUptoSaid : Prop := fnExactSameRegisterUptoRow.holds Try.pinned (OpenSpec.upto fnExactSameRegisterSpec)

/-- 'laws.FnExactSameChain', WHERE WHAT IT READS IS OF BULK AT MOST 1048576: true; the input reads as it did. -/
def fnExactSameChainUptoRow : OpenClaim := { program := "ytndodfolpjkppaa", sum := "bb4c1e990485294e7f73b7ab2ebc3416dea4b3071c2327ccf814115cb6bb3ec9", func := "loop.example/g00930/laws.FnExactSameChain", spec := "fnExactSameChain", apart := false, narrowed := true }
def FnExactSameChainUptoSaid : Prop := fnExactSameChainUptoRow.holds Try.pinned (OpenSpec.upto fnExactSameChainSpec)

/-- 'laws.FnExactNewRegister', WHERE WHAT IT READS IS OF BULK AT MOST 1048576: true; the input reads as it did. -/
def fnExactNewRegisterUptoRow : OpenClaim := { program := "ytndodfolpjkppaa", sum := "bb4c1e990485294e7f73b7ab2ebc3416dea4b3071c2327ccf814115cb6bb3ec9", func := "loop.example/g00930/laws.FnExactNewRegister", spec := "fnExactNewRegister", apart := false, narrowed := true }
def FnExactNewRegisterUptoSaid : Prop := fnExactNewRegisterUptoRow.holds Try.pinned (OpenSpec.upto fnExactNewRegisterSpec)

/-- 'laws.FnExactValidRegister', WHERE WHAT IT READS IS OF BULK AT MOST 1048576: true; the input reads as it did. -/
def fnExactValidRegisterUptoRow : OpenClaim := { program := "ytndodfolpjkppaa", sum := "bb4c1e990485294e7f73b7ab2ebc3416dea4b3071c2327ccf814115cb6bb3ec9", func := "loop.example/g00930/laws.FnExactValidRegister", spec := "fnExactValidRegister", apart := false, narrowed := true }
def FnExactValidRegisterUptoSaid : Prop := fnExactValidRegisterUptoRow.holds Try.pinned (OpenSpec.upto fnExactValidRegisterSpec)

/-- 'laws.FnExactValidChain', WHERE WHAT IT READS IS OF BULK AT MOST 1048576: true; the input reads as it did. -/
def fnExactValidChainUptoRow : OpenClaim := { program := "ytndodfolpjkppaa", sum := "bb4c1e990485294e7f73b7ab2ebc3416dea4b3071c2327ccf814115cb6bb3ec9", func := "loop.example/g00930/laws.FnExactValidChain", spec := "fnExactValidChain", apart := false, narrowed := true }
def FnExactValidChainUptoSaid : Prop := fnExactValidChainUptoRow.holds Try.pinned (OpenSpec.upto fnExactValidChainSpec)

/-- 'laws.FnExactValueOf', WHERE WHAT IT READS IS OF BULK AT MOST 1048576: true; the input reads as it did. -/
def fnExactValueOfUptoRow : OpenClaim := { program := "ytndodfolpjkppaa", sum := "bb4c1e990485294e7f73b7ab2ebc3416dea4b3071c2327ccf814115cb6bb3ec9", func := "loop.example/g00930/laws.FnExactValueOf", spec := "fnExactValueOf", apart := false, narrowed := true }
def FnExactValueOfUptoSaid : Prop := fnExactValueOfUptoRow.holds Try.pinned (OpenSpec.upto fnExactValueOfSpec)

/-- 'laws.FnExactTotalPlay', WHERE WHAT IT READS IS OF BULK AT MOST 1048576: true; the input reads as it did. -/
def fnExactTotalPlayUptoRow : OpenClaim := { program := "ytndodfolpjkppaa", sum := "bb4c1e990485294e7f73b7ab2ebc3416dea4b3071c2327ccf814115cb6bb3ec9", func := "loop.example/g00930/laws.FnExactTotalPlay", spec := "fnExactTotalPlay", apart := false, narrowed := true }
def FnExactTotalPlayUptoSaid : Prop := fnExactTotalPlayUptoRow.holds Try.pinned (OpenSpec.upto fnExactTotalPlaySpec)

/-- 'laws.FnExactWorstRipple', WHERE WHAT IT READS IS OF BULK AT MOST 1048576: true; the input reads as it did. -/
def fnExactWorstRippleUptoRow : OpenClaim := { program := "ytndodfolpjkppaa", sum := "bb4c1e990485294e7f73b7ab2ebc3416dea4b3071c2327ccf814115cb6bb3ec9", func := "loop.example/g00930/laws.FnExactWorstRipple", spec := "fnExactWorstRipple", apart := false, narrowed := true }
def FnExactWorstRippleUptoSaid : Prop := fnExactWorstRippleUptoRow.holds Try.pinned (OpenSpec.upto fnExactWorstRippleSpec)

/-- 'laws.FnExactMoveNeeded', WHERE WHAT IT READS IS OF BULK AT MOST 1048576: true; the input reads as it did. -/
def fnExactMoveNeededUptoRow : OpenClaim := { program := "ytndodfolpjkppaa", sum := "bb4c1e990485294e7f73b7ab2ebc3416dea4b3071c2327ccf814115cb6bb3ec9", func := "loop.example/g00930/laws.FnExactMoveNeeded", spec := "fnExactMoveNeeded", apart := false, narrowed := true }
def FnExactMoveNeededUptoSaid : Prop := fnExactMoveNeededUptoRow.holds Try.pinned (OpenSpec.upto fnExactMoveNeededSpec)

/-- 'laws.FnExactComplementOf', WHERE WHAT IT READS IS OF BULK AT MOST 1048576: true; the input reads as it did. -/
def fnExactComplementOfUptoRow : OpenClaim := { program := "ytndodfolpjkppaa", sum := "bb4c1e990485294e7f73b7ab2ebc3416dea4b3071c2327ccf814115cb6bb3ec9", func := "loop.example/g00930/laws.FnExactComplementOf", spec := "fnExactComplementOf", apart := false, narrowed := true }
def FnExactComplementOfUptoSaid : Prop := fnExactComplementOfUptoRow.holds Try.pinned (OpenSpec.upto fnExactComplementOfSpec)

/-- 'laws.FnExactMoveChain', WHERE WHAT IT READS IS OF BULK AT MOST 1048576: true; the input reads as it did. -/
def fnExactMoveChainUptoRow : OpenClaim := { program := "ytndodfolpjkppaa", sum := "bb4c1e990485294e7f73b7ab2ebc3416dea4b3071c2327ccf814115cb6bb3ec9", func := "loop.example/g00930/laws.FnExactMoveChain", spec := "fnExactMoveChain", apart := false, narrowed := true }
def FnExactMoveChainUptoSaid : Prop := fnExactMoveChainUptoRow.holds Try.pinned (OpenSpec.upto fnExactMoveChainSpec)

end Rows
end Go.Proofs.Ytndodfolpjkppaa
