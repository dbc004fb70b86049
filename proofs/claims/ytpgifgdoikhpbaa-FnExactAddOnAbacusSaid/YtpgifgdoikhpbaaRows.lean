/-
  No cell of these rows narrows 'for every input' (looked for: loops, veiled, ifaces, maps, wideKeys, modest, calm, conditions, laid).
  DERIVED. THE GIVEN ROWS OF THIS SEAT. 11 by the template 'for every input the law returns true; each argument reads behind the call as it read before'; 0 by the template 'total and deterministic' (their statements: YtpgifgdoikhpbaaTotals.lean).
  GIVEN WITH THE SEED: the statements are not yours to turn. If you find one false, say at which input.
  Laid BY PROGRAM, IN A SANDBOX (cutbox-rows.mjs): the forced cells as the released guide's own fill.sh prints them over the translation 084e698ee6e68ae6… (all of the seat's roots in one cut). By AI agents, Wed Nov 11 2026. No macro, syntax, notation, axiom, sorry.
-/
import Derived.Test.YtpgifgdoikhpbaaChecked
import GoSem.Claim
import GoSem.ClaimJoined
import GoSem.ClaimMapViews
import Derived.JoinedTies
import Derived.KernelRfl
namespace Go.Proofs.Ytpgifgdoikhpbaa
/- THE CELL 'sum', in the pinned program and in every row, IS THE sha256 OF THE DUMP (.gsa) THAT YtpgifgdoikhpbaaProg.lean LOADS. Nothing in Lean hashes anything: it is a label: what it is worth is what the hold of that sum in a sandbox is worth. -/
noncomputable def Try.pinned : Pinned := { name := "ytpgifgdoikhpbaa", sum := "084e698ee6e68ae6a7000afab6b54e6ccb3546e91e386d82405f30958c46ed8e", checked := Try.checked }
namespace Rows
def none {H : Type} : Left H := { results := [], args := [] }

/-- 'laws.FnExactSameAbacus': WHATEVER THE INPUT: true; the input reads as it did. -/
def fnExactSameAbacusSpec : ChangeSpec := { name := "fnExactSameAbacus", fn := fun _ => fun
  | [d1, d2] => { results := [.lit (.bool true)], args := [d1, d2] }
  | _ => none }
def fnExactSameAbacusRow : OpenClaim := { program := "ytpgifgdoikhpbaa", sum := "084e698ee6e68ae6a7000afab6b54e6ccb3546e91e386d82405f30958c46ed8e", func := "loop.example/g00930/laws.FnExactSameAbacus", spec := "fnExactSameAbacus", apart := false }
def FnExactSameAbacusSaid : Prop := fnExactSameAbacusRow.holds Try.pinned (OpenSpec.ofChange fnExactSameAbacusSpec)

/-- ITS FALSE NEIGHBOUR: 'it returns false'. Refute it at one input. -/
def fnExactSameAbacusWrong : ChangeSpec := { name := "fnExactSameAbacus", fn := fun _ => fun
  | [d1, d2] => { results := [.lit (.bool false)], args := [d1, d2] }
  | _ => none }
def FnExactSameAbacusWrongFalsely : Prop := fnExactSameAbacusRow.holds Try.pinned (OpenSpec.ofChange fnExactSameAbacusWrong)

/-- 'laws.FnExactValidAbacus': WHATEVER THE INPUT: true; the input reads as it did. -/
def fnExactValidAbacusSpec : ChangeSpec := { name := "fnExactValidAbacus", fn := fun _ => fun
  | [d] => { results := [.lit (.bool true)], args := [d] }
  | _ => none }
def fnExactValidAbacusRow : OpenClaim := { program := "ytpgifgdoikhpbaa", sum := "084e698ee6e68ae6a7000afab6b54e6ccb3546e91e386d82405f30958c46ed8e", func := "loop.example/g00930/laws.FnExactValidAbacus", spec := "fnExactValidAbacus", apart := false }
def FnExactValidAbacusSaid : Prop := fnExactValidAbacusRow.holds Try.pinned (OpenSpec.ofChange fnExactValidAbacusSpec)

/-- ITS FALSE NEIGHBOUR: 'it returns false'. Refute it at one input. -/
def fnExactValidAbacusWrong : ChangeSpec := { name := "fnExactValidAbacus", fn := fun _ => fun
  | [d] => { results := [.lit (.bool false)], args := [d] }
  | _ => none }
def FnExactValidAbacusWrongFalsely : Prop := fnExactValidAbacusRow.holds Try.pinned (OpenSpec.ofChange fnExactValidAbacusWrong)

/-- 'laws.FnExactAbacusValue': WHATEVER THE INPUT: true; the input reads as it did. -/
def fnExactAbacusValueSpec : ChangeSpec := { name := "fnExactAbacusValue", fn := fun _ => fun
  | [d] => { results := [.lit (.bool true)], args := [d] }
  | _ => none }
def fnExactAbacusValueRow : OpenClaim := { program := "ytpgifgdoikhpbaa", sum := "084e698ee6e68ae6a7000afab6b54e6ccb3546e91e386d82405f30958c46ed8e", func := "loop.example/g00930/laws.FnExactAbacusValue", spec := "fnExactAbacusValue", apart := false }
def FnExactAbacusValueSaid : Prop := fnExactAbacusValueRow.holds Try.pinned (OpenSpec.ofChange fnExactAbacusValueSpec)

/-- ITS FALSE NEIGHBOUR: 'it returns false'. Refute it at one input. -/
def fnExactAbacusValueWrong : ChangeSpec := { name := "fnExactAbacusValue", fn := fun _ => fun
  | [d] => { results := [.lit (.bool false)], args := [d] }
  | _ => none }
def FnExactAbacusValueWrongFalsely : Prop := fnExactAbacusValueRow.holds Try.pinned (OpenSpec.ofChange fnExactAbacusValueWrong)

/-- 'laws.FnExactBeadsBetween': WHATEVER THE INPUT: true; the input reads as it did. -/
def fnExactBeadsBetweenSpec : ChangeSpec := { name := "fnExactBeadsBetween", fn := fun _ => fun
  | [d1, d2] => { results := [.lit (.bool true)], args := [d1, d2] }
  | _ => none }
def fnExactBeadsBetweenRow : OpenClaim := { program := "ytpgifgdoikhpbaa", sum := "084e698ee6e68ae6a7000afab6b54e6ccb3546e91e386d82405f30958c46ed8e", func := "loop.example/g00930/laws.FnExactBeadsBetween", spec := "fnExactBeadsBetween", apart := false }
def FnExactBeadsBetweenSaid : Prop := fnExactBeadsBetweenRow.holds Try.pinned (OpenSpec.ofChange fnExactBeadsBetweenSpec)

/-- ITS FALSE NEIGHBOUR: 'it returns false'. Refute it at one input. -/
def fnExactBeadsBetweenWrong : ChangeSpec := { name := "fnExactBeadsBetween", fn := fun _ => fun
  | [d1, d2] => { results := [.lit (.bool false)], args := [d1, d2] }
  | _ => none }
def FnExactBeadsBetweenWrongFalsely : Prop := fnExactBeadsBetweenRow.holds Try.pinned (OpenSpec.ofChange fnExactBeadsBetweenWrong)

/-- 'laws.FnExactMoveBeads': WHATEVER THE INPUT: true; the input reads as it did. -/
def fnExactMoveBeadsSpec : ChangeSpec := { name := "fnExactMoveBeads", fn := fun _ => fun
  | [d1, d2] => { results := [.lit (.bool true)], args := [d1, d2] }
  | _ => none }
def fnExactMoveBeadsRow : OpenClaim := { program := "ytpgifgdoikhpbaa", sum := "084e698ee6e68ae6a7000afab6b54e6ccb3546e91e386d82405f30958c46ed8e", func := "loop.example/g00930/laws.FnExactMoveBeads", spec := "fnExactMoveBeads", apart := false }
def FnExactMoveBeadsSaid : Prop := fnExactMoveBeadsRow.holds Try.pinned (OpenSpec.ofChange fnExactMoveBeadsSpec)

/-- ITS FALSE NEIGHBOUR: 'it returns false'. Refute it at one input. -/
def fnExactMoveBeadsWrong : ChangeSpec := { name := "fnExactMoveBeads", fn := fun _ => fun
  | [d1, d2] => { results := [.lit (.bool false)], args := [d1, d2] }
  | _ => none }
def FnExactMoveBeadsWrongFalsely : Prop := fnExactMoveBeadsRow.holds Try.pinned (OpenSpec.ofChange fnExactMoveBeadsWrong)

/-- 'laws.FnExactIsPlain': WHATEVER THE INPUT: true; the input reads as it did. -/
def fnExactIsPlainSpec : ChangeSpec := { name := "fnExactIsPlain", fn := fun _ => fun
  | [d] => { results := [.lit (.bool true)], args := [d] }
  | _ => none }
def fnExactIsPlainRow : OpenClaim := { program := "ytpgifgdoikhpbaa", sum := "084e698ee6e68ae6a7000afab6b54e6ccb3546e91e386d82405f30958c46ed8e", func := "loop.example/g00930/laws.FnExactIsPlain", spec := "fnExactIsPlain", apart := false }
def FnExactIsPlainSaid : Prop := fnExactIsPlainRow.holds Try.pinned (OpenSpec.ofChange fnExactIsPlainSpec)

/-- ITS FALSE NEIGHBOUR: 'it returns false'. Refute it at one input. -/
def fnExactIsPlainWrong : ChangeSpec := { name := "fnExactIsPlain", fn := fun _ => fun
  | [d] => { results := [.lit (.bool false)], args := [d] }
  | _ => none }
def FnExactIsPlainWrongFalsely : Prop := fnExactIsPlainRow.holds Try.pinned (OpenSpec.ofChange fnExactIsPlainWrong)

/-- 'laws.FnExactSetAbacus': WHATEVER THE INPUT: true; the input reads as it did. -/
def fnExactSetAbacusSpec : ChangeSpec := { name := "fnExactSetAbacus", fn := fun _ => fun
  | [d1, d2] => { results := [.lit (.bool true)], args := [d1, d2] }
  | _ => none }
def fnExactSetAbacusRow : OpenClaim := { program := "ytpgifgdoikhpbaa", sum := "084e698ee6e68ae6a7000afab6b54e6ccb3546e91e386d82405f30958c46ed8e", func := "loop.example/g00930/laws.FnExactSetAbacus", spec := "fnExactSetAbacus", apart := false }
def FnExactSetAbacusSaid : Prop := fnExactSetAbacusRow.holds Try.pinned (OpenSpec.ofChange fnExactSetAbacusSpec)

/-- ITS FALSE NEIGHBOUR: 'it returns false'. Refute it at one input. -/
def fnExactSetAbacusWrong : ChangeSpec := { name := "fnExactSetAbacus", fn := fun _ => fun
  | [d1, d2] => { results := [.lit (.bool false)], args := [d1, d2] }
  | _ => none }
def FnExactSetAbacusWrongFalsely : Prop := fnExactSetAbacusRow.holds Try.pinned (OpenSpec.ofChange fnExactSetAbacusWrong)

/-- 'laws.FnExactPlainAbacus': WHATEVER THE INPUT: true; the input reads as it did. -/
def fnExactPlainAbacusSpec : ChangeSpec := { name := "fnExactPlainAbacus", fn := fun _ => fun
  | [d] => { results := [.lit (.bool true)], args := [d] }
  | _ => none }
def fnExactPlainAbacusRow : OpenClaim := { program := "ytpgifgdoikhpbaa", sum := "084e698ee6e68ae6a7000afab6b54e6ccb3546e91e386d82405f30958c46ed8e", func := "loop.example/g00930/laws.FnExactPlainAbacus", spec := "fnExactPlainAbacus", apart := false }
def FnExactPlainAbacusSaid : Prop := fnExactPlainAbacusRow.holds Try.pinned (OpenSpec.ofChange fnExactPlainAbacusSpec)

/-- ITS FALSE NEIGHBOUR: 'it returns false'. Refute it at one input. -/
def fnExactPlainAbacusWrong : ChangeSpec := { name := "fnExactPlainAbacus", fn := fun _ => fun
  | [d] => { results := [.lit (.bool false)], args := [d] }
  | _ => none }
def FnExactPlainAbacusWrongFalsely : Prop := fnExactPlainAbacusRow.holds Try.pinned (OpenSpec.ofChange fnExactPlainAbacusWrong)

/-- 'laws.FnExactReplayBeads': WHATEVER THE INPUT: true; the input reads as it did. -/
def fnExactReplayBeadsSpec : ChangeSpec := { name := "fnExactReplayBeads", fn := fun _ => fun
  | [d1, d2] => { results := [.lit (.bool true)], args := [d1, d2] }
  | _ => none }
def fnExactReplayBeadsRow : OpenClaim := { program := "ytpgifgdoikhpbaa", sum := "084e698ee6e68ae6a7000afab6b54e6ccb3546e91e386d82405f30958c46ed8e", func := "loop.example/g00930/laws.FnExactReplayBeads", spec := "fnExactReplayBeads", apart := false }
def FnExactReplayBeadsSaid : Prop := fnExactReplayBeadsRow.holds Try.pinned (OpenSpec.ofChange fnExactReplayBeadsSpec)

/-- ITS FALSE NEIGHBOUR: 'it returns false'. Refute it at one input. -/
def fnExactReplayBeadsWrong : ChangeSpec := { name := "fnExactReplayBeads", fn := fun _ => fun
  | [d1, d2] => { results := [.lit (.bool false)], args := [d1, d2] }
  | _ => none }
def FnExactReplayBeadsWrongFalsely : Prop := fnExactReplayBeadsRow.holds Try.pinned (OpenSpec.ofChange fnExactReplayBeadsWrong)

/-- 'laws.FnExactAddOnAbacus': WHATEVER THE INPUT: true; the input reads as it did. -/
def fnExactAddOnAbacusSpec : ChangeSpec := { name := "fnExactAddOnAbacus", fn := fun _ => fun
  | [d1, d2] => { results := [.lit (.bool true)], args := [d1, d2] }
  | _ => none }
def fnExactAddOnAbacusRow : OpenClaim := { program := "ytpgifgdoikhpbaa", sum := "084e698ee6e68ae6a7000afab6b54e6ccb3546e91e386d82405f30958c46ed8e", func := "loop.example/g00930/laws.FnExactAddOnAbacus", spec := "fnExactAddOnAbacus", recurses := true, apart := false }
def FnExactAddOnAbacusSaid : Prop := fnExactAddOnAbacusRow.holds Try.pinned (OpenSpec.ofChange fnExactAddOnAbacusSpec)

/-- ITS FALSE NEIGHBOUR: 'it returns false'. Refute it at one input. -/
def fnExactAddOnAbacusWrong : ChangeSpec := { name := "fnExactAddOnAbacus", fn := fun _ => fun
  | [d1, d2] => { results := [.lit (.bool false)], args := [d1, d2] }
  | _ => none }
def FnExactAddOnAbacusWrongFalsely : Prop := fnExactAddOnAbacusRow.holds Try.pinned (OpenSpec.ofChange fnExactAddOnAbacusWrong)

/-- 'laws.FnExactAbacusPicture': WHATEVER THE INPUT: true; the input reads as it did. -/
def fnExactAbacusPictureSpec : ChangeSpec := { name := "fnExactAbacusPicture", fn := fun _ => fun
  | [d] => { results := [.lit (.bool true)], args := [d] }
  | _ => none }
def fnExactAbacusPictureRow : OpenClaim := { program := "ytpgifgdoikhpbaa", sum := "084e698ee6e68ae6a7000afab6b54e6ccb3546e91e386d82405f30958c46ed8e", func := "loop.example/g00930/laws.FnExactAbacusPicture", spec := "fnExactAbacusPicture", unfollowed := true, recurses := true, apart := false }
def FnExactAbacusPictureSaid : Prop := fnExactAbacusPictureRow.holds Try.pinned (OpenSpec.ofChange fnExactAbacusPictureSpec)

/-- ITS FALSE NEIGHBOUR: 'it returns false'. Refute it at one input. -/
def fnExactAbacusPictureWrong : ChangeSpec := { name := "fnExactAbacusPicture", fn := fun _ => fun
  | [d] => { results := [.lit (.bool false)], args := [d] }
  | _ => none }
def FnExactAbacusPictureWrongFalsely : Prop := fnExactAbacusPictureRow.holds Try.pinned (OpenSpec.ofChange fnExactAbacusPictureWrong)

/- THE SECOND FORM. 'bulk': how many values and letters a reading holds, each counted each time it is reached (what is shared counts as often as it is met; a slice's spare places count too). A statement '..UptoSaid' is the law's where the arguments, and the package variables that the reading takes, are together of bulk at most 1048576: NARROWER than '..Said'. Prove '..Said' where nothing that the law and all that it calls make is longer than what came in: it says more and counts as full. Else prove '..UptoSaid'. A law counts once. -/
mutual
def uptoBulk {H : Type} : DataW H → Nat
  | .lit (.string bytes) => bytes.length + 1
  | .lit _ => 1
  | .nil => 1
  | .ptr d => uptoBulk d + 1
  | .slice elems spare => uptoBulkAll elems + uptoBulkAll spare + 1
  | .agg parts => uptoBulkAll parts + 1
  | .iface _ d => uptoBulk d + 1
  | .map entries => uptoBulkEntries entries + 1
  | .held _ => 1
def uptoBulkAll {H : Type} : List (DataW H) → Nat
  | [] => 0
  | d :: r => uptoBulk d + uptoBulkAll r
def uptoBulkEntries {H : Type} : List (Lit × DataW H) → Nat
  | [] => 0
  | x :: r => uptoBulkEntry x + uptoBulkEntries r
def uptoBulkEntry {H : Type} : Lit × DataW H → Nat
  | (.string bytes, d) => bytes.length + uptoBulk d + 1
  | (_, d) => uptoBulk d + 1
 end
def uptoSmall : (H : Type) → List (DataW H) → Bool := fun _ ds => decide (uptoBulkAll ds ≤ 1048576)
def OpenSpec.upto (s : _root_.Go.ChangeSpec) : _root_.Go.OpenSpec := { _root_.Go.OpenSpec.ofChange s with cond := some uptoSmall }

/-- 'laws.FnExactSameAbacus', WHERE WHAT IT READS IS OF BULK AT MOST 1048576: true; the input reads as it did. -/
def fnExactSameAbacusUptoRow : OpenClaim := { program := "ytpgifgdoikhpbaa", sum := "084e698ee6e68ae6a7000afab6b54e6ccb3546e91e386d82405f30958c46ed8e", func := "loop.example/g00930/laws.FnExactSameAbacus", spec := "fnExactSameAbacus", apart := false, narrowed := true }
def FnExactSameAbacusUptoSaid : Prop := fnExactSameAbacusUptoRow.holds Try.pinned (OpenSpec.upto fnExactSameAbacusSpec)

/-- 'laws.FnExactValidAbacus', WHERE WHAT IT READS IS OF BULK AT MOST 1048576: true; the input reads as it did. -/
def fnExactValidAbacusUptoRow : OpenClaim := { program := "ytpgifgdoikhpbaa", sum := "084e698ee6e68ae6a7000afab6b54e6ccb3546e91e386d82405f30958c46ed8e", func := "loop.example/g00930/laws.FnExactValidAbacus", spec := "fnExactValidAbacus", apart := false, narrowed := true }
def FnExactValidAbacusUptoSaid : Prop := fnExactValidAbacusUptoRow.holds Try.pinned (OpenSpec.upto fnExactValidAbacusSpec)

/-- 'laws.FnExactAbacusValue', WHERE WHAT IT READS IS OF BULK AT MOST 1048576: true; the input reads as it did. -/
def fnExactAbacusValueUptoRow : OpenClaim := { program := "ytpgifgdoikhpbaa", sum := "084e698ee6e68ae6a7000afab6b54e6ccb3546e91e386d82405f30958c46ed8e", func := "loop.example/g00930/laws.FnExactAbacusValue", spec := "fnExactAbacusValue", apart := false, narrowed := true }
def FnExactAbacusValueUptoSaid : Prop := fnExactAbacusValueUptoRow.holds Try.pinned (OpenSpec.upto fnExactAbacusValueSpec)

/-- 'laws.FnExactBeadsBetween', WHERE WHAT IT READS IS OF BULK AT MOST 1048576: true; the input reads as it did. -/
def fnExactBeadsBetweenUptoRow : OpenClaim := { program := "ytpgifgdoikhpbaa", sum := "084e698ee6e68ae6a7000afab6b54e6ccb3546e91e386d82405f30958c46ed8e", func := "loop.example/g00930/laws.FnExactBeadsBetween", spec := "fnExactBeadsBetween", apart := false, narrowed := true }
def FnExactBeadsBetweenUptoSaid : Prop := fnExactBeadsBetweenUptoRow.holds Try.pinned (OpenSpec.upto fnExactBeadsBetweenSpec)

/-- 'laws.FnExactMoveBeads', WHERE WHAT IT READS IS OF BULK AT MOST 1048576: true; the input reads as it did. -/
def fnExactMoveBeadsUptoRow : OpenClaim := { program := "ytpgifgdoikhpbaa", sum := "084e698ee6e68ae6a7000afab6b54e6ccb3546e91e386d82405f30958c46ed8e", func := "loop.example/g00930/laws.FnExactMoveBeads", spec := "fnExactMoveBeads", apart := false, narrowed := true }
def FnExactMoveBeadsUptoSaid : Prop := fnExactMoveBeadsUptoRow.holds Try.pinned (OpenSpec.upto fnExactMoveBeadsSpec)

/-- 'laws.FnExactIsPlain', WHERE WHAT IT READS IS OF BULK AT MOST 1048576: true; the input reads as it did. -/
def fnExactIsPlainUptoRow : OpenClaim := { program := "ytpgifgdoikhpbaa", sum := "084e698ee6e68ae6a7000afab6b54e6ccb3546e91e386d82405f30958c46ed8e", func := "loop.example/g00930/laws.FnExactIsPlain", spec := "fnExactIsPlain", apart := false, narrowed := true }
def FnExactIsPlainUptoSaid : Prop := fnExactIsPlainUptoRow.holds Try.pinned (OpenSpec.upto fnExactIsPlainSpec)

/-- 'laws.FnExactSetAbacus', WHERE WHAT IT READS IS OF BULK AT MOST 1048576: true; the input reads as it did. -/
def fnExactSetAbacusUptoRow : OpenClaim := { program := "ytpgifgdoikhpbaa", sum := "084e698ee6e68ae6a7000afab6b54e6ccb3546e91e386d82405f30958c46ed8e", func := "loop.example/g00930/laws.FnExactSetAbacus", spec := "fnExactSetAbacus", apart := false, narrowed := true }
def FnExactSetAbacusUptoSaid : Prop := fnExactSetAbacusUptoRow.holds Try.pinned (OpenSpec.upto fnExactSetAbacusSpec)

/-- 'laws.FnExactPlainAbacus', WHERE WHAT IT READS IS OF BULK AT MOST 1048576: true; the input reads as it did. -/
def fnExactPlainAbacusUptoRow : OpenClaim := { program := "ytpgifgdoikhpbaa", sum := "084e698ee6e68ae6a7000afab6b54e6ccb3546e91e386d82405f30958c46ed8e", func := "loop.example/g00930/laws.FnExactPlainAbacus", spec := "fnExactPlainAbacus", apart := false, narrowed := true }
def FnExactPlainAbacusUptoSaid : Prop := fnExactPlainAbacusUptoRow.holds Try.pinned (OpenSpec.upto fnExactPlainAbacusSpec)

/-- 'laws.FnExactReplayBeads', WHERE WHAT IT READS IS OF BULK AT MOST 1048576: true; the input reads as it did. -/
def fnExactReplayBeadsUptoRow : OpenClaim := { program := "ytpgifgdoikhpbaa", sum := "084e698ee6e68ae6a7000afab6b54e6ccb3546e91e386d82405f30958c46ed8e", func := "loop.example/g00930/laws.FnExactReplayBeads", spec := "fnExactReplayBeads", apart := false, narrowed := true }
def FnExactReplayBeadsUptoSaid : Prop := fnExactReplayBeadsUptoRow.holds Try.pinned (OpenSpec.upto fnExactReplayBeadsSpec)

/-- 'laws.FnExactAddOnAbacus', WHERE WHAT IT READS IS OF BULK AT MOST 1048576: true; the input reads as it did. -/
def fnExactAddOnAbacusUptoRow : OpenClaim := { program := "ytpgifgdoikhpbaa", sum := "084e698ee6e68ae6a7000afab6b54e6ccb3546e91e386d82405f30958c46ed8e", func := "loop.example/g00930/laws.FnExactAddOnAbacus", spec := "fnExactAddOnAbacus", recurses := true, apart := false, narrowed := true }
def FnExactAddOnAbacusUptoSaid : Prop := fnExactAddOnAbacusUptoRow.holds Try.pinned (OpenSpec.upto fnExactAddOnAbacusSpec)

/-- 'laws.FnExactAbacusPicture', WHERE WHAT IT READS IS OF BULK AT MOST 1048576: true; the input reads as it did. -/
def fnExactAbacusPictureUptoRow : OpenClaim := { program := "ytpgifgdoikhpbaa", sum := "084e698ee6e68ae6a7000afab6b54e6ccb3546e91e386d82405f30958c46ed8e", func := "loop.example/g00930/laws.FnExactAbacusPicture", spec := "fnExactAbacusPicture", unfollowed := true, recurses := true, apart := false, narrowed := true }
def FnExactAbacusPictureUptoSaid : Prop := fnExactAbacusPictureUptoRow.holds Try.pinned (OpenSpec.upto fnExactAbacusPictureSpec)

end Rows
end Go.Proofs.Ytpgifgdoikhpbaa
