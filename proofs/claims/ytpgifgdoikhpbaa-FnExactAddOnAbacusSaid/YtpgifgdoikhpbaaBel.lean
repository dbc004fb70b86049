/- A region that draws its order and holds calls that make memory, whose values hang on old memory alone: one walk in the order of the text, in the class of the worlds with at most new blocks. No condition. -/
import Derived.Test.YtpgifgdoikhpbaaWords
import Derived.BigQuiet
namespace Go.Proofs.Ytpgifgdoikhpbaa
open Go.RowKit

/-- A world that has at most new blocks over w0. -/
structure BW (w0 : World) where
  w : World
  bel : Below w0.heap.size w0 w
instance (w0 : World) : Nonempty (BW w0) := ⟨⟨w0, Below.refl _ _⟩⟩
theorem BW.cell {w0 : World} {p : Addr} {v : Value} (c : w0.cell? p = some v) (x : BW w0) : x.w.cell? p = some v := cellB c x.bel
theorem BW.call {P : Program} {f : FuncId} {args : Array Value} {w0 : World} {v : Value} {x : BW w0} (h : Calls P f args x.w fun e w' => e = .returned v ∧ Below x.w.heap.size x.w w') :
    Calls P f args x.w fun e w'' => e = .returned v ∧ ∃ y : BW w0, w'' = y.w :=
  h.mono fun _ w' ⟨he, hb⟩ => ⟨he, ⟨w', bel2 x.bel hb⟩, rfl⟩
theorem BW.same {P : Program} {f : FuncId} {args : Array Value} {w0 : World} {v : Value} {x : BW w0} (h : Calls P f args x.w fun e w' => e = .returned v ∧ x.w = w') :
    Calls P f args x.w fun e w'' => e = .returned v ∧ ∃ y : BW w0, w'' = y.w :=
  h.mono fun _ _ ⟨he, hb⟩ => ⟨he, x, hb.symm⟩
theorem BW.sameB {P : Program} {f : FuncId} {args : Array Value} {w0 : World} {b b' : Bool} {x : BW w0} (h : Calls P f args x.w fun e w' => e = .returned (.bool b) ∧ x.w = w') (hb : b = b') :
    Calls P f args x.w fun e w'' => e = .returned (.bool b') ∧ ∃ y : BW w0, w'' = y.w := by
  subst hb
  exact BW.same h
theorem wp_region_below {P : Program} {id : Nat} {Q : Exit → Act → World → Prop} {a : Act} {w : World} {l : List Oper} (hm : P.follows .mixedOrders = true) (hB : Region.lexB .any l.toArray = true)
    (h : wpQuiet P l.toArray (fun w' => ∃ x : BW w, w' = x.w) (fun a' => ∀ w', (∃ x : BW w, w' = x.w) → Q .normal a' w') l a) : (Code.region id l.toArray true).wp P Q a w :=
  wp_region_quiet (C := fun w' => ∃ x : BW w, w' = x.w) hm hB ⟨⟨_, ((Below.refl w.heap.size w).drew)⟩, rfl⟩ (by simpa using h)
end Go.Proofs.Ytpgifgdoikhpbaa
