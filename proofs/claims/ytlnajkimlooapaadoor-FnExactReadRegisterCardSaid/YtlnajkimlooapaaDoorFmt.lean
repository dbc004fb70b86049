/- Numbers in decimal: the program's text of a number, by the library's contract. No condition. -/
import Derived.Test.YtlnajkimlooapaaDoorDec
import Derived.Test.YtlnajkimlooapaaDoorShelf
import Derived.Lib.SmallJoins
namespace Go.Proofs.YtlnajkimlooapaaDoor
open Go.RowKit

/-- The library's table of powers of ten reads as its initialiser lays it. -/
def Tab (w : World) : Prop := Lib.TabIs Tryd.prog w "internal/strconv.uint64pow10" .u64 Lib.pow10Tab
theorem gTab : Tryd.prog.globalNamed "internal/strconv.uint64pow10" = some 0 := by kernel_rfl
theorem Tab.bel {w w' : World} (T : Tab w) (hb : Below w.heap.size w w') : Tab w' := Joins.tab_stays gTab T hb (Nat.le_refl _)
theorem below_grow (w : World) (k : Nat) (os : Array Obj) : Below w.heap.size w (Sort.grow (w.drewN k) os) :=
  ⟨rfl, rfl, rfl, by show w.heap.size ≤ (w.heap ++ os).size; rw [Array.size_append]; omega, fun j hj => by
    show (w.heap ++ os)[j]? = w.heap[j]?
    rw [Array.getElem?_append_left hj]⟩

theorem iDec {n : Int} (w : World) (hn : inI n) (T : Tab w) : Calls Tryd.prog 9 #[.int .i64 n] w (DecPost n w) := by
  unfold inI at hn
  go_enter Tryd.func9, Tryd.ntmps9
  go_wp2_with fail
  refine (Tryd.strconv_FormatInt_10 n hn.1 hn.2 _ T).mono ?_
  rintro e w' ⟨rfl, k, os, rfl⟩
  go_wp2
  go_ret
  exact ⟨rfl, below_grow _ _ _⟩
theorem sDecimal {n : Int} (w : World) (hn : inI n) : Calls Tryd.prog 8 #[.int .i64 n] w (DecPost n w) := by
  go_enter Tryd.func8, Tryd.ntmps8
  go_wp2_with fail
  refine (sDec _ hn).mono ?_
  rintro e w' ⟨rfl, hb⟩
  go_wp2
  go_ret
  exact ⟨rfl, hb⟩
theorem lDecimal {a0 : Int} (w : World) (wa0 : inI a0) (T : Tab w) :
    Calls Tryd.prog 3 #[.int .i64 a0] w fun e w' => e = .returned (.bool true) ∧ Below w.heap.size w w' := by
  go_enter Tryd.func3, Tryd.ntmps3
  go_wp2_with fail
  refine (sDecimal _ wa0).mono ?_
  rintro e w1 ⟨rfl, hb⟩
  go_wp2_with fail
  refine (iDec _ wa0 (T.bel hb)).mono ?_
  rintro e w2 ⟨rfl, hb2⟩
  go_wp2
  go_ret
  exact ⟨rfl, bel2 hb hb2⟩
end Go.Proofs.YtlnajkimlooapaaDoor
