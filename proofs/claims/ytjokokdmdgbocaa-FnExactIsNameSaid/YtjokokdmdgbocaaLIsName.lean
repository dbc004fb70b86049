/- The walk of the law FnExactIsName. No condition. -/
import Derived.Test.YtjokokdmdgbocaaNameI
import Derived.Deep.RegionHeld3
namespace Go.Proofs.Ytjokokdmdgbocaa
open Go.RowKit
set_option linter.unusedVariables false

set_option maxRecDepth 100000 in
set_option maxHeartbeats 3200000 in
theorem lIsName {a0 : ByteArray} (w : World) (wa0 : a0.size ≤ maxLen) :
    Calls Try.prog 7 #[.string a0] w fun e w' => e = .returned (.bool true) ∧ Below w.heap.size w w' := by
  by_cases t0 : (a0.size : Int) ≤ 1048576
  rotate_left
  · have t0' : (1048576 : Int) < (a0.size : Int) := by omega
    go_enter Try.func7, Try.ntmps7
    have B : Below w.heap.size w w := Below.refl _ _
    go_wp2
    go_ret
    exact ⟨rfl, bel2 B (by repeat' (first | assumption | exact Below.refl _ _ | refine Below.drew ?_ | refine Below.alloc ?_ (by first | omega | (simp; done) | (simp; omega)) _))⟩
  have m0 : a0.size ≤ 1048576 := by omega
  go_enter Try.func7, Try.ntmps7
  have B : Below w.heap.size w w := Below.refl _ _
  go_wp2_with fail
  refine absW ?_
  intro w1 hw
  have hb : Below w.heap.size w w1 := by rw [hw]; exact (by repeat' (first | assumption | exact Below.refl _ _ | refine Below.drew ?_ | refine Below.alloc ?_ (by first | omega | (simp; done) | (simp; omega)) _))
  clear hw
  replace B := bel2 B hb
  have zw1 := hb.size
  clear hb
  refine (sIsName _ m0).mono ?_
  rintro e w2 ⟨rfl, hb⟩
  replace B := bel2 B hb
  have zw2 := hb.size
  clear hb
  go_wp2_with fail
  refine absW ?_
  intro w3 hw
  have hb : Below w2.heap.size w2 w3 := by rw [hw]; exact (by repeat' (first | assumption | exact Below.refl _ _ | refine Below.drew ?_ | refine Below.alloc ?_ (by first | omega | (simp; done) | (simp; omega)) _))
  clear hw
  replace B := bel2 B hb
  have zw3 := hb.size
  clear hb
  refine (iIsName _ m0).mono ?_
  rintro e w4 ⟨rfl, hb⟩
  replace B := bel2 B hb
  have zw4 := hb.size
  clear hb
  go_wp2
  go_ret
  exact ⟨rfl, bel2 B (by repeat' (first | assumption | exact Below.refl _ _ | refine Below.drew ?_ | refine Below.alloc ?_ (by first | omega | (simp; done) | (simp; omega)) _))⟩
end Go.Proofs.Ytjokokdmdgbocaa
