/- The walk of the law FnExactValidFaults. No condition. -/
import Derived.Test.YthpaampkpajdfaaFaultsI
import Derived.Deep.RegionHeld3
namespace Go.Proofs.Ythpaampkpajdfaa
open Go.RowKit
set_option linter.unusedVariables false

set_option maxRecDepth 100000 in
set_option maxHeartbeats 3200000 in
theorem lValidFaults {a0 : Int} {A1_0 : Option Addr} {n1_0 c1_0 : Nat} {x1_0 : List (Int × Int)} (w : World) (wa0 : inI a0) (h1_0 : PairRow w A1_0 n1_0 c1_0 x1_0) :
    Calls Try.prog 13 #[.int .i64 a0, .slice A1_0 n1_0 c1_0] w fun e w' => e = .returned (.bool true) ∧ Below w.heap.size w w' := by
  have r1_0 := h1_0.reads; have l1_0 := Lib.hid h1_0.len; have M1_0 : n1_0 ≤ maxLen := Nat.le_trans h1_0.nc h1_0.cm
  by_cases t1 : (n1_0 : Int) ≤ 1048576
  rotate_left
  · have S1 : Hid (szI n1_0 (1048576) = -1) := by unfold Hid szI; rw [if_neg t1]
    go_enter Try.func13, Try.ntmps13
    have B : Below w.heap.size w w := Below.refl _ _
    go_wp2_with fail
    refine absW ?_
    intro w1 hw
    have hb : Below w.heap.size w w1 := by rw [hw]; exact (by repeat' (first | assumption | exact Below.refl _ _ | refine Below.drew ?_ | refine Below.alloc ?_ (by first | omega | (simp; done) | (simp; omega)) _))
    clear hw
    replace B := bel2 B hb
    have zw1 := hb.size
    clear hb
    refine (szLeverFaultS _ _ M1_0 (by omega) (by omega)).mono ?_
    rintro e w2 ⟨rfl, rfl⟩
    rw [S1.out]
    go_wp2
    go_ret
    exact ⟨rfl, bel2 B (by repeat' (first | assumption | exact Below.refl _ _ | refine Below.drew ?_ | refine Below.alloc ?_ (by first | omega | (simp; done) | (simp; omega)) _))⟩
  have S1 : Hid (szI n1_0 (1048576) = 1048576 - n1_0) := by unfold Hid szI; rw [if_pos t1]
  have m1_0 : n1_0 ≤ 1048576 := by omega
  have q1 : 0 ≤ 1048576 - n1_0 := by omega
  go_enter Try.func13, Try.ntmps13
  have B : Below w.heap.size w w := Below.refl _ _
  go_wp2_with fail
  refine absW ?_
  intro w1 hw
  have hb : Below w.heap.size w w1 := by rw [hw]; exact (by repeat' (first | assumption | exact Below.refl _ _ | refine Below.drew ?_ | refine Below.alloc ?_ (by first | omega | (simp; done) | (simp; omega)) _))
  clear hw
  replace B := bel2 B hb
  have zw1 := hb.size
  clear hb
  refine (szLeverFaultS _ _ M1_0 (by omega) (by omega)).mono ?_
  rintro e w2 ⟨rfl, rfl⟩
  rw [S1.out]
  go_wp2_with fail
  refine absW ?_
  intro w2 hw
  have hb : Below w1.heap.size w1 w2 := by rw [hw]; exact (by repeat' (first | assumption | exact Below.refl _ _ | refine Below.drew ?_ | refine Below.alloc ?_ (by first | omega | (simp; done) | (simp; omega)) _))
  clear hw
  replace B := bel2 B hb
  have zw2 := hb.size
  clear hb
  refine (toLeverFaultS _ (rdB r1_0 B) l1_0.out m1_0).mono ?_
  rintro e w3 ⟨vs_1_0, rfl, os_1_0, hb⟩
  replace B := bel2 B hb
  have zw3 := hb.size
  clear hb
  obtain ⟨As_1_0, cs_1_0, rfl, _, _⟩ := os_1_0.form
  go_wp2_with fail
  refine absW ?_
  intro w4 hw
  have hb : Below w3.heap.size w3 w4 := by rw [hw]; exact (by repeat' (first | assumption | exact Below.refl _ _ | refine Below.drew ?_ | refine Below.alloc ?_ (by first | omega | (simp; done) | (simp; omega)) _))
  clear hw
  replace os_1_0 := os_1_0.bel hb
  replace B := bel2 B hb
  have zw4 := hb.size
  clear hb
  refine (sValidFaults _ wa0 os_1_0.reads l1_0.out M1_0).mono ?_
  rintro e w5 ⟨rfl, hb⟩
  replace os_1_0 := os_1_0.bel hb
  replace B := bel2 B hb
  have zw5 := hb.size
  clear hb
  clear os_1_0
  go_wp2_with fail
  refine absW ?_
  intro w6 hw
  have hb : Below w5.heap.size w5 w6 := by rw [hw]; exact (by repeat' (first | assumption | exact Below.refl _ _ | refine Below.drew ?_ | refine Below.alloc ?_ (by first | omega | (simp; done) | (simp; omega)) _))
  clear hw
  replace B := bel2 B hb
  have zw6 := hb.size
  clear hb
  refine (toLeverFaultS _ (rdB r1_0 B) l1_0.out m1_0).mono ?_
  rintro e w7 ⟨vx_1_0, rfl, ox_1_0, hb⟩
  replace B := bel2 B hb
  have zw7 := hb.size
  clear hb
  obtain ⟨Ax_1_0, cx_1_0, rfl, _, _⟩ := ox_1_0.form
  go_wp2_with fail
  refine absW ?_
  intro w8 hw
  have hb : Below w7.heap.size w7 w8 := by rw [hw]; exact (by repeat' (first | assumption | exact Below.refl _ _ | refine Below.drew ?_ | refine Below.alloc ?_ (by first | omega | (simp; done) | (simp; omega)) _))
  clear hw
  replace ox_1_0 := ox_1_0.bel hb
  replace B := bel2 B hb
  have zw8 := hb.size
  clear hb
  refine (iValidFaults _ wa0 ox_1_0.reads l1_0.out M1_0).mono ?_
  rintro e w9 ⟨rfl, hb⟩
  replace ox_1_0 := ox_1_0.bel hb
  replace B := bel2 B hb
  have zw9 := hb.size
  clear hb
  go_wp2_with fail
  refine absW ?_
  intro w10 hw
  have hb : Below w9.heap.size w9 w10 := by rw [hw]; exact (by repeat' (first | assumption | exact Below.refl _ _ | refine Below.drew ?_ | refine Below.alloc ?_ (by first | omega | (simp; done) | (simp; omega)) _))
  clear hw
  replace ox_1_0 := ox_1_0.bel hb
  replace B := bel2 B hb
  have zw10 := hb.size
  clear hb
  refine (toLeverFaultS _ (rdB r1_0 B) l1_0.out m1_0).mono ?_
  rintro e w11 ⟨vz_1_0, rfl, oz_1_0, hb⟩
  replace ox_1_0 := ox_1_0.bel hb
  replace B := bel2 B hb
  have zw11 := hb.size
  clear hb
  obtain ⟨Az_1_0, cz_1_0, rfl, _, _⟩ := oz_1_0.form
  go_wp2_with fail
  refine absW ?_
  intro w12 hw
  have hb : Below w11.heap.size w11 w12 := by rw [hw]; exact (by repeat' (first | assumption | exact Below.refl _ _ | refine Below.drew ?_ | refine Below.alloc ?_ (by first | omega | (simp; done) | (simp; omega)) _))
  clear hw
  replace ox_1_0 := ox_1_0.bel hb
  replace oz_1_0 := oz_1_0.bel hb
  replace B := bel2 B hb
  have zw12 := hb.size
  clear hb
  refine (eqLeverFaultS _ ox_1_0.reads oz_1_0.reads l1_0.out M1_0).mono ?_
  rintro e w13 ⟨rfl, hb⟩
  replace ox_1_0 := ox_1_0.bel hb
  replace oz_1_0 := oz_1_0.bel hb
  replace B := bel2 B hb
  have zw13 := hb.size
  clear hb
  clear oz_1_0
  go_wp2
  go_ret
  exact ⟨rfl, bel2 B (by repeat' (first | assumption | exact Below.refl _ _ | refine Below.drew ?_ | refine Below.alloc ?_ (by first | omega | (simp; done) | (simp; omega)) _))⟩
end Go.Proofs.Ythpaampkpajdfaa
