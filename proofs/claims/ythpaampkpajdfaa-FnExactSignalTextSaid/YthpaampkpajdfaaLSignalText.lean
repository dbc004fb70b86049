/- The walk of the law FnExactSignalText. No condition. -/
import Derived.Test.YthpaampkpajdfaaSigT
import Derived.Deep.RegionHeld3
namespace Go.Proofs.Ythpaampkpajdfaa
open Go.RowKit
set_option linter.unusedVariables false

set_option maxRecDepth 100000 in
set_option maxHeartbeats 3200000 in
theorem lSignalText {A0_0 : Option Addr} {n0_0 c0_0 : Nat} {x0_0 : List (Bool × Bool)} (w : World) (h0_0 : SigRow w A0_0 n0_0 c0_0 x0_0) :
    Calls Try.prog 12 #[.slice A0_0 n0_0 c0_0] w fun e w' => e = .returned (.bool true) ∧ Below w.heap.size w w' := by
  have r0_0 := h0_0.reads; have l0_0 := Lib.hid h0_0.len; have M0_0 : n0_0 ≤ maxLen := Nat.le_trans h0_0.nc h0_0.cm
  by_cases t0 : (n0_0 : Int) ≤ 1048576
  rotate_left
  · have S0 : Hid (szI n0_0 (1048576) = -1) := by unfold Hid szI; rw [if_neg t0]
    go_enter Try.func12, Try.ntmps12
    have B : Below w.heap.size w w := Below.refl _ _
    go_wp2_with fail
    refine absW ?_
    intro w1 hw
    have hb : Below w.heap.size w w1 := by rw [hw]; exact (by repeat' (first | assumption | exact Below.refl _ _ | refine Below.drew ?_ | refine Below.alloc ?_ (by first | omega | (simp; done) | (simp; omega)) _))
    clear hw
    replace B := bel2 B hb
    have zw1 := hb.size
    clear hb
    refine (szSignalS _ _ M0_0 (by omega) (by omega)).mono ?_
    rintro e w2 ⟨rfl, rfl⟩
    rw [S0.out]
    go_wp2
    go_ret
    exact ⟨rfl, bel2 B (by repeat' (first | assumption | exact Below.refl _ _ | refine Below.drew ?_ | refine Below.alloc ?_ (by first | omega | (simp; done) | (simp; omega)) _))⟩
  have S0 : Hid (szI n0_0 (1048576) = 1048576 - n0_0) := by unfold Hid szI; rw [if_pos t0]
  have m0_0 : n0_0 ≤ 1048576 := by omega
  have q0 : 0 ≤ 1048576 - n0_0 := by omega
  go_enter Try.func12, Try.ntmps12
  have B : Below w.heap.size w w := Below.refl _ _
  go_wp2_with fail
  refine absW ?_
  intro w1 hw
  have hb : Below w.heap.size w w1 := by rw [hw]; exact (by repeat' (first | assumption | exact Below.refl _ _ | refine Below.drew ?_ | refine Below.alloc ?_ (by first | omega | (simp; done) | (simp; omega)) _))
  clear hw
  replace B := bel2 B hb
  have zw1 := hb.size
  clear hb
  refine (szSignalS _ _ M0_0 (by omega) (by omega)).mono ?_
  rintro e w2 ⟨rfl, rfl⟩
  rw [S0.out]
  go_wp2_with fail
  refine absW ?_
  intro w2 hw
  have hb : Below w1.heap.size w1 w2 := by rw [hw]; exact (by repeat' (first | assumption | exact Below.refl _ _ | refine Below.drew ?_ | refine Below.alloc ?_ (by first | omega | (simp; done) | (simp; omega)) _))
  clear hw
  replace B := bel2 B hb
  have zw2 := hb.size
  clear hb
  refine (toSignalS _ (rdB r0_0 B) l0_0.out m0_0).mono ?_
  rintro e w3 ⟨vs_0_0, rfl, os_0_0, hb⟩
  replace B := bel2 B hb
  have zw3 := hb.size
  clear hb
  obtain ⟨As_0_0, cs_0_0, rfl, _, _⟩ := os_0_0.form
  go_wp2_with fail
  refine absW ?_
  intro w4 hw
  have hb : Below w3.heap.size w3 w4 := by rw [hw]; exact (by repeat' (first | assumption | exact Below.refl _ _ | refine Below.drew ?_ | refine Below.alloc ?_ (by first | omega | (simp; done) | (simp; omega)) _))
  clear hw
  replace os_0_0 := os_0_0.bel hb
  replace B := bel2 B hb
  have zw4 := hb.size
  clear hb
  refine (sSigText _ os_0_0.reads l0_0.out m0_0).mono ?_
  rintro e w5 ⟨rfl, hb⟩
  replace os_0_0 := os_0_0.bel hb
  replace B := bel2 B hb
  have zw5 := hb.size
  clear hb
  clear os_0_0
  go_wp2_with fail
  refine absW ?_
  intro w6 hw
  have hb : Below w5.heap.size w5 w6 := by rw [hw]; exact (by repeat' (first | assumption | exact Below.refl _ _ | refine Below.drew ?_ | refine Below.alloc ?_ (by first | omega | (simp; done) | (simp; omega)) _))
  clear hw
  replace B := bel2 B hb
  have zw6 := hb.size
  clear hb
  refine (toSignalS _ (rdB r0_0 B) l0_0.out m0_0).mono ?_
  rintro e w7 ⟨vx_0_0, rfl, ox_0_0, hb⟩
  replace B := bel2 B hb
  have zw7 := hb.size
  clear hb
  obtain ⟨Ax_0_0, cx_0_0, rfl, _, _⟩ := ox_0_0.form
  go_wp2_with fail
  refine absW ?_
  intro w8 hw
  have hb : Below w7.heap.size w7 w8 := by rw [hw]; exact (by repeat' (first | assumption | exact Below.refl _ _ | refine Below.drew ?_ | refine Below.alloc ?_ (by first | omega | (simp; done) | (simp; omega)) _))
  clear hw
  replace ox_0_0 := ox_0_0.bel hb
  replace B := bel2 B hb
  have zw8 := hb.size
  clear hb
  refine (iSigText _ ox_0_0.reads l0_0.out m0_0).mono ?_
  rintro e w9 ⟨rfl, hb⟩
  replace ox_0_0 := ox_0_0.bel hb
  replace B := bel2 B hb
  have zw9 := hb.size
  clear hb
  go_wp2_with fail
  refine absW ?_
  intro w10 hw
  have hb : Below w9.heap.size w9 w10 := by rw [hw]; exact (by repeat' (first | assumption | exact Below.refl _ _ | refine Below.drew ?_ | refine Below.alloc ?_ (by first | omega | (simp; done) | (simp; omega)) _))
  clear hw
  replace ox_0_0 := ox_0_0.bel hb
  replace B := bel2 B hb
  have zw10 := hb.size
  clear hb
  refine (toSignalS _ (rdB r0_0 B) l0_0.out m0_0).mono ?_
  rintro e w11 ⟨vz_0_0, rfl, oz_0_0, hb⟩
  replace ox_0_0 := ox_0_0.bel hb
  replace B := bel2 B hb
  have zw11 := hb.size
  clear hb
  obtain ⟨Az_0_0, cz_0_0, rfl, _, _⟩ := oz_0_0.form
  go_wp2_with fail
  refine absW ?_
  intro w12 hw
  have hb : Below w11.heap.size w11 w12 := by rw [hw]; exact (by repeat' (first | assumption | exact Below.refl _ _ | refine Below.drew ?_ | refine Below.alloc ?_ (by first | omega | (simp; done) | (simp; omega)) _))
  clear hw
  replace ox_0_0 := ox_0_0.bel hb
  replace oz_0_0 := oz_0_0.bel hb
  replace B := bel2 B hb
  have zw12 := hb.size
  clear hb
  refine (eqSignalS _ ox_0_0.reads oz_0_0.reads l0_0.out M0_0).mono ?_
  rintro e w13 ⟨rfl, hb⟩
  replace ox_0_0 := ox_0_0.bel hb
  replace oz_0_0 := oz_0_0.bel hb
  replace B := bel2 B hb
  have zw13 := hb.size
  clear hb
  clear oz_0_0
  go_wp2
  go_ret
  exact ⟨rfl, bel2 B (by repeat' (first | assumption | exact Below.refl _ _ | refine Below.drew ?_ | refine Below.alloc ?_ (by first | omega | (simp; done) | (simp; omega)) _))⟩
end Go.Proofs.Ythpaampkpajdfaa
