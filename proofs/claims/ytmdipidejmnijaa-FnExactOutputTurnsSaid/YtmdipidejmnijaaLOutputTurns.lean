/- The walk of the law FnExactOutputTurns. No condition. -/
import Derived.Test.YtmdipidejmnijaaOutT
import Derived.Deep.RegionHeld3
namespace Go.Proofs.Ytmdipidejmnijaa
open Go.RowKit
set_option linter.unusedVariables false

set_option maxRecDepth 100000 in
set_option maxHeartbeats 3200000 in
theorem lOutputTurns {A0_0 : Option Addr} {n0_0 c0_0 : Nat} {x0_0 : List (Int × Int)} {a1 : Int} (w : World) (h0_0 : PairRow w A0_0 n0_0 c0_0 x0_0) (wa1 : inI a1) :
    Calls Try.prog 9 #[.slice A0_0 n0_0 c0_0, .int .i64 a1] w fun e w' => e = .returned (.bool true) ∧ Below w.heap.size w w' := by
  have r0_0 := h0_0.reads; have l0_0 := Lib.hid h0_0.len; have M0_0 : n0_0 ≤ maxLen := Nat.le_trans h0_0.nc h0_0.cm
  by_cases t0 : (n0_0 : Int) ≤ 1048576
  rotate_left
  · have S0 : Hid (szI n0_0 (1048576) = -1) := by unfold Hid szI; rw [if_neg t0]
    go_enter Try.func9, Try.ntmps9
    have B : Below w.heap.size w w := Below.refl _ _
    go_wp2_with fail
    refine absW ?_
    intro w1 hw
    have hb : Below w.heap.size w w1 := by rw [hw]; exact (by repeat' (first | assumption | exact Below.refl _ _ | refine Below.drew ?_ | refine Below.alloc ?_ (by first | omega | (simp; done) | (simp; omega)) _))
    clear hw
    replace B := bel2 B hb
    have zw1 := hb.size
    clear hb
    refine (szGearPairS _ _ M0_0 (by omega) (by omega)).mono ?_
    rintro e w2 ⟨rfl, rfl⟩
    rw [S0.out]
    go_wp2
    go_ret
    exact ⟨rfl, bel2 B (by repeat' (first | assumption | exact Below.refl _ _ | refine Below.drew ?_ | refine Below.alloc ?_ (by first | omega | (simp; done) | (simp; omega)) _))⟩
  have S0 : Hid (szI n0_0 (1048576) = 1048576 - n0_0) := by unfold Hid szI; rw [if_pos t0]
  have m0_0 : n0_0 ≤ 1048576 := by omega
  have q0 : 0 ≤ 1048576 - n0_0 := by omega
  go_enter Try.func9, Try.ntmps9
  have B : Below w.heap.size w w := Below.refl _ _
  go_wp2_with fail
  refine absW ?_
  intro w1 hw
  have hb : Below w.heap.size w w1 := by rw [hw]; exact (by repeat' (first | assumption | exact Below.refl _ _ | refine Below.drew ?_ | refine Below.alloc ?_ (by first | omega | (simp; done) | (simp; omega)) _))
  clear hw
  replace B := bel2 B hb
  have zw1 := hb.size
  clear hb
  refine (szGearPairS _ _ M0_0 (by omega) (by omega)).mono ?_
  rintro e w2 ⟨rfl, rfl⟩
  rw [S0.out]
  go_wp2_with fail
  refine absW ?_
  intro w2 hw
  have hb : Below w1.heap.size w1 w2 := by rw [hw]; exact (by repeat' (first | assumption | exact Below.refl _ _ | refine Below.drew ?_ | refine Below.alloc ?_ (by first | omega | (simp; done) | (simp; omega)) _))
  clear hw
  replace B := bel2 B hb
  have zw2 := hb.size
  clear hb
  refine (toGearPairS _ (rdB r0_0 B) l0_0.out m0_0).mono ?_
  rintro e w3 ⟨vs_0_0, rfl, os_0_0, hb⟩
  replace B := bel2 B hb
  have zw3 := hb.size
  clear hb
  obtain ⟨As_0_0, cs_0_0, rfl, _, _⟩ := os_0_0.form
  go_wp2_with fail
  refine absW ?_
  intro w4 hw
  have hb : Below w3.heap.size w3 w4 := by rw [hw]; exact (by repeat' (first | assumption | exact Below.refl _ _ | refine Below.drew ?_ | refine Below.alloc ?_ (by first | omega | (simp; done) | (simp; omega)) _))
  clear hw
  replace os_0_0 := os_0_0.bel hb
  replace B := bel2 B hb
  have zw4 := hb.size
  clear hb
  refine (sOutputTurns _ os_0_0.reads l0_0.out M0_0).mono ?_
  rintro e w5 ⟨rfl, hb⟩
  replace os_0_0 := os_0_0.bel hb
  replace B := bel2 B hb
  have zw5 := hb.size
  clear hb
  clear os_0_0
  go_wp2_with fail
  refine absW ?_
  intro w6 hw
  have hb : Below w5.heap.size w5 w6 := by rw [hw]; exact (by repeat' (first | assumption | exact Below.refl _ _ | refine Below.drew ?_ | refine Below.alloc ?_ (by first | omega | (simp; done) | (simp; omega)) _))
  have ew0_0 : w6.cell? ⟨w5.heap.size, 0, none⟩ = some (.int .i64 (otNum x0_0 a1)) := by rw [hw]; simp
  have ew0_1 : w6.cell? ⟨w5.heap.size, 1, none⟩ = some (.int .i64 (otDen x0_0 a1)) := by rw [hw]; simp
  have yw6_ew0_0 : w5.heap.size < w6.heap.size := World.block_lt_of_cell? _ _ ew0_0
  clear hw
  replace B := bel2 B hb
  have zw6 := hb.size
  clear hb
  refine (toGearPairS _ (rdB r0_0 B) l0_0.out m0_0).mono ?_
  rintro e w7 ⟨vx_0_0, rfl, ox_0_0, hb⟩
  replace ew0_0 := cellB ew0_0 hb
  replace ew0_1 := cellB ew0_1 hb
  replace B := bel2 B hb
  have zw7 := hb.size
  clear hb
  obtain ⟨Ax_0_0, cx_0_0, rfl, _, _⟩ := ox_0_0.form
  go_wp2_with fail
  refine absW ?_
  intro w8 hw
  have hb : Below w7.heap.size w7 w8 := by rw [hw]; exact (by repeat' (first | assumption | exact Below.refl _ _ | refine Below.drew ?_ | refine Below.alloc ?_ (by first | omega | (simp; done) | (simp; omega)) _))
  clear hw
  replace ew0_0 := cellB ew0_0 hb
  replace ew0_1 := cellB ew0_1 hb
  replace ox_0_0 := ox_0_0.bel hb
  replace B := bel2 B hb
  have zw8 := hb.size
  clear hb
  refine (iOutputTurns _ ox_0_0.reads l0_0.out M0_0).mono ?_
  rintro e w9 ⟨rfl, hb⟩
  replace ew0_0 := cellB ew0_0 hb
  replace ew0_1 := cellB ew0_1 hb
  replace ox_0_0 := ox_0_0.bel hb
  replace B := bel2 B hb
  have zw9 := hb.size
  clear hb
  have j1_0 := fun (X0 : Obj) => (cellA ew0_0 X0)
  have j1_1 := fun (X0 : Obj) => (cellA ew0_1 X0)
  go_wp2_with fail
  refine absW ?_
  intro w10 hw
  have hb : Below w9.heap.size w9 w10 := by rw [hw]; exact (by repeat' (first | assumption | exact Below.refl _ _ | refine Below.drew ?_ | refine Below.alloc ?_ (by first | omega | (simp; done) | (simp; omega)) _))
  have eg0_0 : w10.cell? ⟨w9.heap.size, 0, none⟩ = some (.int .i64 (otNum x0_0 a1)) := by rw [hw]; simp
  have eg0_1 : w10.cell? ⟨w9.heap.size, 1, none⟩ = some (.int .i64 (otDen x0_0 a1)) := by rw [hw]; simp
  have yw10_eg0_0 : w9.heap.size < w10.heap.size := World.block_lt_of_cell? _ _ eg0_0
  clear hw j1_0 j1_1
  replace ew0_0 := cellB ew0_0 hb
  replace ew0_1 := cellB ew0_1 hb
  replace ox_0_0 := ox_0_0.bel hb
  replace B := bel2 B hb
  have zw10 := hb.size
  clear hb
  refine (eqFraction _).mono ?_
  rintro e w11 ⟨rfl, hb⟩
  replace ew0_0 := cellB ew0_0 hb
  replace ew0_1 := cellB ew0_1 hb
  replace eg0_0 := cellB eg0_0 hb
  replace eg0_1 := cellB eg0_1 hb
  replace ox_0_0 := ox_0_0.bel hb
  replace B := bel2 B hb
  have zw11 := hb.size
  clear hb
  go_wp2_with fail
  refine absW ?_
  intro w12 hw
  have hb : Below w11.heap.size w11 w12 := by rw [hw]; exact (by repeat' (first | assumption | exact Below.refl _ _ | refine Below.drew ?_ | refine Below.alloc ?_ (by first | omega | (simp; done) | (simp; omega)) _))
  clear hw
  replace ew0_0 := cellB ew0_0 hb
  replace ew0_1 := cellB ew0_1 hb
  replace eg0_0 := cellB eg0_0 hb
  replace eg0_1 := cellB eg0_1 hb
  replace ox_0_0 := ox_0_0.bel hb
  replace B := bel2 B hb
  have zw12 := hb.size
  clear hb
  refine (toGearPairS _ (rdB r0_0 B) l0_0.out m0_0).mono ?_
  rintro e w13 ⟨vz_0_0, rfl, oz_0_0, hb⟩
  replace ew0_0 := cellB ew0_0 hb
  replace ew0_1 := cellB ew0_1 hb
  replace eg0_0 := cellB eg0_0 hb
  replace eg0_1 := cellB eg0_1 hb
  replace ox_0_0 := ox_0_0.bel hb
  replace B := bel2 B hb
  have zw13 := hb.size
  clear hb
  obtain ⟨Az_0_0, cz_0_0, rfl, _, _⟩ := oz_0_0.form
  go_wp2_with fail
  refine absW ?_
  intro w14 hw
  have hb : Below w13.heap.size w13 w14 := by rw [hw]; exact (by repeat' (first | assumption | exact Below.refl _ _ | refine Below.drew ?_ | refine Below.alloc ?_ (by first | omega | (simp; done) | (simp; omega)) _))
  clear hw
  replace ew0_0 := cellB ew0_0 hb
  replace ew0_1 := cellB ew0_1 hb
  replace eg0_0 := cellB eg0_0 hb
  replace eg0_1 := cellB eg0_1 hb
  replace ox_0_0 := ox_0_0.bel hb
  replace oz_0_0 := oz_0_0.bel hb
  replace B := bel2 B hb
  have zw14 := hb.size
  clear hb
  refine (eqGearPairS _ ox_0_0.reads oz_0_0.reads l0_0.out M0_0).mono ?_
  rintro e w15 ⟨rfl, hb⟩
  replace ew0_0 := cellB ew0_0 hb
  replace ew0_1 := cellB ew0_1 hb
  replace eg0_0 := cellB eg0_0 hb
  replace eg0_1 := cellB eg0_1 hb
  replace ox_0_0 := ox_0_0.bel hb
  replace oz_0_0 := oz_0_0.bel hb
  replace B := bel2 B hb
  have zw15 := hb.size
  clear hb
  clear oz_0_0
  go_wp2
  go_ret
  exact ⟨rfl, bel2 B (by repeat' (first | assumption | exact Below.refl _ _ | refine Below.drew ?_ | refine Below.alloc ?_ (by first | omega | (simp; done) | (simp; omega)) _))⟩
end Go.Proofs.Ytmdipidejmnijaa
