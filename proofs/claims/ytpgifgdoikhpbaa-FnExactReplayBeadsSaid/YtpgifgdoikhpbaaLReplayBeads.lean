/- The walk of the law FnExactReplayBeads. No condition. -/
import Derived.Test.YtpgifgdoikhpbaaReplay
import Derived.Deep.RegionHeld3
namespace Go.Proofs.Ytpgifgdoikhpbaa
open Go.RowKit
set_option linter.unusedVariables false

set_option maxRecDepth 100000 in
set_option maxHeartbeats 3200000 in
theorem lReplayBeads {b0_0 : Int} {b0_1 : Int} {b0_2 : Int} {A0_0 : Option Addr} {n0_0 c0_0 : Nat} {x0_0 : List (Int × Int)} {A1_0 : Option Addr} {n1_0 c1_0 : Nat} {x1_0 : List (Int × Int × Int)} (w : World) (wb0_0 : inI b0_0) (wb0_1 : inI b0_1) (wb0_2 : inI b0_2) (h0_0 : PairRow w A0_0 n0_0 c0_0 x0_0) (h1_0 : TripRow w A1_0 n1_0 c1_0 x1_0) :
    Calls Try.prog 11 #[.agg #[.int .i64 b0_0, .int .i64 b0_1, .int .i64 b0_2, .slice A0_0 n0_0 c0_0], .slice A1_0 n1_0 c1_0] w fun e w' => e = .returned (.bool true) ∧ Below w.heap.size w w' := by
  have r0_0 := h0_0.reads; have l0_0 := Lib.hid h0_0.len; have M0_0 : n0_0 ≤ maxLen := Nat.le_trans h0_0.nc h0_0.cm
  have r1_0 := h1_0.reads; have l1_0 := Lib.hid h1_0.len; have M1_0 : n1_0 ≤ maxLen := Nat.le_trans h1_0.nc h1_0.cm
  by_cases t0 : (n0_0 : Int) ≤ 1048576
  rotate_left
  · have S0 : Hid (szI n0_0 (1048576) = -1) := by unfold Hid szI; rw [if_neg t0]
    go_enter Try.func11, Try.ntmps11
    have B : Below w.heap.size w w := Below.refl _ _
    go_wp2_with fail
    refine absW ?_
    intro w1 hw
    have hb : Below w.heap.size w w1 := by rw [hw]; exact (by repeat' (first | assumption | exact Below.refl _ _ | refine Below.drew ?_ | refine Below.alloc ?_ (by first | omega | (simp; done) | (simp; omega)) _))
    have e0_0 : w1.cell? ⟨w.heap.size, 0, none⟩ = some (.int .i64 b0_0) := by rw [hw]; simp
    have e0_1 : w1.cell? ⟨w.heap.size, 1, none⟩ = some (.int .i64 b0_1) := by rw [hw]; simp
    have e0_2 : w1.cell? ⟨w.heap.size, 2, none⟩ = some (.int .i64 b0_2) := by rw [hw]; simp
    have e0_3 : w1.cell? ⟨w.heap.size, 3, none⟩ = some (.slice A0_0 n0_0 c0_0) := by rw [hw]; simp
    have yw1_e0_0 : w.heap.size < w1.heap.size := World.block_lt_of_cell? _ _ e0_0
    clear hw
    replace B := bel2 B hb
    have zw1 := hb.size
    clear hb
    refine (szAbacus _ _ M0_0 (by omega) (by omega)).mono ?_
    rintro e w2 ⟨rfl, hb⟩
    rw [S0.out]
    replace e0_0 := cellB e0_0 hb
    replace e0_1 := cellB e0_1 hb
    replace e0_2 := cellB e0_2 hb
    replace e0_3 := cellB e0_3 hb
    replace B := bel2 B hb
    have zw2 := hb.size
    clear hb
    go_wp2
    go_ret
    exact ⟨rfl, bel2 B (by repeat' (first | assumption | exact Below.refl _ _ | refine Below.drew ?_ | refine Below.alloc ?_ (by first | omega | (simp; done) | (simp; omega)) _))⟩
  have S0 : Hid (szI n0_0 (1048576) = 1048576 - n0_0) := by unfold Hid szI; rw [if_pos t0]
  have m0_0 : n0_0 ≤ 1048576 := by omega
  have q0 : 0 ≤ 1048576 - n0_0 := by omega
  by_cases t1 : (n1_0 : Int) ≤ 1048576 - n0_0
  rotate_left
  · have S1 : Hid (szI n1_0 (1048576 - n0_0) = -1) := by unfold Hid szI; rw [if_neg t1]
    go_enter Try.func11, Try.ntmps11
    have B : Below w.heap.size w w := Below.refl _ _
    go_wp2_with fail
    refine absW ?_
    intro w1 hw
    have hb : Below w.heap.size w w1 := by rw [hw]; exact (by repeat' (first | assumption | exact Below.refl _ _ | refine Below.drew ?_ | refine Below.alloc ?_ (by first | omega | (simp; done) | (simp; omega)) _))
    have e0_0 : w1.cell? ⟨w.heap.size, 0, none⟩ = some (.int .i64 b0_0) := by rw [hw]; simp
    have e0_1 : w1.cell? ⟨w.heap.size, 1, none⟩ = some (.int .i64 b0_1) := by rw [hw]; simp
    have e0_2 : w1.cell? ⟨w.heap.size, 2, none⟩ = some (.int .i64 b0_2) := by rw [hw]; simp
    have e0_3 : w1.cell? ⟨w.heap.size, 3, none⟩ = some (.slice A0_0 n0_0 c0_0) := by rw [hw]; simp
    have yw1_e0_0 : w.heap.size < w1.heap.size := World.block_lt_of_cell? _ _ e0_0
    clear hw
    replace B := bel2 B hb
    have zw1 := hb.size
    clear hb
    refine (szAbacus _ _ M0_0 (by omega) (by omega)).mono ?_
    rintro e w2 ⟨rfl, hb⟩
    rw [S0.out]
    replace e0_0 := cellB e0_0 hb
    replace e0_1 := cellB e0_1 hb
    replace e0_2 := cellB e0_2 hb
    replace e0_3 := cellB e0_3 hb
    replace B := bel2 B hb
    have zw2 := hb.size
    clear hb
    go_wp2_with fail
    refine absW ?_
    intro w3 hw
    have hb : Below w2.heap.size w2 w3 := by rw [hw]; exact (by repeat' (first | assumption | exact Below.refl _ _ | refine Below.drew ?_ | refine Below.alloc ?_ (by first | omega | (simp; done) | (simp; omega)) _))
    clear hw
    replace e0_0 := cellB e0_0 hb
    replace e0_1 := cellB e0_1 hb
    replace e0_2 := cellB e0_2 hb
    replace e0_3 := cellB e0_3 hb
    replace B := bel2 B hb
    have zw3 := hb.size
    clear hb
    refine (szBeadMoveS _ _ M1_0 (by omega) (by omega)).mono ?_
    rintro e w4 ⟨rfl, rfl⟩
    rw [S1.out]
    go_wp2
    go_ret
    exact ⟨rfl, bel2 B (by repeat' (first | assumption | exact Below.refl _ _ | refine Below.drew ?_ | refine Below.alloc ?_ (by first | omega | (simp; done) | (simp; omega)) _))⟩
  have S1 : Hid (szI n1_0 (1048576 - n0_0) = 1048576 - n0_0 - n1_0) := by unfold Hid szI; rw [if_pos t1]
  have m1_0 : n1_0 ≤ 1048576 := by omega
  have q1 : 0 ≤ 1048576 - n0_0 - n1_0 := by omega
  go_enter Try.func11, Try.ntmps11
  have B : Below w.heap.size w w := Below.refl _ _
  go_wp2_with fail
  refine absW ?_
  intro w1 hw
  have hb : Below w.heap.size w w1 := by rw [hw]; exact (by repeat' (first | assumption | exact Below.refl _ _ | refine Below.drew ?_ | refine Below.alloc ?_ (by first | omega | (simp; done) | (simp; omega)) _))
  have e0_0 : w1.cell? ⟨w.heap.size, 0, none⟩ = some (.int .i64 b0_0) := by rw [hw]; simp
  have e0_1 : w1.cell? ⟨w.heap.size, 1, none⟩ = some (.int .i64 b0_1) := by rw [hw]; simp
  have e0_2 : w1.cell? ⟨w.heap.size, 2, none⟩ = some (.int .i64 b0_2) := by rw [hw]; simp
  have e0_3 : w1.cell? ⟨w.heap.size, 3, none⟩ = some (.slice A0_0 n0_0 c0_0) := by rw [hw]; simp
  have yw1_e0_0 : w.heap.size < w1.heap.size := World.block_lt_of_cell? _ _ e0_0
  clear hw
  replace B := bel2 B hb
  have zw1 := hb.size
  clear hb
  refine (szAbacus _ _ M0_0 (by omega) (by omega)).mono ?_
  rintro e w2 ⟨rfl, hb⟩
  rw [S0.out]
  replace e0_0 := cellB e0_0 hb
  replace e0_1 := cellB e0_1 hb
  replace e0_2 := cellB e0_2 hb
  replace e0_3 := cellB e0_3 hb
  replace B := bel2 B hb
  have zw2 := hb.size
  clear hb
  go_wp2_with fail
  refine absW ?_
  intro w3 hw
  have hb : Below w2.heap.size w2 w3 := by rw [hw]; exact (by repeat' (first | assumption | exact Below.refl _ _ | refine Below.drew ?_ | refine Below.alloc ?_ (by first | omega | (simp; done) | (simp; omega)) _))
  clear hw
  replace e0_0 := cellB e0_0 hb
  replace e0_1 := cellB e0_1 hb
  replace e0_2 := cellB e0_2 hb
  replace e0_3 := cellB e0_3 hb
  replace B := bel2 B hb
  have zw3 := hb.size
  clear hb
  refine (szBeadMoveS _ _ M1_0 (by omega) (by omega)).mono ?_
  rintro e w4 ⟨rfl, rfl⟩
  rw [S1.out]
  go_wp2_with fail
  refine absW ?_
  intro w4 hw
  have hb : Below w3.heap.size w3 w4 := by rw [hw]; exact (by repeat' (first | assumption | exact Below.refl _ _ | refine Below.drew ?_ | refine Below.alloc ?_ (by first | omega | (simp; done) | (simp; omega)) _))
  clear hw
  replace e0_0 := cellB e0_0 hb
  replace e0_1 := cellB e0_1 hb
  replace e0_2 := cellB e0_2 hb
  replace e0_3 := cellB e0_3 hb
  replace B := bel2 B hb
  have zw4 := hb.size
  clear hb
  refine (toAbacus _ (rdB r0_0 B) l0_0.out m0_0).mono ?_
  rintro e w5 ⟨vs_0_0, rfl, os_0_0, hb⟩
  replace e0_0 := cellB e0_0 hb
  replace e0_1 := cellB e0_1 hb
  replace e0_2 := cellB e0_2 hb
  replace e0_3 := cellB e0_3 hb
  replace B := bel2 B hb
  have zw5 := hb.size
  clear hb
  obtain ⟨As_0_0, cs_0_0, rfl, _, _⟩ := os_0_0.form
  go_wp2_with fail
  refine absW ?_
  intro w6 hw
  have hb : Below w5.heap.size w5 w6 := by rw [hw]; exact (by repeat' (first | assumption | exact Below.refl _ _ | refine Below.drew ?_ | refine Below.alloc ?_ (by first | omega | (simp; done) | (simp; omega)) _))
  clear hw
  replace e0_0 := cellB e0_0 hb
  replace e0_1 := cellB e0_1 hb
  replace e0_2 := cellB e0_2 hb
  replace e0_3 := cellB e0_3 hb
  replace os_0_0 := os_0_0.bel hb
  replace B := bel2 B hb
  have zw6 := hb.size
  clear hb
  refine (toBeadMoveS _ (rdB r1_0 B) l1_0.out m1_0).mono ?_
  rintro e w7 ⟨vs_1_0, rfl, os_1_0, hb⟩
  replace e0_0 := cellB e0_0 hb
  replace e0_1 := cellB e0_1 hb
  replace e0_2 := cellB e0_2 hb
  replace e0_3 := cellB e0_3 hb
  replace os_0_0 := os_0_0.bel hb
  replace B := bel2 B hb
  have zw7 := hb.size
  clear hb
  obtain ⟨As_1_0, cs_1_0, rfl, _, _⟩ := os_1_0.form
  go_wp2_with fail
  refine absW ?_
  intro w8 hw
  have hb : Below w7.heap.size w7 w8 := by rw [hw]; exact (by repeat' (first | assumption | exact Below.refl _ _ | refine Below.drew ?_ | refine Below.alloc ?_ (by first | omega | (simp; done) | (simp; omega)) _))
  clear hw
  replace e0_0 := cellB e0_0 hb
  replace e0_1 := cellB e0_1 hb
  replace e0_2 := cellB e0_2 hb
  replace e0_3 := cellB e0_3 hb
  replace os_0_0 := os_0_0.bel hb
  replace os_1_0 := os_1_0.bel hb
  replace B := bel2 B hb
  have zw8 := hb.size
  clear hb
  refine (sReplay _ os_0_0.reads l0_0.out M0_0 os_1_0.reads l1_0.out M1_0).mono ?_
  rintro e w9 ⟨vw0_0, rfl, ow0_0, hb⟩
  replace e0_0 := cellB e0_0 hb
  replace e0_1 := cellB e0_1 hb
  replace e0_2 := cellB e0_2 hb
  replace e0_3 := cellB e0_3 hb
  replace os_0_0 := os_0_0.bel hb
  replace os_1_0 := os_1_0.bel hb
  replace B := bel2 B hb
  have zw9 := hb.size
  clear hb
  obtain ⟨Aw0_0, cw0_0, rfl, fow0_0, kow0_0⟩ := ow0_0.form
  clear os_0_0
  clear os_1_0
  have j1_0 := fun (X0 : Obj) => (cellA e0_0 X0)
  have j1_1 := fun (X0 : Obj) => (cellA e0_1 X0)
  have j1_2 := fun (X0 : Obj) => (cellA e0_2 X0)
  have j1_3 := fun (X0 : Obj) => (cellA e0_3 X0)
  go_wp2_with fail
  refine absW ?_
  intro w10 hw
  have hb : Below w9.heap.size w9 w10 := by rw [hw]; exact (by repeat' (first | assumption | exact Below.refl _ _ | refine Below.drew ?_ | refine Below.alloc ?_ (by first | omega | (simp; done) | (simp; omega)) _))
  have ew0_0 : w10.cell? ⟨w9.heap.size, 0, none⟩ = some (.int .i64 (pkI (okA b0_0 b0_1 b0_2 x0_0) b0_0)) := by rw [hw]; simp
  have ew0_1 : w10.cell? ⟨w9.heap.size, 1, none⟩ = some (.int .i64 (pkI (okA b0_0 b0_1 b0_2 x0_0) b0_1)) := by rw [hw]; simp
  have ew0_2 : w10.cell? ⟨w9.heap.size, 2, none⟩ = some (.int .i64 (pkI (okA b0_0 b0_1 b0_2 x0_0) b0_2)) := by rw [hw]; simp
  have ew0_3 : w10.cell? ⟨w9.heap.size, 3, none⟩ = some (.slice Aw0_0 (rpN b0_0 b0_1 b0_2 x0_0) cw0_0) := by rw [hw]; simp
  have yw10_ew0_0 : w9.heap.size < w10.heap.size := World.block_lt_of_cell? _ _ ew0_0
  clear hw j1_0 j1_1 j1_2 j1_3
  replace e0_0 := cellB e0_0 hb
  replace e0_1 := cellB e0_1 hb
  replace e0_2 := cellB e0_2 hb
  replace e0_3 := cellB e0_3 hb
  replace ow0_0 := ow0_0.bel hb
  replace B := bel2 B hb
  have zw10 := hb.size
  clear hb
  refine (toAbacus _ (rdB r0_0 B) l0_0.out m0_0).mono ?_
  rintro e w11 ⟨vx_0_0, rfl, ox_0_0, hb⟩
  replace e0_0 := cellB e0_0 hb
  replace e0_1 := cellB e0_1 hb
  replace e0_2 := cellB e0_2 hb
  replace e0_3 := cellB e0_3 hb
  replace ew0_0 := cellB ew0_0 hb
  replace ew0_1 := cellB ew0_1 hb
  replace ew0_2 := cellB ew0_2 hb
  replace ew0_3 := cellB ew0_3 hb
  replace ow0_0 := ow0_0.bel hb
  replace B := bel2 B hb
  have zw11 := hb.size
  clear hb
  obtain ⟨Ax_0_0, cx_0_0, rfl, _, _⟩ := ox_0_0.form
  have j1_0 := fun (X0 : Obj) => (cellA e0_0 X0)
  have j1_1 := fun (X0 : Obj) => (cellA e0_1 X0)
  have j1_2 := fun (X0 : Obj) => (cellA e0_2 X0)
  have j1_3 := fun (X0 : Obj) => (cellA e0_3 X0)
  have j1_4 := fun (X0 : Obj) => (cellA ew0_0 X0)
  have j1_5 := fun (X0 : Obj) => (cellA ew0_1 X0)
  have j1_6 := fun (X0 : Obj) => (cellA ew0_2 X0)
  have j1_7 := fun (X0 : Obj) => (cellA ew0_3 X0)
  go_wp2_with fail
  refine absW ?_
  intro w12 hw
  have hb : Below w11.heap.size w11 w12 := by rw [hw]; exact (by repeat' (first | assumption | exact Below.refl _ _ | refine Below.drew ?_ | refine Below.alloc ?_ (by first | omega | (simp; done) | (simp; omega)) _))
  have ex_0_0 : w12.cell? ⟨w11.heap.size, 0, none⟩ = some (.int .i64 b0_0) := by rw [hw]; simp
  have ex_0_1 : w12.cell? ⟨w11.heap.size, 1, none⟩ = some (.int .i64 b0_1) := by rw [hw]; simp
  have ex_0_2 : w12.cell? ⟨w11.heap.size, 2, none⟩ = some (.int .i64 b0_2) := by rw [hw]; simp
  have ex_0_3 : w12.cell? ⟨w11.heap.size, 3, none⟩ = some (.slice Ax_0_0 n0_0 cx_0_0) := by rw [hw]; simp
  have yw12_ex_0_0 : w11.heap.size < w12.heap.size := World.block_lt_of_cell? _ _ ex_0_0
  clear hw j1_0 j1_1 j1_2 j1_3 j1_4 j1_5 j1_6 j1_7
  replace e0_0 := cellB e0_0 hb
  replace e0_1 := cellB e0_1 hb
  replace e0_2 := cellB e0_2 hb
  replace e0_3 := cellB e0_3 hb
  replace ew0_0 := cellB ew0_0 hb
  replace ew0_1 := cellB ew0_1 hb
  replace ew0_2 := cellB ew0_2 hb
  replace ew0_3 := cellB ew0_3 hb
  replace ow0_0 := ow0_0.bel hb
  replace ox_0_0 := ox_0_0.bel hb
  replace B := bel2 B hb
  have zw12 := hb.size
  clear hb
  refine (toBeadMoveS _ (rdB r1_0 B) l1_0.out m1_0).mono ?_
  rintro e w13 ⟨vx_1_0, rfl, ox_1_0, hb⟩
  replace e0_0 := cellB e0_0 hb
  replace e0_1 := cellB e0_1 hb
  replace e0_2 := cellB e0_2 hb
  replace e0_3 := cellB e0_3 hb
  replace ew0_0 := cellB ew0_0 hb
  replace ew0_1 := cellB ew0_1 hb
  replace ew0_2 := cellB ew0_2 hb
  replace ew0_3 := cellB ew0_3 hb
  replace ex_0_0 := cellB ex_0_0 hb
  replace ex_0_1 := cellB ex_0_1 hb
  replace ex_0_2 := cellB ex_0_2 hb
  replace ex_0_3 := cellB ex_0_3 hb
  replace ow0_0 := ow0_0.bel hb
  replace ox_0_0 := ox_0_0.bel hb
  replace B := bel2 B hb
  have zw13 := hb.size
  clear hb
  obtain ⟨Ax_1_0, cx_1_0, rfl, _, _⟩ := ox_1_0.form
  go_wp2_with fail
  refine absW ?_
  intro w14 hw
  have hb : Below w13.heap.size w13 w14 := by rw [hw]; exact (by repeat' (first | assumption | exact Below.refl _ _ | refine Below.drew ?_ | refine Below.alloc ?_ (by first | omega | (simp; done) | (simp; omega)) _))
  clear hw
  replace e0_0 := cellB e0_0 hb
  replace e0_1 := cellB e0_1 hb
  replace e0_2 := cellB e0_2 hb
  replace e0_3 := cellB e0_3 hb
  replace ew0_0 := cellB ew0_0 hb
  replace ew0_1 := cellB ew0_1 hb
  replace ew0_2 := cellB ew0_2 hb
  replace ew0_3 := cellB ew0_3 hb
  replace ex_0_0 := cellB ex_0_0 hb
  replace ex_0_1 := cellB ex_0_1 hb
  replace ex_0_2 := cellB ex_0_2 hb
  replace ex_0_3 := cellB ex_0_3 hb
  replace ow0_0 := ow0_0.bel hb
  replace ox_0_0 := ox_0_0.bel hb
  replace ox_1_0 := ox_1_0.bel hb
  replace B := bel2 B hb
  have zw14 := hb.size
  clear hb
  refine (iReplay _ ox_0_0.reads l0_0.out M0_0 ox_1_0.reads l1_0.out M1_0).mono ?_
  rintro e w15 ⟨vg0_0, rfl, og0_0, hb⟩
  replace e0_0 := cellB e0_0 hb
  replace e0_1 := cellB e0_1 hb
  replace e0_2 := cellB e0_2 hb
  replace e0_3 := cellB e0_3 hb
  replace ew0_0 := cellB ew0_0 hb
  replace ew0_1 := cellB ew0_1 hb
  replace ew0_2 := cellB ew0_2 hb
  replace ew0_3 := cellB ew0_3 hb
  replace ex_0_0 := cellB ex_0_0 hb
  replace ex_0_1 := cellB ex_0_1 hb
  replace ex_0_2 := cellB ex_0_2 hb
  replace ex_0_3 := cellB ex_0_3 hb
  replace ow0_0 := ow0_0.bel hb
  replace ox_0_0 := ox_0_0.bel hb
  replace ox_1_0 := ox_1_0.bel hb
  replace B := bel2 B hb
  have zw15 := hb.size
  clear hb
  obtain ⟨Ag0_0, cg0_0, rfl, fog0_0, kog0_0⟩ := og0_0.form
  have j1_0 := fun (X0 : Obj) => (cellA e0_0 X0)
  have j1_1 := fun (X0 : Obj) => (cellA e0_1 X0)
  have j1_2 := fun (X0 : Obj) => (cellA e0_2 X0)
  have j1_3 := fun (X0 : Obj) => (cellA e0_3 X0)
  have j1_4 := fun (X0 : Obj) => (cellA ew0_0 X0)
  have j1_5 := fun (X0 : Obj) => (cellA ew0_1 X0)
  have j1_6 := fun (X0 : Obj) => (cellA ew0_2 X0)
  have j1_7 := fun (X0 : Obj) => (cellA ew0_3 X0)
  have j1_8 := fun (X0 : Obj) => (cellA ex_0_0 X0)
  have j1_9 := fun (X0 : Obj) => (cellA ex_0_1 X0)
  have j1_10 := fun (X0 : Obj) => (cellA ex_0_2 X0)
  have j1_11 := fun (X0 : Obj) => (cellA ex_0_3 X0)
  go_wp2_with fail
  refine absW ?_
  intro w16 hw
  have hb : Below w15.heap.size w15 w16 := by rw [hw]; exact (by repeat' (first | assumption | exact Below.refl _ _ | refine Below.drew ?_ | refine Below.alloc ?_ (by first | omega | (simp; done) | (simp; omega)) _))
  have eg0_0 : w16.cell? ⟨w15.heap.size, 0, none⟩ = some (.int .i64 (pkI (okA b0_0 b0_1 b0_2 x0_0) b0_0)) := by rw [hw]; simp
  have eg0_1 : w16.cell? ⟨w15.heap.size, 1, none⟩ = some (.int .i64 (pkI (okA b0_0 b0_1 b0_2 x0_0) b0_1)) := by rw [hw]; simp
  have eg0_2 : w16.cell? ⟨w15.heap.size, 2, none⟩ = some (.int .i64 (pkI (okA b0_0 b0_1 b0_2 x0_0) b0_2)) := by rw [hw]; simp
  have eg0_3 : w16.cell? ⟨w15.heap.size, 3, none⟩ = some (.slice Ag0_0 (rpN b0_0 b0_1 b0_2 x0_0) cg0_0) := by rw [hw]; simp
  have yw16_eg0_0 : w15.heap.size < w16.heap.size := World.block_lt_of_cell? _ _ eg0_0
  clear hw j1_0 j1_1 j1_2 j1_3 j1_4 j1_5 j1_6 j1_7 j1_8 j1_9 j1_10 j1_11
  replace e0_0 := cellB e0_0 hb
  replace e0_1 := cellB e0_1 hb
  replace e0_2 := cellB e0_2 hb
  replace e0_3 := cellB e0_3 hb
  replace ew0_0 := cellB ew0_0 hb
  replace ew0_1 := cellB ew0_1 hb
  replace ew0_2 := cellB ew0_2 hb
  replace ew0_3 := cellB ew0_3 hb
  replace ex_0_0 := cellB ex_0_0 hb
  replace ex_0_1 := cellB ex_0_1 hb
  replace ex_0_2 := cellB ex_0_2 hb
  replace ex_0_3 := cellB ex_0_3 hb
  replace ow0_0 := ow0_0.bel hb
  replace ox_0_0 := ox_0_0.bel hb
  replace ox_1_0 := ox_1_0.bel hb
  replace og0_0 := og0_0.bel hb
  replace B := bel2 B hb
  have zw16 := hb.size
  clear hb
  refine (eqAbacus _ og0_0.reads ow0_0.reads (by have := ow0_0.row.1; rw [flat_length encPair_length] at this; omega) (Nat.le_trans fow0_0 kow0_0)).mono ?_
  rintro e w17 ⟨rfl, hb⟩
  replace e0_0 := cellB e0_0 hb
  replace e0_1 := cellB e0_1 hb
  replace e0_2 := cellB e0_2 hb
  replace e0_3 := cellB e0_3 hb
  replace ew0_0 := cellB ew0_0 hb
  replace ew0_1 := cellB ew0_1 hb
  replace ew0_2 := cellB ew0_2 hb
  replace ew0_3 := cellB ew0_3 hb
  replace ex_0_0 := cellB ex_0_0 hb
  replace ex_0_1 := cellB ex_0_1 hb
  replace ex_0_2 := cellB ex_0_2 hb
  replace ex_0_3 := cellB ex_0_3 hb
  replace eg0_0 := cellB eg0_0 hb
  replace eg0_1 := cellB eg0_1 hb
  replace eg0_2 := cellB eg0_2 hb
  replace eg0_3 := cellB eg0_3 hb
  replace ow0_0 := ow0_0.bel hb
  replace ox_0_0 := ox_0_0.bel hb
  replace ox_1_0 := ox_1_0.bel hb
  replace og0_0 := og0_0.bel hb
  replace B := bel2 B hb
  have zw17 := hb.size
  clear hb
  go_wp2_with fail
  go_region_held3 (fun w' => w'.cell? ⟨w.heap.size, 0, none⟩ = some (.int .i64 b0_0) ∧ w'.cell? ⟨w.heap.size, 1, none⟩ = some (.int .i64 b0_1) ∧ w'.cell? ⟨w.heap.size, 2, none⟩ = some (.int .i64 b0_2) ∧ w'.cell? ⟨w.heap.size, 3, none⟩ = some (.slice A0_0 n0_0 c0_0) ∧ w'.cell? ⟨w9.heap.size, 0, none⟩ = some (.int .i64 (pkI (okA b0_0 b0_1 b0_2 x0_0) b0_0)) ∧ w'.cell? ⟨w9.heap.size, 1, none⟩ = some (.int .i64 (pkI (okA b0_0 b0_1 b0_2 x0_0) b0_1)) ∧ w'.cell? ⟨w9.heap.size, 2, none⟩ = some (.int .i64 (pkI (okA b0_0 b0_1 b0_2 x0_0) b0_2)) ∧ w'.cell? ⟨w9.heap.size, 3, none⟩ = some (.slice Aw0_0 (rpN b0_0 b0_1 b0_2 x0_0) cw0_0) ∧ w'.cell? ⟨w11.heap.size, 0, none⟩ = some (.int .i64 b0_0) ∧ w'.cell? ⟨w11.heap.size, 1, none⟩ = some (.int .i64 b0_1) ∧ w'.cell? ⟨w11.heap.size, 2, none⟩ = some (.int .i64 b0_2) ∧ w'.cell? ⟨w11.heap.size, 3, none⟩ = some (.slice Ax_0_0 n0_0 cx_0_0) ∧ w'.cell? ⟨w15.heap.size, 0, none⟩ = some (.int .i64 (pkI (okA b0_0 b0_1 b0_2 x0_0) b0_0)) ∧ w'.cell? ⟨w15.heap.size, 1, none⟩ = some (.int .i64 (pkI (okA b0_0 b0_1 b0_2 x0_0) b0_1)) ∧ w'.cell? ⟨w15.heap.size, 2, none⟩ = some (.int .i64 (pkI (okA b0_0 b0_1 b0_2 x0_0) b0_2)) ∧ w'.cell? ⟨w15.heap.size, 3, none⟩ = some (.slice Ag0_0 (rpN b0_0 b0_1 b0_2 x0_0) cg0_0) ∧ Below w17.heap.size w17 w')
    ((go_split_ands; and_intros <;> (first | assumption | exact cellB (by assumption) hbx | exact bel2 (by assumption) hbx | exact (Below.refl _ _).drew)))
    (first
      | (go_at_call_of 16 (Value.slice A0_0 n0_0 c0_0); go_split_ands; (first | refine (toAbacus _ (rdB r0_0 (bel2 B (by assumption))) l0_0.out m0_0).mono ?_); rintro e w' ⟨vz_0_0, rfl, oz_0_0, hbx⟩; obtain ⟨Az_0_0, cz_0_0, rfl, _, _⟩ := oz_0_0.form)
      | (go_at_call 18; go_split_ands; (first | refine (eqAbacus _ (Own.reads (Own.bel ox_0_0 (by assumption))) oz_0_0.reads l0_0.out M0_0).mono ?_); rintro e w' ⟨rfl, hbx⟩; replace oz_0_0 := oz_0_0.bel hbx)
    )
  have hb : Below w17.heap.size w17 w' := by go_split_ands; assumption
  obtain ⟨w18, hw⟩ : ∃ w18, w18 = w' := ⟨_, rfl⟩
  subst hw
  replace e0_0 := cellB e0_0 hb
  replace e0_1 := cellB e0_1 hb
  replace e0_2 := cellB e0_2 hb
  replace e0_3 := cellB e0_3 hb
  replace ew0_0 := cellB ew0_0 hb
  replace ew0_1 := cellB ew0_1 hb
  replace ew0_2 := cellB ew0_2 hb
  replace ew0_3 := cellB ew0_3 hb
  replace ex_0_0 := cellB ex_0_0 hb
  replace ex_0_1 := cellB ex_0_1 hb
  replace ex_0_2 := cellB ex_0_2 hb
  replace ex_0_3 := cellB ex_0_3 hb
  replace eg0_0 := cellB eg0_0 hb
  replace eg0_1 := cellB eg0_1 hb
  replace eg0_2 := cellB eg0_2 hb
  replace eg0_3 := cellB eg0_3 hb
  replace ow0_0 := ow0_0.bel hb
  replace ox_0_0 := ox_0_0.bel hb
  replace ox_1_0 := ox_1_0.bel hb
  replace og0_0 := og0_0.bel hb
  replace B := bel2 B hb
  have zw18 := hb.size
  clear hb
  clear oz_0_0
  go_wp2_with fail
  refine absW ?_
  intro w19 hw
  have hb : Below w18.heap.size w18 w19 := by rw [hw]; exact (by repeat' (first | assumption | exact Below.refl _ _ | refine Below.drew ?_ | refine Below.alloc ?_ (by first | omega | (simp; done) | (simp; omega)) _))
  clear hw
  replace e0_0 := cellB e0_0 hb
  replace e0_1 := cellB e0_1 hb
  replace e0_2 := cellB e0_2 hb
  replace e0_3 := cellB e0_3 hb
  replace ew0_0 := cellB ew0_0 hb
  replace ew0_1 := cellB ew0_1 hb
  replace ew0_2 := cellB ew0_2 hb
  replace ew0_3 := cellB ew0_3 hb
  replace ex_0_0 := cellB ex_0_0 hb
  replace ex_0_1 := cellB ex_0_1 hb
  replace ex_0_2 := cellB ex_0_2 hb
  replace ex_0_3 := cellB ex_0_3 hb
  replace eg0_0 := cellB eg0_0 hb
  replace eg0_1 := cellB eg0_1 hb
  replace eg0_2 := cellB eg0_2 hb
  replace eg0_3 := cellB eg0_3 hb
  replace ow0_0 := ow0_0.bel hb
  replace ox_0_0 := ox_0_0.bel hb
  replace ox_1_0 := ox_1_0.bel hb
  replace og0_0 := og0_0.bel hb
  replace B := bel2 B hb
  have zw19 := hb.size
  clear hb
  refine (toBeadMoveS _ (rdB r1_0 B) l1_0.out m1_0).mono ?_
  rintro e w20 ⟨vz_1_0, rfl, oz_1_0, hb⟩
  replace e0_0 := cellB e0_0 hb
  replace e0_1 := cellB e0_1 hb
  replace e0_2 := cellB e0_2 hb
  replace e0_3 := cellB e0_3 hb
  replace ew0_0 := cellB ew0_0 hb
  replace ew0_1 := cellB ew0_1 hb
  replace ew0_2 := cellB ew0_2 hb
  replace ew0_3 := cellB ew0_3 hb
  replace ex_0_0 := cellB ex_0_0 hb
  replace ex_0_1 := cellB ex_0_1 hb
  replace ex_0_2 := cellB ex_0_2 hb
  replace ex_0_3 := cellB ex_0_3 hb
  replace eg0_0 := cellB eg0_0 hb
  replace eg0_1 := cellB eg0_1 hb
  replace eg0_2 := cellB eg0_2 hb
  replace eg0_3 := cellB eg0_3 hb
  replace ow0_0 := ow0_0.bel hb
  replace ox_0_0 := ox_0_0.bel hb
  replace ox_1_0 := ox_1_0.bel hb
  replace og0_0 := og0_0.bel hb
  replace B := bel2 B hb
  have zw20 := hb.size
  clear hb
  obtain ⟨Az_1_0, cz_1_0, rfl, _, _⟩ := oz_1_0.form
  go_wp2_with fail
  refine absW ?_
  intro w21 hw
  have hb : Below w20.heap.size w20 w21 := by rw [hw]; exact (by repeat' (first | assumption | exact Below.refl _ _ | refine Below.drew ?_ | refine Below.alloc ?_ (by first | omega | (simp; done) | (simp; omega)) _))
  clear hw
  replace e0_0 := cellB e0_0 hb
  replace e0_1 := cellB e0_1 hb
  replace e0_2 := cellB e0_2 hb
  replace e0_3 := cellB e0_3 hb
  replace ew0_0 := cellB ew0_0 hb
  replace ew0_1 := cellB ew0_1 hb
  replace ew0_2 := cellB ew0_2 hb
  replace ew0_3 := cellB ew0_3 hb
  replace ex_0_0 := cellB ex_0_0 hb
  replace ex_0_1 := cellB ex_0_1 hb
  replace ex_0_2 := cellB ex_0_2 hb
  replace ex_0_3 := cellB ex_0_3 hb
  replace eg0_0 := cellB eg0_0 hb
  replace eg0_1 := cellB eg0_1 hb
  replace eg0_2 := cellB eg0_2 hb
  replace eg0_3 := cellB eg0_3 hb
  replace ow0_0 := ow0_0.bel hb
  replace ox_0_0 := ox_0_0.bel hb
  replace ox_1_0 := ox_1_0.bel hb
  replace og0_0 := og0_0.bel hb
  replace oz_1_0 := oz_1_0.bel hb
  replace B := bel2 B hb
  have zw21 := hb.size
  clear hb
  refine (eqBeadMoveS _ ox_1_0.reads oz_1_0.reads l1_0.out M1_0).mono ?_
  rintro e w22 ⟨rfl, hb⟩
  replace e0_0 := cellB e0_0 hb
  replace e0_1 := cellB e0_1 hb
  replace e0_2 := cellB e0_2 hb
  replace e0_3 := cellB e0_3 hb
  replace ew0_0 := cellB ew0_0 hb
  replace ew0_1 := cellB ew0_1 hb
  replace ew0_2 := cellB ew0_2 hb
  replace ew0_3 := cellB ew0_3 hb
  replace ex_0_0 := cellB ex_0_0 hb
  replace ex_0_1 := cellB ex_0_1 hb
  replace ex_0_2 := cellB ex_0_2 hb
  replace ex_0_3 := cellB ex_0_3 hb
  replace eg0_0 := cellB eg0_0 hb
  replace eg0_1 := cellB eg0_1 hb
  replace eg0_2 := cellB eg0_2 hb
  replace eg0_3 := cellB eg0_3 hb
  replace ow0_0 := ow0_0.bel hb
  replace ox_0_0 := ox_0_0.bel hb
  replace ox_1_0 := ox_1_0.bel hb
  replace og0_0 := og0_0.bel hb
  replace oz_1_0 := oz_1_0.bel hb
  replace B := bel2 B hb
  have zw22 := hb.size
  clear hb
  clear oz_1_0
  go_wp2_with fail
  refine absW ?_
  intro w23 hw
  have hb : Below w22.heap.size w22 w23 := by rw [hw]; exact (by repeat' (first | assumption | exact Below.refl _ _ | refine Below.drew ?_ | refine Below.alloc ?_ (by first | omega | (simp; done) | (simp; omega)) _))
  clear hw
  replace e0_0 := cellB e0_0 hb
  replace e0_1 := cellB e0_1 hb
  replace e0_2 := cellB e0_2 hb
  replace e0_3 := cellB e0_3 hb
  replace ew0_0 := cellB ew0_0 hb
  replace ew0_1 := cellB ew0_1 hb
  replace ew0_2 := cellB ew0_2 hb
  replace ew0_3 := cellB ew0_3 hb
  replace ex_0_0 := cellB ex_0_0 hb
  replace ex_0_1 := cellB ex_0_1 hb
  replace ex_0_2 := cellB ex_0_2 hb
  replace ex_0_3 := cellB ex_0_3 hb
  replace eg0_0 := cellB eg0_0 hb
  replace eg0_1 := cellB eg0_1 hb
  replace eg0_2 := cellB eg0_2 hb
  replace eg0_3 := cellB eg0_3 hb
  replace ow0_0 := ow0_0.bel hb
  replace ox_0_0 := ox_0_0.bel hb
  replace ox_1_0 := ox_1_0.bel hb
  replace og0_0 := og0_0.bel hb
  replace B := bel2 B hb
  have zw23 := hb.size
  clear hb
  refine (markAbacus _ _ ox_0_0 (by omega) (by omega) (by omega)).mono ?_
  rintro e w24 ⟨rfl, p0, ht⟩
  clear ox_0_0; have ox_0_0 := p0; clear p0
  replace e0_0 := cellT e0_0 ht (by omega)
  replace e0_1 := cellT e0_1 ht (by omega)
  replace e0_2 := cellT e0_2 ht (by omega)
  replace e0_3 := cellT e0_3 ht (by omega)
  replace ew0_0 := cellT ew0_0 ht (by omega)
  replace ew0_1 := cellT ew0_1 ht (by omega)
  replace ew0_2 := cellT ew0_2 ht (by omega)
  replace ew0_3 := cellT ew0_3 ht (by omega)
  replace ex_0_0 := cellT ex_0_0 ht (by omega)
  replace ex_0_1 := cellT ex_0_1 ht (by omega)
  replace ex_0_2 := cellT ex_0_2 ht (by omega)
  replace ex_0_3 := cellT ex_0_3 ht (by omega)
  replace eg0_0 := cellT eg0_0 ht (by omega)
  replace eg0_1 := cellT eg0_1 ht (by omega)
  replace eg0_2 := cellT eg0_2 ht (by omega)
  replace eg0_3 := cellT eg0_3 ht (by omega)
  replace ow0_0 := ow0_0.touch ht (by omega)
  replace ox_1_0 := ox_1_0.touch ht (by omega)
  replace og0_0 := og0_0.touch ht (by omega)
  replace B := Touch.below B ht B.size (by omega)
  have zw24 := ht.size
  clear ht
  go_wp2_with fail
  refine absW ?_
  intro w25 hw
  have hb : Below w24.heap.size w24 w25 := by rw [hw]; exact (by repeat' (first | assumption | exact Below.refl _ _ | refine Below.drew ?_ | refine Below.alloc ?_ (by first | omega | (simp; done) | (simp; omega)) _))
  clear hw
  replace e0_0 := cellB e0_0 hb
  replace e0_1 := cellB e0_1 hb
  replace e0_2 := cellB e0_2 hb
  replace e0_3 := cellB e0_3 hb
  replace ew0_0 := cellB ew0_0 hb
  replace ew0_1 := cellB ew0_1 hb
  replace ew0_2 := cellB ew0_2 hb
  replace ew0_3 := cellB ew0_3 hb
  replace ex_0_0 := cellB ex_0_0 hb
  replace ex_0_1 := cellB ex_0_1 hb
  replace ex_0_2 := cellB ex_0_2 hb
  replace ex_0_3 := cellB ex_0_3 hb
  replace eg0_0 := cellB eg0_0 hb
  replace eg0_1 := cellB eg0_1 hb
  replace eg0_2 := cellB eg0_2 hb
  replace eg0_3 := cellB eg0_3 hb
  replace ow0_0 := ow0_0.bel hb
  replace ox_0_0 := ox_0_0.bel hb
  replace ox_1_0 := ox_1_0.bel hb
  replace og0_0 := og0_0.bel hb
  replace B := bel2 B hb
  have zw25 := hb.size
  clear hb
  refine (markBeadMoveS _ _ ox_1_0 (by omega) (by omega) (by omega)).mono ?_
  rintro e w26 ⟨rfl, p0, ht⟩
  clear ox_1_0; have ox_1_0 := p0; clear p0
  replace e0_0 := cellT e0_0 ht (by omega)
  replace e0_1 := cellT e0_1 ht (by omega)
  replace e0_2 := cellT e0_2 ht (by omega)
  replace e0_3 := cellT e0_3 ht (by omega)
  replace ew0_0 := cellT ew0_0 ht (by omega)
  replace ew0_1 := cellT ew0_1 ht (by omega)
  replace ew0_2 := cellT ew0_2 ht (by omega)
  replace ew0_3 := cellT ew0_3 ht (by omega)
  replace ex_0_0 := cellT ex_0_0 ht (by omega)
  replace ex_0_1 := cellT ex_0_1 ht (by omega)
  replace ex_0_2 := cellT ex_0_2 ht (by omega)
  replace ex_0_3 := cellT ex_0_3 ht (by omega)
  replace eg0_0 := cellT eg0_0 ht (by omega)
  replace eg0_1 := cellT eg0_1 ht (by omega)
  replace eg0_2 := cellT eg0_2 ht (by omega)
  replace eg0_3 := cellT eg0_3 ht (by omega)
  replace ow0_0 := ow0_0.touch ht (by omega)
  replace ox_0_0 := ox_0_0.touch ht (by omega)
  replace og0_0 := og0_0.touch ht (by omega)
  replace B := Touch.below B ht B.size (by omega)
  have zw26 := ht.size
  clear ht
  go_wp2_with fail
  refine absW ?_
  intro w27 hw
  have hb : Below w26.heap.size w26 w27 := by rw [hw]; exact (by repeat' (first | assumption | exact Below.refl _ _ | refine Below.drew ?_ | refine Below.alloc ?_ (by first | omega | (simp; done) | (simp; omega)) _))
  clear hw
  replace e0_0 := cellB e0_0 hb
  replace e0_1 := cellB e0_1 hb
  replace e0_2 := cellB e0_2 hb
  replace e0_3 := cellB e0_3 hb
  replace ew0_0 := cellB ew0_0 hb
  replace ew0_1 := cellB ew0_1 hb
  replace ew0_2 := cellB ew0_2 hb
  replace ew0_3 := cellB ew0_3 hb
  replace ex_0_0 := cellB ex_0_0 hb
  replace ex_0_1 := cellB ex_0_1 hb
  replace ex_0_2 := cellB ex_0_2 hb
  replace ex_0_3 := cellB ex_0_3 hb
  replace eg0_0 := cellB eg0_0 hb
  replace eg0_1 := cellB eg0_1 hb
  replace eg0_2 := cellB eg0_2 hb
  replace eg0_3 := cellB eg0_3 hb
  replace ow0_0 := ow0_0.bel hb
  replace ox_0_0 := ox_0_0.bel hb
  replace ox_1_0 := ox_1_0.bel hb
  replace og0_0 := og0_0.bel hb
  replace B := bel2 B hb
  have zw27 := hb.size
  clear hb
  refine (eqAbacus _ og0_0.reads ow0_0.reads (by have := ow0_0.row.1; rw [flat_length encPair_length] at this; omega) (Nat.le_trans fow0_0 kow0_0)).mono ?_
  rintro e w28 ⟨rfl, hb⟩
  replace e0_0 := cellB e0_0 hb
  replace e0_1 := cellB e0_1 hb
  replace e0_2 := cellB e0_2 hb
  replace e0_3 := cellB e0_3 hb
  replace ew0_0 := cellB ew0_0 hb
  replace ew0_1 := cellB ew0_1 hb
  replace ew0_2 := cellB ew0_2 hb
  replace ew0_3 := cellB ew0_3 hb
  replace ex_0_0 := cellB ex_0_0 hb
  replace ex_0_1 := cellB ex_0_1 hb
  replace ex_0_2 := cellB ex_0_2 hb
  replace ex_0_3 := cellB ex_0_3 hb
  replace eg0_0 := cellB eg0_0 hb
  replace eg0_1 := cellB eg0_1 hb
  replace eg0_2 := cellB eg0_2 hb
  replace eg0_3 := cellB eg0_3 hb
  replace ow0_0 := ow0_0.bel hb
  replace ox_0_0 := ox_0_0.bel hb
  replace ox_1_0 := ox_1_0.bel hb
  replace og0_0 := og0_0.bel hb
  replace B := bel2 B hb
  have zw28 := hb.size
  clear hb
  go_wp2_with fail
  refine absW ?_
  intro w29 hw
  have hb : Below w28.heap.size w28 w29 := by rw [hw]; exact (by repeat' (first | assumption | exact Below.refl _ _ | refine Below.drew ?_ | refine Below.alloc ?_ (by first | omega | (simp; done) | (simp; omega)) _))
  clear hw
  replace e0_0 := cellB e0_0 hb
  replace e0_1 := cellB e0_1 hb
  replace e0_2 := cellB e0_2 hb
  replace e0_3 := cellB e0_3 hb
  replace ew0_0 := cellB ew0_0 hb
  replace ew0_1 := cellB ew0_1 hb
  replace ew0_2 := cellB ew0_2 hb
  replace ew0_3 := cellB ew0_3 hb
  replace ex_0_0 := cellB ex_0_0 hb
  replace ex_0_1 := cellB ex_0_1 hb
  replace ex_0_2 := cellB ex_0_2 hb
  replace ex_0_3 := cellB ex_0_3 hb
  replace eg0_0 := cellB eg0_0 hb
  replace eg0_1 := cellB eg0_1 hb
  replace eg0_2 := cellB eg0_2 hb
  replace eg0_3 := cellB eg0_3 hb
  replace ow0_0 := ow0_0.bel hb
  replace ox_0_0 := ox_0_0.bel hb
  replace ox_1_0 := ox_1_0.bel hb
  replace og0_0 := og0_0.bel hb
  replace B := bel2 B hb
  have zw29 := hb.size
  clear hb
  refine (markAbacus _ _ og0_0 (rpN_le _ _ _ _) (by omega) (by omega)).mono ?_
  rintro e w30 ⟨rfl, p0, ht⟩
  clear og0_0; have og0_0 := p0; clear p0
  replace e0_0 := cellT e0_0 ht (by omega)
  replace e0_1 := cellT e0_1 ht (by omega)
  replace e0_2 := cellT e0_2 ht (by omega)
  replace e0_3 := cellT e0_3 ht (by omega)
  replace ew0_0 := cellT ew0_0 ht (by omega)
  replace ew0_1 := cellT ew0_1 ht (by omega)
  replace ew0_2 := cellT ew0_2 ht (by omega)
  replace ew0_3 := cellT ew0_3 ht (by omega)
  replace ex_0_0 := cellT ex_0_0 ht (by omega)
  replace ex_0_1 := cellT ex_0_1 ht (by omega)
  replace ex_0_2 := cellT ex_0_2 ht (by omega)
  replace ex_0_3 := cellT ex_0_3 ht (by omega)
  replace eg0_0 := cellT eg0_0 ht (by omega)
  replace eg0_1 := cellT eg0_1 ht (by omega)
  replace eg0_2 := cellT eg0_2 ht (by omega)
  replace eg0_3 := cellT eg0_3 ht (by omega)
  replace ow0_0 := ow0_0.touch ht (by omega)
  replace ox_0_0 := ox_0_0.touch ht (by omega)
  replace ox_1_0 := ox_1_0.touch ht (by omega)
  replace B := Touch.below B ht B.size (by omega)
  have zw30 := ht.size
  clear ht
  go_wp2_with fail
  refine absW ?_
  intro w31 hw
  have hb : Below w30.heap.size w30 w31 := by rw [hw]; exact (by repeat' (first | assumption | exact Below.refl _ _ | refine Below.drew ?_ | refine Below.alloc ?_ (by first | omega | (simp; done) | (simp; omega)) _))
  clear hw
  replace e0_0 := cellB e0_0 hb
  replace e0_1 := cellB e0_1 hb
  replace e0_2 := cellB e0_2 hb
  replace e0_3 := cellB e0_3 hb
  replace ew0_0 := cellB ew0_0 hb
  replace ew0_1 := cellB ew0_1 hb
  replace ew0_2 := cellB ew0_2 hb
  replace ew0_3 := cellB ew0_3 hb
  replace ex_0_0 := cellB ex_0_0 hb
  replace ex_0_1 := cellB ex_0_1 hb
  replace ex_0_2 := cellB ex_0_2 hb
  replace ex_0_3 := cellB ex_0_3 hb
  replace eg0_0 := cellB eg0_0 hb
  replace eg0_1 := cellB eg0_1 hb
  replace eg0_2 := cellB eg0_2 hb
  replace eg0_3 := cellB eg0_3 hb
  replace ow0_0 := ow0_0.bel hb
  replace ox_0_0 := ox_0_0.bel hb
  replace ox_1_0 := ox_1_0.bel hb
  replace og0_0 := og0_0.bel hb
  replace B := bel2 B hb
  have zw31 := hb.size
  clear hb
  refine (heldAbacus _ _ og0_0.reads (rpN_le _ _ _ _) (by omega) (by omega)).mono ?_
  rintro e w32 ⟨rfl, hb⟩
  replace e0_0 := cellB e0_0 hb
  replace e0_1 := cellB e0_1 hb
  replace e0_2 := cellB e0_2 hb
  replace e0_3 := cellB e0_3 hb
  replace ew0_0 := cellB ew0_0 hb
  replace ew0_1 := cellB ew0_1 hb
  replace ew0_2 := cellB ew0_2 hb
  replace ew0_3 := cellB ew0_3 hb
  replace ex_0_0 := cellB ex_0_0 hb
  replace ex_0_1 := cellB ex_0_1 hb
  replace ex_0_2 := cellB ex_0_2 hb
  replace ex_0_3 := cellB ex_0_3 hb
  replace eg0_0 := cellB eg0_0 hb
  replace eg0_1 := cellB eg0_1 hb
  replace eg0_2 := cellB eg0_2 hb
  replace eg0_3 := cellB eg0_3 hb
  replace ow0_0 := ow0_0.bel hb
  replace ox_0_0 := ox_0_0.bel hb
  replace ox_1_0 := ox_1_0.bel hb
  replace og0_0 := og0_0.bel hb
  replace B := bel2 B hb
  have zw32 := hb.size
  clear hb
  go_wp2_with fail
  refine absW ?_
  intro w33 hw
  have hb : Below w32.heap.size w32 w33 := by rw [hw]; exact (by repeat' (first | assumption | exact Below.refl _ _ | refine Below.drew ?_ | refine Below.alloc ?_ (by first | omega | (simp; done) | (simp; omega)) _))
  clear hw
  replace e0_0 := cellB e0_0 hb
  replace e0_1 := cellB e0_1 hb
  replace e0_2 := cellB e0_2 hb
  replace e0_3 := cellB e0_3 hb
  replace ew0_0 := cellB ew0_0 hb
  replace ew0_1 := cellB ew0_1 hb
  replace ew0_2 := cellB ew0_2 hb
  replace ew0_3 := cellB ew0_3 hb
  replace ex_0_0 := cellB ex_0_0 hb
  replace ex_0_1 := cellB ex_0_1 hb
  replace ex_0_2 := cellB ex_0_2 hb
  replace ex_0_3 := cellB ex_0_3 hb
  replace eg0_0 := cellB eg0_0 hb
  replace eg0_1 := cellB eg0_1 hb
  replace eg0_2 := cellB eg0_2 hb
  replace eg0_3 := cellB eg0_3 hb
  replace ow0_0 := ow0_0.bel hb
  replace ox_0_0 := ox_0_0.bel hb
  replace ox_1_0 := ox_1_0.bel hb
  replace og0_0 := og0_0.bel hb
  replace B := bel2 B hb
  have zw33 := hb.size
  clear hb
  refine (toAbacus _ (rdB r0_0 B) l0_0.out m0_0).mono ?_
  rintro e w34 ⟨vy_0_0, rfl, oy_0_0, hb⟩
  replace e0_0 := cellB e0_0 hb
  replace e0_1 := cellB e0_1 hb
  replace e0_2 := cellB e0_2 hb
  replace e0_3 := cellB e0_3 hb
  replace ew0_0 := cellB ew0_0 hb
  replace ew0_1 := cellB ew0_1 hb
  replace ew0_2 := cellB ew0_2 hb
  replace ew0_3 := cellB ew0_3 hb
  replace ex_0_0 := cellB ex_0_0 hb
  replace ex_0_1 := cellB ex_0_1 hb
  replace ex_0_2 := cellB ex_0_2 hb
  replace ex_0_3 := cellB ex_0_3 hb
  replace eg0_0 := cellB eg0_0 hb
  replace eg0_1 := cellB eg0_1 hb
  replace eg0_2 := cellB eg0_2 hb
  replace eg0_3 := cellB eg0_3 hb
  replace ow0_0 := ow0_0.bel hb
  replace ox_0_0 := ox_0_0.bel hb
  replace ox_1_0 := ox_1_0.bel hb
  replace og0_0 := og0_0.bel hb
  replace B := bel2 B hb
  have zw34 := hb.size
  clear hb
  obtain ⟨Ay_0_0, cy_0_0, rfl, _, _⟩ := oy_0_0.form
  go_wp2_with fail
  refine absW ?_
  intro w35 hw
  have hb : Below w34.heap.size w34 w35 := by rw [hw]; exact (by repeat' (first | assumption | exact Below.refl _ _ | refine Below.drew ?_ | refine Below.alloc ?_ (by first | omega | (simp; done) | (simp; omega)) _))
  clear hw
  replace e0_0 := cellB e0_0 hb
  replace e0_1 := cellB e0_1 hb
  replace e0_2 := cellB e0_2 hb
  replace e0_3 := cellB e0_3 hb
  replace ew0_0 := cellB ew0_0 hb
  replace ew0_1 := cellB ew0_1 hb
  replace ew0_2 := cellB ew0_2 hb
  replace ew0_3 := cellB ew0_3 hb
  replace ex_0_0 := cellB ex_0_0 hb
  replace ex_0_1 := cellB ex_0_1 hb
  replace ex_0_2 := cellB ex_0_2 hb
  replace ex_0_3 := cellB ex_0_3 hb
  replace eg0_0 := cellB eg0_0 hb
  replace eg0_1 := cellB eg0_1 hb
  replace eg0_2 := cellB eg0_2 hb
  replace eg0_3 := cellB eg0_3 hb
  replace ow0_0 := ow0_0.bel hb
  replace ox_0_0 := ox_0_0.bel hb
  replace ox_1_0 := ox_1_0.bel hb
  replace og0_0 := og0_0.bel hb
  replace oy_0_0 := oy_0_0.bel hb
  replace B := bel2 B hb
  have zw35 := hb.size
  clear hb
  refine (toBeadMoveS _ (rdB r1_0 B) l1_0.out m1_0).mono ?_
  rintro e w36 ⟨vy_1_0, rfl, oy_1_0, hb⟩
  replace e0_0 := cellB e0_0 hb
  replace e0_1 := cellB e0_1 hb
  replace e0_2 := cellB e0_2 hb
  replace e0_3 := cellB e0_3 hb
  replace ew0_0 := cellB ew0_0 hb
  replace ew0_1 := cellB ew0_1 hb
  replace ew0_2 := cellB ew0_2 hb
  replace ew0_3 := cellB ew0_3 hb
  replace ex_0_0 := cellB ex_0_0 hb
  replace ex_0_1 := cellB ex_0_1 hb
  replace ex_0_2 := cellB ex_0_2 hb
  replace ex_0_3 := cellB ex_0_3 hb
  replace eg0_0 := cellB eg0_0 hb
  replace eg0_1 := cellB eg0_1 hb
  replace eg0_2 := cellB eg0_2 hb
  replace eg0_3 := cellB eg0_3 hb
  replace ow0_0 := ow0_0.bel hb
  replace ox_0_0 := ox_0_0.bel hb
  replace ox_1_0 := ox_1_0.bel hb
  replace og0_0 := og0_0.bel hb
  replace oy_0_0 := oy_0_0.bel hb
  replace B := bel2 B hb
  have zw36 := hb.size
  clear hb
  obtain ⟨Ay_1_0, cy_1_0, rfl, _, _⟩ := oy_1_0.form
  go_wp2_with fail
  refine absW ?_
  intro w37 hw
  have hb : Below w36.heap.size w36 w37 := by rw [hw]; exact (by repeat' (first | assumption | exact Below.refl _ _ | refine Below.drew ?_ | refine Below.alloc ?_ (by first | omega | (simp; done) | (simp; omega)) _))
  clear hw
  replace e0_0 := cellB e0_0 hb
  replace e0_1 := cellB e0_1 hb
  replace e0_2 := cellB e0_2 hb
  replace e0_3 := cellB e0_3 hb
  replace ew0_0 := cellB ew0_0 hb
  replace ew0_1 := cellB ew0_1 hb
  replace ew0_2 := cellB ew0_2 hb
  replace ew0_3 := cellB ew0_3 hb
  replace ex_0_0 := cellB ex_0_0 hb
  replace ex_0_1 := cellB ex_0_1 hb
  replace ex_0_2 := cellB ex_0_2 hb
  replace ex_0_3 := cellB ex_0_3 hb
  replace eg0_0 := cellB eg0_0 hb
  replace eg0_1 := cellB eg0_1 hb
  replace eg0_2 := cellB eg0_2 hb
  replace eg0_3 := cellB eg0_3 hb
  replace ow0_0 := ow0_0.bel hb
  replace ox_0_0 := ox_0_0.bel hb
  replace ox_1_0 := ox_1_0.bel hb
  replace og0_0 := og0_0.bel hb
  replace oy_0_0 := oy_0_0.bel hb
  replace oy_1_0 := oy_1_0.bel hb
  replace B := bel2 B hb
  have zw37 := hb.size
  clear hb
  refine (iReplay _ oy_0_0.reads l0_0.out M0_0 oy_1_0.reads l1_0.out M1_0).mono ?_
  rintro e w38 ⟨vh0_0, rfl, oh0_0, hb⟩
  replace e0_0 := cellB e0_0 hb
  replace e0_1 := cellB e0_1 hb
  replace e0_2 := cellB e0_2 hb
  replace e0_3 := cellB e0_3 hb
  replace ew0_0 := cellB ew0_0 hb
  replace ew0_1 := cellB ew0_1 hb
  replace ew0_2 := cellB ew0_2 hb
  replace ew0_3 := cellB ew0_3 hb
  replace ex_0_0 := cellB ex_0_0 hb
  replace ex_0_1 := cellB ex_0_1 hb
  replace ex_0_2 := cellB ex_0_2 hb
  replace ex_0_3 := cellB ex_0_3 hb
  replace eg0_0 := cellB eg0_0 hb
  replace eg0_1 := cellB eg0_1 hb
  replace eg0_2 := cellB eg0_2 hb
  replace eg0_3 := cellB eg0_3 hb
  replace ow0_0 := ow0_0.bel hb
  replace ox_0_0 := ox_0_0.bel hb
  replace ox_1_0 := ox_1_0.bel hb
  replace og0_0 := og0_0.bel hb
  replace oy_0_0 := oy_0_0.bel hb
  replace oy_1_0 := oy_1_0.bel hb
  replace B := bel2 B hb
  have zw38 := hb.size
  clear hb
  obtain ⟨Ah0_0, ch0_0, rfl, foh0_0, koh0_0⟩ := oh0_0.form
  have j1_0 := fun (X0 : Obj) => (cellA e0_0 X0)
  have j1_1 := fun (X0 : Obj) => (cellA e0_1 X0)
  have j1_2 := fun (X0 : Obj) => (cellA e0_2 X0)
  have j1_3 := fun (X0 : Obj) => (cellA e0_3 X0)
  have j1_4 := fun (X0 : Obj) => (cellA ew0_0 X0)
  have j1_5 := fun (X0 : Obj) => (cellA ew0_1 X0)
  have j1_6 := fun (X0 : Obj) => (cellA ew0_2 X0)
  have j1_7 := fun (X0 : Obj) => (cellA ew0_3 X0)
  have j1_8 := fun (X0 : Obj) => (cellA ex_0_0 X0)
  have j1_9 := fun (X0 : Obj) => (cellA ex_0_1 X0)
  have j1_10 := fun (X0 : Obj) => (cellA ex_0_2 X0)
  have j1_11 := fun (X0 : Obj) => (cellA ex_0_3 X0)
  have j1_12 := fun (X0 : Obj) => (cellA eg0_0 X0)
  have j1_13 := fun (X0 : Obj) => (cellA eg0_1 X0)
  have j1_14 := fun (X0 : Obj) => (cellA eg0_2 X0)
  have j1_15 := fun (X0 : Obj) => (cellA eg0_3 X0)
  go_wp2_with fail
  refine absW ?_
  intro w39 hw
  have hb : Below w38.heap.size w38 w39 := by rw [hw]; exact (by repeat' (first | assumption | exact Below.refl _ _ | refine Below.drew ?_ | refine Below.alloc ?_ (by first | omega | (simp; done) | (simp; omega)) _))
  have eh0_0 : w39.cell? ⟨w38.heap.size, 0, none⟩ = some (.int .i64 (pkI (okA b0_0 b0_1 b0_2 x0_0) b0_0)) := by rw [hw]; simp
  have eh0_1 : w39.cell? ⟨w38.heap.size, 1, none⟩ = some (.int .i64 (pkI (okA b0_0 b0_1 b0_2 x0_0) b0_1)) := by rw [hw]; simp
  have eh0_2 : w39.cell? ⟨w38.heap.size, 2, none⟩ = some (.int .i64 (pkI (okA b0_0 b0_1 b0_2 x0_0) b0_2)) := by rw [hw]; simp
  have eh0_3 : w39.cell? ⟨w38.heap.size, 3, none⟩ = some (.slice Ah0_0 (rpN b0_0 b0_1 b0_2 x0_0) ch0_0) := by rw [hw]; simp
  have yw39_eh0_0 : w38.heap.size < w39.heap.size := World.block_lt_of_cell? _ _ eh0_0
  clear hw j1_0 j1_1 j1_2 j1_3 j1_4 j1_5 j1_6 j1_7 j1_8 j1_9 j1_10 j1_11 j1_12 j1_13 j1_14 j1_15
  replace e0_0 := cellB e0_0 hb
  replace e0_1 := cellB e0_1 hb
  replace e0_2 := cellB e0_2 hb
  replace e0_3 := cellB e0_3 hb
  replace ew0_0 := cellB ew0_0 hb
  replace ew0_1 := cellB ew0_1 hb
  replace ew0_2 := cellB ew0_2 hb
  replace ew0_3 := cellB ew0_3 hb
  replace ex_0_0 := cellB ex_0_0 hb
  replace ex_0_1 := cellB ex_0_1 hb
  replace ex_0_2 := cellB ex_0_2 hb
  replace ex_0_3 := cellB ex_0_3 hb
  replace eg0_0 := cellB eg0_0 hb
  replace eg0_1 := cellB eg0_1 hb
  replace eg0_2 := cellB eg0_2 hb
  replace eg0_3 := cellB eg0_3 hb
  replace ow0_0 := ow0_0.bel hb
  replace ox_0_0 := ox_0_0.bel hb
  replace ox_1_0 := ox_1_0.bel hb
  replace og0_0 := og0_0.bel hb
  replace oy_0_0 := oy_0_0.bel hb
  replace oy_1_0 := oy_1_0.bel hb
  replace oh0_0 := oh0_0.bel hb
  replace B := bel2 B hb
  have zw39 := hb.size
  clear hb
  refine (eqAbacus _ oh0_0.reads ow0_0.reads (by have := ow0_0.row.1; rw [flat_length encPair_length] at this; omega) (Nat.le_trans fow0_0 kow0_0)).mono ?_
  rintro e w40 ⟨rfl, hb⟩
  replace e0_0 := cellB e0_0 hb
  replace e0_1 := cellB e0_1 hb
  replace e0_2 := cellB e0_2 hb
  replace e0_3 := cellB e0_3 hb
  replace ew0_0 := cellB ew0_0 hb
  replace ew0_1 := cellB ew0_1 hb
  replace ew0_2 := cellB ew0_2 hb
  replace ew0_3 := cellB ew0_3 hb
  replace ex_0_0 := cellB ex_0_0 hb
  replace ex_0_1 := cellB ex_0_1 hb
  replace ex_0_2 := cellB ex_0_2 hb
  replace ex_0_3 := cellB ex_0_3 hb
  replace eg0_0 := cellB eg0_0 hb
  replace eg0_1 := cellB eg0_1 hb
  replace eg0_2 := cellB eg0_2 hb
  replace eg0_3 := cellB eg0_3 hb
  replace eh0_0 := cellB eh0_0 hb
  replace eh0_1 := cellB eh0_1 hb
  replace eh0_2 := cellB eh0_2 hb
  replace eh0_3 := cellB eh0_3 hb
  replace ow0_0 := ow0_0.bel hb
  replace ox_0_0 := ox_0_0.bel hb
  replace ox_1_0 := ox_1_0.bel hb
  replace og0_0 := og0_0.bel hb
  replace oy_0_0 := oy_0_0.bel hb
  replace oy_1_0 := oy_1_0.bel hb
  replace oh0_0 := oh0_0.bel hb
  replace B := bel2 B hb
  have zw40 := hb.size
  clear hb
  go_wp2_with fail
  refine absW ?_
  intro w41 hw
  have hb : Below w40.heap.size w40 w41 := by rw [hw]; exact (by repeat' (first | assumption | exact Below.refl _ _ | refine Below.drew ?_ | refine Below.alloc ?_ (by first | omega | (simp; done) | (simp; omega)) _))
  clear hw
  replace e0_0 := cellB e0_0 hb
  replace e0_1 := cellB e0_1 hb
  replace e0_2 := cellB e0_2 hb
  replace e0_3 := cellB e0_3 hb
  replace ew0_0 := cellB ew0_0 hb
  replace ew0_1 := cellB ew0_1 hb
  replace ew0_2 := cellB ew0_2 hb
  replace ew0_3 := cellB ew0_3 hb
  replace ex_0_0 := cellB ex_0_0 hb
  replace ex_0_1 := cellB ex_0_1 hb
  replace ex_0_2 := cellB ex_0_2 hb
  replace ex_0_3 := cellB ex_0_3 hb
  replace eg0_0 := cellB eg0_0 hb
  replace eg0_1 := cellB eg0_1 hb
  replace eg0_2 := cellB eg0_2 hb
  replace eg0_3 := cellB eg0_3 hb
  replace eh0_0 := cellB eh0_0 hb
  replace eh0_1 := cellB eh0_1 hb
  replace eh0_2 := cellB eh0_2 hb
  replace eh0_3 := cellB eh0_3 hb
  replace ow0_0 := ow0_0.bel hb
  replace ox_0_0 := ox_0_0.bel hb
  replace ox_1_0 := ox_1_0.bel hb
  replace og0_0 := og0_0.bel hb
  replace oy_0_0 := oy_0_0.bel hb
  replace oy_1_0 := oy_1_0.bel hb
  replace oh0_0 := oh0_0.bel hb
  replace B := bel2 B hb
  have zw41 := hb.size
  clear hb
  refine (heldAbacus _ _ og0_0.reads (rpN_le _ _ _ _) (by omega) (by omega)).mono ?_
  rintro e w42 ⟨rfl, hb⟩
  replace e0_0 := cellB e0_0 hb
  replace e0_1 := cellB e0_1 hb
  replace e0_2 := cellB e0_2 hb
  replace e0_3 := cellB e0_3 hb
  replace ew0_0 := cellB ew0_0 hb
  replace ew0_1 := cellB ew0_1 hb
  replace ew0_2 := cellB ew0_2 hb
  replace ew0_3 := cellB ew0_3 hb
  replace ex_0_0 := cellB ex_0_0 hb
  replace ex_0_1 := cellB ex_0_1 hb
  replace ex_0_2 := cellB ex_0_2 hb
  replace ex_0_3 := cellB ex_0_3 hb
  replace eg0_0 := cellB eg0_0 hb
  replace eg0_1 := cellB eg0_1 hb
  replace eg0_2 := cellB eg0_2 hb
  replace eg0_3 := cellB eg0_3 hb
  replace eh0_0 := cellB eh0_0 hb
  replace eh0_1 := cellB eh0_1 hb
  replace eh0_2 := cellB eh0_2 hb
  replace eh0_3 := cellB eh0_3 hb
  replace ow0_0 := ow0_0.bel hb
  replace ox_0_0 := ox_0_0.bel hb
  replace ox_1_0 := ox_1_0.bel hb
  replace og0_0 := og0_0.bel hb
  replace oy_0_0 := oy_0_0.bel hb
  replace oy_1_0 := oy_1_0.bel hb
  replace oh0_0 := oh0_0.bel hb
  replace B := bel2 B hb
  have zw42 := hb.size
  clear hb
  go_wp2
  go_ret
  exact ⟨rfl, bel2 B (by repeat' (first | assumption | exact Below.refl _ _ | refine Below.drew ?_ | refine Below.alloc ?_ (by first | omega | (simp; done) | (simp; omega)) _))⟩
end Go.Proofs.Ytpgifgdoikhpbaa
