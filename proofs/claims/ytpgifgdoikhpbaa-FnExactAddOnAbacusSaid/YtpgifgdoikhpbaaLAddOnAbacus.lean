/- The walk of the law FnExactAddOnAbacus. No condition. -/
import Derived.Test.YtpgifgdoikhpbaaAddI
import Derived.Test.YtpgifgdoikhpbaaAbaM
import Derived.Test.YtpgifgdoikhpbaaMoves
import Derived.Deep.RegionHeld3
namespace Go.Proofs.Ytpgifgdoikhpbaa
open Go.RowKit
set_option linter.unusedVariables false

set_option maxRecDepth 100000 in
set_option maxHeartbeats 3200000 in
theorem lAddOnAbacus {b0_0 : Int} {b0_1 : Int} {b0_2 : Int} {A0_0 : Option Addr} {n0_0 c0_0 : Nat} {x0_0 : List (Int × Int)} {a1 : Int} (w : World) (wb0_0 : inI b0_0) (wb0_1 : inI b0_1) (wb0_2 : inI b0_2) (h0_0 : PairRow w A0_0 n0_0 c0_0 x0_0) (wa1 : inI a1) :
    Calls Try.prog 12 #[.agg #[.int .i64 b0_0, .int .i64 b0_1, .int .i64 b0_2, .slice A0_0 n0_0 c0_0], .int .i64 a1] w fun e w' => e = .returned (.bool true) ∧ Below w.heap.size w w' := by
  have r0_0 := h0_0.reads; have l0_0 := Lib.hid h0_0.len; have M0_0 : n0_0 ≤ maxLen := Nat.le_trans h0_0.nc h0_0.cm
  by_cases t0 : (n0_0 : Int) ≤ 1048576
  rotate_left
  · have S0 : Hid (szI n0_0 (1048576) = -1) := by unfold Hid szI; rw [if_neg t0]
    go_enter Try.func12, Try.ntmps12
    have B : Below w.heap.size w w := Below.refl _ _
    go_wp2_with fail
    refine absW ?_
    intro w1 hw
    have hb : Below w.heap.size w w1 := by rw [hw]; exact (by repeat' (first | assumption | exact Below.refl _ _ | refine Below.drew ?_ | refine Below.alloc ?_ (by first | omega | (simp; done) | (simp; omega)) _))
    have e0_0 : w1.cell? ⟨w.heap.size, 0, none⟩ = some (.int .i64 b0_0) := by rw [hw]; simp
    have e0_1 : w1.cell? ⟨w.heap.size, 1, none⟩ = some (.int .i64 b0_1) := by rw [hw]; simp
    have e0_2 : w1.cell? ⟨w.heap.size, 2, none⟩ = some (.int .i64 b0_2) := by rw [hw]; simp
    have e0_3 : w1.cell? ⟨w.heap.size, 3, none⟩ = some (.slice A0_0 n0_0 c0_0) := by rw [hw]; simp
    have yw1_e0_0 : w.heap.size < w1.heap.size := World.block_lt_of_cell? _ _ e0_0
    clear hw
    replace B := bel2 B hb
    have zw1 := hb.size
    clear hb
    refine (szAbacus _ _ M0_0 (by omega) (by omega)).mono ?_
    rintro e w2 ⟨rfl, hb⟩
    rw [S0.out]
    replace e0_0 := cellB e0_0 hb
    replace e0_1 := cellB e0_1 hb
    replace e0_2 := cellB e0_2 hb
    replace e0_3 := cellB e0_3 hb
    replace B := bel2 B hb
    have zw2 := hb.size
    clear hb
    go_wp2
    go_ret
    exact ⟨rfl, bel2 B (by repeat' (first | assumption | exact Below.refl _ _ | refine Below.drew ?_ | refine Below.alloc ?_ (by first | omega | (simp; done) | (simp; omega)) _))⟩
  have S0 : Hid (szI n0_0 (1048576) = 1048576 - n0_0) := by unfold Hid szI; rw [if_pos t0]
  have m0_0 : n0_0 ≤ 1048576 := by omega
  have q0 : 0 ≤ 1048576 - n0_0 := by omega
  have wN := adN_le b0_0 b0_1 b0_2 x0_0 a1
  go_enter Try.func12, Try.ntmps12
  have B : Below w.heap.size w w := Below.refl _ _
  go_wp2_with fail
  refine absW ?_
  intro w1 hw
  have hb : Below w.heap.size w w1 := by rw [hw]; exact (by repeat' (first | assumption | exact Below.refl _ _ | refine Below.drew ?_ | refine Below.alloc ?_ (by first | omega | (simp; done) | (simp; omega)) _))
  have e0_0 : w1.cell? ⟨w.heap.size, 0, none⟩ = some (.int .i64 b0_0) := by rw [hw]; simp
  have e0_1 : w1.cell? ⟨w.heap.size, 1, none⟩ = some (.int .i64 b0_1) := by rw [hw]; simp
  have e0_2 : w1.cell? ⟨w.heap.size, 2, none⟩ = some (.int .i64 b0_2) := by rw [hw]; simp
  have e0_3 : w1.cell? ⟨w.heap.size, 3, none⟩ = some (.slice A0_0 n0_0 c0_0) := by rw [hw]; simp
  have yw1_e0_0 : w.heap.size < w1.heap.size := World.block_lt_of_cell? _ _ e0_0
  clear hw
  replace B := bel2 B hb
  have zw1 := hb.size
  clear hb
  refine (szAbacus _ _ M0_0 (by omega) (by omega)).mono ?_
  rintro e w2 ⟨rfl, hb⟩
  rw [S0.out]
  replace e0_0 := cellB e0_0 hb
  replace e0_1 := cellB e0_1 hb
  replace e0_2 := cellB e0_2 hb
  replace e0_3 := cellB e0_3 hb
  replace B := bel2 B hb
  have zw2 := hb.size
  clear hb
  go_wp2_with fail
  refine absW ?_
  intro w3 hw
  have hb : Below w2.heap.size w2 w3 := by rw [hw]; exact (by repeat' (first | assumption | exact Below.refl _ _ | refine Below.drew ?_ | refine Below.alloc ?_ (by first | omega | (simp; done) | (simp; omega)) _))
  clear hw
  replace e0_0 := cellB e0_0 hb
  replace e0_1 := cellB e0_1 hb
  replace e0_2 := cellB e0_2 hb
  replace e0_3 := cellB e0_3 hb
  replace B := bel2 B hb
  have zw3 := hb.size
  clear hb
  refine (toAbacus _ (rdB r0_0 B) l0_0.out m0_0).mono ?_
  rintro e w4 ⟨vs_0_0, rfl, os_0_0, hb⟩
  replace e0_0 := cellB e0_0 hb
  replace e0_1 := cellB e0_1 hb
  replace e0_2 := cellB e0_2 hb
  replace e0_3 := cellB e0_3 hb
  replace B := bel2 B hb
  have zw4 := hb.size
  clear hb
  obtain ⟨As_0_0, cs_0_0, rfl, _, _⟩ := os_0_0.form
  go_wp2_with fail
  refine absW ?_
  intro w5 hw
  have hb : Below w4.heap.size w4 w5 := by rw [hw]; exact (by repeat' (first | assumption | exact Below.refl _ _ | refine Below.drew ?_ | refine Below.alloc ?_ (by first | omega | (simp; done) | (simp; omega)) _))
  clear hw
  replace e0_0 := cellB e0_0 hb
  replace e0_1 := cellB e0_1 hb
  replace e0_2 := cellB e0_2 hb
  replace e0_3 := cellB e0_3 hb
  replace os_0_0 := os_0_0.bel hb
  replace B := bel2 B hb
  have zw5 := hb.size
  clear hb
  refine (sAddOn _ os_0_0.reads l0_0.out M0_0).mono ?_
  rintro e w6 ⟨vw0_0, vw1_0, mw, rfl, ow0_0, ow1_0, umw_1, umw_2, hb⟩
  replace e0_0 := cellB e0_0 hb
  replace e0_1 := cellB e0_1 hb
  replace e0_2 := cellB e0_2 hb
  replace e0_3 := cellB e0_3 hb
  replace os_0_0 := os_0_0.bel hb
  replace B := bel2 B hb
  have zw6 := hb.size
  clear hb
  obtain ⟨Aw0_0, cw0_0, rfl, fow0_0, kow0_0⟩ := ow0_0.form
  obtain ⟨Aw1_0, cw1_0, rfl, fow1_0, kow1_0⟩ := ow1_0.form
  clear os_0_0
  have j1_0 := fun (X0 : Obj) => (cellA e0_0 X0)
  have j1_1 := fun (X0 : Obj) => (cellA e0_1 X0)
  have j1_2 := fun (X0 : Obj) => (cellA e0_2 X0)
  have j1_3 := fun (X0 : Obj) => (cellA e0_3 X0)
  go_wp2_with fail
  refine absW ?_
  intro w7 hw
  have hb : Below w6.heap.size w6 w7 := by rw [hw]; exact (by repeat' (first | assumption | exact Below.refl _ _ | refine Below.drew ?_ | refine Below.alloc ?_ (by first | omega | (simp; done) | (simp; omega)) _))
  have ew0_0 : w7.cell? ⟨w6.heap.size, 0, none⟩ = some (.int .i64 (pkI (adK b0_0 b0_1 b0_2 x0_0 a1) b0_0)) := by rw [hw]; simp
  have ew0_1 : w7.cell? ⟨w6.heap.size, 1, none⟩ = some (.int .i64 (pkI (adK b0_0 b0_1 b0_2 x0_0 a1) b0_1)) := by rw [hw]; simp
  have ew0_2 : w7.cell? ⟨w6.heap.size, 2, none⟩ = some (.int .i64 (pkI (adK b0_0 b0_1 b0_2 x0_0 a1) b0_2)) := by rw [hw]; simp
  have ew0_3 : w7.cell? ⟨w6.heap.size, 3, none⟩ = some (.slice Aw0_0 (adN b0_0 b0_1 b0_2 x0_0 a1) cw0_0) := by rw [hw]; simp
  have yw7_ew0_0 : w6.heap.size < w7.heap.size := World.block_lt_of_cell? _ _ ew0_0
  clear hw j1_0 j1_1 j1_2 j1_3
  replace e0_0 := cellB e0_0 hb
  replace e0_1 := cellB e0_1 hb
  replace e0_2 := cellB e0_2 hb
  replace e0_3 := cellB e0_3 hb
  replace ow0_0 := ow0_0.bel hb
  replace ow1_0 := ow1_0.bel hb
  replace B := bel2 B hb
  have zw7 := hb.size
  clear hb
  refine (toAbacus _ (rdB r0_0 B) l0_0.out m0_0).mono ?_
  rintro e w8 ⟨vx_0_0, rfl, ox_0_0, hb⟩
  replace e0_0 := cellB e0_0 hb
  replace e0_1 := cellB e0_1 hb
  replace e0_2 := cellB e0_2 hb
  replace e0_3 := cellB e0_3 hb
  replace ew0_0 := cellB ew0_0 hb
  replace ew0_1 := cellB ew0_1 hb
  replace ew0_2 := cellB ew0_2 hb
  replace ew0_3 := cellB ew0_3 hb
  replace ow0_0 := ow0_0.bel hb
  replace ow1_0 := ow1_0.bel hb
  replace B := bel2 B hb
  have zw8 := hb.size
  clear hb
  obtain ⟨Ax_0_0, cx_0_0, rfl, _, _⟩ := ox_0_0.form
  have j1_0 := fun (X0 : Obj) => (cellA e0_0 X0)
  have j1_1 := fun (X0 : Obj) => (cellA e0_1 X0)
  have j1_2 := fun (X0 : Obj) => (cellA e0_2 X0)
  have j1_3 := fun (X0 : Obj) => (cellA e0_3 X0)
  have j1_4 := fun (X0 : Obj) => (cellA ew0_0 X0)
  have j1_5 := fun (X0 : Obj) => (cellA ew0_1 X0)
  have j1_6 := fun (X0 : Obj) => (cellA ew0_2 X0)
  have j1_7 := fun (X0 : Obj) => (cellA ew0_3 X0)
  go_wp2_with fail
  refine absW ?_
  intro w9 hw
  have hb : Below w8.heap.size w8 w9 := by rw [hw]; exact (by repeat' (first | assumption | exact Below.refl _ _ | refine Below.drew ?_ | refine Below.alloc ?_ (by first | omega | (simp; done) | (simp; omega)) _))
  have ex_0_0 : w9.cell? ⟨w8.heap.size, 0, none⟩ = some (.int .i64 b0_0) := by rw [hw]; simp
  have ex_0_1 : w9.cell? ⟨w8.heap.size, 1, none⟩ = some (.int .i64 b0_1) := by rw [hw]; simp
  have ex_0_2 : w9.cell? ⟨w8.heap.size, 2, none⟩ = some (.int .i64 b0_2) := by rw [hw]; simp
  have ex_0_3 : w9.cell? ⟨w8.heap.size, 3, none⟩ = some (.slice Ax_0_0 n0_0 cx_0_0) := by rw [hw]; simp
  have yw9_ex_0_0 : w8.heap.size < w9.heap.size := World.block_lt_of_cell? _ _ ex_0_0
  clear hw j1_0 j1_1 j1_2 j1_3 j1_4 j1_5 j1_6 j1_7
  replace e0_0 := cellB e0_0 hb
  replace e0_1 := cellB e0_1 hb
  replace e0_2 := cellB e0_2 hb
  replace e0_3 := cellB e0_3 hb
  replace ew0_0 := cellB ew0_0 hb
  replace ew0_1 := cellB ew0_1 hb
  replace ew0_2 := cellB ew0_2 hb
  replace ew0_3 := cellB ew0_3 hb
  replace ow0_0 := ow0_0.bel hb
  replace ow1_0 := ow1_0.bel hb
  replace ox_0_0 := ox_0_0.bel hb
  replace B := bel2 B hb
  have zw9 := hb.size
  clear hb
  refine (iAddOn _ ox_0_0.reads l0_0.out M0_0).mono ?_
  rintro e w10 ⟨vg0_0, vg1_0, mg, rfl, og0_0, og1_0, umg_1, umg_2, hb⟩
  replace e0_0 := cellB e0_0 hb
  replace e0_1 := cellB e0_1 hb
  replace e0_2 := cellB e0_2 hb
  replace e0_3 := cellB e0_3 hb
  replace ew0_0 := cellB ew0_0 hb
  replace ew0_1 := cellB ew0_1 hb
  replace ew0_2 := cellB ew0_2 hb
  replace ew0_3 := cellB ew0_3 hb
  replace ex_0_0 := cellB ex_0_0 hb
  replace ex_0_1 := cellB ex_0_1 hb
  replace ex_0_2 := cellB ex_0_2 hb
  replace ex_0_3 := cellB ex_0_3 hb
  replace ow0_0 := ow0_0.bel hb
  replace ow1_0 := ow1_0.bel hb
  replace ox_0_0 := ox_0_0.bel hb
  replace B := bel2 B hb
  have zw10 := hb.size
  clear hb
  obtain ⟨Ag0_0, cg0_0, rfl, fog0_0, kog0_0⟩ := og0_0.form
  obtain ⟨Ag1_0, cg1_0, rfl, fog1_0, kog1_0⟩ := og1_0.form
  have j1_0 := fun (X0 : Obj) => (cellA e0_0 X0)
  have j1_1 := fun (X0 : Obj) => (cellA e0_1 X0)
  have j1_2 := fun (X0 : Obj) => (cellA e0_2 X0)
  have j1_3 := fun (X0 : Obj) => (cellA e0_3 X0)
  have j1_4 := fun (X0 : Obj) => (cellA ew0_0 X0)
  have j1_5 := fun (X0 : Obj) => (cellA ew0_1 X0)
  have j1_6 := fun (X0 : Obj) => (cellA ew0_2 X0)
  have j1_7 := fun (X0 : Obj) => (cellA ew0_3 X0)
  have j1_8 := fun (X0 : Obj) => (cellA ex_0_0 X0)
  have j1_9 := fun (X0 : Obj) => (cellA ex_0_1 X0)
  have j1_10 := fun (X0 : Obj) => (cellA ex_0_2 X0)
  have j1_11 := fun (X0 : Obj) => (cellA ex_0_3 X0)
  go_wp2_with fail
  refine absW ?_
  intro w11 hw
  have hb : Below w10.heap.size w10 w11 := by rw [hw]; exact (by repeat' (first | assumption | exact Below.refl _ _ | refine Below.drew ?_ | refine Below.alloc ?_ (by first | omega | (simp; done) | (simp; omega)) _))
  have eg0_0 : w11.cell? ⟨w10.heap.size, 0, none⟩ = some (.int .i64 (pkI (adK b0_0 b0_1 b0_2 x0_0 a1) b0_0)) := by rw [hw]; simp
  have eg0_1 : w11.cell? ⟨w10.heap.size, 1, none⟩ = some (.int .i64 (pkI (adK b0_0 b0_1 b0_2 x0_0 a1) b0_1)) := by rw [hw]; simp
  have eg0_2 : w11.cell? ⟨w10.heap.size, 2, none⟩ = some (.int .i64 (pkI (adK b0_0 b0_1 b0_2 x0_0 a1) b0_2)) := by rw [hw]; simp
  have eg0_3 : w11.cell? ⟨w10.heap.size, 3, none⟩ = some (.slice Ag0_0 (adN b0_0 b0_1 b0_2 x0_0 a1) cg0_0) := by rw [hw]; simp
  have yw11_eg0_0 : w10.heap.size < w11.heap.size := World.block_lt_of_cell? _ _ eg0_0
  clear hw j1_0 j1_1 j1_2 j1_3 j1_4 j1_5 j1_6 j1_7 j1_8 j1_9 j1_10 j1_11
  replace e0_0 := cellB e0_0 hb
  replace e0_1 := cellB e0_1 hb
  replace e0_2 := cellB e0_2 hb
  replace e0_3 := cellB e0_3 hb
  replace ew0_0 := cellB ew0_0 hb
  replace ew0_1 := cellB ew0_1 hb
  replace ew0_2 := cellB ew0_2 hb
  replace ew0_3 := cellB ew0_3 hb
  replace ex_0_0 := cellB ex_0_0 hb
  replace ex_0_1 := cellB ex_0_1 hb
  replace ex_0_2 := cellB ex_0_2 hb
  replace ex_0_3 := cellB ex_0_3 hb
  replace ow0_0 := ow0_0.bel hb
  replace ow1_0 := ow1_0.bel hb
  replace ox_0_0 := ox_0_0.bel hb
  replace og0_0 := og0_0.bel hb
  replace og1_0 := og1_0.bel hb
  replace B := bel2 B hb
  have zw11 := hb.size
  clear hb
  refine (eqAbacus _ og0_0.reads ow0_0.reads (by have := ow0_0.row.1; rw [flat_length encPair_length] at this; omega) (Nat.le_trans fow0_0 kow0_0)).mono ?_
  rintro e w12 ⟨rfl, hb⟩
  replace e0_0 := cellB e0_0 hb
  replace e0_1 := cellB e0_1 hb
  replace e0_2 := cellB e0_2 hb
  replace e0_3 := cellB e0_3 hb
  replace ew0_0 := cellB ew0_0 hb
  replace ew0_1 := cellB ew0_1 hb
  replace ew0_2 := cellB ew0_2 hb
  replace ew0_3 := cellB ew0_3 hb
  replace ex_0_0 := cellB ex_0_0 hb
  replace ex_0_1 := cellB ex_0_1 hb
  replace ex_0_2 := cellB ex_0_2 hb
  replace ex_0_3 := cellB ex_0_3 hb
  replace eg0_0 := cellB eg0_0 hb
  replace eg0_1 := cellB eg0_1 hb
  replace eg0_2 := cellB eg0_2 hb
  replace eg0_3 := cellB eg0_3 hb
  replace ow0_0 := ow0_0.bel hb
  replace ow1_0 := ow1_0.bel hb
  replace ox_0_0 := ox_0_0.bel hb
  replace og0_0 := og0_0.bel hb
  replace og1_0 := og1_0.bel hb
  replace B := bel2 B hb
  have zw12 := hb.size
  clear hb
  go_wp2_with fail
  refine absW ?_
  intro w13 hw
  have hb : Below w12.heap.size w12 w13 := by rw [hw]; exact (by repeat' (first | assumption | exact Below.refl _ _ | refine Below.drew ?_ | refine Below.alloc ?_ (by first | omega | (simp; done) | (simp; omega)) _))
  clear hw
  replace e0_0 := cellB e0_0 hb
  replace e0_1 := cellB e0_1 hb
  replace e0_2 := cellB e0_2 hb
  replace e0_3 := cellB e0_3 hb
  replace ew0_0 := cellB ew0_0 hb
  replace ew0_1 := cellB ew0_1 hb
  replace ew0_2 := cellB ew0_2 hb
  replace ew0_3 := cellB ew0_3 hb
  replace ex_0_0 := cellB ex_0_0 hb
  replace ex_0_1 := cellB ex_0_1 hb
  replace ex_0_2 := cellB ex_0_2 hb
  replace ex_0_3 := cellB ex_0_3 hb
  replace eg0_0 := cellB eg0_0 hb
  replace eg0_1 := cellB eg0_1 hb
  replace eg0_2 := cellB eg0_2 hb
  replace eg0_3 := cellB eg0_3 hb
  replace ow0_0 := ow0_0.bel hb
  replace ow1_0 := ow1_0.bel hb
  replace ox_0_0 := ox_0_0.bel hb
  replace og0_0 := og0_0.bel hb
  replace og1_0 := og1_0.bel hb
  replace B := bel2 B hb
  have zw13 := hb.size
  clear hb
  refine (eqBeadMoveS _ og1_0.reads ow1_0.reads (by have := ow1_0.row.1; rw [flat_length encTrip_length] at this; omega) (Nat.le_trans fow1_0 kow1_0)).mono ?_
  rintro e w14 ⟨rfl, hb⟩
  replace e0_0 := cellB e0_0 hb
  replace e0_1 := cellB e0_1 hb
  replace e0_2 := cellB e0_2 hb
  replace e0_3 := cellB e0_3 hb
  replace ew0_0 := cellB ew0_0 hb
  replace ew0_1 := cellB ew0_1 hb
  replace ew0_2 := cellB ew0_2 hb
  replace ew0_3 := cellB ew0_3 hb
  replace ex_0_0 := cellB ex_0_0 hb
  replace ex_0_1 := cellB ex_0_1 hb
  replace ex_0_2 := cellB ex_0_2 hb
  replace ex_0_3 := cellB ex_0_3 hb
  replace eg0_0 := cellB eg0_0 hb
  replace eg0_1 := cellB eg0_1 hb
  replace eg0_2 := cellB eg0_2 hb
  replace eg0_3 := cellB eg0_3 hb
  replace ow0_0 := ow0_0.bel hb
  replace ow1_0 := ow1_0.bel hb
  replace ox_0_0 := ox_0_0.bel hb
  replace og0_0 := og0_0.bel hb
  replace og1_0 := og1_0.bel hb
  replace B := bel2 B hb
  have zw14 := hb.size
  clear hb
  go_wp2_with fail
  go_region_held3 (fun w' => w'.cell? ⟨w.heap.size, 0, none⟩ = some (.int .i64 b0_0) ∧ w'.cell? ⟨w.heap.size, 1, none⟩ = some (.int .i64 b0_1) ∧ w'.cell? ⟨w.heap.size, 2, none⟩ = some (.int .i64 b0_2) ∧ w'.cell? ⟨w.heap.size, 3, none⟩ = some (.slice A0_0 n0_0 c0_0) ∧ w'.cell? ⟨w6.heap.size, 0, none⟩ = some (.int .i64 (pkI (adK b0_0 b0_1 b0_2 x0_0 a1) b0_0)) ∧ w'.cell? ⟨w6.heap.size, 1, none⟩ = some (.int .i64 (pkI (adK b0_0 b0_1 b0_2 x0_0 a1) b0_1)) ∧ w'.cell? ⟨w6.heap.size, 2, none⟩ = some (.int .i64 (pkI (adK b0_0 b0_1 b0_2 x0_0 a1) b0_2)) ∧ w'.cell? ⟨w6.heap.size, 3, none⟩ = some (.slice Aw0_0 (adN b0_0 b0_1 b0_2 x0_0 a1) cw0_0) ∧ w'.cell? ⟨w8.heap.size, 0, none⟩ = some (.int .i64 b0_0) ∧ w'.cell? ⟨w8.heap.size, 1, none⟩ = some (.int .i64 b0_1) ∧ w'.cell? ⟨w8.heap.size, 2, none⟩ = some (.int .i64 b0_2) ∧ w'.cell? ⟨w8.heap.size, 3, none⟩ = some (.slice Ax_0_0 n0_0 cx_0_0) ∧ w'.cell? ⟨w10.heap.size, 0, none⟩ = some (.int .i64 (pkI (adK b0_0 b0_1 b0_2 x0_0 a1) b0_0)) ∧ w'.cell? ⟨w10.heap.size, 1, none⟩ = some (.int .i64 (pkI (adK b0_0 b0_1 b0_2 x0_0 a1) b0_1)) ∧ w'.cell? ⟨w10.heap.size, 2, none⟩ = some (.int .i64 (pkI (adK b0_0 b0_1 b0_2 x0_0 a1) b0_2)) ∧ w'.cell? ⟨w10.heap.size, 3, none⟩ = some (.slice Ag0_0 (adN b0_0 b0_1 b0_2 x0_0 a1) cg0_0) ∧ Below w14.heap.size w14 w')
    ((go_split_ands; and_intros <;> (first | assumption | exact cellB (by assumption) hbx | exact bel2 (by assumption) hbx | exact (Below.refl _ _).drew)))
    (first
      | (go_at_call_of 16 (Value.slice A0_0 n0_0 c0_0); go_split_ands; (first | refine (toAbacus _ (rdB r0_0 (bel2 B (by assumption))) l0_0.out m0_0).mono ?_); rintro e w' ⟨vz_0_0, rfl, oz_0_0, hbx⟩; obtain ⟨Az_0_0, cz_0_0, rfl, _, _⟩ := oz_0_0.form)
      | (go_at_call 18; go_split_ands; (first | refine (eqAbacus _ (Own.reads (Own.bel ox_0_0 (by assumption))) oz_0_0.reads l0_0.out M0_0).mono ?_); rintro e w' ⟨rfl, hbx⟩; replace oz_0_0 := oz_0_0.bel hbx)
    )
  have hb : Below w14.heap.size w14 w' := by go_split_ands; assumption
  obtain ⟨w15, hw⟩ : ∃ w15, w15 = w' := ⟨_, rfl⟩
  subst hw
  replace e0_0 := cellB e0_0 hb
  replace e0_1 := cellB e0_1 hb
  replace e0_2 := cellB e0_2 hb
  replace e0_3 := cellB e0_3 hb
  replace ew0_0 := cellB ew0_0 hb
  replace ew0_1 := cellB ew0_1 hb
  replace ew0_2 := cellB ew0_2 hb
  replace ew0_3 := cellB ew0_3 hb
  replace ex_0_0 := cellB ex_0_0 hb
  replace ex_0_1 := cellB ex_0_1 hb
  replace ex_0_2 := cellB ex_0_2 hb
  replace ex_0_3 := cellB ex_0_3 hb
  replace eg0_0 := cellB eg0_0 hb
  replace eg0_1 := cellB eg0_1 hb
  replace eg0_2 := cellB eg0_2 hb
  replace eg0_3 := cellB eg0_3 hb
  replace ow0_0 := ow0_0.bel hb
  replace ow1_0 := ow1_0.bel hb
  replace ox_0_0 := ox_0_0.bel hb
  replace og0_0 := og0_0.bel hb
  replace og1_0 := og1_0.bel hb
  replace B := bel2 B hb
  have zw15 := hb.size
  clear hb
  clear oz_0_0
  go_wp2_with fail
  refine absW ?_
  intro w16 hw
  have hb : Below w15.heap.size w15 w16 := by rw [hw]; exact (by repeat' (first | assumption | exact Below.refl _ _ | refine Below.drew ?_ | refine Below.alloc ?_ (by first | omega | (simp; done) | (simp; omega)) _))
  clear hw
  replace e0_0 := cellB e0_0 hb
  replace e0_1 := cellB e0_1 hb
  replace e0_2 := cellB e0_2 hb
  replace e0_3 := cellB e0_3 hb
  replace ew0_0 := cellB ew0_0 hb
  replace ew0_1 := cellB ew0_1 hb
  replace ew0_2 := cellB ew0_2 hb
  replace ew0_3 := cellB ew0_3 hb
  replace ex_0_0 := cellB ex_0_0 hb
  replace ex_0_1 := cellB ex_0_1 hb
  replace ex_0_2 := cellB ex_0_2 hb
  replace ex_0_3 := cellB ex_0_3 hb
  replace eg0_0 := cellB eg0_0 hb
  replace eg0_1 := cellB eg0_1 hb
  replace eg0_2 := cellB eg0_2 hb
  replace eg0_3 := cellB eg0_3 hb
  replace ow0_0 := ow0_0.bel hb
  replace ow1_0 := ow1_0.bel hb
  replace ox_0_0 := ox_0_0.bel hb
  replace og0_0 := og0_0.bel hb
  replace og1_0 := og1_0.bel hb
  replace B := bel2 B hb
  have zw16 := hb.size
  clear hb
  refine (markAbacus _ _ ox_0_0 (by omega) (by omega) (by omega)).mono ?_
  rintro e w17 ⟨rfl, p0, ht⟩
  clear ox_0_0; have ox_0_0 := p0; clear p0
  replace e0_0 := cellT e0_0 ht (by omega)
  replace e0_1 := cellT e0_1 ht (by omega)
  replace e0_2 := cellT e0_2 ht (by omega)
  replace e0_3 := cellT e0_3 ht (by omega)
  replace ew0_0 := cellT ew0_0 ht (by omega)
  replace ew0_1 := cellT ew0_1 ht (by omega)
  replace ew0_2 := cellT ew0_2 ht (by omega)
  replace ew0_3 := cellT ew0_3 ht (by omega)
  replace ex_0_0 := cellT ex_0_0 ht (by omega)
  replace ex_0_1 := cellT ex_0_1 ht (by omega)
  replace ex_0_2 := cellT ex_0_2 ht (by omega)
  replace ex_0_3 := cellT ex_0_3 ht (by omega)
  replace eg0_0 := cellT eg0_0 ht (by omega)
  replace eg0_1 := cellT eg0_1 ht (by omega)
  replace eg0_2 := cellT eg0_2 ht (by omega)
  replace eg0_3 := cellT eg0_3 ht (by omega)
  replace ow0_0 := ow0_0.touch ht (by omega)
  replace ow1_0 := ow1_0.touch ht (by omega)
  replace og0_0 := og0_0.touch ht (by omega)
  replace og1_0 := og1_0.touch ht (by omega)
  replace B := Touch.below B ht B.size (by omega)
  have zw17 := ht.size
  clear ht
  go_wp2_with fail
  refine absW ?_
  intro w18 hw
  have hb : Below w17.heap.size w17 w18 := by rw [hw]; exact (by repeat' (first | assumption | exact Below.refl _ _ | refine Below.drew ?_ | refine Below.alloc ?_ (by first | omega | (simp; done) | (simp; omega)) _))
  clear hw
  replace e0_0 := cellB e0_0 hb
  replace e0_1 := cellB e0_1 hb
  replace e0_2 := cellB e0_2 hb
  replace e0_3 := cellB e0_3 hb
  replace ew0_0 := cellB ew0_0 hb
  replace ew0_1 := cellB ew0_1 hb
  replace ew0_2 := cellB ew0_2 hb
  replace ew0_3 := cellB ew0_3 hb
  replace ex_0_0 := cellB ex_0_0 hb
  replace ex_0_1 := cellB ex_0_1 hb
  replace ex_0_2 := cellB ex_0_2 hb
  replace ex_0_3 := cellB ex_0_3 hb
  replace eg0_0 := cellB eg0_0 hb
  replace eg0_1 := cellB eg0_1 hb
  replace eg0_2 := cellB eg0_2 hb
  replace eg0_3 := cellB eg0_3 hb
  replace ow0_0 := ow0_0.bel hb
  replace ow1_0 := ow1_0.bel hb
  replace ox_0_0 := ox_0_0.bel hb
  replace og0_0 := og0_0.bel hb
  replace og1_0 := og1_0.bel hb
  replace B := bel2 B hb
  have zw18 := hb.size
  clear hb
  refine (eqAbacus _ og0_0.reads ow0_0.reads (by have := ow0_0.row.1; rw [flat_length encPair_length] at this; omega) (Nat.le_trans fow0_0 kow0_0)).mono ?_
  rintro e w19 ⟨rfl, hb⟩
  replace e0_0 := cellB e0_0 hb
  replace e0_1 := cellB e0_1 hb
  replace e0_2 := cellB e0_2 hb
  replace e0_3 := cellB e0_3 hb
  replace ew0_0 := cellB ew0_0 hb
  replace ew0_1 := cellB ew0_1 hb
  replace ew0_2 := cellB ew0_2 hb
  replace ew0_3 := cellB ew0_3 hb
  replace ex_0_0 := cellB ex_0_0 hb
  replace ex_0_1 := cellB ex_0_1 hb
  replace ex_0_2 := cellB ex_0_2 hb
  replace ex_0_3 := cellB ex_0_3 hb
  replace eg0_0 := cellB eg0_0 hb
  replace eg0_1 := cellB eg0_1 hb
  replace eg0_2 := cellB eg0_2 hb
  replace eg0_3 := cellB eg0_3 hb
  replace ow0_0 := ow0_0.bel hb
  replace ow1_0 := ow1_0.bel hb
  replace ox_0_0 := ox_0_0.bel hb
  replace og0_0 := og0_0.bel hb
  replace og1_0 := og1_0.bel hb
  replace B := bel2 B hb
  have zw19 := hb.size
  clear hb
  go_wp2_with fail
  refine absW ?_
  intro w20 hw
  have hb : Below w19.heap.size w19 w20 := by rw [hw]; exact (by repeat' (first | assumption | exact Below.refl _ _ | refine Below.drew ?_ | refine Below.alloc ?_ (by first | omega | (simp; done) | (simp; omega)) _))
  clear hw
  replace e0_0 := cellB e0_0 hb
  replace e0_1 := cellB e0_1 hb
  replace e0_2 := cellB e0_2 hb
  replace e0_3 := cellB e0_3 hb
  replace ew0_0 := cellB ew0_0 hb
  replace ew0_1 := cellB ew0_1 hb
  replace ew0_2 := cellB ew0_2 hb
  replace ew0_3 := cellB ew0_3 hb
  replace ex_0_0 := cellB ex_0_0 hb
  replace ex_0_1 := cellB ex_0_1 hb
  replace ex_0_2 := cellB ex_0_2 hb
  replace ex_0_3 := cellB ex_0_3 hb
  replace eg0_0 := cellB eg0_0 hb
  replace eg0_1 := cellB eg0_1 hb
  replace eg0_2 := cellB eg0_2 hb
  replace eg0_3 := cellB eg0_3 hb
  replace ow0_0 := ow0_0.bel hb
  replace ow1_0 := ow1_0.bel hb
  replace ox_0_0 := ox_0_0.bel hb
  replace og0_0 := og0_0.bel hb
  replace og1_0 := og1_0.bel hb
  replace B := bel2 B hb
  have zw20 := hb.size
  clear hb
  refine (eqBeadMoveS _ og1_0.reads ow1_0.reads (by have := ow1_0.row.1; rw [flat_length encTrip_length] at this; omega) (Nat.le_trans fow1_0 kow1_0)).mono ?_
  rintro e w21 ⟨rfl, hb⟩
  replace e0_0 := cellB e0_0 hb
  replace e0_1 := cellB e0_1 hb
  replace e0_2 := cellB e0_2 hb
  replace e0_3 := cellB e0_3 hb
  replace ew0_0 := cellB ew0_0 hb
  replace ew0_1 := cellB ew0_1 hb
  replace ew0_2 := cellB ew0_2 hb
  replace ew0_3 := cellB ew0_3 hb
  replace ex_0_0 := cellB ex_0_0 hb
  replace ex_0_1 := cellB ex_0_1 hb
  replace ex_0_2 := cellB ex_0_2 hb
  replace ex_0_3 := cellB ex_0_3 hb
  replace eg0_0 := cellB eg0_0 hb
  replace eg0_1 := cellB eg0_1 hb
  replace eg0_2 := cellB eg0_2 hb
  replace eg0_3 := cellB eg0_3 hb
  replace ow0_0 := ow0_0.bel hb
  replace ow1_0 := ow1_0.bel hb
  replace ox_0_0 := ox_0_0.bel hb
  replace og0_0 := og0_0.bel hb
  replace og1_0 := og1_0.bel hb
  replace B := bel2 B hb
  have zw21 := hb.size
  clear hb
  go_wp2_with fail
  refine absW ?_
  intro w22 hw
  have hb : Below w21.heap.size w21 w22 := by rw [hw]; exact (by repeat' (first | assumption | exact Below.refl _ _ | refine Below.drew ?_ | refine Below.alloc ?_ (by first | omega | (simp; done) | (simp; omega)) _))
  clear hw
  replace e0_0 := cellB e0_0 hb
  replace e0_1 := cellB e0_1 hb
  replace e0_2 := cellB e0_2 hb
  replace e0_3 := cellB e0_3 hb
  replace ew0_0 := cellB ew0_0 hb
  replace ew0_1 := cellB ew0_1 hb
  replace ew0_2 := cellB ew0_2 hb
  replace ew0_3 := cellB ew0_3 hb
  replace ex_0_0 := cellB ex_0_0 hb
  replace ex_0_1 := cellB ex_0_1 hb
  replace ex_0_2 := cellB ex_0_2 hb
  replace ex_0_3 := cellB ex_0_3 hb
  replace eg0_0 := cellB eg0_0 hb
  replace eg0_1 := cellB eg0_1 hb
  replace eg0_2 := cellB eg0_2 hb
  replace eg0_3 := cellB eg0_3 hb
  replace ow0_0 := ow0_0.bel hb
  replace ow1_0 := ow1_0.bel hb
  replace ox_0_0 := ox_0_0.bel hb
  replace og0_0 := og0_0.bel hb
  replace og1_0 := og1_0.bel hb
  replace B := bel2 B hb
  have zw22 := hb.size
  clear hb
  refine (markAbacus _ _ og0_0 (adN_le _ _ _ _ _) (by omega) (by omega)).mono ?_
  rintro e w23 ⟨rfl, p0, ht⟩
  clear og0_0; have og0_0 := p0; clear p0
  replace e0_0 := cellT e0_0 ht (by omega)
  replace e0_1 := cellT e0_1 ht (by omega)
  replace e0_2 := cellT e0_2 ht (by omega)
  replace e0_3 := cellT e0_3 ht (by omega)
  replace ew0_0 := cellT ew0_0 ht (by omega)
  replace ew0_1 := cellT ew0_1 ht (by omega)
  replace ew0_2 := cellT ew0_2 ht (by omega)
  replace ew0_3 := cellT ew0_3 ht (by omega)
  replace ex_0_0 := cellT ex_0_0 ht (by omega)
  replace ex_0_1 := cellT ex_0_1 ht (by omega)
  replace ex_0_2 := cellT ex_0_2 ht (by omega)
  replace ex_0_3 := cellT ex_0_3 ht (by omega)
  replace eg0_0 := cellT eg0_0 ht (by omega)
  replace eg0_1 := cellT eg0_1 ht (by omega)
  replace eg0_2 := cellT eg0_2 ht (by omega)
  replace eg0_3 := cellT eg0_3 ht (by omega)
  replace ow0_0 := ow0_0.touch ht (by omega)
  replace ow1_0 := ow1_0.touch ht (by omega)
  replace ox_0_0 := ox_0_0.touch ht (by omega)
  replace og1_0 := og1_0.touch ht (by omega)
  replace B := Touch.below B ht B.size (by omega)
  have zw23 := ht.size
  clear ht
  go_wp2_with fail
  refine absW ?_
  intro w24 hw
  have hb : Below w23.heap.size w23 w24 := by rw [hw]; exact (by repeat' (first | assumption | exact Below.refl _ _ | refine Below.drew ?_ | refine Below.alloc ?_ (by first | omega | (simp; done) | (simp; omega)) _))
  clear hw
  replace e0_0 := cellB e0_0 hb
  replace e0_1 := cellB e0_1 hb
  replace e0_2 := cellB e0_2 hb
  replace e0_3 := cellB e0_3 hb
  replace ew0_0 := cellB ew0_0 hb
  replace ew0_1 := cellB ew0_1 hb
  replace ew0_2 := cellB ew0_2 hb
  replace ew0_3 := cellB ew0_3 hb
  replace ex_0_0 := cellB ex_0_0 hb
  replace ex_0_1 := cellB ex_0_1 hb
  replace ex_0_2 := cellB ex_0_2 hb
  replace ex_0_3 := cellB ex_0_3 hb
  replace eg0_0 := cellB eg0_0 hb
  replace eg0_1 := cellB eg0_1 hb
  replace eg0_2 := cellB eg0_2 hb
  replace eg0_3 := cellB eg0_3 hb
  replace ow0_0 := ow0_0.bel hb
  replace ow1_0 := ow1_0.bel hb
  replace ox_0_0 := ox_0_0.bel hb
  replace og0_0 := og0_0.bel hb
  replace og1_0 := og1_0.bel hb
  replace B := bel2 B hb
  have zw24 := hb.size
  clear hb
  refine (markBeadMoveS _ _ og1_0 (adMN_le _ _ _ _ _) (by omega) (by omega)).mono ?_
  rintro e w25 ⟨rfl, p0, ht⟩
  clear og1_0; have og1_0 := p0; clear p0
  replace e0_0 := cellT e0_0 ht (by omega)
  replace e0_1 := cellT e0_1 ht (by omega)
  replace e0_2 := cellT e0_2 ht (by omega)
  replace e0_3 := cellT e0_3 ht (by omega)
  replace ew0_0 := cellT ew0_0 ht (by omega)
  replace ew0_1 := cellT ew0_1 ht (by omega)
  replace ew0_2 := cellT ew0_2 ht (by omega)
  replace ew0_3 := cellT ew0_3 ht (by omega)
  replace ex_0_0 := cellT ex_0_0 ht (by omega)
  replace ex_0_1 := cellT ex_0_1 ht (by omega)
  replace ex_0_2 := cellT ex_0_2 ht (by omega)
  replace ex_0_3 := cellT ex_0_3 ht (by omega)
  replace eg0_0 := cellT eg0_0 ht (by omega)
  replace eg0_1 := cellT eg0_1 ht (by omega)
  replace eg0_2 := cellT eg0_2 ht (by omega)
  replace eg0_3 := cellT eg0_3 ht (by omega)
  replace ow0_0 := ow0_0.touch ht (by omega)
  replace ow1_0 := ow1_0.touch ht (by omega)
  replace ox_0_0 := ox_0_0.touch ht (by omega)
  replace og0_0 := og0_0.touch ht (by omega)
  replace B := Touch.below B ht B.size (by omega)
  have zw25 := ht.size
  clear ht
  go_wp2_with fail
  refine absW ?_
  intro w26 hw
  have hb : Below w25.heap.size w25 w26 := by rw [hw]; exact (by repeat' (first | assumption | exact Below.refl _ _ | refine Below.drew ?_ | refine Below.alloc ?_ (by first | omega | (simp; done) | (simp; omega)) _))
  clear hw
  replace e0_0 := cellB e0_0 hb
  replace e0_1 := cellB e0_1 hb
  replace e0_2 := cellB e0_2 hb
  replace e0_3 := cellB e0_3 hb
  replace ew0_0 := cellB ew0_0 hb
  replace ew0_1 := cellB ew0_1 hb
  replace ew0_2 := cellB ew0_2 hb
  replace ew0_3 := cellB ew0_3 hb
  replace ex_0_0 := cellB ex_0_0 hb
  replace ex_0_1 := cellB ex_0_1 hb
  replace ex_0_2 := cellB ex_0_2 hb
  replace ex_0_3 := cellB ex_0_3 hb
  replace eg0_0 := cellB eg0_0 hb
  replace eg0_1 := cellB eg0_1 hb
  replace eg0_2 := cellB eg0_2 hb
  replace eg0_3 := cellB eg0_3 hb
  replace ow0_0 := ow0_0.bel hb
  replace ow1_0 := ow1_0.bel hb
  replace ox_0_0 := ox_0_0.bel hb
  replace og0_0 := og0_0.bel hb
  replace og1_0 := og1_0.bel hb
  replace B := bel2 B hb
  have zw26 := hb.size
  clear hb
  refine (heldAbacus _ _ og0_0.reads (adN_le _ _ _ _ _) (by omega) (by omega)).mono ?_
  rintro e w27 ⟨rfl, hb⟩
  replace e0_0 := cellB e0_0 hb
  replace e0_1 := cellB e0_1 hb
  replace e0_2 := cellB e0_2 hb
  replace e0_3 := cellB e0_3 hb
  replace ew0_0 := cellB ew0_0 hb
  replace ew0_1 := cellB ew0_1 hb
  replace ew0_2 := cellB ew0_2 hb
  replace ew0_3 := cellB ew0_3 hb
  replace ex_0_0 := cellB ex_0_0 hb
  replace ex_0_1 := cellB ex_0_1 hb
  replace ex_0_2 := cellB ex_0_2 hb
  replace ex_0_3 := cellB ex_0_3 hb
  replace eg0_0 := cellB eg0_0 hb
  replace eg0_1 := cellB eg0_1 hb
  replace eg0_2 := cellB eg0_2 hb
  replace eg0_3 := cellB eg0_3 hb
  replace ow0_0 := ow0_0.bel hb
  replace ow1_0 := ow1_0.bel hb
  replace ox_0_0 := ox_0_0.bel hb
  replace og0_0 := og0_0.bel hb
  replace og1_0 := og1_0.bel hb
  replace B := bel2 B hb
  have zw27 := hb.size
  clear hb
  go_wp2_with fail
  refine absW ?_
  intro w28 hw
  have hb : Below w27.heap.size w27 w28 := by rw [hw]; exact (by repeat' (first | assumption | exact Below.refl _ _ | refine Below.drew ?_ | refine Below.alloc ?_ (by first | omega | (simp; done) | (simp; omega)) _))
  clear hw
  replace e0_0 := cellB e0_0 hb
  replace e0_1 := cellB e0_1 hb
  replace e0_2 := cellB e0_2 hb
  replace e0_3 := cellB e0_3 hb
  replace ew0_0 := cellB ew0_0 hb
  replace ew0_1 := cellB ew0_1 hb
  replace ew0_2 := cellB ew0_2 hb
  replace ew0_3 := cellB ew0_3 hb
  replace ex_0_0 := cellB ex_0_0 hb
  replace ex_0_1 := cellB ex_0_1 hb
  replace ex_0_2 := cellB ex_0_2 hb
  replace ex_0_3 := cellB ex_0_3 hb
  replace eg0_0 := cellB eg0_0 hb
  replace eg0_1 := cellB eg0_1 hb
  replace eg0_2 := cellB eg0_2 hb
  replace eg0_3 := cellB eg0_3 hb
  replace ow0_0 := ow0_0.bel hb
  replace ow1_0 := ow1_0.bel hb
  replace ox_0_0 := ox_0_0.bel hb
  replace og0_0 := og0_0.bel hb
  replace og1_0 := og1_0.bel hb
  replace B := bel2 B hb
  have zw28 := hb.size
  clear hb
  refine (heldBeadMoveS _ _ og1_0.reads (adMN_le _ _ _ _ _) (by omega) (by omega)).mono ?_
  rintro e w29 ⟨rfl, rfl⟩
  go_wp2_with fail
  refine absW ?_
  intro w29 hw
  have hb : Below w28.heap.size w28 w29 := by rw [hw]; exact (by repeat' (first | assumption | exact Below.refl _ _ | refine Below.drew ?_ | refine Below.alloc ?_ (by first | omega | (simp; done) | (simp; omega)) _))
  clear hw
  replace e0_0 := cellB e0_0 hb
  replace e0_1 := cellB e0_1 hb
  replace e0_2 := cellB e0_2 hb
  replace e0_3 := cellB e0_3 hb
  replace ew0_0 := cellB ew0_0 hb
  replace ew0_1 := cellB ew0_1 hb
  replace ew0_2 := cellB ew0_2 hb
  replace ew0_3 := cellB ew0_3 hb
  replace ex_0_0 := cellB ex_0_0 hb
  replace ex_0_1 := cellB ex_0_1 hb
  replace ex_0_2 := cellB ex_0_2 hb
  replace ex_0_3 := cellB ex_0_3 hb
  replace eg0_0 := cellB eg0_0 hb
  replace eg0_1 := cellB eg0_1 hb
  replace eg0_2 := cellB eg0_2 hb
  replace eg0_3 := cellB eg0_3 hb
  replace ow0_0 := ow0_0.bel hb
  replace ow1_0 := ow1_0.bel hb
  replace ox_0_0 := ox_0_0.bel hb
  replace og0_0 := og0_0.bel hb
  replace og1_0 := og1_0.bel hb
  replace B := bel2 B hb
  have zw29 := hb.size
  clear hb
  refine (toAbacus _ (rdB r0_0 B) l0_0.out m0_0).mono ?_
  rintro e w30 ⟨vy_0_0, rfl, oy_0_0, hb⟩
  replace e0_0 := cellB e0_0 hb
  replace e0_1 := cellB e0_1 hb
  replace e0_2 := cellB e0_2 hb
  replace e0_3 := cellB e0_3 hb
  replace ew0_0 := cellB ew0_0 hb
  replace ew0_1 := cellB ew0_1 hb
  replace ew0_2 := cellB ew0_2 hb
  replace ew0_3 := cellB ew0_3 hb
  replace ex_0_0 := cellB ex_0_0 hb
  replace ex_0_1 := cellB ex_0_1 hb
  replace ex_0_2 := cellB ex_0_2 hb
  replace ex_0_3 := cellB ex_0_3 hb
  replace eg0_0 := cellB eg0_0 hb
  replace eg0_1 := cellB eg0_1 hb
  replace eg0_2 := cellB eg0_2 hb
  replace eg0_3 := cellB eg0_3 hb
  replace ow0_0 := ow0_0.bel hb
  replace ow1_0 := ow1_0.bel hb
  replace ox_0_0 := ox_0_0.bel hb
  replace og0_0 := og0_0.bel hb
  replace og1_0 := og1_0.bel hb
  replace B := bel2 B hb
  have zw30 := hb.size
  clear hb
  obtain ⟨Ay_0_0, cy_0_0, rfl, _, _⟩ := oy_0_0.form
  go_wp2_with fail
  refine absW ?_
  intro w31 hw
  have hb : Below w30.heap.size w30 w31 := by rw [hw]; exact (by repeat' (first | assumption | exact Below.refl _ _ | refine Below.drew ?_ | refine Below.alloc ?_ (by first | omega | (simp; done) | (simp; omega)) _))
  clear hw
  replace e0_0 := cellB e0_0 hb
  replace e0_1 := cellB e0_1 hb
  replace e0_2 := cellB e0_2 hb
  replace e0_3 := cellB e0_3 hb
  replace ew0_0 := cellB ew0_0 hb
  replace ew0_1 := cellB ew0_1 hb
  replace ew0_2 := cellB ew0_2 hb
  replace ew0_3 := cellB ew0_3 hb
  replace ex_0_0 := cellB ex_0_0 hb
  replace ex_0_1 := cellB ex_0_1 hb
  replace ex_0_2 := cellB ex_0_2 hb
  replace ex_0_3 := cellB ex_0_3 hb
  replace eg0_0 := cellB eg0_0 hb
  replace eg0_1 := cellB eg0_1 hb
  replace eg0_2 := cellB eg0_2 hb
  replace eg0_3 := cellB eg0_3 hb
  replace ow0_0 := ow0_0.bel hb
  replace ow1_0 := ow1_0.bel hb
  replace ox_0_0 := ox_0_0.bel hb
  replace og0_0 := og0_0.bel hb
  replace og1_0 := og1_0.bel hb
  replace oy_0_0 := oy_0_0.bel hb
  replace B := bel2 B hb
  have zw31 := hb.size
  clear hb
  refine (iAddOn _ oy_0_0.reads l0_0.out M0_0).mono ?_
  rintro e w32 ⟨vh0_0, vh1_0, mh, rfl, oh0_0, oh1_0, umh_1, umh_2, hb⟩
  replace e0_0 := cellB e0_0 hb
  replace e0_1 := cellB e0_1 hb
  replace e0_2 := cellB e0_2 hb
  replace e0_3 := cellB e0_3 hb
  replace ew0_0 := cellB ew0_0 hb
  replace ew0_1 := cellB ew0_1 hb
  replace ew0_2 := cellB ew0_2 hb
  replace ew0_3 := cellB ew0_3 hb
  replace ex_0_0 := cellB ex_0_0 hb
  replace ex_0_1 := cellB ex_0_1 hb
  replace ex_0_2 := cellB ex_0_2 hb
  replace ex_0_3 := cellB ex_0_3 hb
  replace eg0_0 := cellB eg0_0 hb
  replace eg0_1 := cellB eg0_1 hb
  replace eg0_2 := cellB eg0_2 hb
  replace eg0_3 := cellB eg0_3 hb
  replace ow0_0 := ow0_0.bel hb
  replace ow1_0 := ow1_0.bel hb
  replace ox_0_0 := ox_0_0.bel hb
  replace og0_0 := og0_0.bel hb
  replace og1_0 := og1_0.bel hb
  replace oy_0_0 := oy_0_0.bel hb
  replace B := bel2 B hb
  have zw32 := hb.size
  clear hb
  obtain ⟨Ah0_0, ch0_0, rfl, foh0_0, koh0_0⟩ := oh0_0.form
  obtain ⟨Ah1_0, ch1_0, rfl, foh1_0, koh1_0⟩ := oh1_0.form
  have j1_0 := fun (X0 : Obj) => (cellA e0_0 X0)
  have j1_1 := fun (X0 : Obj) => (cellA e0_1 X0)
  have j1_2 := fun (X0 : Obj) => (cellA e0_2 X0)
  have j1_3 := fun (X0 : Obj) => (cellA e0_3 X0)
  have j1_4 := fun (X0 : Obj) => (cellA ew0_0 X0)
  have j1_5 := fun (X0 : Obj) => (cellA ew0_1 X0)
  have j1_6 := fun (X0 : Obj) => (cellA ew0_2 X0)
  have j1_7 := fun (X0 : Obj) => (cellA ew0_3 X0)
  have j1_8 := fun (X0 : Obj) => (cellA ex_0_0 X0)
  have j1_9 := fun (X0 : Obj) => (cellA ex_0_1 X0)
  have j1_10 := fun (X0 : Obj) => (cellA ex_0_2 X0)
  have j1_11 := fun (X0 : Obj) => (cellA ex_0_3 X0)
  have j1_12 := fun (X0 : Obj) => (cellA eg0_0 X0)
  have j1_13 := fun (X0 : Obj) => (cellA eg0_1 X0)
  have j1_14 := fun (X0 : Obj) => (cellA eg0_2 X0)
  have j1_15 := fun (X0 : Obj) => (cellA eg0_3 X0)
  go_wp2_with fail
  refine absW ?_
  intro w33 hw
  have hb : Below w32.heap.size w32 w33 := by rw [hw]; exact (by repeat' (first | assumption | exact Below.refl _ _ | refine Below.drew ?_ | refine Below.alloc ?_ (by first | omega | (simp; done) | (simp; omega)) _))
  have eh0_0 : w33.cell? ⟨w32.heap.size, 0, none⟩ = some (.int .i64 (pkI (adK b0_0 b0_1 b0_2 x0_0 a1) b0_0)) := by rw [hw]; simp
  have eh0_1 : w33.cell? ⟨w32.heap.size, 1, none⟩ = some (.int .i64 (pkI (adK b0_0 b0_1 b0_2 x0_0 a1) b0_1)) := by rw [hw]; simp
  have eh0_2 : w33.cell? ⟨w32.heap.size, 2, none⟩ = some (.int .i64 (pkI (adK b0_0 b0_1 b0_2 x0_0 a1) b0_2)) := by rw [hw]; simp
  have eh0_3 : w33.cell? ⟨w32.heap.size, 3, none⟩ = some (.slice Ah0_0 (adN b0_0 b0_1 b0_2 x0_0 a1) ch0_0) := by rw [hw]; simp
  have yw33_eh0_0 : w32.heap.size < w33.heap.size := World.block_lt_of_cell? _ _ eh0_0
  clear hw j1_0 j1_1 j1_2 j1_3 j1_4 j1_5 j1_6 j1_7 j1_8 j1_9 j1_10 j1_11 j1_12 j1_13 j1_14 j1_15
  replace e0_0 := cellB e0_0 hb
  replace e0_1 := cellB e0_1 hb
  replace e0_2 := cellB e0_2 hb
  replace e0_3 := cellB e0_3 hb
  replace ew0_0 := cellB ew0_0 hb
  replace ew0_1 := cellB ew0_1 hb
  replace ew0_2 := cellB ew0_2 hb
  replace ew0_3 := cellB ew0_3 hb
  replace ex_0_0 := cellB ex_0_0 hb
  replace ex_0_1 := cellB ex_0_1 hb
  replace ex_0_2 := cellB ex_0_2 hb
  replace ex_0_3 := cellB ex_0_3 hb
  replace eg0_0 := cellB eg0_0 hb
  replace eg0_1 := cellB eg0_1 hb
  replace eg0_2 := cellB eg0_2 hb
  replace eg0_3 := cellB eg0_3 hb
  replace ow0_0 := ow0_0.bel hb
  replace ow1_0 := ow1_0.bel hb
  replace ox_0_0 := ox_0_0.bel hb
  replace og0_0 := og0_0.bel hb
  replace og1_0 := og1_0.bel hb
  replace oy_0_0 := oy_0_0.bel hb
  replace oh0_0 := oh0_0.bel hb
  replace oh1_0 := oh1_0.bel hb
  replace B := bel2 B hb
  have zw33 := hb.size
  clear hb
  refine (eqAbacus _ oh0_0.reads ow0_0.reads (by have := ow0_0.row.1; rw [flat_length encPair_length] at this; omega) (Nat.le_trans fow0_0 kow0_0)).mono ?_
  rintro e w34 ⟨rfl, hb⟩
  replace e0_0 := cellB e0_0 hb
  replace e0_1 := cellB e0_1 hb
  replace e0_2 := cellB e0_2 hb
  replace e0_3 := cellB e0_3 hb
  replace ew0_0 := cellB ew0_0 hb
  replace ew0_1 := cellB ew0_1 hb
  replace ew0_2 := cellB ew0_2 hb
  replace ew0_3 := cellB ew0_3 hb
  replace ex_0_0 := cellB ex_0_0 hb
  replace ex_0_1 := cellB ex_0_1 hb
  replace ex_0_2 := cellB ex_0_2 hb
  replace ex_0_3 := cellB ex_0_3 hb
  replace eg0_0 := cellB eg0_0 hb
  replace eg0_1 := cellB eg0_1 hb
  replace eg0_2 := cellB eg0_2 hb
  replace eg0_3 := cellB eg0_3 hb
  replace eh0_0 := cellB eh0_0 hb
  replace eh0_1 := cellB eh0_1 hb
  replace eh0_2 := cellB eh0_2 hb
  replace eh0_3 := cellB eh0_3 hb
  replace ow0_0 := ow0_0.bel hb
  replace ow1_0 := ow1_0.bel hb
  replace ox_0_0 := ox_0_0.bel hb
  replace og0_0 := og0_0.bel hb
  replace og1_0 := og1_0.bel hb
  replace oy_0_0 := oy_0_0.bel hb
  replace oh0_0 := oh0_0.bel hb
  replace oh1_0 := oh1_0.bel hb
  replace B := bel2 B hb
  have zw34 := hb.size
  clear hb
  go_wp2_with fail
  refine absW ?_
  intro w35 hw
  have hb : Below w34.heap.size w34 w35 := by rw [hw]; exact (by repeat' (first | assumption | exact Below.refl _ _ | refine Below.drew ?_ | refine Below.alloc ?_ (by first | omega | (simp; done) | (simp; omega)) _))
  clear hw
  replace e0_0 := cellB e0_0 hb
  replace e0_1 := cellB e0_1 hb
  replace e0_2 := cellB e0_2 hb
  replace e0_3 := cellB e0_3 hb
  replace ew0_0 := cellB ew0_0 hb
  replace ew0_1 := cellB ew0_1 hb
  replace ew0_2 := cellB ew0_2 hb
  replace ew0_3 := cellB ew0_3 hb
  replace ex_0_0 := cellB ex_0_0 hb
  replace ex_0_1 := cellB ex_0_1 hb
  replace ex_0_2 := cellB ex_0_2 hb
  replace ex_0_3 := cellB ex_0_3 hb
  replace eg0_0 := cellB eg0_0 hb
  replace eg0_1 := cellB eg0_1 hb
  replace eg0_2 := cellB eg0_2 hb
  replace eg0_3 := cellB eg0_3 hb
  replace eh0_0 := cellB eh0_0 hb
  replace eh0_1 := cellB eh0_1 hb
  replace eh0_2 := cellB eh0_2 hb
  replace eh0_3 := cellB eh0_3 hb
  replace ow0_0 := ow0_0.bel hb
  replace ow1_0 := ow1_0.bel hb
  replace ox_0_0 := ox_0_0.bel hb
  replace og0_0 := og0_0.bel hb
  replace og1_0 := og1_0.bel hb
  replace oy_0_0 := oy_0_0.bel hb
  replace oh0_0 := oh0_0.bel hb
  replace oh1_0 := oh1_0.bel hb
  replace B := bel2 B hb
  have zw35 := hb.size
  clear hb
  refine (eqBeadMoveS _ oh1_0.reads ow1_0.reads (by have := ow1_0.row.1; rw [flat_length encTrip_length] at this; omega) (Nat.le_trans fow1_0 kow1_0)).mono ?_
  rintro e w36 ⟨rfl, hb⟩
  replace e0_0 := cellB e0_0 hb
  replace e0_1 := cellB e0_1 hb
  replace e0_2 := cellB e0_2 hb
  replace e0_3 := cellB e0_3 hb
  replace ew0_0 := cellB ew0_0 hb
  replace ew0_1 := cellB ew0_1 hb
  replace ew0_2 := cellB ew0_2 hb
  replace ew0_3 := cellB ew0_3 hb
  replace ex_0_0 := cellB ex_0_0 hb
  replace ex_0_1 := cellB ex_0_1 hb
  replace ex_0_2 := cellB ex_0_2 hb
  replace ex_0_3 := cellB ex_0_3 hb
  replace eg0_0 := cellB eg0_0 hb
  replace eg0_1 := cellB eg0_1 hb
  replace eg0_2 := cellB eg0_2 hb
  replace eg0_3 := cellB eg0_3 hb
  replace eh0_0 := cellB eh0_0 hb
  replace eh0_1 := cellB eh0_1 hb
  replace eh0_2 := cellB eh0_2 hb
  replace eh0_3 := cellB eh0_3 hb
  replace ow0_0 := ow0_0.bel hb
  replace ow1_0 := ow1_0.bel hb
  replace ox_0_0 := ox_0_0.bel hb
  replace og0_0 := og0_0.bel hb
  replace og1_0 := og1_0.bel hb
  replace oy_0_0 := oy_0_0.bel hb
  replace oh0_0 := oh0_0.bel hb
  replace oh1_0 := oh1_0.bel hb
  replace B := bel2 B hb
  have zw36 := hb.size
  clear hb
  go_wp2_with fail
  refine absW ?_
  intro w37 hw
  have hb : Below w36.heap.size w36 w37 := by rw [hw]; exact (by repeat' (first | assumption | exact Below.refl _ _ | refine Below.drew ?_ | refine Below.alloc ?_ (by first | omega | (simp; done) | (simp; omega)) _))
  clear hw
  replace e0_0 := cellB e0_0 hb
  replace e0_1 := cellB e0_1 hb
  replace e0_2 := cellB e0_2 hb
  replace e0_3 := cellB e0_3 hb
  replace ew0_0 := cellB ew0_0 hb
  replace ew0_1 := cellB ew0_1 hb
  replace ew0_2 := cellB ew0_2 hb
  replace ew0_3 := cellB ew0_3 hb
  replace ex_0_0 := cellB ex_0_0 hb
  replace ex_0_1 := cellB ex_0_1 hb
  replace ex_0_2 := cellB ex_0_2 hb
  replace ex_0_3 := cellB ex_0_3 hb
  replace eg0_0 := cellB eg0_0 hb
  replace eg0_1 := cellB eg0_1 hb
  replace eg0_2 := cellB eg0_2 hb
  replace eg0_3 := cellB eg0_3 hb
  replace eh0_0 := cellB eh0_0 hb
  replace eh0_1 := cellB eh0_1 hb
  replace eh0_2 := cellB eh0_2 hb
  replace eh0_3 := cellB eh0_3 hb
  replace ow0_0 := ow0_0.bel hb
  replace ow1_0 := ow1_0.bel hb
  replace ox_0_0 := ox_0_0.bel hb
  replace og0_0 := og0_0.bel hb
  replace og1_0 := og1_0.bel hb
  replace oy_0_0 := oy_0_0.bel hb
  replace oh0_0 := oh0_0.bel hb
  replace oh1_0 := oh1_0.bel hb
  replace B := bel2 B hb
  have zw37 := hb.size
  clear hb
  refine (heldAbacus _ _ og0_0.reads (adN_le _ _ _ _ _) (by omega) (by omega)).mono ?_
  rintro e w38 ⟨rfl, hb⟩
  replace e0_0 := cellB e0_0 hb
  replace e0_1 := cellB e0_1 hb
  replace e0_2 := cellB e0_2 hb
  replace e0_3 := cellB e0_3 hb
  replace ew0_0 := cellB ew0_0 hb
  replace ew0_1 := cellB ew0_1 hb
  replace ew0_2 := cellB ew0_2 hb
  replace ew0_3 := cellB ew0_3 hb
  replace ex_0_0 := cellB ex_0_0 hb
  replace ex_0_1 := cellB ex_0_1 hb
  replace ex_0_2 := cellB ex_0_2 hb
  replace ex_0_3 := cellB ex_0_3 hb
  replace eg0_0 := cellB eg0_0 hb
  replace eg0_1 := cellB eg0_1 hb
  replace eg0_2 := cellB eg0_2 hb
  replace eg0_3 := cellB eg0_3 hb
  replace eh0_0 := cellB eh0_0 hb
  replace eh0_1 := cellB eh0_1 hb
  replace eh0_2 := cellB eh0_2 hb
  replace eh0_3 := cellB eh0_3 hb
  replace ow0_0 := ow0_0.bel hb
  replace ow1_0 := ow1_0.bel hb
  replace ox_0_0 := ox_0_0.bel hb
  replace og0_0 := og0_0.bel hb
  replace og1_0 := og1_0.bel hb
  replace oy_0_0 := oy_0_0.bel hb
  replace oh0_0 := oh0_0.bel hb
  replace oh1_0 := oh1_0.bel hb
  replace B := bel2 B hb
  have zw38 := hb.size
  clear hb
  go_wp2_with fail
  refine absW ?_
  intro w39 hw
  have hb : Below w38.heap.size w38 w39 := by rw [hw]; exact (by repeat' (first | assumption | exact Below.refl _ _ | refine Below.drew ?_ | refine Below.alloc ?_ (by first | omega | (simp; done) | (simp; omega)) _))
  clear hw
  replace e0_0 := cellB e0_0 hb
  replace e0_1 := cellB e0_1 hb
  replace e0_2 := cellB e0_2 hb
  replace e0_3 := cellB e0_3 hb
  replace ew0_0 := cellB ew0_0 hb
  replace ew0_1 := cellB ew0_1 hb
  replace ew0_2 := cellB ew0_2 hb
  replace ew0_3 := cellB ew0_3 hb
  replace ex_0_0 := cellB ex_0_0 hb
  replace ex_0_1 := cellB ex_0_1 hb
  replace ex_0_2 := cellB ex_0_2 hb
  replace ex_0_3 := cellB ex_0_3 hb
  replace eg0_0 := cellB eg0_0 hb
  replace eg0_1 := cellB eg0_1 hb
  replace eg0_2 := cellB eg0_2 hb
  replace eg0_3 := cellB eg0_3 hb
  replace eh0_0 := cellB eh0_0 hb
  replace eh0_1 := cellB eh0_1 hb
  replace eh0_2 := cellB eh0_2 hb
  replace eh0_3 := cellB eh0_3 hb
  replace ow0_0 := ow0_0.bel hb
  replace ow1_0 := ow1_0.bel hb
  replace ox_0_0 := ox_0_0.bel hb
  replace og0_0 := og0_0.bel hb
  replace og1_0 := og1_0.bel hb
  replace oy_0_0 := oy_0_0.bel hb
  replace oh0_0 := oh0_0.bel hb
  replace oh1_0 := oh1_0.bel hb
  replace B := bel2 B hb
  have zw39 := hb.size
  clear hb
  refine (heldBeadMoveS _ _ og1_0.reads (adMN_le _ _ _ _ _) (by omega) (by omega)).mono ?_
  rintro e w40 ⟨rfl, rfl⟩
  go_wp2
  go_ret
  exact ⟨rfl, bel2 B (by repeat' (first | assumption | exact Below.refl _ _ | refine Below.drew ?_ | refine Below.alloc ?_ (by first | omega | (simp; done) | (simp; omega)) _))⟩
end Go.Proofs.Ytpgifgdoikhpbaa
