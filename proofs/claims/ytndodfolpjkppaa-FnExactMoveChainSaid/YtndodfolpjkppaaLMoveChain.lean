/- The walk of the law FnExactMoveChain. No condition. -/
import Derived.Test.YtndodfolpjkppaaChainI
import Derived.Deep.RegionHeld3
namespace Go.Proofs.Ytndodfolpjkppaa
open Go.RowKit
set_option linter.unusedVariables false

set_option maxRecDepth 100000 in
set_option maxHeartbeats 3200000 in
theorem lMoveChain {A0_0 : Option Addr} {n0_0 c0_0 : Nat} {x0_0 : List Int} {A0_1 : Option Addr} {n0_1 c0_1 : Nat} {x0_1 : List Int} {a1 : Int} (w : World) (h0_0 : IntRow w A0_0 n0_0 c0_0 x0_0) (h0_1 : IntRow w A0_1 n0_1 c0_1 x0_1) (wa1 : inI a1) :
    Calls Try.prog 13 #[.agg #[.slice A0_0 n0_0 c0_0, .slice A0_1 n0_1 c0_1], .int .i64 a1] w fun e w' => e = .returned (.bool true) ∧ Below w.heap.size w w' := by
  have r0_0 := h0_0.reads; have l0_0 := Lib.hid h0_0.len; have M0_0 : n0_0 ≤ maxLen := Nat.le_trans h0_0.nc h0_0.cm
  have r0_1 := h0_1.reads; have l0_1 := Lib.hid h0_1.len; have M0_1 : n0_1 ≤ maxLen := Nat.le_trans h0_1.nc h0_1.cm
  by_cases t0 : (n0_0 : Int) + (n0_1 : Int) ≤ 1048576
  rotate_left
  · have S0 : Hid (szII n0_0 n0_1 (1048576) = -1) := by unfold Hid szII; rw [if_neg t0]
    go_enter Try.func13, Try.ntmps13
    have B : Below w.heap.size w w := Below.refl _ _
    go_wp2_with fail
    refine absW ?_
    intro w1 hw
    have hb : Below w.heap.size w w1 := by rw [hw]; exact (by repeat' (first | assumption | exact Below.refl _ _ | refine Below.drew ?_ | refine Below.alloc ?_ (by first | omega | (simp; done) | (simp; omega)) _))
    have e0_0 : w1.cell? ⟨w.heap.size, 0, none⟩ = some (.slice A0_0 n0_0 c0_0) := by rw [hw]; simp
    have e0_1 : w1.cell? ⟨w.heap.size, 1, none⟩ = some (.slice A0_1 n0_1 c0_1) := by rw [hw]; simp
    have yw1_e0_0 : w.heap.size < w1.heap.size := World.block_lt_of_cell? _ _ e0_0
    clear hw
    replace B := bel2 B hb
    have zw1 := hb.size
    clear hb
    refine (szChain _ _ M0_0 M0_1 (by omega) (by omega)).mono ?_
    rintro e w2 ⟨rfl, hb⟩
    rw [S0.out]
    replace e0_0 := cellB e0_0 hb
    replace e0_1 := cellB e0_1 hb
    replace B := bel2 B hb
    have zw2 := hb.size
    clear hb
    go_wp2
    go_ret
    exact ⟨rfl, bel2 B (by repeat' (first | assumption | exact Below.refl _ _ | refine Below.drew ?_ | refine Below.alloc ?_ (by first | omega | (simp; done) | (simp; omega)) _))⟩
  have S0 : Hid (szII n0_0 n0_1 (1048576) = 1048576 - n0_0 - n0_1) := by unfold Hid szII; rw [if_pos t0]
  have m0_0 : n0_0 ≤ 1048576 := by omega
  have m0_1 : n0_1 ≤ 1048576 := by omega
  have q0 : 0 ≤ 1048576 - n0_0 - n0_1 := by omega
  go_enter Try.func13, Try.ntmps13
  have B : Below w.heap.size w w := Below.refl _ _
  go_wp2_with fail
  refine absW ?_
  intro w1 hw
  have hb : Below w.heap.size w w1 := by rw [hw]; exact (by repeat' (first | assumption | exact Below.refl _ _ | refine Below.drew ?_ | refine Below.alloc ?_ (by first | omega | (simp; done) | (simp; omega)) _))
  have e0_0 : w1.cell? ⟨w.heap.size, 0, none⟩ = some (.slice A0_0 n0_0 c0_0) := by rw [hw]; simp
  have e0_1 : w1.cell? ⟨w.heap.size, 1, none⟩ = some (.slice A0_1 n0_1 c0_1) := by rw [hw]; simp
  have yw1_e0_0 : w.heap.size < w1.heap.size := World.block_lt_of_cell? _ _ e0_0
  clear hw
  replace B := bel2 B hb
  have zw1 := hb.size
  clear hb
  refine (szChain _ _ M0_0 M0_1 (by omega) (by omega)).mono ?_
  rintro e w2 ⟨rfl, hb⟩
  rw [S0.out]
  replace e0_0 := cellB e0_0 hb
  replace e0_1 := cellB e0_1 hb
  replace B := bel2 B hb
  have zw2 := hb.size
  clear hb
  go_wp2_with fail
  refine absW ?_
  intro w3 hw
  have hb : Below w2.heap.size w2 w3 := by rw [hw]; exact (by repeat' (first | assumption | exact Below.refl _ _ | refine Below.drew ?_ | refine Below.alloc ?_ (by first | omega | (simp; done) | (simp; omega)) _))
  clear hw
  replace e0_0 := cellB e0_0 hb
  replace e0_1 := cellB e0_1 hb
  replace B := bel2 B hb
  have zw3 := hb.size
  clear hb
  refine (toChain _ (rdB r0_0 B) l0_0.out (rdB r0_1 B) l0_1.out m0_0 m0_1).mono ?_
  rintro e w4 ⟨vs_0_0, vs_0_1, ds_0, rfl, os_0_0, os_0_1, uds_0_1, uds_0_2, hb⟩
  replace e0_0 := cellB e0_0 hb
  replace e0_1 := cellB e0_1 hb
  replace B := bel2 B hb
  have zw4 := hb.size
  clear hb
  obtain ⟨As_0_0, cs_0_0, rfl, _, _⟩ := os_0_0.form
  obtain ⟨As_0_1, cs_0_1, rfl, _, _⟩ := os_0_1.form
  go_wp2_with fail
  refine absW ?_
  intro w5 hw
  have hb : Below w4.heap.size w4 w5 := by rw [hw]; exact (by repeat' (first | assumption | exact Below.refl _ _ | refine Below.drew ?_ | refine Below.alloc ?_ (by first | omega | (simp; done) | (simp; omega)) _))
  clear hw
  replace e0_0 := cellB e0_0 hb
  replace e0_1 := cellB e0_1 hb
  replace os_0_0 := os_0_0.bel hb
  replace os_0_1 := os_0_1.bel hb
  replace B := bel2 B hb
  have zw5 := hb.size
  clear hb
  refine (sMoveC _ os_0_0.reads os_0_1.reads l0_0.out l0_1.out M0_0 M0_1).mono ?_
  rintro e w6 ⟨vw0_0, vw0_1, mw, rfl, ow0_0, ow0_1, umw_1, umw_2, hb⟩
  replace e0_0 := cellB e0_0 hb
  replace e0_1 := cellB e0_1 hb
  replace os_0_0 := os_0_0.bel hb
  replace os_0_1 := os_0_1.bel hb
  replace B := bel2 B hb
  have zw6 := hb.size
  clear hb
  obtain ⟨Aw0_0, cw0_0, rfl, fow0_0, kow0_0⟩ := ow0_0.form
  obtain ⟨Aw0_1, cw0_1, rfl, fow0_1, kow0_1⟩ := ow0_1.form
  clear os_0_0
  clear os_0_1
  have j1_0 := fun (X0 : Obj) => (cellA e0_0 X0)
  have j1_1 := fun (X0 : Obj) => (cellA e0_1 X0)
  go_wp2_with fail
  refine absW ?_
  intro w7 hw
  have hb : Below w6.heap.size w6 w7 := by rw [hw]; exact (by repeat' (first | assumption | exact Below.refl _ _ | refine Below.drew ?_ | refine Below.alloc ?_ (by first | omega | (simp; done) | (simp; omega)) _))
  have ew0_0 : w7.cell? ⟨w6.heap.size, 0, none⟩ = some (.slice Aw0_0 (mcN x0_0 x0_1 a1) cw0_0) := by rw [hw]; simp
  have ew0_1 : w7.cell? ⟨w6.heap.size, 1, none⟩ = some (.slice Aw0_1 (mcN' x0_0 x0_1 a1) cw0_1) := by rw [hw]; simp
  have yw7_ew0_0 : w6.heap.size < w7.heap.size := World.block_lt_of_cell? _ _ ew0_0
  clear hw j1_0 j1_1
  replace e0_0 := cellB e0_0 hb
  replace e0_1 := cellB e0_1 hb
  replace ow0_0 := ow0_0.bel hb
  replace ow0_1 := ow0_1.bel hb
  replace B := bel2 B hb
  have zw7 := hb.size
  clear hb
  refine (toChain _ (rdB r0_0 B) l0_0.out (rdB r0_1 B) l0_1.out m0_0 m0_1).mono ?_
  rintro e w8 ⟨vx_0_0, vx_0_1, dx_0, rfl, ox_0_0, ox_0_1, udx_0_1, udx_0_2, hb⟩
  replace e0_0 := cellB e0_0 hb
  replace e0_1 := cellB e0_1 hb
  replace ew0_0 := cellB ew0_0 hb
  replace ew0_1 := cellB ew0_1 hb
  replace ow0_0 := ow0_0.bel hb
  replace ow0_1 := ow0_1.bel hb
  replace B := bel2 B hb
  have zw8 := hb.size
  clear hb
  obtain ⟨Ax_0_0, cx_0_0, rfl, _, _⟩ := ox_0_0.form
  obtain ⟨Ax_0_1, cx_0_1, rfl, _, _⟩ := ox_0_1.form
  have j1_0 := fun (X0 : Obj) => (cellA e0_0 X0)
  have j1_1 := fun (X0 : Obj) => (cellA e0_1 X0)
  have j1_2 := fun (X0 : Obj) => (cellA ew0_0 X0)
  have j1_3 := fun (X0 : Obj) => (cellA ew0_1 X0)
  go_wp2_with fail
  refine absW ?_
  intro w9 hw
  have hb : Below w8.heap.size w8 w9 := by rw [hw]; exact (by repeat' (first | assumption | exact Below.refl _ _ | refine Below.drew ?_ | refine Below.alloc ?_ (by first | omega | (simp; done) | (simp; omega)) _))
  have ex_0_0 : w9.cell? ⟨w8.heap.size, 0, none⟩ = some (.slice Ax_0_0 n0_0 cx_0_0) := by rw [hw]; simp
  have ex_0_1 : w9.cell? ⟨w8.heap.size, 1, none⟩ = some (.slice Ax_0_1 n0_1 cx_0_1) := by rw [hw]; simp
  have yw9_ex_0_0 : w8.heap.size < w9.heap.size := World.block_lt_of_cell? _ _ ex_0_0
  clear hw j1_0 j1_1 j1_2 j1_3
  replace e0_0 := cellB e0_0 hb
  replace e0_1 := cellB e0_1 hb
  replace ew0_0 := cellB ew0_0 hb
  replace ew0_1 := cellB ew0_1 hb
  replace ow0_0 := ow0_0.bel hb
  replace ow0_1 := ow0_1.bel hb
  replace ox_0_0 := ox_0_0.bel hb
  replace ox_0_1 := ox_0_1.bel hb
  replace B := bel2 B hb
  have zw9 := hb.size
  clear hb
  refine (iMoveC _ ox_0_0.reads ox_0_1.reads l0_0.out l0_1.out M0_0 M0_1).mono ?_
  rintro e w10 ⟨vg0_0, vg0_1, mg, rfl, og0_0, og0_1, umg_1, umg_2, hb⟩
  replace e0_0 := cellB e0_0 hb
  replace e0_1 := cellB e0_1 hb
  replace ew0_0 := cellB ew0_0 hb
  replace ew0_1 := cellB ew0_1 hb
  replace ex_0_0 := cellB ex_0_0 hb
  replace ex_0_1 := cellB ex_0_1 hb
  replace ow0_0 := ow0_0.bel hb
  replace ow0_1 := ow0_1.bel hb
  replace ox_0_0 := ox_0_0.bel hb
  replace ox_0_1 := ox_0_1.bel hb
  replace B := bel2 B hb
  have zw10 := hb.size
  clear hb
  obtain ⟨Ag0_0, cg0_0, rfl, fog0_0, kog0_0⟩ := og0_0.form
  obtain ⟨Ag0_1, cg0_1, rfl, fog0_1, kog0_1⟩ := og0_1.form
  have j1_0 := fun (X0 : Obj) => (cellA e0_0 X0)
  have j1_1 := fun (X0 : Obj) => (cellA e0_1 X0)
  have j1_2 := fun (X0 : Obj) => (cellA ew0_0 X0)
  have j1_3 := fun (X0 : Obj) => (cellA ew0_1 X0)
  have j1_4 := fun (X0 : Obj) => (cellA ex_0_0 X0)
  have j1_5 := fun (X0 : Obj) => (cellA ex_0_1 X0)
  go_wp2_with fail
  refine absW ?_
  intro w11 hw
  have hb : Below w10.heap.size w10 w11 := by rw [hw]; exact (by repeat' (first | assumption | exact Below.refl _ _ | refine Below.drew ?_ | refine Below.alloc ?_ (by first | omega | (simp; done) | (simp; omega)) _))
  have eg0_0 : w11.cell? ⟨w10.heap.size, 0, none⟩ = some (.slice Ag0_0 (mcN x0_0 x0_1 a1) cg0_0) := by rw [hw]; simp
  have eg0_1 : w11.cell? ⟨w10.heap.size, 1, none⟩ = some (.slice Ag0_1 (mcN' x0_0 x0_1 a1) cg0_1) := by rw [hw]; simp
  have yw11_eg0_0 : w10.heap.size < w11.heap.size := World.block_lt_of_cell? _ _ eg0_0
  clear hw j1_0 j1_1 j1_2 j1_3 j1_4 j1_5
  replace e0_0 := cellB e0_0 hb
  replace e0_1 := cellB e0_1 hb
  replace ew0_0 := cellB ew0_0 hb
  replace ew0_1 := cellB ew0_1 hb
  replace ex_0_0 := cellB ex_0_0 hb
  replace ex_0_1 := cellB ex_0_1 hb
  replace ow0_0 := ow0_0.bel hb
  replace ow0_1 := ow0_1.bel hb
  replace ox_0_0 := ox_0_0.bel hb
  replace ox_0_1 := ox_0_1.bel hb
  replace og0_0 := og0_0.bel hb
  replace og0_1 := og0_1.bel hb
  replace B := bel2 B hb
  have zw11 := hb.size
  clear hb
  refine (eqChain _ og0_0.reads ow0_0.reads og0_1.reads ow0_1.reads (by simpa using ow0_0.row.1) (Nat.le_trans fow0_0 kow0_0) (by simpa using ow0_1.row.1) (Nat.le_trans fow0_1 kow0_1)).mono ?_
  rintro e w12 ⟨rfl, hb⟩
  replace e0_0 := cellB e0_0 hb
  replace e0_1 := cellB e0_1 hb
  replace ew0_0 := cellB ew0_0 hb
  replace ew0_1 := cellB ew0_1 hb
  replace ex_0_0 := cellB ex_0_0 hb
  replace ex_0_1 := cellB ex_0_1 hb
  replace eg0_0 := cellB eg0_0 hb
  replace eg0_1 := cellB eg0_1 hb
  replace ow0_0 := ow0_0.bel hb
  replace ow0_1 := ow0_1.bel hb
  replace ox_0_0 := ox_0_0.bel hb
  replace ox_0_1 := ox_0_1.bel hb
  replace og0_0 := og0_0.bel hb
  replace og0_1 := og0_1.bel hb
  replace B := bel2 B hb
  have zw12 := hb.size
  clear hb
  go_wp2_with fail
  go_region_held3 (fun w' => w'.cell? ⟨w.heap.size, 0, none⟩ = some (.slice A0_0 n0_0 c0_0) ∧ w'.cell? ⟨w.heap.size, 1, none⟩ = some (.slice A0_1 n0_1 c0_1) ∧ w'.cell? ⟨w6.heap.size, 0, none⟩ = some (.slice Aw0_0 (mcN x0_0 x0_1 a1) cw0_0) ∧ w'.cell? ⟨w6.heap.size, 1, none⟩ = some (.slice Aw0_1 (mcN' x0_0 x0_1 a1) cw0_1) ∧ w'.cell? ⟨w8.heap.size, 0, none⟩ = some (.slice Ax_0_0 n0_0 cx_0_0) ∧ w'.cell? ⟨w8.heap.size, 1, none⟩ = some (.slice Ax_0_1 n0_1 cx_0_1) ∧ w'.cell? ⟨w10.heap.size, 0, none⟩ = some (.slice Ag0_0 (mcN x0_0 x0_1 a1) cg0_0) ∧ w'.cell? ⟨w10.heap.size, 1, none⟩ = some (.slice Ag0_1 (mcN' x0_0 x0_1 a1) cg0_1) ∧ Below w12.heap.size w12 w')
    ((go_split_ands; and_intros <;> (first | assumption | exact cellB (by assumption) hbx | exact bel2 (by assumption) hbx | exact (Below.refl _ _).drew)))
    (first
      | (go_at_call_of 21 (Value.slice A0_0 n0_0 c0_0); go_split_ands; (first | refine (toChain _ (rdB r0_0 (bel2 B (by assumption))) l0_0.out (rdB r0_1 (bel2 B (by assumption))) l0_1.out m0_0 m0_1).mono ?_); rintro e w' ⟨vz_0_0, vz_0_1, dz_0, rfl, oz_0_0, oz_0_1, udz_0_1, udz_0_2, hbx⟩; obtain ⟨Az_0_0, cz_0_0, rfl, _, _⟩ := oz_0_0.form; obtain ⟨Az_0_1, cz_0_1, rfl, _, _⟩ := oz_0_1.form)
      | (go_at_call 23; go_split_ands; (first | refine (eqChain _ (Own.reads (Own.bel ox_0_0 (by assumption))) oz_0_0.reads (Own.reads (Own.bel ox_0_1 (by assumption))) oz_0_1.reads l0_0.out M0_0 l0_1.out M0_1).mono ?_); rintro e w' ⟨rfl, hbx⟩; replace oz_0_0 := oz_0_0.bel hbx; replace oz_0_1 := oz_0_1.bel hbx)
    )
  have hb : Below w12.heap.size w12 w' := by go_split_ands; assumption
  obtain ⟨w13, hw⟩ : ∃ w13, w13 = w' := ⟨_, rfl⟩
  subst hw
  replace e0_0 := cellB e0_0 hb
  replace e0_1 := cellB e0_1 hb
  replace ew0_0 := cellB ew0_0 hb
  replace ew0_1 := cellB ew0_1 hb
  replace ex_0_0 := cellB ex_0_0 hb
  replace ex_0_1 := cellB ex_0_1 hb
  replace eg0_0 := cellB eg0_0 hb
  replace eg0_1 := cellB eg0_1 hb
  replace ow0_0 := ow0_0.bel hb
  replace ow0_1 := ow0_1.bel hb
  replace ox_0_0 := ox_0_0.bel hb
  replace ox_0_1 := ox_0_1.bel hb
  replace og0_0 := og0_0.bel hb
  replace og0_1 := og0_1.bel hb
  replace B := bel2 B hb
  have zw13 := hb.size
  clear hb
  clear oz_0_0
  clear oz_0_1
  go_wp2_with fail
  refine absW ?_
  intro w14 hw
  have hb : Below w13.heap.size w13 w14 := by rw [hw]; exact (by repeat' (first | assumption | exact Below.refl _ _ | refine Below.drew ?_ | refine Below.alloc ?_ (by first | omega | (simp; done) | (simp; omega)) _))
  clear hw
  replace e0_0 := cellB e0_0 hb
  replace e0_1 := cellB e0_1 hb
  replace ew0_0 := cellB ew0_0 hb
  replace ew0_1 := cellB ew0_1 hb
  replace ex_0_0 := cellB ex_0_0 hb
  replace ex_0_1 := cellB ex_0_1 hb
  replace eg0_0 := cellB eg0_0 hb
  replace eg0_1 := cellB eg0_1 hb
  replace ow0_0 := ow0_0.bel hb
  replace ow0_1 := ow0_1.bel hb
  replace ox_0_0 := ox_0_0.bel hb
  replace ox_0_1 := ox_0_1.bel hb
  replace og0_0 := og0_0.bel hb
  replace og0_1 := og0_1.bel hb
  replace B := bel2 B hb
  have zw14 := hb.size
  clear hb
  refine (markChain _ _ ox_0_0 ox_0_1 (by omega) (by omega) (by omega) (by omega) (by omega) (by omega) (by omega)).mono ?_
  rintro e w15 ⟨rfl, p0, p1, ht⟩
  clear ox_0_0; have ox_0_0 := p0; clear p0
  clear ox_0_1; have ox_0_1 := p1; clear p1
  replace e0_0 := cellT e0_0 ht (by omega)
  replace e0_1 := cellT e0_1 ht (by omega)
  replace ew0_0 := cellT ew0_0 ht (by omega)
  replace ew0_1 := cellT ew0_1 ht (by omega)
  replace ex_0_0 := cellT ex_0_0 ht (by omega)
  replace ex_0_1 := cellT ex_0_1 ht (by omega)
  replace eg0_0 := cellT eg0_0 ht (by omega)
  replace eg0_1 := cellT eg0_1 ht (by omega)
  replace ow0_0 := ow0_0.touch ht (by omega)
  replace ow0_1 := ow0_1.touch ht (by omega)
  replace og0_0 := og0_0.touch ht (by omega)
  replace og0_1 := og0_1.touch ht (by omega)
  replace B := Touch.below B ht B.size (by omega)
  have zw15 := ht.size
  clear ht
  go_wp2_with fail
  refine absW ?_
  intro w16 hw
  have hb : Below w15.heap.size w15 w16 := by rw [hw]; exact (by repeat' (first | assumption | exact Below.refl _ _ | refine Below.drew ?_ | refine Below.alloc ?_ (by first | omega | (simp; done) | (simp; omega)) _))
  clear hw
  replace e0_0 := cellB e0_0 hb
  replace e0_1 := cellB e0_1 hb
  replace ew0_0 := cellB ew0_0 hb
  replace ew0_1 := cellB ew0_1 hb
  replace ex_0_0 := cellB ex_0_0 hb
  replace ex_0_1 := cellB ex_0_1 hb
  replace eg0_0 := cellB eg0_0 hb
  replace eg0_1 := cellB eg0_1 hb
  replace ow0_0 := ow0_0.bel hb
  replace ow0_1 := ow0_1.bel hb
  replace ox_0_0 := ox_0_0.bel hb
  replace ox_0_1 := ox_0_1.bel hb
  replace og0_0 := og0_0.bel hb
  replace og0_1 := og0_1.bel hb
  replace B := bel2 B hb
  have zw16 := hb.size
  clear hb
  refine (eqChain _ og0_0.reads ow0_0.reads og0_1.reads ow0_1.reads (by simpa using ow0_0.row.1) (Nat.le_trans fow0_0 kow0_0) (by simpa using ow0_1.row.1) (Nat.le_trans fow0_1 kow0_1)).mono ?_
  rintro e w17 ⟨rfl, hb⟩
  replace e0_0 := cellB e0_0 hb
  replace e0_1 := cellB e0_1 hb
  replace ew0_0 := cellB ew0_0 hb
  replace ew0_1 := cellB ew0_1 hb
  replace ex_0_0 := cellB ex_0_0 hb
  replace ex_0_1 := cellB ex_0_1 hb
  replace eg0_0 := cellB eg0_0 hb
  replace eg0_1 := cellB eg0_1 hb
  replace ow0_0 := ow0_0.bel hb
  replace ow0_1 := ow0_1.bel hb
  replace ox_0_0 := ox_0_0.bel hb
  replace ox_0_1 := ox_0_1.bel hb
  replace og0_0 := og0_0.bel hb
  replace og0_1 := og0_1.bel hb
  replace B := bel2 B hb
  have zw17 := hb.size
  clear hb
  go_wp2_with fail
  refine absW ?_
  intro w18 hw
  have hb : Below w17.heap.size w17 w18 := by rw [hw]; exact (by repeat' (first | assumption | exact Below.refl _ _ | refine Below.drew ?_ | refine Below.alloc ?_ (by first | omega | (simp; done) | (simp; omega)) _))
  clear hw
  replace e0_0 := cellB e0_0 hb
  replace e0_1 := cellB e0_1 hb
  replace ew0_0 := cellB ew0_0 hb
  replace ew0_1 := cellB ew0_1 hb
  replace ex_0_0 := cellB ex_0_0 hb
  replace ex_0_1 := cellB ex_0_1 hb
  replace eg0_0 := cellB eg0_0 hb
  replace eg0_1 := cellB eg0_1 hb
  replace ow0_0 := ow0_0.bel hb
  replace ow0_1 := ow0_1.bel hb
  replace ox_0_0 := ox_0_0.bel hb
  replace ox_0_1 := ox_0_1.bel hb
  replace og0_0 := og0_0.bel hb
  replace og0_1 := og0_1.bel hb
  replace B := bel2 B hb
  have zw18 := hb.size
  clear hb
  refine (markChain _ _ og0_0 og0_1 (mcN_le _ _ _) (mcN'_le _ _ _) (by omega) (by omega) (by omega) (by omega) (by omega)).mono ?_
  rintro e w19 ⟨rfl, p0, p1, ht⟩
  clear og0_0; have og0_0 := p0; clear p0
  clear og0_1; have og0_1 := p1; clear p1
  replace e0_0 := cellT e0_0 ht (by omega)
  replace e0_1 := cellT e0_1 ht (by omega)
  replace ew0_0 := cellT ew0_0 ht (by omega)
  replace ew0_1 := cellT ew0_1 ht (by omega)
  replace ex_0_0 := cellT ex_0_0 ht (by omega)
  replace ex_0_1 := cellT ex_0_1 ht (by omega)
  replace eg0_0 := cellT eg0_0 ht (by omega)
  replace eg0_1 := cellT eg0_1 ht (by omega)
  replace ow0_0 := ow0_0.touch ht (by omega)
  replace ow0_1 := ow0_1.touch ht (by omega)
  replace ox_0_0 := ox_0_0.touch ht (by omega)
  replace ox_0_1 := ox_0_1.touch ht (by omega)
  replace B := Touch.below B ht B.size (by omega)
  have zw19 := ht.size
  clear ht
  go_wp2_with fail
  refine absW ?_
  intro w20 hw
  have hb : Below w19.heap.size w19 w20 := by rw [hw]; exact (by repeat' (first | assumption | exact Below.refl _ _ | refine Below.drew ?_ | refine Below.alloc ?_ (by first | omega | (simp; done) | (simp; omega)) _))
  clear hw
  replace e0_0 := cellB e0_0 hb
  replace e0_1 := cellB e0_1 hb
  replace ew0_0 := cellB ew0_0 hb
  replace ew0_1 := cellB ew0_1 hb
  replace ex_0_0 := cellB ex_0_0 hb
  replace ex_0_1 := cellB ex_0_1 hb
  replace eg0_0 := cellB eg0_0 hb
  replace eg0_1 := cellB eg0_1 hb
  replace ow0_0 := ow0_0.bel hb
  replace ow0_1 := ow0_1.bel hb
  replace ox_0_0 := ox_0_0.bel hb
  replace ox_0_1 := ox_0_1.bel hb
  replace og0_0 := og0_0.bel hb
  replace og0_1 := og0_1.bel hb
  replace B := bel2 B hb
  have zw20 := hb.size
  clear hb
  refine (heldChain _ _ og0_0.reads og0_1.reads (mcN_le _ _ _) (mcN'_le _ _ _) (by omega) (by omega)).mono ?_
  rintro e w21 ⟨rfl, hb⟩
  replace e0_0 := cellB e0_0 hb
  replace e0_1 := cellB e0_1 hb
  replace ew0_0 := cellB ew0_0 hb
  replace ew0_1 := cellB ew0_1 hb
  replace ex_0_0 := cellB ex_0_0 hb
  replace ex_0_1 := cellB ex_0_1 hb
  replace eg0_0 := cellB eg0_0 hb
  replace eg0_1 := cellB eg0_1 hb
  replace ow0_0 := ow0_0.bel hb
  replace ow0_1 := ow0_1.bel hb
  replace ox_0_0 := ox_0_0.bel hb
  replace ox_0_1 := ox_0_1.bel hb
  replace og0_0 := og0_0.bel hb
  replace og0_1 := og0_1.bel hb
  replace B := bel2 B hb
  have zw21 := hb.size
  clear hb
  go_wp2_with fail
  refine absW ?_
  intro w22 hw
  have hb : Below w21.heap.size w21 w22 := by rw [hw]; exact (by repeat' (first | assumption | exact Below.refl _ _ | refine Below.drew ?_ | refine Below.alloc ?_ (by first | omega | (simp; done) | (simp; omega)) _))
  clear hw
  replace e0_0 := cellB e0_0 hb
  replace e0_1 := cellB e0_1 hb
  replace ew0_0 := cellB ew0_0 hb
  replace ew0_1 := cellB ew0_1 hb
  replace ex_0_0 := cellB ex_0_0 hb
  replace ex_0_1 := cellB ex_0_1 hb
  replace eg0_0 := cellB eg0_0 hb
  replace eg0_1 := cellB eg0_1 hb
  replace ow0_0 := ow0_0.bel hb
  replace ow0_1 := ow0_1.bel hb
  replace ox_0_0 := ox_0_0.bel hb
  replace ox_0_1 := ox_0_1.bel hb
  replace og0_0 := og0_0.bel hb
  replace og0_1 := og0_1.bel hb
  replace B := bel2 B hb
  have zw22 := hb.size
  clear hb
  refine (toChain _ (rdB r0_0 B) l0_0.out (rdB r0_1 B) l0_1.out m0_0 m0_1).mono ?_
  rintro e w23 ⟨vy_0_0, vy_0_1, dy_0, rfl, oy_0_0, oy_0_1, udy_0_1, udy_0_2, hb⟩
  replace e0_0 := cellB e0_0 hb
  replace e0_1 := cellB e0_1 hb
  replace ew0_0 := cellB ew0_0 hb
  replace ew0_1 := cellB ew0_1 hb
  replace ex_0_0 := cellB ex_0_0 hb
  replace ex_0_1 := cellB ex_0_1 hb
  replace eg0_0 := cellB eg0_0 hb
  replace eg0_1 := cellB eg0_1 hb
  replace ow0_0 := ow0_0.bel hb
  replace ow0_1 := ow0_1.bel hb
  replace ox_0_0 := ox_0_0.bel hb
  replace ox_0_1 := ox_0_1.bel hb
  replace og0_0 := og0_0.bel hb
  replace og0_1 := og0_1.bel hb
  replace B := bel2 B hb
  have zw23 := hb.size
  clear hb
  obtain ⟨Ay_0_0, cy_0_0, rfl, _, _⟩ := oy_0_0.form
  obtain ⟨Ay_0_1, cy_0_1, rfl, _, _⟩ := oy_0_1.form
  go_wp2_with fail
  refine absW ?_
  intro w24 hw
  have hb : Below w23.heap.size w23 w24 := by rw [hw]; exact (by repeat' (first | assumption | exact Below.refl _ _ | refine Below.drew ?_ | refine Below.alloc ?_ (by first | omega | (simp; done) | (simp; omega)) _))
  clear hw
  replace e0_0 := cellB e0_0 hb
  replace e0_1 := cellB e0_1 hb
  replace ew0_0 := cellB ew0_0 hb
  replace ew0_1 := cellB ew0_1 hb
  replace ex_0_0 := cellB ex_0_0 hb
  replace ex_0_1 := cellB ex_0_1 hb
  replace eg0_0 := cellB eg0_0 hb
  replace eg0_1 := cellB eg0_1 hb
  replace ow0_0 := ow0_0.bel hb
  replace ow0_1 := ow0_1.bel hb
  replace ox_0_0 := ox_0_0.bel hb
  replace ox_0_1 := ox_0_1.bel hb
  replace og0_0 := og0_0.bel hb
  replace og0_1 := og0_1.bel hb
  replace oy_0_0 := oy_0_0.bel hb
  replace oy_0_1 := oy_0_1.bel hb
  replace B := bel2 B hb
  have zw24 := hb.size
  clear hb
  refine (iMoveC _ oy_0_0.reads oy_0_1.reads l0_0.out l0_1.out M0_0 M0_1).mono ?_
  rintro e w25 ⟨vh0_0, vh0_1, mh, rfl, oh0_0, oh0_1, umh_1, umh_2, hb⟩
  replace e0_0 := cellB e0_0 hb
  replace e0_1 := cellB e0_1 hb
  replace ew0_0 := cellB ew0_0 hb
  replace ew0_1 := cellB ew0_1 hb
  replace ex_0_0 := cellB ex_0_0 hb
  replace ex_0_1 := cellB ex_0_1 hb
  replace eg0_0 := cellB eg0_0 hb
  replace eg0_1 := cellB eg0_1 hb
  replace ow0_0 := ow0_0.bel hb
  replace ow0_1 := ow0_1.bel hb
  replace ox_0_0 := ox_0_0.bel hb
  replace ox_0_1 := ox_0_1.bel hb
  replace og0_0 := og0_0.bel hb
  replace og0_1 := og0_1.bel hb
  replace oy_0_0 := oy_0_0.bel hb
  replace oy_0_1 := oy_0_1.bel hb
  replace B := bel2 B hb
  have zw25 := hb.size
  clear hb
  obtain ⟨Ah0_0, ch0_0, rfl, foh0_0, koh0_0⟩ := oh0_0.form
  obtain ⟨Ah0_1, ch0_1, rfl, foh0_1, koh0_1⟩ := oh0_1.form
  have j1_0 := fun (X0 : Obj) => (cellA e0_0 X0)
  have j1_1 := fun (X0 : Obj) => (cellA e0_1 X0)
  have j1_2 := fun (X0 : Obj) => (cellA ew0_0 X0)
  have j1_3 := fun (X0 : Obj) => (cellA ew0_1 X0)
  have j1_4 := fun (X0 : Obj) => (cellA ex_0_0 X0)
  have j1_5 := fun (X0 : Obj) => (cellA ex_0_1 X0)
  have j1_6 := fun (X0 : Obj) => (cellA eg0_0 X0)
  have j1_7 := fun (X0 : Obj) => (cellA eg0_1 X0)
  go_wp2_with fail
  refine absW ?_
  intro w26 hw
  have hb : Below w25.heap.size w25 w26 := by rw [hw]; exact (by repeat' (first | assumption | exact Below.refl _ _ | refine Below.drew ?_ | refine Below.alloc ?_ (by first | omega | (simp; done) | (simp; omega)) _))
  have eh0_0 : w26.cell? ⟨w25.heap.size, 0, none⟩ = some (.slice Ah0_0 (mcN x0_0 x0_1 a1) ch0_0) := by rw [hw]; simp
  have eh0_1 : w26.cell? ⟨w25.heap.size, 1, none⟩ = some (.slice Ah0_1 (mcN' x0_0 x0_1 a1) ch0_1) := by rw [hw]; simp
  have yw26_eh0_0 : w25.heap.size < w26.heap.size := World.block_lt_of_cell? _ _ eh0_0
  clear hw j1_0 j1_1 j1_2 j1_3 j1_4 j1_5 j1_6 j1_7
  replace e0_0 := cellB e0_0 hb
  replace e0_1 := cellB e0_1 hb
  replace ew0_0 := cellB ew0_0 hb
  replace ew0_1 := cellB ew0_1 hb
  replace ex_0_0 := cellB ex_0_0 hb
  replace ex_0_1 := cellB ex_0_1 hb
  replace eg0_0 := cellB eg0_0 hb
  replace eg0_1 := cellB eg0_1 hb
  replace ow0_0 := ow0_0.bel hb
  replace ow0_1 := ow0_1.bel hb
  replace ox_0_0 := ox_0_0.bel hb
  replace ox_0_1 := ox_0_1.bel hb
  replace og0_0 := og0_0.bel hb
  replace og0_1 := og0_1.bel hb
  replace oy_0_0 := oy_0_0.bel hb
  replace oy_0_1 := oy_0_1.bel hb
  replace oh0_0 := oh0_0.bel hb
  replace oh0_1 := oh0_1.bel hb
  replace B := bel2 B hb
  have zw26 := hb.size
  clear hb
  refine (eqChain _ oh0_0.reads ow0_0.reads oh0_1.reads ow0_1.reads (by simpa using ow0_0.row.1) (Nat.le_trans fow0_0 kow0_0) (by simpa using ow0_1.row.1) (Nat.le_trans fow0_1 kow0_1)).mono ?_
  rintro e w27 ⟨rfl, hb⟩
  replace e0_0 := cellB e0_0 hb
  replace e0_1 := cellB e0_1 hb
  replace ew0_0 := cellB ew0_0 hb
  replace ew0_1 := cellB ew0_1 hb
  replace ex_0_0 := cellB ex_0_0 hb
  replace ex_0_1 := cellB ex_0_1 hb
  replace eg0_0 := cellB eg0_0 hb
  replace eg0_1 := cellB eg0_1 hb
  replace eh0_0 := cellB eh0_0 hb
  replace eh0_1 := cellB eh0_1 hb
  replace ow0_0 := ow0_0.bel hb
  replace ow0_1 := ow0_1.bel hb
  replace ox_0_0 := ox_0_0.bel hb
  replace ox_0_1 := ox_0_1.bel hb
  replace og0_0 := og0_0.bel hb
  replace og0_1 := og0_1.bel hb
  replace oy_0_0 := oy_0_0.bel hb
  replace oy_0_1 := oy_0_1.bel hb
  replace oh0_0 := oh0_0.bel hb
  replace oh0_1 := oh0_1.bel hb
  replace B := bel2 B hb
  have zw27 := hb.size
  clear hb
  go_wp2_with fail
  refine absW ?_
  intro w28 hw
  have hb : Below w27.heap.size w27 w28 := by rw [hw]; exact (by repeat' (first | assumption | exact Below.refl _ _ | refine Below.drew ?_ | refine Below.alloc ?_ (by first | omega | (simp; done) | (simp; omega)) _))
  clear hw
  replace e0_0 := cellB e0_0 hb
  replace e0_1 := cellB e0_1 hb
  replace ew0_0 := cellB ew0_0 hb
  replace ew0_1 := cellB ew0_1 hb
  replace ex_0_0 := cellB ex_0_0 hb
  replace ex_0_1 := cellB ex_0_1 hb
  replace eg0_0 := cellB eg0_0 hb
  replace eg0_1 := cellB eg0_1 hb
  replace eh0_0 := cellB eh0_0 hb
  replace eh0_1 := cellB eh0_1 hb
  replace ow0_0 := ow0_0.bel hb
  replace ow0_1 := ow0_1.bel hb
  replace ox_0_0 := ox_0_0.bel hb
  replace ox_0_1 := ox_0_1.bel hb
  replace og0_0 := og0_0.bel hb
  replace og0_1 := og0_1.bel hb
  replace oy_0_0 := oy_0_0.bel hb
  replace oy_0_1 := oy_0_1.bel hb
  replace oh0_0 := oh0_0.bel hb
  replace oh0_1 := oh0_1.bel hb
  replace B := bel2 B hb
  have zw28 := hb.size
  clear hb
  refine (heldChain _ _ og0_0.reads og0_1.reads (mcN_le _ _ _) (mcN'_le _ _ _) (by omega) (by omega)).mono ?_
  rintro e w29 ⟨rfl, hb⟩
  replace e0_0 := cellB e0_0 hb
  replace e0_1 := cellB e0_1 hb
  replace ew0_0 := cellB ew0_0 hb
  replace ew0_1 := cellB ew0_1 hb
  replace ex_0_0 := cellB ex_0_0 hb
  replace ex_0_1 := cellB ex_0_1 hb
  replace eg0_0 := cellB eg0_0 hb
  replace eg0_1 := cellB eg0_1 hb
  replace eh0_0 := cellB eh0_0 hb
  replace eh0_1 := cellB eh0_1 hb
  replace ow0_0 := ow0_0.bel hb
  replace ow0_1 := ow0_1.bel hb
  replace ox_0_0 := ox_0_0.bel hb
  replace ox_0_1 := ox_0_1.bel hb
  replace og0_0 := og0_0.bel hb
  replace og0_1 := og0_1.bel hb
  replace oy_0_0 := oy_0_0.bel hb
  replace oy_0_1 := oy_0_1.bel hb
  replace oh0_0 := oh0_0.bel hb
  replace oh0_1 := oh0_1.bel hb
  replace B := bel2 B hb
  have zw29 := hb.size
  clear hb
  go_wp2
  go_ret
  exact ⟨rfl, bel2 B (by repeat' (first | assumption | exact Below.refl _ _ | refine Below.drew ?_ | refine Below.alloc ?_ (by first | omega | (simp; done) | (simp; omega)) _))⟩
end Go.Proofs.Ytndodfolpjkppaa
