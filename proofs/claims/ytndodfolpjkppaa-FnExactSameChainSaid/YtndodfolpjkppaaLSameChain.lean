/- The walk of the law FnExactSameChain. No condition. -/
import Derived.Test.YtndodfolpjkppaaChainS
import Derived.Deep.RegionHeld3
namespace Go.Proofs.Ytndodfolpjkppaa
open Go.RowKit
set_option linter.unusedVariables false

set_option maxRecDepth 100000 in
set_option maxHeartbeats 3200000 in
theorem lSameChain {A0_0 : Option Addr} {n0_0 c0_0 : Nat} {x0_0 : List Int} {A0_1 : Option Addr} {n0_1 c0_1 : Nat} {x0_1 : List Int} {A1_0 : Option Addr} {n1_0 c1_0 : Nat} {x1_0 : List Int} {A1_1 : Option Addr} {n1_1 c1_1 : Nat} {x1_1 : List Int} (w : World) (h0_0 : IntRow w A0_0 n0_0 c0_0 x0_0) (h0_1 : IntRow w A0_1 n0_1 c0_1 x0_1) (h1_0 : IntRow w A1_0 n1_0 c1_0 x1_0) (h1_1 : IntRow w A1_1 n1_1 c1_1 x1_1) :
    Calls Try.prog 4 #[.agg #[.slice A0_0 n0_0 c0_0, .slice A0_1 n0_1 c0_1], .agg #[.slice A1_0 n1_0 c1_0, .slice A1_1 n1_1 c1_1]] w fun e w' => e = .returned (.bool true) ∧ Below w.heap.size w w' := by
  have r0_0 := h0_0.reads; have l0_0 := Lib.hid h0_0.len; have M0_0 : n0_0 ≤ maxLen := Nat.le_trans h0_0.nc h0_0.cm
  have r0_1 := h0_1.reads; have l0_1 := Lib.hid h0_1.len; have M0_1 : n0_1 ≤ maxLen := Nat.le_trans h0_1.nc h0_1.cm
  have r1_0 := h1_0.reads; have l1_0 := Lib.hid h1_0.len; have M1_0 : n1_0 ≤ maxLen := Nat.le_trans h1_0.nc h1_0.cm
  have r1_1 := h1_1.reads; have l1_1 := Lib.hid h1_1.len; have M1_1 : n1_1 ≤ maxLen := Nat.le_trans h1_1.nc h1_1.cm
  by_cases t0 : (n0_0 : Int) + (n0_1 : Int) ≤ 1048576
  rotate_left
  · have S0 : Hid (szII n0_0 n0_1 (1048576) = -1) := by unfold Hid szII; rw [if_neg t0]
    go_enter Try.func4, Try.ntmps4
    have B : Below w.heap.size w w := Below.refl _ _
    go_wp2_with fail
    refine absW ?_
    intro w1 hw
    have hb : Below w.heap.size w w1 := by rw [hw]; exact (by repeat' (first | assumption | exact Below.refl _ _ | refine Below.drew ?_ | refine Below.alloc ?_ (by first | omega | (simp; done) | (simp; omega)) _))
    have e0_0 : w1.cell? ⟨w.heap.size, 0, none⟩ = some (.slice A0_0 n0_0 c0_0) := by rw [hw]; simp
    have e0_1 : w1.cell? ⟨w.heap.size, 1, none⟩ = some (.slice A0_1 n0_1 c0_1) := by rw [hw]; simp
    have e1_0 : w1.cell? ⟨w.heap.size + 1, 0, none⟩ = some (.slice A1_0 n1_0 c1_0) := by rw [hw]; simp
    have e1_1 : w1.cell? ⟨w.heap.size + 1, 1, none⟩ = some (.slice A1_1 n1_1 c1_1) := by rw [hw]; simp
    have yw1_e0_0 : w.heap.size < w1.heap.size := World.block_lt_of_cell? _ _ e0_0
    have yw1_e1_0 : w.heap.size + 1 < w1.heap.size := World.block_lt_of_cell? _ _ e1_0
    clear hw
    replace B := bel2 B hb
    have zw1 := hb.size
    clear hb
    refine (szChain _ _ M0_0 M0_1 (by omega) (by omega)).mono ?_
    rintro e w2 ⟨rfl, hb⟩
    rw [S0.out]
    replace e0_0 := cellB e0_0 hb
    replace e0_1 := cellB e0_1 hb
    replace e1_0 := cellB e1_0 hb
    replace e1_1 := cellB e1_1 hb
    replace B := bel2 B hb
    have zw2 := hb.size
    clear hb
    go_wp2
    go_ret
    exact ⟨rfl, bel2 B (by repeat' (first | assumption | exact Below.refl _ _ | refine Below.drew ?_ | refine Below.alloc ?_ (by first | omega | (simp; done) | (simp; omega)) _))⟩
  have S0 : Hid (szII n0_0 n0_1 (1048576) = 1048576 - n0_0 - n0_1) := by unfold Hid szII; rw [if_pos t0]
  have m0_0 : n0_0 ≤ 1048576 := by omega
  have m0_1 : n0_1 ≤ 1048576 := by omega
  have q0 : 0 ≤ 1048576 - n0_0 - n0_1 := by omega
  by_cases t1 : (n1_0 : Int) + (n1_1 : Int) ≤ 1048576 - n0_0 - n0_1
  rotate_left
  · have S1 : Hid (szII n1_0 n1_1 (1048576 - n0_0 - n0_1) = -1) := by unfold Hid szII; rw [if_neg t1]
    go_enter Try.func4, Try.ntmps4
    have B : Below w.heap.size w w := Below.refl _ _
    go_wp2_with fail
    refine absW ?_
    intro w1 hw
    have hb : Below w.heap.size w w1 := by rw [hw]; exact (by repeat' (first | assumption | exact Below.refl _ _ | refine Below.drew ?_ | refine Below.alloc ?_ (by first | omega | (simp; done) | (simp; omega)) _))
    have e0_0 : w1.cell? ⟨w.heap.size, 0, none⟩ = some (.slice A0_0 n0_0 c0_0) := by rw [hw]; simp
    have e0_1 : w1.cell? ⟨w.heap.size, 1, none⟩ = some (.slice A0_1 n0_1 c0_1) := by rw [hw]; simp
    have e1_0 : w1.cell? ⟨w.heap.size + 1, 0, none⟩ = some (.slice A1_0 n1_0 c1_0) := by rw [hw]; simp
    have e1_1 : w1.cell? ⟨w.heap.size + 1, 1, none⟩ = some (.slice A1_1 n1_1 c1_1) := by rw [hw]; simp
    have yw1_e0_0 : w.heap.size < w1.heap.size := World.block_lt_of_cell? _ _ e0_0
    have yw1_e1_0 : w.heap.size + 1 < w1.heap.size := World.block_lt_of_cell? _ _ e1_0
    clear hw
    replace B := bel2 B hb
    have zw1 := hb.size
    clear hb
    refine (szChain _ _ M0_0 M0_1 (by omega) (by omega)).mono ?_
    rintro e w2 ⟨rfl, hb⟩
    rw [S0.out]
    replace e0_0 := cellB e0_0 hb
    replace e0_1 := cellB e0_1 hb
    replace e1_0 := cellB e1_0 hb
    replace e1_1 := cellB e1_1 hb
    replace B := bel2 B hb
    have zw2 := hb.size
    clear hb
    go_wp2_with fail
    refine absW ?_
    intro w3 hw
    have hb : Below w2.heap.size w2 w3 := by rw [hw]; exact (by repeat' (first | assumption | exact Below.refl _ _ | refine Below.drew ?_ | refine Below.alloc ?_ (by first | omega | (simp; done) | (simp; omega)) _))
    clear hw
    replace e0_0 := cellB e0_0 hb
    replace e0_1 := cellB e0_1 hb
    replace e1_0 := cellB e1_0 hb
    replace e1_1 := cellB e1_1 hb
    replace B := bel2 B hb
    have zw3 := hb.size
    clear hb
    refine (szChain _ _ M1_0 M1_1 (by omega) (by omega)).mono ?_
    rintro e w4 ⟨rfl, hb⟩
    rw [S1.out]
    replace e0_0 := cellB e0_0 hb
    replace e0_1 := cellB e0_1 hb
    replace e1_0 := cellB e1_0 hb
    replace e1_1 := cellB e1_1 hb
    replace B := bel2 B hb
    have zw4 := hb.size
    clear hb
    go_wp2
    go_ret
    exact ⟨rfl, bel2 B (by repeat' (first | assumption | exact Below.refl _ _ | refine Below.drew ?_ | refine Below.alloc ?_ (by first | omega | (simp; done) | (simp; omega)) _))⟩
  have S1 : Hid (szII n1_0 n1_1 (1048576 - n0_0 - n0_1) = 1048576 - n0_0 - n0_1 - n1_0 - n1_1) := by unfold Hid szII; rw [if_pos t1]
  have m1_0 : n1_0 ≤ 1048576 := by omega
  have m1_1 : n1_1 ≤ 1048576 := by omega
  have q1 : 0 ≤ 1048576 - n0_0 - n0_1 - n1_0 - n1_1 := by omega
  go_enter Try.func4, Try.ntmps4
  have B : Below w.heap.size w w := Below.refl _ _
  go_wp2_with fail
  refine absW ?_
  intro w1 hw
  have hb : Below w.heap.size w w1 := by rw [hw]; exact (by repeat' (first | assumption | exact Below.refl _ _ | refine Below.drew ?_ | refine Below.alloc ?_ (by first | omega | (simp; done) | (simp; omega)) _))
  have e0_0 : w1.cell? ⟨w.heap.size, 0, none⟩ = some (.slice A0_0 n0_0 c0_0) := by rw [hw]; simp
  have e0_1 : w1.cell? ⟨w.heap.size, 1, none⟩ = some (.slice A0_1 n0_1 c0_1) := by rw [hw]; simp
  have e1_0 : w1.cell? ⟨w.heap.size + 1, 0, none⟩ = some (.slice A1_0 n1_0 c1_0) := by rw [hw]; simp
  have e1_1 : w1.cell? ⟨w.heap.size + 1, 1, none⟩ = some (.slice A1_1 n1_1 c1_1) := by rw [hw]; simp
  have yw1_e0_0 : w.heap.size < w1.heap.size := World.block_lt_of_cell? _ _ e0_0
  have yw1_e1_0 : w.heap.size + 1 < w1.heap.size := World.block_lt_of_cell? _ _ e1_0
  clear hw
  replace B := bel2 B hb
  have zw1 := hb.size
  clear hb
  refine (szChain _ _ M0_0 M0_1 (by omega) (by omega)).mono ?_
  rintro e w2 ⟨rfl, hb⟩
  rw [S0.out]
  replace e0_0 := cellB e0_0 hb
  replace e0_1 := cellB e0_1 hb
  replace e1_0 := cellB e1_0 hb
  replace e1_1 := cellB e1_1 hb
  replace B := bel2 B hb
  have zw2 := hb.size
  clear hb
  go_wp2_with fail
  refine absW ?_
  intro w3 hw
  have hb : Below w2.heap.size w2 w3 := by rw [hw]; exact (by repeat' (first | assumption | exact Below.refl _ _ | refine Below.drew ?_ | refine Below.alloc ?_ (by first | omega | (simp; done) | (simp; omega)) _))
  clear hw
  replace e0_0 := cellB e0_0 hb
  replace e0_1 := cellB e0_1 hb
  replace e1_0 := cellB e1_0 hb
  replace e1_1 := cellB e1_1 hb
  replace B := bel2 B hb
  have zw3 := hb.size
  clear hb
  refine (szChain _ _ M1_0 M1_1 (by omega) (by omega)).mono ?_
  rintro e w4 ⟨rfl, hb⟩
  rw [S1.out]
  replace e0_0 := cellB e0_0 hb
  replace e0_1 := cellB e0_1 hb
  replace e1_0 := cellB e1_0 hb
  replace e1_1 := cellB e1_1 hb
  replace B := bel2 B hb
  have zw4 := hb.size
  clear hb
  go_wp2_with fail
  go_region_held3 (fun w' => w'.cell? ⟨w.heap.size, 0, none⟩ = some (.slice A0_0 n0_0 c0_0) ∧ w'.cell? ⟨w.heap.size, 1, none⟩ = some (.slice A0_1 n0_1 c0_1) ∧ w'.cell? ⟨w.heap.size + 1, 0, none⟩ = some (.slice A1_0 n1_0 c1_0) ∧ w'.cell? ⟨w.heap.size + 1, 1, none⟩ = some (.slice A1_1 n1_1 c1_1) ∧ Below w4.heap.size w4 w')
    ((go_split_ands; and_intros <;> (first | assumption | exact cellB (by assumption) hbx | exact bel2 (by assumption) hbx | exact (Below.refl _ _).drew)))
    (first
      | (go_at_call_of 21 (Value.slice A0_0 n0_0 c0_0); go_split_ands; (first | refine (toChain _ (rdB r0_0 (bel2 B (by assumption))) l0_0.out (rdB r0_1 (bel2 B (by assumption))) l0_1.out m0_0 m0_1).mono ?_); rintro e w' ⟨vs_0_0, vs_0_1, ds_0, rfl, os_0_0, os_0_1, uds_0_1, uds_0_2, hbx⟩; obtain ⟨As_0_0, cs_0_0, rfl, _, _⟩ := os_0_0.form; obtain ⟨As_0_1, cs_0_1, rfl, _, _⟩ := os_0_1.form)
      | (go_at_call_of 21 (Value.slice A1_0 n1_0 c1_0); go_split_ands; (first | refine (toChain _ (rdB r1_0 (bel2 B (by assumption))) l1_0.out (rdB r1_1 (bel2 B (by assumption))) l1_1.out m1_0 m1_1).mono ?_); rintro e w' ⟨vs_1_0, vs_1_1, ds_1, rfl, os_1_0, os_1_1, uds_1_1, uds_1_2, hbx⟩; replace os_0_0 := os_0_0.bel hbx; replace os_0_1 := os_0_1.bel hbx; obtain ⟨As_1_0, cs_1_0, rfl, _, _⟩ := os_1_0.form; obtain ⟨As_1_1, cs_1_1, rfl, _, _⟩ := os_1_1.form)
      | (go_at_call 20; go_split_ands; (first | refine (sSameCh _ os_0_0.reads os_0_1.reads os_1_0.reads os_1_1.reads l0_0.out l0_1.out l1_0.out l1_1.out M0_0 M0_1 M1_0 M1_1).mono ?_); rintro e w' ⟨rfl, hbx⟩; replace os_0_0 := os_0_0.bel hbx; replace os_0_1 := os_0_1.bel hbx; replace os_1_0 := os_1_0.bel hbx; replace os_1_1 := os_1_1.bel hbx)
    )
  have hb : Below w4.heap.size w4 w' := by go_split_ands; assumption
  obtain ⟨w5, hw⟩ : ∃ w5, w5 = w' := ⟨_, rfl⟩
  subst hw
  replace e0_0 := cellB e0_0 hb
  replace e0_1 := cellB e0_1 hb
  replace e1_0 := cellB e1_0 hb
  replace e1_1 := cellB e1_1 hb
  replace B := bel2 B hb
  have zw5 := hb.size
  clear hb
  clear os_0_0
  clear os_0_1
  clear os_1_0
  clear os_1_1
  go_wp2_with fail
  refine absW ?_
  intro w6 hw
  have hb : Below w5.heap.size w5 w6 := by rw [hw]; exact (by repeat' (first | assumption | exact Below.refl _ _ | refine Below.drew ?_ | refine Below.alloc ?_ (by first | omega | (simp; done) | (simp; omega)) _))
  clear hw
  replace e0_0 := cellB e0_0 hb
  replace e0_1 := cellB e0_1 hb
  replace e1_0 := cellB e1_0 hb
  replace e1_1 := cellB e1_1 hb
  replace B := bel2 B hb
  have zw6 := hb.size
  clear hb
  refine (toChain _ (rdB r0_0 B) l0_0.out (rdB r0_1 B) l0_1.out m0_0 m0_1).mono ?_
  rintro e w7 ⟨vx_0_0, vx_0_1, dx_0, rfl, ox_0_0, ox_0_1, udx_0_1, udx_0_2, hb⟩
  replace e0_0 := cellB e0_0 hb
  replace e0_1 := cellB e0_1 hb
  replace e1_0 := cellB e1_0 hb
  replace e1_1 := cellB e1_1 hb
  replace B := bel2 B hb
  have zw7 := hb.size
  clear hb
  obtain ⟨Ax_0_0, cx_0_0, rfl, _, _⟩ := ox_0_0.form
  obtain ⟨Ax_0_1, cx_0_1, rfl, _, _⟩ := ox_0_1.form
  have j1_0 := fun (X0 : Obj) => (cellA e0_0 X0)
  have j1_1 := fun (X0 : Obj) => (cellA e0_1 X0)
  have j1_2 := fun (X0 : Obj) => (cellA e1_0 X0)
  have j1_3 := fun (X0 : Obj) => (cellA e1_1 X0)
  go_wp2_with fail
  refine absW ?_
  intro w8 hw
  have hb : Below w7.heap.size w7 w8 := by rw [hw]; exact (by repeat' (first | assumption | exact Below.refl _ _ | refine Below.drew ?_ | refine Below.alloc ?_ (by first | omega | (simp; done) | (simp; omega)) _))
  have ex_0_0 : w8.cell? ⟨w7.heap.size, 0, none⟩ = some (.slice Ax_0_0 n0_0 cx_0_0) := by rw [hw]; simp
  have ex_0_1 : w8.cell? ⟨w7.heap.size, 1, none⟩ = some (.slice Ax_0_1 n0_1 cx_0_1) := by rw [hw]; simp
  have yw8_ex_0_0 : w7.heap.size < w8.heap.size := World.block_lt_of_cell? _ _ ex_0_0
  clear hw j1_0 j1_1 j1_2 j1_3
  replace e0_0 := cellB e0_0 hb
  replace e0_1 := cellB e0_1 hb
  replace e1_0 := cellB e1_0 hb
  replace e1_1 := cellB e1_1 hb
  replace ox_0_0 := ox_0_0.bel hb
  replace ox_0_1 := ox_0_1.bel hb
  replace B := bel2 B hb
  have zw8 := hb.size
  clear hb
  refine (toChain _ (rdB r1_0 B) l1_0.out (rdB r1_1 B) l1_1.out m1_0 m1_1).mono ?_
  rintro e w9 ⟨vx_1_0, vx_1_1, dx_1, rfl, ox_1_0, ox_1_1, udx_1_1, udx_1_2, hb⟩
  replace e0_0 := cellB e0_0 hb
  replace e0_1 := cellB e0_1 hb
  replace e1_0 := cellB e1_0 hb
  replace e1_1 := cellB e1_1 hb
  replace ex_0_0 := cellB ex_0_0 hb
  replace ex_0_1 := cellB ex_0_1 hb
  replace ox_0_0 := ox_0_0.bel hb
  replace ox_0_1 := ox_0_1.bel hb
  replace B := bel2 B hb
  have zw9 := hb.size
  clear hb
  obtain ⟨Ax_1_0, cx_1_0, rfl, _, _⟩ := ox_1_0.form
  obtain ⟨Ax_1_1, cx_1_1, rfl, _, _⟩ := ox_1_1.form
  have j1_0 := fun (X0 : Obj) => (cellA e0_0 X0)
  have j1_1 := fun (X0 : Obj) => (cellA e0_1 X0)
  have j1_2 := fun (X0 : Obj) => (cellA e1_0 X0)
  have j1_3 := fun (X0 : Obj) => (cellA e1_1 X0)
  have j1_4 := fun (X0 : Obj) => (cellA ex_0_0 X0)
  have j1_5 := fun (X0 : Obj) => (cellA ex_0_1 X0)
  go_wp2_with fail
  refine absW ?_
  intro w10 hw
  have hb : Below w9.heap.size w9 w10 := by rw [hw]; exact (by repeat' (first | assumption | exact Below.refl _ _ | refine Below.drew ?_ | refine Below.alloc ?_ (by first | omega | (simp; done) | (simp; omega)) _))
  have ex_1_0 : w10.cell? ⟨w9.heap.size, 0, none⟩ = some (.slice Ax_1_0 n1_0 cx_1_0) := by rw [hw]; simp
  have ex_1_1 : w10.cell? ⟨w9.heap.size, 1, none⟩ = some (.slice Ax_1_1 n1_1 cx_1_1) := by rw [hw]; simp
  have yw10_ex_1_0 : w9.heap.size < w10.heap.size := World.block_lt_of_cell? _ _ ex_1_0
  clear hw j1_0 j1_1 j1_2 j1_3 j1_4 j1_5
  replace e0_0 := cellB e0_0 hb
  replace e0_1 := cellB e0_1 hb
  replace e1_0 := cellB e1_0 hb
  replace e1_1 := cellB e1_1 hb
  replace ex_0_0 := cellB ex_0_0 hb
  replace ex_0_1 := cellB ex_0_1 hb
  replace ox_0_0 := ox_0_0.bel hb
  replace ox_0_1 := ox_0_1.bel hb
  replace ox_1_0 := ox_1_0.bel hb
  replace ox_1_1 := ox_1_1.bel hb
  replace B := bel2 B hb
  have zw10 := hb.size
  clear hb
  refine (iSameCh _ ox_0_0.reads ox_0_1.reads ox_1_0.reads ox_1_1.reads l0_0.out l0_1.out l1_0.out l1_1.out M0_0 M0_1 M1_0 M1_1).mono ?_
  rintro e w11 ⟨rfl, hb⟩
  replace e0_0 := cellB e0_0 hb
  replace e0_1 := cellB e0_1 hb
  replace e1_0 := cellB e1_0 hb
  replace e1_1 := cellB e1_1 hb
  replace ex_0_0 := cellB ex_0_0 hb
  replace ex_0_1 := cellB ex_0_1 hb
  replace ex_1_0 := cellB ex_1_0 hb
  replace ex_1_1 := cellB ex_1_1 hb
  replace ox_0_0 := ox_0_0.bel hb
  replace ox_0_1 := ox_0_1.bel hb
  replace ox_1_0 := ox_1_0.bel hb
  replace ox_1_1 := ox_1_1.bel hb
  replace B := bel2 B hb
  have zw11 := hb.size
  clear hb
  go_wp2_with fail
  go_region_held3 (fun w' => w'.cell? ⟨w.heap.size, 0, none⟩ = some (.slice A0_0 n0_0 c0_0) ∧ w'.cell? ⟨w.heap.size, 1, none⟩ = some (.slice A0_1 n0_1 c0_1) ∧ w'.cell? ⟨w.heap.size + 1, 0, none⟩ = some (.slice A1_0 n1_0 c1_0) ∧ w'.cell? ⟨w.heap.size + 1, 1, none⟩ = some (.slice A1_1 n1_1 c1_1) ∧ w'.cell? ⟨w7.heap.size, 0, none⟩ = some (.slice Ax_0_0 n0_0 cx_0_0) ∧ w'.cell? ⟨w7.heap.size, 1, none⟩ = some (.slice Ax_0_1 n0_1 cx_0_1) ∧ w'.cell? ⟨w9.heap.size, 0, none⟩ = some (.slice Ax_1_0 n1_0 cx_1_0) ∧ w'.cell? ⟨w9.heap.size, 1, none⟩ = some (.slice Ax_1_1 n1_1 cx_1_1) ∧ Below w11.heap.size w11 w')
    ((go_split_ands; and_intros <;> (first | assumption | exact cellB (by assumption) hbx | exact bel2 (by assumption) hbx | exact (Below.refl _ _).drew)))
    (first
      | (go_at_call_of 21 (Value.slice A0_0 n0_0 c0_0); go_split_ands; (first | refine (toChain _ (rdB r0_0 (bel2 B (by assumption))) l0_0.out (rdB r0_1 (bel2 B (by assumption))) l0_1.out m0_0 m0_1).mono ?_); rintro e w' ⟨vz_0_0, vz_0_1, dz_0, rfl, oz_0_0, oz_0_1, udz_0_1, udz_0_2, hbx⟩; obtain ⟨Az_0_0, cz_0_0, rfl, _, _⟩ := oz_0_0.form; obtain ⟨Az_0_1, cz_0_1, rfl, _, _⟩ := oz_0_1.form)
      | (go_at_call 23; go_split_ands; (first | refine (eqChain _ (Own.reads (Own.bel ox_0_0 (by assumption))) oz_0_0.reads (Own.reads (Own.bel ox_0_1 (by assumption))) oz_0_1.reads l0_0.out M0_0 l0_1.out M0_1).mono ?_); rintro e w' ⟨rfl, hbx⟩; replace oz_0_0 := oz_0_0.bel hbx; replace oz_0_1 := oz_0_1.bel hbx)
    )
  have hb : Below w11.heap.size w11 w' := by go_split_ands; assumption
  obtain ⟨w12, hw⟩ : ∃ w12, w12 = w' := ⟨_, rfl⟩
  subst hw
  replace e0_0 := cellB e0_0 hb
  replace e0_1 := cellB e0_1 hb
  replace e1_0 := cellB e1_0 hb
  replace e1_1 := cellB e1_1 hb
  replace ex_0_0 := cellB ex_0_0 hb
  replace ex_0_1 := cellB ex_0_1 hb
  replace ex_1_0 := cellB ex_1_0 hb
  replace ex_1_1 := cellB ex_1_1 hb
  replace ox_0_0 := ox_0_0.bel hb
  replace ox_0_1 := ox_0_1.bel hb
  replace ox_1_0 := ox_1_0.bel hb
  replace ox_1_1 := ox_1_1.bel hb
  replace B := bel2 B hb
  have zw12 := hb.size
  clear hb
  clear oz_0_0
  clear oz_0_1
  go_wp2_with fail
  go_region_held3 (fun w' => w'.cell? ⟨w.heap.size, 0, none⟩ = some (.slice A0_0 n0_0 c0_0) ∧ w'.cell? ⟨w.heap.size, 1, none⟩ = some (.slice A0_1 n0_1 c0_1) ∧ w'.cell? ⟨w.heap.size + 1, 0, none⟩ = some (.slice A1_0 n1_0 c1_0) ∧ w'.cell? ⟨w.heap.size + 1, 1, none⟩ = some (.slice A1_1 n1_1 c1_1) ∧ w'.cell? ⟨w7.heap.size, 0, none⟩ = some (.slice Ax_0_0 n0_0 cx_0_0) ∧ w'.cell? ⟨w7.heap.size, 1, none⟩ = some (.slice Ax_0_1 n0_1 cx_0_1) ∧ w'.cell? ⟨w9.heap.size, 0, none⟩ = some (.slice Ax_1_0 n1_0 cx_1_0) ∧ w'.cell? ⟨w9.heap.size, 1, none⟩ = some (.slice Ax_1_1 n1_1 cx_1_1) ∧ Below w12.heap.size w12 w')
    ((go_split_ands; and_intros <;> (first | assumption | exact cellB (by assumption) hbx | exact bel2 (by assumption) hbx | exact (Below.refl _ _).drew)))
    (first
      | (go_at_call_of 21 (Value.slice A1_0 n1_0 c1_0); go_split_ands; (first | refine (toChain _ (rdB r1_0 (bel2 B (by assumption))) l1_0.out (rdB r1_1 (bel2 B (by assumption))) l1_1.out m1_0 m1_1).mono ?_); rintro e w' ⟨vz_1_0, vz_1_1, dz_1, rfl, oz_1_0, oz_1_1, udz_1_1, udz_1_2, hbx⟩; obtain ⟨Az_1_0, cz_1_0, rfl, _, _⟩ := oz_1_0.form; obtain ⟨Az_1_1, cz_1_1, rfl, _, _⟩ := oz_1_1.form)
      | (go_at_call 23; go_split_ands; (first | refine (eqChain _ (Own.reads (Own.bel ox_1_0 (by assumption))) oz_1_0.reads (Own.reads (Own.bel ox_1_1 (by assumption))) oz_1_1.reads l1_0.out M1_0 l1_1.out M1_1).mono ?_); rintro e w' ⟨rfl, hbx⟩; replace oz_1_0 := oz_1_0.bel hbx; replace oz_1_1 := oz_1_1.bel hbx)
    )
  have hb : Below w12.heap.size w12 w' := by go_split_ands; assumption
  obtain ⟨w13, hw⟩ : ∃ w13, w13 = w' := ⟨_, rfl⟩
  subst hw
  replace e0_0 := cellB e0_0 hb
  replace e0_1 := cellB e0_1 hb
  replace e1_0 := cellB e1_0 hb
  replace e1_1 := cellB e1_1 hb
  replace ex_0_0 := cellB ex_0_0 hb
  replace ex_0_1 := cellB ex_0_1 hb
  replace ex_1_0 := cellB ex_1_0 hb
  replace ex_1_1 := cellB ex_1_1 hb
  replace ox_0_0 := ox_0_0.bel hb
  replace ox_0_1 := ox_0_1.bel hb
  replace ox_1_0 := ox_1_0.bel hb
  replace ox_1_1 := ox_1_1.bel hb
  replace B := bel2 B hb
  have zw13 := hb.size
  clear hb
  clear oz_1_0
  clear oz_1_1
  go_wp2
  go_ret
  exact ⟨rfl, bel2 B (by repeat' (first | assumption | exact Below.refl _ _ | refine Below.drew ?_ | refine Below.alloc ?_ (by first | omega | (simp; done) | (simp; omega)) _))⟩
end Go.Proofs.Ytndodfolpjkppaa
