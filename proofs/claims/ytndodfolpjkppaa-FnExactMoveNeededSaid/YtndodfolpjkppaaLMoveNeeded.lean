/- The walk of the law FnExactMoveNeeded. No condition. -/
import Derived.Test.YtndodfolpjkppaaChainT
import Derived.Deep.RegionHeld3
namespace Go.Proofs.Ytndodfolpjkppaa
open Go.RowKit
set_option linter.unusedVariables false

set_option maxRecDepth 100000 in
set_option maxHeartbeats 3200000 in
theorem lMoveNeeded {A0_0 : Option Addr} {n0_0 c0_0 : Nat} {x0_0 : List Int} {A0_1 : Option Addr} {n0_1 c0_1 : Nat} {x0_1 : List Int} {a1 : Int} (w : World) (h0_0 : IntRow w A0_0 n0_0 c0_0 x0_0) (h0_1 : IntRow w A0_1 n0_1 c0_1 x0_1) (wa1 : inI a1) :
    Calls Try.prog 11 #[.agg #[.slice A0_0 n0_0 c0_0, .slice A0_1 n0_1 c0_1], .int .i64 a1] w fun e w' => e = .returned (.bool true) ∧ Below w.heap.size w w' := by
  have r0_0 := h0_0.reads; have l0_0 := Lib.hid h0_0.len; have M0_0 : n0_0 ≤ maxLen := Nat.le_trans h0_0.nc h0_0.cm
  have r0_1 := h0_1.reads; have l0_1 := Lib.hid h0_1.len; have M0_1 : n0_1 ≤ maxLen := Nat.le_trans h0_1.nc h0_1.cm
  by_cases t0 : (n0_0 : Int) + (n0_1 : Int) ≤ 1048576
  rotate_left
  · have S0 : Hid (szII n0_0 n0_1 (1048576) = -1) := by unfold Hid szII; rw [if_neg t0]
    go_enter Try.func11, Try.ntmps11
    have B : Below w.heap.size w w := Below.refl _ _
    go_wp2_with fail
    refine absW ?_
    intro w1 hw
    have hb : Below w.heap.size w w1 := by rw [hw]; exact (by repeat' (first | assumption | exact Below.refl _ _ | refine Below.drew ?_ | refine Below.alloc ?_ (by first | omega | (simp; done) | (simp; omega)) _))
    have e0_0 : w1.cell? ⟨w.heap.size, 0, none⟩ = some (.slice A0_0 n0_0 c0_0) := by rw [hw]; simp
    have e0_1 : w1.cell? ⟨w.heap.size, 1, none⟩ = some (.slice A0_1 n0_1 c0_1) := by rw [hw]; simp
    have yw1_e0_0 : w.heap.size < w1.heap.size := World.block_lt_of_cell? _ _ e0_0
    clear hw
    replace B := bel2 B hb
    have zw1 := hb.size
    clear hb
    refine (szChain _ _ M0_0 M0_1 (by omega) (by omega)).mono ?_
    rintro e w2 ⟨rfl, hb⟩
    rw [S0.out]
    replace e0_0 := cellB e0_0 hb
    replace e0_1 := cellB e0_1 hb
    replace B := bel2 B hb
    have zw2 := hb.size
    clear hb
    go_wp2
    go_ret
    exact ⟨rfl, bel2 B (by repeat' (first | assumption | exact Below.refl _ _ | refine Below.drew ?_ | refine Below.alloc ?_ (by first | omega | (simp; done) | (simp; omega)) _))⟩
  have S0 : Hid (szII n0_0 n0_1 (1048576) = 1048576 - n0_0 - n0_1) := by unfold Hid szII; rw [if_pos t0]
  have m0_0 : n0_0 ≤ 1048576 := by omega
  have m0_1 : n0_1 ≤ 1048576 := by omega
  have q0 : 0 ≤ 1048576 - n0_0 - n0_1 := by omega
  go_enter Try.func11, Try.ntmps11
  have B : Below w.heap.size w w := Below.refl _ _
  go_wp2_with fail
  refine absW ?_
  intro w1 hw
  have hb : Below w.heap.size w w1 := by rw [hw]; exact (by repeat' (first | assumption | exact Below.refl _ _ | refine Below.drew ?_ | refine Below.alloc ?_ (by first | omega | (simp; done) | (simp; omega)) _))
  have e0_0 : w1.cell? ⟨w.heap.size, 0, none⟩ = some (.slice A0_0 n0_0 c0_0) := by rw [hw]; simp
  have e0_1 : w1.cell? ⟨w.heap.size, 1, none⟩ = some (.slice A0_1 n0_1 c0_1) := by rw [hw]; simp
  have yw1_e0_0 : w.heap.size < w1.heap.size := World.block_lt_of_cell? _ _ e0_0
  clear hw
  replace B := bel2 B hb
  have zw1 := hb.size
  clear hb
  refine (szChain _ _ M0_0 M0_1 (by omega) (by omega)).mono ?_
  rintro e w2 ⟨rfl, hb⟩
  rw [S0.out]
  replace e0_0 := cellB e0_0 hb
  replace e0_1 := cellB e0_1 hb
  replace B := bel2 B hb
  have zw2 := hb.size
  clear hb
  go_wp2_with fail
  refine absW ?_
  intro w3 hw
  have hb : Below w2.heap.size w2 w3 := by rw [hw]; exact (by repeat' (first | assumption | exact Below.refl _ _ | refine Below.drew ?_ | refine Below.alloc ?_ (by first | omega | (simp; done) | (simp; omega)) _))
  clear hw
  replace e0_0 := cellB e0_0 hb
  replace e0_1 := cellB e0_1 hb
  replace B := bel2 B hb
  have zw3 := hb.size
  clear hb
  refine (toChain _ (rdB r0_0 B) l0_0.out (rdB r0_1 B) l0_1.out m0_0 m0_1).mono ?_
  rintro e w4 ⟨vs_0_0, vs_0_1, ds_0, rfl, os_0_0, os_0_1, uds_0_1, uds_0_2, hb⟩
  replace e0_0 := cellB e0_0 hb
  replace e0_1 := cellB e0_1 hb
  replace B := bel2 B hb
  have zw4 := hb.size
  clear hb
  obtain ⟨As_0_0, cs_0_0, rfl, _, _⟩ := os_0_0.form
  obtain ⟨As_0_1, cs_0_1, rfl, _, _⟩ := os_0_1.form
  go_wp2_with fail
  refine absW ?_
  intro w5 hw
  have hb : Below w4.heap.size w4 w5 := by rw [hw]; exact (by repeat' (first | assumption | exact Below.refl _ _ | refine Below.drew ?_ | refine Below.alloc ?_ (by first | omega | (simp; done) | (simp; omega)) _))
  clear hw
  replace e0_0 := cellB e0_0 hb
  replace e0_1 := cellB e0_1 hb
  replace os_0_0 := os_0_0.bel hb
  replace os_0_1 := os_0_1.bel hb
  replace B := bel2 B hb
  have zw5 := hb.size
  clear hb
  refine (sNeeded _ os_0_0.reads os_0_1.reads l0_0.out l0_1.out M0_0 M0_1).mono ?_
  rintro e w6 ⟨rfl, hb⟩
  replace e0_0 := cellB e0_0 hb
  replace e0_1 := cellB e0_1 hb
  replace os_0_0 := os_0_0.bel hb
  replace os_0_1 := os_0_1.bel hb
  replace B := bel2 B hb
  have zw6 := hb.size
  clear hb
  clear os_0_0
  clear os_0_1
  go_wp2_with fail
  refine absW ?_
  intro w7 hw
  have hb : Below w6.heap.size w6 w7 := by rw [hw]; exact (by repeat' (first | assumption | exact Below.refl _ _ | refine Below.drew ?_ | refine Below.alloc ?_ (by first | omega | (simp; done) | (simp; omega)) _))
  clear hw
  replace e0_0 := cellB e0_0 hb
  replace e0_1 := cellB e0_1 hb
  replace B := bel2 B hb
  have zw7 := hb.size
  clear hb
  refine (toChain _ (rdB r0_0 B) l0_0.out (rdB r0_1 B) l0_1.out m0_0 m0_1).mono ?_
  rintro e w8 ⟨vx_0_0, vx_0_1, dx_0, rfl, ox_0_0, ox_0_1, udx_0_1, udx_0_2, hb⟩
  replace e0_0 := cellB e0_0 hb
  replace e0_1 := cellB e0_1 hb
  replace B := bel2 B hb
  have zw8 := hb.size
  clear hb
  obtain ⟨Ax_0_0, cx_0_0, rfl, _, _⟩ := ox_0_0.form
  obtain ⟨Ax_0_1, cx_0_1, rfl, _, _⟩ := ox_0_1.form
  have j1_0 := fun (X0 : Obj) => (cellA e0_0 X0)
  have j1_1 := fun (X0 : Obj) => (cellA e0_1 X0)
  go_wp2_with fail
  refine absW ?_
  intro w9 hw
  have hb : Below w8.heap.size w8 w9 := by rw [hw]; exact (by repeat' (first | assumption | exact Below.refl _ _ | refine Below.drew ?_ | refine Below.alloc ?_ (by first | omega | (simp; done) | (simp; omega)) _))
  have ex_0_0 : w9.cell? ⟨w8.heap.size, 0, none⟩ = some (.slice Ax_0_0 n0_0 cx_0_0) := by rw [hw]; simp
  have ex_0_1 : w9.cell? ⟨w8.heap.size, 1, none⟩ = some (.slice Ax_0_1 n0_1 cx_0_1) := by rw [hw]; simp
  have yw9_ex_0_0 : w8.heap.size < w9.heap.size := World.block_lt_of_cell? _ _ ex_0_0
  clear hw j1_0 j1_1
  replace e0_0 := cellB e0_0 hb
  replace e0_1 := cellB e0_1 hb
  replace ox_0_0 := ox_0_0.bel hb
  replace ox_0_1 := ox_0_1.bel hb
  replace B := bel2 B hb
  have zw9 := hb.size
  clear hb
  refine (iNeeded _ ox_0_0.reads ox_0_1.reads l0_0.out l0_1.out M0_0 M0_1).mono ?_
  rintro e w10 ⟨rfl, hb⟩
  replace e0_0 := cellB e0_0 hb
  replace e0_1 := cellB e0_1 hb
  replace ex_0_0 := cellB ex_0_0 hb
  replace ex_0_1 := cellB ex_0_1 hb
  replace ox_0_0 := ox_0_0.bel hb
  replace ox_0_1 := ox_0_1.bel hb
  replace B := bel2 B hb
  have zw10 := hb.size
  clear hb
  go_wp2_with fail
  go_region_held3 (fun w' => w'.cell? ⟨w.heap.size, 0, none⟩ = some (.slice A0_0 n0_0 c0_0) ∧ w'.cell? ⟨w.heap.size, 1, none⟩ = some (.slice A0_1 n0_1 c0_1) ∧ w'.cell? ⟨w8.heap.size, 0, none⟩ = some (.slice Ax_0_0 n0_0 cx_0_0) ∧ w'.cell? ⟨w8.heap.size, 1, none⟩ = some (.slice Ax_0_1 n0_1 cx_0_1) ∧ Below w10.heap.size w10 w')
    ((go_split_ands; and_intros <;> (first | assumption | exact cellB (by assumption) hbx | exact bel2 (by assumption) hbx | exact (Below.refl _ _).drew)))
    (first
      | (go_at_call_of 21 (Value.slice A0_0 n0_0 c0_0); go_split_ands; (first | refine (toChain _ (rdB r0_0 (bel2 B (by assumption))) l0_0.out (rdB r0_1 (bel2 B (by assumption))) l0_1.out m0_0 m0_1).mono ?_); rintro e w' ⟨vz_0_0, vz_0_1, dz_0, rfl, oz_0_0, oz_0_1, udz_0_1, udz_0_2, hbx⟩; obtain ⟨Az_0_0, cz_0_0, rfl, _, _⟩ := oz_0_0.form; obtain ⟨Az_0_1, cz_0_1, rfl, _, _⟩ := oz_0_1.form)
      | (go_at_call 23; go_split_ands; (first | refine (eqChain _ (Own.reads (Own.bel ox_0_0 (by assumption))) oz_0_0.reads (Own.reads (Own.bel ox_0_1 (by assumption))) oz_0_1.reads l0_0.out M0_0 l0_1.out M0_1).mono ?_); rintro e w' ⟨rfl, hbx⟩; replace oz_0_0 := oz_0_0.bel hbx; replace oz_0_1 := oz_0_1.bel hbx)
    )
  have hb : Below w10.heap.size w10 w' := by go_split_ands; assumption
  obtain ⟨w11, hw⟩ : ∃ w11, w11 = w' := ⟨_, rfl⟩
  subst hw
  replace e0_0 := cellB e0_0 hb
  replace e0_1 := cellB e0_1 hb
  replace ex_0_0 := cellB ex_0_0 hb
  replace ex_0_1 := cellB ex_0_1 hb
  replace ox_0_0 := ox_0_0.bel hb
  replace ox_0_1 := ox_0_1.bel hb
  replace B := bel2 B hb
  have zw11 := hb.size
  clear hb
  clear oz_0_0
  clear oz_0_1
  go_wp2
  go_ret
  exact ⟨rfl, bel2 B (by repeat' (first | assumption | exact Below.refl _ _ | refine Below.drew ?_ | refine Below.alloc ?_ (by first | omega | (simp; done) | (simp; omega)) _))⟩
end Go.Proofs.Ytndodfolpjkppaa
