/- The walk of the law FnExactRegisterText. No condition. -/
import Derived.Test.YtlnajkimlooapaaDoorRegT
import Derived.Deep.RegionHeld3
namespace Go.Proofs.YtlnajkimlooapaaDoor
open Go.RowKit
set_option linter.unusedVariables false

set_option maxRecDepth 100000 in
set_option maxHeartbeats 3200000 in
theorem lRegisterText {b0_0 : Int} {A0_0 : Option Addr} {n0_0 c0_0 : Nat} {x0_0 : List Int} (w : World) (wb0_0 : inI b0_0) (h0_0 : IntRow w A0_0 n0_0 c0_0 x0_0) (T : Tab w) :
    Calls Tryd.prog 6 #[.agg #[.int .i64 b0_0, .slice A0_0 n0_0 c0_0]] w fun e w' => e = .returned (.bool true) ∧ Below w.heap.size w w' := by
  have r0_0 := h0_0.reads; have l0_0 := Lib.hid h0_0.len; have M0_0 : n0_0 ≤ maxLen := Nat.le_trans h0_0.nc h0_0.cm
  by_cases t0 : (n0_0 : Int) ≤ 1048576
  rotate_left
  · have S0 : Hid (szI n0_0 (1048576) = -1) := by unfold Hid szI; rw [if_neg t0]
    go_enter Tryd.func6, Tryd.ntmps6
    have B : Below w.heap.size w w := Below.refl _ _
    go_wp2_with fail
    refine absW ?_
    intro w1 hw
    have hb : Below w.heap.size w w1 := by rw [hw]; exact (by repeat' (first | assumption | exact Below.refl _ _ | refine Below.drew ?_ | refine Below.alloc ?_ (by first | omega | (simp; done) | (simp; omega)) _))
    have e0_0 : w1.cell? ⟨w.heap.size, 0, none⟩ = some (.int .i64 b0_0) := by rw [hw]; simp
    have e0_1 : w1.cell? ⟨w.heap.size, 1, none⟩ = some (.slice A0_0 n0_0 c0_0) := by rw [hw]; simp
    have yw1_e0_0 : w.heap.size < w1.heap.size := World.block_lt_of_cell? _ _ e0_0
    clear hw
    replace B := bel2 B hb
    have zw1 := hb.size
    clear hb
    refine (szRegister _ _ M0_0 (by omega) (by omega)).mono ?_
    rintro e w2 ⟨rfl, hb⟩
    rw [S0.out]
    replace e0_0 := cellB e0_0 hb
    replace e0_1 := cellB e0_1 hb
    replace B := bel2 B hb
    have zw2 := hb.size
    clear hb
    go_wp2
    go_ret
    exact ⟨rfl, bel2 B (by repeat' (first | assumption | exact Below.refl _ _ | refine Below.drew ?_ | refine Below.alloc ?_ (by first | omega | (simp; done) | (simp; omega)) _))⟩
  have S0 : Hid (szI n0_0 (1048576) = 1048576 - n0_0) := by unfold Hid szI; rw [if_pos t0]
  have m0_0 : n0_0 ≤ 1048576 := by omega
  have q0 : 0 ≤ 1048576 - n0_0 := by omega
  go_enter Tryd.func6, Tryd.ntmps6
  have B : Below w.heap.size w w := Below.refl _ _
  go_wp2_with fail
  refine absW ?_
  intro w1 hw
  have hb : Below w.heap.size w w1 := by rw [hw]; exact (by repeat' (first | assumption | exact Below.refl _ _ | refine Below.drew ?_ | refine Below.alloc ?_ (by first | omega | (simp; done) | (simp; omega)) _))
  have e0_0 : w1.cell? ⟨w.heap.size, 0, none⟩ = some (.int .i64 b0_0) := by rw [hw]; simp
  have e0_1 : w1.cell? ⟨w.heap.size, 1, none⟩ = some (.slice A0_0 n0_0 c0_0) := by rw [hw]; simp
  have yw1_e0_0 : w.heap.size < w1.heap.size := World.block_lt_of_cell? _ _ e0_0
  clear hw
  replace B := bel2 B hb
  have zw1 := hb.size
  clear hb
  refine (szRegister _ _ M0_0 (by omega) (by omega)).mono ?_
  rintro e w2 ⟨rfl, hb⟩
  rw [S0.out]
  replace e0_0 := cellB e0_0 hb
  replace e0_1 := cellB e0_1 hb
  replace B := bel2 B hb
  have zw2 := hb.size
  clear hb
  go_wp2_with fail
  refine absW ?_
  intro w3 hw
  have hb : Below w2.heap.size w2 w3 := by rw [hw]; exact (by repeat' (first | assumption | exact Below.refl _ _ | refine Below.drew ?_ | refine Below.alloc ?_ (by first | omega | (simp; done) | (simp; omega)) _))
  clear hw
  replace e0_0 := cellB e0_0 hb
  replace e0_1 := cellB e0_1 hb
  replace B := bel2 B hb
  have zw3 := hb.size
  clear hb
  refine (toRegister _ (rdB r0_0 B) l0_0.out m0_0).mono ?_
  rintro e w4 ⟨vs_0_0, rfl, os_0_0, hb⟩
  replace e0_0 := cellB e0_0 hb
  replace e0_1 := cellB e0_1 hb
  replace B := bel2 B hb
  have zw4 := hb.size
  clear hb
  obtain ⟨As_0_0, cs_0_0, rfl, _, _⟩ := os_0_0.form
  go_wp2_with fail
  refine absW ?_
  intro w5 hw
  have hb : Below w4.heap.size w4 w5 := by rw [hw]; exact (by repeat' (first | assumption | exact Below.refl _ _ | refine Below.drew ?_ | refine Below.alloc ?_ (by first | omega | (simp; done) | (simp; omega)) _))
  clear hw
  replace e0_0 := cellB e0_0 hb
  replace e0_1 := cellB e0_1 hb
  replace os_0_0 := os_0_0.bel hb
  replace B := bel2 B hb
  have zw5 := hb.size
  clear hb
  refine (sRegText _ os_0_0.reads l0_0.out M0_0).mono ?_
  rintro e w6 ⟨rfl, hb⟩
  replace e0_0 := cellB e0_0 hb
  replace e0_1 := cellB e0_1 hb
  replace os_0_0 := os_0_0.bel hb
  replace B := bel2 B hb
  have zw6 := hb.size
  clear hb
  clear os_0_0
  go_wp2_with fail
  refine absW ?_
  intro w7 hw
  have hb : Below w6.heap.size w6 w7 := by rw [hw]; exact (by repeat' (first | assumption | exact Below.refl _ _ | refine Below.drew ?_ | refine Below.alloc ?_ (by first | omega | (simp; done) | (simp; omega)) _))
  clear hw
  replace e0_0 := cellB e0_0 hb
  replace e0_1 := cellB e0_1 hb
  replace B := bel2 B hb
  have zw7 := hb.size
  clear hb
  refine (toRegister _ (rdB r0_0 B) l0_0.out m0_0).mono ?_
  rintro e w8 ⟨vx_0_0, rfl, ox_0_0, hb⟩
  replace e0_0 := cellB e0_0 hb
  replace e0_1 := cellB e0_1 hb
  replace B := bel2 B hb
  have zw8 := hb.size
  clear hb
  obtain ⟨Ax_0_0, cx_0_0, rfl, _, _⟩ := ox_0_0.form
  have j1_0 := fun (X0 : Obj) => (cellA e0_0 X0)
  have j1_1 := fun (X0 : Obj) => (cellA e0_1 X0)
  go_wp2_with fail
  refine absW ?_
  intro w9 hw
  have hb : Below w8.heap.size w8 w9 := by rw [hw]; exact (by repeat' (first | assumption | exact Below.refl _ _ | refine Below.drew ?_ | refine Below.alloc ?_ (by first | omega | (simp; done) | (simp; omega)) _))
  have ex_0_0 : w9.cell? ⟨w8.heap.size, 0, none⟩ = some (.int .i64 b0_0) := by rw [hw]; simp
  have ex_0_1 : w9.cell? ⟨w8.heap.size, 1, none⟩ = some (.slice Ax_0_0 n0_0 cx_0_0) := by rw [hw]; simp
  have yw9_ex_0_0 : w8.heap.size < w9.heap.size := World.block_lt_of_cell? _ _ ex_0_0
  clear hw j1_0 j1_1
  replace e0_0 := cellB e0_0 hb
  replace e0_1 := cellB e0_1 hb
  replace ox_0_0 := ox_0_0.bel hb
  replace B := bel2 B hb
  have zw9 := hb.size
  clear hb
  refine (iRegText _ ox_0_0.reads l0_0.out M0_0 (T.bel B)).mono ?_
  rintro e w10 ⟨rfl, hb⟩
  replace e0_0 := cellB e0_0 hb
  replace e0_1 := cellB e0_1 hb
  replace ex_0_0 := cellB ex_0_0 hb
  replace ex_0_1 := cellB ex_0_1 hb
  replace ox_0_0 := ox_0_0.bel hb
  replace B := bel2 B hb
  have zw10 := hb.size
  clear hb
  go_wp2_with fail
  go_region_held3 (fun w' => w'.cell? ⟨w.heap.size, 0, none⟩ = some (.int .i64 b0_0) ∧ w'.cell? ⟨w.heap.size, 1, none⟩ = some (.slice A0_0 n0_0 c0_0) ∧ w'.cell? ⟨w8.heap.size, 0, none⟩ = some (.int .i64 b0_0) ∧ w'.cell? ⟨w8.heap.size, 1, none⟩ = some (.slice Ax_0_0 n0_0 cx_0_0) ∧ Below w10.heap.size w10 w')
    ((go_split_ands; and_intros <;> (first | assumption | exact cellB (by assumption) hbx | exact bel2 (by assumption) hbx | exact (Below.refl _ _).drew)))
    (first
      | (go_at_call_of 17 (Value.slice A0_0 n0_0 c0_0); go_split_ands; (first | refine (toRegister _ (rdB r0_0 (bel2 B (by assumption))) l0_0.out m0_0).mono ?_); rintro e w' ⟨vz_0_0, rfl, oz_0_0, hbx⟩; obtain ⟨Az_0_0, cz_0_0, rfl, _, _⟩ := oz_0_0.form)
      | (go_at_call 19; go_split_ands; (first | refine (eqRegister _ (Own.reads (Own.bel ox_0_0 (by assumption))) oz_0_0.reads l0_0.out M0_0).mono ?_); rintro e w' ⟨rfl, hbx⟩; replace oz_0_0 := oz_0_0.bel hbx)
    )
  have hb : Below w10.heap.size w10 w' := by go_split_ands; assumption
  obtain ⟨w11, hw⟩ : ∃ w11, w11 = w' := ⟨_, rfl⟩
  subst hw
  replace e0_0 := cellB e0_0 hb
  replace e0_1 := cellB e0_1 hb
  replace ex_0_0 := cellB ex_0_0 hb
  replace ex_0_1 := cellB ex_0_1 hb
  replace ox_0_0 := ox_0_0.bel hb
  replace B := bel2 B hb
  have zw11 := hb.size
  clear hb
  clear oz_0_0
  go_wp2
  go_ret
  exact ⟨rfl, bel2 B (by repeat' (first | assumption | exact Below.refl _ _ | refine Below.drew ?_ | refine Below.alloc ?_ (by first | omega | (simp; done) | (simp; omega)) _))⟩
end Go.Proofs.YtlnajkimlooapaaDoor
