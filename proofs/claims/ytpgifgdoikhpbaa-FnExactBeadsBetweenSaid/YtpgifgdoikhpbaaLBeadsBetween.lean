/- The walk of the law FnExactBeadsBetween. No condition. -/
import Derived.Test.YtpgifgdoikhpbaaBtwAba
import Derived.Deep.RegionHeld3
namespace Go.Proofs.Ytpgifgdoikhpbaa
open Go.RowKit
set_option linter.unusedVariables false

set_option maxRecDepth 100000 in
set_option maxHeartbeats 3200000 in
theorem lBeadsBetween {b0_0 : Int} {b0_1 : Int} {b0_2 : Int} {A0_0 : Option Addr} {n0_0 c0_0 : Nat} {x0_0 : List (Int × Int)} {b1_0 : Int} {b1_1 : Int} {b1_2 : Int} {A1_0 : Option Addr} {n1_0 c1_0 : Nat} {x1_0 : List (Int × Int)} (w : World) (wb0_0 : inI b0_0) (wb0_1 : inI b0_1) (wb0_2 : inI b0_2) (h0_0 : PairRow w A0_0 n0_0 c0_0 x0_0) (wb1_0 : inI b1_0) (wb1_1 : inI b1_1) (wb1_2 : inI b1_2) (h1_0 : PairRow w A1_0 n1_0 c1_0 x1_0) :
    Calls Try.prog 6 #[.agg #[.int .i64 b0_0, .int .i64 b0_1, .int .i64 b0_2, .slice A0_0 n0_0 c0_0], .agg #[.int .i64 b1_0, .int .i64 b1_1, .int .i64 b1_2, .slice A1_0 n1_0 c1_0]] w fun e w' => e = .returned (.bool true) ∧ Below w.heap.size w w' := by
  have r0_0 := h0_0.reads; have l0_0 := Lib.hid h0_0.len; have M0_0 : n0_0 ≤ maxLen := Nat.le_trans h0_0.nc h0_0.cm
  have r1_0 := h1_0.reads; have l1_0 := Lib.hid h1_0.len; have M1_0 : n1_0 ≤ maxLen := Nat.le_trans h1_0.nc h1_0.cm
  by_cases t0 : (n0_0 : Int) ≤ 1048576
  rotate_left
  · have S0 : Hid (szI n0_0 (1048576) = -1) := by unfold Hid szI; rw [if_neg t0]
    go_enter Try.func6, Try.ntmps6
    have B : Below w.heap.size w w := Below.refl _ _
    go_wp2_with fail
    refine absW ?_
    intro w1 hw
    have hb : Below w.heap.size w w1 := by rw [hw]; exact (by repeat' (first | assumption | exact Below.refl _ _ | refine Below.drew ?_ | refine Below.alloc ?_ (by first | omega | (simp; done) | (simp; omega)) _))
    have e0_0 : w1.cell? ⟨w.heap.size, 0, none⟩ = some (.int .i64 b0_0) := by rw [hw]; simp
    have e0_1 : w1.cell? ⟨w.heap.size, 1, none⟩ = some (.int .i64 b0_1) := by rw [hw]; simp
    have e0_2 : w1.cell? ⟨w.heap.size, 2, none⟩ = some (.int .i64 b0_2) := by rw [hw]; simp
    have e0_3 : w1.cell? ⟨w.heap.size, 3, none⟩ = some (.slice A0_0 n0_0 c0_0) := by rw [hw]; simp
    have e1_0 : w1.cell? ⟨w.heap.size + 1, 0, none⟩ = some (.int .i64 b1_0) := by rw [hw]; simp
    have e1_1 : w1.cell? ⟨w.heap.size + 1, 1, none⟩ = some (.int .i64 b1_1) := by rw [hw]; simp
    have e1_2 : w1.cell? ⟨w.heap.size + 1, 2, none⟩ = some (.int .i64 b1_2) := by rw [hw]; simp
    have e1_3 : w1.cell? ⟨w.heap.size + 1, 3, none⟩ = some (.slice A1_0 n1_0 c1_0) := by rw [hw]; simp
    have yw1_e0_0 : w.heap.size < w1.heap.size := World.block_lt_of_cell? _ _ e0_0
    have yw1_e1_0 : w.heap.size + 1 < w1.heap.size := World.block_lt_of_cell? _ _ e1_0
    clear hw
    replace B := bel2 B hb
    have zw1 := hb.size
    clear hb
    refine (szAbacus _ _ M0_0 (by omega) (by omega)).mono ?_
    rintro e w2 ⟨rfl, hb⟩
    rw [S0.out]
    replace e0_0 := cellB e0_0 hb
    replace e0_1 := cellB e0_1 hb
    replace e0_2 := cellB e0_2 hb
    replace e0_3 := cellB e0_3 hb
    replace e1_0 := cellB e1_0 hb
    replace e1_1 := cellB e1_1 hb
    replace e1_2 := cellB e1_2 hb
    replace e1_3 := cellB e1_3 hb
    replace B := bel2 B hb
    have zw2 := hb.size
    clear hb
    go_wp2
    go_ret
    exact ⟨rfl, bel2 B (by repeat' (first | assumption | exact Below.refl _ _ | refine Below.drew ?_ | refine Below.alloc ?_ (by first | omega | (simp; done) | (simp; omega)) _))⟩
  have S0 : Hid (szI n0_0 (1048576) = 1048576 - n0_0) := by unfold Hid szI; rw [if_pos t0]
  have m0_0 : n0_0 ≤ 1048576 := by omega
  have q0 : 0 ≤ 1048576 - n0_0 := by omega
  by_cases t1 : (n1_0 : Int) ≤ 1048576 - n0_0
  rotate_left
  · have S1 : Hid (szI n1_0 (1048576 - n0_0) = -1) := by unfold Hid szI; rw [if_neg t1]
    go_enter Try.func6, Try.ntmps6
    have B : Below w.heap.size w w := Below.refl _ _
    go_wp2_with fail
    refine absW ?_
    intro w1 hw
    have hb : Below w.heap.size w w1 := by rw [hw]; exact (by repeat' (first | assumption | exact Below.refl _ _ | refine Below.drew ?_ | refine Below.alloc ?_ (by first | omega | (simp; done) | (simp; omega)) _))
    have e0_0 : w1.cell? ⟨w.heap.size, 0, none⟩ = some (.int .i64 b0_0) := by rw [hw]; simp
    have e0_1 : w1.cell? ⟨w.heap.size, 1, none⟩ = some (.int .i64 b0_1) := by rw [hw]; simp
    have e0_2 : w1.cell? ⟨w.heap.size, 2, none⟩ = some (.int .i64 b0_2) := by rw [hw]; simp
    have e0_3 : w1.cell? ⟨w.heap.size, 3, none⟩ = some (.slice A0_0 n0_0 c0_0) := by rw [hw]; simp
    have e1_0 : w1.cell? ⟨w.heap.size + 1, 0, none⟩ = some (.int .i64 b1_0) := by rw [hw]; simp
    have e1_1 : w1.cell? ⟨w.heap.size + 1, 1, none⟩ = some (.int .i64 b1_1) := by rw [hw]; simp
    have e1_2 : w1.cell? ⟨w.heap.size + 1, 2, none⟩ = some (.int .i64 b1_2) := by rw [hw]; simp
    have e1_3 : w1.cell? ⟨w.heap.size + 1, 3, none⟩ = some (.slice A1_0 n1_0 c1_0) := by rw [hw]; simp
    have yw1_e0_0 : w.heap.size < w1.heap.size := World.block_lt_of_cell? _ _ e0_0
    have yw1_e1_0 : w.heap.size + 1 < w1.heap.size := World.block_lt_of_cell? _ _ e1_0
    clear hw
    replace B := bel2 B hb
    have zw1 := hb.size
    clear hb
    refine (szAbacus _ _ M0_0 (by omega) (by omega)).mono ?_
    rintro e w2 ⟨rfl, hb⟩
    rw [S0.out]
    replace e0_0 := cellB e0_0 hb
    replace e0_1 := cellB e0_1 hb
    replace e0_2 := cellB e0_2 hb
    replace e0_3 := cellB e0_3 hb
    replace e1_0 := cellB e1_0 hb
    replace e1_1 := cellB e1_1 hb
    replace e1_2 := cellB e1_2 hb
    replace e1_3 := cellB e1_3 hb
    replace B := bel2 B hb
    have zw2 := hb.size
    clear hb
    go_wp2_with fail
    refine absW ?_
    intro w3 hw
    have hb : Below w2.heap.size w2 w3 := by rw [hw]; exact (by repeat' (first | assumption | exact Below.refl _ _ | refine Below.drew ?_ | refine Below.alloc ?_ (by first | omega | (simp; done) | (simp; omega)) _))
    clear hw
    replace e0_0 := cellB e0_0 hb
    replace e0_1 := cellB e0_1 hb
    replace e0_2 := cellB e0_2 hb
    replace e0_3 := cellB e0_3 hb
    replace e1_0 := cellB e1_0 hb
    replace e1_1 := cellB e1_1 hb
    replace e1_2 := cellB e1_2 hb
    replace e1_3 := cellB e1_3 hb
    replace B := bel2 B hb
    have zw3 := hb.size
    clear hb
    refine (szAbacus _ _ M1_0 (by omega) (by omega)).mono ?_
    rintro e w4 ⟨rfl, hb⟩
    rw [S1.out]
    replace e0_0 := cellB e0_0 hb
    replace e0_1 := cellB e0_1 hb
    replace e0_2 := cellB e0_2 hb
    replace e0_3 := cellB e0_3 hb
    replace e1_0 := cellB e1_0 hb
    replace e1_1 := cellB e1_1 hb
    replace e1_2 := cellB e1_2 hb
    replace e1_3 := cellB e1_3 hb
    replace B := bel2 B hb
    have zw4 := hb.size
    clear hb
    go_wp2
    go_ret
    exact ⟨rfl, bel2 B (by repeat' (first | assumption | exact Below.refl _ _ | refine Below.drew ?_ | refine Below.alloc ?_ (by first | omega | (simp; done) | (simp; omega)) _))⟩
  have S1 : Hid (szI n1_0 (1048576 - n0_0) = 1048576 - n0_0 - n1_0) := by unfold Hid szI; rw [if_pos t1]
  have m1_0 : n1_0 ≤ 1048576 := by omega
  have q1 : 0 ≤ 1048576 - n0_0 - n1_0 := by omega
  go_enter Try.func6, Try.ntmps6
  have B : Below w.heap.size w w := Below.refl _ _
  go_wp2_with fail
  refine absW ?_
  intro w1 hw
  have hb : Below w.heap.size w w1 := by rw [hw]; exact (by repeat' (first | assumption | exact Below.refl _ _ | refine Below.drew ?_ | refine Below.alloc ?_ (by first | omega | (simp; done) | (simp; omega)) _))
  have e0_0 : w1.cell? ⟨w.heap.size, 0, none⟩ = some (.int .i64 b0_0) := by rw [hw]; simp
  have e0_1 : w1.cell? ⟨w.heap.size, 1, none⟩ = some (.int .i64 b0_1) := by rw [hw]; simp
  have e0_2 : w1.cell? ⟨w.heap.size, 2, none⟩ = some (.int .i64 b0_2) := by rw [hw]; simp
  have e0_3 : w1.cell? ⟨w.heap.size, 3, none⟩ = some (.slice A0_0 n0_0 c0_0) := by rw [hw]; simp
  have e1_0 : w1.cell? ⟨w.heap.size + 1, 0, none⟩ = some (.int .i64 b1_0) := by rw [hw]; simp
  have e1_1 : w1.cell? ⟨w.heap.size + 1, 1, none⟩ = some (.int .i64 b1_1) := by rw [hw]; simp
  have e1_2 : w1.cell? ⟨w.heap.size + 1, 2, none⟩ = some (.int .i64 b1_2) := by rw [hw]; simp
  have e1_3 : w1.cell? ⟨w.heap.size + 1, 3, none⟩ = some (.slice A1_0 n1_0 c1_0) := by rw [hw]; simp
  have yw1_e0_0 : w.heap.size < w1.heap.size := World.block_lt_of_cell? _ _ e0_0
  have yw1_e1_0 : w.heap.size + 1 < w1.heap.size := World.block_lt_of_cell? _ _ e1_0
  clear hw
  replace B := bel2 B hb
  have zw1 := hb.size
  clear hb
  refine (szAbacus _ _ M0_0 (by omega) (by omega)).mono ?_
  rintro e w2 ⟨rfl, hb⟩
  rw [S0.out]
  replace e0_0 := cellB e0_0 hb
  replace e0_1 := cellB e0_1 hb
  replace e0_2 := cellB e0_2 hb
  replace e0_3 := cellB e0_3 hb
  replace e1_0 := cellB e1_0 hb
  replace e1_1 := cellB e1_1 hb
  replace e1_2 := cellB e1_2 hb
  replace e1_3 := cellB e1_3 hb
  replace B := bel2 B hb
  have zw2 := hb.size
  clear hb
  go_wp2_with fail
  refine absW ?_
  intro w3 hw
  have hb : Below w2.heap.size w2 w3 := by rw [hw]; exact (by repeat' (first | assumption | exact Below.refl _ _ | refine Below.drew ?_ | refine Below.alloc ?_ (by first | omega | (simp; done) | (simp; omega)) _))
  clear hw
  replace e0_0 := cellB e0_0 hb
  replace e0_1 := cellB e0_1 hb
  replace e0_2 := cellB e0_2 hb
  replace e0_3 := cellB e0_3 hb
  replace e1_0 := cellB e1_0 hb
  replace e1_1 := cellB e1_1 hb
  replace e1_2 := cellB e1_2 hb
  replace e1_3 := cellB e1_3 hb
  replace B := bel2 B hb
  have zw3 := hb.size
  clear hb
  refine (szAbacus _ _ M1_0 (by omega) (by omega)).mono ?_
  rintro e w4 ⟨rfl, hb⟩
  rw [S1.out]
  replace e0_0 := cellB e0_0 hb
  replace e0_1 := cellB e0_1 hb
  replace e0_2 := cellB e0_2 hb
  replace e0_3 := cellB e0_3 hb
  replace e1_0 := cellB e1_0 hb
  replace e1_1 := cellB e1_1 hb
  replace e1_2 := cellB e1_2 hb
  replace e1_3 := cellB e1_3 hb
  replace B := bel2 B hb
  have zw4 := hb.size
  clear hb
  go_wp2_with fail
  go_region_held3 (fun w' => w'.cell? ⟨w.heap.size, 0, none⟩ = some (.int .i64 b0_0) ∧ w'.cell? ⟨w.heap.size, 1, none⟩ = some (.int .i64 b0_1) ∧ w'.cell? ⟨w.heap.size, 2, none⟩ = some (.int .i64 b0_2) ∧ w'.cell? ⟨w.heap.size, 3, none⟩ = some (.slice A0_0 n0_0 c0_0) ∧ w'.cell? ⟨w.heap.size + 1, 0, none⟩ = some (.int .i64 b1_0) ∧ w'.cell? ⟨w.heap.size + 1, 1, none⟩ = some (.int .i64 b1_1) ∧ w'.cell? ⟨w.heap.size + 1, 2, none⟩ = some (.int .i64 b1_2) ∧ w'.cell? ⟨w.heap.size + 1, 3, none⟩ = some (.slice A1_0 n1_0 c1_0) ∧ Below w4.heap.size w4 w')
    ((go_split_ands; and_intros <;> (first | assumption | exact cellB (by assumption) hbx | exact bel2 (by assumption) hbx | exact (Below.refl _ _).drew)))
    (first
      | (go_at_call_of 16 (Value.slice A0_0 n0_0 c0_0); go_split_ands; (first | refine (toAbacus _ (rdB r0_0 (bel2 B (by assumption))) l0_0.out m0_0).mono ?_); rintro e w' ⟨vs_0_0, rfl, os_0_0, hbx⟩; obtain ⟨As_0_0, cs_0_0, rfl, _, _⟩ := os_0_0.form)
      | (go_at_call_of 16 (Value.slice A1_0 n1_0 c1_0); go_split_ands; (first | refine (toAbacus _ (rdB r1_0 (bel2 B (by assumption))) l1_0.out m1_0).mono ?_); rintro e w' ⟨vs_1_0, rfl, os_1_0, hbx⟩; replace os_0_0 := os_0_0.bel hbx; obtain ⟨As_1_0, cs_1_0, rfl, _, _⟩ := os_1_0.form)
      | (go_at_call 23; go_split_ands; (first | refine (sBtwA _ os_0_0.reads os_1_0.reads l0_0.out l1_0.out M0_0 M1_0).mono ?_); rintro e w' ⟨rfl, hbx⟩; replace os_0_0 := os_0_0.bel hbx; replace os_1_0 := os_1_0.bel hbx)
    )
  have hb : Below w4.heap.size w4 w' := by go_split_ands; assumption
  obtain ⟨w5, hw⟩ : ∃ w5, w5 = w' := ⟨_, rfl⟩
  subst hw
  replace e0_0 := cellB e0_0 hb
  replace e0_1 := cellB e0_1 hb
  replace e0_2 := cellB e0_2 hb
  replace e0_3 := cellB e0_3 hb
  replace e1_0 := cellB e1_0 hb
  replace e1_1 := cellB e1_1 hb
  replace e1_2 := cellB e1_2 hb
  replace e1_3 := cellB e1_3 hb
  replace B := bel2 B hb
  have zw5 := hb.size
  clear hb
  clear os_0_0
  clear os_1_0
  go_wp2_with fail
  refine absW ?_
  intro w6 hw
  have hb : Below w5.heap.size w5 w6 := by rw [hw]; exact (by repeat' (first | assumption | exact Below.refl _ _ | refine Below.drew ?_ | refine Below.alloc ?_ (by first | omega | (simp; done) | (simp; omega)) _))
  clear hw
  replace e0_0 := cellB e0_0 hb
  replace e0_1 := cellB e0_1 hb
  replace e0_2 := cellB e0_2 hb
  replace e0_3 := cellB e0_3 hb
  replace e1_0 := cellB e1_0 hb
  replace e1_1 := cellB e1_1 hb
  replace e1_2 := cellB e1_2 hb
  replace e1_3 := cellB e1_3 hb
  replace B := bel2 B hb
  have zw6 := hb.size
  clear hb
  refine (toAbacus _ (rdB r0_0 B) l0_0.out m0_0).mono ?_
  rintro e w7 ⟨vx_0_0, rfl, ox_0_0, hb⟩
  replace e0_0 := cellB e0_0 hb
  replace e0_1 := cellB e0_1 hb
  replace e0_2 := cellB e0_2 hb
  replace e0_3 := cellB e0_3 hb
  replace e1_0 := cellB e1_0 hb
  replace e1_1 := cellB e1_1 hb
  replace e1_2 := cellB e1_2 hb
  replace e1_3 := cellB e1_3 hb
  replace B := bel2 B hb
  have zw7 := hb.size
  clear hb
  obtain ⟨Ax_0_0, cx_0_0, rfl, _, _⟩ := ox_0_0.form
  have j1_0 := fun (X0 : Obj) => (cellA e0_0 X0)
  have j1_1 := fun (X0 : Obj) => (cellA e0_1 X0)
  have j1_2 := fun (X0 : Obj) => (cellA e0_2 X0)
  have j1_3 := fun (X0 : Obj) => (cellA e0_3 X0)
  have j1_4 := fun (X0 : Obj) => (cellA e1_0 X0)
  have j1_5 := fun (X0 : Obj) => (cellA e1_1 X0)
  have j1_6 := fun (X0 : Obj) => (cellA e1_2 X0)
  have j1_7 := fun (X0 : Obj) => (cellA e1_3 X0)
  go_wp2_with fail
  refine absW ?_
  intro w8 hw
  have hb : Below w7.heap.size w7 w8 := by rw [hw]; exact (by repeat' (first | assumption | exact Below.refl _ _ | refine Below.drew ?_ | refine Below.alloc ?_ (by first | omega | (simp; done) | (simp; omega)) _))
  have ex_0_0 : w8.cell? ⟨w7.heap.size, 0, none⟩ = some (.int .i64 b0_0) := by rw [hw]; simp
  have ex_0_1 : w8.cell? ⟨w7.heap.size, 1, none⟩ = some (.int .i64 b0_1) := by rw [hw]; simp
  have ex_0_2 : w8.cell? ⟨w7.heap.size, 2, none⟩ = some (.int .i64 b0_2) := by rw [hw]; simp
  have ex_0_3 : w8.cell? ⟨w7.heap.size, 3, none⟩ = some (.slice Ax_0_0 n0_0 cx_0_0) := by rw [hw]; simp
  have yw8_ex_0_0 : w7.heap.size < w8.heap.size := World.block_lt_of_cell? _ _ ex_0_0
  clear hw j1_0 j1_1 j1_2 j1_3 j1_4 j1_5 j1_6 j1_7
  replace e0_0 := cellB e0_0 hb
  replace e0_1 := cellB e0_1 hb
  replace e0_2 := cellB e0_2 hb
  replace e0_3 := cellB e0_3 hb
  replace e1_0 := cellB e1_0 hb
  replace e1_1 := cellB e1_1 hb
  replace e1_2 := cellB e1_2 hb
  replace e1_3 := cellB e1_3 hb
  replace ox_0_0 := ox_0_0.bel hb
  replace B := bel2 B hb
  have zw8 := hb.size
  clear hb
  refine (toAbacus _ (rdB r1_0 B) l1_0.out m1_0).mono ?_
  rintro e w9 ⟨vx_1_0, rfl, ox_1_0, hb⟩
  replace e0_0 := cellB e0_0 hb
  replace e0_1 := cellB e0_1 hb
  replace e0_2 := cellB e0_2 hb
  replace e0_3 := cellB e0_3 hb
  replace e1_0 := cellB e1_0 hb
  replace e1_1 := cellB e1_1 hb
  replace e1_2 := cellB e1_2 hb
  replace e1_3 := cellB e1_3 hb
  replace ex_0_0 := cellB ex_0_0 hb
  replace ex_0_1 := cellB ex_0_1 hb
  replace ex_0_2 := cellB ex_0_2 hb
  replace ex_0_3 := cellB ex_0_3 hb
  replace ox_0_0 := ox_0_0.bel hb
  replace B := bel2 B hb
  have zw9 := hb.size
  clear hb
  obtain ⟨Ax_1_0, cx_1_0, rfl, _, _⟩ := ox_1_0.form
  have j1_0 := fun (X0 : Obj) => (cellA e0_0 X0)
  have j1_1 := fun (X0 : Obj) => (cellA e0_1 X0)
  have j1_2 := fun (X0 : Obj) => (cellA e0_2 X0)
  have j1_3 := fun (X0 : Obj) => (cellA e0_3 X0)
  have j1_4 := fun (X0 : Obj) => (cellA e1_0 X0)
  have j1_5 := fun (X0 : Obj) => (cellA e1_1 X0)
  have j1_6 := fun (X0 : Obj) => (cellA e1_2 X0)
  have j1_7 := fun (X0 : Obj) => (cellA e1_3 X0)
  have j1_8 := fun (X0 : Obj) => (cellA ex_0_0 X0)
  have j1_9 := fun (X0 : Obj) => (cellA ex_0_1 X0)
  have j1_10 := fun (X0 : Obj) => (cellA ex_0_2 X0)
  have j1_11 := fun (X0 : Obj) => (cellA ex_0_3 X0)
  go_wp2_with fail
  refine absW ?_
  intro w10 hw
  have hb : Below w9.heap.size w9 w10 := by rw [hw]; exact (by repeat' (first | assumption | exact Below.refl _ _ | refine Below.drew ?_ | refine Below.alloc ?_ (by first | omega | (simp; done) | (simp; omega)) _))
  have ex_1_0 : w10.cell? ⟨w9.heap.size, 0, none⟩ = some (.int .i64 b1_0) := by rw [hw]; simp
  have ex_1_1 : w10.cell? ⟨w9.heap.size, 1, none⟩ = some (.int .i64 b1_1) := by rw [hw]; simp
  have ex_1_2 : w10.cell? ⟨w9.heap.size, 2, none⟩ = some (.int .i64 b1_2) := by rw [hw]; simp
  have ex_1_3 : w10.cell? ⟨w9.heap.size, 3, none⟩ = some (.slice Ax_1_0 n1_0 cx_1_0) := by rw [hw]; simp
  have yw10_ex_1_0 : w9.heap.size < w10.heap.size := World.block_lt_of_cell? _ _ ex_1_0
  clear hw j1_0 j1_1 j1_2 j1_3 j1_4 j1_5 j1_6 j1_7 j1_8 j1_9 j1_10 j1_11
  replace e0_0 := cellB e0_0 hb
  replace e0_1 := cellB e0_1 hb
  replace e0_2 := cellB e0_2 hb
  replace e0_3 := cellB e0_3 hb
  replace e1_0 := cellB e1_0 hb
  replace e1_1 := cellB e1_1 hb
  replace e1_2 := cellB e1_2 hb
  replace e1_3 := cellB e1_3 hb
  replace ex_0_0 := cellB ex_0_0 hb
  replace ex_0_1 := cellB ex_0_1 hb
  replace ex_0_2 := cellB ex_0_2 hb
  replace ex_0_3 := cellB ex_0_3 hb
  replace ox_0_0 := ox_0_0.bel hb
  replace ox_1_0 := ox_1_0.bel hb
  replace B := bel2 B hb
  have zw10 := hb.size
  clear hb
  refine (iBtwA _ ox_0_0.reads ox_1_0.reads l0_0.out l1_0.out M0_0 M1_0).mono ?_
  rintro e w11 ⟨rfl, hb⟩
  replace e0_0 := cellB e0_0 hb
  replace e0_1 := cellB e0_1 hb
  replace e0_2 := cellB e0_2 hb
  replace e0_3 := cellB e0_3 hb
  replace e1_0 := cellB e1_0 hb
  replace e1_1 := cellB e1_1 hb
  replace e1_2 := cellB e1_2 hb
  replace e1_3 := cellB e1_3 hb
  replace ex_0_0 := cellB ex_0_0 hb
  replace ex_0_1 := cellB ex_0_1 hb
  replace ex_0_2 := cellB ex_0_2 hb
  replace ex_0_3 := cellB ex_0_3 hb
  replace ex_1_0 := cellB ex_1_0 hb
  replace ex_1_1 := cellB ex_1_1 hb
  replace ex_1_2 := cellB ex_1_2 hb
  replace ex_1_3 := cellB ex_1_3 hb
  replace ox_0_0 := ox_0_0.bel hb
  replace ox_1_0 := ox_1_0.bel hb
  replace B := bel2 B hb
  have zw11 := hb.size
  clear hb
  go_wp2_with fail
  go_region_held3 (fun w' => w'.cell? ⟨w.heap.size, 0, none⟩ = some (.int .i64 b0_0) ∧ w'.cell? ⟨w.heap.size, 1, none⟩ = some (.int .i64 b0_1) ∧ w'.cell? ⟨w.heap.size, 2, none⟩ = some (.int .i64 b0_2) ∧ w'.cell? ⟨w.heap.size, 3, none⟩ = some (.slice A0_0 n0_0 c0_0) ∧ w'.cell? ⟨w.heap.size + 1, 0, none⟩ = some (.int .i64 b1_0) ∧ w'.cell? ⟨w.heap.size + 1, 1, none⟩ = some (.int .i64 b1_1) ∧ w'.cell? ⟨w.heap.size + 1, 2, none⟩ = some (.int .i64 b1_2) ∧ w'.cell? ⟨w.heap.size + 1, 3, none⟩ = some (.slice A1_0 n1_0 c1_0) ∧ w'.cell? ⟨w7.heap.size, 0, none⟩ = some (.int .i64 b0_0) ∧ w'.cell? ⟨w7.heap.size, 1, none⟩ = some (.int .i64 b0_1) ∧ w'.cell? ⟨w7.heap.size, 2, none⟩ = some (.int .i64 b0_2) ∧ w'.cell? ⟨w7.heap.size, 3, none⟩ = some (.slice Ax_0_0 n0_0 cx_0_0) ∧ w'.cell? ⟨w9.heap.size, 0, none⟩ = some (.int .i64 b1_0) ∧ w'.cell? ⟨w9.heap.size, 1, none⟩ = some (.int .i64 b1_1) ∧ w'.cell? ⟨w9.heap.size, 2, none⟩ = some (.int .i64 b1_2) ∧ w'.cell? ⟨w9.heap.size, 3, none⟩ = some (.slice Ax_1_0 n1_0 cx_1_0) ∧ Below w11.heap.size w11 w')
    ((go_split_ands; and_intros <;> (first | assumption | exact cellB (by assumption) hbx | exact bel2 (by assumption) hbx | exact (Below.refl _ _).drew)))
    (first
      | (go_at_call_of 16 (Value.slice A0_0 n0_0 c0_0); go_split_ands; (first | refine (toAbacus _ (rdB r0_0 (bel2 B (by assumption))) l0_0.out m0_0).mono ?_); rintro e w' ⟨vz_0_0, rfl, oz_0_0, hbx⟩; obtain ⟨Az_0_0, cz_0_0, rfl, _, _⟩ := oz_0_0.form)
      | (go_at_call 18; go_split_ands; (first | refine (eqAbacus _ (Own.reads (Own.bel ox_0_0 (by assumption))) oz_0_0.reads l0_0.out M0_0).mono ?_); rintro e w' ⟨rfl, hbx⟩; replace oz_0_0 := oz_0_0.bel hbx)
    )
  have hb : Below w11.heap.size w11 w' := by go_split_ands; assumption
  obtain ⟨w12, hw⟩ : ∃ w12, w12 = w' := ⟨_, rfl⟩
  subst hw
  replace e0_0 := cellB e0_0 hb
  replace e0_1 := cellB e0_1 hb
  replace e0_2 := cellB e0_2 hb
  replace e0_3 := cellB e0_3 hb
  replace e1_0 := cellB e1_0 hb
  replace e1_1 := cellB e1_1 hb
  replace e1_2 := cellB e1_2 hb
  replace e1_3 := cellB e1_3 hb
  replace ex_0_0 := cellB ex_0_0 hb
  replace ex_0_1 := cellB ex_0_1 hb
  replace ex_0_2 := cellB ex_0_2 hb
  replace ex_0_3 := cellB ex_0_3 hb
  replace ex_1_0 := cellB ex_1_0 hb
  replace ex_1_1 := cellB ex_1_1 hb
  replace ex_1_2 := cellB ex_1_2 hb
  replace ex_1_3 := cellB ex_1_3 hb
  replace ox_0_0 := ox_0_0.bel hb
  replace ox_1_0 := ox_1_0.bel hb
  replace B := bel2 B hb
  have zw12 := hb.size
  clear hb
  clear oz_0_0
  go_wp2_with fail
  go_region_held3 (fun w' => w'.cell? ⟨w.heap.size, 0, none⟩ = some (.int .i64 b0_0) ∧ w'.cell? ⟨w.heap.size, 1, none⟩ = some (.int .i64 b0_1) ∧ w'.cell? ⟨w.heap.size, 2, none⟩ = some (.int .i64 b0_2) ∧ w'.cell? ⟨w.heap.size, 3, none⟩ = some (.slice A0_0 n0_0 c0_0) ∧ w'.cell? ⟨w.heap.size + 1, 0, none⟩ = some (.int .i64 b1_0) ∧ w'.cell? ⟨w.heap.size + 1, 1, none⟩ = some (.int .i64 b1_1) ∧ w'.cell? ⟨w.heap.size + 1, 2, none⟩ = some (.int .i64 b1_2) ∧ w'.cell? ⟨w.heap.size + 1, 3, none⟩ = some (.slice A1_0 n1_0 c1_0) ∧ w'.cell? ⟨w7.heap.size, 0, none⟩ = some (.int .i64 b0_0) ∧ w'.cell? ⟨w7.heap.size, 1, none⟩ = some (.int .i64 b0_1) ∧ w'.cell? ⟨w7.heap.size, 2, none⟩ = some (.int .i64 b0_2) ∧ w'.cell? ⟨w7.heap.size, 3, none⟩ = some (.slice Ax_0_0 n0_0 cx_0_0) ∧ w'.cell? ⟨w9.heap.size, 0, none⟩ = some (.int .i64 b1_0) ∧ w'.cell? ⟨w9.heap.size, 1, none⟩ = some (.int .i64 b1_1) ∧ w'.cell? ⟨w9.heap.size, 2, none⟩ = some (.int .i64 b1_2) ∧ w'.cell? ⟨w9.heap.size, 3, none⟩ = some (.slice Ax_1_0 n1_0 cx_1_0) ∧ Below w12.heap.size w12 w')
    ((go_split_ands; and_intros <;> (first | assumption | exact cellB (by assumption) hbx | exact bel2 (by assumption) hbx | exact (Below.refl _ _).drew)))
    (first
      | (go_at_call_of 16 (Value.slice A1_0 n1_0 c1_0); go_split_ands; (first | refine (toAbacus _ (rdB r1_0 (bel2 B (by assumption))) l1_0.out m1_0).mono ?_); rintro e w' ⟨vz_1_0, rfl, oz_1_0, hbx⟩; obtain ⟨Az_1_0, cz_1_0, rfl, _, _⟩ := oz_1_0.form)
      | (go_at_call 18; go_split_ands; (first | refine (eqAbacus _ (Own.reads (Own.bel ox_1_0 (by assumption))) oz_1_0.reads l1_0.out M1_0).mono ?_); rintro e w' ⟨rfl, hbx⟩; replace oz_1_0 := oz_1_0.bel hbx)
    )
  have hb : Below w12.heap.size w12 w' := by go_split_ands; assumption
  obtain ⟨w13, hw⟩ : ∃ w13, w13 = w' := ⟨_, rfl⟩
  subst hw
  replace e0_0 := cellB e0_0 hb
  replace e0_1 := cellB e0_1 hb
  replace e0_2 := cellB e0_2 hb
  replace e0_3 := cellB e0_3 hb
  replace e1_0 := cellB e1_0 hb
  replace e1_1 := cellB e1_1 hb
  replace e1_2 := cellB e1_2 hb
  replace e1_3 := cellB e1_3 hb
  replace ex_0_0 := cellB ex_0_0 hb
  replace ex_0_1 := cellB ex_0_1 hb
  replace ex_0_2 := cellB ex_0_2 hb
  replace ex_0_3 := cellB ex_0_3 hb
  replace ex_1_0 := cellB ex_1_0 hb
  replace ex_1_1 := cellB ex_1_1 hb
  replace ex_1_2 := cellB ex_1_2 hb
  replace ex_1_3 := cellB ex_1_3 hb
  replace ox_0_0 := ox_0_0.bel hb
  replace ox_1_0 := ox_1_0.bel hb
  replace B := bel2 B hb
  have zw13 := hb.size
  clear hb
  clear oz_1_0
  go_wp2
  go_ret
  exact ⟨rfl, bel2 B (by repeat' (first | assumption | exact Below.refl _ _ | refine Below.drew ?_ | refine Below.alloc ?_ (by first | omega | (simp; done) | (simp; omega)) _))⟩
end Go.Proofs.Ytpgifgdoikhpbaa
