/- The walk of the law FnExactBusiestTime. No condition. -/
import Derived.Test.YthpaampkpajdfaaBusy
import Derived.Deep.RegionHeld3
namespace Go.Proofs.Ythpaampkpajdfaa
open Go.RowKit
set_option linter.unusedVariables false

set_option maxRecDepth 100000 in
set_option maxHeartbeats 3200000 in
theorem lBusiestTime {a0_0 : Int} {a0_1 : Int} {a0_2 : Int} {a0_3 : Int} {b1_0 : Int} {A1_0 : Option Addr} {n1_0 c1_0 : Nat} {x1_0 : List Int} (w : World) (wa0_0 : inI a0_0) (wa0_1 : inI a0_1) (wa0_2 : inI a0_2) (wa0_3 : inI a0_3) (wb1_0 : inI b1_0) (h1_0 : IntRow w A1_0 n1_0 c1_0 x1_0) :
    Calls Try.prog 8 #[.agg #[.int .i64 a0_0, .int .i64 a0_1, .int .i64 a0_2, .int .i64 a0_3], .agg #[.int .i64 b1_0, .slice A1_0 n1_0 c1_0]] w fun e w' => e = .returned (.bool true) ∧ Below w.heap.size w w' := by
  have r1_0 := h1_0.reads; have l1_0 := Lib.hid h1_0.len; have M1_0 : n1_0 ≤ maxLen := Nat.le_trans h1_0.nc h1_0.cm
  by_cases t1 : (n1_0 : Int) ≤ 1048576
  rotate_left
  · have S1 : Hid (szI n1_0 (1048576) = -1) := by unfold Hid szI; rw [if_neg t1]
    go_enter Try.func8, Try.ntmps8
    have B : Below w.heap.size w w := Below.refl _ _
    go_wp2_with fail
    refine absW ?_
    intro w1 hw
    have hb : Below w.heap.size w w1 := by rw [hw]; exact (by repeat' (first | assumption | exact Below.refl _ _ | refine Below.drew ?_ | refine Below.alloc ?_ (by first | omega | (simp; done) | (simp; omega)) _))
    have e0_0 : w1.cell? ⟨w.heap.size, 0, none⟩ = some (.int .i64 a0_0) := by rw [hw]; simp
    have e0_1 : w1.cell? ⟨w.heap.size, 1, none⟩ = some (.int .i64 a0_1) := by rw [hw]; simp
    have e0_2 : w1.cell? ⟨w.heap.size, 2, none⟩ = some (.int .i64 a0_2) := by rw [hw]; simp
    have e0_3 : w1.cell? ⟨w.heap.size, 3, none⟩ = some (.int .i64 a0_3) := by rw [hw]; simp
    have e1_0 : w1.cell? ⟨w.heap.size + 1, 0, none⟩ = some (.int .i64 b1_0) := by rw [hw]; simp
    have e1_1 : w1.cell? ⟨w.heap.size + 1, 1, none⟩ = some (.slice A1_0 n1_0 c1_0) := by rw [hw]; simp
    have yw1_e0_0 : w.heap.size < w1.heap.size := World.block_lt_of_cell? _ _ e0_0
    have yw1_e1_0 : w.heap.size + 1 < w1.heap.size := World.block_lt_of_cell? _ _ e1_0
    clear hw
    replace B := bel2 B hb
    have zw1 := hb.size
    clear hb
    refine (szRegister _ _ M1_0 (by omega) (by omega)).mono ?_
    rintro e w2 ⟨rfl, hb⟩
    rw [S1.out]
    replace e0_0 := cellB e0_0 hb
    replace e0_1 := cellB e0_1 hb
    replace e0_2 := cellB e0_2 hb
    replace e0_3 := cellB e0_3 hb
    replace e1_0 := cellB e1_0 hb
    replace e1_1 := cellB e1_1 hb
    replace B := bel2 B hb
    have zw2 := hb.size
    clear hb
    go_wp2
    go_ret
    exact ⟨rfl, bel2 B (by repeat' (first | assumption | exact Below.refl _ _ | refine Below.drew ?_ | refine Below.alloc ?_ (by first | omega | (simp; done) | (simp; omega)) _))⟩
  have S1 : Hid (szI n1_0 (1048576) = 1048576 - n1_0) := by unfold Hid szI; rw [if_pos t1]
  have m1_0 : n1_0 ≤ 1048576 := by omega
  have q1 : 0 ≤ 1048576 - n1_0 := by omega
  go_enter Try.func8, Try.ntmps8
  have B : Below w.heap.size w w := Below.refl _ _
  go_wp2_with fail
  refine absW ?_
  intro w1 hw
  have hb : Below w.heap.size w w1 := by rw [hw]; exact (by repeat' (first | assumption | exact Below.refl _ _ | refine Below.drew ?_ | refine Below.alloc ?_ (by first | omega | (simp; done) | (simp; omega)) _))
  have e0_0 : w1.cell? ⟨w.heap.size, 0, none⟩ = some (.int .i64 a0_0) := by rw [hw]; simp
  have e0_1 : w1.cell? ⟨w.heap.size, 1, none⟩ = some (.int .i64 a0_1) := by rw [hw]; simp
  have e0_2 : w1.cell? ⟨w.heap.size, 2, none⟩ = some (.int .i64 a0_2) := by rw [hw]; simp
  have e0_3 : w1.cell? ⟨w.heap.size, 3, none⟩ = some (.int .i64 a0_3) := by rw [hw]; simp
  have e1_0 : w1.cell? ⟨w.heap.size + 1, 0, none⟩ = some (.int .i64 b1_0) := by rw [hw]; simp
  have e1_1 : w1.cell? ⟨w.heap.size + 1, 1, none⟩ = some (.slice A1_0 n1_0 c1_0) := by rw [hw]; simp
  have yw1_e0_0 : w.heap.size < w1.heap.size := World.block_lt_of_cell? _ _ e0_0
  have yw1_e1_0 : w.heap.size + 1 < w1.heap.size := World.block_lt_of_cell? _ _ e1_0
  clear hw
  replace B := bel2 B hb
  have zw1 := hb.size
  clear hb
  refine (szRegister _ _ M1_0 (by omega) (by omega)).mono ?_
  rintro e w2 ⟨rfl, hb⟩
  rw [S1.out]
  replace e0_0 := cellB e0_0 hb
  replace e0_1 := cellB e0_1 hb
  replace e0_2 := cellB e0_2 hb
  replace e0_3 := cellB e0_3 hb
  replace e1_0 := cellB e1_0 hb
  replace e1_1 := cellB e1_1 hb
  replace B := bel2 B hb
  have zw2 := hb.size
  clear hb
  go_wp2_with fail
  go_region_held3 (fun w' => w'.cell? ⟨w.heap.size, 0, none⟩ = some (.int .i64 a0_0) ∧ w'.cell? ⟨w.heap.size, 1, none⟩ = some (.int .i64 a0_1) ∧ w'.cell? ⟨w.heap.size, 2, none⟩ = some (.int .i64 a0_2) ∧ w'.cell? ⟨w.heap.size, 3, none⟩ = some (.int .i64 a0_3) ∧ w'.cell? ⟨w.heap.size + 1, 0, none⟩ = some (.int .i64 b1_0) ∧ w'.cell? ⟨w.heap.size + 1, 1, none⟩ = some (.slice A1_0 n1_0 c1_0) ∧ Below w2.heap.size w2 w')
    ((go_split_ands; and_intros <;> (first | assumption | exact cellB (by assumption) hbx | exact bel2 (by assumption) hbx | exact (Below.refl _ _).drew)))
    (first
      | (go_at_call_of 16 (a0_0); go_split_ands; (first | refine (toDrum _).mono ?_); rintro e w' ⟨rfl, hbx⟩)
      | (go_at_call_of 32 (Value.slice A1_0 n1_0 c1_0); go_split_ands; (first | refine (toRegister _ (rdB r1_0 (bel2 B (by assumption))) l1_0.out m1_0).mono ?_); rintro e w' ⟨vs_1_0, rfl, os_1_0, hbx⟩; obtain ⟨As_1_0, cs_1_0, rfl, _, _⟩ := os_1_0.form)
      | (go_at_call 31; go_split_ands; (first | refine (sBusiest _ os_1_0.reads l1_0.out M1_0).mono ?_); rintro e w' ⟨rfl, hbx⟩; replace os_1_0 := os_1_0.bel hbx)
    )
  have hb : Below w2.heap.size w2 w' := by go_split_ands; assumption
  obtain ⟨w3, hw⟩ : ∃ w3, w3 = w' := ⟨_, rfl⟩
  subst hw
  replace e0_0 := cellB e0_0 hb
  replace e0_1 := cellB e0_1 hb
  replace e0_2 := cellB e0_2 hb
  replace e0_3 := cellB e0_3 hb
  replace e1_0 := cellB e1_0 hb
  replace e1_1 := cellB e1_1 hb
  replace B := bel2 B hb
  have zw3 := hb.size
  clear hb
  clear os_1_0
  go_wp2_with fail
  refine absW ?_
  intro w4 hw
  have hb : Below w3.heap.size w3 w4 := by rw [hw]; exact (by repeat' (first | assumption | exact Below.refl _ _ | refine Below.drew ?_ | refine Below.alloc ?_ (by first | omega | (simp; done) | (simp; omega)) _))
  clear hw
  replace e0_0 := cellB e0_0 hb
  replace e0_1 := cellB e0_1 hb
  replace e0_2 := cellB e0_2 hb
  replace e0_3 := cellB e0_3 hb
  replace e1_0 := cellB e1_0 hb
  replace e1_1 := cellB e1_1 hb
  replace B := bel2 B hb
  have zw4 := hb.size
  clear hb
  refine (toRegister _ (rdB r1_0 B) l1_0.out m1_0).mono ?_
  rintro e w5 ⟨vx_1_0, rfl, ox_1_0, hb⟩
  replace e0_0 := cellB e0_0 hb
  replace e0_1 := cellB e0_1 hb
  replace e0_2 := cellB e0_2 hb
  replace e0_3 := cellB e0_3 hb
  replace e1_0 := cellB e1_0 hb
  replace e1_1 := cellB e1_1 hb
  replace B := bel2 B hb
  have zw5 := hb.size
  clear hb
  obtain ⟨Ax_1_0, cx_1_0, rfl, _, _⟩ := ox_1_0.form
  have j1_0 := fun (X0 : Obj) => (cellA e0_0 X0)
  have j1_1 := fun (X0 : Obj) => (cellA e0_1 X0)
  have j1_2 := fun (X0 : Obj) => (cellA e0_2 X0)
  have j1_3 := fun (X0 : Obj) => (cellA e0_3 X0)
  have j1_4 := fun (X0 : Obj) => (cellA e1_0 X0)
  have j1_5 := fun (X0 : Obj) => (cellA e1_1 X0)
  go_wp2_with fail
  refine absC ?_
  intro w6 hw
  have hb : Below w5.heap.size w5 w6 := by rw [hw]; exact (by repeat' (first | assumption | exact Below.refl _ _ | refine Below.drew ?_ | refine Below.alloc ?_ (by first | omega | (simp; done) | (simp; omega)) _))
  have ex_1_0 : w6.cell? ⟨w5.heap.size, 0, none⟩ = some (.int .i64 b1_0) := by rw [hw]; simp
  have ex_1_1 : w6.cell? ⟨w5.heap.size, 1, none⟩ = some (.slice Ax_1_0 n1_0 cx_1_0) := by rw [hw]; simp
  have yw6_ex_1_0 : w5.heap.size < w6.heap.size := World.block_lt_of_cell? _ _ ex_1_0
  clear hw j1_0 j1_1 j1_2 j1_3 j1_4 j1_5
  replace e0_0 := cellB e0_0 hb
  replace e0_1 := cellB e0_1 hb
  replace e0_2 := cellB e0_2 hb
  replace e0_3 := cellB e0_3 hb
  replace e1_0 := cellB e1_0 hb
  replace e1_1 := cellB e1_1 hb
  replace ox_1_0 := ox_1_0.bel hb
  replace B := bel2 B hb
  have zw6 := hb.size
  clear hb
  go_region_held3 (fun w' => w'.cell? ⟨w.heap.size, 0, none⟩ = some (.int .i64 a0_0) ∧ w'.cell? ⟨w.heap.size, 1, none⟩ = some (.int .i64 a0_1) ∧ w'.cell? ⟨w.heap.size, 2, none⟩ = some (.int .i64 a0_2) ∧ w'.cell? ⟨w.heap.size, 3, none⟩ = some (.int .i64 a0_3) ∧ w'.cell? ⟨w.heap.size + 1, 0, none⟩ = some (.int .i64 b1_0) ∧ w'.cell? ⟨w.heap.size + 1, 1, none⟩ = some (.slice A1_0 n1_0 c1_0) ∧ w'.cell? ⟨w5.heap.size, 0, none⟩ = some (.int .i64 b1_0) ∧ w'.cell? ⟨w5.heap.size, 1, none⟩ = some (.slice Ax_1_0 n1_0 cx_1_0) ∧ Below w6.heap.size w6 w')
    ((go_split_ands; and_intros <;> (first | assumption | exact cellB (by assumption) hbx | exact bel2 (by assumption) hbx | exact (Below.refl _ _).drew)))
    (first
      | (go_at_call_of 16 (a0_0); go_split_ands; (first | refine (toDrum _).mono ?_); rintro e w' ⟨rfl, hbx⟩)
      | (go_at_call 33; go_split_ands; (first | refine (iBusiest _ (Own.reads (Own.bel ox_1_0 (by assumption))) l1_0.out M1_0).mono ?_); rintro e w' ⟨rfl, hbx⟩)
    )
  have hb : Below w6.heap.size w6 w' := by go_split_ands; assumption
  obtain ⟨w7, hw⟩ : ∃ w7, w7 = w' := ⟨_, rfl⟩
  subst hw
  replace e0_0 := cellB e0_0 hb
  replace e0_1 := cellB e0_1 hb
  replace e0_2 := cellB e0_2 hb
  replace e0_3 := cellB e0_3 hb
  replace e1_0 := cellB e1_0 hb
  replace e1_1 := cellB e1_1 hb
  replace ex_1_0 := cellB ex_1_0 hb
  replace ex_1_1 := cellB ex_1_1 hb
  replace ox_1_0 := ox_1_0.bel hb
  replace B := bel2 B hb
  have zw7 := hb.size
  clear hb
  go_wp2_with fail
  go_region_held3 (fun w' => w'.cell? ⟨w.heap.size, 0, none⟩ = some (.int .i64 a0_0) ∧ w'.cell? ⟨w.heap.size, 1, none⟩ = some (.int .i64 a0_1) ∧ w'.cell? ⟨w.heap.size, 2, none⟩ = some (.int .i64 a0_2) ∧ w'.cell? ⟨w.heap.size, 3, none⟩ = some (.int .i64 a0_3) ∧ w'.cell? ⟨w.heap.size + 1, 0, none⟩ = some (.int .i64 b1_0) ∧ w'.cell? ⟨w.heap.size + 1, 1, none⟩ = some (.slice A1_0 n1_0 c1_0) ∧ w'.cell? ⟨w5.heap.size, 0, none⟩ = some (.int .i64 b1_0) ∧ w'.cell? ⟨w5.heap.size, 1, none⟩ = some (.slice Ax_1_0 n1_0 cx_1_0) ∧ Below w7.heap.size w7 w')
    ((go_split_ands; and_intros <;> (first | assumption | exact cellB (by assumption) hbx | exact bel2 (by assumption) hbx | exact (Below.refl _ _).drew)))
    (first
      | (go_at_call_of 32 (Value.slice A1_0 n1_0 c1_0); go_split_ands; (first | refine (toRegister _ (rdB r1_0 (bel2 B (by assumption))) l1_0.out m1_0).mono ?_); rintro e w' ⟨vz_1_0, rfl, oz_1_0, hbx⟩; obtain ⟨Az_1_0, cz_1_0, rfl, _, _⟩ := oz_1_0.form)
      | (go_at_call 34; go_split_ands; (first | refine (eqRegister _ (Own.reads (Own.bel ox_1_0 (by assumption))) oz_1_0.reads l1_0.out M1_0).mono ?_); rintro e w' ⟨rfl, hbx⟩; replace oz_1_0 := oz_1_0.bel hbx)
    )
  have hb : Below w7.heap.size w7 w' := by go_split_ands; assumption
  obtain ⟨w8, hw⟩ : ∃ w8, w8 = w' := ⟨_, rfl⟩
  subst hw
  replace e0_0 := cellB e0_0 hb
  replace e0_1 := cellB e0_1 hb
  replace e0_2 := cellB e0_2 hb
  replace e0_3 := cellB e0_3 hb
  replace e1_0 := cellB e1_0 hb
  replace e1_1 := cellB e1_1 hb
  replace ex_1_0 := cellB ex_1_0 hb
  replace ex_1_1 := cellB ex_1_1 hb
  replace ox_1_0 := ox_1_0.bel hb
  replace B := bel2 B hb
  have zw8 := hb.size
  clear hb
  clear oz_1_0
  go_wp2
  go_ret
  exact ⟨rfl, bel2 B (by repeat' (first | assumption | exact Below.refl _ _ | refine Below.drew ?_ | refine Below.alloc ?_ (by first | omega | (simp; done) | (simp; omega)) _))⟩
end Go.Proofs.Ythpaampkpajdfaa
