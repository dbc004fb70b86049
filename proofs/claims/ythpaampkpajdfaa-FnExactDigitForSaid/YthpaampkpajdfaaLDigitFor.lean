/- The walk of the law FnExactDigitFor. No condition. -/
import Derived.Test.YthpaampkpajdfaaDigit
import Derived.Deep.RegionHeld3
namespace Go.Proofs.Ythpaampkpajdfaa
open Go.RowKit
set_option linter.unusedVariables false

set_option maxRecDepth 100000 in
set_option maxHeartbeats 3200000 in
theorem lDigitFor {a0_0 : Int} {a0_1 : Int} {a0_2 : Int} {a0_3 : Int} {A1_0 : Option Addr} {n1_0 c1_0 : Nat} {x1_0 : List Int} (w : World) (wa0_0 : inI a0_0) (wa0_1 : inI a0_1) (wa0_2 : inI a0_2) (wa0_3 : inI a0_3) (h1_0 : IntRow w A1_0 n1_0 c1_0 x1_0) :
    Calls Try.prog 7 #[.agg #[.int .i64 a0_0, .int .i64 a0_1, .int .i64 a0_2, .int .i64 a0_3], .slice A1_0 n1_0 c1_0] w fun e w' => e = .returned (.bool true) ∧ Below w.heap.size w w' := by
  have r1_0 := h1_0.reads; have l1_0 := Lib.hid h1_0.len; have M1_0 : n1_0 ≤ maxLen := Nat.le_trans h1_0.nc h1_0.cm
  by_cases t1 : (n1_0 : Int) ≤ 1048576
  rotate_left
  · have S1 : Hid (szI n1_0 (1048576) = -1) := by unfold Hid szI; rw [if_neg t1]
    go_enter Try.func7, Try.ntmps7
    have B : Below w.heap.size w w := Below.refl _ _
    go_wp2
    go_ret
    exact ⟨rfl, bel2 B (by repeat' (first | assumption | exact Below.refl _ _ | refine Below.drew ?_ | refine Below.alloc ?_ (by first | omega | (simp; done) | (simp; omega)) _))⟩
  have S1 : Hid (szI n1_0 (1048576) = 1048576 - n1_0) := by unfold Hid szI; rw [if_pos t1]
  have m1_0 : n1_0 ≤ 1048576 := by omega
  have q1 : 0 ≤ 1048576 - n1_0 := by omega
  go_enter Try.func7, Try.ntmps7
  have B : Below w.heap.size w w := Below.refl _ _
  go_wp2_with fail
  refine absW ?_
  intro w1 hw
  have hb : Below w.heap.size w w1 := by rw [hw]; exact (by repeat' (first | assumption | exact Below.refl _ _ | refine Below.drew ?_ | refine Below.alloc ?_ (by first | omega | (simp; done) | (simp; omega)) _))
  have e0_0 : w1.cell? ⟨w.heap.size, 0, none⟩ = some (.int .i64 a0_0) := by rw [hw]; simp
  have e0_1 : w1.cell? ⟨w.heap.size, 1, none⟩ = some (.int .i64 a0_1) := by rw [hw]; simp
  have e0_2 : w1.cell? ⟨w.heap.size, 2, none⟩ = some (.int .i64 a0_2) := by rw [hw]; simp
  have e0_3 : w1.cell? ⟨w.heap.size, 3, none⟩ = some (.int .i64 a0_3) := by rw [hw]; simp
  have yw1_e0_0 : w.heap.size < w1.heap.size := World.block_lt_of_cell? _ _ e0_0
  clear hw
  replace B := bel2 B hb
  have zw1 := hb.size
  clear hb
  refine (toDrum _).mono ?_
  rintro e w2 ⟨rfl, hb⟩
  replace e0_0 := cellB e0_0 hb
  replace e0_1 := cellB e0_1 hb
  replace e0_2 := cellB e0_2 hb
  replace e0_3 := cellB e0_3 hb
  replace B := bel2 B hb
  have zw2 := hb.size
  clear hb
  go_wp2_with fail
  refine absW ?_
  intro w3 hw
  have hb : Below w2.heap.size w2 w3 := by rw [hw]; exact (by repeat' (first | assumption | exact Below.refl _ _ | refine Below.drew ?_ | refine Below.alloc ?_ (by first | omega | (simp; done) | (simp; omega)) _))
  clear hw
  replace e0_0 := cellB e0_0 hb
  replace e0_1 := cellB e0_1 hb
  replace e0_2 := cellB e0_2 hb
  replace e0_3 := cellB e0_3 hb
  replace B := bel2 B hb
  have zw3 := hb.size
  clear hb
  refine (toInt64S _ (rdB r1_0 B) l1_0.out m1_0).mono ?_
  rintro e w4 ⟨vs_1_0, rfl, os_1_0, hb⟩
  replace e0_0 := cellB e0_0 hb
  replace e0_1 := cellB e0_1 hb
  replace e0_2 := cellB e0_2 hb
  replace e0_3 := cellB e0_3 hb
  replace B := bel2 B hb
  have zw4 := hb.size
  clear hb
  obtain ⟨As_1_0, cs_1_0, rfl, _, _⟩ := os_1_0.form
  go_wp2_with fail
  refine absW ?_
  intro w5 hw
  have hb : Below w4.heap.size w4 w5 := by rw [hw]; exact (by repeat' (first | assumption | exact Below.refl _ _ | refine Below.drew ?_ | refine Below.alloc ?_ (by first | omega | (simp; done) | (simp; omega)) _))
  clear hw
  replace e0_0 := cellB e0_0 hb
  replace e0_1 := cellB e0_1 hb
  replace e0_2 := cellB e0_2 hb
  replace e0_3 := cellB e0_3 hb
  replace os_1_0 := os_1_0.bel hb
  replace B := bel2 B hb
  have zw5 := hb.size
  clear hb
  refine (sDigitFor _ os_1_0.reads l1_0.out M1_0).mono ?_
  rintro e w6 ⟨rfl, hb⟩
  replace e0_0 := cellB e0_0 hb
  replace e0_1 := cellB e0_1 hb
  replace e0_2 := cellB e0_2 hb
  replace e0_3 := cellB e0_3 hb
  replace os_1_0 := os_1_0.bel hb
  replace B := bel2 B hb
  have zw6 := hb.size
  clear hb
  clear os_1_0
  go_wp2_with fail
  refine absW ?_
  intro w7 hw
  have hb : Below w6.heap.size w6 w7 := by rw [hw]; exact (by repeat' (first | assumption | exact Below.refl _ _ | refine Below.drew ?_ | refine Below.alloc ?_ (by first | omega | (simp; done) | (simp; omega)) _))
  clear hw
  replace e0_0 := cellB e0_0 hb
  replace e0_1 := cellB e0_1 hb
  replace e0_2 := cellB e0_2 hb
  replace e0_3 := cellB e0_3 hb
  replace B := bel2 B hb
  have zw7 := hb.size
  clear hb
  refine (toInt64S _ (rdB r1_0 B) l1_0.out m1_0).mono ?_
  rintro e w8 ⟨vx_1_0, rfl, ox_1_0, hb⟩
  replace e0_0 := cellB e0_0 hb
  replace e0_1 := cellB e0_1 hb
  replace e0_2 := cellB e0_2 hb
  replace e0_3 := cellB e0_3 hb
  replace B := bel2 B hb
  have zw8 := hb.size
  clear hb
  obtain ⟨Ax_1_0, cx_1_0, rfl, _, _⟩ := ox_1_0.form
  go_wp2_with fail
  refine absW ?_
  intro w9 hw
  have hb : Below w8.heap.size w8 w9 := by rw [hw]; exact (by repeat' (first | assumption | exact Below.refl _ _ | refine Below.drew ?_ | refine Below.alloc ?_ (by first | omega | (simp; done) | (simp; omega)) _))
  clear hw
  replace e0_0 := cellB e0_0 hb
  replace e0_1 := cellB e0_1 hb
  replace e0_2 := cellB e0_2 hb
  replace e0_3 := cellB e0_3 hb
  replace ox_1_0 := ox_1_0.bel hb
  replace B := bel2 B hb
  have zw9 := hb.size
  clear hb
  refine (toDrum _).mono ?_
  rintro e w10 ⟨rfl, hb⟩
  replace e0_0 := cellB e0_0 hb
  replace e0_1 := cellB e0_1 hb
  replace e0_2 := cellB e0_2 hb
  replace e0_3 := cellB e0_3 hb
  replace ox_1_0 := ox_1_0.bel hb
  replace B := bel2 B hb
  have zw10 := hb.size
  clear hb
  go_wp2_with fail
  refine absW ?_
  intro w11 hw
  have hb : Below w10.heap.size w10 w11 := by rw [hw]; exact (by repeat' (first | assumption | exact Below.refl _ _ | refine Below.drew ?_ | refine Below.alloc ?_ (by first | omega | (simp; done) | (simp; omega)) _))
  clear hw
  replace e0_0 := cellB e0_0 hb
  replace e0_1 := cellB e0_1 hb
  replace e0_2 := cellB e0_2 hb
  replace e0_3 := cellB e0_3 hb
  replace ox_1_0 := ox_1_0.bel hb
  replace B := bel2 B hb
  have zw11 := hb.size
  clear hb
  refine (iDigitFor _ ox_1_0.reads l1_0.out M1_0).mono ?_
  rintro e w12 ⟨rfl, hb⟩
  replace e0_0 := cellB e0_0 hb
  replace e0_1 := cellB e0_1 hb
  replace e0_2 := cellB e0_2 hb
  replace e0_3 := cellB e0_3 hb
  replace ox_1_0 := ox_1_0.bel hb
  replace B := bel2 B hb
  have zw12 := hb.size
  clear hb
  go_wp2_with fail
  refine absW ?_
  intro w13 hw
  have hb : Below w12.heap.size w12 w13 := by rw [hw]; exact (by repeat' (first | assumption | exact Below.refl _ _ | refine Below.drew ?_ | refine Below.alloc ?_ (by first | omega | (simp; done) | (simp; omega)) _))
  clear hw
  replace e0_0 := cellB e0_0 hb
  replace e0_1 := cellB e0_1 hb
  replace e0_2 := cellB e0_2 hb
  replace e0_3 := cellB e0_3 hb
  replace ox_1_0 := ox_1_0.bel hb
  replace B := bel2 B hb
  have zw13 := hb.size
  clear hb
  refine (toInt64S _ (rdB r1_0 B) l1_0.out m1_0).mono ?_
  rintro e w14 ⟨vz_1_0, rfl, oz_1_0, hb⟩
  replace e0_0 := cellB e0_0 hb
  replace e0_1 := cellB e0_1 hb
  replace e0_2 := cellB e0_2 hb
  replace e0_3 := cellB e0_3 hb
  replace ox_1_0 := ox_1_0.bel hb
  replace B := bel2 B hb
  have zw14 := hb.size
  clear hb
  obtain ⟨Az_1_0, cz_1_0, rfl, _, _⟩ := oz_1_0.form
  go_wp2_with fail
  refine absW ?_
  intro w15 hw
  have hb : Below w14.heap.size w14 w15 := by rw [hw]; exact (by repeat' (first | assumption | exact Below.refl _ _ | refine Below.drew ?_ | refine Below.alloc ?_ (by first | omega | (simp; done) | (simp; omega)) _))
  clear hw
  replace e0_0 := cellB e0_0 hb
  replace e0_1 := cellB e0_1 hb
  replace e0_2 := cellB e0_2 hb
  replace e0_3 := cellB e0_3 hb
  replace ox_1_0 := ox_1_0.bel hb
  replace oz_1_0 := oz_1_0.bel hb
  replace B := bel2 B hb
  have zw15 := hb.size
  clear hb
  refine (eqSameI _ ox_1_0.reads oz_1_0.reads l1_0.out M1_0).mono ?_
  rintro e w16 ⟨rfl, hb⟩
  replace e0_0 := cellB e0_0 hb
  replace e0_1 := cellB e0_1 hb
  replace e0_2 := cellB e0_2 hb
  replace e0_3 := cellB e0_3 hb
  replace ox_1_0 := ox_1_0.bel hb
  replace oz_1_0 := oz_1_0.bel hb
  replace B := bel2 B hb
  have zw16 := hb.size
  clear hb
  clear oz_1_0
  go_wp2
  go_ret
  exact ⟨rfl, bel2 B (by repeat' (first | assumption | exact Below.refl _ _ | refine Below.drew ?_ | refine Below.alloc ?_ (by first | omega | (simp; done) | (simp; omega)) _))⟩
end Go.Proofs.Ythpaampkpajdfaa
