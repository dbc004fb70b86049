/- The walk of the law FnExactJoinTrains. No condition. -/
import Derived.Test.YtmdipidejmnijaaJoin
import Derived.Deep.RegionHeld3
namespace Go.Proofs.Ytmdipidejmnijaa
open Go.RowKit
set_option linter.unusedVariables false

set_option maxRecDepth 100000 in
set_option maxHeartbeats 3200000 in
theorem lJoinTrains {A0_0 : Option Addr} {n0_0 c0_0 : Nat} {x0_0 : List (Int × Int)} {A1_0 : Option Addr} {n1_0 c1_0 : Nat} {x1_0 : List (Int × Int)} (w : World) (h0_0 : PairRow w A0_0 n0_0 c0_0 x0_0) (h1_0 : PairRow w A1_0 n1_0 c1_0 x1_0) :
    Calls Try.prog 5 #[.slice A0_0 n0_0 c0_0, .slice A1_0 n1_0 c1_0] w fun e w' => e = .returned (.bool true) ∧ Below w.heap.size w w' := by
  have r0_0 := h0_0.reads; have l0_0 := Lib.hid h0_0.len; have M0_0 : n0_0 ≤ maxLen := Nat.le_trans h0_0.nc h0_0.cm
  have r1_0 := h1_0.reads; have l1_0 := Lib.hid h1_0.len; have M1_0 : n1_0 ≤ maxLen := Nat.le_trans h1_0.nc h1_0.cm
  by_cases t0 : (n0_0 : Int) ≤ 1048576
  rotate_left
  · have S0 : Hid (szI n0_0 (1048576) = -1) := by unfold Hid szI; rw [if_neg t0]
    go_enter Try.func5, Try.ntmps5
    have B : Below w.heap.size w w := Below.refl _ _
    go_wp2_with fail
    refine absW ?_
    intro w1 hw
    have hb : Below w.heap.size w w1 := by rw [hw]; exact (by repeat' (first | assumption | exact Below.refl _ _ | refine Below.drew ?_ | refine Below.alloc ?_ (by first | omega | (simp; done) | (simp; omega)) _))
    clear hw
    replace B := bel2 B hb
    have zw1 := hb.size
    clear hb
    refine (szGearPairS _ _ M0_0 (by omega) (by omega)).mono ?_
    rintro e w2 ⟨rfl, rfl⟩
    rw [S0.out]
    go_wp2
    go_ret
    exact ⟨rfl, bel2 B (by repeat' (first | assumption | exact Below.refl _ _ | refine Below.drew ?_ | refine Below.alloc ?_ (by first | omega | (simp; done) | (simp; omega)) _))⟩
  have S0 : Hid (szI n0_0 (1048576) = 1048576 - n0_0) := by unfold Hid szI; rw [if_pos t0]
  have m0_0 : n0_0 ≤ 1048576 := by omega
  have q0 : 0 ≤ 1048576 - n0_0 := by omega
  by_cases t1 : (n1_0 : Int) ≤ 1048576 - n0_0
  rotate_left
  · have S1 : Hid (szI n1_0 (1048576 - n0_0) = -1) := by unfold Hid szI; rw [if_neg t1]
    go_enter Try.func5, Try.ntmps5
    have B : Below w.heap.size w w := Below.refl _ _
    go_wp2_with fail
    refine absW ?_
    intro w1 hw
    have hb : Below w.heap.size w w1 := by rw [hw]; exact (by repeat' (first | assumption | exact Below.refl _ _ | refine Below.drew ?_ | refine Below.alloc ?_ (by first | omega | (simp; done) | (simp; omega)) _))
    clear hw
    replace B := bel2 B hb
    have zw1 := hb.size
    clear hb
    refine (szGearPairS _ _ M0_0 (by omega) (by omega)).mono ?_
    rintro e w2 ⟨rfl, rfl⟩
    rw [S0.out]
    go_wp2_with fail
    refine absW ?_
    intro w2 hw
    have hb : Below w1.heap.size w1 w2 := by rw [hw]; exact (by repeat' (first | assumption | exact Below.refl _ _ | refine Below.drew ?_ | refine Below.alloc ?_ (by first | omega | (simp; done) | (simp; omega)) _))
    clear hw
    replace B := bel2 B hb
    have zw2 := hb.size
    clear hb
    refine (szGearPairS _ _ M1_0 (by omega) (by omega)).mono ?_
    rintro e w3 ⟨rfl, rfl⟩
    rw [S1.out]
    go_wp2
    go_ret
    exact ⟨rfl, bel2 B (by repeat' (first | assumption | exact Below.refl _ _ | refine Below.drew ?_ | refine Below.alloc ?_ (by first | omega | (simp; done) | (simp; omega)) _))⟩
  have S1 : Hid (szI n1_0 (1048576 - n0_0) = 1048576 - n0_0 - n1_0) := by unfold Hid szI; rw [if_pos t1]
  have m1_0 : n1_0 ≤ 1048576 := by omega
  have q1 : 0 ≤ 1048576 - n0_0 - n1_0 := by omega
  go_enter Try.func5, Try.ntmps5
  have B : Below w.heap.size w w := Below.refl _ _
  go_wp2_with fail
  refine absW ?_
  intro w1 hw
  have hb : Below w.heap.size w w1 := by rw [hw]; exact (by repeat' (first | assumption | exact Below.refl _ _ | refine Below.drew ?_ | refine Below.alloc ?_ (by first | omega | (simp; done) | (simp; omega)) _))
  clear hw
  replace B := bel2 B hb
  have zw1 := hb.size
  clear hb
  refine (szGearPairS _ _ M0_0 (by omega) (by omega)).mono ?_
  rintro e w2 ⟨rfl, rfl⟩
  rw [S0.out]
  go_wp2_with fail
  refine absW ?_
  intro w2 hw
  have hb : Below w1.heap.size w1 w2 := by rw [hw]; exact (by repeat' (first | assumption | exact Below.refl _ _ | refine Below.drew ?_ | refine Below.alloc ?_ (by first | omega | (simp; done) | (simp; omega)) _))
  clear hw
  replace B := bel2 B hb
  have zw2 := hb.size
  clear hb
  refine (szGearPairS _ _ M1_0 (by omega) (by omega)).mono ?_
  rintro e w3 ⟨rfl, rfl⟩
  rw [S1.out]
  go_wp2_with fail
  refine absW ?_
  intro w3 hw
  have hb : Below w2.heap.size w2 w3 := by rw [hw]; exact (by repeat' (first | assumption | exact Below.refl _ _ | refine Below.drew ?_ | refine Below.alloc ?_ (by first | omega | (simp; done) | (simp; omega)) _))
  clear hw
  replace B := bel2 B hb
  have zw3 := hb.size
  clear hb
  refine (toGearPairS _ (rdB r0_0 B) l0_0.out m0_0).mono ?_
  rintro e w4 ⟨vs_0_0, rfl, os_0_0, hb⟩
  replace B := bel2 B hb
  have zw4 := hb.size
  clear hb
  obtain ⟨As_0_0, cs_0_0, rfl, _, _⟩ := os_0_0.form
  go_wp2_with fail
  refine absW ?_
  intro w5 hw
  have hb : Below w4.heap.size w4 w5 := by rw [hw]; exact (by repeat' (first | assumption | exact Below.refl _ _ | refine Below.drew ?_ | refine Below.alloc ?_ (by first | omega | (simp; done) | (simp; omega)) _))
  clear hw
  replace os_0_0 := os_0_0.bel hb
  replace B := bel2 B hb
  have zw5 := hb.size
  clear hb
  refine (toGearPairS _ (rdB r1_0 B) l1_0.out m1_0).mono ?_
  rintro e w6 ⟨vs_1_0, rfl, os_1_0, hb⟩
  replace os_0_0 := os_0_0.bel hb
  replace B := bel2 B hb
  have zw6 := hb.size
  clear hb
  obtain ⟨As_1_0, cs_1_0, rfl, _, _⟩ := os_1_0.form
  go_wp2_with fail
  refine absW ?_
  intro w7 hw
  have hb : Below w6.heap.size w6 w7 := by rw [hw]; exact (by repeat' (first | assumption | exact Below.refl _ _ | refine Below.drew ?_ | refine Below.alloc ?_ (by first | omega | (simp; done) | (simp; omega)) _))
  clear hw
  replace os_0_0 := os_0_0.bel hb
  replace os_1_0 := os_1_0.bel hb
  replace B := bel2 B hb
  have zw7 := hb.size
  clear hb
  refine (sJoin _ os_0_0.reads os_1_0.reads l0_0.out l1_0.out M0_0 M1_0).mono ?_
  rintro e w8 ⟨vw0_0, rfl, ow0_0, hb⟩
  replace os_0_0 := os_0_0.bel hb
  replace os_1_0 := os_1_0.bel hb
  replace B := bel2 B hb
  have zw8 := hb.size
  clear hb
  obtain ⟨Aw0_0, cw0_0, rfl, fow0_0, kow0_0⟩ := ow0_0.form
  clear os_0_0
  clear os_1_0
  go_wp2_with fail
  refine absW ?_
  intro w9 hw
  have hb : Below w8.heap.size w8 w9 := by rw [hw]; exact (by repeat' (first | assumption | exact Below.refl _ _ | refine Below.drew ?_ | refine Below.alloc ?_ (by first | omega | (simp; done) | (simp; omega)) _))
  clear hw
  replace ow0_0 := ow0_0.bel hb
  replace B := bel2 B hb
  have zw9 := hb.size
  clear hb
  refine (toGearPairS _ (rdB r0_0 B) l0_0.out m0_0).mono ?_
  rintro e w10 ⟨vx_0_0, rfl, ox_0_0, hb⟩
  replace ow0_0 := ow0_0.bel hb
  replace B := bel2 B hb
  have zw10 := hb.size
  clear hb
  obtain ⟨Ax_0_0, cx_0_0, rfl, _, _⟩ := ox_0_0.form
  go_wp2_with fail
  refine absW ?_
  intro w11 hw
  have hb : Below w10.heap.size w10 w11 := by rw [hw]; exact (by repeat' (first | assumption | exact Below.refl _ _ | refine Below.drew ?_ | refine Below.alloc ?_ (by first | omega | (simp; done) | (simp; omega)) _))
  clear hw
  replace ow0_0 := ow0_0.bel hb
  replace ox_0_0 := ox_0_0.bel hb
  replace B := bel2 B hb
  have zw11 := hb.size
  clear hb
  refine (toGearPairS _ (rdB r1_0 B) l1_0.out m1_0).mono ?_
  rintro e w12 ⟨vx_1_0, rfl, ox_1_0, hb⟩
  replace ow0_0 := ow0_0.bel hb
  replace ox_0_0 := ox_0_0.bel hb
  replace B := bel2 B hb
  have zw12 := hb.size
  clear hb
  obtain ⟨Ax_1_0, cx_1_0, rfl, _, _⟩ := ox_1_0.form
  go_wp2_with fail
  refine absW ?_
  intro w13 hw
  have hb : Below w12.heap.size w12 w13 := by rw [hw]; exact (by repeat' (first | assumption | exact Below.refl _ _ | refine Below.drew ?_ | refine Below.alloc ?_ (by first | omega | (simp; done) | (simp; omega)) _))
  clear hw
  replace ow0_0 := ow0_0.bel hb
  replace ox_0_0 := ox_0_0.bel hb
  replace ox_1_0 := ox_1_0.bel hb
  replace B := bel2 B hb
  have zw13 := hb.size
  clear hb
  refine (iJoin _ ox_0_0.reads ox_1_0.reads l0_0.out l1_0.out M0_0 M1_0).mono ?_
  rintro e w14 ⟨vg0_0, rfl, og0_0, hb⟩
  replace ow0_0 := ow0_0.bel hb
  replace ox_0_0 := ox_0_0.bel hb
  replace ox_1_0 := ox_1_0.bel hb
  replace B := bel2 B hb
  have zw14 := hb.size
  clear hb
  obtain ⟨Ag0_0, cg0_0, rfl, fog0_0, kog0_0⟩ := og0_0.form
  go_wp2_with fail
  refine absW ?_
  intro w15 hw
  have hb : Below w14.heap.size w14 w15 := by rw [hw]; exact (by repeat' (first | assumption | exact Below.refl _ _ | refine Below.drew ?_ | refine Below.alloc ?_ (by first | omega | (simp; done) | (simp; omega)) _))
  clear hw
  replace ow0_0 := ow0_0.bel hb
  replace ox_0_0 := ox_0_0.bel hb
  replace ox_1_0 := ox_1_0.bel hb
  replace og0_0 := og0_0.bel hb
  replace B := bel2 B hb
  have zw15 := hb.size
  clear hb
  refine (eqGearPairS _ og0_0.reads ow0_0.reads (by have := ow0_0.row.1; rw [flat_length encPair_length] at this; omega) (Nat.le_trans fow0_0 kow0_0)).mono ?_
  rintro e w16 ⟨rfl, hb⟩
  replace ow0_0 := ow0_0.bel hb
  replace ox_0_0 := ox_0_0.bel hb
  replace ox_1_0 := ox_1_0.bel hb
  replace og0_0 := og0_0.bel hb
  replace B := bel2 B hb
  have zw16 := hb.size
  clear hb
  go_wp2_with fail
  refine absW ?_
  intro w17 hw
  have hb : Below w16.heap.size w16 w17 := by rw [hw]; exact (by repeat' (first | assumption | exact Below.refl _ _ | refine Below.drew ?_ | refine Below.alloc ?_ (by first | omega | (simp; done) | (simp; omega)) _))
  clear hw
  replace ow0_0 := ow0_0.bel hb
  replace ox_0_0 := ox_0_0.bel hb
  replace ox_1_0 := ox_1_0.bel hb
  replace og0_0 := og0_0.bel hb
  replace B := bel2 B hb
  have zw17 := hb.size
  clear hb
  refine (toGearPairS _ (rdB r0_0 B) l0_0.out m0_0).mono ?_
  rintro e w18 ⟨vz_0_0, rfl, oz_0_0, hb⟩
  replace ow0_0 := ow0_0.bel hb
  replace ox_0_0 := ox_0_0.bel hb
  replace ox_1_0 := ox_1_0.bel hb
  replace og0_0 := og0_0.bel hb
  replace B := bel2 B hb
  have zw18 := hb.size
  clear hb
  obtain ⟨Az_0_0, cz_0_0, rfl, _, _⟩ := oz_0_0.form
  go_wp2_with fail
  refine absW ?_
  intro w19 hw
  have hb : Below w18.heap.size w18 w19 := by rw [hw]; exact (by repeat' (first | assumption | exact Below.refl _ _ | refine Below.drew ?_ | refine Below.alloc ?_ (by first | omega | (simp; done) | (simp; omega)) _))
  clear hw
  replace ow0_0 := ow0_0.bel hb
  replace ox_0_0 := ox_0_0.bel hb
  replace ox_1_0 := ox_1_0.bel hb
  replace og0_0 := og0_0.bel hb
  replace oz_0_0 := oz_0_0.bel hb
  replace B := bel2 B hb
  have zw19 := hb.size
  clear hb
  refine (eqGearPairS _ ox_0_0.reads oz_0_0.reads l0_0.out M0_0).mono ?_
  rintro e w20 ⟨rfl, hb⟩
  replace ow0_0 := ow0_0.bel hb
  replace ox_0_0 := ox_0_0.bel hb
  replace ox_1_0 := ox_1_0.bel hb
  replace og0_0 := og0_0.bel hb
  replace oz_0_0 := oz_0_0.bel hb
  replace B := bel2 B hb
  have zw20 := hb.size
  clear hb
  clear oz_0_0
  go_wp2_with fail
  refine absW ?_
  intro w21 hw
  have hb : Below w20.heap.size w20 w21 := by rw [hw]; exact (by repeat' (first | assumption | exact Below.refl _ _ | refine Below.drew ?_ | refine Below.alloc ?_ (by first | omega | (simp; done) | (simp; omega)) _))
  clear hw
  replace ow0_0 := ow0_0.bel hb
  replace ox_0_0 := ox_0_0.bel hb
  replace ox_1_0 := ox_1_0.bel hb
  replace og0_0 := og0_0.bel hb
  replace B := bel2 B hb
  have zw21 := hb.size
  clear hb
  refine (toGearPairS _ (rdB r1_0 B) l1_0.out m1_0).mono ?_
  rintro e w22 ⟨vz_1_0, rfl, oz_1_0, hb⟩
  replace ow0_0 := ow0_0.bel hb
  replace ox_0_0 := ox_0_0.bel hb
  replace ox_1_0 := ox_1_0.bel hb
  replace og0_0 := og0_0.bel hb
  replace B := bel2 B hb
  have zw22 := hb.size
  clear hb
  obtain ⟨Az_1_0, cz_1_0, rfl, _, _⟩ := oz_1_0.form
  go_wp2_with fail
  refine absW ?_
  intro w23 hw
  have hb : Below w22.heap.size w22 w23 := by rw [hw]; exact (by repeat' (first | assumption | exact Below.refl _ _ | refine Below.drew ?_ | refine Below.alloc ?_ (by first | omega | (simp; done) | (simp; omega)) _))
  clear hw
  replace ow0_0 := ow0_0.bel hb
  replace ox_0_0 := ox_0_0.bel hb
  replace ox_1_0 := ox_1_0.bel hb
  replace og0_0 := og0_0.bel hb
  replace oz_1_0 := oz_1_0.bel hb
  replace B := bel2 B hb
  have zw23 := hb.size
  clear hb
  refine (eqGearPairS _ ox_1_0.reads oz_1_0.reads l1_0.out M1_0).mono ?_
  rintro e w24 ⟨rfl, hb⟩
  replace ow0_0 := ow0_0.bel hb
  replace ox_0_0 := ox_0_0.bel hb
  replace ox_1_0 := ox_1_0.bel hb
  replace og0_0 := og0_0.bel hb
  replace oz_1_0 := oz_1_0.bel hb
  replace B := bel2 B hb
  have zw24 := hb.size
  clear hb
  clear oz_1_0
  go_wp2_with fail
  refine absW ?_
  intro w25 hw
  have hb : Below w24.heap.size w24 w25 := by rw [hw]; exact (by repeat' (first | assumption | exact Below.refl _ _ | refine Below.drew ?_ | refine Below.alloc ?_ (by first | omega | (simp; done) | (simp; omega)) _))
  clear hw
  replace ow0_0 := ow0_0.bel hb
  replace ox_0_0 := ox_0_0.bel hb
  replace ox_1_0 := ox_1_0.bel hb
  replace og0_0 := og0_0.bel hb
  replace B := bel2 B hb
  have zw25 := hb.size
  clear hb
  refine (markGearPairS _ _ ox_0_0 (by omega) (by omega) (by omega)).mono ?_
  rintro e w26 ⟨rfl, p0, ht⟩
  clear ox_0_0; have ox_0_0 := p0; clear p0
  replace ow0_0 := ow0_0.touch ht (by omega)
  replace ox_1_0 := ox_1_0.touch ht (by omega)
  replace og0_0 := og0_0.touch ht (by omega)
  replace B := Touch.below B ht B.size (by omega)
  have zw26 := ht.size
  clear ht
  go_wp2_with fail
  refine absW ?_
  intro w27 hw
  have hb : Below w26.heap.size w26 w27 := by rw [hw]; exact (by repeat' (first | assumption | exact Below.refl _ _ | refine Below.drew ?_ | refine Below.alloc ?_ (by first | omega | (simp; done) | (simp; omega)) _))
  clear hw
  replace ow0_0 := ow0_0.bel hb
  replace ox_0_0 := ox_0_0.bel hb
  replace ox_1_0 := ox_1_0.bel hb
  replace og0_0 := og0_0.bel hb
  replace B := bel2 B hb
  have zw27 := hb.size
  clear hb
  refine (markGearPairS _ _ ox_1_0 (by omega) (by omega) (by omega)).mono ?_
  rintro e w28 ⟨rfl, p0, ht⟩
  clear ox_1_0; have ox_1_0 := p0; clear p0
  replace ow0_0 := ow0_0.touch ht (by omega)
  replace ox_0_0 := ox_0_0.touch ht (by omega)
  replace og0_0 := og0_0.touch ht (by omega)
  replace B := Touch.below B ht B.size (by omega)
  have zw28 := ht.size
  clear ht
  go_wp2_with fail
  refine absW ?_
  intro w29 hw
  have hb : Below w28.heap.size w28 w29 := by rw [hw]; exact (by repeat' (first | assumption | exact Below.refl _ _ | refine Below.drew ?_ | refine Below.alloc ?_ (by first | omega | (simp; done) | (simp; omega)) _))
  clear hw
  replace ow0_0 := ow0_0.bel hb
  replace ox_0_0 := ox_0_0.bel hb
  replace ox_1_0 := ox_1_0.bel hb
  replace og0_0 := og0_0.bel hb
  replace B := bel2 B hb
  have zw29 := hb.size
  clear hb
  refine (eqGearPairS _ og0_0.reads ow0_0.reads (by have := ow0_0.row.1; rw [flat_length encPair_length] at this; omega) (Nat.le_trans fow0_0 kow0_0)).mono ?_
  rintro e w30 ⟨rfl, hb⟩
  replace ow0_0 := ow0_0.bel hb
  replace ox_0_0 := ox_0_0.bel hb
  replace ox_1_0 := ox_1_0.bel hb
  replace og0_0 := og0_0.bel hb
  replace B := bel2 B hb
  have zw30 := hb.size
  clear hb
  go_wp2_with fail
  refine absW ?_
  intro w31 hw
  have hb : Below w30.heap.size w30 w31 := by rw [hw]; exact (by repeat' (first | assumption | exact Below.refl _ _ | refine Below.drew ?_ | refine Below.alloc ?_ (by first | omega | (simp; done) | (simp; omega)) _))
  clear hw
  replace ow0_0 := ow0_0.bel hb
  replace ox_0_0 := ox_0_0.bel hb
  replace ox_1_0 := ox_1_0.bel hb
  replace og0_0 := og0_0.bel hb
  replace B := bel2 B hb
  have zw31 := hb.size
  clear hb
  refine (markGearPairS _ _ og0_0 (jtN_le _ _) (by omega) (by omega)).mono ?_
  rintro e w32 ⟨rfl, p0, ht⟩
  clear og0_0; have og0_0 := p0; clear p0
  replace ow0_0 := ow0_0.touch ht (by omega)
  replace ox_0_0 := ox_0_0.touch ht (by omega)
  replace ox_1_0 := ox_1_0.touch ht (by omega)
  replace B := Touch.below B ht B.size (by omega)
  have zw32 := ht.size
  clear ht
  go_wp2_with fail
  refine absW ?_
  intro w33 hw
  have hb : Below w32.heap.size w32 w33 := by rw [hw]; exact (by repeat' (first | assumption | exact Below.refl _ _ | refine Below.drew ?_ | refine Below.alloc ?_ (by first | omega | (simp; done) | (simp; omega)) _))
  clear hw
  replace ow0_0 := ow0_0.bel hb
  replace ox_0_0 := ox_0_0.bel hb
  replace ox_1_0 := ox_1_0.bel hb
  replace og0_0 := og0_0.bel hb
  replace B := bel2 B hb
  have zw33 := hb.size
  clear hb
  refine (heldGearPairS _ _ og0_0.reads (jtN_le _ _) (by omega) (by omega)).mono ?_
  rintro e w34 ⟨rfl, rfl⟩
  go_wp2_with fail
  refine absW ?_
  intro w34 hw
  have hb : Below w33.heap.size w33 w34 := by rw [hw]; exact (by repeat' (first | assumption | exact Below.refl _ _ | refine Below.drew ?_ | refine Below.alloc ?_ (by first | omega | (simp; done) | (simp; omega)) _))
  clear hw
  replace ow0_0 := ow0_0.bel hb
  replace ox_0_0 := ox_0_0.bel hb
  replace ox_1_0 := ox_1_0.bel hb
  replace og0_0 := og0_0.bel hb
  replace B := bel2 B hb
  have zw34 := hb.size
  clear hb
  refine (toGearPairS _ (rdB r0_0 B) l0_0.out m0_0).mono ?_
  rintro e w35 ⟨vy_0_0, rfl, oy_0_0, hb⟩
  replace ow0_0 := ow0_0.bel hb
  replace ox_0_0 := ox_0_0.bel hb
  replace ox_1_0 := ox_1_0.bel hb
  replace og0_0 := og0_0.bel hb
  replace B := bel2 B hb
  have zw35 := hb.size
  clear hb
  obtain ⟨Ay_0_0, cy_0_0, rfl, _, _⟩ := oy_0_0.form
  go_wp2_with fail
  refine absW ?_
  intro w36 hw
  have hb : Below w35.heap.size w35 w36 := by rw [hw]; exact (by repeat' (first | assumption | exact Below.refl _ _ | refine Below.drew ?_ | refine Below.alloc ?_ (by first | omega | (simp; done) | (simp; omega)) _))
  clear hw
  replace ow0_0 := ow0_0.bel hb
  replace ox_0_0 := ox_0_0.bel hb
  replace ox_1_0 := ox_1_0.bel hb
  replace og0_0 := og0_0.bel hb
  replace oy_0_0 := oy_0_0.bel hb
  replace B := bel2 B hb
  have zw36 := hb.size
  clear hb
  refine (toGearPairS _ (rdB r1_0 B) l1_0.out m1_0).mono ?_
  rintro e w37 ⟨vy_1_0, rfl, oy_1_0, hb⟩
  replace ow0_0 := ow0_0.bel hb
  replace ox_0_0 := ox_0_0.bel hb
  replace ox_1_0 := ox_1_0.bel hb
  replace og0_0 := og0_0.bel hb
  replace oy_0_0 := oy_0_0.bel hb
  replace B := bel2 B hb
  have zw37 := hb.size
  clear hb
  obtain ⟨Ay_1_0, cy_1_0, rfl, _, _⟩ := oy_1_0.form
  go_wp2_with fail
  refine absW ?_
  intro w38 hw
  have hb : Below w37.heap.size w37 w38 := by rw [hw]; exact (by repeat' (first | assumption | exact Below.refl _ _ | refine Below.drew ?_ | refine Below.alloc ?_ (by first | omega | (simp; done) | (simp; omega)) _))
  clear hw
  replace ow0_0 := ow0_0.bel hb
  replace ox_0_0 := ox_0_0.bel hb
  replace ox_1_0 := ox_1_0.bel hb
  replace og0_0 := og0_0.bel hb
  replace oy_0_0 := oy_0_0.bel hb
  replace oy_1_0 := oy_1_0.bel hb
  replace B := bel2 B hb
  have zw38 := hb.size
  clear hb
  refine (iJoin _ oy_0_0.reads oy_1_0.reads l0_0.out l1_0.out M0_0 M1_0).mono ?_
  rintro e w39 ⟨vh0_0, rfl, oh0_0, hb⟩
  replace ow0_0 := ow0_0.bel hb
  replace ox_0_0 := ox_0_0.bel hb
  replace ox_1_0 := ox_1_0.bel hb
  replace og0_0 := og0_0.bel hb
  replace oy_0_0 := oy_0_0.bel hb
  replace oy_1_0 := oy_1_0.bel hb
  replace B := bel2 B hb
  have zw39 := hb.size
  clear hb
  obtain ⟨Ah0_0, ch0_0, rfl, foh0_0, koh0_0⟩ := oh0_0.form
  go_wp2_with fail
  refine absW ?_
  intro w40 hw
  have hb : Below w39.heap.size w39 w40 := by rw [hw]; exact (by repeat' (first | assumption | exact Below.refl _ _ | refine Below.drew ?_ | refine Below.alloc ?_ (by first | omega | (simp; done) | (simp; omega)) _))
  clear hw
  replace ow0_0 := ow0_0.bel hb
  replace ox_0_0 := ox_0_0.bel hb
  replace ox_1_0 := ox_1_0.bel hb
  replace og0_0 := og0_0.bel hb
  replace oy_0_0 := oy_0_0.bel hb
  replace oy_1_0 := oy_1_0.bel hb
  replace oh0_0 := oh0_0.bel hb
  replace B := bel2 B hb
  have zw40 := hb.size
  clear hb
  refine (eqGearPairS _ oh0_0.reads ow0_0.reads (by have := ow0_0.row.1; rw [flat_length encPair_length] at this; omega) (Nat.le_trans fow0_0 kow0_0)).mono ?_
  rintro e w41 ⟨rfl, hb⟩
  replace ow0_0 := ow0_0.bel hb
  replace ox_0_0 := ox_0_0.bel hb
  replace ox_1_0 := ox_1_0.bel hb
  replace og0_0 := og0_0.bel hb
  replace oy_0_0 := oy_0_0.bel hb
  replace oy_1_0 := oy_1_0.bel hb
  replace oh0_0 := oh0_0.bel hb
  replace B := bel2 B hb
  have zw41 := hb.size
  clear hb
  go_wp2_with fail
  refine absW ?_
  intro w42 hw
  have hb : Below w41.heap.size w41 w42 := by rw [hw]; exact (by repeat' (first | assumption | exact Below.refl _ _ | refine Below.drew ?_ | refine Below.alloc ?_ (by first | omega | (simp; done) | (simp; omega)) _))
  clear hw
  replace ow0_0 := ow0_0.bel hb
  replace ox_0_0 := ox_0_0.bel hb
  replace ox_1_0 := ox_1_0.bel hb
  replace og0_0 := og0_0.bel hb
  replace oy_0_0 := oy_0_0.bel hb
  replace oy_1_0 := oy_1_0.bel hb
  replace oh0_0 := oh0_0.bel hb
  replace B := bel2 B hb
  have zw42 := hb.size
  clear hb
  refine (heldGearPairS _ _ og0_0.reads (jtN_le _ _) (by omega) (by omega)).mono ?_
  rintro e w43 ⟨rfl, rfl⟩
  go_wp2
  go_ret
  exact ⟨rfl, bel2 B (by repeat' (first | assumption | exact Below.refl _ _ | refine Below.drew ?_ | refine Below.alloc ?_ (by first | omega | (simp; done) | (simp; omega)) _))⟩
end Go.Proofs.Ytmdipidejmnijaa
