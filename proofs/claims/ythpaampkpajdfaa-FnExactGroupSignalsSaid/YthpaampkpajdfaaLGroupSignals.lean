/- The walk of the law FnExactGroupSignals. No condition. -/
import Derived.Test.YthpaampkpajdfaaGrpI
import Derived.Deep.RegionHeld3
namespace Go.Proofs.Ythpaampkpajdfaa
open Go.RowKit
set_option linter.unusedVariables false

set_option maxRecDepth 100000 in
set_option maxHeartbeats 3200000 in
theorem lGroupSignals {A0_0 : Option Addr} {n0_0 c0_0 : Nat} {x0_0 : List (Bool × Bool)} {a1 : Int} (w : World) (h0_0 : SigRow w A0_0 n0_0 c0_0 x0_0) (wa1 : inI a1) :
    Calls Try.prog 11 #[.slice A0_0 n0_0 c0_0, .int .i64 a1] w fun e w' => e = .returned (.bool true) ∧ Below w.heap.size w w' := by
  have r0_0 := h0_0.reads; have l0_0 := Lib.hid h0_0.len; have M0_0 : n0_0 ≤ maxLen := Nat.le_trans h0_0.nc h0_0.cm
  by_cases t0 : (n0_0 : Int) ≤ 1048576
  rotate_left
  · have S0 : Hid (szI n0_0 (1048576) = -1) := by unfold Hid szI; rw [if_neg t0]
    go_enter Try.func11, Try.ntmps11
    have B : Below w.heap.size w w := Below.refl _ _
    go_wp2_with fail
    refine absW ?_
    intro w1 hw
    have hb : Below w.heap.size w w1 := by rw [hw]; exact (by repeat' (first | assumption | exact Below.refl _ _ | refine Below.drew ?_ | refine Below.alloc ?_ (by first | omega | (simp; done) | (simp; omega)) _))
    clear hw
    replace B := bel2 B hb
    have zw1 := hb.size
    clear hb
    refine (szSignalS _ _ M0_0 (by omega) (by omega)).mono ?_
    rintro e w2 ⟨rfl, rfl⟩
    rw [S0.out]
    go_wp2
    go_ret
    exact ⟨rfl, bel2 B (by repeat' (first | assumption | exact Below.refl _ _ | refine Below.drew ?_ | refine Below.alloc ?_ (by first | omega | (simp; done) | (simp; omega)) _))⟩
  have S0 : Hid (szI n0_0 (1048576) = 1048576 - n0_0) := by unfold Hid szI; rw [if_pos t0]
  have m0_0 : n0_0 ≤ 1048576 := by omega
  have q0 : 0 ≤ 1048576 - n0_0 := by omega
  go_enter Try.func11, Try.ntmps11
  have B : Below w.heap.size w w := Below.refl _ _
  go_wp2_with fail
  refine absW ?_
  intro w1 hw
  have hb : Below w.heap.size w w1 := by rw [hw]; exact (by repeat' (first | assumption | exact Below.refl _ _ | refine Below.drew ?_ | refine Below.alloc ?_ (by first | omega | (simp; done) | (simp; omega)) _))
  clear hw
  replace B := bel2 B hb
  have zw1 := hb.size
  clear hb
  refine (szSignalS _ _ M0_0 (by omega) (by omega)).mono ?_
  rintro e w2 ⟨rfl, rfl⟩
  rw [S0.out]
  go_wp2_with fail
  refine absW ?_
  intro w2 hw
  have hb : Below w1.heap.size w1 w2 := by rw [hw]; exact (by repeat' (first | assumption | exact Below.refl _ _ | refine Below.drew ?_ | refine Below.alloc ?_ (by first | omega | (simp; done) | (simp; omega)) _))
  clear hw
  replace B := bel2 B hb
  have zw2 := hb.size
  clear hb
  refine (toSignalS _ (rdB r0_0 B) l0_0.out m0_0).mono ?_
  rintro e w3 ⟨vs_0_0, rfl, os_0_0, hb⟩
  replace B := bel2 B hb
  have zw3 := hb.size
  clear hb
  obtain ⟨As_0_0, cs_0_0, rfl, fos_0_0, _⟩ := os_0_0.form
  go_wp2_with fail
  refine absW ?_
  intro w4 hw
  have hb : Below w3.heap.size w3 w4 := by rw [hw]; exact (by repeat' (first | assumption | exact Below.refl _ _ | refine Below.drew ?_ | refine Below.alloc ?_ (by first | omega | (simp; done) | (simp; omega)) _))
  clear hw
  replace os_0_0 := os_0_0.bel hb
  replace B := bel2 B hb
  have zw4 := hb.size
  clear hb
  refine (sGroupSignals _ os_0_0.reads l0_0.out M0_0 fos_0_0).mono ?_
  rintro e w5 ⟨vw0_0, rfl, ow0_0, hb⟩
  replace os_0_0 := os_0_0.bel hb
  replace B := bel2 B hb
  have zw5 := hb.size
  clear hb
  obtain ⟨Aw0_0, cw0_0, rfl, fow0_0, kow0_0⟩ := ow0_0.form
  clear os_0_0
  go_wp2_with fail
  refine absW ?_
  intro w6 hw
  have hb : Below w5.heap.size w5 w6 := by rw [hw]; exact (by repeat' (first | assumption | exact Below.refl _ _ | refine Below.drew ?_ | refine Below.alloc ?_ (by first | omega | (simp; done) | (simp; omega)) _))
  clear hw
  replace ow0_0 := ow0_0.bel hb
  replace B := bel2 B hb
  have zw6 := hb.size
  clear hb
  refine (toSignalS _ (rdB r0_0 B) l0_0.out m0_0).mono ?_
  rintro e w7 ⟨vx_0_0, rfl, ox_0_0, hb⟩
  replace ow0_0 := ow0_0.bel hb
  replace B := bel2 B hb
  have zw7 := hb.size
  clear hb
  obtain ⟨Ax_0_0, cx_0_0, rfl, fox_0_0, _⟩ := ox_0_0.form
  go_wp2_with fail
  refine absW ?_
  intro w8 hw
  have hb : Below w7.heap.size w7 w8 := by rw [hw]; exact (by repeat' (first | assumption | exact Below.refl _ _ | refine Below.drew ?_ | refine Below.alloc ?_ (by first | omega | (simp; done) | (simp; omega)) _))
  clear hw
  replace ow0_0 := ow0_0.bel hb
  replace ox_0_0 := ox_0_0.bel hb
  replace B := bel2 B hb
  have zw8 := hb.size
  clear hb
  refine (iGroupSignals _ ox_0_0.reads l0_0.out M0_0 fox_0_0).mono ?_
  rintro e w9 ⟨vg0_0, rfl, og0_0, hb⟩
  replace ow0_0 := ow0_0.bel hb
  replace ox_0_0 := ox_0_0.bel hb
  replace B := bel2 B hb
  have zw9 := hb.size
  clear hb
  obtain ⟨Ag0_0, cg0_0, rfl, fog0_0, kog0_0⟩ := og0_0.form
  go_wp2_with fail
  refine absW ?_
  intro w10 hw
  have hb : Below w9.heap.size w9 w10 := by rw [hw]; exact (by repeat' (first | assumption | exact Below.refl _ _ | refine Below.drew ?_ | refine Below.alloc ?_ (by first | omega | (simp; done) | (simp; omega)) _))
  clear hw
  replace ow0_0 := ow0_0.bel hb
  replace ox_0_0 := ox_0_0.bel hb
  replace og0_0 := og0_0.bel hb
  replace B := bel2 B hb
  have zw10 := hb.size
  clear hb
  refine (eqSignalS _ og0_0.reads ow0_0.reads (by have := ow0_0.row.1; rw [flat_length encSig_length] at this; omega) (Nat.le_trans fow0_0 kow0_0)).mono ?_
  rintro e w11 ⟨rfl, hb⟩
  replace ow0_0 := ow0_0.bel hb
  replace ox_0_0 := ox_0_0.bel hb
  replace og0_0 := og0_0.bel hb
  replace B := bel2 B hb
  have zw11 := hb.size
  clear hb
  go_wp2_with fail
  refine absW ?_
  intro w12 hw
  have hb : Below w11.heap.size w11 w12 := by rw [hw]; exact (by repeat' (first | assumption | exact Below.refl _ _ | refine Below.drew ?_ | refine Below.alloc ?_ (by first | omega | (simp; done) | (simp; omega)) _))
  clear hw
  replace ow0_0 := ow0_0.bel hb
  replace ox_0_0 := ox_0_0.bel hb
  replace og0_0 := og0_0.bel hb
  replace B := bel2 B hb
  have zw12 := hb.size
  clear hb
  refine (toSignalS _ (rdB r0_0 B) l0_0.out m0_0).mono ?_
  rintro e w13 ⟨vz_0_0, rfl, oz_0_0, hb⟩
  replace ow0_0 := ow0_0.bel hb
  replace ox_0_0 := ox_0_0.bel hb
  replace og0_0 := og0_0.bel hb
  replace B := bel2 B hb
  have zw13 := hb.size
  clear hb
  obtain ⟨Az_0_0, cz_0_0, rfl, foz_0_0, _⟩ := oz_0_0.form
  go_wp2_with fail
  refine absW ?_
  intro w14 hw
  have hb : Below w13.heap.size w13 w14 := by rw [hw]; exact (by repeat' (first | assumption | exact Below.refl _ _ | refine Below.drew ?_ | refine Below.alloc ?_ (by first | omega | (simp; done) | (simp; omega)) _))
  clear hw
  replace ow0_0 := ow0_0.bel hb
  replace ox_0_0 := ox_0_0.bel hb
  replace og0_0 := og0_0.bel hb
  replace oz_0_0 := oz_0_0.bel hb
  replace B := bel2 B hb
  have zw14 := hb.size
  clear hb
  refine (eqSignalS _ ox_0_0.reads oz_0_0.reads l0_0.out M0_0).mono ?_
  rintro e w15 ⟨rfl, hb⟩
  replace ow0_0 := ow0_0.bel hb
  replace ox_0_0 := ox_0_0.bel hb
  replace og0_0 := og0_0.bel hb
  replace oz_0_0 := oz_0_0.bel hb
  replace B := bel2 B hb
  have zw15 := hb.size
  clear hb
  clear oz_0_0
  go_wp2_with fail
  refine absW ?_
  intro w16 hw
  have hb : Below w15.heap.size w15 w16 := by rw [hw]; exact (by repeat' (first | assumption | exact Below.refl _ _ | refine Below.drew ?_ | refine Below.alloc ?_ (by first | omega | (simp; done) | (simp; omega)) _))
  clear hw
  replace ow0_0 := ow0_0.bel hb
  replace ox_0_0 := ox_0_0.bel hb
  replace og0_0 := og0_0.bel hb
  replace B := bel2 B hb
  have zw16 := hb.size
  clear hb
  refine (markSignalS _ _ ox_0_0 (by omega) (by omega) (by omega)).mono ?_
  rintro e w17 ⟨rfl, p0, ht⟩
  clear ox_0_0; have ox_0_0 := p0; clear p0
  replace ow0_0 := ow0_0.touch ht (by omega)
  replace og0_0 := og0_0.touch ht (by omega)
  replace B := Touch.below B ht B.size (by omega)
  have zw17 := ht.size
  clear ht
  go_wp2_with fail
  refine absW ?_
  intro w18 hw
  have hb : Below w17.heap.size w17 w18 := by rw [hw]; exact (by repeat' (first | assumption | exact Below.refl _ _ | refine Below.drew ?_ | refine Below.alloc ?_ (by first | omega | (simp; done) | (simp; omega)) _))
  clear hw
  replace ow0_0 := ow0_0.bel hb
  replace ox_0_0 := ox_0_0.bel hb
  replace og0_0 := og0_0.bel hb
  replace B := bel2 B hb
  have zw18 := hb.size
  clear hb
  refine (eqSignalS _ og0_0.reads ow0_0.reads (by have := ow0_0.row.1; rw [flat_length encSig_length] at this; omega) (Nat.le_trans fow0_0 kow0_0)).mono ?_
  rintro e w19 ⟨rfl, hb⟩
  replace ow0_0 := ow0_0.bel hb
  replace ox_0_0 := ox_0_0.bel hb
  replace og0_0 := og0_0.bel hb
  replace B := bel2 B hb
  have zw19 := hb.size
  clear hb
  go_wp2_with fail
  refine absW ?_
  intro w20 hw
  have hb : Below w19.heap.size w19 w20 := by rw [hw]; exact (by repeat' (first | assumption | exact Below.refl _ _ | refine Below.drew ?_ | refine Below.alloc ?_ (by first | omega | (simp; done) | (simp; omega)) _))
  clear hw
  replace ow0_0 := ow0_0.bel hb
  replace ox_0_0 := ox_0_0.bel hb
  replace og0_0 := og0_0.bel hb
  replace B := bel2 B hb
  have zw20 := hb.size
  clear hb
  refine (markSignalS _ _ og0_0 (gsN_le _ _) (by omega) (by omega)).mono ?_
  rintro e w21 ⟨rfl, p0, ht⟩
  clear og0_0; have og0_0 := p0; clear p0
  replace ow0_0 := ow0_0.touch ht (by omega)
  replace ox_0_0 := ox_0_0.touch ht (by omega)
  replace B := Touch.below B ht B.size (by omega)
  have zw21 := ht.size
  clear ht
  go_wp2_with fail
  refine absW ?_
  intro w22 hw
  have hb : Below w21.heap.size w21 w22 := by rw [hw]; exact (by repeat' (first | assumption | exact Below.refl _ _ | refine Below.drew ?_ | refine Below.alloc ?_ (by first | omega | (simp; done) | (simp; omega)) _))
  clear hw
  replace ow0_0 := ow0_0.bel hb
  replace ox_0_0 := ox_0_0.bel hb
  replace og0_0 := og0_0.bel hb
  replace B := bel2 B hb
  have zw22 := hb.size
  clear hb
  refine (heldSignalS _ _ og0_0.reads (gsN_le _ _) (by omega) (by omega)).mono ?_
  rintro e w23 ⟨rfl, rfl⟩
  go_wp2_with fail
  refine absW ?_
  intro w23 hw
  have hb : Below w22.heap.size w22 w23 := by rw [hw]; exact (by repeat' (first | assumption | exact Below.refl _ _ | refine Below.drew ?_ | refine Below.alloc ?_ (by first | omega | (simp; done) | (simp; omega)) _))
  clear hw
  replace ow0_0 := ow0_0.bel hb
  replace ox_0_0 := ox_0_0.bel hb
  replace og0_0 := og0_0.bel hb
  replace B := bel2 B hb
  have zw23 := hb.size
  clear hb
  refine (toSignalS _ (rdB r0_0 B) l0_0.out m0_0).mono ?_
  rintro e w24 ⟨vy_0_0, rfl, oy_0_0, hb⟩
  replace ow0_0 := ow0_0.bel hb
  replace ox_0_0 := ox_0_0.bel hb
  replace og0_0 := og0_0.bel hb
  replace B := bel2 B hb
  have zw24 := hb.size
  clear hb
  obtain ⟨Ay_0_0, cy_0_0, rfl, foy_0_0, _⟩ := oy_0_0.form
  go_wp2_with fail
  refine absW ?_
  intro w25 hw
  have hb : Below w24.heap.size w24 w25 := by rw [hw]; exact (by repeat' (first | assumption | exact Below.refl _ _ | refine Below.drew ?_ | refine Below.alloc ?_ (by first | omega | (simp; done) | (simp; omega)) _))
  clear hw
  replace ow0_0 := ow0_0.bel hb
  replace ox_0_0 := ox_0_0.bel hb
  replace og0_0 := og0_0.bel hb
  replace oy_0_0 := oy_0_0.bel hb
  replace B := bel2 B hb
  have zw25 := hb.size
  clear hb
  refine (iGroupSignals _ oy_0_0.reads l0_0.out M0_0 foy_0_0).mono ?_
  rintro e w26 ⟨vh0_0, rfl, oh0_0, hb⟩
  replace ow0_0 := ow0_0.bel hb
  replace ox_0_0 := ox_0_0.bel hb
  replace og0_0 := og0_0.bel hb
  replace oy_0_0 := oy_0_0.bel hb
  replace B := bel2 B hb
  have zw26 := hb.size
  clear hb
  obtain ⟨Ah0_0, ch0_0, rfl, foh0_0, koh0_0⟩ := oh0_0.form
  go_wp2_with fail
  refine absW ?_
  intro w27 hw
  have hb : Below w26.heap.size w26 w27 := by rw [hw]; exact (by repeat' (first | assumption | exact Below.refl _ _ | refine Below.drew ?_ | refine Below.alloc ?_ (by first | omega | (simp; done) | (simp; omega)) _))
  clear hw
  replace ow0_0 := ow0_0.bel hb
  replace ox_0_0 := ox_0_0.bel hb
  replace og0_0 := og0_0.bel hb
  replace oy_0_0 := oy_0_0.bel hb
  replace oh0_0 := oh0_0.bel hb
  replace B := bel2 B hb
  have zw27 := hb.size
  clear hb
  refine (eqSignalS _ oh0_0.reads ow0_0.reads (by have := ow0_0.row.1; rw [flat_length encSig_length] at this; omega) (Nat.le_trans fow0_0 kow0_0)).mono ?_
  rintro e w28 ⟨rfl, hb⟩
  replace ow0_0 := ow0_0.bel hb
  replace ox_0_0 := ox_0_0.bel hb
  replace og0_0 := og0_0.bel hb
  replace oy_0_0 := oy_0_0.bel hb
  replace oh0_0 := oh0_0.bel hb
  replace B := bel2 B hb
  have zw28 := hb.size
  clear hb
  go_wp2_with fail
  refine absW ?_
  intro w29 hw
  have hb : Below w28.heap.size w28 w29 := by rw [hw]; exact (by repeat' (first | assumption | exact Below.refl _ _ | refine Below.drew ?_ | refine Below.alloc ?_ (by first | omega | (simp; done) | (simp; omega)) _))
  clear hw
  replace ow0_0 := ow0_0.bel hb
  replace ox_0_0 := ox_0_0.bel hb
  replace og0_0 := og0_0.bel hb
  replace oy_0_0 := oy_0_0.bel hb
  replace oh0_0 := oh0_0.bel hb
  replace B := bel2 B hb
  have zw29 := hb.size
  clear hb
  refine (heldSignalS _ _ og0_0.reads (gsN_le _ _) (by omega) (by omega)).mono ?_
  rintro e w30 ⟨rfl, rfl⟩
  go_wp2
  go_ret
  exact ⟨rfl, bel2 B (by repeat' (first | assumption | exact Below.refl _ _ | refine Below.drew ?_ | refine Below.alloc ?_ (by first | omega | (simp; done) | (simp; omega)) _))⟩
end Go.Proofs.Ythpaampkpajdfaa
