/- The walk of the law FnExactRightTable. No condition. -/
import Derived.Test.YthpaampkpajdfaaTable
import Derived.Deep.RegionHeld3
namespace Go.Proofs.Ythpaampkpajdfaa
open Go.RowKit
set_option linter.unusedVariables false

set_option maxRecDepth 100000 in
set_option maxHeartbeats 3200000 in
theorem lRightTable {a0 : Int} (w : World) (wa0 : inI a0) :
    Calls Try.prog 14 #[.int .i64 a0] w fun e w' => e = .returned (.bool true) ∧ Below w.heap.size w w' := by
  go_enter Try.func14, Try.ntmps14
  have B : Below w.heap.size w w := Below.refl _ _
  go_wp2_with fail
  refine absW ?_
  intro w1 hw
  have hb : Below w.heap.size w w1 := by rw [hw]; exact (by repeat' (first | assumption | exact Below.refl _ _ | refine Below.drew ?_ | refine Below.alloc ?_ (by first | omega | (simp; done) | (simp; omega)) _))
  clear hw
  replace B := bel2 B hb
  have zw1 := hb.size
  clear hb
  refine (sRightTable _).mono ?_
  rintro e w2 ⟨vw0_0, rfl, ow0_0, hb⟩
  replace B := bel2 B hb
  have zw2 := hb.size
  clear hb
  obtain ⟨Aw0_0, cw0_0, rfl, fow0_0, kow0_0⟩ := ow0_0.form
  go_wp2_with fail
  refine absW ?_
  intro w3 hw
  have hb : Below w2.heap.size w2 w3 := by rw [hw]; exact (by repeat' (first | assumption | exact Below.refl _ _ | refine Below.drew ?_ | refine Below.alloc ?_ (by first | omega | (simp; done) | (simp; omega)) _))
  clear hw
  replace ow0_0 := ow0_0.bel hb
  replace B := bel2 B hb
  have zw3 := hb.size
  clear hb
  refine (iRightTable _).mono ?_
  rintro e w4 ⟨vg0_0, rfl, og0_0, hb⟩
  replace ow0_0 := ow0_0.bel hb
  replace B := bel2 B hb
  have zw4 := hb.size
  clear hb
  obtain ⟨Ag0_0, cg0_0, rfl, fog0_0, kog0_0⟩ := og0_0.form
  go_wp2_with fail
  refine absW ?_
  intro w5 hw
  have hb : Below w4.heap.size w4 w5 := by rw [hw]; exact (by repeat' (first | assumption | exact Below.refl _ _ | refine Below.drew ?_ | refine Below.alloc ?_ (by first | omega | (simp; done) | (simp; omega)) _))
  clear hw
  replace ow0_0 := ow0_0.bel hb
  replace og0_0 := og0_0.bel hb
  replace B := bel2 B hb
  have zw5 := hb.size
  clear hb
  refine (eqAddRowS _ og0_0.reads ow0_0.reads (by have := ow0_0.row.1; rw [flat_length encQuin_length] at this; omega) (Nat.le_trans fow0_0 kow0_0)).mono ?_
  rintro e w6 ⟨rfl, hb⟩
  replace ow0_0 := ow0_0.bel hb
  replace og0_0 := og0_0.bel hb
  replace B := bel2 B hb
  have zw6 := hb.size
  clear hb
  go_wp2_with fail
  refine absW ?_
  intro w7 hw
  have hb : Below w6.heap.size w6 w7 := by rw [hw]; exact (by repeat' (first | assumption | exact Below.refl _ _ | refine Below.drew ?_ | refine Below.alloc ?_ (by first | omega | (simp; done) | (simp; omega)) _))
  clear hw
  replace ow0_0 := ow0_0.bel hb
  replace og0_0 := og0_0.bel hb
  replace B := bel2 B hb
  have zw7 := hb.size
  clear hb
  refine (markAddRowS _ _ og0_0 (rbN_le _) (by omega) (by omega)).mono ?_
  rintro e w8 ⟨rfl, p0, ht⟩
  clear og0_0; have og0_0 := p0; clear p0
  replace ow0_0 := ow0_0.touch ht (by omega)
  replace B := Touch.below B ht B.size (by omega)
  have zw8 := ht.size
  clear ht
  go_wp2_with fail
  refine absW ?_
  intro w9 hw
  have hb : Below w8.heap.size w8 w9 := by rw [hw]; exact (by repeat' (first | assumption | exact Below.refl _ _ | refine Below.drew ?_ | refine Below.alloc ?_ (by first | omega | (simp; done) | (simp; omega)) _))
  clear hw
  replace ow0_0 := ow0_0.bel hb
  replace og0_0 := og0_0.bel hb
  replace B := bel2 B hb
  have zw9 := hb.size
  clear hb
  refine (heldAddRowS _ _ og0_0.reads (rbN_le _) (by omega) (by omega)).mono ?_
  rintro e w10 ⟨rfl, rfl⟩
  go_wp2_with fail
  refine absW ?_
  intro w10 hw
  have hb : Below w9.heap.size w9 w10 := by rw [hw]; exact (by repeat' (first | assumption | exact Below.refl _ _ | refine Below.drew ?_ | refine Below.alloc ?_ (by first | omega | (simp; done) | (simp; omega)) _))
  clear hw
  replace ow0_0 := ow0_0.bel hb
  replace og0_0 := og0_0.bel hb
  replace B := bel2 B hb
  have zw10 := hb.size
  clear hb
  refine (iRightTable _).mono ?_
  rintro e w11 ⟨vh0_0, rfl, oh0_0, hb⟩
  replace ow0_0 := ow0_0.bel hb
  replace og0_0 := og0_0.bel hb
  replace B := bel2 B hb
  have zw11 := hb.size
  clear hb
  obtain ⟨Ah0_0, ch0_0, rfl, foh0_0, koh0_0⟩ := oh0_0.form
  go_wp2_with fail
  refine absW ?_
  intro w12 hw
  have hb : Below w11.heap.size w11 w12 := by rw [hw]; exact (by repeat' (first | assumption | exact Below.refl _ _ | refine Below.drew ?_ | refine Below.alloc ?_ (by first | omega | (simp; done) | (simp; omega)) _))
  clear hw
  replace ow0_0 := ow0_0.bel hb
  replace og0_0 := og0_0.bel hb
  replace oh0_0 := oh0_0.bel hb
  replace B := bel2 B hb
  have zw12 := hb.size
  clear hb
  refine (eqAddRowS _ oh0_0.reads ow0_0.reads (by have := ow0_0.row.1; rw [flat_length encQuin_length] at this; omega) (Nat.le_trans fow0_0 kow0_0)).mono ?_
  rintro e w13 ⟨rfl, hb⟩
  replace ow0_0 := ow0_0.bel hb
  replace og0_0 := og0_0.bel hb
  replace oh0_0 := oh0_0.bel hb
  replace B := bel2 B hb
  have zw13 := hb.size
  clear hb
  go_wp2_with fail
  refine absW ?_
  intro w14 hw
  have hb : Below w13.heap.size w13 w14 := by rw [hw]; exact (by repeat' (first | assumption | exact Below.refl _ _ | refine Below.drew ?_ | refine Below.alloc ?_ (by first | omega | (simp; done) | (simp; omega)) _))
  clear hw
  replace ow0_0 := ow0_0.bel hb
  replace og0_0 := og0_0.bel hb
  replace oh0_0 := oh0_0.bel hb
  replace B := bel2 B hb
  have zw14 := hb.size
  clear hb
  refine (heldAddRowS _ _ og0_0.reads (rbN_le _) (by omega) (by omega)).mono ?_
  rintro e w15 ⟨rfl, rfl⟩
  go_wp2
  go_ret
  exact ⟨rfl, bel2 B (by repeat' (first | assumption | exact Below.refl _ _ | refine Below.drew ?_ | refine Below.alloc ?_ (by first | omega | (simp; done) | (simp; omega)) _))⟩
end Go.Proofs.Ythpaampkpajdfaa
