/- The walk of the law FnExactDrumLines. No condition. -/
import Derived.Test.YthpaampkpajdfaaLinesP
import Derived.Deep.RegionHeld3
namespace Go.Proofs.Ythpaampkpajdfaa
open Go.RowKit
set_option linter.unusedVariables false

set_option maxRecDepth 100000 in
set_option maxHeartbeats 3200000 in
theorem lDrumLines {a0_0 : Int} {a0_1 : Int} {a0_2 : Int} {a0_3 : Int} (w : World) (wa0_0 : inI a0_0) (wa0_1 : inI a0_1) (wa0_2 : inI a0_2) (wa0_3 : inI a0_3) :
    Calls Try.prog 9 #[.agg #[.int .i64 a0_0, .int .i64 a0_1, .int .i64 a0_2, .int .i64 a0_3]] w fun e w' => e = .returned (.bool true) ∧ Below w.heap.size w w' := by
  go_enter Try.func9, Try.ntmps9
  have B : Below w.heap.size w w := Below.refl _ _
  go_wp2_with fail
  refine absW ?_
  intro w1 hw
  have hb : Below w.heap.size w w1 := by rw [hw]; exact (by repeat' (first | assumption | exact Below.refl _ _ | refine Below.drew ?_ | refine Below.alloc ?_ (by first | omega | (simp; done) | (simp; omega)) _))
  have e0_0 : w1.cell? ⟨w.heap.size, 0, none⟩ = some (.int .i64 a0_0) := by rw [hw]; simp
  have e0_1 : w1.cell? ⟨w.heap.size, 1, none⟩ = some (.int .i64 a0_1) := by rw [hw]; simp
  have e0_2 : w1.cell? ⟨w.heap.size, 2, none⟩ = some (.int .i64 a0_2) := by rw [hw]; simp
  have e0_3 : w1.cell? ⟨w.heap.size, 3, none⟩ = some (.int .i64 a0_3) := by rw [hw]; simp
  have yw1_e0_0 : w.heap.size < w1.heap.size := World.block_lt_of_cell? _ _ e0_0
  clear hw
  replace B := bel2 B hb
  have zw1 := hb.size
  clear hb
  refine (toDrum _).mono ?_
  rintro e w2 ⟨rfl, hb⟩
  replace e0_0 := cellB e0_0 hb
  replace e0_1 := cellB e0_1 hb
  replace e0_2 := cellB e0_2 hb
  replace e0_3 := cellB e0_3 hb
  replace B := bel2 B hb
  have zw2 := hb.size
  clear hb
  go_wp2_with fail
  refine absW ?_
  intro w3 hw
  have hb : Below w2.heap.size w2 w3 := by rw [hw]; exact (by repeat' (first | assumption | exact Below.refl _ _ | refine Below.drew ?_ | refine Below.alloc ?_ (by first | omega | (simp; done) | (simp; omega)) _))
  clear hw
  replace e0_0 := cellB e0_0 hb
  replace e0_1 := cellB e0_1 hb
  replace e0_2 := cellB e0_2 hb
  replace e0_3 := cellB e0_3 hb
  replace B := bel2 B hb
  have zw3 := hb.size
  clear hb
  refine (sLines _).mono ?_
  rintro e w4 ⟨vw0_0, rfl, ow0_0, hb⟩
  replace e0_0 := cellB e0_0 hb
  replace e0_1 := cellB e0_1 hb
  replace e0_2 := cellB e0_2 hb
  replace e0_3 := cellB e0_3 hb
  replace B := bel2 B hb
  have zw4 := hb.size
  clear hb
  obtain ⟨Aw0_0, cw0_0, rfl, fow0_0, kow0_0⟩ := ow0_0.form
  go_wp2_with fail
  refine absW ?_
  intro w5 hw
  have hb : Below w4.heap.size w4 w5 := by rw [hw]; exact (by repeat' (first | assumption | exact Below.refl _ _ | refine Below.drew ?_ | refine Below.alloc ?_ (by first | omega | (simp; done) | (simp; omega)) _))
  clear hw
  replace e0_0 := cellB e0_0 hb
  replace e0_1 := cellB e0_1 hb
  replace e0_2 := cellB e0_2 hb
  replace e0_3 := cellB e0_3 hb
  replace ow0_0 := ow0_0.bel hb
  replace B := bel2 B hb
  have zw5 := hb.size
  clear hb
  refine (toDrum _).mono ?_
  rintro e w6 ⟨rfl, hb⟩
  replace e0_0 := cellB e0_0 hb
  replace e0_1 := cellB e0_1 hb
  replace e0_2 := cellB e0_2 hb
  replace e0_3 := cellB e0_3 hb
  replace ow0_0 := ow0_0.bel hb
  replace B := bel2 B hb
  have zw6 := hb.size
  clear hb
  go_wp2_with fail
  refine absW ?_
  intro w7 hw
  have hb : Below w6.heap.size w6 w7 := by rw [hw]; exact (by repeat' (first | assumption | exact Below.refl _ _ | refine Below.drew ?_ | refine Below.alloc ?_ (by first | omega | (simp; done) | (simp; omega)) _))
  clear hw
  replace e0_0 := cellB e0_0 hb
  replace e0_1 := cellB e0_1 hb
  replace e0_2 := cellB e0_2 hb
  replace e0_3 := cellB e0_3 hb
  replace ow0_0 := ow0_0.bel hb
  replace B := bel2 B hb
  have zw7 := hb.size
  clear hb
  refine (iLines _ _ _ _ _).mono ?_
  rintro e w8 ⟨vg0_0, rfl, og0_0, hb⟩
  replace e0_0 := cellB e0_0 hb
  replace e0_1 := cellB e0_1 hb
  replace e0_2 := cellB e0_2 hb
  replace e0_3 := cellB e0_3 hb
  replace ow0_0 := ow0_0.bel hb
  replace B := bel2 B hb
  have zw8 := hb.size
  clear hb
  obtain ⟨Ag0_0, cg0_0, rfl, fog0_0, kog0_0⟩ := og0_0.form
  go_wp2_with fail
  refine absW ?_
  intro w9 hw
  have hb : Below w8.heap.size w8 w9 := by rw [hw]; exact (by repeat' (first | assumption | exact Below.refl _ _ | refine Below.drew ?_ | refine Below.alloc ?_ (by first | omega | (simp; done) | (simp; omega)) _))
  clear hw
  replace e0_0 := cellB e0_0 hb
  replace e0_1 := cellB e0_1 hb
  replace e0_2 := cellB e0_2 hb
  replace e0_3 := cellB e0_3 hb
  replace ow0_0 := ow0_0.bel hb
  replace og0_0 := og0_0.bel hb
  replace B := bel2 B hb
  have zw9 := hb.size
  clear hb
  refine (eqStringS _ og0_0.reads ow0_0.reads (by simpa using ow0_0.row.1) (Nat.le_trans fow0_0 kow0_0)).mono ?_
  rintro e w10 ⟨rfl, hb⟩
  replace e0_0 := cellB e0_0 hb
  replace e0_1 := cellB e0_1 hb
  replace e0_2 := cellB e0_2 hb
  replace e0_3 := cellB e0_3 hb
  replace ow0_0 := ow0_0.bel hb
  replace og0_0 := og0_0.bel hb
  replace B := bel2 B hb
  have zw10 := hb.size
  clear hb
  go_wp2_with fail
  refine absW ?_
  intro w11 hw
  have hb : Below w10.heap.size w10 w11 := by rw [hw]; exact (by repeat' (first | assumption | exact Below.refl _ _ | refine Below.drew ?_ | refine Below.alloc ?_ (by first | omega | (simp; done) | (simp; omega)) _))
  clear hw
  replace e0_0 := cellB e0_0 hb
  replace e0_1 := cellB e0_1 hb
  replace e0_2 := cellB e0_2 hb
  replace e0_3 := cellB e0_3 hb
  replace ow0_0 := ow0_0.bel hb
  replace og0_0 := og0_0.bel hb
  replace B := bel2 B hb
  have zw11 := hb.size
  clear hb
  refine (markStringS _ _ og0_0 (dlN_le _ _ _ _) (by omega) (by omega)).mono ?_
  rintro e w12 ⟨rfl, p0, ht⟩
  clear og0_0; have og0_0 := p0; clear p0
  replace e0_0 := cellT e0_0 ht (by omega)
  replace e0_1 := cellT e0_1 ht (by omega)
  replace e0_2 := cellT e0_2 ht (by omega)
  replace e0_3 := cellT e0_3 ht (by omega)
  replace ow0_0 := ow0_0.touch ht (by omega)
  replace B := Touch.below B ht B.size (by omega)
  have zw12 := ht.size
  clear ht
  go_wp2_with fail
  refine absW ?_
  intro w13 hw
  have hb : Below w12.heap.size w12 w13 := by rw [hw]; exact (by repeat' (first | assumption | exact Below.refl _ _ | refine Below.drew ?_ | refine Below.alloc ?_ (by first | omega | (simp; done) | (simp; omega)) _))
  clear hw
  replace e0_0 := cellB e0_0 hb
  replace e0_1 := cellB e0_1 hb
  replace e0_2 := cellB e0_2 hb
  replace e0_3 := cellB e0_3 hb
  replace ow0_0 := ow0_0.bel hb
  replace og0_0 := og0_0.bel hb
  replace B := bel2 B hb
  have zw13 := hb.size
  clear hb
  refine (heldStringS _ _ og0_0.reads (dlN_le _ _ _ _) (by omega) (by omega)).mono ?_
  rintro e w14 ⟨rfl, hb⟩
  replace e0_0 := cellB e0_0 hb
  replace e0_1 := cellB e0_1 hb
  replace e0_2 := cellB e0_2 hb
  replace e0_3 := cellB e0_3 hb
  replace ow0_0 := ow0_0.bel hb
  replace og0_0 := og0_0.bel hb
  replace B := bel2 B hb
  have zw14 := hb.size
  clear hb
  go_wp2_with fail
  refine absW ?_
  intro w15 hw
  have hb : Below w14.heap.size w14 w15 := by rw [hw]; exact (by repeat' (first | assumption | exact Below.refl _ _ | refine Below.drew ?_ | refine Below.alloc ?_ (by first | omega | (simp; done) | (simp; omega)) _))
  clear hw
  replace e0_0 := cellB e0_0 hb
  replace e0_1 := cellB e0_1 hb
  replace e0_2 := cellB e0_2 hb
  replace e0_3 := cellB e0_3 hb
  replace ow0_0 := ow0_0.bel hb
  replace og0_0 := og0_0.bel hb
  replace B := bel2 B hb
  have zw15 := hb.size
  clear hb
  refine (toDrum _).mono ?_
  rintro e w16 ⟨rfl, hb⟩
  replace e0_0 := cellB e0_0 hb
  replace e0_1 := cellB e0_1 hb
  replace e0_2 := cellB e0_2 hb
  replace e0_3 := cellB e0_3 hb
  replace ow0_0 := ow0_0.bel hb
  replace og0_0 := og0_0.bel hb
  replace B := bel2 B hb
  have zw16 := hb.size
  clear hb
  go_wp2_with fail
  refine absW ?_
  intro w17 hw
  have hb : Below w16.heap.size w16 w17 := by rw [hw]; exact (by repeat' (first | assumption | exact Below.refl _ _ | refine Below.drew ?_ | refine Below.alloc ?_ (by first | omega | (simp; done) | (simp; omega)) _))
  clear hw
  replace e0_0 := cellB e0_0 hb
  replace e0_1 := cellB e0_1 hb
  replace e0_2 := cellB e0_2 hb
  replace e0_3 := cellB e0_3 hb
  replace ow0_0 := ow0_0.bel hb
  replace og0_0 := og0_0.bel hb
  replace B := bel2 B hb
  have zw17 := hb.size
  clear hb
  refine (iLines _ _ _ _ _).mono ?_
  rintro e w18 ⟨vh0_0, rfl, oh0_0, hb⟩
  replace e0_0 := cellB e0_0 hb
  replace e0_1 := cellB e0_1 hb
  replace e0_2 := cellB e0_2 hb
  replace e0_3 := cellB e0_3 hb
  replace ow0_0 := ow0_0.bel hb
  replace og0_0 := og0_0.bel hb
  replace B := bel2 B hb
  have zw18 := hb.size
  clear hb
  obtain ⟨Ah0_0, ch0_0, rfl, foh0_0, koh0_0⟩ := oh0_0.form
  go_wp2_with fail
  refine absW ?_
  intro w19 hw
  have hb : Below w18.heap.size w18 w19 := by rw [hw]; exact (by repeat' (first | assumption | exact Below.refl _ _ | refine Below.drew ?_ | refine Below.alloc ?_ (by first | omega | (simp; done) | (simp; omega)) _))
  clear hw
  replace e0_0 := cellB e0_0 hb
  replace e0_1 := cellB e0_1 hb
  replace e0_2 := cellB e0_2 hb
  replace e0_3 := cellB e0_3 hb
  replace ow0_0 := ow0_0.bel hb
  replace og0_0 := og0_0.bel hb
  replace oh0_0 := oh0_0.bel hb
  replace B := bel2 B hb
  have zw19 := hb.size
  clear hb
  refine (eqStringS _ oh0_0.reads ow0_0.reads (by simpa using ow0_0.row.1) (Nat.le_trans fow0_0 kow0_0)).mono ?_
  rintro e w20 ⟨rfl, hb⟩
  replace e0_0 := cellB e0_0 hb
  replace e0_1 := cellB e0_1 hb
  replace e0_2 := cellB e0_2 hb
  replace e0_3 := cellB e0_3 hb
  replace ow0_0 := ow0_0.bel hb
  replace og0_0 := og0_0.bel hb
  replace oh0_0 := oh0_0.bel hb
  replace B := bel2 B hb
  have zw20 := hb.size
  clear hb
  go_wp2_with fail
  refine absW ?_
  intro w21 hw
  have hb : Below w20.heap.size w20 w21 := by rw [hw]; exact (by repeat' (first | assumption | exact Below.refl _ _ | refine Below.drew ?_ | refine Below.alloc ?_ (by first | omega | (simp; done) | (simp; omega)) _))
  clear hw
  replace e0_0 := cellB e0_0 hb
  replace e0_1 := cellB e0_1 hb
  replace e0_2 := cellB e0_2 hb
  replace e0_3 := cellB e0_3 hb
  replace ow0_0 := ow0_0.bel hb
  replace og0_0 := og0_0.bel hb
  replace oh0_0 := oh0_0.bel hb
  replace B := bel2 B hb
  have zw21 := hb.size
  clear hb
  refine (heldStringS _ _ og0_0.reads (dlN_le _ _ _ _) (by omega) (by omega)).mono ?_
  rintro e w22 ⟨rfl, hb⟩
  replace e0_0 := cellB e0_0 hb
  replace e0_1 := cellB e0_1 hb
  replace e0_2 := cellB e0_2 hb
  replace e0_3 := cellB e0_3 hb
  replace ow0_0 := ow0_0.bel hb
  replace og0_0 := og0_0.bel hb
  replace oh0_0 := oh0_0.bel hb
  replace B := bel2 B hb
  have zw22 := hb.size
  clear hb
  go_wp2
  go_ret
  exact ⟨rfl, bel2 B (by repeat' (first | assumption | exact Below.refl _ _ | refine Below.drew ?_ | refine Below.alloc ?_ (by first | omega | (simp; done) | (simp; omega)) _))⟩
end Go.Proofs.Ythpaampkpajdfaa
