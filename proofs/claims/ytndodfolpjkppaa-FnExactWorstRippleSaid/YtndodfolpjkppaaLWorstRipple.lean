/- The walk of the law FnExactWorstRipple. No condition. -/
import Derived.Test.YtndodfolpjkppaaRipple
import Derived.Deep.RegionHeld3
namespace Go.Proofs.Ytndodfolpjkppaa
open Go.RowKit
set_option linter.unusedVariables false

set_option maxRecDepth 100000 in
set_option maxHeartbeats 3200000 in
theorem lWorstRipple {a0 : Int} {a1 : Int} (w : World) (wa0 : inI a0) (wa1 : inI a1) :
    Calls Try.prog 10 #[.int .i64 a0, .int .i64 a1] w fun e w' => e = .returned (.bool true) ∧ Below w.heap.size w w' := by
  have wN := wrN_le a0 a1
  go_enter Try.func10, Try.ntmps10
  have B : Below w.heap.size w w := Below.refl _ _
  go_wp2_with fail
  refine absW ?_
  intro w1 hw
  have hb : Below w.heap.size w w1 := by rw [hw]; exact (by repeat' (first | assumption | exact Below.refl _ _ | refine Below.drew ?_ | refine Below.alloc ?_ (by first | omega | (simp; done) | (simp; omega)) _))
  clear hw
  replace B := bel2 B hb
  have zw1 := hb.size
  clear hb
  refine (sRipple _).mono ?_
  rintro e w2 ⟨vw0_0, vw1_0, mw, rfl, ow0_0, ow1_0, umw_1, umw_2, hb⟩
  replace B := bel2 B hb
  have zw2 := hb.size
  clear hb
  obtain ⟨Aw0_0, cw0_0, rfl, fow0_0, kow0_0⟩ := ow0_0.form
  obtain ⟨Aw1_0, cw1_0, rfl, fow1_0, kow1_0⟩ := ow1_0.form
  go_wp2_with fail
  refine absW ?_
  intro w3 hw
  have hb : Below w2.heap.size w2 w3 := by rw [hw]; exact (by repeat' (first | assumption | exact Below.refl _ _ | refine Below.drew ?_ | refine Below.alloc ?_ (by first | omega | (simp; done) | (simp; omega)) _))
  have ew0_0 : w3.cell? ⟨w2.heap.size, 0, none⟩ = some (.int .i64 (wrBase a0 a1)) := by rw [hw]; simp
  have ew0_1 : w3.cell? ⟨w2.heap.size, 1, none⟩ = some (.slice Aw0_0 (wrN a0 a1) cw0_0) := by rw [hw]; simp
  have ew1_0 : w3.cell? ⟨w2.heap.size + 1, 0, none⟩ = some (.int .i64 (wrBase a0 a1)) := by rw [hw]; simp
  have ew1_1 : w3.cell? ⟨w2.heap.size + 1, 1, none⟩ = some (.slice Aw1_0 (wrN a0 a1) cw1_0) := by rw [hw]; simp
  have yw3_ew0_0 : w2.heap.size < w3.heap.size := World.block_lt_of_cell? _ _ ew0_0
  have yw3_ew1_0 : w2.heap.size + 1 < w3.heap.size := World.block_lt_of_cell? _ _ ew1_0
  clear hw
  replace ow0_0 := ow0_0.bel hb
  replace ow1_0 := ow1_0.bel hb
  replace B := bel2 B hb
  have zw3 := hb.size
  clear hb
  refine (iRipple _).mono ?_
  rintro e w4 ⟨vg0_0, vg1_0, mg, rfl, og0_0, og1_0, umg_1, umg_2, hb⟩
  replace ew0_0 := cellB ew0_0 hb
  replace ew0_1 := cellB ew0_1 hb
  replace ew1_0 := cellB ew1_0 hb
  replace ew1_1 := cellB ew1_1 hb
  replace ow0_0 := ow0_0.bel hb
  replace ow1_0 := ow1_0.bel hb
  replace B := bel2 B hb
  have zw4 := hb.size
  clear hb
  obtain ⟨Ag0_0, cg0_0, rfl, fog0_0, kog0_0⟩ := og0_0.form
  obtain ⟨Ag1_0, cg1_0, rfl, fog1_0, kog1_0⟩ := og1_0.form
  have j1_0 := fun (X0 : Obj) => (cellA ew0_0 X0)
  have j1_1 := fun (X0 : Obj) => (cellA ew0_1 X0)
  have j1_2 := fun (X0 : Obj) => (cellA ew1_0 X0)
  have j1_3 := fun (X0 : Obj) => (cellA ew1_1 X0)
  have j2_0 := fun (X0 X1 : Obj) => (cellA (cellA ew0_0 X0) X1)
  have j2_1 := fun (X0 X1 : Obj) => (cellA (cellA ew0_1 X0) X1)
  have j2_2 := fun (X0 X1 : Obj) => (cellA (cellA ew1_0 X0) X1)
  have j2_3 := fun (X0 X1 : Obj) => (cellA (cellA ew1_1 X0) X1)
  go_wp2_with fail
  refine absW ?_
  intro w5 hw
  have hb : Below w4.heap.size w4 w5 := by rw [hw]; exact (by repeat' (first | assumption | exact Below.refl _ _ | refine Below.drew ?_ | refine Below.alloc ?_ (by first | omega | (simp; done) | (simp; omega)) _))
  have eg0_0 : w5.cell? ⟨w4.heap.size, 0, none⟩ = some (.int .i64 (wrBase a0 a1)) := by rw [hw]; simp
  have eg0_1 : w5.cell? ⟨w4.heap.size, 1, none⟩ = some (.slice Ag0_0 (wrN a0 a1) cg0_0) := by rw [hw]; simp
  have eg1_0 : w5.cell? ⟨w4.heap.size + 1, 0, none⟩ = some (.int .i64 (wrBase a0 a1)) := by rw [hw]; simp
  have eg1_1 : w5.cell? ⟨w4.heap.size + 1, 1, none⟩ = some (.slice Ag1_0 (wrN a0 a1) cg1_0) := by rw [hw]; simp
  have yw5_eg0_0 : w4.heap.size < w5.heap.size := World.block_lt_of_cell? _ _ eg0_0
  have yw5_eg1_0 : w4.heap.size + 1 < w5.heap.size := World.block_lt_of_cell? _ _ eg1_0
  clear hw j1_0 j1_1 j1_2 j1_3 j2_0 j2_1 j2_2 j2_3
  replace ew0_0 := cellB ew0_0 hb
  replace ew0_1 := cellB ew0_1 hb
  replace ew1_0 := cellB ew1_0 hb
  replace ew1_1 := cellB ew1_1 hb
  replace ow0_0 := ow0_0.bel hb
  replace ow1_0 := ow1_0.bel hb
  replace og0_0 := og0_0.bel hb
  replace og1_0 := og1_0.bel hb
  replace B := bel2 B hb
  have zw5 := hb.size
  clear hb
  refine (eqRegister _ og0_0.reads ow0_0.reads (by simpa using ow0_0.row.1) (Nat.le_trans fow0_0 kow0_0)).mono ?_
  rintro e w6 ⟨rfl, hb⟩
  replace ew0_0 := cellB ew0_0 hb
  replace ew0_1 := cellB ew0_1 hb
  replace ew1_0 := cellB ew1_0 hb
  replace ew1_1 := cellB ew1_1 hb
  replace eg0_0 := cellB eg0_0 hb
  replace eg0_1 := cellB eg0_1 hb
  replace eg1_0 := cellB eg1_0 hb
  replace eg1_1 := cellB eg1_1 hb
  replace ow0_0 := ow0_0.bel hb
  replace ow1_0 := ow1_0.bel hb
  replace og0_0 := og0_0.bel hb
  replace og1_0 := og1_0.bel hb
  replace B := bel2 B hb
  have zw6 := hb.size
  clear hb
  go_wp2_with fail
  refine absW ?_
  intro w7 hw
  have hb : Below w6.heap.size w6 w7 := by rw [hw]; exact (by repeat' (first | assumption | exact Below.refl _ _ | refine Below.drew ?_ | refine Below.alloc ?_ (by first | omega | (simp; done) | (simp; omega)) _))
  clear hw
  replace ew0_0 := cellB ew0_0 hb
  replace ew0_1 := cellB ew0_1 hb
  replace ew1_0 := cellB ew1_0 hb
  replace ew1_1 := cellB ew1_1 hb
  replace eg0_0 := cellB eg0_0 hb
  replace eg0_1 := cellB eg0_1 hb
  replace eg1_0 := cellB eg1_0 hb
  replace eg1_1 := cellB eg1_1 hb
  replace ow0_0 := ow0_0.bel hb
  replace ow1_0 := ow1_0.bel hb
  replace og0_0 := og0_0.bel hb
  replace og1_0 := og1_0.bel hb
  replace B := bel2 B hb
  have zw7 := hb.size
  clear hb
  refine (eqRegister _ og1_0.reads ow1_0.reads (by simpa using ow1_0.row.1) (Nat.le_trans fow1_0 kow1_0)).mono ?_
  rintro e w8 ⟨rfl, hb⟩
  replace ew0_0 := cellB ew0_0 hb
  replace ew0_1 := cellB ew0_1 hb
  replace ew1_0 := cellB ew1_0 hb
  replace ew1_1 := cellB ew1_1 hb
  replace eg0_0 := cellB eg0_0 hb
  replace eg0_1 := cellB eg0_1 hb
  replace eg1_0 := cellB eg1_0 hb
  replace eg1_1 := cellB eg1_1 hb
  replace ow0_0 := ow0_0.bel hb
  replace ow1_0 := ow1_0.bel hb
  replace og0_0 := og0_0.bel hb
  replace og1_0 := og1_0.bel hb
  replace B := bel2 B hb
  have zw8 := hb.size
  clear hb
  go_wp2_with fail
  refine absW ?_
  intro w9 hw
  have hb : Below w8.heap.size w8 w9 := by rw [hw]; exact (by repeat' (first | assumption | exact Below.refl _ _ | refine Below.drew ?_ | refine Below.alloc ?_ (by first | omega | (simp; done) | (simp; omega)) _))
  clear hw
  replace ew0_0 := cellB ew0_0 hb
  replace ew0_1 := cellB ew0_1 hb
  replace ew1_0 := cellB ew1_0 hb
  replace ew1_1 := cellB ew1_1 hb
  replace eg0_0 := cellB eg0_0 hb
  replace eg0_1 := cellB eg0_1 hb
  replace eg1_0 := cellB eg1_0 hb
  replace eg1_1 := cellB eg1_1 hb
  replace ow0_0 := ow0_0.bel hb
  replace ow1_0 := ow1_0.bel hb
  replace og0_0 := og0_0.bel hb
  replace og1_0 := og1_0.bel hb
  replace B := bel2 B hb
  have zw9 := hb.size
  clear hb
  refine (markRegister _ _ og0_0 (wrN_le _ _) (by omega) (by omega)).mono ?_
  rintro e w10 ⟨rfl, p0, ht⟩
  clear og0_0; have og0_0 := p0; clear p0
  replace ew0_0 := cellT ew0_0 ht (by omega)
  replace ew0_1 := cellT ew0_1 ht (by omega)
  replace ew1_0 := cellT ew1_0 ht (by omega)
  replace ew1_1 := cellT ew1_1 ht (by omega)
  replace eg0_0 := cellT eg0_0 ht (by omega)
  replace eg0_1 := cellT eg0_1 ht (by omega)
  replace eg1_0 := cellT eg1_0 ht (by omega)
  replace eg1_1 := cellT eg1_1 ht (by omega)
  replace ow0_0 := ow0_0.touch ht (by omega)
  replace ow1_0 := ow1_0.touch ht (by omega)
  replace og1_0 := og1_0.touch ht (by omega)
  replace B := Touch.below B ht B.size (by omega)
  have zw10 := ht.size
  clear ht
  go_wp2_with fail
  refine absW ?_
  intro w11 hw
  have hb : Below w10.heap.size w10 w11 := by rw [hw]; exact (by repeat' (first | assumption | exact Below.refl _ _ | refine Below.drew ?_ | refine Below.alloc ?_ (by first | omega | (simp; done) | (simp; omega)) _))
  clear hw
  replace ew0_0 := cellB ew0_0 hb
  replace ew0_1 := cellB ew0_1 hb
  replace ew1_0 := cellB ew1_0 hb
  replace ew1_1 := cellB ew1_1 hb
  replace eg0_0 := cellB eg0_0 hb
  replace eg0_1 := cellB eg0_1 hb
  replace eg1_0 := cellB eg1_0 hb
  replace eg1_1 := cellB eg1_1 hb
  replace ow0_0 := ow0_0.bel hb
  replace ow1_0 := ow1_0.bel hb
  replace og0_0 := og0_0.bel hb
  replace og1_0 := og1_0.bel hb
  replace B := bel2 B hb
  have zw11 := hb.size
  clear hb
  refine (markRegister _ _ og1_0 (wrN_le _ _) (by omega) (by omega)).mono ?_
  rintro e w12 ⟨rfl, p0, ht⟩
  clear og1_0; have og1_0 := p0; clear p0
  replace ew0_0 := cellT ew0_0 ht (by omega)
  replace ew0_1 := cellT ew0_1 ht (by omega)
  replace ew1_0 := cellT ew1_0 ht (by omega)
  replace ew1_1 := cellT ew1_1 ht (by omega)
  replace eg0_0 := cellT eg0_0 ht (by omega)
  replace eg0_1 := cellT eg0_1 ht (by omega)
  replace eg1_0 := cellT eg1_0 ht (by omega)
  replace eg1_1 := cellT eg1_1 ht (by omega)
  replace ow0_0 := ow0_0.touch ht (by omega)
  replace ow1_0 := ow1_0.touch ht (by omega)
  replace og0_0 := og0_0.touch ht (by omega)
  replace B := Touch.below B ht B.size (by omega)
  have zw12 := ht.size
  clear ht
  go_wp2_with fail
  refine absW ?_
  intro w13 hw
  have hb : Below w12.heap.size w12 w13 := by rw [hw]; exact (by repeat' (first | assumption | exact Below.refl _ _ | refine Below.drew ?_ | refine Below.alloc ?_ (by first | omega | (simp; done) | (simp; omega)) _))
  clear hw
  replace ew0_0 := cellB ew0_0 hb
  replace ew0_1 := cellB ew0_1 hb
  replace ew1_0 := cellB ew1_0 hb
  replace ew1_1 := cellB ew1_1 hb
  replace eg0_0 := cellB eg0_0 hb
  replace eg0_1 := cellB eg0_1 hb
  replace eg1_0 := cellB eg1_0 hb
  replace eg1_1 := cellB eg1_1 hb
  replace ow0_0 := ow0_0.bel hb
  replace ow1_0 := ow1_0.bel hb
  replace og0_0 := og0_0.bel hb
  replace og1_0 := og1_0.bel hb
  replace B := bel2 B hb
  have zw13 := hb.size
  clear hb
  refine (heldRegister _ _ og0_0.reads (wrN_le _ _) (by omega) (by omega)).mono ?_
  rintro e w14 ⟨rfl, hb⟩
  replace ew0_0 := cellB ew0_0 hb
  replace ew0_1 := cellB ew0_1 hb
  replace ew1_0 := cellB ew1_0 hb
  replace ew1_1 := cellB ew1_1 hb
  replace eg0_0 := cellB eg0_0 hb
  replace eg0_1 := cellB eg0_1 hb
  replace eg1_0 := cellB eg1_0 hb
  replace eg1_1 := cellB eg1_1 hb
  replace ow0_0 := ow0_0.bel hb
  replace ow1_0 := ow1_0.bel hb
  replace og0_0 := og0_0.bel hb
  replace og1_0 := og1_0.bel hb
  replace B := bel2 B hb
  have zw14 := hb.size
  clear hb
  go_wp2_with fail
  refine absW ?_
  intro w15 hw
  have hb : Below w14.heap.size w14 w15 := by rw [hw]; exact (by repeat' (first | assumption | exact Below.refl _ _ | refine Below.drew ?_ | refine Below.alloc ?_ (by first | omega | (simp; done) | (simp; omega)) _))
  clear hw
  replace ew0_0 := cellB ew0_0 hb
  replace ew0_1 := cellB ew0_1 hb
  replace ew1_0 := cellB ew1_0 hb
  replace ew1_1 := cellB ew1_1 hb
  replace eg0_0 := cellB eg0_0 hb
  replace eg0_1 := cellB eg0_1 hb
  replace eg1_0 := cellB eg1_0 hb
  replace eg1_1 := cellB eg1_1 hb
  replace ow0_0 := ow0_0.bel hb
  replace ow1_0 := ow1_0.bel hb
  replace og0_0 := og0_0.bel hb
  replace og1_0 := og1_0.bel hb
  replace B := bel2 B hb
  have zw15 := hb.size
  clear hb
  refine (heldRegister _ _ og1_0.reads (wrN_le _ _) (by omega) (by omega)).mono ?_
  rintro e w16 ⟨rfl, hb⟩
  replace ew0_0 := cellB ew0_0 hb
  replace ew0_1 := cellB ew0_1 hb
  replace ew1_0 := cellB ew1_0 hb
  replace ew1_1 := cellB ew1_1 hb
  replace eg0_0 := cellB eg0_0 hb
  replace eg0_1 := cellB eg0_1 hb
  replace eg1_0 := cellB eg1_0 hb
  replace eg1_1 := cellB eg1_1 hb
  replace ow0_0 := ow0_0.bel hb
  replace ow1_0 := ow1_0.bel hb
  replace og0_0 := og0_0.bel hb
  replace og1_0 := og1_0.bel hb
  replace B := bel2 B hb
  have zw16 := hb.size
  clear hb
  go_wp2_with fail
  refine absW ?_
  intro w17 hw
  have hb : Below w16.heap.size w16 w17 := by rw [hw]; exact (by repeat' (first | assumption | exact Below.refl _ _ | refine Below.drew ?_ | refine Below.alloc ?_ (by first | omega | (simp; done) | (simp; omega)) _))
  clear hw
  replace ew0_0 := cellB ew0_0 hb
  replace ew0_1 := cellB ew0_1 hb
  replace ew1_0 := cellB ew1_0 hb
  replace ew1_1 := cellB ew1_1 hb
  replace eg0_0 := cellB eg0_0 hb
  replace eg0_1 := cellB eg0_1 hb
  replace eg1_0 := cellB eg1_0 hb
  replace eg1_1 := cellB eg1_1 hb
  replace ow0_0 := ow0_0.bel hb
  replace ow1_0 := ow1_0.bel hb
  replace og0_0 := og0_0.bel hb
  replace og1_0 := og1_0.bel hb
  replace B := bel2 B hb
  have zw17 := hb.size
  clear hb
  refine (iRipple _).mono ?_
  rintro e w18 ⟨vh0_0, vh1_0, mh, rfl, oh0_0, oh1_0, umh_1, umh_2, hb⟩
  replace ew0_0 := cellB ew0_0 hb
  replace ew0_1 := cellB ew0_1 hb
  replace ew1_0 := cellB ew1_0 hb
  replace ew1_1 := cellB ew1_1 hb
  replace eg0_0 := cellB eg0_0 hb
  replace eg0_1 := cellB eg0_1 hb
  replace eg1_0 := cellB eg1_0 hb
  replace eg1_1 := cellB eg1_1 hb
  replace ow0_0 := ow0_0.bel hb
  replace ow1_0 := ow1_0.bel hb
  replace og0_0 := og0_0.bel hb
  replace og1_0 := og1_0.bel hb
  replace B := bel2 B hb
  have zw18 := hb.size
  clear hb
  obtain ⟨Ah0_0, ch0_0, rfl, foh0_0, koh0_0⟩ := oh0_0.form
  obtain ⟨Ah1_0, ch1_0, rfl, foh1_0, koh1_0⟩ := oh1_0.form
  have j1_0 := fun (X0 : Obj) => (cellA ew0_0 X0)
  have j1_1 := fun (X0 : Obj) => (cellA ew0_1 X0)
  have j1_2 := fun (X0 : Obj) => (cellA ew1_0 X0)
  have j1_3 := fun (X0 : Obj) => (cellA ew1_1 X0)
  have j1_4 := fun (X0 : Obj) => (cellA eg0_0 X0)
  have j1_5 := fun (X0 : Obj) => (cellA eg0_1 X0)
  have j1_6 := fun (X0 : Obj) => (cellA eg1_0 X0)
  have j1_7 := fun (X0 : Obj) => (cellA eg1_1 X0)
  have j2_0 := fun (X0 X1 : Obj) => (cellA (cellA ew0_0 X0) X1)
  have j2_1 := fun (X0 X1 : Obj) => (cellA (cellA ew0_1 X0) X1)
  have j2_2 := fun (X0 X1 : Obj) => (cellA (cellA ew1_0 X0) X1)
  have j2_3 := fun (X0 X1 : Obj) => (cellA (cellA ew1_1 X0) X1)
  have j2_4 := fun (X0 X1 : Obj) => (cellA (cellA eg0_0 X0) X1)
  have j2_5 := fun (X0 X1 : Obj) => (cellA (cellA eg0_1 X0) X1)
  have j2_6 := fun (X0 X1 : Obj) => (cellA (cellA eg1_0 X0) X1)
  have j2_7 := fun (X0 X1 : Obj) => (cellA (cellA eg1_1 X0) X1)
  go_wp2_with fail
  refine absW ?_
  intro w19 hw
  have hb : Below w18.heap.size w18 w19 := by rw [hw]; exact (by repeat' (first | assumption | exact Below.refl _ _ | refine Below.drew ?_ | refine Below.alloc ?_ (by first | omega | (simp; done) | (simp; omega)) _))
  have eh0_0 : w19.cell? ⟨w18.heap.size, 0, none⟩ = some (.int .i64 (wrBase a0 a1)) := by rw [hw]; simp
  have eh0_1 : w19.cell? ⟨w18.heap.size, 1, none⟩ = some (.slice Ah0_0 (wrN a0 a1) ch0_0) := by rw [hw]; simp
  have eh1_0 : w19.cell? ⟨w18.heap.size + 1, 0, none⟩ = some (.int .i64 (wrBase a0 a1)) := by rw [hw]; simp
  have eh1_1 : w19.cell? ⟨w18.heap.size + 1, 1, none⟩ = some (.slice Ah1_0 (wrN a0 a1) ch1_0) := by rw [hw]; simp
  have yw19_eh0_0 : w18.heap.size < w19.heap.size := World.block_lt_of_cell? _ _ eh0_0
  have yw19_eh1_0 : w18.heap.size + 1 < w19.heap.size := World.block_lt_of_cell? _ _ eh1_0
  clear hw j1_0 j1_1 j1_2 j1_3 j1_4 j1_5 j1_6 j1_7 j2_0 j2_1 j2_2 j2_3 j2_4 j2_5 j2_6 j2_7
  replace ew0_0 := cellB ew0_0 hb
  replace ew0_1 := cellB ew0_1 hb
  replace ew1_0 := cellB ew1_0 hb
  replace ew1_1 := cellB ew1_1 hb
  replace eg0_0 := cellB eg0_0 hb
  replace eg0_1 := cellB eg0_1 hb
  replace eg1_0 := cellB eg1_0 hb
  replace eg1_1 := cellB eg1_1 hb
  replace ow0_0 := ow0_0.bel hb
  replace ow1_0 := ow1_0.bel hb
  replace og0_0 := og0_0.bel hb
  replace og1_0 := og1_0.bel hb
  replace oh0_0 := oh0_0.bel hb
  replace oh1_0 := oh1_0.bel hb
  replace B := bel2 B hb
  have zw19 := hb.size
  clear hb
  refine (eqRegister _ oh0_0.reads ow0_0.reads (by simpa using ow0_0.row.1) (Nat.le_trans fow0_0 kow0_0)).mono ?_
  rintro e w20 ⟨rfl, hb⟩
  replace ew0_0 := cellB ew0_0 hb
  replace ew0_1 := cellB ew0_1 hb
  replace ew1_0 := cellB ew1_0 hb
  replace ew1_1 := cellB ew1_1 hb
  replace eg0_0 := cellB eg0_0 hb
  replace eg0_1 := cellB eg0_1 hb
  replace eg1_0 := cellB eg1_0 hb
  replace eg1_1 := cellB eg1_1 hb
  replace eh0_0 := cellB eh0_0 hb
  replace eh0_1 := cellB eh0_1 hb
  replace eh1_0 := cellB eh1_0 hb
  replace eh1_1 := cellB eh1_1 hb
  replace ow0_0 := ow0_0.bel hb
  replace ow1_0 := ow1_0.bel hb
  replace og0_0 := og0_0.bel hb
  replace og1_0 := og1_0.bel hb
  replace oh0_0 := oh0_0.bel hb
  replace oh1_0 := oh1_0.bel hb
  replace B := bel2 B hb
  have zw20 := hb.size
  clear hb
  go_wp2_with fail
  refine absW ?_
  intro w21 hw
  have hb : Below w20.heap.size w20 w21 := by rw [hw]; exact (by repeat' (first | assumption | exact Below.refl _ _ | refine Below.drew ?_ | refine Below.alloc ?_ (by first | omega | (simp; done) | (simp; omega)) _))
  clear hw
  replace ew0_0 := cellB ew0_0 hb
  replace ew0_1 := cellB ew0_1 hb
  replace ew1_0 := cellB ew1_0 hb
  replace ew1_1 := cellB ew1_1 hb
  replace eg0_0 := cellB eg0_0 hb
  replace eg0_1 := cellB eg0_1 hb
  replace eg1_0 := cellB eg1_0 hb
  replace eg1_1 := cellB eg1_1 hb
  replace eh0_0 := cellB eh0_0 hb
  replace eh0_1 := cellB eh0_1 hb
  replace eh1_0 := cellB eh1_0 hb
  replace eh1_1 := cellB eh1_1 hb
  replace ow0_0 := ow0_0.bel hb
  replace ow1_0 := ow1_0.bel hb
  replace og0_0 := og0_0.bel hb
  replace og1_0 := og1_0.bel hb
  replace oh0_0 := oh0_0.bel hb
  replace oh1_0 := oh1_0.bel hb
  replace B := bel2 B hb
  have zw21 := hb.size
  clear hb
  refine (eqRegister _ oh1_0.reads ow1_0.reads (by simpa using ow1_0.row.1) (Nat.le_trans fow1_0 kow1_0)).mono ?_
  rintro e w22 ⟨rfl, hb⟩
  replace ew0_0 := cellB ew0_0 hb
  replace ew0_1 := cellB ew0_1 hb
  replace ew1_0 := cellB ew1_0 hb
  replace ew1_1 := cellB ew1_1 hb
  replace eg0_0 := cellB eg0_0 hb
  replace eg0_1 := cellB eg0_1 hb
  replace eg1_0 := cellB eg1_0 hb
  replace eg1_1 := cellB eg1_1 hb
  replace eh0_0 := cellB eh0_0 hb
  replace eh0_1 := cellB eh0_1 hb
  replace eh1_0 := cellB eh1_0 hb
  replace eh1_1 := cellB eh1_1 hb
  replace ow0_0 := ow0_0.bel hb
  replace ow1_0 := ow1_0.bel hb
  replace og0_0 := og0_0.bel hb
  replace og1_0 := og1_0.bel hb
  replace oh0_0 := oh0_0.bel hb
  replace oh1_0 := oh1_0.bel hb
  replace B := bel2 B hb
  have zw22 := hb.size
  clear hb
  go_wp2_with fail
  refine absW ?_
  intro w23 hw
  have hb : Below w22.heap.size w22 w23 := by rw [hw]; exact (by repeat' (first | assumption | exact Below.refl _ _ | refine Below.drew ?_ | refine Below.alloc ?_ (by first | omega | (simp; done) | (simp; omega)) _))
  clear hw
  replace ew0_0 := cellB ew0_0 hb
  replace ew0_1 := cellB ew0_1 hb
  replace ew1_0 := cellB ew1_0 hb
  replace ew1_1 := cellB ew1_1 hb
  replace eg0_0 := cellB eg0_0 hb
  replace eg0_1 := cellB eg0_1 hb
  replace eg1_0 := cellB eg1_0 hb
  replace eg1_1 := cellB eg1_1 hb
  replace eh0_0 := cellB eh0_0 hb
  replace eh0_1 := cellB eh0_1 hb
  replace eh1_0 := cellB eh1_0 hb
  replace eh1_1 := cellB eh1_1 hb
  replace ow0_0 := ow0_0.bel hb
  replace ow1_0 := ow1_0.bel hb
  replace og0_0 := og0_0.bel hb
  replace og1_0 := og1_0.bel hb
  replace oh0_0 := oh0_0.bel hb
  replace oh1_0 := oh1_0.bel hb
  replace B := bel2 B hb
  have zw23 := hb.size
  clear hb
  refine (heldRegister _ _ og0_0.reads (wrN_le _ _) (by omega) (by omega)).mono ?_
  rintro e w24 ⟨rfl, hb⟩
  replace ew0_0 := cellB ew0_0 hb
  replace ew0_1 := cellB ew0_1 hb
  replace ew1_0 := cellB ew1_0 hb
  replace ew1_1 := cellB ew1_1 hb
  replace eg0_0 := cellB eg0_0 hb
  replace eg0_1 := cellB eg0_1 hb
  replace eg1_0 := cellB eg1_0 hb
  replace eg1_1 := cellB eg1_1 hb
  replace eh0_0 := cellB eh0_0 hb
  replace eh0_1 := cellB eh0_1 hb
  replace eh1_0 := cellB eh1_0 hb
  replace eh1_1 := cellB eh1_1 hb
  replace ow0_0 := ow0_0.bel hb
  replace ow1_0 := ow1_0.bel hb
  replace og0_0 := og0_0.bel hb
  replace og1_0 := og1_0.bel hb
  replace oh0_0 := oh0_0.bel hb
  replace oh1_0 := oh1_0.bel hb
  replace B := bel2 B hb
  have zw24 := hb.size
  clear hb
  go_wp2_with fail
  refine absW ?_
  intro w25 hw
  have hb : Below w24.heap.size w24 w25 := by rw [hw]; exact (by repeat' (first | assumption | exact Below.refl _ _ | refine Below.drew ?_ | refine Below.alloc ?_ (by first | omega | (simp; done) | (simp; omega)) _))
  clear hw
  replace ew0_0 := cellB ew0_0 hb
  replace ew0_1 := cellB ew0_1 hb
  replace ew1_0 := cellB ew1_0 hb
  replace ew1_1 := cellB ew1_1 hb
  replace eg0_0 := cellB eg0_0 hb
  replace eg0_1 := cellB eg0_1 hb
  replace eg1_0 := cellB eg1_0 hb
  replace eg1_1 := cellB eg1_1 hb
  replace eh0_0 := cellB eh0_0 hb
  replace eh0_1 := cellB eh0_1 hb
  replace eh1_0 := cellB eh1_0 hb
  replace eh1_1 := cellB eh1_1 hb
  replace ow0_0 := ow0_0.bel hb
  replace ow1_0 := ow1_0.bel hb
  replace og0_0 := og0_0.bel hb
  replace og1_0 := og1_0.bel hb
  replace oh0_0 := oh0_0.bel hb
  replace oh1_0 := oh1_0.bel hb
  replace B := bel2 B hb
  have zw25 := hb.size
  clear hb
  refine (heldRegister _ _ og1_0.reads (wrN_le _ _) (by omega) (by omega)).mono ?_
  rintro e w26 ⟨rfl, hb⟩
  replace ew0_0 := cellB ew0_0 hb
  replace ew0_1 := cellB ew0_1 hb
  replace ew1_0 := cellB ew1_0 hb
  replace ew1_1 := cellB ew1_1 hb
  replace eg0_0 := cellB eg0_0 hb
  replace eg0_1 := cellB eg0_1 hb
  replace eg1_0 := cellB eg1_0 hb
  replace eg1_1 := cellB eg1_1 hb
  replace eh0_0 := cellB eh0_0 hb
  replace eh0_1 := cellB eh0_1 hb
  replace eh1_0 := cellB eh1_0 hb
  replace eh1_1 := cellB eh1_1 hb
  replace ow0_0 := ow0_0.bel hb
  replace ow1_0 := ow1_0.bel hb
  replace og0_0 := og0_0.bel hb
  replace og1_0 := og1_0.bel hb
  replace oh0_0 := oh0_0.bel hb
  replace oh1_0 := oh1_0.bel hb
  replace B := bel2 B hb
  have zw26 := hb.size
  clear hb
  go_wp2
  go_ret
  exact ⟨rfl, bel2 B (by repeat' (first | assumption | exact Below.refl _ _ | refine Below.drew ?_ | refine Below.alloc ?_ (by first | omega | (simp; done) | (simp; omega)) _))⟩
end Go.Proofs.Ytndodfolpjkppaa
