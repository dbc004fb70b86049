/- The walk of the law FnExactReadRegister. No condition. -/
import Derived.Test.YtlnajkimlooapaaDoorRR
import Derived.Deep.RegionHeld3
namespace Go.Proofs.YtlnajkimlooapaaDoor
open Go.RowKit
set_option linter.unusedVariables false

set_option maxRecDepth 100000 in
set_option maxHeartbeats 3200000 in
theorem lReadRegister {a0 : ByteArray} (w : World) (wa0 : a0.size ≤ maxLen) (T : Tab w) :
    Calls Tryd.prog 7 #[.string a0] w fun e w' => e = .returned (.bool true) ∧ Below w.heap.size w w' := by
  by_cases t0 : (a0.size : Int) ≤ 1048576
  rotate_left
  · have t0' : (1048576 : Int) < (a0.size : Int) := by omega
    go_enter Tryd.func7, Tryd.ntmps7
    have B : Below w.heap.size w w := Below.refl _ _
    go_wp2
    go_ret
    exact ⟨rfl, bel2 B (by repeat' (first | assumption | exact Below.refl _ _ | refine Below.drew ?_ | refine Below.alloc ?_ (by first | omega | (simp; done) | (simp; omega)) _))⟩
  have m0 : a0.size ≤ 1048576 := by omega
  go_enter Tryd.func7, Tryd.ntmps7
  have B : Below w.heap.size w w := Below.refl _ _
  go_wp2_with fail
  refine absW ?_
  intro w1 hw
  have hb : Below w.heap.size w w1 := by rw [hw]; exact (by repeat' (first | assumption | exact Below.refl _ _ | refine Below.drew ?_ | refine Below.alloc ?_ (by first | omega | (simp; done) | (simp; omega)) _))
  clear hw
  replace B := bel2 B hb
  have zw1 := hb.size
  clear hb
  refine (sRR _ m0).mono ?_
  rintro e w2 ⟨vw0_0, rfl, ow0_0, hb⟩
  replace B := bel2 B hb
  have zw2 := hb.size
  clear hb
  obtain ⟨Aw0_0, cw0_0, rfl, fow0_0, kow0_0⟩ := ow0_0.form
  go_wp2_with fail
  refine absW ?_
  intro w3 hw
  have hb : Below w2.heap.size w2 w3 := by rw [hw]; exact (by repeat' (first | assumption | exact Below.refl _ _ | refine Below.drew ?_ | refine Below.alloc ?_ (by first | omega | (simp; done) | (simp; omega)) _))
  have ew0_0 : w3.cell? ⟨w2.heap.size, 0, none⟩ = some (.int .i64 (rrB a0)) := by rw [hw]; simp
  have ew0_1 : w3.cell? ⟨w2.heap.size, 1, none⟩ = some (.slice Aw0_0 (rrN a0) cw0_0) := by rw [hw]; simp
  have yw3_ew0_0 : w2.heap.size < w3.heap.size := World.block_lt_of_cell? _ _ ew0_0
  clear hw
  replace ow0_0 := ow0_0.bel hb
  replace B := bel2 B hb
  have zw3 := hb.size
  clear hb
  refine (iRR _ m0 (T.bel B)).mono ?_
  rintro e w4 ⟨vg0_0, rfl, og0_0, hb⟩
  replace ew0_0 := cellB ew0_0 hb
  replace ew0_1 := cellB ew0_1 hb
  replace ow0_0 := ow0_0.bel hb
  replace B := bel2 B hb
  have zw4 := hb.size
  clear hb
  obtain ⟨Ag0_0, cg0_0, rfl, fog0_0, kog0_0⟩ := og0_0.form
  have j1_0 := fun (X0 : Obj) => (cellA ew0_0 X0)
  have j1_1 := fun (X0 : Obj) => (cellA ew0_1 X0)
  go_wp2_with fail
  refine absW ?_
  intro w5 hw
  have hb : Below w4.heap.size w4 w5 := by rw [hw]; exact (by repeat' (first | assumption | exact Below.refl _ _ | refine Below.drew ?_ | refine Below.alloc ?_ (by first | omega | (simp; done) | (simp; omega)) _))
  have eg0_0 : w5.cell? ⟨w4.heap.size, 0, none⟩ = some (.int .i64 (rrB a0)) := by rw [hw]; simp
  have eg0_1 : w5.cell? ⟨w4.heap.size, 1, none⟩ = some (.slice Ag0_0 (rrN a0) cg0_0) := by rw [hw]; simp
  have yw5_eg0_0 : w4.heap.size < w5.heap.size := World.block_lt_of_cell? _ _ eg0_0
  clear hw j1_0 j1_1
  replace ew0_0 := cellB ew0_0 hb
  replace ew0_1 := cellB ew0_1 hb
  replace ow0_0 := ow0_0.bel hb
  replace og0_0 := og0_0.bel hb
  replace B := bel2 B hb
  have zw5 := hb.size
  clear hb
  refine (eqRegister _ og0_0.reads ow0_0.reads (by simpa using ow0_0.row.1) (Nat.le_trans fow0_0 kow0_0)).mono ?_
  rintro e w6 ⟨rfl, hb⟩
  replace ew0_0 := cellB ew0_0 hb
  replace ew0_1 := cellB ew0_1 hb
  replace eg0_0 := cellB eg0_0 hb
  replace eg0_1 := cellB eg0_1 hb
  replace ow0_0 := ow0_0.bel hb
  replace og0_0 := og0_0.bel hb
  replace B := bel2 B hb
  have zw6 := hb.size
  clear hb
  go_wp2_with fail
  refine absW ?_
  intro w7 hw
  have hb : Below w6.heap.size w6 w7 := by rw [hw]; exact (by repeat' (first | assumption | exact Below.refl _ _ | refine Below.drew ?_ | refine Below.alloc ?_ (by first | omega | (simp; done) | (simp; omega)) _))
  clear hw
  replace ew0_0 := cellB ew0_0 hb
  replace ew0_1 := cellB ew0_1 hb
  replace eg0_0 := cellB eg0_0 hb
  replace eg0_1 := cellB eg0_1 hb
  replace ow0_0 := ow0_0.bel hb
  replace og0_0 := og0_0.bel hb
  replace B := bel2 B hb
  have zw7 := hb.size
  clear hb
  refine (markRegister _ _ og0_0 (rrN_le _) (by omega) (by omega)).mono ?_
  rintro e w8 ⟨rfl, p0, ht⟩
  clear og0_0; have og0_0 := p0; clear p0
  replace ew0_0 := cellT ew0_0 ht (by omega)
  replace ew0_1 := cellT ew0_1 ht (by omega)
  replace eg0_0 := cellT eg0_0 ht (by omega)
  replace eg0_1 := cellT eg0_1 ht (by omega)
  replace ow0_0 := ow0_0.touch ht (by omega)
  replace B := Touch.below B ht B.size (by omega)
  have zw8 := ht.size
  clear ht
  go_wp2_with fail
  refine absW ?_
  intro w9 hw
  have hb : Below w8.heap.size w8 w9 := by rw [hw]; exact (by repeat' (first | assumption | exact Below.refl _ _ | refine Below.drew ?_ | refine Below.alloc ?_ (by first | omega | (simp; done) | (simp; omega)) _))
  clear hw
  replace ew0_0 := cellB ew0_0 hb
  replace ew0_1 := cellB ew0_1 hb
  replace eg0_0 := cellB eg0_0 hb
  replace eg0_1 := cellB eg0_1 hb
  replace ow0_0 := ow0_0.bel hb
  replace og0_0 := og0_0.bel hb
  replace B := bel2 B hb
  have zw9 := hb.size
  clear hb
  refine (heldRegister _ _ og0_0.reads (rrN_le _) (by omega) (by omega)).mono ?_
  rintro e w10 ⟨rfl, hb⟩
  replace ew0_0 := cellB ew0_0 hb
  replace ew0_1 := cellB ew0_1 hb
  replace eg0_0 := cellB eg0_0 hb
  replace eg0_1 := cellB eg0_1 hb
  replace ow0_0 := ow0_0.bel hb
  replace og0_0 := og0_0.bel hb
  replace B := bel2 B hb
  have zw10 := hb.size
  clear hb
  go_wp2_with fail
  refine absW ?_
  intro w11 hw
  have hb : Below w10.heap.size w10 w11 := by rw [hw]; exact (by repeat' (first | assumption | exact Below.refl _ _ | refine Below.drew ?_ | refine Below.alloc ?_ (by first | omega | (simp; done) | (simp; omega)) _))
  clear hw
  replace ew0_0 := cellB ew0_0 hb
  replace ew0_1 := cellB ew0_1 hb
  replace eg0_0 := cellB eg0_0 hb
  replace eg0_1 := cellB eg0_1 hb
  replace ow0_0 := ow0_0.bel hb
  replace og0_0 := og0_0.bel hb
  replace B := bel2 B hb
  have zw11 := hb.size
  clear hb
  refine (iRR _ m0 (T.bel B)).mono ?_
  rintro e w12 ⟨vh0_0, rfl, oh0_0, hb⟩
  replace ew0_0 := cellB ew0_0 hb
  replace ew0_1 := cellB ew0_1 hb
  replace eg0_0 := cellB eg0_0 hb
  replace eg0_1 := cellB eg0_1 hb
  replace ow0_0 := ow0_0.bel hb
  replace og0_0 := og0_0.bel hb
  replace B := bel2 B hb
  have zw12 := hb.size
  clear hb
  obtain ⟨Ah0_0, ch0_0, rfl, foh0_0, koh0_0⟩ := oh0_0.form
  have j1_0 := fun (X0 : Obj) => (cellA ew0_0 X0)
  have j1_1 := fun (X0 : Obj) => (cellA ew0_1 X0)
  have j1_2 := fun (X0 : Obj) => (cellA eg0_0 X0)
  have j1_3 := fun (X0 : Obj) => (cellA eg0_1 X0)
  go_wp2_with fail
  refine absW ?_
  intro w13 hw
  have hb : Below w12.heap.size w12 w13 := by rw [hw]; exact (by repeat' (first | assumption | exact Below.refl _ _ | refine Below.drew ?_ | refine Below.alloc ?_ (by first | omega | (simp; done) | (simp; omega)) _))
  have eh0_0 : w13.cell? ⟨w12.heap.size, 0, none⟩ = some (.int .i64 (rrB a0)) := by rw [hw]; simp
  have eh0_1 : w13.cell? ⟨w12.heap.size, 1, none⟩ = some (.slice Ah0_0 (rrN a0) ch0_0) := by rw [hw]; simp
  have yw13_eh0_0 : w12.heap.size < w13.heap.size := World.block_lt_of_cell? _ _ eh0_0
  clear hw j1_0 j1_1 j1_2 j1_3
  replace ew0_0 := cellB ew0_0 hb
  replace ew0_1 := cellB ew0_1 hb
  replace eg0_0 := cellB eg0_0 hb
  replace eg0_1 := cellB eg0_1 hb
  replace ow0_0 := ow0_0.bel hb
  replace og0_0 := og0_0.bel hb
  replace oh0_0 := oh0_0.bel hb
  replace B := bel2 B hb
  have zw13 := hb.size
  clear hb
  refine (eqRegister _ oh0_0.reads ow0_0.reads (by simpa using ow0_0.row.1) (Nat.le_trans fow0_0 kow0_0)).mono ?_
  rintro e w14 ⟨rfl, hb⟩
  replace ew0_0 := cellB ew0_0 hb
  replace ew0_1 := cellB ew0_1 hb
  replace eg0_0 := cellB eg0_0 hb
  replace eg0_1 := cellB eg0_1 hb
  replace eh0_0 := cellB eh0_0 hb
  replace eh0_1 := cellB eh0_1 hb
  replace ow0_0 := ow0_0.bel hb
  replace og0_0 := og0_0.bel hb
  replace oh0_0 := oh0_0.bel hb
  replace B := bel2 B hb
  have zw14 := hb.size
  clear hb
  go_wp2_with fail
  refine absW ?_
  intro w15 hw
  have hb : Below w14.heap.size w14 w15 := by rw [hw]; exact (by repeat' (first | assumption | exact Below.refl _ _ | refine Below.drew ?_ | refine Below.alloc ?_ (by first | omega | (simp; done) | (simp; omega)) _))
  clear hw
  replace ew0_0 := cellB ew0_0 hb
  replace ew0_1 := cellB ew0_1 hb
  replace eg0_0 := cellB eg0_0 hb
  replace eg0_1 := cellB eg0_1 hb
  replace eh0_0 := cellB eh0_0 hb
  replace eh0_1 := cellB eh0_1 hb
  replace ow0_0 := ow0_0.bel hb
  replace og0_0 := og0_0.bel hb
  replace oh0_0 := oh0_0.bel hb
  replace B := bel2 B hb
  have zw15 := hb.size
  clear hb
  refine (heldRegister _ _ og0_0.reads (rrN_le _) (by omega) (by omega)).mono ?_
  rintro e w16 ⟨rfl, hb⟩
  replace ew0_0 := cellB ew0_0 hb
  replace ew0_1 := cellB ew0_1 hb
  replace eg0_0 := cellB eg0_0 hb
  replace eg0_1 := cellB eg0_1 hb
  replace eh0_0 := cellB eh0_0 hb
  replace eh0_1 := cellB eh0_1 hb
  replace ow0_0 := ow0_0.bel hb
  replace og0_0 := og0_0.bel hb
  replace oh0_0 := oh0_0.bel hb
  replace B := bel2 B hb
  have zw16 := hb.size
  clear hb
  go_wp2
  go_ret
  exact ⟨rfl, bel2 B (by repeat' (first | assumption | exact Below.refl _ _ | refine Below.drew ?_ | refine Below.alloc ?_ (by first | omega | (simp; done) | (simp; omega)) _))⟩
end Go.Proofs.YtlnajkimlooapaaDoor
