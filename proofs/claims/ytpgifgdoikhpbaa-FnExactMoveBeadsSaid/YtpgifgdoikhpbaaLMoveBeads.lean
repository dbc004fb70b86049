/- The walk of the law FnExactMoveBeads. No condition. -/
import Derived.Test.YtpgifgdoikhpbaaMoveL
import Derived.Test.YtpgifgdoikhpbaaRgT
import Derived.Deep.RegionHeld3
namespace Go.Proofs.Ytpgifgdoikhpbaa
open Go.RowKit
set_option linter.unusedVariables false

set_option maxRecDepth 100000 in
set_option maxHeartbeats 3200000 in
theorem lMoveBeads {b0_0 : Int} {b0_1 : Int} {b0_2 : Int} {A0_0 : Option Addr} {n0_0 c0_0 : Nat} {x0_0 : List (Int × Int)} {a1_0 : Int} {a1_1 : Int} {a1_2 : Int} (w : World) (wb0_0 : inI b0_0) (wb0_1 : inI b0_1) (wb0_2 : inI b0_2) (h0_0 : PairRow w A0_0 n0_0 c0_0 x0_0) (wa1_0 : inI a1_0) (wa1_1 : inI a1_1) (wa1_2 : inI a1_2) :
    Calls Try.prog 7 #[.agg #[.int .i64 b0_0, .int .i64 b0_1, .int .i64 b0_2, .slice A0_0 n0_0 c0_0], .agg #[.int .i64 a1_0, .int .i64 a1_1, .int .i64 a1_2]] w fun e w' => e = .returned (.bool true) ∧ Below w.heap.size w w' := by
  have r0_0 := h0_0.reads; have l0_0 := Lib.hid h0_0.len; have M0_0 : n0_0 ≤ maxLen := Nat.le_trans h0_0.nc h0_0.cm
  by_cases t0 : (n0_0 : Int) ≤ 1048576
  rotate_left
  · have S0 : Hid (szI n0_0 (1048576) = -1) := by unfold Hid szI; rw [if_neg t0]
    go_enter Try.func7, Try.ntmps7
    have B : Below w.heap.size w w := Below.refl _ _
    go_wp2_with fail
    refine absW ?_
    intro w1 hw
    have hb : Below w.heap.size w w1 := by rw [hw]; exact (by repeat' (first | assumption | exact Below.refl _ _ | refine Below.drew ?_ | refine Below.alloc ?_ (by first | omega | (simp; done) | (simp; omega)) _))
    have e0_0 : w1.cell? ⟨w.heap.size, 0, none⟩ = some (.int .i64 b0_0) := by rw [hw]; simp
    have e0_1 : w1.cell? ⟨w.heap.size, 1, none⟩ = some (.int .i64 b0_1) := by rw [hw]; simp
    have e0_2 : w1.cell? ⟨w.heap.size, 2, none⟩ = some (.int .i64 b0_2) := by rw [hw]; simp
    have e0_3 : w1.cell? ⟨w.heap.size, 3, none⟩ = some (.slice A0_0 n0_0 c0_0) := by rw [hw]; simp
    have e1_0 : w1.cell? ⟨w.heap.size + 1, 0, none⟩ = some (.int .i64 a1_0) := by rw [hw]; simp
    have e1_1 : w1.cell? ⟨w.heap.size + 1, 1, none⟩ = some (.int .i64 a1_1) := by rw [hw]; simp
    have e1_2 : w1.cell? ⟨w.heap.size + 1, 2, none⟩ = some (.int .i64 a1_2) := by rw [hw]; simp
    have yw1_e0_0 : w.heap.size < w1.heap.size := World.block_lt_of_cell? _ _ e0_0
    have yw1_e1_0 : w.heap.size + 1 < w1.heap.size := World.block_lt_of_cell? _ _ e1_0
    clear hw
    replace B := bel2 B hb
    have zw1 := hb.size
    clear hb
    refine (szAbacus _ _ M0_0 (by omega) (by omega)).mono ?_
    rintro e w2 ⟨rfl, hb⟩
    rw [S0.out]
    replace e0_0 := cellB e0_0 hb
    replace e0_1 := cellB e0_1 hb
    replace e0_2 := cellB e0_2 hb
    replace e0_3 := cellB e0_3 hb
    replace e1_0 := cellB e1_0 hb
    replace e1_1 := cellB e1_1 hb
    replace e1_2 := cellB e1_2 hb
    replace B := bel2 B hb
    have zw2 := hb.size
    clear hb
    go_wp2
    go_ret
    exact ⟨rfl, bel2 B (by repeat' (first | assumption | exact Below.refl _ _ | refine Below.drew ?_ | refine Below.alloc ?_ (by first | omega | (simp; done) | (simp; omega)) _))⟩
  have S0 : Hid (szI n0_0 (1048576) = 1048576 - n0_0) := by unfold Hid szI; rw [if_pos t0]
  have m0_0 : n0_0 ≤ 1048576 := by omega
  have q0 : 0 ≤ 1048576 - n0_0 := by omega
  go_enter Try.func7, Try.ntmps7
  have B : Below w.heap.size w w := Below.refl _ _
  go_wp2_with fail
  refine absW ?_
  intro w1 hw
  have hb : Below w.heap.size w w1 := by rw [hw]; exact (by repeat' (first | assumption | exact Below.refl _ _ | refine Below.drew ?_ | refine Below.alloc ?_ (by first | omega | (simp; done) | (simp; omega)) _))
  have e0_0 : w1.cell? ⟨w.heap.size, 0, none⟩ = some (.int .i64 b0_0) := by rw [hw]; simp
  have e0_1 : w1.cell? ⟨w.heap.size, 1, none⟩ = some (.int .i64 b0_1) := by rw [hw]; simp
  have e0_2 : w1.cell? ⟨w.heap.size, 2, none⟩ = some (.int .i64 b0_2) := by rw [hw]; simp
  have e0_3 : w1.cell? ⟨w.heap.size, 3, none⟩ = some (.slice A0_0 n0_0 c0_0) := by rw [hw]; simp
  have e1_0 : w1.cell? ⟨w.heap.size + 1, 0, none⟩ = some (.int .i64 a1_0) := by rw [hw]; simp
  have e1_1 : w1.cell? ⟨w.heap.size + 1, 1, none⟩ = some (.int .i64 a1_1) := by rw [hw]; simp
  have e1_2 : w1.cell? ⟨w.heap.size + 1, 2, none⟩ = some (.int .i64 a1_2) := by rw [hw]; simp
  have yw1_e0_0 : w.heap.size < w1.heap.size := World.block_lt_of_cell? _ _ e0_0
  have yw1_e1_0 : w.heap.size + 1 < w1.heap.size := World.block_lt_of_cell? _ _ e1_0
  clear hw
  replace B := bel2 B hb
  have zw1 := hb.size
  clear hb
  refine (szAbacus _ _ M0_0 (by omega) (by omega)).mono ?_
  rintro e w2 ⟨rfl, hb⟩
  rw [S0.out]
  replace e0_0 := cellB e0_0 hb
  replace e0_1 := cellB e0_1 hb
  replace e0_2 := cellB e0_2 hb
  replace e0_3 := cellB e0_3 hb
  replace e1_0 := cellB e1_0 hb
  replace e1_1 := cellB e1_1 hb
  replace e1_2 := cellB e1_2 hb
  replace B := bel2 B hb
  have zw2 := hb.size
  clear hb
  go_wp2_with fail
  refine wp_region_rgtl 7 (fun i => match i with | 1 => [0] | 3 => [2] | 4 => [1, 3] | 5 => [4] | 6 => [5, 4] | 7 => [5, 4] | _ => [])
    [fun T _ => ∃ x t, T = x :: t ∧ x.1 = .agg #[.int .i64 b0_0, .int .i64 b0_1, .int .i64 b0_2, .slice A0_0 n0_0 c0_0],
       fun T w' => ∃ x t As_0_0 cs_0_0, T = x :: t ∧ x.1 = .agg #[.int .i64 b0_0, .int .i64 b0_1, .int .i64 b0_2, .slice As_0_0 n0_0 cs_0_0] ∧ Own w' x.2.1 x.2.2 69 2 (.slice As_0_0 n0_0 cs_0_0) n0_0 (flat encPair x0_0) ∧ n0_0 ≤ cs_0_0 ∧ cs_0_0 ≤ maxLen,
       fun T _ => ∃ x t, T = x :: t ∧ x.1 = .agg #[.int .i64 a1_0, .int .i64 a1_1, .int .i64 a1_2],
       fun T _ => ∃ x t, T = x :: t ∧ x.1 = .agg #[.int .i64 a1_0, .int .i64 a1_1, .int .i64 a1_2],
       fun T w' => ∃ x t Aw0_0 cw0_0, T = x :: t ∧ x.1 = .tuple #[.agg #[.int .i64 (pkI (mbK b0_0 b0_1 b0_2 x0_0 a1_0 a1_1 a1_2) b0_0), .int .i64 (pkI (mbK b0_0 b0_1 b0_2 x0_0 a1_0 a1_1 a1_2) b0_1), .int .i64 (pkI (mbK b0_0 b0_1 b0_2 x0_0 a1_0 a1_1 a1_2) b0_2), .slice Aw0_0 (mbN b0_0 b0_1 b0_2 x0_0 a1_0 a1_1 a1_2) cw0_0], .int .i64 (mbC b0_0 b0_1 b0_2 x0_0 a1_0 a1_1 a1_2)] ∧ Own w' x.2.1 x.2.2 69 2 (.slice Aw0_0 (mbN b0_0 b0_1 b0_2 x0_0 a1_0 a1_1 a1_2) cw0_0) (mbN b0_0 b0_1 b0_2 x0_0 a1_0 a1_1 a1_2) (flat encPair (mbX b0_0 b0_1 b0_2 x0_0 a1_0 a1_1 a1_2)) ∧ (mbN b0_0 b0_1 b0_2 x0_0 a1_0 a1_1 a1_2) ≤ cw0_0 ∧ cw0_0 ≤ maxLen,
       fun T _ => ∃ x y t, T = x :: y :: t ∧ x.1 = y.1,
       fun T _ => ∃ x y t, T = x :: y :: t ∧ x.1 = tupAt y.1 0,
       fun T _ => ∃ x y t, T = x :: y :: t ∧ x.1 = tupAt y.1 1,
       fun T w' => ∃ x t, T = x :: t ∧ x.1 = .pointer (some ⟨x.2.1, 0, none⟩) ∧ Blk w' x.2.1 29 #[.int .i64 0, .int .i64 0, .int .i64 0, .slice none 0 0] ∧ x.2.2 = x.2.1 + 1] (by kernel_rfl) (by kernel_rfl) (by kernel_rfl) ?_ ?_ ?_ ?_
  · refine And.intro ?_ (And.intro ?_ (And.intro ?_ (And.intro ?_ (And.intro ?_ (And.intro ?_ (And.intro ?_ (And.intro ?_ (And.intro ?_ trivial))))))))
    all_goals (intro T v1 v2 hz hb ht h)
    · exact h
    · obtain ⟨x, t, A1, k, rfl, h1, h2, h3, h4⟩ := h; exact ⟨x, t, A1, k, rfl, h1, h2.bel hb, h3, h4⟩
    · exact h
    · exact h
    · obtain ⟨x, t, A1, k, rfl, h1, h2, h3, h4⟩ := h; exact ⟨x, t, A1, k, rfl, h1, h2.bel hb, h3, h4⟩
    · exact h
    · exact h
    · exact h
    · obtain ⟨x, t, rfl, h1, h2, h3⟩ := h; exact ⟨x, t, rfl, h1, h2.bel hb, h3⟩
  · refine And.intro ?_ (And.intro ?_ (And.intro ?_ (And.intro ?_ (And.intro ?_ (And.intro ?_ (And.intro ?_ (And.intro ?_ (And.intro ?_ trivial))))))))
    all_goals (intro A0 uu ss ee v1 hat hoff hb hz hd hor KK hK)
    · have e2 : A0.tmps[2]?.getD undef = .pointer (some ⟨w.heap.size, 0, none⟩) := rd_at (hoff 2 rfl)
      have y0 := cellB e0_0 hb
      have y1 := cellB e0_1 hb
      have y2 := cellB e0_2 hb
      have y3 := cellB e0_3 hb
      exact op_val (.agg #[.int .i64 b0_0, .int .i64 b0_1, .int .i64 b0_2, .slice A0_0 n0_0 c0_0]) (by simp [execOp, go_sem, e2, y0, y1, y2, y3]) (hK _ _ ⟨_, _, rfl, rfl⟩ (Below.refl _ _))
    · skip
      obtain ⟨x, t, ht, H0⟩ := (hd 0 (by simp)).1
      obtain ⟨rfl, rfl⟩ := List.cons.inj ht
      replace H0 : uu 0 = .agg #[.int .i64 b0_0, .int .i64 b0_1, .int .i64 b0_2, .slice A0_0 n0_0 c0_0] := H0
      have E0 := (rd_at (hat 22 0 rfl (Nat.le_of_ble_eq_true rfl))).trans H0
      refine op_call 16 rfl _ Try.func16 (by kernel_rfl) (by kernel_rfl) #[.agg #[.int .i64 b0_0, .int .i64 b0_1, .int .i64 b0_2, .slice A0_0 n0_0 c0_0]] (by simp [go_sem, E0]) ?_
      have hB' := bel2 B hb
      refine (toAbacus _ (rdB r0_0 (bel2 B hb)) l0_0.out m0_0).mono ?_
      rintro x v2 ⟨vs_0_0, rfl, os_0_0, hbx⟩
      obtain ⟨As_0_0, cs_0_0, rfl, _, _⟩ := os_0_0.form
      obtain ⟨_, _, hq, F1, F2⟩ := os_0_0.form
      injection hq with hq1 hq2 hq3; subst hq1 hq3
      exact ⟨_, rfl, hK _ _ ⟨_, _, _, _, rfl, rfl, os_0_0, F1, F2⟩ hbx⟩
    · have e2 : A0.tmps[3]?.getD undef = .pointer (some ⟨w.heap.size + 1, 0, none⟩) := rd_at (hoff 3 rfl)
      have y0 := cellB e1_0 hb
      have y1 := cellB e1_1 hb
      have y2 := cellB e1_2 hb
      exact op_val (.agg #[.int .i64 a1_0, .int .i64 a1_1, .int .i64 a1_2]) (by simp [execOp, go_sem, e2, y0, y1, y2]) (hK _ _ ⟨_, _, rfl, rfl⟩ (Below.refl _ _))
    · skip
      obtain ⟨x, t, ht, H2⟩ := (hd 2 (by simp)).1
      obtain ⟨rfl, rfl⟩ := List.cons.inj ht
      replace H2 : uu 2 = .agg #[.int .i64 a1_0, .int .i64 a1_1, .int .i64 a1_2] := H2
      have E2 := (rd_at (hat 24 2 rfl (Nat.le_of_ble_eq_true rfl))).trans H2
      refine op_call 26 rfl _ Try.func26 (by kernel_rfl) (by kernel_rfl) #[.agg #[.int .i64 a1_0, .int .i64 a1_1, .int .i64 a1_2]] (by simp [go_sem, E2]) ?_
      have hB' := bel2 B hb
      refine (toBeadMove _).mono ?_
      rintro x v2 ⟨rfl, hbx⟩
      exact ⟨_, rfl, hK _ _ ⟨_, _, rfl, rfl⟩ hbx⟩
    · skip
      obtain ⟨x, t, As_0_0, cs_0_0, ht, H1, os_0_0, _, _⟩ := (hd 1 (by simp)).1
      obtain ⟨rfl, rfl⟩ := List.cons.inj ht
      replace H1 : uu 1 = .agg #[.int .i64 b0_0, .int .i64 b0_1, .int .i64 b0_2, .slice As_0_0 n0_0 cs_0_0] := H1
      replace os_0_0 : Own v1 (ss 1) (ee 1) 69 2 (.slice As_0_0 n0_0 cs_0_0) n0_0 (flat encPair x0_0) := os_0_0
      have E1 := (rd_at (hat 23 1 rfl (Nat.le_of_ble_eq_true rfl))).trans H1
      skip
      obtain ⟨x, t, ht, H3⟩ := (hd 3 (by simp)).1
      obtain ⟨rfl, rfl⟩ := List.cons.inj ht
      replace H3 : uu 3 = .agg #[.int .i64 a1_0, .int .i64 a1_1, .int .i64 a1_2] := H3
      have E3 := (rd_at (hat 25 3 rfl (Nat.le_of_ble_eq_true rfl))).trans H3
      refine op_call 25 rfl _ Try.func25 (by kernel_rfl) (by kernel_rfl) #[.agg #[.int .i64 b0_0, .int .i64 b0_1, .int .i64 b0_2, .slice As_0_0 n0_0 cs_0_0], .agg #[.int .i64 a1_0, .int .i64 a1_1, .int .i64 a1_2]] (by simp [go_sem, E1, E3]) ?_
      have hB' := bel2 B hb
      refine (sMoveB _ os_0_0.reads l0_0.out M0_0).mono ?_
      rintro x v2 ⟨vw0_0, rfl, ow0_0, hbx⟩
      obtain ⟨Aw0_0, cw0_0, rfl, fow0_0, kow0_0⟩ := ow0_0.form
      obtain ⟨_, _, hq, F1, F2⟩ := ow0_0.form
      injection hq with hq1 hq2 hq3; subst hq1 hq3
      exact ⟨_, rfl, hK _ _ ⟨_, _, _, _, rfl, rfl, ow0_0, F1, F2⟩ hbx⟩
    · skip
      obtain ⟨x, t, Aw0_0, cw0_0, ht, H4, ow0_0, _, _⟩ := (hd 4 (by simp)).1
      obtain ⟨rfl, rfl⟩ := List.cons.inj ht
      replace H4 : uu 4 = .tuple #[.agg #[.int .i64 (pkI (mbK b0_0 b0_1 b0_2 x0_0 a1_0 a1_1 a1_2) b0_0), .int .i64 (pkI (mbK b0_0 b0_1 b0_2 x0_0 a1_0 a1_1 a1_2) b0_1), .int .i64 (pkI (mbK b0_0 b0_1 b0_2 x0_0 a1_0 a1_1 a1_2) b0_2), .slice Aw0_0 (mbN b0_0 b0_1 b0_2 x0_0 a1_0 a1_1 a1_2) cw0_0], .int .i64 (mbC b0_0 b0_1 b0_2 x0_0 a1_0 a1_1 a1_2)] := H4
      replace ow0_0 : Own v1 (ss 4) (ee 4) 69 2 (.slice Aw0_0 (mbN b0_0 b0_1 b0_2 x0_0 a1_0 a1_1 a1_2) cw0_0) (mbN b0_0 b0_1 b0_2 x0_0 a1_0 a1_1 a1_2) (flat encPair (mbX b0_0 b0_1 b0_2 x0_0 a1_0 a1_1 a1_2)) := ow0_0
      have E4 := (rd_at (hat 26 4 rfl (Nat.le_of_ble_eq_true rfl))).trans H4
      exact op_val (.tuple #[.agg #[.int .i64 (pkI (mbK b0_0 b0_1 b0_2 x0_0 a1_0 a1_1 a1_2) b0_0), .int .i64 (pkI (mbK b0_0 b0_1 b0_2 x0_0 a1_0 a1_1 a1_2) b0_1), .int .i64 (pkI (mbK b0_0 b0_1 b0_2 x0_0 a1_0 a1_1 a1_2) b0_2), .slice Aw0_0 (mbN b0_0 b0_1 b0_2 x0_0 a1_0 a1_1 a1_2) cw0_0], .int .i64 (mbC b0_0 b0_1 b0_2 x0_0 a1_0 a1_1 a1_2)]) (by simp [execOp, go_sem, E4]) (hK _ _ ⟨_, _, _, rfl, by show _ = uu 4; rw [H4]⟩ (Below.refl _ _))
    · skip
      obtain ⟨x, t, Aw0_0, cw0_0, ht, H4, ow0_0, _, _⟩ := (hd 4 (by simp)).1
      obtain ⟨rfl, rfl⟩ := List.cons.inj ht
      replace H4 : uu 4 = .tuple #[.agg #[.int .i64 (pkI (mbK b0_0 b0_1 b0_2 x0_0 a1_0 a1_1 a1_2) b0_0), .int .i64 (pkI (mbK b0_0 b0_1 b0_2 x0_0 a1_0 a1_1 a1_2) b0_1), .int .i64 (pkI (mbK b0_0 b0_1 b0_2 x0_0 a1_0 a1_1 a1_2) b0_2), .slice Aw0_0 (mbN b0_0 b0_1 b0_2 x0_0 a1_0 a1_1 a1_2) cw0_0], .int .i64 (mbC b0_0 b0_1 b0_2 x0_0 a1_0 a1_1 a1_2)] := H4
      replace ow0_0 : Own v1 (ss 4) (ee 4) 69 2 (.slice Aw0_0 (mbN b0_0 b0_1 b0_2 x0_0 a1_0 a1_1 a1_2) cw0_0) (mbN b0_0 b0_1 b0_2 x0_0 a1_0 a1_1 a1_2) (flat encPair (mbX b0_0 b0_1 b0_2 x0_0 a1_0 a1_1 a1_2)) := ow0_0
      have E4 := (rd_at (hat 26 4 rfl (Nat.le_of_ble_eq_true rfl))).trans H4
      obtain ⟨x, y, t, ht, H5⟩ := (hd 5 (by simp)).1
      have q1 := (List.cons.inj ht).1; have q2 := (List.cons.inj (List.cons.inj ht).2).1
      rw [← q1, ← q2] at H5
      replace H5 : uu 5 = uu 4 := H5
      rw [H4] at H5
      have E5 := (rd_at (hat 21 5 rfl (Nat.le_of_ble_eq_true rfl))).trans H5
      exact op_val (.agg #[.int .i64 (pkI (mbK b0_0 b0_1 b0_2 x0_0 a1_0 a1_1 a1_2) b0_0), .int .i64 (pkI (mbK b0_0 b0_1 b0_2 x0_0 a1_0 a1_1 a1_2) b0_1), .int .i64 (pkI (mbK b0_0 b0_1 b0_2 x0_0 a1_0 a1_1 a1_2) b0_2), .slice Aw0_0 (mbN b0_0 b0_1 b0_2 x0_0 a1_0 a1_1 a1_2) cw0_0]) (by simp [execOp, go_sem, E5]) (hK _ _ ⟨_, _, _, rfl, by show _ = tupAt (uu 5) 0; rw [H5]; rfl⟩ (Below.refl _ _))
    · skip
      obtain ⟨x, t, Aw0_0, cw0_0, ht, H4, ow0_0, _, _⟩ := (hd 4 (by simp)).1
      obtain ⟨rfl, rfl⟩ := List.cons.inj ht
      replace H4 : uu 4 = .tuple #[.agg #[.int .i64 (pkI (mbK b0_0 b0_1 b0_2 x0_0 a1_0 a1_1 a1_2) b0_0), .int .i64 (pkI (mbK b0_0 b0_1 b0_2 x0_0 a1_0 a1_1 a1_2) b0_1), .int .i64 (pkI (mbK b0_0 b0_1 b0_2 x0_0 a1_0 a1_1 a1_2) b0_2), .slice Aw0_0 (mbN b0_0 b0_1 b0_2 x0_0 a1_0 a1_1 a1_2) cw0_0], .int .i64 (mbC b0_0 b0_1 b0_2 x0_0 a1_0 a1_1 a1_2)] := H4
      replace ow0_0 : Own v1 (ss 4) (ee 4) 69 2 (.slice Aw0_0 (mbN b0_0 b0_1 b0_2 x0_0 a1_0 a1_1 a1_2) cw0_0) (mbN b0_0 b0_1 b0_2 x0_0 a1_0 a1_1 a1_2) (flat encPair (mbX b0_0 b0_1 b0_2 x0_0 a1_0 a1_1 a1_2)) := ow0_0
      have E4 := (rd_at (hat 26 4 rfl (Nat.le_of_ble_eq_true rfl))).trans H4
      obtain ⟨x, y, t, ht, H5⟩ := (hd 5 (by simp)).1
      have q1 := (List.cons.inj ht).1; have q2 := (List.cons.inj (List.cons.inj ht).2).1
      rw [← q1, ← q2] at H5
      replace H5 : uu 5 = uu 4 := H5
      rw [H4] at H5
      have E5 := (rd_at (hat 21 5 rfl (Nat.le_of_ble_eq_true rfl))).trans H5
      exact op_val (.int .i64 (mbC b0_0 b0_1 b0_2 x0_0 a1_0 a1_1 a1_2)) (by simp [execOp, go_sem, E5]) (hK _ _ ⟨_, _, _, rfl, by show _ = tupAt (uu 5) 1; rw [H5]; rfl⟩ (Below.refl _ _))
    · exact op_assign (.pointer (some ⟨v1.heap.size, 0, none⟩)) (v1.alloc (.cells #[.int .i64 0, .int .i64 0, .int .i64 0, .slice none 0 0] 29)) (by simp [execOp, go_sem]) (hK _ _ ⟨_, _, rfl, rfl, Blk.new _ _ _, by simp⟩ ((Below.refl _ _).alloc (Nat.le_refl _) _))
  · intro oo hoo uu ss ee v1 hd
    obtain rfl := Option.some.inj hoo
    obtain ⟨x, t, Aw0_0, cw0_0, ht, H4, ow0_0, _, _⟩ := (hd 4 (by simp)).1
    obtain ⟨rfl, rfl⟩ := List.cons.inj ht
    replace H4 : uu 4 = .tuple #[.agg #[.int .i64 (pkI (mbK b0_0 b0_1 b0_2 x0_0 a1_0 a1_1 a1_2) b0_0), .int .i64 (pkI (mbK b0_0 b0_1 b0_2 x0_0 a1_0 a1_1 a1_2) b0_1), .int .i64 (pkI (mbK b0_0 b0_1 b0_2 x0_0 a1_0 a1_1 a1_2) b0_2), .slice Aw0_0 (mbN b0_0 b0_1 b0_2 x0_0 a1_0 a1_1 a1_2) cw0_0], .int .i64 (mbC b0_0 b0_1 b0_2 x0_0 a1_0 a1_1 a1_2)] := H4
    replace ow0_0 : Own v1 (ss 4) (ee 4) 69 2 (.slice Aw0_0 (mbN b0_0 b0_1 b0_2 x0_0 a1_0 a1_1 a1_2) cw0_0) (mbN b0_0 b0_1 b0_2 x0_0 a1_0 a1_1 a1_2) (flat encPair (mbX b0_0 b0_1 b0_2 x0_0 a1_0 a1_1 a1_2)) := ow0_0
    obtain ⟨x, y, t, ht, H5⟩ := (hd 5 (by simp)).1
    have q1 := (List.cons.inj ht).1; have q2 := (List.cons.inj (List.cons.inj ht).2).1
    rw [← q1, ← q2] at H5
    replace H5 : uu 5 = uu 4 := H5
    rw [H4] at H5
    refine ⟨.int .i64 (mbC b0_0 b0_1 b0_2 x0_0 a1_0 a1_1 a1_2), fun x y w2 => ⟨_, _, _, rfl, by show _ = tupAt (uu 5) 1; rw [H5]; rfl⟩, ?_⟩
    intro A0 hat w2
    have E := (rd_at (hat 21 5 rfl (Nat.le_of_ble_eq_true rfl) (by simp))).trans H5
    simp [execOp, go_sem, E]
  intro uu ss ee w3 hb hz hf hdis hor oo hoo
  obtain rfl := Option.some.inj hoo; clear hoo
  obtain ⟨x, t, ht, H0⟩ := (hf 0 (Nat.le_of_ble_eq_true rfl)).1
  obtain ⟨rfl, rfl⟩ := List.cons.inj ht
  replace H0 : uu 0 = .agg #[.int .i64 b0_0, .int .i64 b0_1, .int .i64 b0_2, .slice A0_0 n0_0 c0_0] := H0
  obtain ⟨x, t, As_0_0, cs_0_0, ht, H1, os_0_0, fos_0_0, kos_0_0⟩ := (hf 1 (Nat.le_of_ble_eq_true rfl)).1
  obtain ⟨rfl, rfl⟩ := List.cons.inj ht
  replace H1 : uu 1 = .agg #[.int .i64 b0_0, .int .i64 b0_1, .int .i64 b0_2, .slice As_0_0 n0_0 cs_0_0] := H1
  replace os_0_0 : Own w3 (ss 1) (ee 1) 69 2 (.slice As_0_0 n0_0 cs_0_0) n0_0 (flat encPair x0_0) := os_0_0
  have bos_0_0 : w2.heap.size ≤ ss 1 ∧ ss 1 ≤ ee 1 ∧ ee 1 ≤ w3.heap.size := (hf 1 (Nat.le_of_ble_eq_true rfl)).2
  obtain ⟨x, t, ht, H2⟩ := (hf 2 (Nat.le_of_ble_eq_true rfl)).1
  obtain ⟨rfl, rfl⟩ := List.cons.inj ht
  replace H2 : uu 2 = .agg #[.int .i64 a1_0, .int .i64 a1_1, .int .i64 a1_2] := H2
  obtain ⟨x, t, ht, H3⟩ := (hf 3 (Nat.le_of_ble_eq_true rfl)).1
  obtain ⟨rfl, rfl⟩ := List.cons.inj ht
  replace H3 : uu 3 = .agg #[.int .i64 a1_0, .int .i64 a1_1, .int .i64 a1_2] := H3
  obtain ⟨x, t, Aw0_0, cw0_0, ht, H4, ow0_0, fow0_0, kow0_0⟩ := (hf 4 (Nat.le_of_ble_eq_true rfl)).1
  obtain ⟨rfl, rfl⟩ := List.cons.inj ht
  replace H4 : uu 4 = .tuple #[.agg #[.int .i64 (pkI (mbK b0_0 b0_1 b0_2 x0_0 a1_0 a1_1 a1_2) b0_0), .int .i64 (pkI (mbK b0_0 b0_1 b0_2 x0_0 a1_0 a1_1 a1_2) b0_1), .int .i64 (pkI (mbK b0_0 b0_1 b0_2 x0_0 a1_0 a1_1 a1_2) b0_2), .slice Aw0_0 (mbN b0_0 b0_1 b0_2 x0_0 a1_0 a1_1 a1_2) cw0_0], .int .i64 (mbC b0_0 b0_1 b0_2 x0_0 a1_0 a1_1 a1_2)] := H4
  replace ow0_0 : Own w3 (ss 4) (ee 4) 69 2 (.slice Aw0_0 (mbN b0_0 b0_1 b0_2 x0_0 a1_0 a1_1 a1_2) cw0_0) (mbN b0_0 b0_1 b0_2 x0_0 a1_0 a1_1 a1_2) (flat encPair (mbX b0_0 b0_1 b0_2 x0_0 a1_0 a1_1 a1_2)) := ow0_0
  have bow0_0 : w2.heap.size ≤ ss 4 ∧ ss 4 ≤ ee 4 ∧ ee 4 ≤ w3.heap.size := (hf 4 (Nat.le_of_ble_eq_true rfl)).2
  obtain ⟨x, y, t, ht, H5⟩ := (hf 5 (Nat.le_of_ble_eq_true rfl)).1
  have q1 := (List.cons.inj ht).1; have q2 := (List.cons.inj (List.cons.inj ht).2).1
  rw [← q1, ← q2] at H5; clear q1 q2 ht
  replace H5 : uu 5 = uu 4 := H5
  rw [H4] at H5
  obtain ⟨x, y, t, ht, H6⟩ := (hf 6 (Nat.le_of_ble_eq_true rfl)).1
  have q1 := (List.cons.inj ht).1; have q2 := (List.cons.inj (List.cons.inj ht).2).1
  rw [← q1, ← q2] at H6; clear q1 q2 ht
  replace H6 : uu 6 = tupAt (uu 5) 0 := H6
  rw [H5] at H6
  replace H6 : uu 6 = .agg #[.int .i64 (pkI (mbK b0_0 b0_1 b0_2 x0_0 a1_0 a1_1 a1_2) b0_0), .int .i64 (pkI (mbK b0_0 b0_1 b0_2 x0_0 a1_0 a1_1 a1_2) b0_1), .int .i64 (pkI (mbK b0_0 b0_1 b0_2 x0_0 a1_0 a1_1 a1_2) b0_2), .slice Aw0_0 (mbN b0_0 b0_1 b0_2 x0_0 a1_0 a1_1 a1_2) cw0_0] := H6
  obtain ⟨x, y, t, ht, H7⟩ := (hf 7 (Nat.le_of_ble_eq_true rfl)).1
  have q1 := (List.cons.inj ht).1; have q2 := (List.cons.inj (List.cons.inj ht).2).1
  rw [← q1, ← q2] at H7; clear q1 q2 ht
  replace H7 : uu 7 = tupAt (uu 5) 1 := H7
  rw [H5] at H7
  replace H7 : uu 7 = .int .i64 (mbC b0_0 b0_1 b0_2 x0_0 a1_0 a1_1 a1_2) := H7
  obtain ⟨x, t, ht, H8, G8, L8⟩ := (hf 8 (Nat.le_of_ble_eq_true rfl)).1
  obtain ⟨rfl, rfl⟩ := List.cons.inj ht
  replace H8 : uu 8 = .pointer (some ⟨ss 8, 0, none⟩) := H8; replace G8 : Blk w3 (ss 8) 29 #[.int .i64 0, .int .i64 0, .int .i64 0, .slice none 0 0] := G8; replace L8 : ee 8 = ss 8 + 1 := L8
  have bb8 : w2.heap.size ≤ ss 8 ∧ ss 8 ≤ ee 8 ∧ ee 8 ≤ w3.heap.size := (hf 8 (Nat.le_of_ble_eq_true rfl)).2
  have D8_os_0_0 := hdis 1 8 (Nat.le_of_ble_eq_true rfl) (Nat.le_of_ble_eq_true rfl) (by decide)
  have D8_ow0_0 := hdis 4 8 (Nat.le_of_ble_eq_true rfl) (Nat.le_of_ble_eq_true rfl) (by decide)
  simp only [List.length_cons, List.length_nil, Nat.zero_add, Nat.reduceAdd, List.drop_succ_cons, List.drop_zero, putAll, List.getElem?_cons_succ, List.getElem?_cons_zero, Option.bind_some, H0, H1, H2, H3, H4, H5, H6, H7, H8]
  clear hf hdis hor hz H0 H1 H2 H3 H4 H5 H6 H7 H8
  generalize ss 1 = lo1_w3, ee 1 = hi1_w3 at os_0_0 bos_0_0 D8_os_0_0
  generalize ss 4 = lo4_w3, ee 4 = hi4_w3 at ow0_0 bow0_0 D8_ow0_0
  generalize ss 8 = lo8_w3, ee 8 = hi8_w3 at G8 L8 bb8 D8_os_0_0 D8_ow0_0 ⊢
  replace e0_0 := cellB e0_0 hb
  replace e0_1 := cellB e0_1 hb
  replace e0_2 := cellB e0_2 hb
  replace e0_3 := cellB e0_3 hb
  replace e1_0 := cellB e1_0 hb
  replace e1_1 := cellB e1_1 hb
  replace e1_2 := cellB e1_2 hb
  replace B := bel2 B hb
  have zw3 := hb.size
  clear hb
  have gf8 := G8.frozen; have gl8 := G8.lt
  have gc8_0 := G8.cell 0
  have gc8_1 := G8.cell 1
  have gc8_2 := G8.cell 2
  have gc8_3 := G8.cell 3
  simp at gc8_0 gc8_1 gc8_2 gc8_3
  have ne8_e0_0 : ¬ lo8_w3 = w.heap.size := by omega
  have ne8_e0_1 : ¬ lo8_w3 = w.heap.size := by omega
  have ne8_e0_2 : ¬ lo8_w3 = w.heap.size := by omega
  have ne8_e0_3 : ¬ lo8_w3 = w.heap.size := by omega
  have ne8_e1_0 : ¬ lo8_w3 = w.heap.size + 1 := by omega
  have ne8_e1_1 : ¬ lo8_w3 = w.heap.size + 1 := by omega
  have ne8_e1_2 : ¬ lo8_w3 = w.heap.size + 1 := by omega
  refine ⟨((((w3).setCell ⟨lo8_w3, 0, none⟩ (.int .i64 (pkI (mbK b0_0 b0_1 b0_2 x0_0 a1_0 a1_1 a1_2) b0_0))).setCell ⟨lo8_w3, 1, none⟩ (.int .i64 (pkI (mbK b0_0 b0_1 b0_2 x0_0 a1_0 a1_1 a1_2) b0_1))).setCell ⟨lo8_w3, 2, none⟩ (.int .i64 (pkI (mbK b0_0 b0_1 b0_2 x0_0 a1_0 a1_1 a1_2) b0_2))).setCell ⟨lo8_w3, 3, none⟩ (.slice Aw0_0 (mbN b0_0 b0_1 b0_2 x0_0 a1_0 a1_1 a1_2) cw0_0), by simp [execOp, go_sem, gf8, gc8_0, gc8_1, gc8_2, gc8_3], ?_⟩
  go_wp2_with fail
  refine absW ?_
  intro w4 hw
  replace e0_0 : w4.cell? ⟨w.heap.size, 0, none⟩ = some (.int .i64 b0_0) := by rw [hw]; exact cellS (cellS (cellS (cellS (e0_0) (by omega)) (by omega)) (by omega)) (by omega)
  replace e0_1 : w4.cell? ⟨w.heap.size, 1, none⟩ = some (.int .i64 b0_1) := by rw [hw]; exact cellS (cellS (cellS (cellS (e0_1) (by omega)) (by omega)) (by omega)) (by omega)
  replace e0_2 : w4.cell? ⟨w.heap.size, 2, none⟩ = some (.int .i64 b0_2) := by rw [hw]; exact cellS (cellS (cellS (cellS (e0_2) (by omega)) (by omega)) (by omega)) (by omega)
  replace e0_3 : w4.cell? ⟨w.heap.size, 3, none⟩ = some (.slice A0_0 n0_0 c0_0) := by rw [hw]; exact cellS (cellS (cellS (cellS (e0_3) (by omega)) (by omega)) (by omega)) (by omega)
  replace e1_0 : w4.cell? ⟨w.heap.size + 1, 0, none⟩ = some (.int .i64 a1_0) := by rw [hw]; exact cellS (cellS (cellS (cellS (e1_0) (by omega)) (by omega)) (by omega)) (by omega)
  replace e1_1 : w4.cell? ⟨w.heap.size + 1, 1, none⟩ = some (.int .i64 a1_1) := by rw [hw]; exact cellS (cellS (cellS (cellS (e1_1) (by omega)) (by omega)) (by omega)) (by omega)
  replace e1_2 : w4.cell? ⟨w.heap.size + 1, 2, none⟩ = some (.int .i64 a1_2) := by rw [hw]; exact cellS (cellS (cellS (cellS (e1_2) (by omega)) (by omega)) (by omega)) (by omega)
  replace os_0_0 := ((((os_0_0.setLow (p := ⟨lo8_w3, 0, none⟩) (by show lo8_w3 < _ ∨ _ ≤ lo8_w3; omega) (.int .i64 (pkI (mbK b0_0 b0_1 b0_2 x0_0 a1_0 a1_1 a1_2) b0_0))).setLow (p := ⟨lo8_w3, 1, none⟩) (by show lo8_w3 < _ ∨ _ ≤ lo8_w3; omega) (.int .i64 (pkI (mbK b0_0 b0_1 b0_2 x0_0 a1_0 a1_1 a1_2) b0_1))).setLow (p := ⟨lo8_w3, 2, none⟩) (by show lo8_w3 < _ ∨ _ ≤ lo8_w3; omega) (.int .i64 (pkI (mbK b0_0 b0_1 b0_2 x0_0 a1_0 a1_1 a1_2) b0_2))).setLow (p := ⟨lo8_w3, 3, none⟩) (by show lo8_w3 < _ ∨ _ ≤ lo8_w3; omega) (.slice Aw0_0 (mbN b0_0 b0_1 b0_2 x0_0 a1_0 a1_1 a1_2) cw0_0))
  rw [← hw] at os_0_0
  replace ow0_0 := ((((ow0_0.setLow (p := ⟨lo8_w3, 0, none⟩) (by show lo8_w3 < _ ∨ _ ≤ lo8_w3; omega) (.int .i64 (pkI (mbK b0_0 b0_1 b0_2 x0_0 a1_0 a1_1 a1_2) b0_0))).setLow (p := ⟨lo8_w3, 1, none⟩) (by show lo8_w3 < _ ∨ _ ≤ lo8_w3; omega) (.int .i64 (pkI (mbK b0_0 b0_1 b0_2 x0_0 a1_0 a1_1 a1_2) b0_1))).setLow (p := ⟨lo8_w3, 2, none⟩) (by show lo8_w3 < _ ∨ _ ≤ lo8_w3; omega) (.int .i64 (pkI (mbK b0_0 b0_1 b0_2 x0_0 a1_0 a1_1 a1_2) b0_2))).setLow (p := ⟨lo8_w3, 3, none⟩) (by show lo8_w3 < _ ∨ _ ≤ lo8_w3; omega) (.slice Aw0_0 (mbN b0_0 b0_1 b0_2 x0_0 a1_0 a1_1 a1_2) cw0_0))
  rw [← hw] at ow0_0
  have GG := ((((G8.set_ 0 (.int .i64 (pkI (mbK b0_0 b0_1 b0_2 x0_0 a1_0 a1_1 a1_2) b0_0))).set_ 1 (.int .i64 (pkI (mbK b0_0 b0_1 b0_2 x0_0 a1_0 a1_1 a1_2) b0_1))).set_ 2 (.int .i64 (pkI (mbK b0_0 b0_1 b0_2 x0_0 a1_0 a1_1 a1_2) b0_2))).set_ 3 (.slice Aw0_0 (mbN b0_0 b0_1 b0_2 x0_0 a1_0 a1_1 a1_2) cw0_0))
  rw [← hw] at GG
  have ew0_0 : w4.cell? ⟨lo8_w3, 0, none⟩ = some (.int .i64 (pkI (mbK b0_0 b0_1 b0_2 x0_0 a1_0 a1_1 a1_2) b0_0)) := GG.cell 0
  have ew0_1 : w4.cell? ⟨lo8_w3, 1, none⟩ = some (.int .i64 (pkI (mbK b0_0 b0_1 b0_2 x0_0 a1_0 a1_1 a1_2) b0_1)) := GG.cell 1
  have ew0_2 : w4.cell? ⟨lo8_w3, 2, none⟩ = some (.int .i64 (pkI (mbK b0_0 b0_1 b0_2 x0_0 a1_0 a1_1 a1_2) b0_2)) := GG.cell 2
  have ew0_3 : w4.cell? ⟨lo8_w3, 3, none⟩ = some (.slice Aw0_0 (mbN b0_0 b0_1 b0_2 x0_0 a1_0 a1_1 a1_2) cw0_0) := GG.cell 3
  clear GG
  have zzw4 : w4.heap.size = w3.heap.size := by rw [hw]; simp
  replace B : Below w.heap.size w w4 := by rw [hw]; exact ((((B).setCell (by show w.heap.size ≤ lo8_w3; omega) _).setCell (by show w.heap.size ≤ lo8_w3; omega) _).setCell (by show w.heap.size ≤ lo8_w3; omega) _).setCell (by show w.heap.size ≤ lo8_w3; omega) _
  clear hw
  clear os_0_0
  refine (toAbacus _ (rdB r0_0 B) l0_0.out m0_0).mono ?_
  rintro e w5 ⟨vx_0_0, rfl, ox_0_0, hb⟩
  replace e0_0 := cellB e0_0 hb
  replace e0_1 := cellB e0_1 hb
  replace e0_2 := cellB e0_2 hb
  replace e0_3 := cellB e0_3 hb
  replace e1_0 := cellB e1_0 hb
  replace e1_1 := cellB e1_1 hb
  replace e1_2 := cellB e1_2 hb
  replace ew0_0 := cellB ew0_0 hb
  replace ew0_1 := cellB ew0_1 hb
  replace ew0_2 := cellB ew0_2 hb
  replace ew0_3 := cellB ew0_3 hb
  replace ow0_0 := ow0_0.bel hb
  replace B := bel2 B hb
  have zw5 := hb.size
  clear hb
  obtain ⟨Ax_0_0, cx_0_0, rfl, _, _⟩ := ox_0_0.form
  have j1_0 := fun (X0 : Obj) => (cellA e0_0 X0)
  have j1_1 := fun (X0 : Obj) => (cellA e0_1 X0)
  have j1_2 := fun (X0 : Obj) => (cellA e0_2 X0)
  have j1_3 := fun (X0 : Obj) => (cellA e0_3 X0)
  have j1_4 := fun (X0 : Obj) => (cellA e1_0 X0)
  have j1_5 := fun (X0 : Obj) => (cellA e1_1 X0)
  have j1_6 := fun (X0 : Obj) => (cellA e1_2 X0)
  have j1_7 := fun (X0 : Obj) => (cellA ew0_0 X0)
  have j1_8 := fun (X0 : Obj) => (cellA ew0_1 X0)
  have j1_9 := fun (X0 : Obj) => (cellA ew0_2 X0)
  have j1_10 := fun (X0 : Obj) => (cellA ew0_3 X0)
  go_wp2_with fail
  refine absC ?_
  intro w6 hw
  have hb : Below w5.heap.size w5 w6 := by rw [hw]; exact (by repeat' (first | assumption | exact Below.refl _ _ | refine Below.drew ?_ | refine Below.alloc ?_ (by first | omega | (simp; done) | (simp; omega)) _))
  have ex_0_0 : w6.cell? ⟨w5.heap.size, 0, none⟩ = some (.int .i64 b0_0) := by rw [hw]; simp
  have ex_0_1 : w6.cell? ⟨w5.heap.size, 1, none⟩ = some (.int .i64 b0_1) := by rw [hw]; simp
  have ex_0_2 : w6.cell? ⟨w5.heap.size, 2, none⟩ = some (.int .i64 b0_2) := by rw [hw]; simp
  have ex_0_3 : w6.cell? ⟨w5.heap.size, 3, none⟩ = some (.slice Ax_0_0 n0_0 cx_0_0) := by rw [hw]; simp
  have yw6_ex_0_0 : w5.heap.size < w6.heap.size := World.block_lt_of_cell? _ _ ex_0_0
  clear hw j1_0 j1_1 j1_2 j1_3 j1_4 j1_5 j1_6 j1_7 j1_8 j1_9 j1_10
  replace e0_0 := cellB e0_0 hb
  replace e0_1 := cellB e0_1 hb
  replace e0_2 := cellB e0_2 hb
  replace e0_3 := cellB e0_3 hb
  replace e1_0 := cellB e1_0 hb
  replace e1_1 := cellB e1_1 hb
  replace e1_2 := cellB e1_2 hb
  replace ew0_0 := cellB ew0_0 hb
  replace ew0_1 := cellB ew0_1 hb
  replace ew0_2 := cellB ew0_2 hb
  replace ew0_3 := cellB ew0_3 hb
  replace ow0_0 := ow0_0.bel hb
  replace ox_0_0 := ox_0_0.bel hb
  replace B := bel2 B hb
  have zw6 := hb.size
  clear hb
  refine wp_region_rgtl 6 (fun i => match i with | 2 => [1] | 3 => [0, 2] | 4 => [3] | 5 => [4, 3] | 6 => [4, 3] | _ => [])
    [fun T _ => ∃ x t, T = x :: t ∧ x.1 = .agg #[.int .i64 b0_0, .int .i64 b0_1, .int .i64 b0_2, .slice Ax_0_0 n0_0 cx_0_0],
       fun T _ => ∃ x t, T = x :: t ∧ x.1 = .agg #[.int .i64 a1_0, .int .i64 a1_1, .int .i64 a1_2],
       fun T _ => ∃ x t, T = x :: t ∧ x.1 = .agg #[.int .i64 a1_0, .int .i64 a1_1, .int .i64 a1_2],
       fun T w' => ∃ x t Ag0_0 cg0_0, T = x :: t ∧ x.1 = .tuple #[.agg #[.int .i64 (pkI (mbK b0_0 b0_1 b0_2 x0_0 a1_0 a1_1 a1_2) b0_0), .int .i64 (pkI (mbK b0_0 b0_1 b0_2 x0_0 a1_0 a1_1 a1_2) b0_1), .int .i64 (pkI (mbK b0_0 b0_1 b0_2 x0_0 a1_0 a1_1 a1_2) b0_2), .slice Ag0_0 (mbN b0_0 b0_1 b0_2 x0_0 a1_0 a1_1 a1_2) cg0_0], .int .i64 (mbC b0_0 b0_1 b0_2 x0_0 a1_0 a1_1 a1_2)] ∧ Own w' x.2.1 x.2.2 69 2 (.slice Ag0_0 (mbN b0_0 b0_1 b0_2 x0_0 a1_0 a1_1 a1_2) cg0_0) (mbN b0_0 b0_1 b0_2 x0_0 a1_0 a1_1 a1_2) (flat encPair (mbX b0_0 b0_1 b0_2 x0_0 a1_0 a1_1 a1_2)) ∧ (mbN b0_0 b0_1 b0_2 x0_0 a1_0 a1_1 a1_2) ≤ cg0_0 ∧ cg0_0 ≤ maxLen,
       fun T _ => ∃ x y t, T = x :: y :: t ∧ x.1 = y.1,
       fun T _ => ∃ x y t, T = x :: y :: t ∧ x.1 = tupAt y.1 0,
       fun T _ => ∃ x y t, T = x :: y :: t ∧ x.1 = tupAt y.1 1,
       fun T w' => ∃ x t, T = x :: t ∧ x.1 = .pointer (some ⟨x.2.1, 0, none⟩) ∧ Blk w' x.2.1 29 #[.int .i64 0, .int .i64 0, .int .i64 0, .slice none 0 0] ∧ x.2.2 = x.2.1 + 1] (by kernel_rfl) (by kernel_rfl) (by kernel_rfl) ?_ ?_ ?_ ?_
  · refine And.intro ?_ (And.intro ?_ (And.intro ?_ (And.intro ?_ (And.intro ?_ (And.intro ?_ (And.intro ?_ (And.intro ?_ trivial)))))))
    all_goals (intro T v1 v2 hz hb ht h)
    · exact h
    · exact h
    · exact h
    · obtain ⟨x, t, A1, k, rfl, h1, h2, h3, h4⟩ := h; exact ⟨x, t, A1, k, rfl, h1, h2.bel hb, h3, h4⟩
    · exact h
    · exact h
    · exact h
    · obtain ⟨x, t, rfl, h1, h2, h3⟩ := h; exact ⟨x, t, rfl, h1, h2.bel hb, h3⟩
  · refine And.intro ?_ (And.intro ?_ (And.intro ?_ (And.intro ?_ (And.intro ?_ (And.intro ?_ (And.intro ?_ (And.intro ?_ trivial)))))))
    all_goals (intro A0 uu ss ee v1 hat hoff hb hz hd hor KK hK)
    · have e2 : A0.tmps[8]?.getD undef = .pointer (some ⟨w5.heap.size, 0, none⟩) := rd_at (hoff 8 rfl)
      have y0 := cellB ex_0_0 hb
      have y1 := cellB ex_0_1 hb
      have y2 := cellB ex_0_2 hb
      have y3 := cellB ex_0_3 hb
      exact op_val (.agg #[.int .i64 b0_0, .int .i64 b0_1, .int .i64 b0_2, .slice Ax_0_0 n0_0 cx_0_0]) (by simp [execOp, go_sem, e2, y0, y1, y2, y3]) (hK _ _ ⟨_, _, rfl, rfl⟩ (Below.refl _ _))
    · have e2 : A0.tmps[3]?.getD undef = .pointer (some ⟨w.heap.size + 1, 0, none⟩) := rd_at (hoff 3 rfl)
      have y0 := cellB e1_0 hb
      have y1 := cellB e1_1 hb
      have y2 := cellB e1_2 hb
      exact op_val (.agg #[.int .i64 a1_0, .int .i64 a1_1, .int .i64 a1_2]) (by simp [execOp, go_sem, e2, y0, y1, y2]) (hK _ _ ⟨_, _, rfl, rfl⟩ (Below.refl _ _))
    · skip
      obtain ⟨x, t, ht, H1⟩ := (hd 1 (by simp)).1
      obtain ⟨rfl, rfl⟩ := List.cons.inj ht
      replace H1 : uu 1 = .agg #[.int .i64 a1_0, .int .i64 a1_1, .int .i64 a1_2] := H1
      have E1 := (rd_at (hat 33 1 rfl (Nat.le_of_ble_eq_true rfl))).trans H1
      refine op_call 26 rfl _ Try.func26 (by kernel_rfl) (by kernel_rfl) #[.agg #[.int .i64 a1_0, .int .i64 a1_1, .int .i64 a1_2]] (by simp [go_sem, E1]) ?_
      have hB' := bel2 B hb
      refine (toBeadMove _).mono ?_
      rintro x v2 ⟨rfl, hbx⟩
      exact ⟨_, rfl, hK _ _ ⟨_, _, rfl, rfl⟩ hbx⟩
    · skip
      obtain ⟨x, t, ht, H0⟩ := (hd 0 (by simp)).1
      obtain ⟨rfl, rfl⟩ := List.cons.inj ht
      replace H0 : uu 0 = .agg #[.int .i64 b0_0, .int .i64 b0_1, .int .i64 b0_2, .slice Ax_0_0 n0_0 cx_0_0] := H0
      have E0 := (rd_at (hat 32 0 rfl (Nat.le_of_ble_eq_true rfl))).trans H0
      skip
      obtain ⟨x, t, ht, H2⟩ := (hd 2 (by simp)).1
      obtain ⟨rfl, rfl⟩ := List.cons.inj ht
      replace H2 : uu 2 = .agg #[.int .i64 a1_0, .int .i64 a1_1, .int .i64 a1_2] := H2
      have E2 := (rd_at (hat 34 2 rfl (Nat.le_of_ble_eq_true rfl))).trans H2
      refine op_call 27 rfl _ Try.func27 (by kernel_rfl) (by kernel_rfl) #[.agg #[.int .i64 b0_0, .int .i64 b0_1, .int .i64 b0_2, .slice Ax_0_0 n0_0 cx_0_0], .agg #[.int .i64 a1_0, .int .i64 a1_1, .int .i64 a1_2]] (by simp [go_sem, E0, E2]) ?_
      have hB' := bel2 B hb
      refine (iMoveB _ (Own.reads (Own.bel ox_0_0 (by assumption))) l0_0.out M0_0).mono ?_
      rintro x v2 ⟨vg0_0, rfl, og0_0, hbx⟩
      obtain ⟨Ag0_0, cg0_0, rfl, fog0_0, kog0_0⟩ := og0_0.form
      obtain ⟨_, _, hq, F1, F2⟩ := og0_0.form
      injection hq with hq1 hq2 hq3; subst hq1 hq3
      exact ⟨_, rfl, hK _ _ ⟨_, _, _, _, rfl, rfl, og0_0, F1, F2⟩ hbx⟩
    · skip
      obtain ⟨x, t, Ag0_0, cg0_0, ht, H3, og0_0, _, _⟩ := (hd 3 (by simp)).1
      obtain ⟨rfl, rfl⟩ := List.cons.inj ht
      replace H3 : uu 3 = .tuple #[.agg #[.int .i64 (pkI (mbK b0_0 b0_1 b0_2 x0_0 a1_0 a1_1 a1_2) b0_0), .int .i64 (pkI (mbK b0_0 b0_1 b0_2 x0_0 a1_0 a1_1 a1_2) b0_1), .int .i64 (pkI (mbK b0_0 b0_1 b0_2 x0_0 a1_0 a1_1 a1_2) b0_2), .slice Ag0_0 (mbN b0_0 b0_1 b0_2 x0_0 a1_0 a1_1 a1_2) cg0_0], .int .i64 (mbC b0_0 b0_1 b0_2 x0_0 a1_0 a1_1 a1_2)] := H3
      replace og0_0 : Own v1 (ss 3) (ee 3) 69 2 (.slice Ag0_0 (mbN b0_0 b0_1 b0_2 x0_0 a1_0 a1_1 a1_2) cg0_0) (mbN b0_0 b0_1 b0_2 x0_0 a1_0 a1_1 a1_2) (flat encPair (mbX b0_0 b0_1 b0_2 x0_0 a1_0 a1_1 a1_2)) := og0_0
      have E3 := (rd_at (hat 35 3 rfl (Nat.le_of_ble_eq_true rfl))).trans H3
      exact op_val (.tuple #[.agg #[.int .i64 (pkI (mbK b0_0 b0_1 b0_2 x0_0 a1_0 a1_1 a1_2) b0_0), .int .i64 (pkI (mbK b0_0 b0_1 b0_2 x0_0 a1_0 a1_1 a1_2) b0_1), .int .i64 (pkI (mbK b0_0 b0_1 b0_2 x0_0 a1_0 a1_1 a1_2) b0_2), .slice Ag0_0 (mbN b0_0 b0_1 b0_2 x0_0 a1_0 a1_1 a1_2) cg0_0], .int .i64 (mbC b0_0 b0_1 b0_2 x0_0 a1_0 a1_1 a1_2)]) (by simp [execOp, go_sem, E3]) (hK _ _ ⟨_, _, _, rfl, by show _ = uu 3; rw [H3]⟩ (Below.refl _ _))
    · skip
      obtain ⟨x, t, Ag0_0, cg0_0, ht, H3, og0_0, _, _⟩ := (hd 3 (by simp)).1
      obtain ⟨rfl, rfl⟩ := List.cons.inj ht
      replace H3 : uu 3 = .tuple #[.agg #[.int .i64 (pkI (mbK b0_0 b0_1 b0_2 x0_0 a1_0 a1_1 a1_2) b0_0), .int .i64 (pkI (mbK b0_0 b0_1 b0_2 x0_0 a1_0 a1_1 a1_2) b0_1), .int .i64 (pkI (mbK b0_0 b0_1 b0_2 x0_0 a1_0 a1_1 a1_2) b0_2), .slice Ag0_0 (mbN b0_0 b0_1 b0_2 x0_0 a1_0 a1_1 a1_2) cg0_0], .int .i64 (mbC b0_0 b0_1 b0_2 x0_0 a1_0 a1_1 a1_2)] := H3
      replace og0_0 : Own v1 (ss 3) (ee 3) 69 2 (.slice Ag0_0 (mbN b0_0 b0_1 b0_2 x0_0 a1_0 a1_1 a1_2) cg0_0) (mbN b0_0 b0_1 b0_2 x0_0 a1_0 a1_1 a1_2) (flat encPair (mbX b0_0 b0_1 b0_2 x0_0 a1_0 a1_1 a1_2)) := og0_0
      have E3 := (rd_at (hat 35 3 rfl (Nat.le_of_ble_eq_true rfl))).trans H3
      obtain ⟨x, y, t, ht, H4⟩ := (hd 4 (by simp)).1
      have q1 := (List.cons.inj ht).1; have q2 := (List.cons.inj (List.cons.inj ht).2).1
      rw [← q1, ← q2] at H4
      replace H4 : uu 4 = uu 3 := H4
      rw [H3] at H4
      have E4 := (rd_at (hat 31 4 rfl (Nat.le_of_ble_eq_true rfl))).trans H4
      exact op_val (.agg #[.int .i64 (pkI (mbK b0_0 b0_1 b0_2 x0_0 a1_0 a1_1 a1_2) b0_0), .int .i64 (pkI (mbK b0_0 b0_1 b0_2 x0_0 a1_0 a1_1 a1_2) b0_1), .int .i64 (pkI (mbK b0_0 b0_1 b0_2 x0_0 a1_0 a1_1 a1_2) b0_2), .slice Ag0_0 (mbN b0_0 b0_1 b0_2 x0_0 a1_0 a1_1 a1_2) cg0_0]) (by simp [execOp, go_sem, E4]) (hK _ _ ⟨_, _, _, rfl, by show _ = tupAt (uu 4) 0; rw [H4]; rfl⟩ (Below.refl _ _))
    · skip
      obtain ⟨x, t, Ag0_0, cg0_0, ht, H3, og0_0, _, _⟩ := (hd 3 (by simp)).1
      obtain ⟨rfl, rfl⟩ := List.cons.inj ht
      replace H3 : uu 3 = .tuple #[.agg #[.int .i64 (pkI (mbK b0_0 b0_1 b0_2 x0_0 a1_0 a1_1 a1_2) b0_0), .int .i64 (pkI (mbK b0_0 b0_1 b0_2 x0_0 a1_0 a1_1 a1_2) b0_1), .int .i64 (pkI (mbK b0_0 b0_1 b0_2 x0_0 a1_0 a1_1 a1_2) b0_2), .slice Ag0_0 (mbN b0_0 b0_1 b0_2 x0_0 a1_0 a1_1 a1_2) cg0_0], .int .i64 (mbC b0_0 b0_1 b0_2 x0_0 a1_0 a1_1 a1_2)] := H3
      replace og0_0 : Own v1 (ss 3) (ee 3) 69 2 (.slice Ag0_0 (mbN b0_0 b0_1 b0_2 x0_0 a1_0 a1_1 a1_2) cg0_0) (mbN b0_0 b0_1 b0_2 x0_0 a1_0 a1_1 a1_2) (flat encPair (mbX b0_0 b0_1 b0_2 x0_0 a1_0 a1_1 a1_2)) := og0_0
      have E3 := (rd_at (hat 35 3 rfl (Nat.le_of_ble_eq_true rfl))).trans H3
      obtain ⟨x, y, t, ht, H4⟩ := (hd 4 (by simp)).1
      have q1 := (List.cons.inj ht).1; have q2 := (List.cons.inj (List.cons.inj ht).2).1
      rw [← q1, ← q2] at H4
      replace H4 : uu 4 = uu 3 := H4
      rw [H3] at H4
      have E4 := (rd_at (hat 31 4 rfl (Nat.le_of_ble_eq_true rfl))).trans H4
      exact op_val (.int .i64 (mbC b0_0 b0_1 b0_2 x0_0 a1_0 a1_1 a1_2)) (by simp [execOp, go_sem, E4]) (hK _ _ ⟨_, _, _, rfl, by show _ = tupAt (uu 4) 1; rw [H4]; rfl⟩ (Below.refl _ _))
    · exact op_assign (.pointer (some ⟨v1.heap.size, 0, none⟩)) (v1.alloc (.cells #[.int .i64 0, .int .i64 0, .int .i64 0, .slice none 0 0] 29)) (by simp [execOp, go_sem]) (hK _ _ ⟨_, _, rfl, rfl, Blk.new _ _ _, by simp⟩ ((Below.refl _ _).alloc (Nat.le_refl _) _))
  · intro oo hoo uu ss ee v1 hd
    obtain rfl := Option.some.inj hoo
    obtain ⟨x, t, Ag0_0, cg0_0, ht, H3, og0_0, _, _⟩ := (hd 3 (by simp)).1
    obtain ⟨rfl, rfl⟩ := List.cons.inj ht
    replace H3 : uu 3 = .tuple #[.agg #[.int .i64 (pkI (mbK b0_0 b0_1 b0_2 x0_0 a1_0 a1_1 a1_2) b0_0), .int .i64 (pkI (mbK b0_0 b0_1 b0_2 x0_0 a1_0 a1_1 a1_2) b0_1), .int .i64 (pkI (mbK b0_0 b0_1 b0_2 x0_0 a1_0 a1_1 a1_2) b0_2), .slice Ag0_0 (mbN b0_0 b0_1 b0_2 x0_0 a1_0 a1_1 a1_2) cg0_0], .int .i64 (mbC b0_0 b0_1 b0_2 x0_0 a1_0 a1_1 a1_2)] := H3
    replace og0_0 : Own v1 (ss 3) (ee 3) 69 2 (.slice Ag0_0 (mbN b0_0 b0_1 b0_2 x0_0 a1_0 a1_1 a1_2) cg0_0) (mbN b0_0 b0_1 b0_2 x0_0 a1_0 a1_1 a1_2) (flat encPair (mbX b0_0 b0_1 b0_2 x0_0 a1_0 a1_1 a1_2)) := og0_0
    obtain ⟨x, y, t, ht, H4⟩ := (hd 4 (by simp)).1
    have q1 := (List.cons.inj ht).1; have q2 := (List.cons.inj (List.cons.inj ht).2).1
    rw [← q1, ← q2] at H4
    replace H4 : uu 4 = uu 3 := H4
    rw [H3] at H4
    refine ⟨.int .i64 (mbC b0_0 b0_1 b0_2 x0_0 a1_0 a1_1 a1_2), fun x y w2 => ⟨_, _, _, rfl, by show _ = tupAt (uu 4) 1; rw [H4]; rfl⟩, ?_⟩
    intro A0 hat w2
    have E := (rd_at (hat 31 4 rfl (Nat.le_of_ble_eq_true rfl) (by simp))).trans H4
    simp [execOp, go_sem, E]
  intro uu ss ee w7 hb hz hf hdis hor oo hoo
  obtain rfl := Option.some.inj hoo; clear hoo
  obtain ⟨x, t, ht, H0⟩ := (hf 0 (Nat.le_of_ble_eq_true rfl)).1
  obtain ⟨rfl, rfl⟩ := List.cons.inj ht
  replace H0 : uu 0 = .agg #[.int .i64 b0_0, .int .i64 b0_1, .int .i64 b0_2, .slice Ax_0_0 n0_0 cx_0_0] := H0
  obtain ⟨x, t, ht, H1⟩ := (hf 1 (Nat.le_of_ble_eq_true rfl)).1
  obtain ⟨rfl, rfl⟩ := List.cons.inj ht
  replace H1 : uu 1 = .agg #[.int .i64 a1_0, .int .i64 a1_1, .int .i64 a1_2] := H1
  obtain ⟨x, t, ht, H2⟩ := (hf 2 (Nat.le_of_ble_eq_true rfl)).1
  obtain ⟨rfl, rfl⟩ := List.cons.inj ht
  replace H2 : uu 2 = .agg #[.int .i64 a1_0, .int .i64 a1_1, .int .i64 a1_2] := H2
  obtain ⟨x, t, Ag0_0, cg0_0, ht, H3, og0_0, fog0_0, kog0_0⟩ := (hf 3 (Nat.le_of_ble_eq_true rfl)).1
  obtain ⟨rfl, rfl⟩ := List.cons.inj ht
  replace H3 : uu 3 = .tuple #[.agg #[.int .i64 (pkI (mbK b0_0 b0_1 b0_2 x0_0 a1_0 a1_1 a1_2) b0_0), .int .i64 (pkI (mbK b0_0 b0_1 b0_2 x0_0 a1_0 a1_1 a1_2) b0_1), .int .i64 (pkI (mbK b0_0 b0_1 b0_2 x0_0 a1_0 a1_1 a1_2) b0_2), .slice Ag0_0 (mbN b0_0 b0_1 b0_2 x0_0 a1_0 a1_1 a1_2) cg0_0], .int .i64 (mbC b0_0 b0_1 b0_2 x0_0 a1_0 a1_1 a1_2)] := H3
  replace og0_0 : Own w7 (ss 3) (ee 3) 69 2 (.slice Ag0_0 (mbN b0_0 b0_1 b0_2 x0_0 a1_0 a1_1 a1_2) cg0_0) (mbN b0_0 b0_1 b0_2 x0_0 a1_0 a1_1 a1_2) (flat encPair (mbX b0_0 b0_1 b0_2 x0_0 a1_0 a1_1 a1_2)) := og0_0
  have bog0_0 : w6.heap.size ≤ ss 3 ∧ ss 3 ≤ ee 3 ∧ ee 3 ≤ w7.heap.size := (hf 3 (Nat.le_of_ble_eq_true rfl)).2
  obtain ⟨x, y, t, ht, H4⟩ := (hf 4 (Nat.le_of_ble_eq_true rfl)).1
  have q1 := (List.cons.inj ht).1; have q2 := (List.cons.inj (List.cons.inj ht).2).1
  rw [← q1, ← q2] at H4; clear q1 q2 ht
  replace H4 : uu 4 = uu 3 := H4
  rw [H3] at H4
  obtain ⟨x, y, t, ht, H5⟩ := (hf 5 (Nat.le_of_ble_eq_true rfl)).1
  have q1 := (List.cons.inj ht).1; have q2 := (List.cons.inj (List.cons.inj ht).2).1
  rw [← q1, ← q2] at H5; clear q1 q2 ht
  replace H5 : uu 5 = tupAt (uu 4) 0 := H5
  rw [H4] at H5
  replace H5 : uu 5 = .agg #[.int .i64 (pkI (mbK b0_0 b0_1 b0_2 x0_0 a1_0 a1_1 a1_2) b0_0), .int .i64 (pkI (mbK b0_0 b0_1 b0_2 x0_0 a1_0 a1_1 a1_2) b0_1), .int .i64 (pkI (mbK b0_0 b0_1 b0_2 x0_0 a1_0 a1_1 a1_2) b0_2), .slice Ag0_0 (mbN b0_0 b0_1 b0_2 x0_0 a1_0 a1_1 a1_2) cg0_0] := H5
  obtain ⟨x, y, t, ht, H6⟩ := (hf 6 (Nat.le_of_ble_eq_true rfl)).1
  have q1 := (List.cons.inj ht).1; have q2 := (List.cons.inj (List.cons.inj ht).2).1
  rw [← q1, ← q2] at H6; clear q1 q2 ht
  replace H6 : uu 6 = tupAt (uu 4) 1 := H6
  rw [H4] at H6
  replace H6 : uu 6 = .int .i64 (mbC b0_0 b0_1 b0_2 x0_0 a1_0 a1_1 a1_2) := H6
  obtain ⟨x, t, ht, H7, G7, L7⟩ := (hf 7 (Nat.le_of_ble_eq_true rfl)).1
  obtain ⟨rfl, rfl⟩ := List.cons.inj ht
  replace H7 : uu 7 = .pointer (some ⟨ss 7, 0, none⟩) := H7; replace G7 : Blk w7 (ss 7) 29 #[.int .i64 0, .int .i64 0, .int .i64 0, .slice none 0 0] := G7; replace L7 : ee 7 = ss 7 + 1 := L7
  have bb7 : w6.heap.size ≤ ss 7 ∧ ss 7 ≤ ee 7 ∧ ee 7 ≤ w7.heap.size := (hf 7 (Nat.le_of_ble_eq_true rfl)).2
  have D7_og0_0 := hdis 3 7 (Nat.le_of_ble_eq_true rfl) (Nat.le_of_ble_eq_true rfl) (by decide)
  simp only [List.length_cons, List.length_nil, Nat.zero_add, Nat.reduceAdd, List.drop_succ_cons, List.drop_zero, putAll, List.getElem?_cons_succ, List.getElem?_cons_zero, Option.bind_some, H0, H1, H2, H3, H4, H5, H6, H7]
  clear hf hdis hor hz H0 H1 H2 H3 H4 H5 H6 H7
  generalize ss 3 = lo3_w7, ee 3 = hi3_w7 at og0_0 bog0_0 D7_og0_0
  generalize ss 7 = lo7_w7, ee 7 = hi7_w7 at G7 L7 bb7 D7_og0_0 ⊢
  replace e0_0 := cellB e0_0 hb
  replace e0_1 := cellB e0_1 hb
  replace e0_2 := cellB e0_2 hb
  replace e0_3 := cellB e0_3 hb
  replace e1_0 := cellB e1_0 hb
  replace e1_1 := cellB e1_1 hb
  replace e1_2 := cellB e1_2 hb
  replace ew0_0 := cellB ew0_0 hb
  replace ew0_1 := cellB ew0_1 hb
  replace ew0_2 := cellB ew0_2 hb
  replace ew0_3 := cellB ew0_3 hb
  replace ex_0_0 := cellB ex_0_0 hb
  replace ex_0_1 := cellB ex_0_1 hb
  replace ex_0_2 := cellB ex_0_2 hb
  replace ex_0_3 := cellB ex_0_3 hb
  replace ow0_0 := ow0_0.bel hb
  replace ox_0_0 := ox_0_0.bel hb
  replace B := bel2 B hb
  have zw7 := hb.size
  clear hb
  have gf7 := G7.frozen; have gl7 := G7.lt
  have gc7_0 := G7.cell 0
  have gc7_1 := G7.cell 1
  have gc7_2 := G7.cell 2
  have gc7_3 := G7.cell 3
  simp at gc7_0 gc7_1 gc7_2 gc7_3
  have ne7_e0_0 : ¬ lo7_w7 = w.heap.size := by omega
  have ne7_e0_1 : ¬ lo7_w7 = w.heap.size := by omega
  have ne7_e0_2 : ¬ lo7_w7 = w.heap.size := by omega
  have ne7_e0_3 : ¬ lo7_w7 = w.heap.size := by omega
  have ne7_e1_0 : ¬ lo7_w7 = w.heap.size + 1 := by omega
  have ne7_e1_1 : ¬ lo7_w7 = w.heap.size + 1 := by omega
  have ne7_e1_2 : ¬ lo7_w7 = w.heap.size + 1 := by omega
  have ne7_ew0_0 : ¬ lo7_w7 = lo8_w3 := by omega
  have ne7_ew0_1 : ¬ lo7_w7 = lo8_w3 := by omega
  have ne7_ew0_2 : ¬ lo7_w7 = lo8_w3 := by omega
  have ne7_ew0_3 : ¬ lo7_w7 = lo8_w3 := by omega
  have ne7_ex_0_0 : ¬ lo7_w7 = w5.heap.size := by omega
  have ne7_ex_0_1 : ¬ lo7_w7 = w5.heap.size := by omega
  have ne7_ex_0_2 : ¬ lo7_w7 = w5.heap.size := by omega
  have ne7_ex_0_3 : ¬ lo7_w7 = w5.heap.size := by omega
  refine ⟨((((w7).setCell ⟨lo7_w7, 0, none⟩ (.int .i64 (pkI (mbK b0_0 b0_1 b0_2 x0_0 a1_0 a1_1 a1_2) b0_0))).setCell ⟨lo7_w7, 1, none⟩ (.int .i64 (pkI (mbK b0_0 b0_1 b0_2 x0_0 a1_0 a1_1 a1_2) b0_1))).setCell ⟨lo7_w7, 2, none⟩ (.int .i64 (pkI (mbK b0_0 b0_1 b0_2 x0_0 a1_0 a1_1 a1_2) b0_2))).setCell ⟨lo7_w7, 3, none⟩ (.slice Ag0_0 (mbN b0_0 b0_1 b0_2 x0_0 a1_0 a1_1 a1_2) cg0_0), by simp [execOp, go_sem, gf7, gc7_0, gc7_1, gc7_2, gc7_3], ?_⟩
  go_wp2_with fail
  refine absW ?_
  intro w8 hw
  replace e0_0 : w8.cell? ⟨w.heap.size, 0, none⟩ = some (.int .i64 b0_0) := by rw [hw]; exact cellS (cellS (cellS (cellS (e0_0) (by omega)) (by omega)) (by omega)) (by omega)
  replace e0_1 : w8.cell? ⟨w.heap.size, 1, none⟩ = some (.int .i64 b0_1) := by rw [hw]; exact cellS (cellS (cellS (cellS (e0_1) (by omega)) (by omega)) (by omega)) (by omega)
  replace e0_2 : w8.cell? ⟨w.heap.size, 2, none⟩ = some (.int .i64 b0_2) := by rw [hw]; exact cellS (cellS (cellS (cellS (e0_2) (by omega)) (by omega)) (by omega)) (by omega)
  replace e0_3 : w8.cell? ⟨w.heap.size, 3, none⟩ = some (.slice A0_0 n0_0 c0_0) := by rw [hw]; exact cellS (cellS (cellS (cellS (e0_3) (by omega)) (by omega)) (by omega)) (by omega)
  replace e1_0 : w8.cell? ⟨w.heap.size + 1, 0, none⟩ = some (.int .i64 a1_0) := by rw [hw]; exact cellS (cellS (cellS (cellS (e1_0) (by omega)) (by omega)) (by omega)) (by omega)
  replace e1_1 : w8.cell? ⟨w.heap.size + 1, 1, none⟩ = some (.int .i64 a1_1) := by rw [hw]; exact cellS (cellS (cellS (cellS (e1_1) (by omega)) (by omega)) (by omega)) (by omega)
  replace e1_2 : w8.cell? ⟨w.heap.size + 1, 2, none⟩ = some (.int .i64 a1_2) := by rw [hw]; exact cellS (cellS (cellS (cellS (e1_2) (by omega)) (by omega)) (by omega)) (by omega)
  replace ew0_0 : w8.cell? ⟨lo8_w3, 0, none⟩ = some (.int .i64 (pkI (mbK b0_0 b0_1 b0_2 x0_0 a1_0 a1_1 a1_2) b0_0)) := by rw [hw]; exact cellS (cellS (cellS (cellS (ew0_0) (by omega)) (by omega)) (by omega)) (by omega)
  replace ew0_1 : w8.cell? ⟨lo8_w3, 1, none⟩ = some (.int .i64 (pkI (mbK b0_0 b0_1 b0_2 x0_0 a1_0 a1_1 a1_2) b0_1)) := by rw [hw]; exact cellS (cellS (cellS (cellS (ew0_1) (by omega)) (by omega)) (by omega)) (by omega)
  replace ew0_2 : w8.cell? ⟨lo8_w3, 2, none⟩ = some (.int .i64 (pkI (mbK b0_0 b0_1 b0_2 x0_0 a1_0 a1_1 a1_2) b0_2)) := by rw [hw]; exact cellS (cellS (cellS (cellS (ew0_2) (by omega)) (by omega)) (by omega)) (by omega)
  replace ew0_3 : w8.cell? ⟨lo8_w3, 3, none⟩ = some (.slice Aw0_0 (mbN b0_0 b0_1 b0_2 x0_0 a1_0 a1_1 a1_2) cw0_0) := by rw [hw]; exact cellS (cellS (cellS (cellS (ew0_3) (by omega)) (by omega)) (by omega)) (by omega)
  replace ex_0_0 : w8.cell? ⟨w5.heap.size, 0, none⟩ = some (.int .i64 b0_0) := by rw [hw]; exact cellS (cellS (cellS (cellS (ex_0_0) (by omega)) (by omega)) (by omega)) (by omega)
  replace ex_0_1 : w8.cell? ⟨w5.heap.size, 1, none⟩ = some (.int .i64 b0_1) := by rw [hw]; exact cellS (cellS (cellS (cellS (ex_0_1) (by omega)) (by omega)) (by omega)) (by omega)
  replace ex_0_2 : w8.cell? ⟨w5.heap.size, 2, none⟩ = some (.int .i64 b0_2) := by rw [hw]; exact cellS (cellS (cellS (cellS (ex_0_2) (by omega)) (by omega)) (by omega)) (by omega)
  replace ex_0_3 : w8.cell? ⟨w5.heap.size, 3, none⟩ = some (.slice Ax_0_0 n0_0 cx_0_0) := by rw [hw]; exact cellS (cellS (cellS (cellS (ex_0_3) (by omega)) (by omega)) (by omega)) (by omega)
  replace ow0_0 := ((((ow0_0.setLow (p := ⟨lo7_w7, 0, none⟩) (by show lo7_w7 < _ ∨ _ ≤ lo7_w7; omega) (.int .i64 (pkI (mbK b0_0 b0_1 b0_2 x0_0 a1_0 a1_1 a1_2) b0_0))).setLow (p := ⟨lo7_w7, 1, none⟩) (by show lo7_w7 < _ ∨ _ ≤ lo7_w7; omega) (.int .i64 (pkI (mbK b0_0 b0_1 b0_2 x0_0 a1_0 a1_1 a1_2) b0_1))).setLow (p := ⟨lo7_w7, 2, none⟩) (by show lo7_w7 < _ ∨ _ ≤ lo7_w7; omega) (.int .i64 (pkI (mbK b0_0 b0_1 b0_2 x0_0 a1_0 a1_1 a1_2) b0_2))).setLow (p := ⟨lo7_w7, 3, none⟩) (by show lo7_w7 < _ ∨ _ ≤ lo7_w7; omega) (.slice Ag0_0 (mbN b0_0 b0_1 b0_2 x0_0 a1_0 a1_1 a1_2) cg0_0))
  rw [← hw] at ow0_0
  replace ox_0_0 := ((((ox_0_0.setLow (p := ⟨lo7_w7, 0, none⟩) (by show lo7_w7 < _ ∨ _ ≤ lo7_w7; omega) (.int .i64 (pkI (mbK b0_0 b0_1 b0_2 x0_0 a1_0 a1_1 a1_2) b0_0))).setLow (p := ⟨lo7_w7, 1, none⟩) (by show lo7_w7 < _ ∨ _ ≤ lo7_w7; omega) (.int .i64 (pkI (mbK b0_0 b0_1 b0_2 x0_0 a1_0 a1_1 a1_2) b0_1))).setLow (p := ⟨lo7_w7, 2, none⟩) (by show lo7_w7 < _ ∨ _ ≤ lo7_w7; omega) (.int .i64 (pkI (mbK b0_0 b0_1 b0_2 x0_0 a1_0 a1_1 a1_2) b0_2))).setLow (p := ⟨lo7_w7, 3, none⟩) (by show lo7_w7 < _ ∨ _ ≤ lo7_w7; omega) (.slice Ag0_0 (mbN b0_0 b0_1 b0_2 x0_0 a1_0 a1_1 a1_2) cg0_0))
  rw [← hw] at ox_0_0
  replace og0_0 := ((((og0_0.setLow (p := ⟨lo7_w7, 0, none⟩) (by show lo7_w7 < _ ∨ _ ≤ lo7_w7; omega) (.int .i64 (pkI (mbK b0_0 b0_1 b0_2 x0_0 a1_0 a1_1 a1_2) b0_0))).setLow (p := ⟨lo7_w7, 1, none⟩) (by show lo7_w7 < _ ∨ _ ≤ lo7_w7; omega) (.int .i64 (pkI (mbK b0_0 b0_1 b0_2 x0_0 a1_0 a1_1 a1_2) b0_1))).setLow (p := ⟨lo7_w7, 2, none⟩) (by show lo7_w7 < _ ∨ _ ≤ lo7_w7; omega) (.int .i64 (pkI (mbK b0_0 b0_1 b0_2 x0_0 a1_0 a1_1 a1_2) b0_2))).setLow (p := ⟨lo7_w7, 3, none⟩) (by show lo7_w7 < _ ∨ _ ≤ lo7_w7; omega) (.slice Ag0_0 (mbN b0_0 b0_1 b0_2 x0_0 a1_0 a1_1 a1_2) cg0_0))
  rw [← hw] at og0_0
  have GG := ((((G7.set_ 0 (.int .i64 (pkI (mbK b0_0 b0_1 b0_2 x0_0 a1_0 a1_1 a1_2) b0_0))).set_ 1 (.int .i64 (pkI (mbK b0_0 b0_1 b0_2 x0_0 a1_0 a1_1 a1_2) b0_1))).set_ 2 (.int .i64 (pkI (mbK b0_0 b0_1 b0_2 x0_0 a1_0 a1_1 a1_2) b0_2))).set_ 3 (.slice Ag0_0 (mbN b0_0 b0_1 b0_2 x0_0 a1_0 a1_1 a1_2) cg0_0))
  rw [← hw] at GG
  have eg0_0 : w8.cell? ⟨lo7_w7, 0, none⟩ = some (.int .i64 (pkI (mbK b0_0 b0_1 b0_2 x0_0 a1_0 a1_1 a1_2) b0_0)) := GG.cell 0
  have eg0_1 : w8.cell? ⟨lo7_w7, 1, none⟩ = some (.int .i64 (pkI (mbK b0_0 b0_1 b0_2 x0_0 a1_0 a1_1 a1_2) b0_1)) := GG.cell 1
  have eg0_2 : w8.cell? ⟨lo7_w7, 2, none⟩ = some (.int .i64 (pkI (mbK b0_0 b0_1 b0_2 x0_0 a1_0 a1_1 a1_2) b0_2)) := GG.cell 2
  have eg0_3 : w8.cell? ⟨lo7_w7, 3, none⟩ = some (.slice Ag0_0 (mbN b0_0 b0_1 b0_2 x0_0 a1_0 a1_1 a1_2) cg0_0) := GG.cell 3
  clear GG
  have zzw8 : w8.heap.size = w7.heap.size := by rw [hw]; simp
  replace B : Below w.heap.size w w8 := by rw [hw]; exact ((((B).setCell (by show w.heap.size ≤ lo7_w7; omega) _).setCell (by show w.heap.size ≤ lo7_w7; omega) _).setCell (by show w.heap.size ≤ lo7_w7; omega) _).setCell (by show w.heap.size ≤ lo7_w7; omega) _
  clear hw
  refine (eqAbacus _ og0_0.reads ow0_0.reads (by have := ow0_0.row.1; rw [flat_length encPair_length] at this; omega) (Nat.le_trans fow0_0 kow0_0)).mono ?_
  rintro e w9 ⟨rfl, hb⟩
  replace e0_0 := cellB e0_0 hb
  replace e0_1 := cellB e0_1 hb
  replace e0_2 := cellB e0_2 hb
  replace e0_3 := cellB e0_3 hb
  replace e1_0 := cellB e1_0 hb
  replace e1_1 := cellB e1_1 hb
  replace e1_2 := cellB e1_2 hb
  replace ew0_0 := cellB ew0_0 hb
  replace ew0_1 := cellB ew0_1 hb
  replace ew0_2 := cellB ew0_2 hb
  replace ew0_3 := cellB ew0_3 hb
  replace ex_0_0 := cellB ex_0_0 hb
  replace ex_0_1 := cellB ex_0_1 hb
  replace ex_0_2 := cellB ex_0_2 hb
  replace ex_0_3 := cellB ex_0_3 hb
  replace eg0_0 := cellB eg0_0 hb
  replace eg0_1 := cellB eg0_1 hb
  replace eg0_2 := cellB eg0_2 hb
  replace eg0_3 := cellB eg0_3 hb
  replace ow0_0 := ow0_0.bel hb
  replace ox_0_0 := ox_0_0.bel hb
  replace og0_0 := og0_0.bel hb
  replace B := bel2 B hb
  have zw9 := hb.size
  clear hb
  go_wp2_with fail
  go_region_held3 (fun w' => w'.cell? ⟨w.heap.size, 0, none⟩ = some (.int .i64 b0_0) ∧ w'.cell? ⟨w.heap.size, 1, none⟩ = some (.int .i64 b0_1) ∧ w'.cell? ⟨w.heap.size, 2, none⟩ = some (.int .i64 b0_2) ∧ w'.cell? ⟨w.heap.size, 3, none⟩ = some (.slice A0_0 n0_0 c0_0) ∧ w'.cell? ⟨w.heap.size + 1, 0, none⟩ = some (.int .i64 a1_0) ∧ w'.cell? ⟨w.heap.size + 1, 1, none⟩ = some (.int .i64 a1_1) ∧ w'.cell? ⟨w.heap.size + 1, 2, none⟩ = some (.int .i64 a1_2) ∧ w'.cell? ⟨lo8_w3, 0, none⟩ = some (.int .i64 (pkI (mbK b0_0 b0_1 b0_2 x0_0 a1_0 a1_1 a1_2) b0_0)) ∧ w'.cell? ⟨lo8_w3, 1, none⟩ = some (.int .i64 (pkI (mbK b0_0 b0_1 b0_2 x0_0 a1_0 a1_1 a1_2) b0_1)) ∧ w'.cell? ⟨lo8_w3, 2, none⟩ = some (.int .i64 (pkI (mbK b0_0 b0_1 b0_2 x0_0 a1_0 a1_1 a1_2) b0_2)) ∧ w'.cell? ⟨lo8_w3, 3, none⟩ = some (.slice Aw0_0 (mbN b0_0 b0_1 b0_2 x0_0 a1_0 a1_1 a1_2) cw0_0) ∧ w'.cell? ⟨w5.heap.size, 0, none⟩ = some (.int .i64 b0_0) ∧ w'.cell? ⟨w5.heap.size, 1, none⟩ = some (.int .i64 b0_1) ∧ w'.cell? ⟨w5.heap.size, 2, none⟩ = some (.int .i64 b0_2) ∧ w'.cell? ⟨w5.heap.size, 3, none⟩ = some (.slice Ax_0_0 n0_0 cx_0_0) ∧ w'.cell? ⟨lo7_w7, 0, none⟩ = some (.int .i64 (pkI (mbK b0_0 b0_1 b0_2 x0_0 a1_0 a1_1 a1_2) b0_0)) ∧ w'.cell? ⟨lo7_w7, 1, none⟩ = some (.int .i64 (pkI (mbK b0_0 b0_1 b0_2 x0_0 a1_0 a1_1 a1_2) b0_1)) ∧ w'.cell? ⟨lo7_w7, 2, none⟩ = some (.int .i64 (pkI (mbK b0_0 b0_1 b0_2 x0_0 a1_0 a1_1 a1_2) b0_2)) ∧ w'.cell? ⟨lo7_w7, 3, none⟩ = some (.slice Ag0_0 (mbN b0_0 b0_1 b0_2 x0_0 a1_0 a1_1 a1_2) cg0_0) ∧ Below w9.heap.size w9 w')
    ((go_split_ands; and_intros <;> (first | assumption | exact cellB (by assumption) hbx | exact bel2 (by assumption) hbx | exact (Below.refl _ _).drew)))
    (first
      | (go_at_call_of 16 (Value.slice A0_0 n0_0 c0_0); go_split_ands; (first | refine (toAbacus _ (rdB r0_0 (bel2 B (by assumption))) l0_0.out m0_0).mono ?_); rintro e w' ⟨vz_0_0, rfl, oz_0_0, hbx⟩; obtain ⟨Az_0_0, cz_0_0, rfl, _, _⟩ := oz_0_0.form)
      | (go_at_call 18; go_split_ands; (first | refine (eqAbacus _ (Own.reads (Own.bel ox_0_0 (by assumption))) oz_0_0.reads l0_0.out M0_0).mono ?_); rintro e w' ⟨rfl, hbx⟩; replace oz_0_0 := oz_0_0.bel hbx)
    )
  have hb : Below w9.heap.size w9 w' := by go_split_ands; assumption
  obtain ⟨w10, hw⟩ : ∃ w10, w10 = w' := ⟨_, rfl⟩
  subst hw
  replace e0_0 := cellB e0_0 hb
  replace e0_1 := cellB e0_1 hb
  replace e0_2 := cellB e0_2 hb
  replace e0_3 := cellB e0_3 hb
  replace e1_0 := cellB e1_0 hb
  replace e1_1 := cellB e1_1 hb
  replace e1_2 := cellB e1_2 hb
  replace ew0_0 := cellB ew0_0 hb
  replace ew0_1 := cellB ew0_1 hb
  replace ew0_2 := cellB ew0_2 hb
  replace ew0_3 := cellB ew0_3 hb
  replace ex_0_0 := cellB ex_0_0 hb
  replace ex_0_1 := cellB ex_0_1 hb
  replace ex_0_2 := cellB ex_0_2 hb
  replace ex_0_3 := cellB ex_0_3 hb
  replace eg0_0 := cellB eg0_0 hb
  replace eg0_1 := cellB eg0_1 hb
  replace eg0_2 := cellB eg0_2 hb
  replace eg0_3 := cellB eg0_3 hb
  replace ow0_0 := ow0_0.bel hb
  replace ox_0_0 := ox_0_0.bel hb
  replace og0_0 := og0_0.bel hb
  replace B := bel2 B hb
  have zw10 := hb.size
  clear hb
  clear oz_0_0
  go_wp2_with fail
  refine absW ?_
  intro w11 hw
  have hb : Below w10.heap.size w10 w11 := by rw [hw]; exact (by repeat' (first | assumption | exact Below.refl _ _ | refine Below.drew ?_ | refine Below.alloc ?_ (by first | omega | (simp; done) | (simp; omega)) _))
  clear hw
  replace e0_0 := cellB e0_0 hb
  replace e0_1 := cellB e0_1 hb
  replace e0_2 := cellB e0_2 hb
  replace e0_3 := cellB e0_3 hb
  replace e1_0 := cellB e1_0 hb
  replace e1_1 := cellB e1_1 hb
  replace e1_2 := cellB e1_2 hb
  replace ew0_0 := cellB ew0_0 hb
  replace ew0_1 := cellB ew0_1 hb
  replace ew0_2 := cellB ew0_2 hb
  replace ew0_3 := cellB ew0_3 hb
  replace ex_0_0 := cellB ex_0_0 hb
  replace ex_0_1 := cellB ex_0_1 hb
  replace ex_0_2 := cellB ex_0_2 hb
  replace ex_0_3 := cellB ex_0_3 hb
  replace eg0_0 := cellB eg0_0 hb
  replace eg0_1 := cellB eg0_1 hb
  replace eg0_2 := cellB eg0_2 hb
  replace eg0_3 := cellB eg0_3 hb
  replace ow0_0 := ow0_0.bel hb
  replace ox_0_0 := ox_0_0.bel hb
  replace og0_0 := og0_0.bel hb
  replace B := bel2 B hb
  have zw11 := hb.size
  clear hb
  refine (markAbacus _ _ ox_0_0 (by omega) (by omega) (by omega)).mono ?_
  rintro e w12 ⟨rfl, p0, ht⟩
  clear ox_0_0; have ox_0_0 := p0; clear p0
  replace e0_0 := cellT e0_0 ht (by omega)
  replace e0_1 := cellT e0_1 ht (by omega)
  replace e0_2 := cellT e0_2 ht (by omega)
  replace e0_3 := cellT e0_3 ht (by omega)
  replace e1_0 := cellT e1_0 ht (by omega)
  replace e1_1 := cellT e1_1 ht (by omega)
  replace e1_2 := cellT e1_2 ht (by omega)
  replace ew0_0 := cellT ew0_0 ht (by omega)
  replace ew0_1 := cellT ew0_1 ht (by omega)
  replace ew0_2 := cellT ew0_2 ht (by omega)
  replace ew0_3 := cellT ew0_3 ht (by omega)
  replace ex_0_0 := cellT ex_0_0 ht (by omega)
  replace ex_0_1 := cellT ex_0_1 ht (by omega)
  replace ex_0_2 := cellT ex_0_2 ht (by omega)
  replace ex_0_3 := cellT ex_0_3 ht (by omega)
  replace eg0_0 := cellT eg0_0 ht (by omega)
  replace eg0_1 := cellT eg0_1 ht (by omega)
  replace eg0_2 := cellT eg0_2 ht (by omega)
  replace eg0_3 := cellT eg0_3 ht (by omega)
  replace ow0_0 := ow0_0.touch ht (by omega)
  replace og0_0 := og0_0.touch ht (by omega)
  replace B := Touch.below B ht B.size (by omega)
  have zw12 := ht.size
  clear ht
  go_wp2_with fail
  refine absW ?_
  intro w13 hw
  have hb : Below w12.heap.size w12 w13 := by rw [hw]; exact (by repeat' (first | assumption | exact Below.refl _ _ | refine Below.drew ?_ | refine Below.alloc ?_ (by first | omega | (simp; done) | (simp; omega)) _))
  clear hw
  replace e0_0 := cellB e0_0 hb
  replace e0_1 := cellB e0_1 hb
  replace e0_2 := cellB e0_2 hb
  replace e0_3 := cellB e0_3 hb
  replace e1_0 := cellB e1_0 hb
  replace e1_1 := cellB e1_1 hb
  replace e1_2 := cellB e1_2 hb
  replace ew0_0 := cellB ew0_0 hb
  replace ew0_1 := cellB ew0_1 hb
  replace ew0_2 := cellB ew0_2 hb
  replace ew0_3 := cellB ew0_3 hb
  replace ex_0_0 := cellB ex_0_0 hb
  replace ex_0_1 := cellB ex_0_1 hb
  replace ex_0_2 := cellB ex_0_2 hb
  replace ex_0_3 := cellB ex_0_3 hb
  replace eg0_0 := cellB eg0_0 hb
  replace eg0_1 := cellB eg0_1 hb
  replace eg0_2 := cellB eg0_2 hb
  replace eg0_3 := cellB eg0_3 hb
  replace ow0_0 := ow0_0.bel hb
  replace ox_0_0 := ox_0_0.bel hb
  replace og0_0 := og0_0.bel hb
  replace B := bel2 B hb
  have zw13 := hb.size
  clear hb
  refine (eqAbacus _ og0_0.reads ow0_0.reads (by have := ow0_0.row.1; rw [flat_length encPair_length] at this; omega) (Nat.le_trans fow0_0 kow0_0)).mono ?_
  rintro e w14 ⟨rfl, hb⟩
  replace e0_0 := cellB e0_0 hb
  replace e0_1 := cellB e0_1 hb
  replace e0_2 := cellB e0_2 hb
  replace e0_3 := cellB e0_3 hb
  replace e1_0 := cellB e1_0 hb
  replace e1_1 := cellB e1_1 hb
  replace e1_2 := cellB e1_2 hb
  replace ew0_0 := cellB ew0_0 hb
  replace ew0_1 := cellB ew0_1 hb
  replace ew0_2 := cellB ew0_2 hb
  replace ew0_3 := cellB ew0_3 hb
  replace ex_0_0 := cellB ex_0_0 hb
  replace ex_0_1 := cellB ex_0_1 hb
  replace ex_0_2 := cellB ex_0_2 hb
  replace ex_0_3 := cellB ex_0_3 hb
  replace eg0_0 := cellB eg0_0 hb
  replace eg0_1 := cellB eg0_1 hb
  replace eg0_2 := cellB eg0_2 hb
  replace eg0_3 := cellB eg0_3 hb
  replace ow0_0 := ow0_0.bel hb
  replace ox_0_0 := ox_0_0.bel hb
  replace og0_0 := og0_0.bel hb
  replace B := bel2 B hb
  have zw14 := hb.size
  clear hb
  go_wp2_with fail
  refine absW ?_
  intro w15 hw
  have hb : Below w14.heap.size w14 w15 := by rw [hw]; exact (by repeat' (first | assumption | exact Below.refl _ _ | refine Below.drew ?_ | refine Below.alloc ?_ (by first | omega | (simp; done) | (simp; omega)) _))
  clear hw
  replace e0_0 := cellB e0_0 hb
  replace e0_1 := cellB e0_1 hb
  replace e0_2 := cellB e0_2 hb
  replace e0_3 := cellB e0_3 hb
  replace e1_0 := cellB e1_0 hb
  replace e1_1 := cellB e1_1 hb
  replace e1_2 := cellB e1_2 hb
  replace ew0_0 := cellB ew0_0 hb
  replace ew0_1 := cellB ew0_1 hb
  replace ew0_2 := cellB ew0_2 hb
  replace ew0_3 := cellB ew0_3 hb
  replace ex_0_0 := cellB ex_0_0 hb
  replace ex_0_1 := cellB ex_0_1 hb
  replace ex_0_2 := cellB ex_0_2 hb
  replace ex_0_3 := cellB ex_0_3 hb
  replace eg0_0 := cellB eg0_0 hb
  replace eg0_1 := cellB eg0_1 hb
  replace eg0_2 := cellB eg0_2 hb
  replace eg0_3 := cellB eg0_3 hb
  replace ow0_0 := ow0_0.bel hb
  replace ox_0_0 := ox_0_0.bel hb
  replace og0_0 := og0_0.bel hb
  replace B := bel2 B hb
  have zw15 := hb.size
  clear hb
  refine (markAbacus _ _ og0_0 (mbN_le _ _ _ _ _ _ _) (by omega) (by omega)).mono ?_
  rintro e w16 ⟨rfl, p0, ht⟩
  clear og0_0; have og0_0 := p0; clear p0
  replace e0_0 := cellT e0_0 ht (by omega)
  replace e0_1 := cellT e0_1 ht (by omega)
  replace e0_2 := cellT e0_2 ht (by omega)
  replace e0_3 := cellT e0_3 ht (by omega)
  replace e1_0 := cellT e1_0 ht (by omega)
  replace e1_1 := cellT e1_1 ht (by omega)
  replace e1_2 := cellT e1_2 ht (by omega)
  replace ew0_0 := cellT ew0_0 ht (by omega)
  replace ew0_1 := cellT ew0_1 ht (by omega)
  replace ew0_2 := cellT ew0_2 ht (by omega)
  replace ew0_3 := cellT ew0_3 ht (by omega)
  replace ex_0_0 := cellT ex_0_0 ht (by omega)
  replace ex_0_1 := cellT ex_0_1 ht (by omega)
  replace ex_0_2 := cellT ex_0_2 ht (by omega)
  replace ex_0_3 := cellT ex_0_3 ht (by omega)
  replace eg0_0 := cellT eg0_0 ht (by omega)
  replace eg0_1 := cellT eg0_1 ht (by omega)
  replace eg0_2 := cellT eg0_2 ht (by omega)
  replace eg0_3 := cellT eg0_3 ht (by omega)
  replace ow0_0 := ow0_0.touch ht (by omega)
  replace ox_0_0 := ox_0_0.touch ht (by omega)
  replace B := Touch.below B ht B.size (by omega)
  have zw16 := ht.size
  clear ht
  go_wp2_with fail
  refine absW ?_
  intro w17 hw
  have hb : Below w16.heap.size w16 w17 := by rw [hw]; exact (by repeat' (first | assumption | exact Below.refl _ _ | refine Below.drew ?_ | refine Below.alloc ?_ (by first | omega | (simp; done) | (simp; omega)) _))
  clear hw
  replace e0_0 := cellB e0_0 hb
  replace e0_1 := cellB e0_1 hb
  replace e0_2 := cellB e0_2 hb
  replace e0_3 := cellB e0_3 hb
  replace e1_0 := cellB e1_0 hb
  replace e1_1 := cellB e1_1 hb
  replace e1_2 := cellB e1_2 hb
  replace ew0_0 := cellB ew0_0 hb
  replace ew0_1 := cellB ew0_1 hb
  replace ew0_2 := cellB ew0_2 hb
  replace ew0_3 := cellB ew0_3 hb
  replace ex_0_0 := cellB ex_0_0 hb
  replace ex_0_1 := cellB ex_0_1 hb
  replace ex_0_2 := cellB ex_0_2 hb
  replace ex_0_3 := cellB ex_0_3 hb
  replace eg0_0 := cellB eg0_0 hb
  replace eg0_1 := cellB eg0_1 hb
  replace eg0_2 := cellB eg0_2 hb
  replace eg0_3 := cellB eg0_3 hb
  replace ow0_0 := ow0_0.bel hb
  replace ox_0_0 := ox_0_0.bel hb
  replace og0_0 := og0_0.bel hb
  replace B := bel2 B hb
  have zw17 := hb.size
  clear hb
  refine (heldAbacus _ _ og0_0.reads (mbN_le _ _ _ _ _ _ _) (by omega) (by omega)).mono ?_
  rintro e w18 ⟨rfl, hb⟩
  replace e0_0 := cellB e0_0 hb
  replace e0_1 := cellB e0_1 hb
  replace e0_2 := cellB e0_2 hb
  replace e0_3 := cellB e0_3 hb
  replace e1_0 := cellB e1_0 hb
  replace e1_1 := cellB e1_1 hb
  replace e1_2 := cellB e1_2 hb
  replace ew0_0 := cellB ew0_0 hb
  replace ew0_1 := cellB ew0_1 hb
  replace ew0_2 := cellB ew0_2 hb
  replace ew0_3 := cellB ew0_3 hb
  replace ex_0_0 := cellB ex_0_0 hb
  replace ex_0_1 := cellB ex_0_1 hb
  replace ex_0_2 := cellB ex_0_2 hb
  replace ex_0_3 := cellB ex_0_3 hb
  replace eg0_0 := cellB eg0_0 hb
  replace eg0_1 := cellB eg0_1 hb
  replace eg0_2 := cellB eg0_2 hb
  replace eg0_3 := cellB eg0_3 hb
  replace ow0_0 := ow0_0.bel hb
  replace ox_0_0 := ox_0_0.bel hb
  replace og0_0 := og0_0.bel hb
  replace B := bel2 B hb
  have zw18 := hb.size
  clear hb
  go_wp2_with fail
  refine wp_region_rgtl 7 (fun i => match i with | 1 => [0] | 3 => [2] | 4 => [1, 3] | 5 => [4] | 6 => [5, 4] | 7 => [5, 4] | _ => [])
    [fun T _ => ∃ x t, T = x :: t ∧ x.1 = .agg #[.int .i64 b0_0, .int .i64 b0_1, .int .i64 b0_2, .slice A0_0 n0_0 c0_0],
       fun T w' => ∃ x t Ay_0_0 cy_0_0, T = x :: t ∧ x.1 = .agg #[.int .i64 b0_0, .int .i64 b0_1, .int .i64 b0_2, .slice Ay_0_0 n0_0 cy_0_0] ∧ Own w' x.2.1 x.2.2 69 2 (.slice Ay_0_0 n0_0 cy_0_0) n0_0 (flat encPair x0_0) ∧ n0_0 ≤ cy_0_0 ∧ cy_0_0 ≤ maxLen,
       fun T _ => ∃ x t, T = x :: t ∧ x.1 = .agg #[.int .i64 a1_0, .int .i64 a1_1, .int .i64 a1_2],
       fun T _ => ∃ x t, T = x :: t ∧ x.1 = .agg #[.int .i64 a1_0, .int .i64 a1_1, .int .i64 a1_2],
       fun T w' => ∃ x t Ah0_0 ch0_0, T = x :: t ∧ x.1 = .tuple #[.agg #[.int .i64 (pkI (mbK b0_0 b0_1 b0_2 x0_0 a1_0 a1_1 a1_2) b0_0), .int .i64 (pkI (mbK b0_0 b0_1 b0_2 x0_0 a1_0 a1_1 a1_2) b0_1), .int .i64 (pkI (mbK b0_0 b0_1 b0_2 x0_0 a1_0 a1_1 a1_2) b0_2), .slice Ah0_0 (mbN b0_0 b0_1 b0_2 x0_0 a1_0 a1_1 a1_2) ch0_0], .int .i64 (mbC b0_0 b0_1 b0_2 x0_0 a1_0 a1_1 a1_2)] ∧ Own w' x.2.1 x.2.2 69 2 (.slice Ah0_0 (mbN b0_0 b0_1 b0_2 x0_0 a1_0 a1_1 a1_2) ch0_0) (mbN b0_0 b0_1 b0_2 x0_0 a1_0 a1_1 a1_2) (flat encPair (mbX b0_0 b0_1 b0_2 x0_0 a1_0 a1_1 a1_2)) ∧ (mbN b0_0 b0_1 b0_2 x0_0 a1_0 a1_1 a1_2) ≤ ch0_0 ∧ ch0_0 ≤ maxLen,
       fun T _ => ∃ x y t, T = x :: y :: t ∧ x.1 = y.1,
       fun T _ => ∃ x y t, T = x :: y :: t ∧ x.1 = tupAt y.1 0,
       fun T _ => ∃ x y t, T = x :: y :: t ∧ x.1 = tupAt y.1 1,
       fun T w' => ∃ x t, T = x :: t ∧ x.1 = .pointer (some ⟨x.2.1, 0, none⟩) ∧ Blk w' x.2.1 29 #[.int .i64 0, .int .i64 0, .int .i64 0, .slice none 0 0] ∧ x.2.2 = x.2.1 + 1] (by kernel_rfl) (by kernel_rfl) (by kernel_rfl) ?_ ?_ ?_ ?_
  · refine And.intro ?_ (And.intro ?_ (And.intro ?_ (And.intro ?_ (And.intro ?_ (And.intro ?_ (And.intro ?_ (And.intro ?_ (And.intro ?_ trivial))))))))
    all_goals (intro T v1 v2 hz hb ht h)
    · exact h
    · obtain ⟨x, t, A1, k, rfl, h1, h2, h3, h4⟩ := h; exact ⟨x, t, A1, k, rfl, h1, h2.bel hb, h3, h4⟩
    · exact h
    · exact h
    · obtain ⟨x, t, A1, k, rfl, h1, h2, h3, h4⟩ := h; exact ⟨x, t, A1, k, rfl, h1, h2.bel hb, h3, h4⟩
    · exact h
    · exact h
    · exact h
    · obtain ⟨x, t, rfl, h1, h2, h3⟩ := h; exact ⟨x, t, rfl, h1, h2.bel hb, h3⟩
  · refine And.intro ?_ (And.intro ?_ (And.intro ?_ (And.intro ?_ (And.intro ?_ (And.intro ?_ (And.intro ?_ (And.intro ?_ (And.intro ?_ trivial))))))))
    all_goals (intro A0 uu ss ee v1 hat hoff hb hz hd hor KK hK)
    · have e2 : A0.tmps[2]?.getD undef = .pointer (some ⟨w.heap.size, 0, none⟩) := rd_at (hoff 2 rfl)
      have y0 := cellB e0_0 hb
      have y1 := cellB e0_1 hb
      have y2 := cellB e0_2 hb
      have y3 := cellB e0_3 hb
      exact op_val (.agg #[.int .i64 b0_0, .int .i64 b0_1, .int .i64 b0_2, .slice A0_0 n0_0 c0_0]) (by simp [execOp, go_sem, e2, y0, y1, y2, y3]) (hK _ _ ⟨_, _, rfl, rfl⟩ (Below.refl _ _))
    · skip
      obtain ⟨x, t, ht, H0⟩ := (hd 0 (by simp)).1
      obtain ⟨rfl, rfl⟩ := List.cons.inj ht
      replace H0 : uu 0 = .agg #[.int .i64 b0_0, .int .i64 b0_1, .int .i64 b0_2, .slice A0_0 n0_0 c0_0] := H0
      have E0 := (rd_at (hat 80 0 rfl (Nat.le_of_ble_eq_true rfl))).trans H0
      refine op_call 16 rfl _ Try.func16 (by kernel_rfl) (by kernel_rfl) #[.agg #[.int .i64 b0_0, .int .i64 b0_1, .int .i64 b0_2, .slice A0_0 n0_0 c0_0]] (by simp [go_sem, E0]) ?_
      have hB' := bel2 B hb
      refine (toAbacus _ (rdB r0_0 (bel2 B hb)) l0_0.out m0_0).mono ?_
      rintro x v2 ⟨vy_0_0, rfl, oy_0_0, hbx⟩
      obtain ⟨Ay_0_0, cy_0_0, rfl, _, _⟩ := oy_0_0.form
      obtain ⟨_, _, hq, F1, F2⟩ := oy_0_0.form
      injection hq with hq1 hq2 hq3; subst hq1 hq3
      exact ⟨_, rfl, hK _ _ ⟨_, _, _, _, rfl, rfl, oy_0_0, F1, F2⟩ hbx⟩
    · have e2 : A0.tmps[3]?.getD undef = .pointer (some ⟨w.heap.size + 1, 0, none⟩) := rd_at (hoff 3 rfl)
      have y0 := cellB e1_0 hb
      have y1 := cellB e1_1 hb
      have y2 := cellB e1_2 hb
      exact op_val (.agg #[.int .i64 a1_0, .int .i64 a1_1, .int .i64 a1_2]) (by simp [execOp, go_sem, e2, y0, y1, y2]) (hK _ _ ⟨_, _, rfl, rfl⟩ (Below.refl _ _))
    · skip
      obtain ⟨x, t, ht, H2⟩ := (hd 2 (by simp)).1
      obtain ⟨rfl, rfl⟩ := List.cons.inj ht
      replace H2 : uu 2 = .agg #[.int .i64 a1_0, .int .i64 a1_1, .int .i64 a1_2] := H2
      have E2 := (rd_at (hat 82 2 rfl (Nat.le_of_ble_eq_true rfl))).trans H2
      refine op_call 26 rfl _ Try.func26 (by kernel_rfl) (by kernel_rfl) #[.agg #[.int .i64 a1_0, .int .i64 a1_1, .int .i64 a1_2]] (by simp [go_sem, E2]) ?_
      have hB' := bel2 B hb
      refine (toBeadMove _).mono ?_
      rintro x v2 ⟨rfl, hbx⟩
      exact ⟨_, rfl, hK _ _ ⟨_, _, rfl, rfl⟩ hbx⟩
    · skip
      obtain ⟨x, t, Ay_0_0, cy_0_0, ht, H1, oy_0_0, _, _⟩ := (hd 1 (by simp)).1
      obtain ⟨rfl, rfl⟩ := List.cons.inj ht
      replace H1 : uu 1 = .agg #[.int .i64 b0_0, .int .i64 b0_1, .int .i64 b0_2, .slice Ay_0_0 n0_0 cy_0_0] := H1
      replace oy_0_0 : Own v1 (ss 1) (ee 1) 69 2 (.slice Ay_0_0 n0_0 cy_0_0) n0_0 (flat encPair x0_0) := oy_0_0
      have E1 := (rd_at (hat 81 1 rfl (Nat.le_of_ble_eq_true rfl))).trans H1
      skip
      obtain ⟨x, t, ht, H3⟩ := (hd 3 (by simp)).1
      obtain ⟨rfl, rfl⟩ := List.cons.inj ht
      replace H3 : uu 3 = .agg #[.int .i64 a1_0, .int .i64 a1_1, .int .i64 a1_2] := H3
      have E3 := (rd_at (hat 83 3 rfl (Nat.le_of_ble_eq_true rfl))).trans H3
      refine op_call 27 rfl _ Try.func27 (by kernel_rfl) (by kernel_rfl) #[.agg #[.int .i64 b0_0, .int .i64 b0_1, .int .i64 b0_2, .slice Ay_0_0 n0_0 cy_0_0], .agg #[.int .i64 a1_0, .int .i64 a1_1, .int .i64 a1_2]] (by simp [go_sem, E1, E3]) ?_
      have hB' := bel2 B hb
      refine (iMoveB _ oy_0_0.reads l0_0.out M0_0).mono ?_
      rintro x v2 ⟨vh0_0, rfl, oh0_0, hbx⟩
      obtain ⟨Ah0_0, ch0_0, rfl, foh0_0, koh0_0⟩ := oh0_0.form
      obtain ⟨_, _, hq, F1, F2⟩ := oh0_0.form
      injection hq with hq1 hq2 hq3; subst hq1 hq3
      exact ⟨_, rfl, hK _ _ ⟨_, _, _, _, rfl, rfl, oh0_0, F1, F2⟩ hbx⟩
    · skip
      obtain ⟨x, t, Ah0_0, ch0_0, ht, H4, oh0_0, _, _⟩ := (hd 4 (by simp)).1
      obtain ⟨rfl, rfl⟩ := List.cons.inj ht
      replace H4 : uu 4 = .tuple #[.agg #[.int .i64 (pkI (mbK b0_0 b0_1 b0_2 x0_0 a1_0 a1_1 a1_2) b0_0), .int .i64 (pkI (mbK b0_0 b0_1 b0_2 x0_0 a1_0 a1_1 a1_2) b0_1), .int .i64 (pkI (mbK b0_0 b0_1 b0_2 x0_0 a1_0 a1_1 a1_2) b0_2), .slice Ah0_0 (mbN b0_0 b0_1 b0_2 x0_0 a1_0 a1_1 a1_2) ch0_0], .int .i64 (mbC b0_0 b0_1 b0_2 x0_0 a1_0 a1_1 a1_2)] := H4
      replace oh0_0 : Own v1 (ss 4) (ee 4) 69 2 (.slice Ah0_0 (mbN b0_0 b0_1 b0_2 x0_0 a1_0 a1_1 a1_2) ch0_0) (mbN b0_0 b0_1 b0_2 x0_0 a1_0 a1_1 a1_2) (flat encPair (mbX b0_0 b0_1 b0_2 x0_0 a1_0 a1_1 a1_2)) := oh0_0
      have E4 := (rd_at (hat 84 4 rfl (Nat.le_of_ble_eq_true rfl))).trans H4
      exact op_val (.tuple #[.agg #[.int .i64 (pkI (mbK b0_0 b0_1 b0_2 x0_0 a1_0 a1_1 a1_2) b0_0), .int .i64 (pkI (mbK b0_0 b0_1 b0_2 x0_0 a1_0 a1_1 a1_2) b0_1), .int .i64 (pkI (mbK b0_0 b0_1 b0_2 x0_0 a1_0 a1_1 a1_2) b0_2), .slice Ah0_0 (mbN b0_0 b0_1 b0_2 x0_0 a1_0 a1_1 a1_2) ch0_0], .int .i64 (mbC b0_0 b0_1 b0_2 x0_0 a1_0 a1_1 a1_2)]) (by simp [execOp, go_sem, E4]) (hK _ _ ⟨_, _, _, rfl, by show _ = uu 4; rw [H4]⟩ (Below.refl _ _))
    · skip
      obtain ⟨x, t, Ah0_0, ch0_0, ht, H4, oh0_0, _, _⟩ := (hd 4 (by simp)).1
      obtain ⟨rfl, rfl⟩ := List.cons.inj ht
      replace H4 : uu 4 = .tuple #[.agg #[.int .i64 (pkI (mbK b0_0 b0_1 b0_2 x0_0 a1_0 a1_1 a1_2) b0_0), .int .i64 (pkI (mbK b0_0 b0_1 b0_2 x0_0 a1_0 a1_1 a1_2) b0_1), .int .i64 (pkI (mbK b0_0 b0_1 b0_2 x0_0 a1_0 a1_1 a1_2) b0_2), .slice Ah0_0 (mbN b0_0 b0_1 b0_2 x0_0 a1_0 a1_1 a1_2) ch0_0], .int .i64 (mbC b0_0 b0_1 b0_2 x0_0 a1_0 a1_1 a1_2)] := H4
      replace oh0_0 : Own v1 (ss 4) (ee 4) 69 2 (.slice Ah0_0 (mbN b0_0 b0_1 b0_2 x0_0 a1_0 a1_1 a1_2) ch0_0) (mbN b0_0 b0_1 b0_2 x0_0 a1_0 a1_1 a1_2) (flat encPair (mbX b0_0 b0_1 b0_2 x0_0 a1_0 a1_1 a1_2)) := oh0_0
      have E4 := (rd_at (hat 84 4 rfl (Nat.le_of_ble_eq_true rfl))).trans H4
      obtain ⟨x, y, t, ht, H5⟩ := (hd 5 (by simp)).1
      have q1 := (List.cons.inj ht).1; have q2 := (List.cons.inj (List.cons.inj ht).2).1
      rw [← q1, ← q2] at H5
      replace H5 : uu 5 = uu 4 := H5
      rw [H4] at H5
      have E5 := (rd_at (hat 79 5 rfl (Nat.le_of_ble_eq_true rfl))).trans H5
      exact op_val (.agg #[.int .i64 (pkI (mbK b0_0 b0_1 b0_2 x0_0 a1_0 a1_1 a1_2) b0_0), .int .i64 (pkI (mbK b0_0 b0_1 b0_2 x0_0 a1_0 a1_1 a1_2) b0_1), .int .i64 (pkI (mbK b0_0 b0_1 b0_2 x0_0 a1_0 a1_1 a1_2) b0_2), .slice Ah0_0 (mbN b0_0 b0_1 b0_2 x0_0 a1_0 a1_1 a1_2) ch0_0]) (by simp [execOp, go_sem, E5]) (hK _ _ ⟨_, _, _, rfl, by show _ = tupAt (uu 5) 0; rw [H5]; rfl⟩ (Below.refl _ _))
    · skip
      obtain ⟨x, t, Ah0_0, ch0_0, ht, H4, oh0_0, _, _⟩ := (hd 4 (by simp)).1
      obtain ⟨rfl, rfl⟩ := List.cons.inj ht
      replace H4 : uu 4 = .tuple #[.agg #[.int .i64 (pkI (mbK b0_0 b0_1 b0_2 x0_0 a1_0 a1_1 a1_2) b0_0), .int .i64 (pkI (mbK b0_0 b0_1 b0_2 x0_0 a1_0 a1_1 a1_2) b0_1), .int .i64 (pkI (mbK b0_0 b0_1 b0_2 x0_0 a1_0 a1_1 a1_2) b0_2), .slice Ah0_0 (mbN b0_0 b0_1 b0_2 x0_0 a1_0 a1_1 a1_2) ch0_0], .int .i64 (mbC b0_0 b0_1 b0_2 x0_0 a1_0 a1_1 a1_2)] := H4
      replace oh0_0 : Own v1 (ss 4) (ee 4) 69 2 (.slice Ah0_0 (mbN b0_0 b0_1 b0_2 x0_0 a1_0 a1_1 a1_2) ch0_0) (mbN b0_0 b0_1 b0_2 x0_0 a1_0 a1_1 a1_2) (flat encPair (mbX b0_0 b0_1 b0_2 x0_0 a1_0 a1_1 a1_2)) := oh0_0
      have E4 := (rd_at (hat 84 4 rfl (Nat.le_of_ble_eq_true rfl))).trans H4
      obtain ⟨x, y, t, ht, H5⟩ := (hd 5 (by simp)).1
      have q1 := (List.cons.inj ht).1; have q2 := (List.cons.inj (List.cons.inj ht).2).1
      rw [← q1, ← q2] at H5
      replace H5 : uu 5 = uu 4 := H5
      rw [H4] at H5
      have E5 := (rd_at (hat 79 5 rfl (Nat.le_of_ble_eq_true rfl))).trans H5
      exact op_val (.int .i64 (mbC b0_0 b0_1 b0_2 x0_0 a1_0 a1_1 a1_2)) (by simp [execOp, go_sem, E5]) (hK _ _ ⟨_, _, _, rfl, by show _ = tupAt (uu 5) 1; rw [H5]; rfl⟩ (Below.refl _ _))
    · exact op_assign (.pointer (some ⟨v1.heap.size, 0, none⟩)) (v1.alloc (.cells #[.int .i64 0, .int .i64 0, .int .i64 0, .slice none 0 0] 29)) (by simp [execOp, go_sem]) (hK _ _ ⟨_, _, rfl, rfl, Blk.new _ _ _, by simp⟩ ((Below.refl _ _).alloc (Nat.le_refl _) _))
  · intro oo hoo uu ss ee v1 hd
    obtain rfl := Option.some.inj hoo
    obtain ⟨x, t, Ah0_0, ch0_0, ht, H4, oh0_0, _, _⟩ := (hd 4 (by simp)).1
    obtain ⟨rfl, rfl⟩ := List.cons.inj ht
    replace H4 : uu 4 = .tuple #[.agg #[.int .i64 (pkI (mbK b0_0 b0_1 b0_2 x0_0 a1_0 a1_1 a1_2) b0_0), .int .i64 (pkI (mbK b0_0 b0_1 b0_2 x0_0 a1_0 a1_1 a1_2) b0_1), .int .i64 (pkI (mbK b0_0 b0_1 b0_2 x0_0 a1_0 a1_1 a1_2) b0_2), .slice Ah0_0 (mbN b0_0 b0_1 b0_2 x0_0 a1_0 a1_1 a1_2) ch0_0], .int .i64 (mbC b0_0 b0_1 b0_2 x0_0 a1_0 a1_1 a1_2)] := H4
    replace oh0_0 : Own v1 (ss 4) (ee 4) 69 2 (.slice Ah0_0 (mbN b0_0 b0_1 b0_2 x0_0 a1_0 a1_1 a1_2) ch0_0) (mbN b0_0 b0_1 b0_2 x0_0 a1_0 a1_1 a1_2) (flat encPair (mbX b0_0 b0_1 b0_2 x0_0 a1_0 a1_1 a1_2)) := oh0_0
    obtain ⟨x, y, t, ht, H5⟩ := (hd 5 (by simp)).1
    have q1 := (List.cons.inj ht).1; have q2 := (List.cons.inj (List.cons.inj ht).2).1
    rw [← q1, ← q2] at H5
    replace H5 : uu 5 = uu 4 := H5
    rw [H4] at H5
    refine ⟨.int .i64 (mbC b0_0 b0_1 b0_2 x0_0 a1_0 a1_1 a1_2), fun x y w2 => ⟨_, _, _, rfl, by show _ = tupAt (uu 5) 1; rw [H5]; rfl⟩, ?_⟩
    intro A0 hat w2
    have E := (rd_at (hat 79 5 rfl (Nat.le_of_ble_eq_true rfl) (by simp))).trans H5
    simp [execOp, go_sem, E]
  intro uu ss ee w19 hb hz hf hdis hor oo hoo
  obtain rfl := Option.some.inj hoo; clear hoo
  obtain ⟨x, t, ht, H0⟩ := (hf 0 (Nat.le_of_ble_eq_true rfl)).1
  obtain ⟨rfl, rfl⟩ := List.cons.inj ht
  replace H0 : uu 0 = .agg #[.int .i64 b0_0, .int .i64 b0_1, .int .i64 b0_2, .slice A0_0 n0_0 c0_0] := H0
  obtain ⟨x, t, Ay_0_0, cy_0_0, ht, H1, oy_0_0, foy_0_0, koy_0_0⟩ := (hf 1 (Nat.le_of_ble_eq_true rfl)).1
  obtain ⟨rfl, rfl⟩ := List.cons.inj ht
  replace H1 : uu 1 = .agg #[.int .i64 b0_0, .int .i64 b0_1, .int .i64 b0_2, .slice Ay_0_0 n0_0 cy_0_0] := H1
  replace oy_0_0 : Own w19 (ss 1) (ee 1) 69 2 (.slice Ay_0_0 n0_0 cy_0_0) n0_0 (flat encPair x0_0) := oy_0_0
  have boy_0_0 : w18.heap.size ≤ ss 1 ∧ ss 1 ≤ ee 1 ∧ ee 1 ≤ w19.heap.size := (hf 1 (Nat.le_of_ble_eq_true rfl)).2
  obtain ⟨x, t, ht, H2⟩ := (hf 2 (Nat.le_of_ble_eq_true rfl)).1
  obtain ⟨rfl, rfl⟩ := List.cons.inj ht
  replace H2 : uu 2 = .agg #[.int .i64 a1_0, .int .i64 a1_1, .int .i64 a1_2] := H2
  obtain ⟨x, t, ht, H3⟩ := (hf 3 (Nat.le_of_ble_eq_true rfl)).1
  obtain ⟨rfl, rfl⟩ := List.cons.inj ht
  replace H3 : uu 3 = .agg #[.int .i64 a1_0, .int .i64 a1_1, .int .i64 a1_2] := H3
  obtain ⟨x, t, Ah0_0, ch0_0, ht, H4, oh0_0, foh0_0, koh0_0⟩ := (hf 4 (Nat.le_of_ble_eq_true rfl)).1
  obtain ⟨rfl, rfl⟩ := List.cons.inj ht
  replace H4 : uu 4 = .tuple #[.agg #[.int .i64 (pkI (mbK b0_0 b0_1 b0_2 x0_0 a1_0 a1_1 a1_2) b0_0), .int .i64 (pkI (mbK b0_0 b0_1 b0_2 x0_0 a1_0 a1_1 a1_2) b0_1), .int .i64 (pkI (mbK b0_0 b0_1 b0_2 x0_0 a1_0 a1_1 a1_2) b0_2), .slice Ah0_0 (mbN b0_0 b0_1 b0_2 x0_0 a1_0 a1_1 a1_2) ch0_0], .int .i64 (mbC b0_0 b0_1 b0_2 x0_0 a1_0 a1_1 a1_2)] := H4
  replace oh0_0 : Own w19 (ss 4) (ee 4) 69 2 (.slice Ah0_0 (mbN b0_0 b0_1 b0_2 x0_0 a1_0 a1_1 a1_2) ch0_0) (mbN b0_0 b0_1 b0_2 x0_0 a1_0 a1_1 a1_2) (flat encPair (mbX b0_0 b0_1 b0_2 x0_0 a1_0 a1_1 a1_2)) := oh0_0
  have boh0_0 : w18.heap.size ≤ ss 4 ∧ ss 4 ≤ ee 4 ∧ ee 4 ≤ w19.heap.size := (hf 4 (Nat.le_of_ble_eq_true rfl)).2
  obtain ⟨x, y, t, ht, H5⟩ := (hf 5 (Nat.le_of_ble_eq_true rfl)).1
  have q1 := (List.cons.inj ht).1; have q2 := (List.cons.inj (List.cons.inj ht).2).1
  rw [← q1, ← q2] at H5; clear q1 q2 ht
  replace H5 : uu 5 = uu 4 := H5
  rw [H4] at H5
  obtain ⟨x, y, t, ht, H6⟩ := (hf 6 (Nat.le_of_ble_eq_true rfl)).1
  have q1 := (List.cons.inj ht).1; have q2 := (List.cons.inj (List.cons.inj ht).2).1
  rw [← q1, ← q2] at H6; clear q1 q2 ht
  replace H6 : uu 6 = tupAt (uu 5) 0 := H6
  rw [H5] at H6
  replace H6 : uu 6 = .agg #[.int .i64 (pkI (mbK b0_0 b0_1 b0_2 x0_0 a1_0 a1_1 a1_2) b0_0), .int .i64 (pkI (mbK b0_0 b0_1 b0_2 x0_0 a1_0 a1_1 a1_2) b0_1), .int .i64 (pkI (mbK b0_0 b0_1 b0_2 x0_0 a1_0 a1_1 a1_2) b0_2), .slice Ah0_0 (mbN b0_0 b0_1 b0_2 x0_0 a1_0 a1_1 a1_2) ch0_0] := H6
  obtain ⟨x, y, t, ht, H7⟩ := (hf 7 (Nat.le_of_ble_eq_true rfl)).1
  have q1 := (List.cons.inj ht).1; have q2 := (List.cons.inj (List.cons.inj ht).2).1
  rw [← q1, ← q2] at H7; clear q1 q2 ht
  replace H7 : uu 7 = tupAt (uu 5) 1 := H7
  rw [H5] at H7
  replace H7 : uu 7 = .int .i64 (mbC b0_0 b0_1 b0_2 x0_0 a1_0 a1_1 a1_2) := H7
  obtain ⟨x, t, ht, H8, G8, L8⟩ := (hf 8 (Nat.le_of_ble_eq_true rfl)).1
  obtain ⟨rfl, rfl⟩ := List.cons.inj ht
  replace H8 : uu 8 = .pointer (some ⟨ss 8, 0, none⟩) := H8; replace G8 : Blk w19 (ss 8) 29 #[.int .i64 0, .int .i64 0, .int .i64 0, .slice none 0 0] := G8; replace L8 : ee 8 = ss 8 + 1 := L8
  have bb8 : w18.heap.size ≤ ss 8 ∧ ss 8 ≤ ee 8 ∧ ee 8 ≤ w19.heap.size := (hf 8 (Nat.le_of_ble_eq_true rfl)).2
  have D8_oy_0_0 := hdis 1 8 (Nat.le_of_ble_eq_true rfl) (Nat.le_of_ble_eq_true rfl) (by decide)
  have D8_oh0_0 := hdis 4 8 (Nat.le_of_ble_eq_true rfl) (Nat.le_of_ble_eq_true rfl) (by decide)
  simp only [List.length_cons, List.length_nil, Nat.zero_add, Nat.reduceAdd, List.drop_succ_cons, List.drop_zero, putAll, List.getElem?_cons_succ, List.getElem?_cons_zero, Option.bind_some, H0, H1, H2, H3, H4, H5, H6, H7, H8]
  clear hf hdis hor hz H0 H1 H2 H3 H4 H5 H6 H7 H8
  generalize ss 1 = lo1_w19, ee 1 = hi1_w19 at oy_0_0 boy_0_0 D8_oy_0_0
  generalize ss 4 = lo4_w19, ee 4 = hi4_w19 at oh0_0 boh0_0 D8_oh0_0
  generalize ss 8 = lo8_w19, ee 8 = hi8_w19 at G8 L8 bb8 D8_oy_0_0 D8_oh0_0 ⊢
  replace e0_0 := cellB e0_0 hb
  replace e0_1 := cellB e0_1 hb
  replace e0_2 := cellB e0_2 hb
  replace e0_3 := cellB e0_3 hb
  replace e1_0 := cellB e1_0 hb
  replace e1_1 := cellB e1_1 hb
  replace e1_2 := cellB e1_2 hb
  replace ew0_0 := cellB ew0_0 hb
  replace ew0_1 := cellB ew0_1 hb
  replace ew0_2 := cellB ew0_2 hb
  replace ew0_3 := cellB ew0_3 hb
  replace ex_0_0 := cellB ex_0_0 hb
  replace ex_0_1 := cellB ex_0_1 hb
  replace ex_0_2 := cellB ex_0_2 hb
  replace ex_0_3 := cellB ex_0_3 hb
  replace eg0_0 := cellB eg0_0 hb
  replace eg0_1 := cellB eg0_1 hb
  replace eg0_2 := cellB eg0_2 hb
  replace eg0_3 := cellB eg0_3 hb
  replace ow0_0 := ow0_0.bel hb
  replace ox_0_0 := ox_0_0.bel hb
  replace og0_0 := og0_0.bel hb
  replace B := bel2 B hb
  have zw19 := hb.size
  clear hb
  have gf8 := G8.frozen; have gl8 := G8.lt
  have gc8_0 := G8.cell 0
  have gc8_1 := G8.cell 1
  have gc8_2 := G8.cell 2
  have gc8_3 := G8.cell 3
  simp at gc8_0 gc8_1 gc8_2 gc8_3
  have ne8_e0_0 : ¬ lo8_w19 = w.heap.size := by omega
  have ne8_e0_1 : ¬ lo8_w19 = w.heap.size := by omega
  have ne8_e0_2 : ¬ lo8_w19 = w.heap.size := by omega
  have ne8_e0_3 : ¬ lo8_w19 = w.heap.size := by omega
  have ne8_e1_0 : ¬ lo8_w19 = w.heap.size + 1 := by omega
  have ne8_e1_1 : ¬ lo8_w19 = w.heap.size + 1 := by omega
  have ne8_e1_2 : ¬ lo8_w19 = w.heap.size + 1 := by omega
  have ne8_ew0_0 : ¬ lo8_w19 = lo8_w3 := by omega
  have ne8_ew0_1 : ¬ lo8_w19 = lo8_w3 := by omega
  have ne8_ew0_2 : ¬ lo8_w19 = lo8_w3 := by omega
  have ne8_ew0_3 : ¬ lo8_w19 = lo8_w3 := by omega
  have ne8_ex_0_0 : ¬ lo8_w19 = w5.heap.size := by omega
  have ne8_ex_0_1 : ¬ lo8_w19 = w5.heap.size := by omega
  have ne8_ex_0_2 : ¬ lo8_w19 = w5.heap.size := by omega
  have ne8_ex_0_3 : ¬ lo8_w19 = w5.heap.size := by omega
  have ne8_eg0_0 : ¬ lo8_w19 = lo7_w7 := by omega
  have ne8_eg0_1 : ¬ lo8_w19 = lo7_w7 := by omega
  have ne8_eg0_2 : ¬ lo8_w19 = lo7_w7 := by omega
  have ne8_eg0_3 : ¬ lo8_w19 = lo7_w7 := by omega
  refine ⟨((((w19).setCell ⟨lo8_w19, 0, none⟩ (.int .i64 (pkI (mbK b0_0 b0_1 b0_2 x0_0 a1_0 a1_1 a1_2) b0_0))).setCell ⟨lo8_w19, 1, none⟩ (.int .i64 (pkI (mbK b0_0 b0_1 b0_2 x0_0 a1_0 a1_1 a1_2) b0_1))).setCell ⟨lo8_w19, 2, none⟩ (.int .i64 (pkI (mbK b0_0 b0_1 b0_2 x0_0 a1_0 a1_1 a1_2) b0_2))).setCell ⟨lo8_w19, 3, none⟩ (.slice Ah0_0 (mbN b0_0 b0_1 b0_2 x0_0 a1_0 a1_1 a1_2) ch0_0), by simp [execOp, go_sem, gf8, gc8_0, gc8_1, gc8_2, gc8_3], ?_⟩
  go_wp2_with fail
  refine absW ?_
  intro w20 hw
  replace e0_0 : w20.cell? ⟨w.heap.size, 0, none⟩ = some (.int .i64 b0_0) := by rw [hw]; exact cellS (cellS (cellS (cellS (e0_0) (by omega)) (by omega)) (by omega)) (by omega)
  replace e0_1 : w20.cell? ⟨w.heap.size, 1, none⟩ = some (.int .i64 b0_1) := by rw [hw]; exact cellS (cellS (cellS (cellS (e0_1) (by omega)) (by omega)) (by omega)) (by omega)
  replace e0_2 : w20.cell? ⟨w.heap.size, 2, none⟩ = some (.int .i64 b0_2) := by rw [hw]; exact cellS (cellS (cellS (cellS (e0_2) (by omega)) (by omega)) (by omega)) (by omega)
  replace e0_3 : w20.cell? ⟨w.heap.size, 3, none⟩ = some (.slice A0_0 n0_0 c0_0) := by rw [hw]; exact cellS (cellS (cellS (cellS (e0_3) (by omega)) (by omega)) (by omega)) (by omega)
  replace e1_0 : w20.cell? ⟨w.heap.size + 1, 0, none⟩ = some (.int .i64 a1_0) := by rw [hw]; exact cellS (cellS (cellS (cellS (e1_0) (by omega)) (by omega)) (by omega)) (by omega)
  replace e1_1 : w20.cell? ⟨w.heap.size + 1, 1, none⟩ = some (.int .i64 a1_1) := by rw [hw]; exact cellS (cellS (cellS (cellS (e1_1) (by omega)) (by omega)) (by omega)) (by omega)
  replace e1_2 : w20.cell? ⟨w.heap.size + 1, 2, none⟩ = some (.int .i64 a1_2) := by rw [hw]; exact cellS (cellS (cellS (cellS (e1_2) (by omega)) (by omega)) (by omega)) (by omega)
  replace ew0_0 : w20.cell? ⟨lo8_w3, 0, none⟩ = some (.int .i64 (pkI (mbK b0_0 b0_1 b0_2 x0_0 a1_0 a1_1 a1_2) b0_0)) := by rw [hw]; exact cellS (cellS (cellS (cellS (ew0_0) (by omega)) (by omega)) (by omega)) (by omega)
  replace ew0_1 : w20.cell? ⟨lo8_w3, 1, none⟩ = some (.int .i64 (pkI (mbK b0_0 b0_1 b0_2 x0_0 a1_0 a1_1 a1_2) b0_1)) := by rw [hw]; exact cellS (cellS (cellS (cellS (ew0_1) (by omega)) (by omega)) (by omega)) (by omega)
  replace ew0_2 : w20.cell? ⟨lo8_w3, 2, none⟩ = some (.int .i64 (pkI (mbK b0_0 b0_1 b0_2 x0_0 a1_0 a1_1 a1_2) b0_2)) := by rw [hw]; exact cellS (cellS (cellS (cellS (ew0_2) (by omega)) (by omega)) (by omega)) (by omega)
  replace ew0_3 : w20.cell? ⟨lo8_w3, 3, none⟩ = some (.slice Aw0_0 (mbN b0_0 b0_1 b0_2 x0_0 a1_0 a1_1 a1_2) cw0_0) := by rw [hw]; exact cellS (cellS (cellS (cellS (ew0_3) (by omega)) (by omega)) (by omega)) (by omega)
  replace ex_0_0 : w20.cell? ⟨w5.heap.size, 0, none⟩ = some (.int .i64 b0_0) := by rw [hw]; exact cellS (cellS (cellS (cellS (ex_0_0) (by omega)) (by omega)) (by omega)) (by omega)
  replace ex_0_1 : w20.cell? ⟨w5.heap.size, 1, none⟩ = some (.int .i64 b0_1) := by rw [hw]; exact cellS (cellS (cellS (cellS (ex_0_1) (by omega)) (by omega)) (by omega)) (by omega)
  replace ex_0_2 : w20.cell? ⟨w5.heap.size, 2, none⟩ = some (.int .i64 b0_2) := by rw [hw]; exact cellS (cellS (cellS (cellS (ex_0_2) (by omega)) (by omega)) (by omega)) (by omega)
  replace ex_0_3 : w20.cell? ⟨w5.heap.size, 3, none⟩ = some (.slice Ax_0_0 n0_0 cx_0_0) := by rw [hw]; exact cellS (cellS (cellS (cellS (ex_0_3) (by omega)) (by omega)) (by omega)) (by omega)
  replace eg0_0 : w20.cell? ⟨lo7_w7, 0, none⟩ = some (.int .i64 (pkI (mbK b0_0 b0_1 b0_2 x0_0 a1_0 a1_1 a1_2) b0_0)) := by rw [hw]; exact cellS (cellS (cellS (cellS (eg0_0) (by omega)) (by omega)) (by omega)) (by omega)
  replace eg0_1 : w20.cell? ⟨lo7_w7, 1, none⟩ = some (.int .i64 (pkI (mbK b0_0 b0_1 b0_2 x0_0 a1_0 a1_1 a1_2) b0_1)) := by rw [hw]; exact cellS (cellS (cellS (cellS (eg0_1) (by omega)) (by omega)) (by omega)) (by omega)
  replace eg0_2 : w20.cell? ⟨lo7_w7, 2, none⟩ = some (.int .i64 (pkI (mbK b0_0 b0_1 b0_2 x0_0 a1_0 a1_1 a1_2) b0_2)) := by rw [hw]; exact cellS (cellS (cellS (cellS (eg0_2) (by omega)) (by omega)) (by omega)) (by omega)
  replace eg0_3 : w20.cell? ⟨lo7_w7, 3, none⟩ = some (.slice Ag0_0 (mbN b0_0 b0_1 b0_2 x0_0 a1_0 a1_1 a1_2) cg0_0) := by rw [hw]; exact cellS (cellS (cellS (cellS (eg0_3) (by omega)) (by omega)) (by omega)) (by omega)
  replace ow0_0 := ((((ow0_0.setLow (p := ⟨lo8_w19, 0, none⟩) (by show lo8_w19 < _ ∨ _ ≤ lo8_w19; omega) (.int .i64 (pkI (mbK b0_0 b0_1 b0_2 x0_0 a1_0 a1_1 a1_2) b0_0))).setLow (p := ⟨lo8_w19, 1, none⟩) (by show lo8_w19 < _ ∨ _ ≤ lo8_w19; omega) (.int .i64 (pkI (mbK b0_0 b0_1 b0_2 x0_0 a1_0 a1_1 a1_2) b0_1))).setLow (p := ⟨lo8_w19, 2, none⟩) (by show lo8_w19 < _ ∨ _ ≤ lo8_w19; omega) (.int .i64 (pkI (mbK b0_0 b0_1 b0_2 x0_0 a1_0 a1_1 a1_2) b0_2))).setLow (p := ⟨lo8_w19, 3, none⟩) (by show lo8_w19 < _ ∨ _ ≤ lo8_w19; omega) (.slice Ah0_0 (mbN b0_0 b0_1 b0_2 x0_0 a1_0 a1_1 a1_2) ch0_0))
  rw [← hw] at ow0_0
  replace ox_0_0 := ((((ox_0_0.setLow (p := ⟨lo8_w19, 0, none⟩) (by show lo8_w19 < _ ∨ _ ≤ lo8_w19; omega) (.int .i64 (pkI (mbK b0_0 b0_1 b0_2 x0_0 a1_0 a1_1 a1_2) b0_0))).setLow (p := ⟨lo8_w19, 1, none⟩) (by show lo8_w19 < _ ∨ _ ≤ lo8_w19; omega) (.int .i64 (pkI (mbK b0_0 b0_1 b0_2 x0_0 a1_0 a1_1 a1_2) b0_1))).setLow (p := ⟨lo8_w19, 2, none⟩) (by show lo8_w19 < _ ∨ _ ≤ lo8_w19; omega) (.int .i64 (pkI (mbK b0_0 b0_1 b0_2 x0_0 a1_0 a1_1 a1_2) b0_2))).setLow (p := ⟨lo8_w19, 3, none⟩) (by show lo8_w19 < _ ∨ _ ≤ lo8_w19; omega) (.slice Ah0_0 (mbN b0_0 b0_1 b0_2 x0_0 a1_0 a1_1 a1_2) ch0_0))
  rw [← hw] at ox_0_0
  replace og0_0 := ((((og0_0.setLow (p := ⟨lo8_w19, 0, none⟩) (by show lo8_w19 < _ ∨ _ ≤ lo8_w19; omega) (.int .i64 (pkI (mbK b0_0 b0_1 b0_2 x0_0 a1_0 a1_1 a1_2) b0_0))).setLow (p := ⟨lo8_w19, 1, none⟩) (by show lo8_w19 < _ ∨ _ ≤ lo8_w19; omega) (.int .i64 (pkI (mbK b0_0 b0_1 b0_2 x0_0 a1_0 a1_1 a1_2) b0_1))).setLow (p := ⟨lo8_w19, 2, none⟩) (by show lo8_w19 < _ ∨ _ ≤ lo8_w19; omega) (.int .i64 (pkI (mbK b0_0 b0_1 b0_2 x0_0 a1_0 a1_1 a1_2) b0_2))).setLow (p := ⟨lo8_w19, 3, none⟩) (by show lo8_w19 < _ ∨ _ ≤ lo8_w19; omega) (.slice Ah0_0 (mbN b0_0 b0_1 b0_2 x0_0 a1_0 a1_1 a1_2) ch0_0))
  rw [← hw] at og0_0
  replace oy_0_0 := ((((oy_0_0.setLow (p := ⟨lo8_w19, 0, none⟩) (by show lo8_w19 < _ ∨ _ ≤ lo8_w19; omega) (.int .i64 (pkI (mbK b0_0 b0_1 b0_2 x0_0 a1_0 a1_1 a1_2) b0_0))).setLow (p := ⟨lo8_w19, 1, none⟩) (by show lo8_w19 < _ ∨ _ ≤ lo8_w19; omega) (.int .i64 (pkI (mbK b0_0 b0_1 b0_2 x0_0 a1_0 a1_1 a1_2) b0_1))).setLow (p := ⟨lo8_w19, 2, none⟩) (by show lo8_w19 < _ ∨ _ ≤ lo8_w19; omega) (.int .i64 (pkI (mbK b0_0 b0_1 b0_2 x0_0 a1_0 a1_1 a1_2) b0_2))).setLow (p := ⟨lo8_w19, 3, none⟩) (by show lo8_w19 < _ ∨ _ ≤ lo8_w19; omega) (.slice Ah0_0 (mbN b0_0 b0_1 b0_2 x0_0 a1_0 a1_1 a1_2) ch0_0))
  rw [← hw] at oy_0_0
  replace oh0_0 := ((((oh0_0.setLow (p := ⟨lo8_w19, 0, none⟩) (by show lo8_w19 < _ ∨ _ ≤ lo8_w19; omega) (.int .i64 (pkI (mbK b0_0 b0_1 b0_2 x0_0 a1_0 a1_1 a1_2) b0_0))).setLow (p := ⟨lo8_w19, 1, none⟩) (by show lo8_w19 < _ ∨ _ ≤ lo8_w19; omega) (.int .i64 (pkI (mbK b0_0 b0_1 b0_2 x0_0 a1_0 a1_1 a1_2) b0_1))).setLow (p := ⟨lo8_w19, 2, none⟩) (by show lo8_w19 < _ ∨ _ ≤ lo8_w19; omega) (.int .i64 (pkI (mbK b0_0 b0_1 b0_2 x0_0 a1_0 a1_1 a1_2) b0_2))).setLow (p := ⟨lo8_w19, 3, none⟩) (by show lo8_w19 < _ ∨ _ ≤ lo8_w19; omega) (.slice Ah0_0 (mbN b0_0 b0_1 b0_2 x0_0 a1_0 a1_1 a1_2) ch0_0))
  rw [← hw] at oh0_0
  have GG := ((((G8.set_ 0 (.int .i64 (pkI (mbK b0_0 b0_1 b0_2 x0_0 a1_0 a1_1 a1_2) b0_0))).set_ 1 (.int .i64 (pkI (mbK b0_0 b0_1 b0_2 x0_0 a1_0 a1_1 a1_2) b0_1))).set_ 2 (.int .i64 (pkI (mbK b0_0 b0_1 b0_2 x0_0 a1_0 a1_1 a1_2) b0_2))).set_ 3 (.slice Ah0_0 (mbN b0_0 b0_1 b0_2 x0_0 a1_0 a1_1 a1_2) ch0_0))
  rw [← hw] at GG
  have eh0_0 : w20.cell? ⟨lo8_w19, 0, none⟩ = some (.int .i64 (pkI (mbK b0_0 b0_1 b0_2 x0_0 a1_0 a1_1 a1_2) b0_0)) := GG.cell 0
  have eh0_1 : w20.cell? ⟨lo8_w19, 1, none⟩ = some (.int .i64 (pkI (mbK b0_0 b0_1 b0_2 x0_0 a1_0 a1_1 a1_2) b0_1)) := GG.cell 1
  have eh0_2 : w20.cell? ⟨lo8_w19, 2, none⟩ = some (.int .i64 (pkI (mbK b0_0 b0_1 b0_2 x0_0 a1_0 a1_1 a1_2) b0_2)) := GG.cell 2
  have eh0_3 : w20.cell? ⟨lo8_w19, 3, none⟩ = some (.slice Ah0_0 (mbN b0_0 b0_1 b0_2 x0_0 a1_0 a1_1 a1_2) ch0_0) := GG.cell 3
  clear GG
  have zzw20 : w20.heap.size = w19.heap.size := by rw [hw]; simp
  replace B : Below w.heap.size w w20 := by rw [hw]; exact ((((B).setCell (by show w.heap.size ≤ lo8_w19; omega) _).setCell (by show w.heap.size ≤ lo8_w19; omega) _).setCell (by show w.heap.size ≤ lo8_w19; omega) _).setCell (by show w.heap.size ≤ lo8_w19; omega) _
  clear hw
  refine (eqAbacus _ oh0_0.reads ow0_0.reads (by have := ow0_0.row.1; rw [flat_length encPair_length] at this; omega) (Nat.le_trans fow0_0 kow0_0)).mono ?_
  rintro e w21 ⟨rfl, hb⟩
  replace e0_0 := cellB e0_0 hb
  replace e0_1 := cellB e0_1 hb
  replace e0_2 := cellB e0_2 hb
  replace e0_3 := cellB e0_3 hb
  replace e1_0 := cellB e1_0 hb
  replace e1_1 := cellB e1_1 hb
  replace e1_2 := cellB e1_2 hb
  replace ew0_0 := cellB ew0_0 hb
  replace ew0_1 := cellB ew0_1 hb
  replace ew0_2 := cellB ew0_2 hb
  replace ew0_3 := cellB ew0_3 hb
  replace ex_0_0 := cellB ex_0_0 hb
  replace ex_0_1 := cellB ex_0_1 hb
  replace ex_0_2 := cellB ex_0_2 hb
  replace ex_0_3 := cellB ex_0_3 hb
  replace eg0_0 := cellB eg0_0 hb
  replace eg0_1 := cellB eg0_1 hb
  replace eg0_2 := cellB eg0_2 hb
  replace eg0_3 := cellB eg0_3 hb
  replace eh0_0 := cellB eh0_0 hb
  replace eh0_1 := cellB eh0_1 hb
  replace eh0_2 := cellB eh0_2 hb
  replace eh0_3 := cellB eh0_3 hb
  replace ow0_0 := ow0_0.bel hb
  replace ox_0_0 := ox_0_0.bel hb
  replace og0_0 := og0_0.bel hb
  replace oy_0_0 := oy_0_0.bel hb
  replace oh0_0 := oh0_0.bel hb
  replace B := bel2 B hb
  have zw21 := hb.size
  clear hb
  go_wp2_with fail
  refine absW ?_
  intro w22 hw
  have hb : Below w21.heap.size w21 w22 := by rw [hw]; exact (by repeat' (first | assumption | exact Below.refl _ _ | refine Below.drew ?_ | refine Below.alloc ?_ (by first | omega | (simp; done) | (simp; omega)) _))
  clear hw
  replace e0_0 := cellB e0_0 hb
  replace e0_1 := cellB e0_1 hb
  replace e0_2 := cellB e0_2 hb
  replace e0_3 := cellB e0_3 hb
  replace e1_0 := cellB e1_0 hb
  replace e1_1 := cellB e1_1 hb
  replace e1_2 := cellB e1_2 hb
  replace ew0_0 := cellB ew0_0 hb
  replace ew0_1 := cellB ew0_1 hb
  replace ew0_2 := cellB ew0_2 hb
  replace ew0_3 := cellB ew0_3 hb
  replace ex_0_0 := cellB ex_0_0 hb
  replace ex_0_1 := cellB ex_0_1 hb
  replace ex_0_2 := cellB ex_0_2 hb
  replace ex_0_3 := cellB ex_0_3 hb
  replace eg0_0 := cellB eg0_0 hb
  replace eg0_1 := cellB eg0_1 hb
  replace eg0_2 := cellB eg0_2 hb
  replace eg0_3 := cellB eg0_3 hb
  replace eh0_0 := cellB eh0_0 hb
  replace eh0_1 := cellB eh0_1 hb
  replace eh0_2 := cellB eh0_2 hb
  replace eh0_3 := cellB eh0_3 hb
  replace ow0_0 := ow0_0.bel hb
  replace ox_0_0 := ox_0_0.bel hb
  replace og0_0 := og0_0.bel hb
  replace oy_0_0 := oy_0_0.bel hb
  replace oh0_0 := oh0_0.bel hb
  replace B := bel2 B hb
  have zw22 := hb.size
  clear hb
  refine (heldAbacus _ _ og0_0.reads (mbN_le _ _ _ _ _ _ _) (by omega) (by omega)).mono ?_
  rintro e w23 ⟨rfl, hb⟩
  replace e0_0 := cellB e0_0 hb
  replace e0_1 := cellB e0_1 hb
  replace e0_2 := cellB e0_2 hb
  replace e0_3 := cellB e0_3 hb
  replace e1_0 := cellB e1_0 hb
  replace e1_1 := cellB e1_1 hb
  replace e1_2 := cellB e1_2 hb
  replace ew0_0 := cellB ew0_0 hb
  replace ew0_1 := cellB ew0_1 hb
  replace ew0_2 := cellB ew0_2 hb
  replace ew0_3 := cellB ew0_3 hb
  replace ex_0_0 := cellB ex_0_0 hb
  replace ex_0_1 := cellB ex_0_1 hb
  replace ex_0_2 := cellB ex_0_2 hb
  replace ex_0_3 := cellB ex_0_3 hb
  replace eg0_0 := cellB eg0_0 hb
  replace eg0_1 := cellB eg0_1 hb
  replace eg0_2 := cellB eg0_2 hb
  replace eg0_3 := cellB eg0_3 hb
  replace eh0_0 := cellB eh0_0 hb
  replace eh0_1 := cellB eh0_1 hb
  replace eh0_2 := cellB eh0_2 hb
  replace eh0_3 := cellB eh0_3 hb
  replace ow0_0 := ow0_0.bel hb
  replace ox_0_0 := ox_0_0.bel hb
  replace og0_0 := og0_0.bel hb
  replace oy_0_0 := oy_0_0.bel hb
  replace oh0_0 := oh0_0.bel hb
  replace B := bel2 B hb
  have zw23 := hb.size
  clear hb
  go_wp2
  go_ret
  exact ⟨rfl, bel2 B (by repeat' (first | assumption | exact Below.refl _ _ | refine Below.drew ?_ | refine Below.alloc ?_ (by first | omega | (simp; done) | (simp; omega)) _))⟩
end Go.Proofs.Ytpgifgdoikhpbaa
