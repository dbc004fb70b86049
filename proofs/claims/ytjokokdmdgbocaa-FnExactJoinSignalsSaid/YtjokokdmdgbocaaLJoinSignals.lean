/- The walk of the law FnExactJoinSignals. No condition. -/
import Derived.Test.YtjokokdmdgbocaaJsig
import Derived.Test.YtjokokdmdgbocaaSigO
import Derived.Test.YtjokokdmdgbocaaRgL
import Derived.Deep.RegionHeld3
namespace Go.Proofs.Ytjokokdmdgbocaa
open Go.RowKit
set_option linter.unusedVariables false

set_option maxRecDepth 100000 in
set_option maxHeartbeats 3200000 in
theorem lJoinSignals {a0_0 : Bool} {a0_1 : Bool} {a1_0 : Bool} {a1_1 : Bool} (w : World)  :
    Calls Try.prog 6 #[.agg #[.bool a0_0, .bool a0_1], .agg #[.bool a1_0, .bool a1_1]] w fun e w' => e = .returned (.bool true) ∧ Below w.heap.size w w' := by
  go_enter Try.func6, Try.ntmps6
  have B : Below w.heap.size w w := Below.refl _ _
  go_wp2_with fail
  refine absC ?_
  intro w1 hw
  have hb : Below w.heap.size w w1 := by rw [hw]; exact (by repeat' (first | assumption | exact Below.refl _ _ | refine Below.drew ?_ | refine Below.alloc ?_ (by first | omega | (simp; done) | (simp; omega)) _))
  have e0_0 : w1.cell? ⟨w.heap.size, 0, none⟩ = some (.bool a0_0) := by rw [hw]; simp
  have e0_1 : w1.cell? ⟨w.heap.size, 1, none⟩ = some (.bool a0_1) := by rw [hw]; simp
  have e1_0 : w1.cell? ⟨w.heap.size + 1, 0, none⟩ = some (.bool a1_0) := by rw [hw]; simp
  have e1_1 : w1.cell? ⟨w.heap.size + 1, 1, none⟩ = some (.bool a1_1) := by rw [hw]; simp
  have yw1_e0_0 : w.heap.size < w1.heap.size := World.block_lt_of_cell? _ _ e0_0
  have yw1_e1_0 : w.heap.size + 1 < w1.heap.size := World.block_lt_of_cell? _ _ e1_0
  clear hw
  replace B := bel2 B hb
  have zw1 := hb.size
  clear hb
  refine wp_region_rgl (fun i => match i with | 1 => [0] | 3 => [2] | 4 => [1, 3] | _ => [])
    [fun T _ => ∃ x t, T = x :: t ∧ x.1 = .agg #[.bool a0_0, .bool a0_1],
       fun T _ => ∃ x t, T = x :: t ∧ x.1 = .agg #[.bool a0_0, .bool a0_1],
       fun T _ => ∃ x t, T = x :: t ∧ x.1 = .agg #[.bool a1_0, .bool a1_1],
       fun T _ => ∃ x t, T = x :: t ∧ x.1 = .agg #[.bool a1_0, .bool a1_1],
       fun T _ => ∃ x t, T = x :: t ∧ x.1 = .agg #[.bool (joinQ (a0_0, a0_1) (a1_0, a1_1)).1, .bool (joinQ (a0_0, a0_1) (a1_0, a1_1)).2],
       fun T w' => ∃ x t, T = x :: t ∧ x.1 = .pointer (some ⟨x.2.1, 0, none⟩) ∧ Blk w' x.2.1 27 #[.bool false, .bool false] ∧ x.2.2 = x.2.1 + 1] (by kernel_rfl) (by kernel_rfl) (by kernel_rfl) ?_ ?_ ?_
  · refine And.intro ?_ (And.intro ?_ (And.intro ?_ (And.intro ?_ (And.intro ?_ (And.intro ?_ trivial)))))
    all_goals (intro T v1 v2 hz hb ht h)
    · exact h
    · exact h
    · exact h
    · exact h
    · exact h
    · obtain ⟨x, t, rfl, h1, h2, h3⟩ := h; exact ⟨x, t, rfl, h1, h2.bel hb, h3⟩
  · refine And.intro ?_ (And.intro ?_ (And.intro ?_ (And.intro ?_ (And.intro ?_ (And.intro ?_ trivial)))))
    all_goals (intro A0 uu ss ee v1 hat hoff hb hz hd hor KK hK)
    · have e2 : A0.tmps[2]?.getD undef = .pointer (some ⟨w.heap.size, 0, none⟩) := rd_at (hoff 2 rfl)
      have y0 := cellB e0_0 hb
      have y1 := cellB e0_1 hb
      exact op_val (.agg #[.bool a0_0, .bool a0_1]) (by simp [execOp, go_sem, e2, y0, y1]) (hK _ _ ⟨_, _, rfl, rfl⟩ (Below.refl _ _))
    · skip
      obtain ⟨x, t, ht, H0⟩ := (hd 0 (by simp)).1
      obtain ⟨rfl, rfl⟩ := List.cons.inj ht
      replace H0 : uu 0 = .agg #[.bool a0_0, .bool a0_1] := H0
      have E0 := (rd_at (hat 7 0 rfl (Nat.le_of_ble_eq_true rfl))).trans H0
      refine op_call 17 rfl _ Try.func17 (by kernel_rfl) (by kernel_rfl) #[.agg #[.bool a0_0, .bool a0_1]] (by simp [go_sem, E0]) ?_
      have hB' := bel2 B hb
      refine (toSignal _).mono ?_
      rintro x v2 ⟨rfl, hbx⟩
      exact ⟨_, rfl, hK _ _ ⟨_, _, rfl, rfl⟩ hbx⟩
    · have e2 : A0.tmps[3]?.getD undef = .pointer (some ⟨w.heap.size + 1, 0, none⟩) := rd_at (hoff 3 rfl)
      have y0 := cellB e1_0 hb
      have y1 := cellB e1_1 hb
      exact op_val (.agg #[.bool a1_0, .bool a1_1]) (by simp [execOp, go_sem, e2, y0, y1]) (hK _ _ ⟨_, _, rfl, rfl⟩ (Below.refl _ _))
    · skip
      obtain ⟨x, t, ht, H2⟩ := (hd 2 (by simp)).1
      obtain ⟨rfl, rfl⟩ := List.cons.inj ht
      replace H2 : uu 2 = .agg #[.bool a1_0, .bool a1_1] := H2
      have E2 := (rd_at (hat 9 2 rfl (Nat.le_of_ble_eq_true rfl))).trans H2
      refine op_call 17 rfl _ Try.func17 (by kernel_rfl) (by kernel_rfl) #[.agg #[.bool a1_0, .bool a1_1]] (by simp [go_sem, E2]) ?_
      have hB' := bel2 B hb
      refine (toSignal _).mono ?_
      rintro x v2 ⟨rfl, hbx⟩
      exact ⟨_, rfl, hK _ _ ⟨_, _, rfl, rfl⟩ hbx⟩
    · skip
      obtain ⟨x, t, ht, H1⟩ := (hd 1 (by simp)).1
      obtain ⟨rfl, rfl⟩ := List.cons.inj ht
      replace H1 : uu 1 = .agg #[.bool a0_0, .bool a0_1] := H1
      have E1 := (rd_at (hat 8 1 rfl (Nat.le_of_ble_eq_true rfl))).trans H1
      skip
      obtain ⟨x, t, ht, H3⟩ := (hd 3 (by simp)).1
      obtain ⟨rfl, rfl⟩ := List.cons.inj ht
      replace H3 : uu 3 = .agg #[.bool a1_0, .bool a1_1] := H3
      have E3 := (rd_at (hat 10 3 rfl (Nat.le_of_ble_eq_true rfl))).trans H3
      refine op_call 16 rfl _ Try.func16 (by kernel_rfl) (by kernel_rfl) #[.agg #[.bool a0_0, .bool a0_1], .agg #[.bool a1_0, .bool a1_1]] (by simp [go_sem, E1, E3]) ?_
      have hB' := bel2 B hb
      refine (sJoinSig (a0_0, a0_1) (a1_0, a1_1) _).mono ?_
      rintro x v2 ⟨rfl, hbx⟩
      exact ⟨_, rfl, hK _ _ ⟨_, _, rfl, rfl⟩ hbx⟩
    · exact op_assign (.pointer (some ⟨v1.heap.size, 0, none⟩)) (v1.alloc (.cells #[.bool false, .bool false] 27)) (by simp [execOp, go_sem]) (hK _ _ ⟨_, _, rfl, rfl, Blk.new _ _ _, by simp⟩ ((Below.refl _ _).alloc (Nat.le_refl _) _))
  intro uu ss ee w2 hb hz hf hdis hor
  obtain ⟨x, t, ht, H0⟩ := (hf 0 (Nat.le_of_ble_eq_true rfl)).1
  obtain ⟨rfl, rfl⟩ := List.cons.inj ht
  replace H0 : uu 0 = .agg #[.bool a0_0, .bool a0_1] := H0
  obtain ⟨x, t, ht, H1⟩ := (hf 1 (Nat.le_of_ble_eq_true rfl)).1
  obtain ⟨rfl, rfl⟩ := List.cons.inj ht
  replace H1 : uu 1 = .agg #[.bool a0_0, .bool a0_1] := H1
  obtain ⟨x, t, ht, H2⟩ := (hf 2 (Nat.le_of_ble_eq_true rfl)).1
  obtain ⟨rfl, rfl⟩ := List.cons.inj ht
  replace H2 : uu 2 = .agg #[.bool a1_0, .bool a1_1] := H2
  obtain ⟨x, t, ht, H3⟩ := (hf 3 (Nat.le_of_ble_eq_true rfl)).1
  obtain ⟨rfl, rfl⟩ := List.cons.inj ht
  replace H3 : uu 3 = .agg #[.bool a1_0, .bool a1_1] := H3
  obtain ⟨x, t, ht, H4⟩ := (hf 4 (Nat.le_of_ble_eq_true rfl)).1
  obtain ⟨rfl, rfl⟩ := List.cons.inj ht
  replace H4 : uu 4 = .agg #[.bool (joinQ (a0_0, a0_1) (a1_0, a1_1)).1, .bool (joinQ (a0_0, a0_1) (a1_0, a1_1)).2] := H4
  obtain ⟨x, t, ht, H5, G5, L5⟩ := (hf 5 (Nat.le_of_ble_eq_true rfl)).1
  obtain ⟨rfl, rfl⟩ := List.cons.inj ht
  replace H5 : uu 5 = .pointer (some ⟨ss 5, 0, none⟩) := H5; replace G5 : Blk w2 (ss 5) 27 #[.bool false, .bool false] := G5; replace L5 : ee 5 = ss 5 + 1 := L5
  have bb5 : w1.heap.size ≤ ss 5 ∧ ss 5 ≤ ee 5 ∧ ee 5 ≤ w2.heap.size := (hf 5 (Nat.le_of_ble_eq_true rfl)).2
  simp only [List.length_cons, List.length_nil, Nat.zero_add, Nat.reduceAdd, List.drop_succ_cons, List.drop_zero, putAll, List.getElem?_cons_succ, List.getElem?_cons_zero, Option.bind_some, H0, H1, H2, H3, H4, H5]
  clear hf hdis hor hz H0 H1 H2 H3 H4 H5
  generalize ss 5 = lo5_w2, ee 5 = hi5_w2 at G5 L5 bb5 ⊢
  replace e0_0 := cellB e0_0 hb
  replace e0_1 := cellB e0_1 hb
  replace e1_0 := cellB e1_0 hb
  replace e1_1 := cellB e1_1 hb
  replace B := bel2 B hb
  have zw2 := hb.size
  clear hb
  have gf5 := G5.frozen; have gl5 := G5.lt
  have gc5_0 := G5.cell 0
  have gc5_1 := G5.cell 1
  simp at gc5_0 gc5_1
  have ne5_e0_0 : ¬ lo5_w2 = w.heap.size := by omega
  have ne5_e0_1 : ¬ lo5_w2 = w.heap.size := by omega
  have ne5_e1_0 : ¬ lo5_w2 = w.heap.size + 1 := by omega
  have ne5_e1_1 : ¬ lo5_w2 = w.heap.size + 1 := by omega
  go_wp2_with fail
  refine absC ?_
  intro w3 hw
  replace e0_0 : w3.cell? ⟨w.heap.size, 0, none⟩ = some (.bool a0_0) := by rw [hw]; exact cellS (cellS (e0_0) (by omega)) (by omega)
  replace e0_1 : w3.cell? ⟨w.heap.size, 1, none⟩ = some (.bool a0_1) := by rw [hw]; exact cellS (cellS (e0_1) (by omega)) (by omega)
  replace e1_0 : w3.cell? ⟨w.heap.size + 1, 0, none⟩ = some (.bool a1_0) := by rw [hw]; exact cellS (cellS (e1_0) (by omega)) (by omega)
  replace e1_1 : w3.cell? ⟨w.heap.size + 1, 1, none⟩ = some (.bool a1_1) := by rw [hw]; exact cellS (cellS (e1_1) (by omega)) (by omega)
  have GG := ((G5.set_ 0 (.bool (joinQ (a0_0, a0_1) (a1_0, a1_1)).1)).set_ 1 (.bool (joinQ (a0_0, a0_1) (a1_0, a1_1)).2))
  rw [← hw] at GG
  have ew0_0 : w3.cell? ⟨lo5_w2, 0, none⟩ = some (.bool (joinQ (a0_0, a0_1) (a1_0, a1_1)).1) := GG.cell 0
  have ew0_1 : w3.cell? ⟨lo5_w2, 1, none⟩ = some (.bool (joinQ (a0_0, a0_1) (a1_0, a1_1)).2) := GG.cell 1
  clear GG
  have zzw3 : w3.heap.size = w2.heap.size := by rw [hw]; simp
  replace B : Below w.heap.size w w3 := by rw [hw]; exact ((B).setCell (by show w.heap.size ≤ lo5_w2; omega) _).setCell (by show w.heap.size ≤ lo5_w2; omega) _
  clear hw
  refine wp_region_rgl (fun i => match i with | 1 => [0] | 3 => [2] | 4 => [1, 3] | _ => [])
    [fun T _ => ∃ x t, T = x :: t ∧ x.1 = .agg #[.bool a0_0, .bool a0_1],
       fun T _ => ∃ x t, T = x :: t ∧ x.1 = .agg #[.bool a0_0, .bool a0_1],
       fun T _ => ∃ x t, T = x :: t ∧ x.1 = .agg #[.bool a1_0, .bool a1_1],
       fun T _ => ∃ x t, T = x :: t ∧ x.1 = .agg #[.bool a1_0, .bool a1_1],
       fun T _ => ∃ x t, T = x :: t ∧ x.1 = .agg #[.bool (joinQ (a0_0, a0_1) (a1_0, a1_1)).1, .bool (joinQ (a0_0, a0_1) (a1_0, a1_1)).2],
       fun T w' => ∃ x t, T = x :: t ∧ x.1 = .pointer (some ⟨x.2.1, 0, none⟩) ∧ Blk w' x.2.1 27 #[.bool false, .bool false] ∧ x.2.2 = x.2.1 + 1] (by kernel_rfl) (by kernel_rfl) (by kernel_rfl) ?_ ?_ ?_
  · refine And.intro ?_ (And.intro ?_ (And.intro ?_ (And.intro ?_ (And.intro ?_ (And.intro ?_ trivial)))))
    all_goals (intro T v1 v2 hz hb ht h)
    · exact h
    · exact h
    · exact h
    · exact h
    · exact h
    · obtain ⟨x, t, rfl, h1, h2, h3⟩ := h; exact ⟨x, t, rfl, h1, h2.bel hb, h3⟩
  · refine And.intro ?_ (And.intro ?_ (And.intro ?_ (And.intro ?_ (And.intro ?_ (And.intro ?_ trivial)))))
    all_goals (intro A0 uu ss ee v1 hat hoff hb hz hd hor KK hK)
    · have e2 : A0.tmps[2]?.getD undef = .pointer (some ⟨w.heap.size, 0, none⟩) := rd_at (hoff 2 rfl)
      have y0 := cellB e0_0 hb
      have y1 := cellB e0_1 hb
      exact op_val (.agg #[.bool a0_0, .bool a0_1]) (by simp [execOp, go_sem, e2, y0, y1]) (hK _ _ ⟨_, _, rfl, rfl⟩ (Below.refl _ _))
    · skip
      obtain ⟨x, t, ht, H0⟩ := (hd 0 (by simp)).1
      obtain ⟨rfl, rfl⟩ := List.cons.inj ht
      replace H0 : uu 0 = .agg #[.bool a0_0, .bool a0_1] := H0
      have E0 := (rd_at (hat 12 0 rfl (Nat.le_of_ble_eq_true rfl))).trans H0
      refine op_call 17 rfl _ Try.func17 (by kernel_rfl) (by kernel_rfl) #[.agg #[.bool a0_0, .bool a0_1]] (by simp [go_sem, E0]) ?_
      have hB' := bel2 B hb
      refine (toSignal _).mono ?_
      rintro x v2 ⟨rfl, hbx⟩
      exact ⟨_, rfl, hK _ _ ⟨_, _, rfl, rfl⟩ hbx⟩
    · have e2 : A0.tmps[3]?.getD undef = .pointer (some ⟨w.heap.size + 1, 0, none⟩) := rd_at (hoff 3 rfl)
      have y0 := cellB e1_0 hb
      have y1 := cellB e1_1 hb
      exact op_val (.agg #[.bool a1_0, .bool a1_1]) (by simp [execOp, go_sem, e2, y0, y1]) (hK _ _ ⟨_, _, rfl, rfl⟩ (Below.refl _ _))
    · skip
      obtain ⟨x, t, ht, H2⟩ := (hd 2 (by simp)).1
      obtain ⟨rfl, rfl⟩ := List.cons.inj ht
      replace H2 : uu 2 = .agg #[.bool a1_0, .bool a1_1] := H2
      have E2 := (rd_at (hat 14 2 rfl (Nat.le_of_ble_eq_true rfl))).trans H2
      refine op_call 17 rfl _ Try.func17 (by kernel_rfl) (by kernel_rfl) #[.agg #[.bool a1_0, .bool a1_1]] (by simp [go_sem, E2]) ?_
      have hB' := bel2 B hb
      refine (toSignal _).mono ?_
      rintro x v2 ⟨rfl, hbx⟩
      exact ⟨_, rfl, hK _ _ ⟨_, _, rfl, rfl⟩ hbx⟩
    · skip
      obtain ⟨x, t, ht, H1⟩ := (hd 1 (by simp)).1
      obtain ⟨rfl, rfl⟩ := List.cons.inj ht
      replace H1 : uu 1 = .agg #[.bool a0_0, .bool a0_1] := H1
      have E1 := (rd_at (hat 13 1 rfl (Nat.le_of_ble_eq_true rfl))).trans H1
      skip
      obtain ⟨x, t, ht, H3⟩ := (hd 3 (by simp)).1
      obtain ⟨rfl, rfl⟩ := List.cons.inj ht
      replace H3 : uu 3 = .agg #[.bool a1_0, .bool a1_1] := H3
      have E3 := (rd_at (hat 15 3 rfl (Nat.le_of_ble_eq_true rfl))).trans H3
      refine op_call 18 rfl _ Try.func18 (by kernel_rfl) (by kernel_rfl) #[.agg #[.bool a0_0, .bool a0_1], .agg #[.bool a1_0, .bool a1_1]] (by simp [go_sem, E1, E3]) ?_
      have hB' := bel2 B hb
      refine (iJoinSig (a0_0, a0_1) (a1_0, a1_1) _).mono ?_
      rintro x v2 ⟨rfl, hbx⟩
      exact ⟨_, rfl, hK _ _ ⟨_, _, rfl, rfl⟩ hbx⟩
    · exact op_assign (.pointer (some ⟨v1.heap.size, 0, none⟩)) (v1.alloc (.cells #[.bool false, .bool false] 27)) (by simp [execOp, go_sem]) (hK _ _ ⟨_, _, rfl, rfl, Blk.new _ _ _, by simp⟩ ((Below.refl _ _).alloc (Nat.le_refl _) _))
  intro uu ss ee w4 hb hz hf hdis hor
  obtain ⟨x, t, ht, H0⟩ := (hf 0 (Nat.le_of_ble_eq_true rfl)).1
  obtain ⟨rfl, rfl⟩ := List.cons.inj ht
  replace H0 : uu 0 = .agg #[.bool a0_0, .bool a0_1] := H0
  obtain ⟨x, t, ht, H1⟩ := (hf 1 (Nat.le_of_ble_eq_true rfl)).1
  obtain ⟨rfl, rfl⟩ := List.cons.inj ht
  replace H1 : uu 1 = .agg #[.bool a0_0, .bool a0_1] := H1
  obtain ⟨x, t, ht, H2⟩ := (hf 2 (Nat.le_of_ble_eq_true rfl)).1
  obtain ⟨rfl, rfl⟩ := List.cons.inj ht
  replace H2 : uu 2 = .agg #[.bool a1_0, .bool a1_1] := H2
  obtain ⟨x, t, ht, H3⟩ := (hf 3 (Nat.le_of_ble_eq_true rfl)).1
  obtain ⟨rfl, rfl⟩ := List.cons.inj ht
  replace H3 : uu 3 = .agg #[.bool a1_0, .bool a1_1] := H3
  obtain ⟨x, t, ht, H4⟩ := (hf 4 (Nat.le_of_ble_eq_true rfl)).1
  obtain ⟨rfl, rfl⟩ := List.cons.inj ht
  replace H4 : uu 4 = .agg #[.bool (joinQ (a0_0, a0_1) (a1_0, a1_1)).1, .bool (joinQ (a0_0, a0_1) (a1_0, a1_1)).2] := H4
  obtain ⟨x, t, ht, H5, G5, L5⟩ := (hf 5 (Nat.le_of_ble_eq_true rfl)).1
  obtain ⟨rfl, rfl⟩ := List.cons.inj ht
  replace H5 : uu 5 = .pointer (some ⟨ss 5, 0, none⟩) := H5; replace G5 : Blk w4 (ss 5) 27 #[.bool false, .bool false] := G5; replace L5 : ee 5 = ss 5 + 1 := L5
  have bb5 : w3.heap.size ≤ ss 5 ∧ ss 5 ≤ ee 5 ∧ ee 5 ≤ w4.heap.size := (hf 5 (Nat.le_of_ble_eq_true rfl)).2
  simp only [List.length_cons, List.length_nil, Nat.zero_add, Nat.reduceAdd, List.drop_succ_cons, List.drop_zero, putAll, List.getElem?_cons_succ, List.getElem?_cons_zero, Option.bind_some, H0, H1, H2, H3, H4, H5]
  clear hf hdis hor hz H0 H1 H2 H3 H4 H5
  generalize ss 5 = lo5_w4, ee 5 = hi5_w4 at G5 L5 bb5 ⊢
  replace e0_0 := cellB e0_0 hb
  replace e0_1 := cellB e0_1 hb
  replace e1_0 := cellB e1_0 hb
  replace e1_1 := cellB e1_1 hb
  replace ew0_0 := cellB ew0_0 hb
  replace ew0_1 := cellB ew0_1 hb
  replace B := bel2 B hb
  have zw4 := hb.size
  clear hb
  have gf5 := G5.frozen; have gl5 := G5.lt
  have gc5_0 := G5.cell 0
  have gc5_1 := G5.cell 1
  simp at gc5_0 gc5_1
  have ne5_e0_0 : ¬ lo5_w4 = w.heap.size := by omega
  have ne5_e0_1 : ¬ lo5_w4 = w.heap.size := by omega
  have ne5_e1_0 : ¬ lo5_w4 = w.heap.size + 1 := by omega
  have ne5_e1_1 : ¬ lo5_w4 = w.heap.size + 1 := by omega
  have ne5_ew0_0 : ¬ lo5_w4 = lo5_w2 := by omega
  have ne5_ew0_1 : ¬ lo5_w4 = lo5_w2 := by omega
  go_wp2_with fail
  refine absW ?_
  intro w5 hw
  replace e0_0 : w5.cell? ⟨w.heap.size, 0, none⟩ = some (.bool a0_0) := by rw [hw]; exact cellS (cellS (e0_0) (by omega)) (by omega)
  replace e0_1 : w5.cell? ⟨w.heap.size, 1, none⟩ = some (.bool a0_1) := by rw [hw]; exact cellS (cellS (e0_1) (by omega)) (by omega)
  replace e1_0 : w5.cell? ⟨w.heap.size + 1, 0, none⟩ = some (.bool a1_0) := by rw [hw]; exact cellS (cellS (e1_0) (by omega)) (by omega)
  replace e1_1 : w5.cell? ⟨w.heap.size + 1, 1, none⟩ = some (.bool a1_1) := by rw [hw]; exact cellS (cellS (e1_1) (by omega)) (by omega)
  replace ew0_0 : w5.cell? ⟨lo5_w2, 0, none⟩ = some (.bool (joinQ (a0_0, a0_1) (a1_0, a1_1)).1) := by rw [hw]; exact cellS (cellS (ew0_0) (by omega)) (by omega)
  replace ew0_1 : w5.cell? ⟨lo5_w2, 1, none⟩ = some (.bool (joinQ (a0_0, a0_1) (a1_0, a1_1)).2) := by rw [hw]; exact cellS (cellS (ew0_1) (by omega)) (by omega)
  have GG := ((G5.set_ 0 (.bool (joinQ (a0_0, a0_1) (a1_0, a1_1)).1)).set_ 1 (.bool (joinQ (a0_0, a0_1) (a1_0, a1_1)).2))
  rw [← hw] at GG
  have eg0_0 : w5.cell? ⟨lo5_w4, 0, none⟩ = some (.bool (joinQ (a0_0, a0_1) (a1_0, a1_1)).1) := GG.cell 0
  have eg0_1 : w5.cell? ⟨lo5_w4, 1, none⟩ = some (.bool (joinQ (a0_0, a0_1) (a1_0, a1_1)).2) := GG.cell 1
  clear GG
  have zzw5 : w5.heap.size = w4.heap.size := by rw [hw]; simp
  replace B : Below w.heap.size w w5 := by rw [hw]; exact ((B).setCell (by show w.heap.size ≤ lo5_w4; omega) _).setCell (by show w.heap.size ≤ lo5_w4; omega) _
  clear hw
  refine (eqSignal _).mono ?_
  rintro e w6 ⟨rfl, hb⟩
  replace e0_0 := cellB e0_0 hb
  replace e0_1 := cellB e0_1 hb
  replace e1_0 := cellB e1_0 hb
  replace e1_1 := cellB e1_1 hb
  replace ew0_0 := cellB ew0_0 hb
  replace ew0_1 := cellB ew0_1 hb
  replace eg0_0 := cellB eg0_0 hb
  replace eg0_1 := cellB eg0_1 hb
  replace B := bel2 B hb
  have zw6 := hb.size
  clear hb
  go_wp2
  go_ret
  exact ⟨rfl, bel2 B (by repeat' (first | assumption | exact Below.refl _ _ | refine Below.drew ?_ | refine Below.alloc ?_ (by first | omega | (simp; done) | (simp; omega)) _))⟩
end Go.Proofs.Ytjokokdmdgbocaa
