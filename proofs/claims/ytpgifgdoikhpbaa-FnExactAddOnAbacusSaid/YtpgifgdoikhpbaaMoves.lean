/- Slices of BeadMove: size, copy, equality. No condition. -/
import Derived.Test.YtpgifgdoikhpbaaRows
import Derived.Test.YtpgifgdoikhpbaaWords
namespace Go.Proofs.Ytpgifgdoikhpbaa
open Go.RowKit

theorem infoBeadMove : (Try.prog.info? 41).map (fun i => (i.zero, i.size, i.bytes)) = some (some (.agg #[.int .i64 0, .int .i64 0, .int .i64 0]), 3, 24) := by kernel_rfl

set_option maxHeartbeats 400000 in
theorem szBeadMoveS {A : Option Addr} {n c : Nat} (l : Int) (w : World) (hn : n ≤ maxLen) (h0 : 0 ≤ l) (h1 : l ≤ 1048576) :
    Calls Try.prog 36 #[.slice A n c, .int .i64 l] w fun e w' => e = .returned (.int .i64 (szI n l)) ∧ w = w' := by
  unfold maxLen at hn
  by_cases hc : (n : Int) ≤ l
  all_goals
    go_enter Try.func36, Try.ntmps36
    go_wp2
    go_ret
    exact ⟨ret_n (by unfold szI; split <;> omega), rfl⟩

set_option maxHeartbeats 400000 in
theorem toBeadMove {a0 : Int} {a1 : Int} {a2 : Int} (w : World) :
    Calls Try.prog 26 #[.agg #[.int .i64 a0, .int .i64 a1, .int .i64 a2]] w fun e w' => e = .returned (.agg #[.int .i64 a0, .int .i64 a1, .int .i64 a2]) ∧ Below w.heap.size w w' := by
  go_enter Try.func26, Try.ntmps26
  go_wp2
  exact bodyPost_ret (v := .agg #[.int .i64 a0, .int .i64 a1, .int .i64 a2]) (by simp [results, Try.results26, go_sem]) rfl ⟨rfl, (by repeat' (first | assumption | exact Below.refl _ _ | refine Below.drew ?_ | refine Below.alloc ?_ (by first | omega | (simp; done) | (simp; omega)) _ | refine Below.setCell ?_ (by first | omega | (simp; done) | (simp; omega)) _))⟩

set_option maxHeartbeats 400000 in
theorem eqBeadMove {a0 : Int} {a1 : Int} {a2 : Int} (w : World) :
    Calls Try.prog 72 #[.agg #[.int .i64 a0, .int .i64 a1, .int .i64 a2], .agg #[.int .i64 a0, .int .i64 a1, .int .i64 a2]] w fun e w' => e = .returned (.bool true) ∧ Below w.heap.size w w' := by
  go_enter Try.func72, Try.ntmps72
  go_wp2
  go_ret
  exact ⟨rfl, (by repeat' (first | assumption | exact Below.refl _ _ | refine Below.drew ?_ | refine Below.alloc ?_ (by first | omega | (simp; done) | (simp; omega)) _ | refine Below.setCell ?_ (by first | omega | (simp; done) | (simp; omega)) _))⟩

set_option maxHeartbeats 1600000 in
theorem toBeadMoveS {A : Option Addr} {n c : Nat} {xs : List (Int × Int × Int)} (w : World) (h : Reads w w.heap.size 3 A n (flat encTrip xs)) (hl : xs.length = n) (hm : n ≤ 1048576) :
    Calls Try.prog 38 #[.slice A n c] w (RetOwn w 41 3 n (flat encTrip xs)) := by
  obtain ⟨i0, hi, hz0, hz1, hz2⟩ := info_parts infoBeadMove
  have hmk := fun W => run_make_rowN (P := Try.prog) 52 41 i0 _ Try.underlying52 hi hz0 .i64 .i64 n n (Nat.le_refl _) (by rw [hz2]; omega) (by omega) W
  have HL := Lib.hid hl; clear hl
  have hfill : Fill (w.alloc (.cells (madeCells (Value.agg #[.int .i64 0, .int .i64 0, .int .i64 0]).cells (n * i0.size)) 41)) w.heap.size 41 (n * 3) (flat encTrip xs) (0 * 3) :=
    Fill.new (by rw [size_madeCells, hz1]) (by rw [flat_length encTrip_length, HL.out])
  have HF := Lib.hid hfill; clear hfill
  have HZ := Lib.hid hz1; have HZ2 := Lib.hid hz2; clear hz1 hz2
  go_enter Try.func38, Try.ntmps38
  go_wp2
  clear hmk
  go_loopw [4] (fun i wr => ∃ j : Nat, j ≤ n ∧ i = .int .i64 j ∧ Fill wr w.heap.size 41 (n * 3) (flat encTrip xs) (j * 3) ∧ Below w.heap.size w wr) (fun i _ => n - (intOf i).toNat)
  case atStart => exact ⟨0, Nat.zero_le _, rfl, HF.out, (Below.refl _ _).alloc (Nat.le_refl _) _⟩
  case round =>
    obtain ⟨j, hj, rfl, hf, hb⟩ := hrel
    by_cases hlt : j < n
    · obtain ⟨bk, off, q, rfl, had, hq, hc⟩ := (h.below hb).row_at encTrip_length (by decide) HL.out hlt
      have HQ := Lib.hid hq; clear hq
      have c0 := hc 0 _ rfl
      have c1 := hc 1 _ rfl
      have c2 := hc 2 _ rfl
      simp only [Nat.add_zero] at c0
      clear hc
      go_wp2_with fail
      refine (toBeadMove _).mono ?_
      rintro e w1 ⟨rfl, hb1⟩
      replace hf := hf.bel hb1
      replace hb := bel2 hb hb1
      clear hb1 c0 c1 c2
      obtain ⟨v0, hv0⟩ := hf.cell (show j * 3 + 0 < n * 3 by omega)
      obtain ⟨v1, hv1⟩ := hf.cell (show j * 3 + 1 < n * 3 by omega)
      obtain ⟨v2, hv2⟩ := hf.cell (show j * 3 + 2 < n * 3 by omega)
      simp only [Nat.add_zero] at hv0
      have hfz := hf.frozen
      go_wp2
      go_roundw
      case rel => exact ⟨j + 1, by omega, by go_num, by have := (((hf.set_ (u := .int .i64 (q.1)) (by have := flat_get encTrip_length xs j 0 (by decide); simp only [Nat.add_zero] at this; rw [this]; simp [HQ.out, encTrip])).set_ (u := .int .i64 (q.2.1)) (by rw [flat_get encTrip_length _ _ 1 (by decide)]; simp [HQ.out, encTrip])).set_ (u := .int .i64 (q.2.2)) (by rw [flat_get encTrip_length _ _ 2 (by decide)]; simp [HQ.out, encTrip])); rwa [show j * 3 + 3 = (j + 1) * 3 by omega] at this, (((hb.setCell (Nat.le_refl _) _).setCell (Nat.le_refl _) _).setCell (Nat.le_refl _) _)⟩
      case measure => simp [intOf]; omega
    · obtain rfl : j = n := by omega
      go_wp2
      go_ret
      exact ⟨_, rfl, ((Fill.done hf (by unfold maxLen; omega)).more (Nat.le_refl _) (by have := hf.lt; omega)), hb⟩

set_option maxHeartbeats 1600000 in
theorem eqBeadMoveS {A A' : Option Addr} {n c c' : Nat} {xs : List (Int × Int × Int)} (w : World) (h : Reads w w.heap.size 3 A n (flat encTrip xs)) (h' : Reads w w.heap.size 3 A' n (flat encTrip xs)) (hl : xs.length = n) (hm : n ≤ maxLen) :
    Calls Try.prog 40 #[.slice A n c, .slice A' n c'] w fun e w' => e = .returned (.bool true) ∧ Below w.heap.size w w' := by
  unfold maxLen at hm
  have HL := Lib.hid hl; clear hl
  go_enter Try.func40, Try.ntmps40
  go_wp2
  go_loopw [5] (fun i wr => ∃ j : Nat, j ≤ n ∧ i = .int .i64 j ∧ Below w.heap.size w wr) (fun i _ => n - (intOf i).toNat)
  case atStart => exact ⟨0, Nat.zero_le _, rfl, Below.refl _ _⟩
  case round =>
    obtain ⟨j, hj, rfl, hb⟩ := hrel
    by_cases hlt : j < n
    · obtain ⟨b1, o1, q, rfl, _, hq, hc⟩ := (rdB h hb).row_at encTrip_length (by decide) HL.out hlt
      obtain ⟨b2, o2, q', rfl, _, hq', hd⟩ := (rdB h' hb).row_at encTrip_length (by decide) HL.out hlt
      rw [hq] at hq'
      obtain rfl := Option.some.inj hq'
      clear hq hq'
      have c0 := hc 0 _ rfl; have d0 := hd 0 _ rfl
      have c1 := hc 1 _ rfl; have d1 := hd 1 _ rfl
      have c2 := hc 2 _ rfl; have d2 := hd 2 _ rfl
      simp only [Nat.add_zero] at c0 d0
      clear hc hd
      have ki0 : (0 : Int) ≤ (j : Int) := Int.natCast_nonneg _
      have ki1 : (j : Int) < (n : Int) := by omega
      go_wp2_with fail
      go_region_held3 (fun w' => w'.cell? ⟨b1, o1 + j * 3, none⟩ = some (.int .i64 (q.1)) ∧ w'.cell? ⟨b1, o1 + j * 3 + 1, none⟩ = some (.int .i64 (q.2.1)) ∧ w'.cell? ⟨b1, o1 + j * 3 + 2, none⟩ = some (.int .i64 (q.2.2)) ∧ w'.cell? ⟨b2, o2 + j * 3, none⟩ = some (.int .i64 (q.1)) ∧ w'.cell? ⟨b2, o2 + j * 3 + 1, none⟩ = some (.int .i64 (q.2.1)) ∧ w'.cell? ⟨b2, o2 + j * 3 + 2, none⟩ = some (.int .i64 (q.2.2)) ∧ Below wr.heap.size wr w')
        ((go_split_ands; and_intros <;> (first | assumption | exact cellB (by assumption) hbx | exact bel2 (by assumption) hbx | exact (Below.refl _ _).drew)))
        (first
          | (go_at_call 72; (first | refine (eqBeadMove _).mono ?_); rintro e w' ⟨rfl, hbx⟩))
      have hb2 : Below wr.heap.size wr w' := by go_split_ands; assumption
      replace hb := bel2 hb hb2
      clear hb2 c0 d0 c1 d1 c2 d2
      go_wp2
      go_roundw
      case rel => exact ⟨j + 1, by omega, by go_num, hb⟩
      case measure => simp [intOf]; omega
    · obtain rfl : j = n := by omega
      go_wp2
      go_ret
      exact ⟨rfl, hb⟩

theorem marksBeadMove {k : Int} {i : Nat} {xs : List Value} (hi : i < xs.length) : (((marksI k i).map (Value.int .i64)) ++ xs.drop i).set i (.int .i64 (k + i)) = ((marksI k (i + 1)).map (Value.int .i64)) ++ xs.drop (i + 1) := by
  rw [set_mid (by simp [marksI_length]) hi, marksI_succ]
  simp
set_option maxHeartbeats 1600000 in
theorem markBeadMoveS {A : Option Addr} {n c lo hi : Nat} {xs : List Value} (k : Int) (w : World) (h : Own w lo hi 41 3 (.slice A n c) n xs) (hm : n ≤ 1073741824) (h0 : 0 ≤ k) (h1 : k ≤ 1099511627776) :
    Calls Try.prog 41 #[.slice A n c, .int .i64 k] w (Marked w lo hi 41 3 (.slice A n c) n ((marksI k (n * 3)).map (Value.int .i64)) (k + ((n * 3 : Nat) : Int))) := by
  have HL : Hid (xs.length = n * 3) := by have := h.row.1; unfold Hid; omega
  go_enter Try.func41, Try.ntmps41
  go_wp2
  go_loopw [1, 5] (fun m i wr => ∃ j : Nat, j ≤ n ∧ i = .int .i64 j ∧ m = .int .i64 (k + ((j * 3 : Nat) : Int)) ∧ Own wr lo hi 41 3 (.slice A n c) n (((marksI k (j * 3)).map (Value.int .i64)) ++ xs.drop (j * 3)) ∧ Touch lo hi w wr) (fun _ i _ => n - (intOf i).toNat)
  case atStart => exact ⟨0, Nat.zero_le _, rfl, by simp, by simpa [marksI] using h, Touch.of_below _ _ (Below.refl _ _)⟩
  case round =>
    obtain ⟨j, hj, rfl, rfl, ho, ht⟩ := hrel
    by_cases hlt : j < n
    · obtain ⟨g, rfl, hlo, hhi, hgs, hcell, hfz⟩ := ho.at_ (by omega)
      have hlen := ho.row.1
      obtain ⟨u0, hu0⟩ : ∃ u, wr.cell? ⟨g, j * 3, none⟩ = some u := ⟨_, (hcell (j * 3 + 0) (by omega)).trans (List.getElem?_eq_getElem (by rw [hlen]; omega))⟩
      obtain ⟨u1, hu1⟩ : ∃ u, wr.cell? ⟨g, j * 3 + 1, none⟩ = some u := ⟨_, (hcell (j * 3 + 1) (by omega)).trans (List.getElem?_eq_getElem (by rw [hlen]; omega))⟩
      obtain ⟨u2, hu2⟩ : ∃ u, wr.cell? ⟨g, j * 3 + 2, none⟩ = some u := ⟨_, (hcell (j * 3 + 2) (by omega)).trans (List.getElem?_eq_getElem (by rw [hlen]; omega))⟩
      clear hcell hlen
      have e0 : ((j * 3 : Nat) : Int) = (j : Int) * 3 := by simp
      have q0 : k + ((j * 3 : Nat) : Int) = k + (j : Int) * 3 := by omega
      have q1 : k + ((j * 3 + 1 : Nat) : Int) = k + (j : Int) * 3 + 1 := by omega
      have q2 : k + ((j * 3 + 2 : Nat) : Int) = k + (j : Int) * 3 + 1 + 1 := by omega
      have hlx : xs.length = n * 3 := HL.out
      have s0 := ho.stored (j * 3) (.int .i64 (k + ((j * 3 : Nat) : Int)))
      have t0 := ho.stored_touch (j * 3) (.int .i64 (k + ((j * 3 : Nat) : Int)))
      rw [marksBeadMove (by omega)] at s0
      rw [q0] at s0 t0
      have s1 := s0.stored (j * 3 + 1) (.int .i64 (k + ((j * 3 + 1 : Nat) : Int)))
      have t1 := s0.stored_touch (j * 3 + 1) (.int .i64 (k + ((j * 3 + 1 : Nat) : Int)))
      rw [marksBeadMove (by omega)] at s1
      rw [q1] at s1 t1
      have s2 := s1.stored (j * 3 + 2) (.int .i64 (k + ((j * 3 + 2 : Nat) : Int)))
      have t2 := s1.stored_touch (j * 3 + 2) (.int .i64 (k + ((j * 3 + 2 : Nat) : Int)))
      rw [marksBeadMove (by omega)] at s2
      rw [q2] at s2 t2
      have HS := Lib.hid s2; have HT := Lib.hid (((ht.trans t0).trans t1).trans t2)
      clear s0 t0 q0 s1 t1 q1 s2 t2 q2 hlx
      go_wp2
      go_roundw
      case rel => exact ⟨j + 1, by omega, by go_num, by simp; omega, by rw [show (j + 1) * 3 = j * 3 + 3 by omega]; exact HS.out, HT.out⟩
      case measure => simp [intOf]; omega
    · obtain rfl : j = n := by omega
      go_wp2
      go_ret
      exact ⟨rfl, by rwa [List.drop_of_length_le (by rw [HL.out]; exact Nat.le_refl _), List.append_nil] at ho, ht⟩

set_option maxHeartbeats 1600000 in
theorem heldBeadMoveS {A : Option Addr} {n c : Nat} (k : Int) (w : World) (h : Reads w w.heap.size 3 A n ((marksI k (n * 3)).map (Value.int .i64))) (hm : n ≤ 1073741824) (h0 : 0 ≤ k) (h1 : k ≤ 1099511627776) :
    Calls Try.prog 44 #[.slice A n c, .int .i64 k] w fun e w' => e = .returned (.int .i64 (k + ((n * 3 : Nat) : Int))) ∧ w = w' := by
  go_enter Try.func44, Try.ntmps44
  go_wp2
  go_loop [1, 5] (fun m i => ∃ j : Nat, j ≤ n ∧ i = .int .i64 j ∧ m = .int .i64 (k + ((j * 3 : Nat) : Int))) (fun _ i => n - (intOf i).toNat)
  case atStart => exact ⟨0, Nat.zero_le _, rfl, by simp⟩
  case round =>
    obtain ⟨j, hj, rfl, rfl⟩ := hrel
    by_cases hlt : j < n
    · obtain ⟨b, off, rfl, _, hc⟩ := h.lits (by decide) (by omega)
      have c0 := hc (j * 3 + 0) (.int .i64 (k + ((j * 3 + 0 : Nat) : Int))) (by rw [List.getElem?_map, marksI_at (by omega)]; rfl)
      have c1 := hc (j * 3 + 1) (.int .i64 (k + ((j * 3 + 1 : Nat) : Int))) (by rw [List.getElem?_map, marksI_at (by omega)]; rfl)
      have c2 := hc (j * 3 + 2) (.int .i64 (k + ((j * 3 + 2 : Nat) : Int))) (by rw [List.getElem?_map, marksI_at (by omega)]; rfl)
      rw [show off + (j * 3 + 0) = off + j * 3 by omega, show k + ((j * 3 + 0 : Nat) : Int) = k + (j : Int) * 3 by omega] at c0
      rw [show off + (j * 3 + 1) = off + j * 3 + 1 by omega, show k + ((j * 3 + 1 : Nat) : Int) = k + (j : Int) * 3 + 1 by omega] at c1
      rw [show off + (j * 3 + 2) = off + j * 3 + 2 by omega, show k + ((j * 3 + 2 : Nat) : Int) = k + (j : Int) * 3 + 1 + 1 by omega] at c2
      clear hc
      have e0 : ((j * 3 : Nat) : Int) = (j : Int) * 3 := by simp
      go_wp2
      go_round
      case rel => exact ⟨j + 1, by omega, by go_num, by simp; omega⟩
      case measure => simp [intOf]; omega
    · obtain rfl : j = n := by omega
      go_wp2
      go_ret
      exact ⟨rfl, rfl⟩
end Go.Proofs.Ytpgifgdoikhpbaa
