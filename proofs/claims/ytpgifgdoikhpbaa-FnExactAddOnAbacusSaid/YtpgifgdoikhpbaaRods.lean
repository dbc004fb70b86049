/- Slices of Rod: size, copy, equality. No condition. -/
import Derived.Test.YtpgifgdoikhpbaaRows
import Derived.Test.YtpgifgdoikhpbaaWords
namespace Go.Proofs.Ytpgifgdoikhpbaa
open Go.RowKit

theorem infoRod : (Try.prog.info? 69).map (fun i => (i.zero, i.size, i.bytes)) = some (some (.agg #[.int .i64 0, .int .i64 0]), 2, 16) := by kernel_rfl

set_option maxHeartbeats 400000 in
theorem szRodS {A : Option Addr} {n c : Nat} (l : Int) (w : World) (hn : n ≤ maxLen) (h0 : 0 ≤ l) (h1 : l ≤ 1048576) :
    Calls Try.prog 50 #[.slice A n c, .int .i64 l] w fun e w' => e = .returned (.int .i64 (szI n l)) ∧ w = w' := by
  unfold maxLen at hn
  by_cases hc : (n : Int) ≤ l
  all_goals
    go_enter Try.func50, Try.ntmps50
    go_wp2
    go_ret
    exact ⟨ret_n (by unfold szI; split <;> omega), rfl⟩

set_option maxHeartbeats 400000 in
theorem toRod {a0 : Int} {a1 : Int} (w : World) :
    Calls Try.prog 80 #[.agg #[.int .i64 a0, .int .i64 a1]] w fun e w' => e = .returned (.agg #[.int .i64 a0, .int .i64 a1]) ∧ Below w.heap.size w w' := by
  go_enter Try.func80, Try.ntmps80
  go_wp2
  exact bodyPost_ret (v := .agg #[.int .i64 a0, .int .i64 a1]) (by simp [results, Try.results80, go_sem]) rfl ⟨rfl, (by repeat' (first | assumption | exact Below.refl _ _ | refine Below.drew ?_ | refine Below.alloc ?_ (by first | omega | (simp; done) | (simp; omega)) _ | refine Below.setCell ?_ (by first | omega | (simp; done) | (simp; omega)) _))⟩

set_option maxHeartbeats 400000 in
theorem eqRod {a0 : Int} {a1 : Int} (w : World) :
    Calls Try.prog 81 #[.agg #[.int .i64 a0, .int .i64 a1], .agg #[.int .i64 a0, .int .i64 a1]] w fun e w' => e = .returned (.bool true) ∧ Below w.heap.size w w' := by
  go_enter Try.func81, Try.ntmps81
  go_wp2
  go_ret
  exact ⟨rfl, (by repeat' (first | assumption | exact Below.refl _ _ | refine Below.drew ?_ | refine Below.alloc ?_ (by first | omega | (simp; done) | (simp; omega)) _ | refine Below.setCell ?_ (by first | omega | (simp; done) | (simp; omega)) _))⟩

set_option maxHeartbeats 1600000 in
theorem toRodS {A : Option Addr} {n c : Nat} {xs : List (Int × Int)} (w : World) (h : Reads w w.heap.size 2 A n (flat encPair xs)) (hl : xs.length = n) (hm : n ≤ 1048576) :
    Calls Try.prog 52 #[.slice A n c] w (RetOwn w 69 2 n (flat encPair xs)) := by
  obtain ⟨i0, hi, hz0, hz1, hz2⟩ := info_parts infoRod
  have hmk := fun W => run_make_rowN (P := Try.prog) 27 69 i0 _ Try.underlying27 hi hz0 .i64 .i64 n n (Nat.le_refl _) (by rw [hz2]; omega) (by omega) W
  have HL := Lib.hid hl; clear hl
  have hfill : Fill (w.alloc (.cells (madeCells (Value.agg #[.int .i64 0, .int .i64 0]).cells (n * i0.size)) 69)) w.heap.size 69 (n * 2) (flat encPair xs) (0 * 2) :=
    Fill.new (by rw [size_madeCells, hz1]) (by rw [flat_length encPair_length, HL.out])
  have HF := Lib.hid hfill; clear hfill
  have HZ := Lib.hid hz1; have HZ2 := Lib.hid hz2; clear hz1 hz2
  go_enter Try.func52, Try.ntmps52
  go_wp2
  clear hmk
  go_loopw [4] (fun i wr => ∃ j : Nat, j ≤ n ∧ i = .int .i64 j ∧ Fill wr w.heap.size 69 (n * 2) (flat encPair xs) (j * 2) ∧ Below w.heap.size w wr) (fun i _ => n - (intOf i).toNat)
  case atStart => exact ⟨0, Nat.zero_le _, rfl, HF.out, (Below.refl _ _).alloc (Nat.le_refl _) _⟩
  case round =>
    obtain ⟨j, hj, rfl, hf, hb⟩ := hrel
    by_cases hlt : j < n
    · obtain ⟨bk, off, q, rfl, had, hq, hc⟩ := (h.below hb).row_at encPair_length (by decide) HL.out hlt
      have HQ := Lib.hid hq; clear hq
      have c0 := hc 0 _ rfl
      have c1 := hc 1 _ rfl
      simp only [Nat.add_zero] at c0
      clear hc
      go_wp2_with fail
      refine (toRod _).mono ?_
      rintro e w1 ⟨rfl, hb1⟩
      replace hf := hf.bel hb1
      replace hb := bel2 hb hb1
      clear hb1 c0 c1
      obtain ⟨v0, hv0⟩ := hf.cell (show j * 2 + 0 < n * 2 by omega)
      obtain ⟨v1, hv1⟩ := hf.cell (show j * 2 + 1 < n * 2 by omega)
      simp only [Nat.add_zero] at hv0
      have hfz := hf.frozen
      go_wp2
      go_roundw
      case rel => exact ⟨j + 1, by omega, by go_num, by have := ((hf.set_ (u := .int .i64 (q.1)) (by have := flat_get encPair_length xs j 0 (by decide); simp only [Nat.add_zero] at this; rw [this]; simp [HQ.out, encPair])).set_ (u := .int .i64 (q.2)) (by rw [flat_get encPair_length _ _ 1 (by decide)]; simp [HQ.out, encPair])); rwa [show j * 2 + 2 = (j + 1) * 2 by omega] at this, ((hb.setCell (Nat.le_refl _) _).setCell (Nat.le_refl _) _)⟩
      case measure => simp [intOf]; omega
    · obtain rfl : j = n := by omega
      go_wp2
      go_ret
      exact ⟨_, rfl, ((Fill.done hf (by unfold maxLen; omega)).more (Nat.le_refl _) (by have := hf.lt; omega)), hb⟩

set_option maxHeartbeats 1600000 in
theorem eqRodS {A A' : Option Addr} {n c c' : Nat} {xs : List (Int × Int)} (w : World) (h : Reads w w.heap.size 2 A n (flat encPair xs)) (h' : Reads w w.heap.size 2 A' n (flat encPair xs)) (hl : xs.length = n) (hm : n ≤ maxLen) :
    Calls Try.prog 54 #[.slice A n c, .slice A' n c'] w fun e w' => e = .returned (.bool true) ∧ Below w.heap.size w w' := by
  unfold maxLen at hm
  have HL := Lib.hid hl; clear hl
  go_enter Try.func54, Try.ntmps54
  go_wp2
  go_loopw [5] (fun i wr => ∃ j : Nat, j ≤ n ∧ i = .int .i64 j ∧ Below w.heap.size w wr) (fun i _ => n - (intOf i).toNat)
  case atStart => exact ⟨0, Nat.zero_le _, rfl, Below.refl _ _⟩
  case round =>
    obtain ⟨j, hj, rfl, hb⟩ := hrel
    by_cases hlt : j < n
    · obtain ⟨b1, o1, q, rfl, _, hq, hc⟩ := (rdB h hb).row_at encPair_length (by decide) HL.out hlt
      obtain ⟨b2, o2, q', rfl, _, hq', hd⟩ := (rdB h' hb).row_at encPair_length (by decide) HL.out hlt
      rw [hq] at hq'
      obtain rfl := Option.some.inj hq'
      clear hq hq'
      have c0 := hc 0 _ rfl; have d0 := hd 0 _ rfl
      have c1 := hc 1 _ rfl; have d1 := hd 1 _ rfl
      simp only [Nat.add_zero] at c0 d0
      clear hc hd
      have ki0 : (0 : Int) ≤ (j : Int) := Int.natCast_nonneg _
      have ki1 : (j : Int) < (n : Int) := by omega
      go_wp2_with fail
      go_region_held3 (fun w' => w'.cell? ⟨b1, o1 + j * 2, none⟩ = some (.int .i64 (q.1)) ∧ w'.cell? ⟨b1, o1 + j * 2 + 1, none⟩ = some (.int .i64 (q.2)) ∧ w'.cell? ⟨b2, o2 + j * 2, none⟩ = some (.int .i64 (q.1)) ∧ w'.cell? ⟨b2, o2 + j * 2 + 1, none⟩ = some (.int .i64 (q.2)) ∧ Below wr.heap.size wr w')
        ((go_split_ands; and_intros <;> (first | assumption | exact cellB (by assumption) hbx | exact bel2 (by assumption) hbx | exact (Below.refl _ _).drew)))
        (first
          | (go_at_call 81; (first | refine (eqRod _).mono ?_); rintro e w' ⟨rfl, hbx⟩))
      have hb2 : Below wr.heap.size wr w' := by go_split_ands; assumption
      replace hb := bel2 hb hb2
      clear hb2 c0 d0 c1 d1
      go_wp2
      go_roundw
      case rel => exact ⟨j + 1, by omega, by go_num, hb⟩
      case measure => simp [intOf]; omega
    · obtain rfl : j = n := by omega
      go_wp2
      go_ret
      exact ⟨rfl, hb⟩

theorem marksRod {k : Int} {i : Nat} {xs : List Value} (hi : i < xs.length) : (((marksI k i).map (Value.int .i64)) ++ xs.drop i).set i (.int .i64 (k + i)) = ((marksI k (i + 1)).map (Value.int .i64)) ++ xs.drop (i + 1) := by
  rw [set_mid (by simp [marksI_length]) hi, marksI_succ]
  simp
set_option maxHeartbeats 1600000 in
theorem markRodS {A : Option Addr} {n c lo hi : Nat} {xs : List Value} (k : Int) (w : World) (h : Own w lo hi 69 2 (.slice A n c) n xs) (hm : n ≤ 1073741824) (h0 : 0 ≤ k) (h1 : k ≤ 1099511627776) :
    Calls Try.prog 64 #[.slice A n c, .int .i64 k] w (Marked w lo hi 69 2 (.slice A n c) n ((marksI k (n * 2)).map (Value.int .i64)) (k + ((n * 2 : Nat) : Int))) := by
  have HL : Hid (xs.length = n * 2) := by have := h.row.1; unfold Hid; omega
  go_enter Try.func64, Try.ntmps64
  go_wp2
  go_loopw [1, 5] (fun m i wr => ∃ j : Nat, j ≤ n ∧ i = .int .i64 j ∧ m = .int .i64 (k + ((j * 2 : Nat) : Int)) ∧ Own wr lo hi 69 2 (.slice A n c) n (((marksI k (j * 2)).map (Value.int .i64)) ++ xs.drop (j * 2)) ∧ Touch lo hi w wr) (fun _ i _ => n - (intOf i).toNat)
  case atStart => exact ⟨0, Nat.zero_le _, rfl, by simp, by simpa [marksI] using h, Touch.of_below _ _ (Below.refl _ _)⟩
  case round =>
    obtain ⟨j, hj, rfl, rfl, ho, ht⟩ := hrel
    by_cases hlt : j < n
    · obtain ⟨g, rfl, hlo, hhi, hgs, hcell, hfz⟩ := ho.at_ (by omega)
      have hlen := ho.row.1
      obtain ⟨u0, hu0⟩ : ∃ u, wr.cell? ⟨g, j * 2, none⟩ = some u := ⟨_, (hcell (j * 2 + 0) (by omega)).trans (List.getElem?_eq_getElem (by rw [hlen]; omega))⟩
      obtain ⟨u1, hu1⟩ : ∃ u, wr.cell? ⟨g, j * 2 + 1, none⟩ = some u := ⟨_, (hcell (j * 2 + 1) (by omega)).trans (List.getElem?_eq_getElem (by rw [hlen]; omega))⟩
      clear hcell hlen
      have e0 : ((j * 2 : Nat) : Int) = (j : Int) * 2 := by simp
      have q0 : k + ((j * 2 : Nat) : Int) = k + (j : Int) * 2 := by omega
      have q1 : k + ((j * 2 + 1 : Nat) : Int) = k + (j : Int) * 2 + 1 := by omega
      have hlx : xs.length = n * 2 := HL.out
      have s0 := ho.stored (j * 2) (.int .i64 (k + ((j * 2 : Nat) : Int)))
      have t0 := ho.stored_touch (j * 2) (.int .i64 (k + ((j * 2 : Nat) : Int)))
      rw [marksRod (by omega)] at s0
      rw [q0] at s0 t0
      have s1 := s0.stored (j * 2 + 1) (.int .i64 (k + ((j * 2 + 1 : Nat) : Int)))
      have t1 := s0.stored_touch (j * 2 + 1) (.int .i64 (k + ((j * 2 + 1 : Nat) : Int)))
      rw [marksRod (by omega)] at s1
      rw [q1] at s1 t1
      have HS := Lib.hid s1; have HT := Lib.hid ((ht.trans t0).trans t1)
      clear s0 t0 q0 s1 t1 q1 hlx
      go_wp2
      go_roundw
      case rel => exact ⟨j + 1, by omega, by go_num, by simp; omega, by rw [show (j + 1) * 2 = j * 2 + 2 by omega]; exact HS.out, HT.out⟩
      case measure => simp [intOf]; omega
    · obtain rfl : j = n := by omega
      go_wp2
      go_ret
      exact ⟨rfl, by rwa [List.drop_of_length_le (by rw [HL.out]; exact Nat.le_refl _), List.append_nil] at ho, ht⟩

set_option maxHeartbeats 1600000 in
theorem heldRodS {A : Option Addr} {n c : Nat} (k : Int) (w : World) (h : Reads w w.heap.size 2 A n ((marksI k (n * 2)).map (Value.int .i64))) (hm : n ≤ 1073741824) (h0 : 0 ≤ k) (h1 : k ≤ 1099511627776) :
    Calls Try.prog 65 #[.slice A n c, .int .i64 k] w fun e w' => e = .returned (.int .i64 (k + ((n * 2 : Nat) : Int))) ∧ w = w' := by
  go_enter Try.func65, Try.ntmps65
  go_wp2
  go_loop [1, 5] (fun m i => ∃ j : Nat, j ≤ n ∧ i = .int .i64 j ∧ m = .int .i64 (k + ((j * 2 : Nat) : Int))) (fun _ i => n - (intOf i).toNat)
  case atStart => exact ⟨0, Nat.zero_le _, rfl, by simp⟩
  case round =>
    obtain ⟨j, hj, rfl, rfl⟩ := hrel
    by_cases hlt : j < n
    · obtain ⟨b, off, rfl, _, hc⟩ := h.lits (by decide) (by omega)
      have c0 := hc (j * 2 + 0) (.int .i64 (k + ((j * 2 + 0 : Nat) : Int))) (by rw [List.getElem?_map, marksI_at (by omega)]; rfl)
      have c1 := hc (j * 2 + 1) (.int .i64 (k + ((j * 2 + 1 : Nat) : Int))) (by rw [List.getElem?_map, marksI_at (by omega)]; rfl)
      rw [show off + (j * 2 + 0) = off + j * 2 by omega, show k + ((j * 2 + 0 : Nat) : Int) = k + (j : Int) * 2 by omega] at c0
      rw [show off + (j * 2 + 1) = off + j * 2 + 1 by omega, show k + ((j * 2 + 1 : Nat) : Int) = k + (j : Int) * 2 + 1 by omega] at c1
      clear hc
      have e0 : ((j * 2 : Nat) : Int) = (j : Int) * 2 := by simp
      go_wp2
      go_round
      case rel => exact ⟨j + 1, by omega, by go_num, by simp; omega⟩
      case measure => simp [intOf]; omega
    · obtain rfl : j = n := by omega
      go_wp2
      go_ret
      exact ⟨rfl, rfl⟩
end Go.Proofs.Ytpgifgdoikhpbaa
