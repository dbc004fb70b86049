/- Slices of LeverFault: size, copy, equality. No condition. -/
import Derived.Test.YthpaampkpajdfaaRows
import Derived.Test.YthpaampkpajdfaaWords
namespace Go.Proofs.Ythpaampkpajdfaa
open Go.RowKit

theorem infoLeverFault : (Try.prog.info? 106).map (fun i => (i.zero, i.size, i.bytes)) = some (some (.agg #[.int .i64 0, .int .i64 0]), 2, 16) := by kernel_rfl

set_option maxHeartbeats 400000 in
theorem szLeverFaultS {A : Option Addr} {n c : Nat} (l : Int) (w : World) (hn : n ≤ maxLen) (h0 : 0 ≤ l) (h1 : l ≤ 1048576) :
    Calls Try.prog 51 #[.slice A n c, .int .i64 l] w fun e w' => e = .returned (.int .i64 (szI n l)) ∧ w = w' := by
  unfold maxLen at hn
  by_cases hc : (n : Int) ≤ l
  all_goals
    go_enter Try.func51, Try.ntmps51
    go_wp2
    go_ret
    exact ⟨ret_n (by unfold szI; split <;> omega), rfl⟩

set_option maxHeartbeats 400000 in
theorem toLeverFault {a0 : Int} {a1 : Int} (w : World) :
    Calls Try.prog 89 #[.agg #[.int .i64 a0, .int .i64 a1]] w fun e w' => e = .returned (.agg #[.int .i64 a0, .int .i64 a1]) ∧ Below w.heap.size w w' := by
  go_enter Try.func89, Try.ntmps89
  go_wp2
  exact bodyPost_ret (v := .agg #[.int .i64 a0, .int .i64 a1]) (by simp [results, Try.results89, go_sem]) rfl ⟨rfl, (by repeat' (first | assumption | exact Below.refl _ _ | refine Below.drew ?_ | refine Below.alloc ?_ (by first | omega | (simp; done) | (simp; omega)) _ | refine Below.setCell ?_ (by first | omega | (simp; done) | (simp; omega)) _))⟩

set_option maxHeartbeats 400000 in
theorem eqLeverFault {a0 : Int} {a1 : Int} (w : World) :
    Calls Try.prog 91 #[.agg #[.int .i64 a0, .int .i64 a1], .agg #[.int .i64 a0, .int .i64 a1]] w fun e w' => e = .returned (.bool true) ∧ Below w.heap.size w w' := by
  go_enter Try.func91, Try.ntmps91
  go_wp2
  go_ret
  exact ⟨rfl, (by repeat' (first | assumption | exact Below.refl _ _ | refine Below.drew ?_ | refine Below.alloc ?_ (by first | omega | (simp; done) | (simp; omega)) _ | refine Below.setCell ?_ (by first | omega | (simp; done) | (simp; omega)) _))⟩

set_option maxHeartbeats 1600000 in
theorem toLeverFaultS {A : Option Addr} {n c : Nat} {xs : List (Int × Int)} (w : World) (h : Reads w w.heap.size 2 A n (flat encPair xs)) (hl : xs.length = n) (hm : n ≤ 1048576) :
    Calls Try.prog 53 #[.slice A n c] w (RetOwn w 106 2 n (flat encPair xs)) := by
  obtain ⟨i0, hi, hz0, hz1, hz2⟩ := info_parts infoLeverFault
  have hmk := fun W => run_make_rowN (P := Try.prog) 70 106 i0 _ Try.underlying70 hi hz0 .i64 .i64 n n (Nat.le_refl _) (by rw [hz2]; omega) (by omega) W
  have HL := Lib.hid hl; clear hl
  have hfill : Fill (w.alloc (.cells (madeCells (Value.agg #[.int .i64 0, .int .i64 0]).cells (n * i0.size)) 106)) w.heap.size 106 (n * 2) (flat encPair xs) (0 * 2) :=
    Fill.new (by rw [size_madeCells, hz1]) (by rw [flat_length encPair_length, HL.out])
  have HF := Lib.hid hfill; clear hfill
  have HZ := Lib.hid hz1; have HZ2 := Lib.hid hz2; clear hz1 hz2
  go_enter Try.func53, Try.ntmps53
  go_wp2
  clear hmk
  go_loopw [4] (fun i wr => ∃ j : Nat, j ≤ n ∧ i = .int .i64 j ∧ Fill wr w.heap.size 106 (n * 2) (flat encPair xs) (j * 2) ∧ Below w.heap.size w wr) (fun i _ => n - (intOf i).toNat)
  case atStart => exact ⟨0, Nat.zero_le _, rfl, HF.out, (Below.refl _ _).alloc (Nat.le_refl _) _⟩
  case round =>
    obtain ⟨j, hj, rfl, hf, hb⟩ := hrel
    by_cases hlt : j < n
    · obtain ⟨bk, off, q, rfl, had, hq, hc⟩ := (h.below hb).row_at encPair_length (by decide) HL.out hlt
      have HQ := Lib.hid hq; clear hq
      have c0 := hc 0 _ rfl
      have c1 := hc 1 _ rfl
      simp only [Nat.add_zero] at c0
      clear hc
      go_wp2_with fail
      refine (toLeverFault _).mono ?_
      rintro e w1 ⟨rfl, hb1⟩
      replace hf := hf.bel hb1
      replace hb := bel2 hb hb1
      clear hb1 c0 c1
      obtain ⟨v0, hv0⟩ := hf.cell (show j * 2 + 0 < n * 2 by omega)
      obtain ⟨v1, hv1⟩ := hf.cell (show j * 2 + 1 < n * 2 by omega)
      simp only [Nat.add_zero] at hv0
      have hfz := hf.frozen
      go_wp2
      go_roundw
      case rel => exact ⟨j + 1, by omega, by go_num, by have := ((hf.set_ (u := .int .i64 (q.1)) (by have := flat_get encPair_length xs j 0 (by decide); simp only [Nat.add_zero] at this; rw [this]; simp [HQ.out, encPair])).set_ (u := .int .i64 (q.2)) (by rw [flat_get encPair_length _ _ 1 (by decide)]; simp [HQ.out, encPair])); rwa [show j * 2 + 2 = (j + 1) * 2 by omega] at this, ((hb.setCell (Nat.le_refl _) _).setCell (Nat.le_refl _) _)⟩
      case measure => simp [intOf]; omega
    · obtain rfl : j = n := by omega
      go_wp2
      go_ret
      exact ⟨_, rfl, ((Fill.done hf (by unfold maxLen; omega)).more (Nat.le_refl _) (by have := hf.lt; omega)), hb⟩

set_option maxHeartbeats 1600000 in
theorem eqLeverFaultS {A A' : Option Addr} {n c c' : Nat} {xs : List (Int × Int)} (w : World) (h : Reads w w.heap.size 2 A n (flat encPair xs)) (h' : Reads w w.heap.size 2 A' n (flat encPair xs)) (hl : xs.length = n) (hm : n ≤ maxLen) :
    Calls Try.prog 55 #[.slice A n c, .slice A' n c'] w fun e w' => e = .returned (.bool true) ∧ Below w.heap.size w w' := by
  unfold maxLen at hm
  have HL := Lib.hid hl; clear hl
  go_enter Try.func55, Try.ntmps55
  go_wp2
  go_loopw [5] (fun i wr => ∃ j : Nat, j ≤ n ∧ i = .int .i64 j ∧ Below w.heap.size w wr) (fun i _ => n - (intOf i).toNat)
  case atStart => exact ⟨0, Nat.zero_le _, rfl, Below.refl _ _⟩
  case round =>
    obtain ⟨j, hj, rfl, hb⟩ := hrel
    by_cases hlt : j < n
    · obtain ⟨b1, o1, q, rfl, _, hq, hc⟩ := (rdB h hb).row_at encPair_length (by decide) HL.out hlt
      obtain ⟨b2, o2, q', rfl, _, hq', hd⟩ := (rdB h' hb).row_at encPair_length (by decide) HL.out hlt
      rw [hq] at hq'
      obtain rfl := Option.some.inj hq'
      clear hq hq'
      have c0 := hc 0 _ rfl; have d0 := hd 0 _ rfl
      have c1 := hc 1 _ rfl; have d1 := hd 1 _ rfl
      simp only [Nat.add_zero] at c0 d0
      clear hc hd
      have ki0 : (0 : Int) ≤ (j : Int) := Int.natCast_nonneg _
      have ki1 : (j : Int) < (n : Int) := by omega
      go_wp2_with fail
      go_region_held3 (fun w' => w'.cell? ⟨b1, o1 + j * 2, none⟩ = some (.int .i64 (q.1)) ∧ w'.cell? ⟨b1, o1 + j * 2 + 1, none⟩ = some (.int .i64 (q.2)) ∧ w'.cell? ⟨b2, o2 + j * 2, none⟩ = some (.int .i64 (q.1)) ∧ w'.cell? ⟨b2, o2 + j * 2 + 1, none⟩ = some (.int .i64 (q.2)) ∧ Below wr.heap.size wr w')
        ((go_split_ands; and_intros <;> (first | assumption | exact cellB (by assumption) hbx | exact bel2 (by assumption) hbx | exact (Below.refl _ _).drew)))
        (first
          | (go_at_call 91; (first | refine (eqLeverFault _).mono ?_); rintro e w' ⟨rfl, hbx⟩))
      have hb2 : Below wr.heap.size wr w' := by go_split_ands; assumption
      replace hb := bel2 hb hb2
      clear hb2 c0 d0 c1 d1
      go_wp2
      go_roundw
      case rel => exact ⟨j + 1, by omega, by go_num, hb⟩
      case measure => simp [intOf]; omega
    · obtain rfl : j = n := by omega
      go_wp2
      go_ret
      exact ⟨rfl, hb⟩
end Go.Proofs.Ythpaampkpajdfaa
