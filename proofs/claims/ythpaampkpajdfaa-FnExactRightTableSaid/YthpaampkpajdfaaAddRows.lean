/- Slices of AddRow: size, copy, equality. No condition. -/
import Derived.Test.YthpaampkpajdfaaRows
import Derived.Test.YthpaampkpajdfaaWords
namespace Go.Proofs.Ythpaampkpajdfaa
open Go.RowKit

def encQuin (q : Int × Int × Int × Int × Int) : List Value := [.int .i64 q.1, .int .i64 q.2.1, .int .i64 q.2.2.1, .int .i64 q.2.2.2.1, .int .i64 q.2.2.2.2]
theorem encQuin_length (q : Int × Int × Int × Int × Int) : (encQuin q).length = 5 := rfl
theorem infoAddRow : (Try.prog.info? 114).map (fun i => (i.zero, i.size, i.bytes)) = some (some (.agg #[.int .i64 0, .int .i64 0, .int .i64 0, .int .i64 0, .int .i64 0]), 5, 40) := by kernel_rfl

set_option maxHeartbeats 400000 in
theorem eqAddRow {a0 : Int} {a1 : Int} {a2 : Int} {a3 : Int} {a4 : Int} (w : World) :
    Calls Try.prog 96 #[.agg #[.int .i64 a0, .int .i64 a1, .int .i64 a2, .int .i64 a3, .int .i64 a4], .agg #[.int .i64 a0, .int .i64 a1, .int .i64 a2, .int .i64 a3, .int .i64 a4]] w fun e w' => e = .returned (.bool true) ∧ Below w.heap.size w w' := by
  go_enter Try.func96, Try.ntmps96
  go_wp2
  go_ret
  exact ⟨rfl, (by repeat' (first | assumption | exact Below.refl _ _ | refine Below.drew ?_ | refine Below.alloc ?_ (by first | omega | (simp; done) | (simp; omega)) _ | refine Below.setCell ?_ (by first | omega | (simp; done) | (simp; omega)) _))⟩

set_option maxHeartbeats 1600000 in
theorem eqAddRowS {A A' : Option Addr} {n c c' : Nat} {xs : List (Int × Int × Int × Int × Int)} (w : World) (h : Reads w w.heap.size 5 A n (flat encQuin xs)) (h' : Reads w w.heap.size 5 A' n (flat encQuin xs)) (hl : xs.length = n) (hm : n ≤ maxLen) :
    Calls Try.prog 58 #[.slice A n c, .slice A' n c'] w fun e w' => e = .returned (.bool true) ∧ Below w.heap.size w w' := by
  unfold maxLen at hm
  have HL := Lib.hid hl; clear hl
  go_enter Try.func58, Try.ntmps58
  go_wp2
  go_loopw [5] (fun i wr => ∃ j : Nat, j ≤ n ∧ i = .int .i64 j ∧ Below w.heap.size w wr) (fun i _ => n - (intOf i).toNat)
  case atStart => exact ⟨0, Nat.zero_le _, rfl, Below.refl _ _⟩
  case round =>
    obtain ⟨j, hj, rfl, hb⟩ := hrel
    by_cases hlt : j < n
    · obtain ⟨b1, o1, q, rfl, _, hq, hc⟩ := (rdB h hb).row_at encQuin_length (by decide) HL.out hlt
      obtain ⟨b2, o2, q', rfl, _, hq', hd⟩ := (rdB h' hb).row_at encQuin_length (by decide) HL.out hlt
      rw [hq] at hq'
      obtain rfl := Option.some.inj hq'
      clear hq hq'
      have c0 := hc 0 _ rfl; have d0 := hd 0 _ rfl
      have c1 := hc 1 _ rfl; have d1 := hd 1 _ rfl
      have c2 := hc 2 _ rfl; have d2 := hd 2 _ rfl
      have c3 := hc 3 _ rfl; have d3 := hd 3 _ rfl
      have c4 := hc 4 _ rfl; have d4 := hd 4 _ rfl
      simp only [Nat.add_zero] at c0 d0
      clear hc hd
      have ki0 : (0 : Int) ≤ (j : Int) := Int.natCast_nonneg _
      have ki1 : (j : Int) < (n : Int) := by omega
      go_wp2_with fail
      go_region_held3 (fun w' => w'.cell? ⟨b1, o1 + j * 5, none⟩ = some (.int .i64 (q.1)) ∧ w'.cell? ⟨b1, o1 + j * 5 + 1, none⟩ = some (.int .i64 (q.2.1)) ∧ w'.cell? ⟨b1, o1 + j * 5 + 2, none⟩ = some (.int .i64 (q.2.2.1)) ∧ w'.cell? ⟨b1, o1 + j * 5 + 3, none⟩ = some (.int .i64 (q.2.2.2.1)) ∧ w'.cell? ⟨b1, o1 + j * 5 + 4, none⟩ = some (.int .i64 (q.2.2.2.2)) ∧ w'.cell? ⟨b2, o2 + j * 5, none⟩ = some (.int .i64 (q.1)) ∧ w'.cell? ⟨b2, o2 + j * 5 + 1, none⟩ = some (.int .i64 (q.2.1)) ∧ w'.cell? ⟨b2, o2 + j * 5 + 2, none⟩ = some (.int .i64 (q.2.2.1)) ∧ w'.cell? ⟨b2, o2 + j * 5 + 3, none⟩ = some (.int .i64 (q.2.2.2.1)) ∧ w'.cell? ⟨b2, o2 + j * 5 + 4, none⟩ = some (.int .i64 (q.2.2.2.2)) ∧ Below wr.heap.size wr w')
        ((go_split_ands; and_intros <;> (first | assumption | exact cellB (by assumption) hbx | exact bel2 (by assumption) hbx | exact (Below.refl _ _).drew)))
        (first
          | (go_at_call 96; (first | refine (eqAddRow _).mono ?_); rintro e w' ⟨rfl, hbx⟩))
      have hb2 : Below wr.heap.size wr w' := by go_split_ands; assumption
      replace hb := bel2 hb hb2
      clear hb2 c0 d0 c1 d1 c2 d2 c3 d3 c4 d4
      go_wp2
      go_roundw
      case rel => exact ⟨j + 1, by omega, by go_num, hb⟩
      case measure => simp [intOf]; omega
    · obtain rfl : j = n := by omega
      go_wp2
      go_ret
      exact ⟨rfl, hb⟩

theorem marksAddRow {k : Int} {i : Nat} {xs : List Value} (hi : i < xs.length) : (((marksI k i).map (Value.int .i64)) ++ xs.drop i).set i (.int .i64 (k + i)) = ((marksI k (i + 1)).map (Value.int .i64)) ++ xs.drop (i + 1) := by
  rw [set_mid (by simp [marksI_length]) hi, marksI_succ]
  simp
set_option maxHeartbeats 1600000 in
theorem markAddRowS {A : Option Addr} {n c lo hi : Nat} {xs : List Value} (k : Int) (w : World) (h : Own w lo hi 114 5 (.slice A n c) n xs) (hm : n ≤ 1073741824) (h0 : 0 ≤ k) (h1 : k ≤ 1099511627776) :
    Calls Try.prog 59 #[.slice A n c, .int .i64 k] w (Marked w lo hi 114 5 (.slice A n c) n ((marksI k (n * 5)).map (Value.int .i64)) (k + ((n * 5 : Nat) : Int))) := by
  have HL : Hid (xs.length = n * 5) := by have := h.row.1; unfold Hid; omega
  go_enter Try.func59, Try.ntmps59
  go_wp2
  go_loopw [1, 5] (fun m i wr => ∃ j : Nat, j ≤ n ∧ i = .int .i64 j ∧ m = .int .i64 (k + ((j * 5 : Nat) : Int)) ∧ Own wr lo hi 114 5 (.slice A n c) n (((marksI k (j * 5)).map (Value.int .i64)) ++ xs.drop (j * 5)) ∧ Touch lo hi w wr) (fun _ i _ => n - (intOf i).toNat)
  case atStart => exact ⟨0, Nat.zero_le _, rfl, by simp, by simpa [marksI] using h, Touch.of_below _ _ (Below.refl _ _)⟩
  case round =>
    obtain ⟨j, hj, rfl, rfl, ho, ht⟩ := hrel
    by_cases hlt : j < n
    · obtain ⟨g, rfl, hlo, hhi, hgs, hcell, hfz⟩ := ho.at_ (by omega)
      have hlen := ho.row.1
      obtain ⟨u0, hu0⟩ : ∃ u, wr.cell? ⟨g, j * 5, none⟩ = some u := ⟨_, (hcell (j * 5 + 0) (by omega)).trans (List.getElem?_eq_getElem (by rw [hlen]; omega))⟩
      obtain ⟨u1, hu1⟩ : ∃ u, wr.cell? ⟨g, j * 5 + 1, none⟩ = some u := ⟨_, (hcell (j * 5 + 1) (by omega)).trans (List.getElem?_eq_getElem (by rw [hlen]; omega))⟩
      obtain ⟨u2, hu2⟩ : ∃ u, wr.cell? ⟨g, j * 5 + 2, none⟩ = some u := ⟨_, (hcell (j * 5 + 2) (by omega)).trans (List.getElem?_eq_getElem (by rw [hlen]; omega))⟩
      obtain ⟨u3, hu3⟩ : ∃ u, wr.cell? ⟨g, j * 5 + 3, none⟩ = some u := ⟨_, (hcell (j * 5 + 3) (by omega)).trans (List.getElem?_eq_getElem (by rw [hlen]; omega))⟩
      obtain ⟨u4, hu4⟩ : ∃ u, wr.cell? ⟨g, j * 5 + 4, none⟩ = some u := ⟨_, (hcell (j * 5 + 4) (by omega)).trans (List.getElem?_eq_getElem (by rw [hlen]; omega))⟩
      clear hcell hlen
      have e0 : ((j * 5 : Nat) : Int) = (j : Int) * 5 := by simp
      have q0 : k + ((j * 5 : Nat) : Int) = k + (j : Int) * 5 := by omega
      have q1 : k + ((j * 5 + 1 : Nat) : Int) = k + (j : Int) * 5 + 1 := by omega
      have q2 : k + ((j * 5 + 2 : Nat) : Int) = k + (j : Int) * 5 + 1 + 1 := by omega
      have q3 : k + ((j * 5 + 3 : Nat) : Int) = k + (j : Int) * 5 + 1 + 1 + 1 := by omega
      have q4 : k + ((j * 5 + 4 : Nat) : Int) = k + (j : Int) * 5 + 1 + 1 + 1 + 1 := by omega
      have hlx : xs.length = n * 5 := HL.out
      have s0 := ho.stored (j * 5) (.int .i64 (k + ((j * 5 : Nat) : Int)))
      have t0 := ho.stored_touch (j * 5) (.int .i64 (k + ((j * 5 : Nat) : Int)))
      rw [marksAddRow (by omega)] at s0
      rw [q0] at s0 t0
      have s1 := s0.stored (j * 5 + 1) (.int .i64 (k + ((j * 5 + 1 : Nat) : Int)))
      have t1 := s0.stored_touch (j * 5 + 1) (.int .i64 (k + ((j * 5 + 1 : Nat) : Int)))
      rw [marksAddRow (by omega)] at s1
      rw [q1] at s1 t1
      have s2 := s1.stored (j * 5 + 2) (.int .i64 (k + ((j * 5 + 2 : Nat) : Int)))
      have t2 := s1.stored_touch (j * 5 + 2) (.int .i64 (k + ((j * 5 + 2 : Nat) : Int)))
      rw [marksAddRow (by omega)] at s2
      rw [q2] at s2 t2
      have s3 := s2.stored (j * 5 + 3) (.int .i64 (k + ((j * 5 + 3 : Nat) : Int)))
      have t3 := s2.stored_touch (j * 5 + 3) (.int .i64 (k + ((j * 5 + 3 : Nat) : Int)))
      rw [marksAddRow (by omega)] at s3
      rw [q3] at s3 t3
      have s4 := s3.stored (j * 5 + 4) (.int .i64 (k + ((j * 5 + 4 : Nat) : Int)))
      have t4 := s3.stored_touch (j * 5 + 4) (.int .i64 (k + ((j * 5 + 4 : Nat) : Int)))
      rw [marksAddRow (by omega)] at s4
      rw [q4] at s4 t4
      have HS := Lib.hid s4; have HT := Lib.hid (((((ht.trans t0).trans t1).trans t2).trans t3).trans t4)
      clear s0 t0 q0 s1 t1 q1 s2 t2 q2 s3 t3 q3 s4 t4 q4 hlx
      go_wp2
      go_roundw
      case rel => exact ⟨j + 1, by omega, by go_num, by simp; omega, by rw [show (j + 1) * 5 = j * 5 + 5 by omega]; exact HS.out, HT.out⟩
      case measure => simp [intOf]; omega
    · obtain rfl : j = n := by omega
      go_wp2
      go_ret
      exact ⟨rfl, by rwa [List.drop_of_length_le (by rw [HL.out]; exact Nat.le_refl _), List.append_nil] at ho, ht⟩

set_option maxHeartbeats 1600000 in
theorem heldAddRowS {A : Option Addr} {n c : Nat} (k : Int) (w : World) (h : Reads w w.heap.size 5 A n ((marksI k (n * 5)).map (Value.int .i64))) (hm : n ≤ 1073741824) (h0 : 0 ≤ k) (h1 : k ≤ 1099511627776) :
    Calls Try.prog 60 #[.slice A n c, .int .i64 k] w fun e w' => e = .returned (.int .i64 (k + ((n * 5 : Nat) : Int))) ∧ w = w' := by
  go_enter Try.func60, Try.ntmps60
  go_wp2
  go_loop [1, 5] (fun m i => ∃ j : Nat, j ≤ n ∧ i = .int .i64 j ∧ m = .int .i64 (k + ((j * 5 : Nat) : Int))) (fun _ i => n - (intOf i).toNat)
  case atStart => exact ⟨0, Nat.zero_le _, rfl, by simp⟩
  case round =>
    obtain ⟨j, hj, rfl, rfl⟩ := hrel
    by_cases hlt : j < n
    · obtain ⟨b, off, rfl, _, hc⟩ := h.lits (by decide) (by omega)
      have c0 := hc (j * 5 + 0) (.int .i64 (k + ((j * 5 + 0 : Nat) : Int))) (by rw [List.getElem?_map, marksI_at (by omega)]; rfl)
      have c1 := hc (j * 5 + 1) (.int .i64 (k + ((j * 5 + 1 : Nat) : Int))) (by rw [List.getElem?_map, marksI_at (by omega)]; rfl)
      have c2 := hc (j * 5 + 2) (.int .i64 (k + ((j * 5 + 2 : Nat) : Int))) (by rw [List.getElem?_map, marksI_at (by omega)]; rfl)
      have c3 := hc (j * 5 + 3) (.int .i64 (k + ((j * 5 + 3 : Nat) : Int))) (by rw [List.getElem?_map, marksI_at (by omega)]; rfl)
      have c4 := hc (j * 5 + 4) (.int .i64 (k + ((j * 5 + 4 : Nat) : Int))) (by rw [List.getElem?_map, marksI_at (by omega)]; rfl)
      rw [show off + (j * 5 + 0) = off + j * 5 by omega, show k + ((j * 5 + 0 : Nat) : Int) = k + (j : Int) * 5 by omega] at c0
      rw [show off + (j * 5 + 1) = off + j * 5 + 1 by omega, show k + ((j * 5 + 1 : Nat) : Int) = k + (j : Int) * 5 + 1 by omega] at c1
      rw [show off + (j * 5 + 2) = off + j * 5 + 2 by omega, show k + ((j * 5 + 2 : Nat) : Int) = k + (j : Int) * 5 + 1 + 1 by omega] at c2
      rw [show off + (j * 5 + 3) = off + j * 5 + 3 by omega, show k + ((j * 5 + 3 : Nat) : Int) = k + (j : Int) * 5 + 1 + 1 + 1 by omega] at c3
      rw [show off + (j * 5 + 4) = off + j * 5 + 4 by omega, show k + ((j * 5 + 4 : Nat) : Int) = k + (j : Int) * 5 + 1 + 1 + 1 + 1 by omega] at c4
      clear hc
      have e0 : ((j * 5 : Nat) : Int) = (j : Int) * 5 := by simp
      go_wp2
      go_round
      case rel => exact ⟨j + 1, by omega, by go_num, by simp; omega⟩
      case measure => simp [intOf]; omega
    · obtain rfl : j = n := by omega
      go_wp2
      go_ret
      exact ⟨rfl, rfl⟩
end Go.Proofs.Ythpaampkpajdfaa
