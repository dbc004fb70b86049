/- Slices of integers: copied into new memory, marked, looked at. No condition. -/
import Derived.Test.YtlnajkimlooapaaDoorInts
namespace Go.Proofs.YtlnajkimlooapaaDoor
open Go.RowKit

theorem infoI : (Tryd.prog.info? 2).map (fun i => (i.zero, i.size, i.bytes)) = some (some (.int .i64 0), 1, 8) := by kernel_rfl

set_option maxHeartbeats 1000000 in
theorem toInt64S {A : Option Addr} {n c : Nat} {xs : List Int} (w : World) (h : Reads w w.heap.size 1 A n (xs.map (Value.int .i64))) (hl : xs.length = n) (hm : n ≤ 1048576) :
    Calls Tryd.prog 31 #[.slice A n c] w (RetOwn w 2 1 n (xs.map (Value.int .i64))) := by
  obtain ⟨i0, hi, hz0, hz1, hz2⟩ := info_parts infoI
  have hmk := fun W => run_make_rowN (P := Tryd.prog) 33 2 i0 (.int .i64 0) Tryd.underlying33 hi hz0 .i64 .i64 n n (Nat.le_refl _) (by rw [hz2]; omega) (by omega) W
  have HL := Lib.hid hl; clear hl
  have hfill : Fill (w.alloc (.cells (madeCells (Value.int .i64 0).cells (n * i0.size)) 2)) w.heap.size 2 (n * 1) (xs.map (Value.int .i64)) 0 :=
    Fill.new (by rw [size_madeCells, hz1]) (by simp [HL.out])
  have HF := Lib.hid hfill; clear hfill
  have HZ := Lib.hid hz1; have HZ2 := Lib.hid hz2; clear hz1 hz2
  go_enter Tryd.func31, Tryd.ntmps31
  go_wp2
  clear hmk
  go_loopw [4] (fun i wr => ∃ k : Nat, k ≤ n ∧ i = .int .i64 k ∧ Fill wr w.heap.size 2 (n * 1) (xs.map (Value.int .i64)) k ∧ Below w.heap.size w wr) (fun i _ => n - (intOf i).toNat)
  case atStart => exact ⟨0, Nat.zero_le _, rfl, HF.out, (Below.refl _ _).alloc (Nat.le_refl _) _⟩
  case round =>
    obtain ⟨k, hk, rfl, hf, hb⟩ := hrel
    by_cases hlt : k < n
    · obtain ⟨ad, x, rfl, had, hx, hc⟩ := (h.below hb).int_at hlt
      obtain ⟨u0, hu0⟩ := hf.cell (show k < n * 1 by omega)
      have hfz := hf.frozen k
      have HX := Lib.hid hx; clear hx
      go_wp2
      go_roundw
      case rel => exact ⟨k + 1, by omega, by go_num, hf.set_ (by simp [HX.out]), hb.setCell (Nat.le_refl _) _⟩
      case measure => simp [intOf]; omega
    · obtain rfl : k = n := by omega
      go_wp2
      go_ret
      exact ⟨_, rfl, ((Fill.done (size := 1) (by simpa using hf) (by unfold maxLen; omega)).more (Nat.le_refl _) (by have := hf.lt; omega)), hb⟩

theorem marks_step {k : Int} {i : Nat} {xs : List Value} (hi : i < xs.length) : (((marksI k i).map (Value.int .i64)) ++ xs.drop i).set i (.int .i64 (k + i)) = ((marksI k (i + 1)).map (Value.int .i64)) ++ xs.drop (i + 1) := by
  rw [set_mid (by simp [marksI_length]) hi, marksI_succ]
  simp

set_option maxHeartbeats 1000000 in
theorem markInt64S {A : Option Addr} {n c lo hi : Nat} {xs : List Value} (k : Int) (w : World) (h : Own w lo hi 2 1 (.slice A n c) n xs) (hm : n ≤ 1073741824) (h0 : 0 ≤ k) (h1 : k ≤ 1099511627776) :
    Calls Tryd.prog 38 #[.slice A n c, .int .i64 k] w (Marked w lo hi 2 1 (.slice A n c) n ((marksI k n).map (Value.int .i64)) (k + n)) := by
  have HL : Hid (xs.length = n) := by have := h.row.1; unfold Hid; omega
  go_enter Tryd.func38, Tryd.ntmps38
  go_wp2
  go_loopw [1, 5] (fun m i wr => ∃ j : Nat, j ≤ n ∧ i = .int .i64 j ∧ m = .int .i64 (k + j) ∧ Own wr lo hi 2 1 (.slice A n c) n (((marksI k j).map (Value.int .i64)) ++ xs.drop j) ∧ Touch lo hi w wr) (fun _ i _ => n - (intOf i).toNat)
  case atStart => exact ⟨0, Nat.zero_le _, rfl, by simp, by simpa [marksI] using h, Touch.of_below _ _ (Below.refl _ _)⟩
  case round =>
    obtain ⟨j, hj, rfl, rfl, ho, ht⟩ := hrel
    by_cases hlt : j < n
    · obtain ⟨g, rfl, hlo, hhi, hgs, hcell, hfz⟩ := ho.at_ (by omega)
      have hc := (hcell j (by omega)).trans (List.getElem?_eq_getElem (by simp [marksI_length, HL.out]; omega))
      obtain ⟨u0, hu0⟩ : ∃ u0, wr.cell? ⟨g, j, none⟩ = some u0 := ⟨_, hc⟩
      have hf := hfz j
      clear hc hcell hfz
      go_wp2
      go_roundw
      case rel => exact ⟨j + 1, by omega, by go_num, by go_num, by have := ho.stored j (.int .i64 (k + j)); rwa [marks_step (by rw [HL.out]; exact hlt)] at this, ht.trans (ho.stored_touch j _)⟩
      case measure => simp [intOf]; omega
    · obtain rfl : j = n := by omega
      go_wp2
      go_ret
      exact ⟨rfl, by rwa [List.drop_of_length_le (by rw [HL.out]; exact Nat.le_refl _), List.append_nil] at ho, ht⟩

set_option maxHeartbeats 1000000 in
theorem heldInt64S {A : Option Addr} {n c : Nat} (k : Int) (w : World) (h : Reads w w.heap.size 1 A n ((marksI k n).map (Value.int .i64))) (hm : n ≤ 1073741824) (h0 : 0 ≤ k) (h1 : k ≤ 1099511627776) :
    Calls Tryd.prog 39 #[.slice A n c, .int .i64 k] w fun e w' => e = .returned (.int .i64 (k + n)) ∧ w = w' := by
  go_enter Tryd.func39, Tryd.ntmps39
  go_wp2
  go_loop [1, 5] (fun m i => ∃ j : Nat, j ≤ n ∧ i = .int .i64 j ∧ m = .int .i64 (k + j)) (fun _ i => n - (intOf i).toNat)
  case atStart => exact ⟨0, Nat.zero_le _, rfl, by simp⟩
  case round =>
    obtain ⟨j, hj, rfl, rfl⟩ := hrel
    by_cases hlt : j < n
    · obtain ⟨ad, x, rfl, _, hx, hc⟩ := h.int_at hlt
      rw [marksI_at hlt] at hx
      obtain rfl := Option.some.inj hx
      clear hx
      go_wp2
      go_round
      case rel => exact ⟨j + 1, by omega, by go_num, by go_num⟩
      case measure => simp [intOf]; omega
    · obtain rfl : j = n := by omega
      go_wp2
      go_ret
      exact ⟨rfl, rfl⟩
end Go.Proofs.YtlnajkimlooapaaDoor
