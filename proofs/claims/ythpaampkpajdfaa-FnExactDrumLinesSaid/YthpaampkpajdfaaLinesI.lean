/- The lines of a drum, on the side of the program. No condition. -/
import Derived.Test.YthpaampkpajdfaaLines
import Derived.Lib.AppendStr
import Derived.Laws.IdiomStrings
namespace Go.Proofs.Ythpaampkpajdfaa
open Go.RowKit

/-- Block g holds the bytes l from its head on, and they may be written. -/
structure Ln (w : World) (g N : Nat) (l : List Int) : Prop where
  len : l.length = N
  lt : g < w.heap.size
  cell : ∀ j, j < N → w.cell? ⟨g, j, none⟩ = some (.int .u8 (l.getD j 0))
  fz : ∀ j, j < N → w.frozen? ⟨g, j, none⟩ = false
theorem Ln.bel {w w' : World} {g N : Nat} {l : List Int} (h : Ln w g N l) (hb : Below w.heap.size w w') : Ln w' g N l :=
  ⟨h.len, Nat.lt_of_lt_of_le h.lt hb.size, fun j hj => cellB (h.cell j hj) hb, fun j hj => (hb.frozen (p := ⟨g, j, none⟩) h.lt).trans (h.fz j hj)⟩
theorem Ln.set_ {w : World} {g N t : Nat} {l : List Int} (h : Ln w g N l) (ht : t < N) (v : Int) : Ln (w.setCell ⟨g, t, none⟩ (.int .u8 v)) g N (l.set t v) := by
  refine ⟨by rw [List.length_set]; exact h.len, by simpa using h.lt, fun j hj => ?_, fun j hj => by rw [World.frozen?_setCell]; exact h.fz j hj⟩
  by_cases hjt : t = j
  · subst hjt
    rw [World.cell?_setCell_same' _ _ _ (by rw [h.cell t ht]; rfl)]
    have : t < l.length := by rw [h.len]; exact ht
    simp [List.getD_eq_getElem?_getD, this]
  · rw [World.cell?_setCell_other _ _ _ _ (by intro e; injection e with _ e; exact hjt e), h.cell j hj]
    simp [List.getD_eq_getElem?_getD, List.getElem?_set, hjt]
theorem Ln.conv {w : World} {g N c : Nat} {l : List Int} (h : Ln w g N l) : (convert 94 9 (.slice (some ⟨g, 0, none⟩) N c)).run Try.prog w = .ok (.string (strOfNums l)) w :=
  run_convert_bytes_arg (P := Try.prog) w 94 5 Try.underlying94 Try.underlying5 g 0 N c l h.len (fun i hi => by rw [Nat.zero_add]; exact h.cell i hi) 9 Try.underlying9
theorem rep_size (N : Nat) : (strOfNums (List.replicate N 46)).size = N := by rw [strOfNums_size, List.length_replicate]
theorem Ln.new (w : World) (N cap : Nat) (lo hi : Nat) (hlo : N ≤ lo) : Ln (w.alloc (.cells (bytesRow (strOfNums (List.replicate N 46)) cap) 5 (lo, hi))) w.heap.size N (List.replicate N 46) := by
  refine ⟨by simp, by simp, fun j hj => ?_, fun j hj => ?_⟩
  · have hs : j < (strOfNums (List.replicate N 46)).data.size := by
      have := rep_size N
      rw [ByteArray.size] at this
      omega
    rw [World.cell?_alloc_mark, bytesRow_at _ _ _ hs]
    simp [strOfNums, List.getD_eq_getElem?_getD, hj]
  · rw [World.frozen?_alloc_mark]
    have : ¬ lo ≤ j := by omega
    simp [this]

set_option maxRecDepth 100000 in
set_option maxHeartbeats 1600000 in
theorem iRepeat (N : Nat) (w : World) (hN : N ≤ 60) : Calls Try.prog 77 #[.string ⟨#[46]⟩, .int .i64 (N : Int)] w fun e w' => e = .returned (.string (strOfNums (List.replicate N 46))) ∧ Below w.heap.size w w' := by
  obtain ⟨i0, hi, hz0, hz1, hz2⟩ := info_parts infoU
  have HI := Lib.hid hi; have HZ0 := Lib.hid hz0; have HZ1 := Lib.hid hz1; have HZ2 := Lib.hid hz2; clear hi hz0 hz1 hz2
  have n0 : (0 : Int) ≤ (N : Int) := Int.natCast_nonneg _
  go_enter Try.func77, Try.ntmps77
  go_wp2
  go_loopw [5, 9] (fun o i wr => ∃ (k : Nat) (A' : Option Addr) (c' : Nat), k ≤ N ∧ i = .int .i64 k ∧ o = .slice A' k c' ∧ Own wr w.heap.size wr.heap.size 5 1 (.slice A' k c') k ((List.replicate k (46 : Int)).map (Value.int .u8)) ∧ w.heap.size ≤ wr.heap.size ∧ Below w.heap.size w wr) (fun _ i _ => N - (intOf i).toNat)
  case atStart => exact ⟨0, some ⟨w.heap.size, 0, none⟩, 0, Nat.zero_le _, rfl, rfl, ((Blk.new w 5 #[]).own (n := 0) (Nat.zero_le _) rfl).more (Nat.le_refl _) (by simp), by simp, (by repeat' (first | assumption | exact Below.refl _ _ | refine Below.drew ?_ | refine belN ?_ _ | refine Below.alloc ?_ (by first | omega | (simp; done) | (simp; omega)) _ | refine Below.setCell ?_ (by first | omega | (simp; done) | (simp; omega)) _))⟩
  case round =>
    obtain ⟨k, A', c', hk, rfl, rfl, ho, hs, hB⟩ := hrel
    by_cases hlt : k < N
    · have ki : (k : Int) < (N : Int) := by omega
      go_wp2_with (first | (at_builtin; refine Lib.wpList_append_own_string _ rfl (.tmp 11) (.tmp 12) 94 9 rfl w.heap.size 5 i0 Try.underlying94 Try.underlying9 HI.out HZ0.out HZ1.out HZ2.out _ k _ rfl ho.row ⟨#[46]⟩ rfl (by show k + 1 ≤ maxLen; unfold maxLen; omega) (by show k + 1 ≤ _; omega) hs ?_; intro v2 w2 h2 hg _))
      have ht := Touch.of_grown (lo := w.heap.size) (hi := wr.heap.size) hg (fun k hk => ⟨(ho.row.lt k hk).1, ho.top k hk⟩)
      have ho2 := Own.of_row h2
      obtain ⟨A2, c2, rfl, _, _⟩ := ho2.form
      have hz2 := ht.size
      have HO : Hid (Own w2 w.heap.size w2.heap.size 5 1 (.slice A2 (k + 1) c2) (k + 1) ((List.replicate (k + 1) (46 : Int)).map (Value.int .u8))) := by
        unfold Hid
        rw [List.replicate_succ', List.map_append]
        exact ho2
      clear ho2 h2
      go_roundw
      case rel => exact ⟨k + 1, A2, c2, by omega, by go_num, rfl, HO.out, by omega, Touch.below hB ht (by omega) (Nat.le_refl _)⟩
      case measure => simp [intOf] <;> omega
    · obtain rfl : k = N := by omega
      have hcv := conv_own ho
      go_wp2
      go_ret
      exact ⟨rfl, hB⟩
end Go.Proofs.Ythpaampkpajdfaa
