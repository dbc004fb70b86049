/- The text of signals. No condition. -/
import Derived.Test.YthpaampkpajdfaaSigs
import Derived.Test.YthpaampkpajdfaaBytes
namespace Go.Proofs.Ythpaampkpajdfaa
open Go.RowKit

def sigC (q : Bool × Bool) : Int := if q.1 then 109 else if q.2 then 112 else 45
def sigT (xs : List (Bool × Bool)) : ByteArray := strOfNums (xs.map sigC)
theorem sigC_step {xs : List (Bool × Bool)} {k : Nat} {q : Bool × Bool} (hq : xs[k]? = some q) : ((xs.take (k + 1)).map sigC).map (Value.int .u8) = ((xs.take k).map sigC).map (Value.int .u8) ++ [.int .u8 (sigC q)] := by
  rw [List.take_add_one, hq]
  simp

set_option maxHeartbeats 3200000 in
theorem sSigText {A : Option Addr} {n c : Nat} {xs : List (Bool × Bool)} (w : World) (h : Reads w w.heap.size 2 A n (flat encSig xs)) (hl : xs.length = n) (hm : n ≤ 1048576) :
    Calls Try.prog 49 #[.slice A n c] w fun e w' => e = .returned (.string (sigT xs)) ∧ Below w.heap.size w w' := by
  have HL := Lib.hid hl; clear hl
  go_enter Try.func49, Try.ntmps49
  go_wp2
  go_loopw [3, 4] (fun o i wr => ∃ (k : Nat) (A' : Option Addr) (c' : Nat), k ≤ n ∧ i = .int .i64 k ∧ o = .slice A' k c' ∧ Own wr w.heap.size wr.heap.size 5 1 (.slice A' k c') k (((xs.take k).map sigC).map (Value.int .u8)) ∧ w.heap.size ≤ wr.heap.size ∧ Below w.heap.size w wr) (fun _ i _ => n - (intOf i).toNat)
  case atStart => exact ⟨0, some ⟨w.heap.size, 0, none⟩, 0, Nat.zero_le _, rfl, rfl, ((Blk.new w 5 #[]).own (n := 0) (Nat.zero_le _) rfl).more (Nat.le_refl _) (by simp), by simp, (by repeat' (first | assumption | exact Below.refl _ _ | refine Below.drew ?_ | refine belN ?_ _ | refine Below.alloc ?_ (by first | omega | (simp; done) | (simp; omega)) _ | refine Below.setCell ?_ (by first | omega | (simp; done) | (simp; omega)) _))⟩
  case round =>
    obtain ⟨k, A', c', hk, rfl, rfl, ho, hs, hB⟩ := hrel
    by_cases hlt : k < n
    · obtain ⟨b, off, q, rfl, _, hq, hc⟩ := (rdB h hB).row_at encSig_length (by decide) HL.out hlt
      have HS := Lib.hid (sigC_step hq); clear hq
      have e0 := hc 0 _ rfl; have e1 := hc 1 _ rfl
      simp only [Nat.add_zero] at e0
      clear hc
      have ki0 : (0 : Int) ≤ (k : Int) := Int.natCast_nonneg _
      have ki1 : (k : Int) < (n : Int) := by omega
      obtain ⟨q1, q2⟩ := q

      cases q1 <;> cases q2
      all_goals
        have HO := ho; have HB := hB
        clear ho hB
        go_wp2_with (first | (at_builtin; refine wpList_app1 rfl (.tmp 21) (.tmp 22) rfl eltU rfl (HO.alloc _) rfl (Blk.new_at (by simp)) rfl (one_u8 _) (by omega) (by simp; omega) ?_; intro A2 c2 w2 ho2 ht2) | (at_builtin; refine wpList_app1 rfl (.tmp 30) (.tmp 31) rfl eltU rfl (HO.alloc _) rfl (Blk.new_at (by simp)) rfl (one_u8 _) (by omega) (by simp; omega) ?_; intro A2 c2 w2 ho2 ht2) | (at_builtin; refine wpList_app1 rfl (.tmp 12) (.tmp 13) rfl eltU rfl (HO.alloc _) rfl (Blk.new_at (by simp)) rfl (one_u8 _) (by omega) (by simp; omega) ?_; intro A2 c2 w2 ho2 ht2))
        have hz2 := ht2.size
        go_roundw
        case rel => exact ⟨k + 1, A2, c2, by omega, by go_num, rfl, by rw [HS.out]; exact ho2, by have := hz2; simp at this; omega, Touch.below (HB.alloc (by first | omega | (simp; omega)) _) ht2 (by first | omega | (simp; omega)) (Nat.le_refl _)⟩
        case measure => simp [intOf]; omega
    · obtain rfl : k = n := by omega
      have hcv := conv_own ho
      rw [List.take_of_length_le (by rw [HL.out]; exact Nat.le_refl _)] at hcv
      go_wp2
      go_ret
      exact ⟨rfl, hB⟩

set_option maxHeartbeats 3200000 in
theorem iSigText {A : Option Addr} {n c : Nat} {xs : List (Bool × Bool)} (w : World) (h : Reads w w.heap.size 2 A n (flat encSig xs)) (hl : xs.length = n) (hm : n ≤ 1048576) :
    Calls Try.prog 50 #[.slice A n c] w fun e w' => e = .returned (.string (sigT xs)) ∧ Below w.heap.size w w' := by
  have HL := Lib.hid hl; clear hl
  go_enter Try.func50, Try.ntmps50
  go_wp2
  go_loopw [3, 9] (fun o i wr => ∃ (k : Nat) (A' : Option Addr) (c' : Nat), k ≤ n ∧ i = .int .i64 k ∧ o = .slice A' k c' ∧ Own wr w.heap.size wr.heap.size 5 1 (.slice A' k c') k (((xs.take k).map sigC).map (Value.int .u8)) ∧ w.heap.size ≤ wr.heap.size ∧ Below w.heap.size w wr) (fun _ i _ => n - (intOf i).toNat)
  case atStart => exact ⟨0, some ⟨w.heap.size, 0, none⟩, 0, Nat.zero_le _, rfl, rfl, ((Blk.new w 5 #[]).own (n := 0) (Nat.zero_le _) rfl).more (Nat.le_refl _) (by simp), by simp, (by repeat' (first | assumption | exact Below.refl _ _ | refine Below.drew ?_ | refine belN ?_ _ | refine Below.alloc ?_ (by first | omega | (simp; done) | (simp; omega)) _ | refine Below.setCell ?_ (by first | omega | (simp; done) | (simp; omega)) _))⟩
  case round =>
    obtain ⟨k, A', c', hk, rfl, rfl, ho, hs, hB⟩ := hrel
    by_cases hlt : k < n
    · obtain ⟨b, off, q, rfl, _, hq, hc⟩ := (rdB h hB).row_at encSig_length (by decide) HL.out hlt
      have HS := Lib.hid (sigC_step hq); clear hq
      have e0 := hc 0 _ rfl; have e1 := hc 1 _ rfl
      simp only [Nat.add_zero] at e0
      clear hc
      have ki0 : (0 : Int) ≤ (k : Int) := Int.natCast_nonneg _
      have ki1 : (k : Int) < (n : Int) := by omega
      obtain ⟨q1, q2⟩ := q
      have HOF := ho.alloc (.cells #[.bool q1, .bool q2] 98)
      have HBF := hB.alloc hs (.cells #[.bool q1, .bool q2] 98)
      cases q1 <;> cases q2
      all_goals
        have HO := HOF; have HB := HBF; clear HOF HBF
        clear ho hB
        go_wp2_with (first | (at_builtin; refine wpList_app1 rfl (.tmp 19) (.tmp 20) rfl eltU rfl (HO.alloc _) rfl (Blk.new_at (by simp)) rfl (one_u8 _) (by omega) (by simp; omega) ?_; intro A2 c2 w2 ho2 ht2) | (at_builtin; refine wpList_app1 rfl (.tmp 25) (.tmp 26) rfl eltU rfl (HO.alloc _) rfl (Blk.new_at (by simp)) rfl (one_u8 _) (by omega) (by simp; omega) ?_; intro A2 c2 w2 ho2 ht2) | (at_builtin; refine wpList_app1 rfl (.tmp 13) (.tmp 14) rfl eltU rfl (HO.alloc _) rfl (Blk.new_at (by simp)) rfl (one_u8 _) (by omega) (by simp; omega) ?_; intro A2 c2 w2 ho2 ht2))
        have hz2 := ht2.size
        go_roundw
        case rel => exact ⟨k + 1, A2, c2, by omega, by go_num, rfl, by rw [HS.out]; exact ho2, by have := hz2; simp at this; omega, Touch.below (HB.alloc (by first | omega | (simp; omega)) _) ht2 (by first | omega | (simp; omega)) (Nat.le_refl _)⟩
        case measure => simp [intOf]; omega
    · obtain rfl : k = n := by omega
      have hcv := conv_own ho
      rw [List.take_of_length_le (by rw [HL.out]; exact Nat.le_refl _)] at hcv
      go_wp2
      go_ret
      exact ⟨rfl, hB⟩
end Go.Proofs.Ythpaampkpajdfaa
