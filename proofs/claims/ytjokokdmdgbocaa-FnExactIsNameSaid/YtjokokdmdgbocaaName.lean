/- Names. No condition. -/
import Derived.Test.YtjokokdmdgbocaaRows
import Derived.Test.YtjokokdmdgbocaaWords
import Derived.Test.YtjokokdmdgbocaaBetw
import Derived.BigQuiet
namespace Go.Proofs.Ytjokokdmdgbocaa
open Go.RowKit

/-- The k-th byte. -/
def bt (s : ByteArray) (k : Nat) : Int := ((s.data.getD k 0).toNat : Int)
def okI (n : Int) : Bool := betwB n 97 122 || (betwB n 48 57 || decide (n = 45))
def nmB (s : ByteArray) : Bool := decide (1 ≤ s.size ∧ s.size ≤ 12) && (betwB (bt s 0) 97 122 && (List.range s.size).all fun k => okI (bt s k))
theorem bt_at {s : ByteArray} {k : Nat} (h : k < s.size) : bt s k = (s[k].toNat : Int) := by
  have h' : k < s.data.size := h
  unfold bt
  rw [Array.getD_eq_getD_getElem?, Array.getElem?_eq_getElem h']
  rfl
theorem rg_step {p : Nat → Bool} {k : Nat} (h : (List.range k).all p = true) (hk : p k = true) : (List.range (k + 1)).all p = true := by
  rw [List.range_succ, List.all_append, h]
  simp [hk]
theorem rg_no {p : Nat → Bool} {k n : Nat} (hk : k < n) (h : p k = false) : (List.range n).all p = false := by
  rw [List.all_eq_false]
  exact ⟨k, List.mem_range.2 hk, by simp [h]⟩
theorem nm_size {s : ByteArray} (h : ¬ (1 ≤ s.size ∧ s.size ≤ 12)) : nmB s = false := by simp [nmB, h]
theorem nm_first {s : ByteArray} (h : betwB (bt s 0) 97 122 = false) : nmB s = false := by simp [nmB, h]
theorem nm_all {s : ByteArray} (h : (List.range s.size).all (fun k => okI (bt s k)) = false) : nmB s = false := by simp [nmB, h]
theorem nm_yes {s : ByteArray} (h : 1 ≤ s.size ∧ s.size ≤ 12) (h1 : betwB (bt s 0) 97 122 = true) (h2 : (List.range s.size).all (fun k => okI (bt s k)) = true) : nmB s = true := by simp [nmB, h, h1, h2]

set_option maxHeartbeats 400000 in
theorem sSmall (n : Int) (w : World) : Calls Try.prog 32 #[.int .u8 n] w fun e w' => e = .returned (.bool (betwB n 97 122)) ∧ w = w' := by
  by_cases h1 : 97 ≤ n <;> by_cases h2 : n ≤ 122
  all_goals
    go_enter Try.func32, Try.ntmps32
    go_wp2
    go_ret
    exact ⟨by simp [betwB, h1, h2], rfl⟩

set_option maxHeartbeats 400000 in
theorem sDig (n : Int) (w : World) : Calls Try.prog 33 #[.int .u8 n] w fun e w' => e = .returned (.bool (betwB n 48 57)) ∧ w = w' := by
  by_cases h1 : 48 ≤ n <;> by_cases h2 : n ≤ 57
  all_goals
    go_enter Try.func33, Try.ntmps33
    go_wp2
    go_ret
    exact ⟨by simp [betwB, h1, h2], rfl⟩

set_option maxHeartbeats 400000 in
theorem iDig (n : Int) (w : World) : Calls Try.prog 34 #[.int .u8 n] w fun e w' => e = .returned (.bool (betwB n 48 57)) ∧ w = w' := by
  by_cases h1 : 48 ≤ n <;> by_cases h2 : n ≤ 57
  all_goals
    go_enter Try.func34, Try.ntmps34
    go_wp2
    go_ret
    exact ⟨by simp [betwB, h1, h2], rfl⟩
end Go.Proofs.Ytjokokdmdgbocaa
