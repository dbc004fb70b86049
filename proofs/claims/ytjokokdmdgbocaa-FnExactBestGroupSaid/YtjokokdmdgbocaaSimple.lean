/- Walks of the small functions: names, depths, drums, signals. No condition. -/
import Derived.Test.YtjokokdmdgbocaaRows
import Derived.Test.YtjokokdmdgbocaaWords
import Derived.Test.YtjokokdmdgbocaaRg
namespace Go.Proofs.Ytjokokdmdgbocaa
open Go.RowKit

def betwB (n lo hi : Int) : Bool := decide (lo ≤ n ∧ n ≤ hi)
theorem betw_iff {n lo hi : Int} : betwB n lo hi = true ↔ lo ≤ n ∧ n ≤ hi := by simp [betwB]

set_option maxHeartbeats 400000 in
theorem constants_any (w : World) :
    Calls Try.prog 3 #[] w fun e w' => e = .returned (.bool true) ∧ Below w.heap.size w w' := by
  go_enter Try.func3, Try.ntmps3
  go_wp2
  go_ret
  exact ⟨rfl, Below.refl _ _⟩

set_option maxHeartbeats 400000 in
theorem l00In_any (n lo hi : Int) (w : World) :
    Calls Try.prog 31 #[.int .i64 n, .int .i64 lo, .int .i64 hi] w fun e w' => e = .returned (.bool (betwB n lo hi)) ∧ w = w' := by
  by_cases h1 : lo ≤ n <;> by_cases h2 : n ≤ hi
  all_goals
    go_enter Try.func31, Try.ntmps31
    go_wp2
    go_ret
    exact ⟨by simp [betwB, h1, h2], rfl⟩
set_option maxHeartbeats 400000 in
theorem between_any (n lo hi : Int) (w : World) :
    Calls Try.prog 40 #[.int .i64 n, .int .i64 lo, .int .i64 hi] w fun e w' => e = .returned (.bool (betwB n lo hi)) ∧ w = w' := by
  by_cases h1 : lo ≤ n <;> by_cases h2 : n ≤ hi
  all_goals
    go_enter Try.func40, Try.ntmps40
    go_wp2
    go_ret
    exact ⟨by simp [betwB, h1, h2], rfl⟩

set_option maxHeartbeats 400000 in
theorem lDrumName (k : Int) (w : World) :
    Calls Try.prog 5 #[.int .i64 k] w fun e w' => e = .returned (.bool true) ∧ Below w.heap.size w w' := by
  by_cases hb : betwB k 1 3 = true
  · rcases (show k = 1 ∨ k = 2 ∨ k = 3 by have := betw_iff.1 hb; omega) with rfl | rfl | rfl
    all_goals
      go_enter Try.func5, Try.ntmps5
      go_wp2
      go_ret
      exact ⟨rfl, (Below.refl _ _).alloc (Nat.le_refl _) _⟩
  · have hb' : betwB k 1 3 = false := by simpa using hb
    have e1 : (k == 1) = false := by simp only [betw_iff] at hb; simp; omega
    have e2 : (k == 2) = false := by simp only [betw_iff] at hb; simp; omega
    have e3 : (k == 3) = false := by simp only [betw_iff] at hb; simp; omega
    clear hb
    go_enter Try.func5, Try.ntmps5
    go_wp2_with (first | (go_at_call 31; refine (l00In_any _ _ _ _).mono ?_; rintro e w' ⟨rfl, rfl⟩) | go_in)
    go_ret
    exact ⟨rfl, (Below.refl _ _).alloc (Nat.le_refl _) _⟩

set_option maxHeartbeats 2000000 in
theorem lCodeName (k : Int) (w : World) :
    Calls Try.prog 4 #[.int .i64 k] w fun e w' => e = .returned (.bool true) ∧ Below w.heap.size w w' := by
  by_cases hb : betwB k 0 10 = true
  · rcases (show k = 0 ∨ k = 1 ∨ k = 2 ∨ k = 3 ∨ k = 4 ∨ k = 5 ∨ k = 6 ∨ k = 7 ∨ k = 8 ∨ k = 9 ∨ k = 10 by have := betw_iff.1 hb; omega) with rfl | rfl | rfl | rfl | rfl | rfl | rfl | rfl | rfl | rfl | rfl
    all_goals
      clear hb
      go_enter Try.func4, Try.ntmps4
      go_wp2
      go_ret
      exact ⟨rfl, by repeat' (first | exact Below.refl _ _ | refine Below.drew ?_ | refine Below.alloc ?_ (by first | omega | (simp; done) | (simp; omega)) _)⟩
  · have hb' : betwB k 0 10 = false := by simpa using hb
    by_cases hk : k < 0
    · clear hb
      go_enter Try.func4, Try.ntmps4
      go_wp2_with (first | (go_at_call 31; refine (l00In_any _ _ _ _).mono ?_; rintro e w' ⟨rfl, rfl⟩) | go_in)
      go_ret
      exact ⟨rfl, by repeat' (first | exact Below.refl _ _ | refine Below.drew ?_ | refine Below.alloc ?_ (by first | omega | (simp; done) | (simp; omega)) _)⟩
    · have hk2 : 11 ≤ k := by simp only [betw_iff] at hb; omega
      clear hb
      go_enter Try.func4, Try.ntmps4
      go_wp2_with (first | (go_at_call 31; refine (l00In_any _ _ _ _).mono ?_; rintro e w' ⟨rfl, rfl⟩) | go_in)
      go_ret
      exact ⟨rfl, by repeat' (first | exact Below.refl _ _ | refine Below.drew ?_ | refine Below.alloc ?_ (by first | omega | (simp; done) | (simp; omega)) _)⟩
end Go.Proofs.Ytjokokdmdgbocaa
