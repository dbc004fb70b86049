/- Walks: depths, drums, signals. No condition. -/
import Derived.Test.YtjokokdmdgbocaaRows
import Derived.Test.YtjokokdmdgbocaaWords
import Derived.Test.YtjokokdmdgbocaaSimple
namespace Go.Proofs.Ytjokokdmdgbocaa
open Go.RowKit

def depI (w s : Int) : Int := 2 * min w s + (w + s - 1) / s - 1
theorem div_bd {w s : Int} (h1 : 1 ≤ w) (h2 : w ≤ 16) (h3 : 1 ≤ s) (h4 : s ≤ 16) : 0 ≤ (w + s - 1) / s ∧ (w + s - 1) / s ≤ 31 :=
  ⟨Int.ediv_nonneg (by omega) (by omega), Int.le_trans (Int.ediv_le_self _ (by omega)) (by omega)⟩
theorem depI_bd {w s : Int} (h1 : 1 ≤ w) (h2 : w ≤ 16) (h3 : 1 ≤ s) (h4 : s ≤ 16) : -100 ≤ depI w s ∧ depI w s ≤ 100 := by
  have := div_bd h1 h2 h3 h4
  unfold depI
  omega
theorem ret_i {a b : Int} (h : a = b) : Ending.returned (.int .i64 a) = .returned (.int .i64 b) := by rw [h]
set_option maxHeartbeats 400000 in
theorem sDepth (a b : Int) (w : World) (h1 : 1 ≤ a) (h2 : a ≤ 16) (h3 : 1 ≤ b) (h4 : b ≤ 16) :
    Calls Try.prog 36 #[.int .i64 a, .int .i64 b] w fun e w' => e = .returned (.int .i64 (depI a b)) ∧ w = w' := by
  obtain ⟨d0, d1⟩ := div_bd h1 h2 h3 h4
  by_cases hc : a < b
  all_goals
    go_enter Try.func36, Try.ntmps36
    go_wp2
    go_ret
    exact ⟨ret_i (by unfold depI; omega), rfl⟩
set_option maxHeartbeats 400000 in
theorem iDepth (a b : Int) (w : World) (h1 : 1 ≤ a) (h2 : a ≤ 16) (h3 : 1 ≤ b) (h4 : b ≤ 16) :
    Calls Try.prog 38 #[.int .i64 a, .int .i64 b] w fun e w' => e = .returned (.int .i64 (depI a b)) ∧ w = w' := by
  obtain ⟨d0, d1⟩ := div_bd h1 h2 h3 h4
  by_cases hc : a ≤ b
  all_goals
    go_enter Try.func38, Try.ntmps38
    go_wp2
    go_ret
    exact ⟨ret_i (by unfold depI; omega), rfl⟩
set_option maxHeartbeats 400000 in
theorem lDepth (a b : Int) (w : World) :
    Calls Try.prog 8 #[.int .i64 a, .int .i64 b] w fun e w' => e = .returned (.bool true) ∧ Below w.heap.size w w' := by
  cases h1 : betwB a 1 16
  · go_enter Try.func8, Try.ntmps8
    go_wp2_with (first | (go_at_call 31; refine (l00In_any _ _ _ _).mono ?_; rintro e w' ⟨rfl, rfl⟩) | (go_at_call 40; refine (between_any _ _ _ _).mono ?_; rintro e w' ⟨rfl, rfl⟩) | go_in)
    go_ret
    exact ⟨rfl, by repeat' (first | exact Below.refl _ _ | refine Below.drew ?_ | refine Below.alloc ?_ (by first | omega | (simp; done) | (simp; omega)) _)⟩
  · obtain ⟨a1, a2⟩ := betw_iff.1 h1
    cases h2 : betwB b 1 16
    · go_enter Try.func8, Try.ntmps8
      go_wp2_with (first | (go_at_call 31; refine (l00In_any _ _ _ _).mono ?_; rintro e w' ⟨rfl, rfl⟩) | (go_at_call 40; refine (between_any _ _ _ _).mono ?_; rintro e w' ⟨rfl, rfl⟩) | go_in)
      go_ret
      exact ⟨rfl, by repeat' (first | exact Below.refl _ _ | refine Below.drew ?_ | refine Below.alloc ?_ (by first | omega | (simp; done) | (simp; omega)) _)⟩
    · obtain ⟨b1, b2⟩ := betw_iff.1 h2
      go_enter Try.func8, Try.ntmps8
      go_wp2_with (first | (go_at_call 31; refine (l00In_any _ _ _ _).mono ?_; rintro e w' ⟨rfl, rfl⟩) | (go_at_call 40; refine (between_any _ _ _ _).mono ?_; rintro e w' ⟨rfl, rfl⟩) | (go_at_call 36; refine (sDepth _ _ _ a1 a2 b1 b2).mono ?_; rintro e w' ⟨rfl, rfl⟩) | (go_at_call 38; refine (iDepth _ _ _ a1 a2 b1 b2).mono ?_; rintro e w' ⟨rfl, rfl⟩) | go_in)
      go_ret
      exact ⟨rfl, by repeat' (first | exact Below.refl _ _ | refine Below.drew ?_ | refine Below.alloc ?_ (by first | omega | (simp; done) | (simp; omega)) _)⟩
end Go.Proofs.Ytjokokdmdgbocaa
