/- The walk of the best size of groups. No condition. -/
import Derived.Test.YtjokokdmdgbocaaDepth
namespace Go.Proofs.Ytjokokdmdgbocaa
open Go.RowKit

def bestTo (w : Int) : Nat → Int
  | 0 => 1
  | n + 1 => if depI w ((n : Int) + 2) < depI w (bestTo w n) then (n : Int) + 2 else bestTo w n
theorem bestTo_bd (w : Int) : ∀ n : Nat, 1 ≤ bestTo w n ∧ bestTo w n ≤ (n : Int) + 1
  | 0 => by simp [bestTo]
  | n + 1 => by
    have := bestTo_bd w n
    unfold bestTo
    split <;> omega
def bg3 (c : Bool) (w : Int) : Value := if c then .tuple #[.int .i64 (bestTo w 15), .int .i64 (depI w (bestTo w 15)), .int .i64 0] else .tuple #[.int .i64 0, .int .i64 0, .int .i64 2]

set_option maxHeartbeats 400000 in
theorem sSize (a : Int) (w : World) :
    Calls Try.prog 35 #[.int .i64 a] w fun e w' => e = .returned (.bool (betwB a 1 16)) ∧ w = w' := by
  go_enter Try.func35, Try.ntmps35
  go_wp2_with (first | (go_at_call 31; refine (l00In_any _ _ _ _).mono ?_; rintro e w' ⟨rfl, rfl⟩))
  go_ret
  exact ⟨rfl, rfl⟩

set_option maxHeartbeats 400000 in
theorem iSize (a : Int) (w : World) :
    Calls Try.prog 37 #[.int .i64 a] w fun e w' => e = .returned (.bool (betwB a 1 16)) ∧ w = w' := by
  go_enter Try.func37, Try.ntmps37
  go_wp2_with (first | (go_at_call 40; refine (between_any _ _ _ _).mono ?_; rintro e w' ⟨rfl, rfl⟩))
  go_ret
  exact ⟨rfl, rfl⟩

set_option maxHeartbeats 1000000 in
theorem sBest (a : Int) (w : World) :
    Calls Try.prog 29 #[.int .i64 a] w fun e w' => e = .returned (bg3 (betwB a 1 16) a) ∧ w = w' := by
  cases h1 : betwB a 1 16
  · go_enter Try.func29, Try.ntmps29
    go_wp2_with (first | (go_at_call 31; refine (l00In_any _ _ _ _).mono ?_; rintro e w' ⟨rfl, rfl⟩) | go_in)
    go_ret3
    exact ⟨rfl, rfl⟩
  · obtain ⟨a1, a2⟩ := betw_iff.1 h1
    go_enter Try.func29, Try.ntmps29
    go_wp2_with (first | (go_at_call 35; refine (sSize _ _).mono ?_; rintro e w' ⟨rfl, rfl⟩))
    go_loop [5, 6] (fun b s => ∃ k : Nat, k ≤ 15 ∧ s = .int .i64 ((k : Int) + 2) ∧ b = .int .i64 (bestTo a k)) (fun _ s => 17 - (intOf s).toNat)
    case atStart => exact ⟨0, by omega, rfl, rfl⟩
    case round =>
      obtain ⟨k, hk, rfl, rfl⟩ := hrel
      obtain ⟨b1, b2⟩ := bestTo_bd a k
      by_cases hlt : k < 15
      · by_cases hd : depI a ((k : Int) + 2) < depI a (bestTo a k)
        · have hn : Hid (bestTo a (k + 1) = (k : Int) + 2) := by unfold bestTo; rw [if_pos hd]; rfl
          go_wp2_with (first | (go_at_call 36; refine (sDepth _ _ _ (by omega) (by omega) (by omega) (by omega)).mono ?_; rintro e w' ⟨rfl, rfl⟩))
          go_round
          case rel => exact ⟨k + 1, by omega, by go_num, by rw [hn.out]⟩
          case measure => simp [intOf]; omega
        · have hn : Hid (bestTo a (k + 1) = bestTo a k) := by
            show (if depI a ((k : Int) + 2) < depI a (bestTo a k) then (k : Int) + 2 else bestTo a k) = _
            rw [if_neg hd]
          go_wp2_with (first | (go_at_call 36; refine (sDepth _ _ _ (by omega) (by omega) (by omega) (by omega)).mono ?_; rintro e w' ⟨rfl, rfl⟩))
          go_round
          case rel => exact ⟨k + 1, by omega, by go_num, by rw [hn.out]⟩
          case measure => simp [intOf]; omega
      · obtain rfl : k = 15 := by omega
        go_wp2_with (first | (go_at_call 36; refine (sDepth _ _ _ (by omega) (by omega) (by omega) (by omega)).mono ?_; rintro e w' ⟨rfl, rfl⟩))
        go_ret3
        exact ⟨rfl, rfl⟩

set_option maxHeartbeats 1000000 in
theorem iBest (a : Int) (w : World) :
    Calls Try.prog 30 #[.int .i64 a] w fun e w' => e = .returned (bg3 (betwB a 1 16) a) ∧ w = w' := by
  cases h1 : betwB a 1 16
  · go_enter Try.func30, Try.ntmps30
    go_wp2_with (first | (go_at_call 40; refine (between_any _ _ _ _).mono ?_; rintro e w' ⟨rfl, rfl⟩) | go_in)
    go_ret3
    exact ⟨rfl, rfl⟩
  · obtain ⟨a1, a2⟩ := betw_iff.1 h1
    go_enter Try.func30, Try.ntmps30
    go_wp2_with (first | (go_at_call 37; refine (iSize _ _).mono ?_; rintro e w' ⟨rfl, rfl⟩))
    go_loop [5, 6] (fun b s => ∃ k : Nat, k ≤ 15 ∧ s = .int .i64 ((k : Int) + 2) ∧ b = .int .i64 (bestTo a k)) (fun _ s => 17 - (intOf s).toNat)
    case atStart => exact ⟨0, by omega, rfl, rfl⟩
    case round =>
      obtain ⟨k, hk, rfl, rfl⟩ := hrel
      obtain ⟨b1, b2⟩ := bestTo_bd a k
      by_cases hlt : k < 15
      · by_cases hd : depI a ((k : Int) + 2) < depI a (bestTo a k)
        · have hn : Hid (bestTo a (k + 1) = (k : Int) + 2) := by unfold bestTo; rw [if_pos hd]; rfl
          go_wp2_with (first | (go_at_call 38; refine (iDepth _ _ _ (by omega) (by omega) (by omega) (by omega)).mono ?_; rintro e w' ⟨rfl, rfl⟩))
          go_round
          case rel => exact ⟨k + 1, by omega, by go_num, by rw [hn.out]⟩
          case measure => simp [intOf]; omega
        · have hn : Hid (bestTo a (k + 1) = bestTo a k) := by
            show (if depI a ((k : Int) + 2) < depI a (bestTo a k) then (k : Int) + 2 else bestTo a k) = _
            rw [if_neg hd]
          go_wp2_with (first | (go_at_call 38; refine (iDepth _ _ _ (by omega) (by omega) (by omega) (by omega)).mono ?_; rintro e w' ⟨rfl, rfl⟩))
          go_round
          case rel => exact ⟨k + 1, by omega, by go_num, by rw [hn.out]⟩
          case measure => simp [intOf]; omega
      · obtain rfl : k = 15 := by omega
        go_wp2_with (first | (go_at_call 38; refine (iDepth _ _ _ (by omega) (by omega) (by omega) (by omega)).mono ?_; rintro e w' ⟨rfl, rfl⟩))
        go_ret3
        exact ⟨rfl, rfl⟩

set_option maxHeartbeats 400000 in
theorem lBest (a : Int) (w : World) :
    Calls Try.prog 11 #[.int .i64 a] w fun e w' => e = .returned (.bool true) ∧ Below w.heap.size w w' := by
  cases h1 : betwB a 1 16
  all_goals
    go_enter Try.func11, Try.ntmps11
    go_wp2_with (first | (go_at_call 29; refine (sBest _ _).mono ?_; rintro e w' ⟨rfl, rfl⟩; simp only [bg3, h1, if_true, if_false, Bool.false_eq_true]) | (go_at_call 30; refine (iBest _ _).mono ?_; rintro e w' ⟨rfl, rfl⟩; simp only [bg3, h1, if_true, if_false, Bool.false_eq_true]))
    go_ret
    exact ⟨rfl, (by repeat' (first | exact Below.refl _ _ | refine Below.drew ?_ | refine Below.alloc ?_ (by first | omega | (simp; done) | (simp; omega)) _))⟩
end Go.Proofs.Ytjokokdmdgbocaa
