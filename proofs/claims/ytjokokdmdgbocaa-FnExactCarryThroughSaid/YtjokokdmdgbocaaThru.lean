/- The carry that leaves some digits. No condition. -/
import Derived.Test.YtjokokdmdgbocaaSigO
import Derived.Test.YtjokokdmdgbocaaBetw
import Derived.BigQuiet
namespace Go.Proofs.Ytjokokdmdgbocaa
open Go.RowKit

def thrI (a b : Bool) (c : Int) : Int := if a || (b && decide (c = 1)) then 1 else 0
def ctV (a b : Bool) (c : Int) : Int := if betwB c 0 1 then thrI a b c else 0
def ctC (c : Int) : Int := if betwB c 0 1 then 0 else 2

set_option maxHeartbeats 1600000 in
theorem sThru (a b : Bool) (c : Int) (w : World) :
    Calls Try.prog 42 #[.agg #[.bool a, .bool b], .int .i64 c] w fun e w' => e = .returned (.int .i64 (thrI a b c)) ∧ Below w.heap.size w w' := by
  by_cases hc : c = 1
  · have h1 : (c == 1) = true := by simp [hc]
    subst hc
    cases a <;> cases b
    all_goals
      go_enter Try.func42, Try.ntmps42
      go_wp2
      go_ret
      exact ⟨ret_n (by simp [thrI]), (by repeat' (first | assumption | exact Below.refl _ _ | refine Below.drew ?_ | refine belN ?_ _ | refine Below.alloc ?_ (by first | omega | (simp; done) | (simp; omega)) _ | refine Below.setCell ?_ (by first | omega | (simp; done) | (simp; omega)) _))⟩
  · have h1 : (c == 1) = false := by simp [hc]
    cases a <;> cases b
    all_goals
      go_enter Try.func42, Try.ntmps42
      go_wp2
      go_ret
      exact ⟨ret_n (by simp [thrI, hc]), (by repeat' (first | assumption | exact Below.refl _ _ | refine Below.drew ?_ | refine belN ?_ _ | refine Below.alloc ?_ (by first | omega | (simp; done) | (simp; omega)) _ | refine Below.setCell ?_ (by first | omega | (simp; done) | (simp; omega)) _))⟩

set_option maxHeartbeats 1600000 in
theorem iThru (a b : Bool) (c : Int) (w : World) :
    Calls Try.prog 43 #[.agg #[.bool a, .bool b], .int .i64 c] w fun e w' => e = .returned (.int .i64 (thrI a b c)) ∧ Below w.heap.size w w' := by
  by_cases hc : c = 1
  · have h1 : (c == 1) = true := by simp [hc]
    subst hc
    cases a <;> cases b
    all_goals
      go_enter Try.func43, Try.ntmps43
      go_wp2
      go_ret
      exact ⟨ret_n (by simp [thrI]), (by repeat' (first | assumption | exact Below.refl _ _ | refine Below.drew ?_ | refine belN ?_ _ | refine Below.alloc ?_ (by first | omega | (simp; done) | (simp; omega)) _ | refine Below.setCell ?_ (by first | omega | (simp; done) | (simp; omega)) _))⟩
  · have h1 : (c == 1) = false := by simp [hc]
    cases a <;> cases b
    all_goals
      go_enter Try.func43, Try.ntmps43
      go_wp2
      go_ret
      exact ⟨ret_n (by simp [thrI, hc]), (by repeat' (first | assumption | exact Below.refl _ _ | refine Below.drew ?_ | refine belN ?_ _ | refine Below.alloc ?_ (by first | omega | (simp; done) | (simp; omega)) _ | refine Below.setCell ?_ (by first | omega | (simp; done) | (simp; omega)) _))⟩

set_option maxHeartbeats 1600000 in
theorem sThrough {a b : Bool} {c : Int} (w : World) :
    Calls Try.prog 27 #[.agg #[.bool a, .bool b], .int .i64 c] w fun e w' => e = .returned (.tuple #[.int .i64 (ctV a b c), .int .i64 (ctC c)]) ∧ Below w.heap.size w w' := by
  cases h : betwB c 0 1
  · have e1 : ctV a b c = 0 := by simp [ctV, h]
    have e2 : ctC c = 2 := by simp [ctC, h]
    rw [e1, e2]
    clear e1 e2
    go_enter Try.func27, Try.ntmps27
    go_wp2_with (first | (go_at_call 31; refine (l00In_any _ _ _ _).mono ?_; rintro e w' ⟨rfl, rfl⟩))
    go_ret2
    exact ⟨rfl, (by repeat' (first | assumption | exact Below.refl _ _ | refine Below.drew ?_ | refine belN ?_ _ | refine Below.alloc ?_ (by first | omega | (simp; done) | (simp; omega)) _ | refine Below.setCell ?_ (by first | omega | (simp; done) | (simp; omega)) _))⟩
  · have e1 : ctV a b c = thrI a b c := by simp [ctV, h]
    have e2 : ctC c = 0 := by simp [ctC, h]
    rw [e1, e2]
    clear e1 e2
    go_enter Try.func27, Try.ntmps27
    go_wp2_with (first | (go_at_call 31; refine (l00In_any _ _ _ _).mono ?_; rintro e w' ⟨rfl, rfl⟩) | (go_at_call 42; refine (sThru _ _ _ _).mono ?_; rintro e w1 ⟨rfl, hb⟩))
    go_ret2
    exact ⟨rfl, bel2 (by repeat' (first | assumption | exact Below.refl _ _ | refine Below.drew ?_ | refine belN ?_ _ | refine Below.alloc ?_ (by first | omega | (simp; done) | (simp; omega)) _ | refine Below.setCell ?_ (by first | omega | (simp; done) | (simp; omega)) _)) hb⟩

set_option maxHeartbeats 1600000 in
theorem iThrough {a b : Bool} {c : Int} (w : World) :
    Calls Try.prog 28 #[.agg #[.bool a, .bool b], .int .i64 c] w fun e w' => e = .returned (.tuple #[.int .i64 (ctV a b c), .int .i64 (ctC c)]) ∧ Below w.heap.size w w' := by
  cases h : betwB c 0 1
  · have e1 : ctV a b c = 0 := by simp [ctV, h]
    have e2 : ctC c = 2 := by simp [ctC, h]
    rw [e1, e2]
    clear e1 e2
    go_enter Try.func28, Try.ntmps28
    go_wp2_with (first | (go_at_call 40; refine (between_any _ _ _ _).mono ?_; rintro e w' ⟨rfl, rfl⟩))
    go_ret2
    exact ⟨rfl, (by repeat' (first | assumption | exact Below.refl _ _ | refine Below.drew ?_ | refine belN ?_ _ | refine Below.alloc ?_ (by first | omega | (simp; done) | (simp; omega)) _ | refine Below.setCell ?_ (by first | omega | (simp; done) | (simp; omega)) _))⟩
  · have e1 : ctV a b c = thrI a b c := by simp [ctV, h]
    have e2 : ctC c = 0 := by simp [ctC, h]
    rw [e1, e2]
    clear e1 e2
    go_enter Try.func28, Try.ntmps28
    go_wp2_with (first | (go_at_call 40; refine (between_any _ _ _ _).mono ?_; rintro e w' ⟨rfl, rfl⟩) | (go_at_call 43; refine (iThru _ _ _ _).mono ?_; rintro e w1 ⟨rfl, hb⟩))
    go_ret2
    exact ⟨rfl, bel2 (by repeat' (first | assumption | exact Below.refl _ _ | refine Below.drew ?_ | refine belN ?_ _ | refine Below.alloc ?_ (by first | omega | (simp; done) | (simp; omega)) _ | refine Below.setCell ?_ (by first | omega | (simp; done) | (simp; omega)) _)) hb⟩
end Go.Proofs.Ytjokokdmdgbocaa
