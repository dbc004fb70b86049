/- Trains: valid or not. No condition. -/
import Derived.Test.YtmdipidejmnijaaGears
import Derived.Test.YtmdipidejmnijaaBetw
namespace Go.Proofs.Ytmdipidejmnijaa
open Go.RowKit

def geB (q : Int × Int) : Bool := betwB q.1 2 120 && betwB q.2 2 120
def trB (xs : List (Int × Int)) : Bool := xs.all geB && betwB xs.length 1 6
theorem all_step {α : Type} {p : α → Bool} {xs : List α} {k : Nat} {q : α} (h : (xs.take k).all p = true) (hq : xs[k]? = some q) (hp : p q = true) : (xs.take (k + 1)).all p = true := by
  rw [List.take_add_one, hq]
  simp [h, hp]
theorem all_no {α : Type} {p : α → Bool} {xs : List α} {k : Nat} {q : α} (hq : xs[k]? = some q) (hp : p q = false) : xs.all p = false := by
  rw [List.all_eq_false]
  exact ⟨q, List.mem_of_getElem? hq, by simp [hp]⟩
theorem all_end {α : Type} {p : α → Bool} {xs : List α} {n : Nat} (h : (xs.take n).all p = true) (hl : xs.length = n) : xs.all p = true := by
  rwa [List.take_of_length_le (by omega)] at h

set_option maxHeartbeats 1000000 in
theorem sTrain {A : Option Addr} {n c : Nat} {xs : List (Int × Int)} (w : World) (h : Reads w w.heap.size 2 A n (flat encPair xs)) (hl : xs.length = n) (hm : n ≤ maxLen) :
    Calls Try.prog 36 #[.slice A n c] w fun e w' => e = .returned (.bool (trB xs)) ∧ w = w' := by
  unfold maxLen at hm
  have HL := Lib.hid hl; clear hl
  go_enter Try.func36, Try.ntmps36
  go_wp2
  go_loop [3] (fun i => ∃ k : Nat, k ≤ n ∧ i = .int .i64 k ∧ Hid ((xs.take k).all geB = true)) (fun i => n - (intOf i).toNat)
  case atStart => exact ⟨0, Nat.zero_le _, rfl, by simp [Hid]⟩
  case round =>
    obtain ⟨k, hk, rfl, hd⟩ := hrel
    skip
    by_cases hlt : k < n
    · obtain ⟨b, off, q, rfl, _, hq, hc⟩ := h.row_at encPair_length (by decide) HL.out hlt
      have HQ := Lib.hid hq; clear hq
      have c0 := hc 0 _ rfl; have c1 := hc 1 _ rfl
      simp only [Nat.add_zero] at c0
      clear hc
      cases h1 : betwB q.1 2 120
      · have hno := Lib.hid (all_no (p := geB) HQ.out (by simp [geB, h1]))
        go_wp2_with (first | (go_at_call 40; refine (l00In_any _ _ _ _).mono ?_; rintro e w' ⟨rfl, rfl⟩))
        go_ret
        exact ⟨ret_b (by simp [trB, hno.out]), rfl⟩
      · cases h2 : betwB q.2 2 120
        · have hno := Lib.hid (all_no (p := geB) HQ.out (by simp [geB, h2]))
          go_wp2_with (first | (go_at_call 40; refine (l00In_any _ _ _ _).mono ?_; rintro e w' ⟨rfl, rfl⟩))
          go_ret
          exact ⟨ret_b (by simp [trB, hno.out]), rfl⟩
        · have hs := Lib.hid (all_step (p := geB) hd.out HQ.out (by simp [geB, h1, h2]))
          go_wp2_with (first | (go_at_call 40; refine (l00In_any _ _ _ _).mono ?_; rintro e w' ⟨rfl, rfl⟩))
          go_round
          case rel => exact ⟨k + 1, by omega, by go_num, hs⟩
          case measure => simp [intOf]; omega
    · obtain rfl : k = n := by omega
      have hA := Lib.hid (all_end hd.out HL.out)
      go_wp2_with (first | (go_at_call 40; refine (l00In_any _ _ _ _).mono ?_; rintro e w' ⟨rfl, rfl⟩))
      go_ret
      exact ⟨ret_b (by simp [trB, hA.out, HL.out]), rfl⟩

set_option maxHeartbeats 1000000 in
theorem iTrain {A : Option Addr} {n c : Nat} {xs : List (Int × Int)} (w : World) (h : Reads w w.heap.size 2 A n (flat encPair xs)) (hl : xs.length = n) (hm : n ≤ maxLen) :
    Calls Try.prog 14 #[.slice A n c] w fun e w' => e = .returned (.bool (trB xs)) ∧ Below w.heap.size w w' := by
  unfold maxLen at hm
  have HL := Lib.hid hl; clear hl
  go_enter Try.func14, Try.ntmps14
  go_wp2
  go_loopw [7] (fun i wr => ∃ k : Nat, k ≤ n ∧ i = .int .i64 k ∧ Hid ((xs.take k).all geB = true) ∧ Below w.heap.size w wr) (fun i _ => n - (intOf i).toNat)
  case atStart => exact ⟨0, Nat.zero_le _, rfl, by simp [Hid], Below.refl _ _⟩
  case round =>
    obtain ⟨k, hk, rfl, hd, hB⟩ := hrel
    have hsz := hB.size
    by_cases hlt : k < n
    · obtain ⟨b, off, q, rfl, _, hq, hc⟩ := (rdB h hB).row_at encPair_length (by decide) HL.out hlt
      have HQ := Lib.hid hq; clear hq
      have c0 := hc 0 _ rfl; have c1 := hc 1 _ rfl
      simp only [Nat.add_zero] at c0
      clear hc
      cases h1 : betwB q.1 2 120
      · have hno := Lib.hid (all_no (p := geB) HQ.out (by simp [geB, h1]))
        go_wp2_with (first | (go_at_call 38; refine (between_any _ _ _ _).mono ?_; rintro e w' ⟨rfl, rfl⟩))
        go_ret
        exact ⟨ret_b (by simp [trB, hno.out]), (by repeat' (first | assumption | exact Below.refl _ _ | refine Below.drew ?_ | refine Below.alloc ?_ (by first | omega | (simp; done) | (simp; omega)) _))⟩
      · cases h2 : betwB q.2 2 120
        · have hno := Lib.hid (all_no (p := geB) HQ.out (by simp [geB, h2]))
          go_wp2_with (first | (go_at_call 38; refine (between_any _ _ _ _).mono ?_; rintro e w' ⟨rfl, rfl⟩))
          go_ret
          exact ⟨ret_b (by simp [trB, hno.out]), (by repeat' (first | assumption | exact Below.refl _ _ | refine Below.drew ?_ | refine Below.alloc ?_ (by first | omega | (simp; done) | (simp; omega)) _))⟩
        · have hs := Lib.hid (all_step (p := geB) hd.out HQ.out (by simp [geB, h1, h2]))
          go_wp2_with (first | (go_at_call 38; refine (between_any _ _ _ _).mono ?_; rintro e w' ⟨rfl, rfl⟩))
          go_roundw
          case rel => exact ⟨k + 1, by omega, by go_num, hs, (by repeat' (first | assumption | exact Below.refl _ _ | refine Below.drew ?_ | refine Below.alloc ?_ (by first | omega | (simp; done) | (simp; omega)) _))⟩
          case measure => simp [intOf]; omega
    · obtain rfl : k = n := by omega
      have hA := Lib.hid (all_end hd.out HL.out)
      go_wp2_with (first | (go_at_call 38; refine (between_any _ _ _ _).mono ?_; rintro e w' ⟨rfl, rfl⟩))
      go_ret
      exact ⟨ret_b (by simp [trB, hA.out, HL.out]), (by repeat' (first | assumption | exact Below.refl _ _ | refine Below.drew ?_ | refine Below.alloc ?_ (by first | omega | (simp; done) | (simp; omega)) _))⟩

set_option maxHeartbeats 400000 in
theorem sValidTrain {A : Option Addr} {n c : Nat} {xs : List (Int × Int)} (w : World) (h : Reads w w.heap.size 2 A n (flat encPair xs)) (hl : xs.length = n) (hm : n ≤ maxLen) :
    Calls Try.prog 12 #[.slice A n c] w fun e w' => e = .returned (.bool (trB xs)) ∧ Below w.heap.size w w' := by
  go_enter Try.func12, Try.ntmps12
  go_wp2_with fail
  refine (sTrain _ h hl hm).mono ?_
  rintro e w' ⟨rfl, rfl⟩
  go_wp2
  go_ret
  exact ⟨rfl, Below.refl _ _⟩
theorem trB_parts {xs : List (Int × Int)} (h : trB xs = true) : (∀ q ∈ xs, (2 ≤ q.1 ∧ q.1 ≤ 120) ∧ 2 ≤ q.2 ∧ q.2 ≤ 120) ∧ 1 ≤ xs.length ∧ xs.length ≤ 6 := by
  simp only [trB, Bool.and_eq_true, betw_iff, List.all_eq_true, geB] at h
  exact ⟨fun q hq => h.1 q hq, by omega⟩
end Go.Proofs.Ytmdipidejmnijaa
