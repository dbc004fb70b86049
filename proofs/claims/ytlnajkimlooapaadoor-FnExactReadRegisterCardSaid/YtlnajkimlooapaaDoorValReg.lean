/- Registers that are valid, and their values. No condition. -/
import Derived.Test.YtlnajkimlooapaaDoorReg
namespace Go.Proofs.YtlnajkimlooapaaDoor
open Go.RowKit

def digB (b : Int) (xs : List Int) : Bool := decide (∀ x ∈ xs, 0 ≤ x ∧ x ≤ b - 1)
def valT (b : Int) : List Int → Int
  | [] => 0
  | x :: xs => min 1000000000001 (valT b xs * b + x)
def okR (b : Int) (xs : List Int) : Bool := betwB b 2 16 && betwB xs.length 1 16 && digB b xs && decide (valT b xs ≤ 1000000000000)

theorem dig_step {b x : Int} {xs : List Int} {k : Nat} (h : digB b (xs.take k) = true) (hx : xs[k]? = some x) (hb : betwB x 0 (b - 1) = true) : digB b (xs.take (k + 1)) = true := by
  simp only [digB, decide_eq_true_eq] at h ⊢
  intro y hy
  rw [List.take_add_one, hx] at hy
  simp only [Option.toList_some, List.mem_append, List.mem_singleton] at hy
  rcases hy with hy | rfl
  · exact h y hy
  · exact betw_iff.1 hb
theorem dig_no {b x : Int} {xs : List Int} {k : Nat} (hx : xs[k]? = some x) (hb : betwB x 0 (b - 1) = false) : digB b xs = false := by
  simp only [digB, decide_eq_false_iff_not]
  intro h
  have := h x (List.mem_of_getElem? hx)
  simp only [betwB, decide_eq_false_iff_not] at hb
  exact hb this
theorem dig_all {b : Int} {xs : List Int} {n : Nat} (h : digB b (xs.take n) = true) (hl : xs.length = n) : digB b xs = true := by
  rwa [List.take_of_length_le (by omega)] at h
theorem dig_at {b x : Int} {xs : List Int} {k : Nat} (h : digB b xs = true) (hx : xs[k]? = some x) : 0 ≤ x ∧ x ≤ b - 1 := by
  simp only [digB, decide_eq_true_eq] at h
  exact h x (List.mem_of_getElem? hx)
theorem dig_drop {b : Int} {xs : List Int} (k : Nat) (h : digB b xs = true) : digB b (xs.drop k) = true := by
  simp only [digB, decide_eq_true_eq] at h ⊢
  exact fun x hx => h x (List.mem_of_mem_drop hx)
theorem mul_bd {v b : Int} (h0 : 0 ≤ v) (h1 : v ≤ 1000000000001) (hb : 2 ≤ b) (hb' : b ≤ 16) : v ≤ v * b ∧ v * b ≤ 16000000000016 := by
  have e1 : v * 2 ≤ v * b := Int.mul_le_mul_of_nonneg_left hb h0
  have e2 : v * b ≤ v * 16 := Int.mul_le_mul_of_nonneg_left hb' h0
  omega
theorem valT_bd {b : Int} (hb : 2 ≤ b) (hb' : b ≤ 16) : ∀ {xs : List Int}, digB b xs = true → 0 ≤ valT b xs ∧ valT b xs ≤ 1000000000001
  | [], _ => by simp [valT]
  | x :: xs, h => by
    have hx := dig_at (k := 0) h rfl
    have ih := valT_bd hb hb' (xs := xs) (dig_drop 1 h)
    have := mul_bd ih.1 ih.2 hb hb'
    unfold valT
    omega
theorem valT_step {b x : Int} {xs : List Int} {k : Nat} (hx : xs[k]? = some x) : valT b (xs.drop k) = min 1000000000001 (valT b (xs.drop (k + 1)) * b + x) := by
  obtain ⟨hk, he⟩ := List.getElem?_eq_some_iff.1 hx
  have hd := List.drop_eq_getElem_cons hk
  rw [hd, valT, he]
theorem valT_top {b : Int} (hb : 2 ≤ b) (hb' : b ≤ 16) {xs : List Int} (h : digB b xs = true) : ∀ (k : Nat), valT b (xs.drop k) = 1000000000001 → valT b xs = 1000000000001
  | 0, h0 => by simpa using h0
  | k + 1, h1 => by
    refine valT_top hb hb' h k ?_
    cases hx : xs[k]? with
    | none =>
      rw [List.drop_of_length_le (by rw [List.getElem?_eq_none_iff] at hx; omega)] at h1
      simp [valT] at h1
    | some x =>
      have := dig_at h hx
      rw [valT_step hx, h1]
      omega

set_option maxHeartbeats 400000 in
theorem l00In_any (n lo hi : Int) (w : World) :
    Calls Tryd.prog 52 #[.int .i64 n, .int .i64 lo, .int .i64 hi] w fun e w' => e = .returned (.bool (betwB n lo hi)) ∧ w = w' := by
  by_cases h1 : lo ≤ n <;> by_cases h2 : n ≤ hi
  all_goals
    go_enter Tryd.func52, Tryd.ntmps52
    go_wp2
    go_ret
    exact ⟨by simp [betwB, h1, h2], rfl⟩
set_option maxHeartbeats 400000 in
theorem between_any (n lo hi : Int) (w : World) :
    Calls Tryd.prog 46 #[.int .i64 n, .int .i64 lo, .int .i64 hi] w fun e w' => e = .returned (.bool (betwB n lo hi)) ∧ w = w' := by
  by_cases h1 : lo ≤ n <;> by_cases h2 : n ≤ hi
  all_goals
    go_enter Tryd.func46, Tryd.ntmps46
    go_wp2
    go_ret
    exact ⟨by simp [betwB, h1, h2], rfl⟩

set_option maxHeartbeats 400000 in
theorem sBase (n : Int) (w : World) : Calls Tryd.prog 42 #[.int .i64 n] w fun e w' => e = .returned (.bool (betwB n 2 16)) ∧ w = w' := by
  go_enter Tryd.func42, Tryd.ntmps42
  go_wp2_with (first | (go_at_call 52; refine (l00In_any _ _ _ _).mono ?_; rintro e w' ⟨rfl, rfl⟩))
  go_ret
  exact ⟨rfl, rfl⟩

set_option maxHeartbeats 400000 in
theorem iBase (n : Int) (w : World) : Calls Tryd.prog 37 #[.int .i64 n] w fun e w' => e = .returned (.bool (betwB n 2 16)) ∧ w = w' := by
  go_enter Tryd.func37, Tryd.ntmps37
  go_wp2_with (first | (go_at_call 46; refine (between_any _ _ _ _).mono ?_; rintro e w' ⟨rfl, rfl⟩))
  go_ret
  exact ⟨rfl, rfl⟩

set_option maxHeartbeats 400000 in
theorem iWidth (n : Int) (w : World) : Calls Tryd.prog 45 #[.int .i64 n] w fun e w' => e = .returned (.bool (betwB n 1 16)) ∧ w = w' := by
  go_enter Tryd.func45, Tryd.ntmps45
  go_wp2_with (first | (go_at_call 46; refine (between_any _ _ _ _).mono ?_; rintro e w' ⟨rfl, rfl⟩))
  go_ret
  exact ⟨rfl, rfl⟩

set_option maxHeartbeats 800000 in
theorem sDigits {b : Int} {A : Option Addr} {n c : Nat} {xs : List Int} (w : World) (h : Reads w w.heap.size 1 A n (xs.map (Value.int .i64))) (hl : xs.length = n) (hm : n ≤ maxLen) (hb : 2 ≤ b) (hb' : b ≤ 16) :
    Calls Tryd.prog 43 #[.int .i64 b, .slice A n c] w fun e w' => e = .returned (.bool (digB b xs && betwB n 1 16)) ∧ w = w' := by
  unfold maxLen at hm
  have HL := Lib.hid hl; clear hl
  go_enter Tryd.func43, Tryd.ntmps43
  go_wp2
  go_loop [5] (fun i => ∃ k : Nat, k ≤ n ∧ i = .int .i64 k ∧ Hid (digB b (xs.take k) = true)) (fun i => n - (intOf i).toNat)
  case atStart => exact ⟨0, Nat.zero_le _, rfl, by simp [Hid, digB]⟩
  case round =>
    obtain ⟨k, hk, rfl, hd⟩ := hrel
    by_cases hlt : k < n
    · obtain ⟨ad, x, rfl, _, hx, hc⟩ := h.int_at hlt
      have HX := Lib.hid hx; clear hx
      cases hbt : betwB x 0 (b - 1)
      · have hno := dig_no HX.out hbt
        go_wp2_with (first | (go_at_call 52; refine (l00In_any _ _ _ _).mono ?_; rintro e w' ⟨rfl, rfl⟩))
        go_ret
        exact ⟨ret_b (by rw [hno]; rfl), rfl⟩
      · have hs := Lib.hid (dig_step hd.out HX.out hbt)
        go_wp2_with (first | (go_at_call 52; refine (l00In_any _ _ _ _).mono ?_; rintro e w' ⟨rfl, rfl⟩))
        go_round
        case rel => exact ⟨k + 1, by omega, by go_num, hs⟩
        case measure => simp [intOf]; omega
    · obtain rfl : k = n := by omega
      have hA := Lib.hid (dig_all hd.out HL.out)
      go_wp2_with (first | (go_at_call 52; refine (l00In_any _ _ _ _).mono ?_; rintro e w' ⟨rfl, rfl⟩))
      go_ret
      exact ⟨ret_b (by rw [hA.out]; rfl), rfl⟩

set_option maxHeartbeats 800000 in
theorem sValue {b : Int} {A : Option Addr} {n c : Nat} {xs : List Int} (w : World) (h : Reads w w.heap.size 1 A n (xs.map (Value.int .i64))) (hl : xs.length = n) (hm : n ≤ maxLen) (hb : 2 ≤ b) (hb' : b ≤ 16) (hd : digB b xs = true) :
    Calls Tryd.prog 44 #[.int .i64 b, .slice A n c] w fun e w' => e = .returned (.int .i64 (valT b xs)) ∧ w = w' := by
  unfold maxLen at hm
  have HL := Lib.hid hl; clear hl
  have HD := Lib.hid hd; clear hd
  go_enter Tryd.func44, Tryd.ntmps44
  go_wp2
  go_loop [5, 6] (fun s i => ∃ k : Nat, k ≤ n ∧ i = .int .i64 ((k : Int) - 1) ∧ s = .int .i64 (valT b (xs.drop k))) (fun _ i => (intOf i + 1).toNat)
  case atStart => exact ⟨n, Nat.le_refl _, rfl, by rw [List.drop_of_length_le (by rw [HL.out]; exact Nat.le_refl _)]; rfl⟩
  case round =>
    obtain ⟨k, hk, hi, rfl⟩ := hrel
    obtain ⟨v0, v1⟩ := valT_bd hb hb' (dig_drop k HD.out)
    obtain ⟨p0, p1⟩ := mul_bd v0 v1 hb hb'
    rcases k with _ | j
    · subst hi
      go_wp2
      go_ret
      exact ⟨by simp, rfl⟩
    · rw [show (((j + 1 : Nat) : Int) - 1) = (j : Int) by omega] at hi
      subst hi
      obtain ⟨ad, x, rfl, _, hx, hc⟩ := h.int_at (show j < n by omega)
      obtain ⟨x0, x1⟩ := dig_at HD.out hx
      have HS := Lib.hid (valT_step (b := b) hx); clear hx
      by_cases hcmp : 1000000000001 < valT b (xs.drop (j + 1)) * b + x
      all_goals
        go_wp2
        go_round
        case rel => exact ⟨j, by omega, by go_num, by rw [HS.out]; go_num⟩
        case measure => simp [intOf]

set_option maxHeartbeats 800000 in
theorem iValue {b : Int} {A : Option Addr} {n c : Nat} {xs : List Int} (w : World) (h : Reads w w.heap.size 1 A n (xs.map (Value.int .i64))) (hl : xs.length = n) (hm : n ≤ maxLen) (hb : 2 ≤ b) (hb' : b ≤ 16) (hd : digB b xs = true) :
    Calls Tryd.prog 47 #[.agg #[.int .i64 b, .slice A n c]] w fun e w' => e = .returned (.int .i64 (valT b xs)) ∧ Below w.heap.size w w' := by
  unfold maxLen at hm
  have HL := Lib.hid hl; clear hl
  have HD := Lib.hid hd; clear hd
  have h1 := (h.alloc (Nat.le_refl _) (.cells #[.int .i64 b, .slice A n c] 38)).more (B' := w.heap.size + 1) (by omega)
  go_enter Tryd.func47, Tryd.ntmps47
  go_wp2
  go_loopw [3, 4] (fun s i wr => ∃ k m : Nat, k ≤ n ∧ i = .int .i64 ((k : Int) - 1) ∧ s = .int .i64 (valT b (xs.drop k)) ∧ valT b (xs.drop k) ≤ 1000000000000 ∧ wr = (w.alloc (.cells #[.int .i64 b, .slice A n c] 38)).drewN m) (fun _ i _ => (intOf i + 1).toNat)
  case atStart => exact ⟨n, 0, Nat.le_refl _, rfl, by rw [List.drop_of_length_le (by rw [HL.out]; exact Nat.le_refl _)]; rfl, by rw [List.drop_of_length_le (by rw [HL.out]; exact Nat.le_refl _)]; simp [valT], rfl⟩
  case round =>
    obtain ⟨k, m, hk, hi, rfl, hle, rfl⟩ := hrel
    obtain ⟨v0, v1⟩ := valT_bd hb hb' (dig_drop k HD.out)
    obtain ⟨p0, p1⟩ := mul_bd v0 v1 hb hb'
    rcases k with _ | j
    · subst hi
      go_wp2
      go_ret
      exact ⟨by simp, bel2 ((Below.refl _ _).alloc (Nat.le_refl _) _) (RetQ.bel m)⟩
    · rw [show (((j + 1 : Nat) : Int) - 1) = (j : Int) by omega] at hi
      subst hi
      obtain ⟨ad, x, rfl, _, hx, hc⟩ := h1.int_at (show j < n by omega)
      obtain ⟨x0, x1⟩ := dig_at HD.out hx
      have HS := Lib.hid (valT_step (b := b) hx); clear hx
      by_cases hcmp : 1000000000000 < valT b (xs.drop (j + 1)) * b + x
      · have HT := Lib.hid (valT_top hb hb' HD.out j (by rw [HS.out]; omega))
        go_wp2
        go_quiet (fail)
        go_wp2
        go_ret
        exact ⟨ret_n HT.out.symm, bel2 ((Below.refl _ _).alloc (Nat.le_refl _) _) (by first | exact RetQ.bel _ | (rw [World.drewN_drewN]; exact RetQ.bel _))⟩
      · go_wp2
        go_quiet (fail)
        go_wp2
        go_roundw
        case rel => exact ⟨j, m + nq, by omega, by go_num, by rw [HS.out]; go_num, by rw [HS.out]; omega, by first | rfl | exact World.drewN_drewN _ _ _⟩
        case measure => simp [intOf]
end Go.Proofs.YtlnajkimlooapaaDoor
