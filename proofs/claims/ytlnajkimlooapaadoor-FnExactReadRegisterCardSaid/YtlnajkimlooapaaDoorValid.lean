/- Registers: valid or not, their value. No condition. -/
import Derived.Test.YtlnajkimlooapaaDoorValReg
namespace Go.Proofs.YtlnajkimlooapaaDoor
open Go.RowKit

theorem okR_base {b : Int} {xs : List Int} (h : betwB b 2 16 = false) : okR b xs = false := by simp [okR, h]
theorem okR_dig {b : Int} {xs : List Int} (h : (digB b xs && betwB xs.length 1 16) = false) : okR b xs = false := by
  simp only [okR]
  rw [show (betwB b 2 16 && betwB (xs.length : Int) 1 16 && digB b xs && decide (valT b xs ≤ 1000000000000)) = (betwB b 2 16 && (digB b xs && betwB (xs.length : Int) 1 16) && decide (valT b xs ≤ 1000000000000)) by ac_rfl, h]
  simp
theorem okR_val {b : Int} {xs : List Int} (h1 : betwB b 2 16 = true) (h2 : (digB b xs && betwB xs.length 1 16) = true) : okR b xs = decide (valT b xs ≤ 1000000000000) := by
  simp only [Bool.and_eq_true] at h2
  simp [okR, h1, h2.1, h2.2]
theorem okR_parts {b : Int} {xs : List Int} (h : okR b xs = true) : (2 ≤ b ∧ b ≤ 16) ∧ (1 ≤ xs.length ∧ xs.length ≤ 16) ∧ digB b xs = true ∧ valT b xs ≤ 1000000000000 := by
  simp only [okR, Bool.and_eq_true, betw_iff, decide_eq_true_eq] at h
  exact ⟨h.1.1.1, by omega, h.1.2, h.2⟩

set_option maxHeartbeats 1000000 in
theorem sOkR {b : Int} {A : Option Addr} {n c : Nat} {xs : List Int} (w : World) (h : Reads w w.heap.size 1 A n (xs.map (Value.int .i64))) (hl : xs.length = n) (hm : n ≤ maxLen) {g : Nat} (c0 : w.cell? ⟨g, 0, none⟩ = some (.int .i64 b)) (c1 : w.cell? ⟨g, 1, none⟩ = some (.slice A n c)) :
    Calls Tryd.prog 29 #[.pointer (some ⟨g, 0, none⟩)] w (RetQ (.bool (okR b xs)) w) := by
  have HL := Lib.hid hl; clear hl
  cases h1 : betwB b 2 16
  · go_enter Tryd.func29, Tryd.ntmps29
    go_wp2_with fail
    go_quiet ((go_at_call 42; exact quietB (sBase _ _) h1))
    go_wp2
    go_ret
    exact ⟨ret_b (okR_base h1).symm, _, rfl⟩
  · obtain ⟨b1, b2⟩ := betw_iff.1 h1
    cases h2 : (digB b xs && betwB n 1 16)
    · go_enter Tryd.func29, Tryd.ntmps29
      go_wp2_with fail
      go_quiet ((first | (go_at_call 42; exact quietB (sBase _ _) h1) | (go_at_call 43; exact quietB (sDigits _ (h.drewN _) HL.out hm b1 b2) h2)))
      go_wp2
      go_ret
      exact ⟨ret_b (okR_dig (by rw [HL.out]; exact h2)).symm, _, rfl⟩
    · have hd : digB b xs = true := by simp only [Bool.and_eq_true] at h2; exact h2.1
      have HD := Lib.hid hd; clear hd
      go_enter Tryd.func29, Tryd.ntmps29
      go_wp2_with fail
      go_quiet ((first | (go_at_call 42; exact quietB (sBase _ _) h1) | (go_at_call 43; exact quietB (sDigits _ (h.drewN _) HL.out hm b1 b2) h2) | (go_at_call 44; exact quietI (sValue _ (h.drewN _) HL.out hm b1 b2 HD.out) rfl)))
      go_wp2
      go_ret
      exact ⟨ret_b (okR_val h1 (by rw [HL.out]; exact h2)).symm, _, rfl⟩

set_option maxHeartbeats 1000000 in
theorem iValidReg {b : Int} {A : Option Addr} {n c : Nat} {xs : List Int} (w : World) (h : Reads w w.heap.size 1 A n (xs.map (Value.int .i64))) (hl : xs.length = n) (hm : n ≤ maxLen) :
    Calls Tryd.prog 32 #[.agg #[.int .i64 b, .slice A n c]] w fun e w' => e = .returned (.bool (okR b xs)) ∧ Below w.heap.size w w' := by
  have HL := Lib.hid hl; clear hl
  have hm0 := hm
  unfold maxLen at hm
  have BS : ∀ W : World, Calls Tryd.prog 37 #[.int .i64 b] W fun e w' => e = .returned (.bool (betwB b 2 16)) ∧ W = w' := fun W => iBase b W
  have HBS := Lib.hid BS; clear BS
  have h1 := (h.alloc (Nat.le_refl _) (.cells #[.int .i64 b, .slice A n c] 38)).more (B' := w.heap.size + 1) (by omega)
  cases h2 : betwB b 2 16
  · go_enter Tryd.func32, Tryd.ntmps32
    go_wp2_with (first | (go_at_call 37; refine (HBS.out _).mono ?_; rintro e w' ⟨rfl, rfl⟩) | (go_at_call 45; refine (iWidth _ _).mono ?_; rintro e w' ⟨rfl, rfl⟩))
    go_ret
    exact ⟨ret_b (okR_base h2).symm, (by repeat' (first | assumption | exact Below.refl _ _ | refine Below.drew ?_ | refine Below.alloc ?_ (by first | omega | (simp; done) | (simp; omega)) _))⟩
  · obtain ⟨b1, b2⟩ := betw_iff.1 h2
    cases h3 : betwB n 1 16
    · go_enter Tryd.func32, Tryd.ntmps32
      go_wp2_with (first | (go_at_call 37; refine (HBS.out _).mono ?_; rintro e w' ⟨rfl, rfl⟩) | (go_at_call 45; refine (iWidth _ _).mono ?_; rintro e w' ⟨rfl, rfl⟩))
      go_ret
      exact ⟨ret_b (okR_dig (by rw [HL.out, h3]; simp)).symm, (by repeat' (first | assumption | exact Below.refl _ _ | refine Below.drew ?_ | refine Below.alloc ?_ (by first | omega | (simp; done) | (simp; omega)) _))⟩
    · go_enter Tryd.func32, Tryd.ntmps32
      go_wp2_with (first | (go_at_call 37; refine (HBS.out _).mono ?_; rintro e w' ⟨rfl, rfl⟩) | (go_at_call 45; refine (iWidth _ _).mono ?_; rintro e w' ⟨rfl, rfl⟩))
      go_loop [19] (fun i => ∃ k : Nat, k ≤ n ∧ i = .int .i64 k ∧ Hid (digB b (xs.take k) = true)) (fun i => n - (intOf i).toNat)
      case atStart => exact ⟨0, Nat.zero_le _, rfl, by simp [Hid, digB]⟩
      case round =>
        obtain ⟨k, hk, rfl, hd⟩ := hrel
        by_cases hlt : k < n
        · obtain ⟨ad, x, rfl, _, hx, hc⟩ := h1.int_at hlt
          have HX := Lib.hid hx; clear hx
          cases hbt : betwB x 0 (b - 1)
          · have hno := Lib.hid (dig_no HX.out hbt)
            go_wp2_with (first | (go_at_call 46; refine (between_any _ _ _ _).mono ?_; rintro e w' ⟨rfl, rfl⟩))
            go_ret
            exact ⟨ret_b (okR_dig (by rw [hno.out]; rfl)).symm, (by repeat' (first | assumption | exact Below.refl _ _ | refine Below.drew ?_ | refine Below.alloc ?_ (by first | omega | (simp; done) | (simp; omega)) _))⟩
          · have hs := Lib.hid (dig_step hd.out HX.out hbt)
            go_wp2_with (first | (go_at_call 46; refine (between_any _ _ _ _).mono ?_; rintro e w' ⟨rfl, rfl⟩))
            go_round
            case rel => exact ⟨k + 1, by omega, by go_num, hs⟩
            case measure => simp [intOf]; omega
        · obtain rfl : k = n := by omega
          have hA := Lib.hid (dig_all hd.out HL.out)
          go_wp2_with fail
          refine (iValue _ (by simpa using h1) HL.out hm0 b1 b2 hA.out).mono ?_
          rintro e w1 ⟨rfl, hb⟩
          go_wp2
          go_ret
          exact ⟨ret_b (okR_val h2 (by rw [HL.out, h3, hA.out]; rfl)).symm, bel2 (by repeat' (first | assumption | exact Below.refl _ _ | refine Below.drew ?_ | refine Below.alloc ?_ (by first | omega | (simp; done) | (simp; omega)) _)) hb⟩

/-- The value, 0 where the register is not valid; the code. -/
def vlR (b : Int) (xs : List Int) : Int := if okR b xs then valT b xs else 0
def cdR (b : Int) (xs : List Int) : Int := if okR b xs then 0 else 1
end Go.Proofs.YtlnajkimlooapaaDoor
