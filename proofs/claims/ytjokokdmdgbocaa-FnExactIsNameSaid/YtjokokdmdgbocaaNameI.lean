/- Names, on both sides. No condition. -/
import Derived.Test.YtjokokdmdgbocaaName
namespace Go.Proofs.Ytjokokdmdgbocaa
open Go.RowKit

theorem list_empty {s : ByteArray} (h : s.size = 0) : s.toList = [] := by
  rw [ByteArray.toList_eq]
  exact List.length_eq_zero_iff.1 h
theorem list_full {s : ByteArray} (h : 0 < s.size) : s.toList.isEmpty = false := by
  rw [ByteArray.toList_eq]
  cases hl : s.data.toList with
  | nil =>
    have : s.data.toList.length = 0 := by rw [hl]; rfl
    have h2 : s.data.toList.length = s.size := rfl
    omega
  | cons => rfl
set_option maxRecDepth 100000 in
set_option maxHeartbeats 3200000 in
theorem sIsName {s : ByteArray} (w : World) (hs : s.size ≤ 1048576) :
    Calls Try.prog 20 #[.string s] w fun e w' => e = .returned (.bool (nmB s)) ∧ Below w.heap.size w w' := by
  by_cases h0 : s.size = 0
  · have HN := Lib.hid (nm_size (s := s) (by omega))
    have e1 := list_empty h0
    have e2 : s.toList.isEmpty = true := by rw [e1]; rfl
    have HE := Lib.hid e1; clear e1 h0
    go_enter Try.func20, Try.ntmps20
    go_wp2
    go_ret
    exact ⟨ret_b HN.out.symm, Below.refl _ _⟩
  have e2 := list_full (s := s) (by omega)
  have e3 : (!s.toList.isEmpty) = true := by rw [e2]; rfl
  by_cases h1 : s.size ≤ 12
  rotate_left
  · have HN := Lib.hid (nm_size (s := s) (by omega))
    have h2 : (12 : Int) < (s.size : Int) := by omega
    clear h1
    go_enter Try.func20, Try.ntmps20
    go_wp2
    go_ret
    exact ⟨ret_b HN.out.symm, Below.refl _ _⟩
  have z0 : 0 < s.size := by omega
  have HB := Lib.hid (bt_at z0)
  have HY := Lib.hid (fun a b => nm_yes (s := s) (by omega) a b)
  have HF := Lib.hid (fun a => nm_first (s := s) a)
  cases h2 : betwB (s[0].toNat : Int) 97 122
  · have HN := Lib.hid (HF.out (by rw [HB.out]; exact h2))
    go_enter Try.func20, Try.ntmps20
    go_wp2_with (first | (go_at_call 32; refine (sSmall _ _).mono ?_; rintro e w' ⟨rfl, rfl⟩) | (go_at_call 33; refine (sDig _ _).mono ?_; rintro e w' ⟨rfl, rfl⟩))
    go_ret
    exact ⟨ret_b HN.out.symm, Below.refl _ _⟩
  have HH : Hid (betwB (bt s 0) 97 122 = true) := by unfold Hid; rw [HB.out]; exact h2
  go_enter Try.func20, Try.ntmps20
  go_wp2_with (first | (go_at_call 32; refine (sSmall _ _).mono ?_; rintro e w' ⟨rfl, rfl⟩) | (go_at_call 33; refine (sDig _ _).mono ?_; rintro e w' ⟨rfl, rfl⟩))
  go_loop [3] (fun i => ∃ k : Nat, k ≤ s.size ∧ i = .int .i64 k ∧ Hid ((List.range k).all (fun k => okI (bt s k)) = true)) (fun i => s.size - (intOf i).toNat)
  case atStart => exact ⟨0, Nat.zero_le _, rfl, by simp [Hid]⟩
  case round =>
    obtain ⟨k, hk, rfl, hd⟩ := hrel
    by_cases hlt : k < s.size
    · have HK := Lib.hid (bt_at hlt)
      have HST := Lib.hid (fun hh => rg_step (p := fun k => okI (bt s k)) hd.out hh)
      cases q1 : betwB (s[k].toNat : Int) 97 122
      · cases q2 : betwB (s[k].toNat : Int) 48 57
        · by_cases q3 : s[k].toNat = 45
          · have HS := Lib.hid (HST.out (by show okI (bt s k) = true; rw [HK.out, okI, q1, q2, q3]; rfl))
            have b1 : ((s[k].toNat : Int) == 45) = true := by simp [q3]
            have b2 : ((s[k].toNat : Int) != 45) = false := by simp [q3]
            clear q3
            go_wp2_with (first | (go_at_call 32; refine (sSmall _ _).mono ?_; rintro e w' ⟨rfl, rfl⟩) | (go_at_call 33; refine (sDig _ _).mono ?_; rintro e w' ⟨rfl, rfl⟩))
            go_round
            case rel => exact ⟨k + 1, by omega, by go_num, HS⟩
            case measure => simp [intOf]; omega
          · have HN := Lib.hid (nm_all (s := s) (rg_no (k := k) hlt (by show okI (bt s k) = false; rw [HK.out, okI, q1, q2]; simp; omega)))
            have b1 : ((s[k].toNat : Int) == 45) = false := by simp; omega
            have b2 : ((s[k].toNat : Int) != 45) = true := by simp [bne, b1]
            clear q3
            go_wp2_with (first | (go_at_call 32; refine (sSmall _ _).mono ?_; rintro e w' ⟨rfl, rfl⟩) | (go_at_call 33; refine (sDig _ _).mono ?_; rintro e w' ⟨rfl, rfl⟩))
            go_ret
            exact ⟨ret_b HN.out.symm, Below.refl _ _⟩
        · have HS := Lib.hid (HST.out (by show okI (bt s k) = true; rw [HK.out, okI, q1, q2]; rfl))
          go_wp2_with (first | (go_at_call 32; refine (sSmall _ _).mono ?_; rintro e w' ⟨rfl, rfl⟩) | (go_at_call 33; refine (sDig _ _).mono ?_; rintro e w' ⟨rfl, rfl⟩))
          go_round
          case rel => exact ⟨k + 1, by omega, by go_num, HS⟩
          case measure => simp [intOf]; omega
      · have HS := Lib.hid (HST.out (by show okI (bt s k) = true; rw [HK.out, okI, q1]; rfl))
        go_wp2_with (first | (go_at_call 32; refine (sSmall _ _).mono ?_; rintro e w' ⟨rfl, rfl⟩) | (go_at_call 33; refine (sDig _ _).mono ?_; rintro e w' ⟨rfl, rfl⟩))
        go_round
        case rel => exact ⟨k + 1, by omega, by go_num, HS⟩
        case measure => simp [intOf]; omega
    · obtain rfl : k = s.size := by omega
      have HN := Lib.hid (HY.out HH.out hd.out)
      go_wp2
      go_ret
      exact ⟨ret_b HN.out.symm, Below.refl _ _⟩

set_option maxRecDepth 100000 in
set_option maxHeartbeats 3200000 in
theorem iIsName {s : ByteArray} (w : World) (hs : s.size ≤ 1048576) :
    Calls Try.prog 21 #[.string s] w fun e w' => e = .returned (.bool (nmB s)) ∧ Below w.heap.size w w' := by
  by_cases h0 : s.size = 0
  · have HN := Lib.hid (nm_size (s := s) (by omega))
    have b1 : ((s.size : Int) == 0) = true := by simp [h0]
    clear h0
    go_enter Try.func21, Try.ntmps21
    go_wp2
    go_ret
    exact ⟨ret_b HN.out.symm, Below.refl _ _⟩
  have b0 : ((s.size : Int) == 0) = false := by rw [beq_eq_false_iff_ne]; omega
  by_cases h1 : s.size ≤ 12
  rotate_left
  · have HN := Lib.hid (nm_size (s := s) (by omega))
    have h2 : (12 : Int) < (s.size : Int) := by omega
    clear h1 h0
    go_enter Try.func21, Try.ntmps21
    go_wp2
    go_ret
    exact ⟨ret_b HN.out.symm, Below.refl _ _⟩
  have z0 : 0 < s.size := by omega
  have HY := Lib.hid (fun a b => nm_yes (s := s) (by omega) a b)
  have HF := Lib.hid (fun a => nm_first (s := s) a)
  clear h0
  go_enter Try.func21, Try.ntmps21
  go_wp2
  clear b0
  go_loop [15] (fun i => ∃ k : Nat, k ≤ s.size ∧ i = .int .i64 k ∧ Hid ((List.range k).all (fun k => okI (bt s k)) = true) ∧ Hid (0 < k → betwB (bt s 0) 97 122 = true)) (fun i => s.size - (intOf i).toNat)
  case atStart => exact ⟨0, Nat.zero_le _, rfl, by simp [Hid], fun h => absurd h (by omega)⟩
  case round =>
    obtain ⟨k, hk, rfl, hd, hf⟩ := hrel
    by_cases hlt : k < s.size
    · have HK := Lib.hid (bt_at hlt)
      have HST := Lib.hid (fun hh => rg_step (p := fun k => okI (bt s k)) hd.out hh)
      by_cases q1 : 97 ≤ s[k].toNat ∧ s[k].toNat ≤ 122
      · have HQ : Hid (betwB (bt s k) 97 122 = true) := by unfold Hid; rw [HK.out]; exact betw_iff.2 (by omega)
        have HS := Lib.hid (HST.out (by show okI (bt s k) = true; rw [okI, HQ.out]; rfl))
        have HF2 : Hid (0 < k + 1 → betwB (bt s 0) 97 122 = true) := by
          intro _
          by_cases hk0 : k = 0
          · subst hk0; exact HQ.out
          · exact hf.out (by omega)
        obtain ⟨q2, q3⟩ := q1
        go_wp2_with (first | (go_at_call 34; refine (iDig _ _).mono ?_; rintro e w' ⟨rfl, rfl⟩))
        go_round
        case rel => exact ⟨k + 1, by omega, by go_num, HS, HF2⟩
        case measure => simp [intOf]; omega
      · have HQ : Hid (betwB (bt s k) 97 122 = false) := by
          unfold Hid
          rw [HK.out]
          cases hb : betwB (s[k].toNat : Int) 97 122
          · rfl
          · have := betw_iff.1 hb; omega
        have DD : (decide (97 ≤ s[k].toNat) = false ∧ decide ((97 : Int) ≤ (s[k].toNat : Int)) = false ∧ ¬ 97 ≤ s[k].toNat) ∨ (decide (s[k].toNat ≤ 122) = false ∧ decide ((s[k].toNat : Int) ≤ 122) = false ∧ 122 < s[k].toNat) := by
          by_cases hh : 97 ≤ s[k].toNat
          · right
            have h122 : 122 < s[k].toNat := by omega
            exact ⟨by simp; omega, by simp; omega, h122⟩
          · left
            exact ⟨by simp; omega, by simp; omega, hh⟩
        clear q1
        by_cases hk0 : k = 0
        · subst hk0
          have HN := Lib.hid (HF.out HQ.out)
          rcases DD with ⟨q1, q2, q3'⟩ | ⟨q1, q2, q3'⟩
          all_goals
            go_wp2_with (first | (go_at_call 34; refine (iDig _ _).mono ?_; rintro e w' ⟨rfl, rfl⟩))
            go_ret
            exact ⟨ret_b HN.out.symm, Below.refl _ _⟩
        · have c0 : ((k : Int) == 0) = false := by simp; omega
          have HF2 : Hid (0 < k + 1 → betwB (bt s 0) 97 122 = true) := fun _ => hf.out (by omega)
          clear hk0
          by_cases q3 : s[k].toNat = 45
          · have HS := Lib.hid (HST.out (by show okI (bt s k) = true; rw [okI, HQ.out, HK.out, q3]; rfl))
            have b1 : ((s[k].toNat : Int) == 45) = true := by simp [q3]
            have b2 : ((s[k].toNat : Int) != 45) = false := by simp [q3]
            clear q3
            rcases DD with ⟨q1, q2, q3'⟩ | ⟨q1, q2, q3'⟩
            all_goals
              go_wp2_with (first | (go_at_call 34; refine (iDig _ _).mono ?_; rintro e w' ⟨rfl, rfl⟩))
              go_round
              case rel => exact ⟨k + 1, by omega, by go_num, HS, HF2⟩
              case measure => simp [intOf]; omega
          · have b1 : ((s[k].toNat : Int) == 45) = false := by simp; omega
            have b2 : ((s[k].toNat : Int) != 45) = true := by simp [bne, b1]
            cases q4 : betwB (s[k].toNat : Int) 48 57
            · have HN := Lib.hid (nm_all (s := s) (rg_no (k := k) hlt (by show okI (bt s k) = false; rw [okI, HQ.out, HK.out, q4]; simp; omega)))
              clear q3
              rcases DD with ⟨q1, q2, q3'⟩ | ⟨q1, q2, q3'⟩
              all_goals
                go_wp2_with (first | (go_at_call 34; refine (iDig _ _).mono ?_; rintro e w' ⟨rfl, rfl⟩))
                go_ret
                exact ⟨ret_b HN.out.symm, Below.refl _ _⟩
            · have HS := Lib.hid (HST.out (by show okI (bt s k) = true; rw [okI, HQ.out, HK.out, q4]; rfl))
              clear q3
              rcases DD with ⟨q1, q2, q3'⟩ | ⟨q1, q2, q3'⟩
              all_goals
                go_wp2_with (first | (go_at_call 34; refine (iDig _ _).mono ?_; rintro e w' ⟨rfl, rfl⟩))
                go_round
                case rel => exact ⟨k + 1, by omega, by go_num, HS, HF2⟩
                case measure => simp [intOf]; omega
    · obtain rfl : k = s.size := by omega
      have HN := Lib.hid (HY.out (hf.out z0) hd.out)
      go_wp2
      go_ret
      exact ⟨ret_b HN.out.symm, Below.refl _ _⟩
end Go.Proofs.Ytjokokdmdgbocaa
