/- A text cut at the first colon. No condition. -/
import Derived.Test.YtlnajkimlooapaaDoorRSp
namespace Go.Proofs.YtlnajkimlooapaaDoor
open Go.RowKit

theorem ext_one {s : ByteArray} {k : Nat} (h : k < s.size) : s.extract k (k + 1) = ByteArray.mk #[s[k]] := by
  apply ByteArray.ext
  rw [ByteArray.data_extract]
  have h' : k < s.data.size := h
  apply Array.ext
  · simp; omega
  · intro i h1 h2
    simp at h2
    subst h2
    simp
    rfl
theorem one_eq {s : ByteArray} {k : Nat} (h : k < s.size) : ((s.extract k (k + 1)).toList == [58]) = decide (bt s k = 58) := by
  rw [ext_one h, bt_at h, ByteArray.toList_eq]
  rw [Bool.eq_iff_iff, beq_iff_eq, decide_eq_true_eq]
  constructor
  · intro hh
    have : s[k] = 58 := by simpa using hh
    rw [this]; rfl
  · intro hh
    have : s[k] = 58 := by
      apply UInt8.toNat_inj.1
      have : s[k].toNat = 58 := by omega
      rw [this]; rfl
    rw [this]
def CutPost (s : ByteArray) (w : World) (e : Ending) (w' : World) : Prop := e = .returned (.tuple #[.string (cB s), .string (cD s), .bool (decide (cI s < s.size))]) ∧ ∃ k, w' = w.drewN k
theorem cut_ret {s b d : ByteArray} {o : Bool} {w : World} (n : Nat) (h1 : cB s = b) (h2 : cD s = d) (h3 : decide (cI s < s.size) = o) : CutPost s w (.returned (.tuple #[.string b, .string d, .bool o])) (w.drewN n) := by
  rw [← h1, ← h2, ← h3]
  exact ⟨rfl, n, rfl⟩
set_option maxHeartbeats 1600000 in
theorem iCut {s : ByteArray} (w : World) (hs : s.size ≤ 1048576) :
    Calls Tryd.prog 36 #[.string s, .string (ByteArray.mk #[58])] w (CutPost s w) := by
  go_enter Tryd.func36, Tryd.ntmps36
  go_wp2
  go_loop [7] (fun i => ∃ k : Nat, k ≤ s.size ∧ i = .int .i64 k ∧ Hid (∀ j, j < k → ¬ bt s j = 58)) (fun i => s.size - (intOf i).toNat)
  case atStart => exact ⟨0, Nat.zero_le _, rfl, fun j hj => by omega⟩
  case round =>
    obtain ⟨k, hk, rfl, HN⟩ := hrel
    by_cases hlt : k < s.size
    · have h1 := one_eq hlt
      by_cases hc : bt s k = 58
      · have hI := cI_at hlt HN.out hc
        have HB : Hid (cB s = s.extract 0 k) := by unfold Hid cB; rw [hI]
        have HD : Hid (cD s = s.extract (k + 1) s.size) := by unfold Hid cD; rw [hI]
        have HO : Hid (decide (cI s < s.size) = true) := by unfold Hid; rw [hI]; simpa using hlt
        rw [decide_eq_true hc] at h1
        clear hc hI
        have kz : ((k : Int) + 1).toNat = k + 1 := by omega
        go_wp2
        go_quiet (fail)
        go_wp2
        refine bodyPost_ret (v := .tuple #[.string (s.extract 0 k), .string (s.extract (k + 1) s.size), .bool true]) (by simp [results, Tryd.results36, go_sem]) rfl (cut_ret _ HB.out HD.out HO.out)
      · rw [decide_eq_false hc] at h1
        have HN2 : Hid (∀ j, j < k + 1 → ¬ bt s j = 58) := fun j hj => by
          by_cases he : j = k
          · subst he; exact hc
          · exact HN.out j (by omega)
        clear hc
        go_wp2
        go_round
        case rel => exact ⟨k + 1, by omega, by go_num, HN2⟩
        case measure => simp [intOf]; omega
    · obtain rfl : k = s.size := by omega
      have hI := cI_none HN.out
      have HB : Hid (cB s = s) := by unfold Hid cB; rw [hI]; simp
      have HD : Hid (cD s = ByteArray.mk #[]) := by
        unfold Hid cD
        rw [hI]
        apply ByteArray.ext
        rw [ByteArray.data_extract]
        simp
      have HO : Hid (decide (cI s < s.size) = false) := by unfold Hid; rw [hI]; simp
      clear hI
      go_wp2
      refine bodyPost_ret (v := .tuple #[.string s, .string (ByteArray.mk #[]), .bool false]) (by simp [results, Tryd.results36, go_sem]) rfl (cut_ret 0 HB.out HD.out HO.out)
end Go.Proofs.YtlnajkimlooapaaDoor
