/- Drums: valid or not, the times of their steps. No condition. -/
import Derived.Test.YthpaampkpajdfaaBetw
namespace Go.Proofs.Ythpaampkpajdfaa
open Go.RowKit

attribute [local irreducible] wpQuiet

def okD (K B T F : Int) : Bool := betwB K 1 3 && betwB B 2 16 && betwB T B 60 && (if K = 3 then decide (F = 0) else betwB F 1 (T - B + 2))
def timeD (K B T F d t : Int) : Int := if K = 1 then F + B - 1 - d + t else if K = 2 then F + t else ((t + 1) * T + d - 1) / d
theorem okD_1 {K B T F : Int} (h : betwB K 1 3 = false) : okD K B T F = false := by simp [okD, h]
theorem okD_2 {K B T F : Int} (h : betwB B 2 16 = false) : okD K B T F = false := by simp [okD, h]
theorem okD_3 {K B T F : Int} (h : betwB T B 60 = false) : okD K B T F = false := by simp [okD, h]
theorem okD_4 {K B T F : Int} (h1 : betwB K 1 3 = true) (h2 : betwB B 2 16 = true) (h3 : betwB T B 60 = true) : okD K B T F = if K = 3 then decide (F = 0) else betwB F 1 (T - B + 2) := by simp [okD, h1, h2, h3]
theorem okD_parts {K B T F : Int} (h : okD K B T F = true) : (1 ≤ K ∧ K ≤ 3) ∧ (2 ≤ B ∧ B ≤ 16) ∧ (B ≤ T ∧ T ≤ 60) ∧ (0 ≤ F ∧ F ≤ 60) := by
  simp only [okD, Bool.and_eq_true, betw_iff] at h
  obtain ⟨⟨⟨h1, h2⟩, h3⟩, h4⟩ := h
  refine ⟨h1, h2, h3, ?_⟩
  split at h4
  · simp at h4; omega
  · rw [betw_iff] at h4; omega
theorem timeD_1 {B T F d t : Int} : timeD 1 B T F d t = F + B - 1 - d + t := by simp [timeD]
theorem timeD_2 {B T F d t : Int} : timeD 2 B T F d t = F + t := by simp [timeD]
theorem timeD_3 {B T F d t : Int} : timeD 3 B T F d t = ((t + 1) * T + d - 1) / d := by simp [timeD]
theorem mulT {t T : Int} (h0 : 0 ≤ t) (h1 : t ≤ 16) (h2 : 0 ≤ T) (h3 : T ≤ 60) : 0 ≤ (t + 1) * T ∧ (t + 1) * T ≤ 1020 := by
  have e0 : 0 ≤ (t + 1) * T := Int.mul_nonneg (by omega) h2
  have e1 : (t + 1) * T ≤ (t + 1) * 60 := Int.mul_le_mul_of_nonneg_left h3 (by omega)
  omega
theorem timeD_bd {K B T F d t : Int} (hB : 2 ≤ B ∧ B ≤ 16) (hT : B ≤ T ∧ T ≤ 60) (hF : 0 ≤ F ∧ F ≤ 60) (hd : 0 ≤ d ∧ d ≤ B - 1) (ht : 0 ≤ t ∧ t < d) : 0 ≤ timeD K B T F d t ∧ timeD K B T F d t ≤ 2000 := by
  unfold timeD
  split
  · omega
  · split
    · omega
    · have := mulT ht.1 (by omega) (show 0 ≤ T by omega) hT.2
      constructor
      · exact Int.ediv_nonneg (by omega) (by omega)
      · have := Int.ediv_le_self d (show 0 ≤ (t + 1) * T + d - 1 by omega)
        omega

set_option maxHeartbeats 400000 in
theorem sBase (n : Int) (w : World) : Calls Try.prog 92 #[.int .i64 n] w fun e w' => e = .returned (.bool (betwB n 2 16)) ∧ w = w' := by
  go_enter Try.func92, Try.ntmps92
  go_wp2_with (first | (go_at_call 65; refine (l00In_any _ _ _ _).mono ?_; rintro e w' ⟨rfl, rfl⟩))
  go_ret
  exact ⟨rfl, rfl⟩

set_option maxHeartbeats 400000 in
theorem iBase (n : Int) (w : World) : Calls Try.prog 94 #[.int .i64 n] w fun e w' => e = .returned (.bool (betwB n 2 16)) ∧ w = w' := by
  go_enter Try.func94, Try.ntmps94
  go_wp2_with (first | (go_at_call 97; refine (between_any _ _ _ _).mono ?_; rintro e w' ⟨rfl, rfl⟩))
  go_ret
  exact ⟨rfl, rfl⟩

set_option maxHeartbeats 400000 in
theorem iTime (n : Int) (w : World) : Calls Try.prog 67 #[.int .i64 n] w fun e w' => e = .returned (.bool (betwB n 0 100000)) ∧ w = w' := by
  go_enter Try.func67, Try.ntmps67
  go_wp2_with (first | (go_at_call 97; refine (between_any _ _ _ _).mono ?_; rintro e w' ⟨rfl, rfl⟩))
  go_ret
  exact ⟨rfl, rfl⟩

set_option maxHeartbeats 1000000 in
theorem sOkD (w : World) {K B T F : Int} {g : Nat} (c0 : w.cell? ⟨g, 0, none⟩ = some (.int .i64 K)) (c1 : w.cell? ⟨g, 1, none⟩ = some (.int .i64 B)) (c2 : w.cell? ⟨g, 2, none⟩ = some (.int .i64 T)) (c3 : w.cell? ⟨g, 3, none⟩ = some (.int .i64 F)) :
    Calls Try.prog 70 #[.pointer (some ⟨g, 0, none⟩)] w (RetQ (.bool (okD K B T F)) w) := by
  cases hK : betwB K 1 3
  · go_enter Try.func70, Try.ntmps70
    go_wp2_with fail
    go_quiet (first | (go_at_call 65; exact quietB (l00In_any _ _ _ _) hK))
    go_wp2
    go_ret
    exact ⟨ret_b (okD_1 hK).symm, _, rfl⟩
  · cases hB : betwB B 2 16
    · go_enter Try.func70, Try.ntmps70
      go_wp2_with fail
      go_quiet (first | (go_at_call 65; exact quietB (l00In_any _ _ _ _) hK) | (go_at_call 92; exact quietB (sBase _ _) hB))
      go_wp2
      go_ret
      exact ⟨ret_b (okD_2 hB).symm, _, rfl⟩
    · cases hT : betwB T B 60
      · go_enter Try.func70, Try.ntmps70
        go_wp2_with fail
        go_quiet (first | (go_at_call 65; exact quietB (l00In_any _ _ _ _) hK) | (go_at_call 92; exact quietB (sBase _ _) hB) | (go_at_call 65; exact quietB (l00In_any _ _ _ _) hT))
        go_wp2
        go_ret
        exact ⟨ret_b (okD_3 hT).symm, _, rfl⟩
      · obtain ⟨k1, k2⟩ := betw_iff.1 hK
        obtain ⟨b1, b2⟩ := betw_iff.1 hB
        obtain ⟨t1, t2⟩ := betw_iff.1 hT
        have hE := Lib.hid (okD_4 (F := F) hK hB hT)
        by_cases h3 : K = 3
        · subst h3
          go_enter Try.func70, Try.ntmps70
          go_wp2_with fail
          go_quiet (first | (go_at_call 65; exact quietB (l00In_any _ _ _ _) hK) | (go_at_call 92; exact quietB (sBase _ _) hB) | (go_at_call 65; exact quietB (l00In_any _ _ _ _) hT))
          go_wp2
          go_ret
          exact ⟨ret_b (by rw [hE.out]; by_cases hz : F = 0 <;> simp [hz]), _, rfl⟩
        · have W1 : IntKind.i64.wrap (T - B) = T - B := IntWalk.i64_in _ (by omega)
          have W2 : IntKind.i64.wrap (T - B + 2) = T - B + 2 := IntWalk.i64_in _ (by omega)
          cases hF : betwB F 1 (T - B + 2)
          all_goals
            go_enter Try.func70, Try.ntmps70
            go_wp2_with fail
            go_quiet (first | (go_at_call 65; exact quietB (l00In_any _ _ _ _) hK) | (go_at_call 92; exact quietB (sBase _ _) hB) | (go_at_call 65; exact quietB (l00In_any _ _ _ _) hT))
            go_wp2_with fail
            go_quiet (first | (go_at_call 65; refine Calls.mono (l00In_any _ _ _ _) ?_; rintro e w2 ⟨rfl, rfl⟩; exact ⟨ret_b hF, _, by first | rfl | (rw [World.drewN_drewN])⟩))
            go_wp2
            go_ret
            exact ⟨ret_b (by rw [hE.out, if_neg h3, hF]), _, by rw [World.drewN_drewN]⟩

set_option maxHeartbeats 1000000 in
theorem iOkD (w : World) (K B T F : Int) :
    Calls Try.prog 72 #[.agg #[.int .i64 K, .int .i64 B, .int .i64 T, .int .i64 F]] w fun e w' => e = .returned (.bool (okD K B T F)) ∧ Below w.heap.size w w' := by
  cases hK : betwB K 1 3
  · go_enter Try.func72, Try.ntmps72
    go_wp2_with (first | (go_at_call 97; refine (between_any _ _ _ _).mono ?_; rintro e w' ⟨rfl, rfl⟩))
    go_ret
    exact ⟨ret_b (okD_1 hK).symm, (by repeat' (first | assumption | exact Below.refl _ _ | refine Below.drew ?_ | refine Below.alloc ?_ (by first | omega | (simp; done) | (simp; omega)) _))⟩
  · cases hB : betwB B 2 16
    · go_enter Try.func72, Try.ntmps72
      go_wp2_with (first | (go_at_call 97; refine (between_any _ _ _ _).mono ?_; rintro e w' ⟨rfl, rfl⟩) | (go_at_call 94; refine (iBase _ _).mono ?_; rintro e w' ⟨rfl, rfl⟩))
      go_ret
      exact ⟨ret_b (okD_2 hB).symm, (by repeat' (first | assumption | exact Below.refl _ _ | refine Below.drew ?_ | refine Below.alloc ?_ (by first | omega | (simp; done) | (simp; omega)) _))⟩
    · cases hT : betwB T B 60
      · go_enter Try.func72, Try.ntmps72
        go_wp2_with (first | (go_at_call 97; refine (between_any _ _ _ _).mono ?_; rintro e w' ⟨rfl, rfl⟩) | (go_at_call 94; refine (iBase _ _).mono ?_; rintro e w' ⟨rfl, rfl⟩))
        go_ret
        exact ⟨ret_b (okD_3 hT).symm, (by repeat' (first | assumption | exact Below.refl _ _ | refine Below.drew ?_ | refine Below.alloc ?_ (by first | omega | (simp; done) | (simp; omega)) _))⟩
      · obtain ⟨k1, k2⟩ := betw_iff.1 hK
        obtain ⟨b1, b2⟩ := betw_iff.1 hB
        obtain ⟨t1, t2⟩ := betw_iff.1 hT
        have hE := Lib.hid (okD_4 (F := F) hK hB hT)
        by_cases h3 : K = 3
        · subst h3
          go_enter Try.func72, Try.ntmps72
          go_wp2_with (first | (go_at_call 97; refine (between_any _ _ _ _).mono ?_; rintro e w' ⟨rfl, rfl⟩) | (go_at_call 94; refine (iBase _ _).mono ?_; rintro e w' ⟨rfl, rfl⟩))
          go_ret
          exact ⟨ret_b (by rw [hE.out]; by_cases hz : F = 0 <;> simp [hz]), (by repeat' (first | assumption | exact Below.refl _ _ | refine Below.drew ?_ | refine Below.alloc ?_ (by first | omega | (simp; done) | (simp; omega)) _))⟩
        · go_enter Try.func72, Try.ntmps72
          go_wp2_with (first | (go_at_call 97; refine (between_any _ _ _ _).mono ?_; rintro e w' ⟨rfl, rfl⟩) | (go_at_call 94; refine (iBase _ _).mono ?_; rintro e w' ⟨rfl, rfl⟩))
          go_ret
          exact ⟨ret_b (by rw [hE.out, if_neg h3]), (by repeat' (first | assumption | exact Below.refl _ _ | refine Below.drew ?_ | refine Below.alloc ?_ (by first | omega | (simp; done) | (simp; omega)) _))⟩

set_option maxHeartbeats 1000000 in
theorem sTimeD (w : World) {K B T F : Int} {g : Nat} (c0 : w.cell? ⟨g, 0, none⟩ = some (.int .i64 K)) (c1 : w.cell? ⟨g, 1, none⟩ = some (.int .i64 B)) (c2 : w.cell? ⟨g, 2, none⟩ = some (.int .i64 T)) (c3 : w.cell? ⟨g, 3, none⟩ = some (.int .i64 F)) {d t : Int} (hok : okD K B T F = true) (d0 : 0 ≤ d) (d1 : d ≤ B - 1) (t0 : 0 ≤ t) (t1 : t < d) :
    Calls Try.prog 69 #[.pointer (some ⟨g, 0, none⟩), .int .i64 d, .int .i64 t] w (RetQ (.int .i64 (timeD K B T F d t)) w) := by
  obtain ⟨⟨k1, k2⟩, ⟨b1, b2⟩, ⟨u1, u2⟩, f1, f2⟩ := okD_parts hok
  obtain ⟨m1, m2⟩ := mulT t0 (by omega) (show 0 ≤ T by omega) u2
  have hdn : ¬ d = 0 := by omega
  have hdv : ((t + 1) * T + d - 1).tdiv d = ((t + 1) * T + d - 1) / d := Int.tdiv_eq_ediv_of_nonneg (by omega)
  have q1 : 0 ≤ ((t + 1) * T + d - 1) / d := Int.ediv_nonneg (by omega) (by omega)
  have q2 := Int.ediv_le_self d (show 0 ≤ (t + 1) * T + d - 1 by omega)
  clear hok
  by_cases h1 : K = 1
  · subst h1
    have W1 : IntKind.i64.wrap (F + B) = F + B := IntWalk.i64_in _ (by omega)
    have W2 : IntKind.i64.wrap (F + B - 1) = F + B - 1 := IntWalk.i64_in _ (by omega)
    have W3 : IntKind.i64.wrap (F + B - 1 - d) = F + B - 1 - d := IntWalk.i64_in _ (by omega)
    have W4 : IntKind.i64.wrap (F + B - 1 - d + t) = F + B - 1 - d + t := IntWalk.i64_in _ (by omega)
    go_enter Try.func69, Try.ntmps69
    go_wp2
    go_quiet (fail)
    go_wp2
    go_ret
    exact ⟨ret_n timeD_1.symm, _, rfl⟩
  · by_cases h2 : K = 2
    · subst h2
      go_enter Try.func69, Try.ntmps69
      go_wp2
      go_ret
      exact ⟨ret_n timeD_2.symm, 0, rfl⟩
    · obtain rfl : K = 3 := by omega
      go_enter Try.func69, Try.ntmps69
      go_wp2
      go_ret
      exact ⟨ret_n timeD_3.symm, 0, rfl⟩
end Go.Proofs.Ythpaampkpajdfaa
