/- How many steps a drum has made up to a time. No condition. -/
import Derived.Test.YthpaampkpajdfaaSteps
namespace Go.Proofs.Ythpaampkpajdfaa
open Go.RowKit
attribute [local irreducible] wpQuiet

def cntD (K B T F : Int) (d : Nat) (t : Int) : Nat → Nat
  | 0 => 0
  | k + 1 => cntD K B T F d t k + if timeD K B T F d k ≤ t % T then 1 else 0
theorem cntD_le (K B T F : Int) (d : Nat) (t : Int) : ∀ k, cntD K B T F d t k ≤ k
  | 0 => Nat.le_refl _
  | k + 1 => by
    have := cntD_le K B T F d t k
    unfold cntD
    split <;> omega
theorem cnt_yes {K B T F : Int} {d : Nat} {t : Int} {k : Nat} (h : timeD K B T F d k ≤ t % T) : cntD K B T F d t (k + 1) = cntD K B T F d t k + 1 := by rw [cntD, if_pos h]
theorem cnt_not {K B T F : Int} {d : Nat} {t : Int} {k : Nat} (h : ¬ timeD K B T F d k ≤ t % T) : cntD K B T F d t (k + 1) = cntD K B T F d t k := by rw [cntD, if_neg h, Nat.add_zero]
def byD (K B T F : Int) (d : Nat) (t : Int) : Int := t / T * (d : Int) + (cntD K B T F d t d : Int)
theorem mulQ {q : Int} {d : Nat} (h0 : 0 ≤ q) (h1 : q ≤ 100000) (h2 : d ≤ 16) : 0 ≤ q * (d : Int) ∧ q * (d : Int) ≤ 1600000 := by
  have e0 : 0 ≤ q * (d : Int) := Int.mul_nonneg h0 (by omega)
  have e1 : q * (d : Int) ≤ q * 16 := Int.mul_le_mul_of_nonneg_left (by omega) h0
  omega
theorem byD_bd {K B T F : Int} {d : Nat} {t : Int} (hT : 1 ≤ T) (hd : d ≤ 16) (t0 : 0 ≤ t) (t1 : t ≤ 100000) : 0 ≤ byD K B T F d t ∧ byD K B T F d t ≤ 1700000 := by
  have q0 : 0 ≤ t / T := Int.ediv_nonneg t0 (by omega)
  have q1 := Int.ediv_le_self T t0
  have p := mulQ (d := d) q0 (by omega) hd
  have c := cntD_le K B T F d t d
  unfold byD
  omega

set_option maxHeartbeats 1600000 in
theorem sBy (w : World) {K B T F t : Int} {g d : Nat} (hD : Blk w g 27 #[.int .i64 K, .int .i64 B, .int .i64 T, .int .i64 F]) (hok : okD K B T F = true) (d1 : (d : Int) ≤ B - 1) (t0 : 0 ≤ t) (t1 : t ≤ 100000) :
    Calls Try.prog 66 #[.pointer (some ⟨g, 0, none⟩), .int .i64 d, .int .i64 t] w (RetQ (.int .i64 (byD K B T F d t)) w) := by
  obtain ⟨_, ⟨b1, b2⟩, ⟨u1, u2⟩, _⟩ := okD_parts hok
  have HK := Lib.hid hok; clear hok
  have hTn : ¬ T = 0 := by omega
  have hdv : t.tdiv T = t / T := Int.tdiv_eq_ediv_of_nonneg t0
  have hmv : t.tmod T = t % T := Int.tmod_eq_emod_of_nonneg t0
  have q0 : 0 ≤ t / T := Int.ediv_nonneg t0 (by omega)
  have q1 := Int.ediv_le_self T t0
  obtain ⟨p0, p1⟩ := mulQ q0 (by omega : t / T ≤ 100000) (show d ≤ 16 by omega)
  have c0 := hD.cell 0; have c1 := hD.cell 1; have c2 := hD.cell 2; have c3 := hD.cell 3
  simp at c0 c1 c2 c3
  go_enter Try.func66, Try.ntmps66
  go_wp2
  clear c0 c1 c2 c3
  go_loopw [7, 8] (fun s i wr => ∃ k : Nat, k ≤ d ∧ i = .int .i64 k ∧ s = .int .i64 (t / T * (d : Int) + (cntD K B T F d t k : Int)) ∧ Blk wr g 27 #[.int .i64 K, .int .i64 B, .int .i64 T, .int .i64 F] ∧ Hid (∃ m, wr = w.drewN m)) (fun _ i _ => d - (intOf i).toNat)
  case atStart => exact ⟨0, Nat.zero_le _, rfl, by simp [cntD], hD, ⟨0, rfl⟩⟩
  case round =>
    clear hD
    obtain ⟨k, hk, rfl, rfl, hD, hM⟩ := hrel
    have hcl := cntD_le K B T F d t k
    have c0 := hD.cell 0; have c1 := hD.cell 1; have c2 := hD.cell 2; have c3 := hD.cell 3
    simp at c0 c1 c2 c3
    by_cases hlt : k < d
    · by_cases hle : timeD K B T F d k ≤ t % T
      · have HS := Lib.hid (cnt_yes hle)
        go_wp2_with fail
        go_quiet ((go_at_call 69; refine Calls.mono (sTimeD (K := K) (B := B) (T := T) (F := F) _ (by simpa using c0) (by simpa using c1) (by simpa using c2) (by simpa using c3) HK.out (by omega) d1 (by omega) (by omega)) ?_; rintro e w2 ⟨rfl, kk, rfl⟩; exact ⟨rfl, _, by rw [World.drewN_drewN]⟩))
        go_wp2
        go_roundw
        case rel => exact ⟨k + 1, by omega, by go_num, by rw [HS.out]; go_num, hD.bel (RetQ.bel _), by obtain ⟨m, rfl⟩ := hM.out; exact ⟨m + nq, World.drewN_drewN _ _ _⟩⟩
        case measure => simp [intOf]; omega
      · have HS := Lib.hid (cnt_not hle)
        go_wp2_with fail
        go_quiet ((go_at_call 69; refine Calls.mono (sTimeD (K := K) (B := B) (T := T) (F := F) _ (by simpa using c0) (by simpa using c1) (by simpa using c2) (by simpa using c3) HK.out (by omega) d1 (by omega) (by omega)) ?_; rintro e w2 ⟨rfl, kk, rfl⟩; exact ⟨rfl, _, by rw [World.drewN_drewN]⟩))
        go_wp2
        go_roundw
        case rel => exact ⟨k + 1, by omega, by go_num, by rw [HS.out], hD.bel (RetQ.bel _), by obtain ⟨m, rfl⟩ := hM.out; exact ⟨m + nq, World.drewN_drewN _ _ _⟩⟩
        case measure => simp [intOf]; omega
    · obtain rfl : k = d := by omega
      clear c0 c1 c2 c3
      go_wp2
      go_ret
      exact ⟨rfl, hM.out⟩

set_option maxHeartbeats 1600000 in
theorem iSteps (w : World) {K B T F t : Int} {d : Nat} (hok : okD K B T F = true) (d1 : (d : Int) ≤ B - 1) (t0 : 0 ≤ t) (t1 : t ≤ 100000) :
    Calls Try.prog 68 #[.agg #[.int .i64 K, .int .i64 B, .int .i64 T, .int .i64 F], .int .i64 d, .int .i64 t] w fun e w' => e = .returned (.int .i64 (byD K B T F d t)) ∧ Below w.heap.size w w' := by
  obtain ⟨_, ⟨b1, b2⟩, ⟨u1, u2⟩, _⟩ := okD_parts hok
  have HK := Lib.hid hok; clear hok
  have hTn : ¬ T = 0 := by omega
  have hdv : t.tdiv T = t / T := Int.tdiv_eq_ediv_of_nonneg t0
  have hmv : t.tmod T = t % T := Int.tmod_eq_emod_of_nonneg t0
  have q0 : 0 ≤ t / T := Int.ediv_nonneg t0 (by omega)
  have q1 := Int.ediv_le_self T t0
  obtain ⟨p0, p1⟩ := mulQ q0 (by omega : t / T ≤ 100000) (show d ≤ 16 by omega)
  go_enter Try.func68, Try.ntmps68
  go_wp2_with fail
  refine absW ?_
  intro w0 hw
  have hb0 : Below w.heap.size w w0 := by rw [hw]; exact (by repeat' (first | assumption | exact Below.refl _ _ | refine Below.drew ?_ | refine Below.alloc ?_ (by first | omega | (simp; done) | (simp; omega)) _))
  have hD : Blk w0 w.heap.size 27 #[.int .i64 K, .int .i64 B, .int .i64 T, .int .i64 F] := by rw [hw]; exact Blk.new _ _ _
  clear hw
  refine (iTimes _ HK.out d1).mono ?_
  rintro e w1 ⟨v, rfl, ho, hb⟩
  obtain ⟨A, c, rfl, _, hcm⟩ := ho.form
  replace hD := hD.bel hb; replace hb0 := bel2 hb0 hb
  clear hb
  have hR := ho.reads
  have c2 := hD.cell 2
  simp at c2
  have hdm : d ≤ 16 := by omega
  go_wp2
  go_loop [7, 20] (fun s i => ∃ k : Nat, k ≤ d ∧ i = .int .i64 k ∧ s = .int .i64 (t / T * (d : Int) + (cntD K B T F d t k : Int))) (fun _ i => d - (intOf i).toNat)
  case atStart => exact ⟨0, Nat.zero_le _, rfl, by simp [cntD]⟩
  case round =>
    obtain ⟨k, hk, rfl, rfl⟩ := hrel
    have hcl := cntD_le K B T F d t k
    by_cases hlt : k < d
    · obtain ⟨ad, x, rfl, _, hx, hc⟩ := hR.int_at hlt
      obtain rfl := times_at hlt hx
      clear hx
      by_cases hle : timeD K B T F d k ≤ t % T
      · have HS := Lib.hid (cnt_yes hle)
        go_wp2
        go_round
        case rel => exact ⟨k + 1, by omega, by go_num, by rw [HS.out]; go_num⟩
        case measure => simp [intOf]; omega
      · have HS := Lib.hid (cnt_not hle)
        go_wp2
        go_round
        case rel => exact ⟨k + 1, by omega, by go_num, by rw [HS.out]⟩
        case measure => simp [intOf]; omega
    · obtain rfl : k = d := by omega
      go_wp2
      go_ret
      exact ⟨rfl, hb0⟩

def sbOk (K B T F d t : Int) : Bool := decide (codeD K B T F d = 0) && betwB t 0 100000
def sbVal (K B T F d t : Int) : Int := if sbOk K B T F d t then byD K B T F d.toNat t else 0
def sbCode (K B T F d t : Int) : Int := if codeD K B T F d = 0 then (if betwB t 0 100000 then 0 else 2) else codeD K B T F d
theorem sb_bad {K B T F d t : Int} (h : codeD K B T F d = 1 ∨ codeD K B T F d = 2) : sbVal K B T F d t = 0 ∧ sbCode K B T F d t = codeD K B T F d := by
  rcases h with h | h <;> simp [sbVal, sbCode, sbOk, h]
theorem sb_far {K B T F d t : Int} (h : codeD K B T F d = 0) (h' : betwB t 0 100000 = false) : sbVal K B T F d t = 0 ∧ sbCode K B T F d t = 2 := by simp [sbVal, sbCode, sbOk, h, h']
theorem sb_ok {K B T F t : Int} {d : Nat} (h : codeD K B T F d = 0) (h' : betwB t 0 100000 = true) : sbVal K B T F d t = byD K B T F d t ∧ sbCode K B T F d t = 0 := by simp [sbVal, sbCode, sbOk, h, h']

set_option maxHeartbeats 1600000 in
theorem sStepsBy (w : World) {K B T F d t : Int} :
    Calls Try.prog 21 #[.agg #[.int .i64 K, .int .i64 B, .int .i64 T, .int .i64 F], .int .i64 d, .int .i64 t] w fun e w' => e = .returned (.tuple #[.int .i64 (sbVal K B T F d t), .int .i64 (sbCode K B T F d t)]) ∧ Below w.heap.size w w' := by
  rcases codeD_cases K B T F d with hc | ⟨hc, hok, d0, d1⟩
  · have HE := Lib.hid (sb_bad (t := t) hc)
    go_enter Try.func21, Try.ntmps21
    go_wp2_with fail
    refine absW ?_
    intro w0 hw
    have hb0 : Below w.heap.size w w0 := by rw [hw]; exact (by repeat' (first | assumption | exact Below.refl _ _ | refine Below.drew ?_ | refine Below.alloc ?_ (by first | omega | (simp; done) | (simp; omega)) _))
    have hD : Blk w0 w.heap.size 27 #[.int .i64 K, .int .i64 B, .int .i64 T, .int .i64 F] := by rw [hw]; exact Blk.new _ _ _
    clear hw
    refine (sCodeD _ hD).mono ?_
    rintro e w1 ⟨rfl, kk, hw1⟩
    have hb := RetQ.bel (w := w0) kk
    rw [← hw1] at hb
    clear hw1
    replace hD := hD.bel hb; replace hb0 := bel2 hb0 hb
    clear hb
    have c0 := hD.cell 0; have c1 := hD.cell 1; have c2 := hD.cell 2; have c3 := hD.cell 3
    simp at c0 c1 c2 c3
    rcases hc with hc | hc
    all_goals
      rw [hc]
      go_wp2
      go_ret2
      obtain ⟨e1, e2⟩ := HE.out
      rw [e1, e2, hc]
      exact ⟨rfl, hb0⟩
  · obtain ⟨d, rfl⟩ := Int.eq_ofNat_of_zero_le d0
    cases ht : betwB t 0 100000
    · have HE := Lib.hid (sb_far hc ht)
      go_enter Try.func21, Try.ntmps21
      go_wp2_with fail
      refine absW ?_
      intro w0 hw
      have hb0 : Below w.heap.size w w0 := by rw [hw]; exact (by repeat' (first | assumption | exact Below.refl _ _ | refine Below.drew ?_ | refine Below.alloc ?_ (by first | omega | (simp; done) | (simp; omega)) _))
      have hD : Blk w0 w.heap.size 27 #[.int .i64 K, .int .i64 B, .int .i64 T, .int .i64 F] := by rw [hw]; exact Blk.new _ _ _
      clear hw
      refine (sCodeD _ hD).mono ?_
      rintro e w1 ⟨rfl, kk, hw1⟩
      have hb := RetQ.bel (w := w0) kk
      rw [← hw1] at hb
      clear hw1
      replace hD := hD.bel hb; replace hb0 := bel2 hb0 hb
      clear hb
      have c0 := hD.cell 0; have c1 := hD.cell 1; have c2 := hD.cell 2; have c3 := hD.cell 3
      simp at c0 c1 c2 c3
      rw [hc]
      go_wp2_with (first | (go_at_call 65; refine (l00In_any _ _ _ _).mono ?_; rintro e w' ⟨rfl, rfl⟩))
      go_ret2
      obtain ⟨e1, e2⟩ := HE.out
      rw [e1, e2]
      exact ⟨rfl, hb0⟩
    · have HE := Lib.hid (sb_ok hc ht)
      obtain ⟨t0, t1⟩ := betw_iff.1 ht
      go_enter Try.func21, Try.ntmps21
      go_wp2_with fail
      refine absW ?_
      intro w0 hw
      have hb0 : Below w.heap.size w w0 := by rw [hw]; exact (by repeat' (first | assumption | exact Below.refl _ _ | refine Below.drew ?_ | refine Below.alloc ?_ (by first | omega | (simp; done) | (simp; omega)) _))
      have hD : Blk w0 w.heap.size 27 #[.int .i64 K, .int .i64 B, .int .i64 T, .int .i64 F] := by rw [hw]; exact Blk.new _ _ _
      clear hw
      refine (sCodeD _ hD).mono ?_
      rintro e w1 ⟨rfl, kk, hw1⟩
      have hb := RetQ.bel (w := w0) kk
      rw [← hw1] at hb
      clear hw1
      replace hD := hD.bel hb; replace hb0 := bel2 hb0 hb
      clear hb
      have c0 := hD.cell 0; have c1 := hD.cell 1; have c2 := hD.cell 2; have c3 := hD.cell 3
      simp at c0 c1 c2 c3
      rw [hc]
      go_wp2_with (first | (go_at_call 65; refine (l00In_any _ _ _ _).mono ?_; rintro e w' ⟨rfl, rfl⟩))
      refine (sBy _ hD hok d1 t0 t1).mono ?_
      rintro e w2 ⟨rfl, kk2, hw2⟩
      have hb2 := RetQ.bel (w := w1) kk2
      rw [← hw2] at hb2
      clear hw2
      replace hb0 := bel2 hb0 hb2
      clear c0 c1 c2 c3 hD
      go_wp2
      go_ret2
      obtain ⟨e1, e2⟩ := HE.out
      rw [e1, e2]
      exact ⟨rfl, hb0⟩

set_option maxHeartbeats 1600000 in
theorem iStepsBy (w : World) {K B T F d t : Int} :
    Calls Try.prog 22 #[.agg #[.int .i64 K, .int .i64 B, .int .i64 T, .int .i64 F], .int .i64 d, .int .i64 t] w fun e w' => e = .returned (.tuple #[.int .i64 (sbVal K B T F d t), .int .i64 (sbCode K B T F d t)]) ∧ Below w.heap.size w w' := by
  rcases codeD_cases K B T F d with hc | ⟨hc, hok, d0, d1⟩
  · have HE := Lib.hid (sb_bad (t := t) hc)
    go_enter Try.func22, Try.ntmps22
    go_wp2_with fail
    refine absW ?_
    intro w0 hw
    have hb0 : Below w.heap.size w w0 := by rw [hw]; exact (by repeat' (first | assumption | exact Below.refl _ _ | refine Below.drew ?_ | refine Below.alloc ?_ (by first | omega | (simp; done) | (simp; omega)) _))
    have hD : Blk w0 w.heap.size 27 #[.int .i64 K, .int .i64 B, .int .i64 T, .int .i64 F] := by rw [hw]; exact Blk.new _ _ _
    clear hw
    refine (iCodeD _ _ _ _ _ _).mono ?_
    rintro e w1 ⟨rfl, hb⟩
    replace hD := hD.bel hb; replace hb0 := bel2 hb0 hb
    clear hb
    have c0 := hD.cell 0; have c1 := hD.cell 1; have c2 := hD.cell 2; have c3 := hD.cell 3
    simp at c0 c1 c2 c3
    rcases hc with hc | hc
    all_goals
      rw [hc]
      go_wp2
      go_ret2
      obtain ⟨e1, e2⟩ := HE.out
      rw [e1, e2, hc]
      exact ⟨rfl, hb0⟩
  · obtain ⟨d, rfl⟩ := Int.eq_ofNat_of_zero_le d0
    cases ht : betwB t 0 100000
    · have HE := Lib.hid (sb_far hc ht)
      go_enter Try.func22, Try.ntmps22
      go_wp2_with fail
      refine absW ?_
      intro w0 hw
      have hb0 : Below w.heap.size w w0 := by rw [hw]; exact (by repeat' (first | assumption | exact Below.refl _ _ | refine Below.drew ?_ | refine Below.alloc ?_ (by first | omega | (simp; done) | (simp; omega)) _))
      have hD : Blk w0 w.heap.size 27 #[.int .i64 K, .int .i64 B, .int .i64 T, .int .i64 F] := by rw [hw]; exact Blk.new _ _ _
      clear hw
      refine (iCodeD _ _ _ _ _ _).mono ?_
      rintro e w1 ⟨rfl, hb⟩
      replace hD := hD.bel hb; replace hb0 := bel2 hb0 hb
      clear hb
      have c0 := hD.cell 0; have c1 := hD.cell 1; have c2 := hD.cell 2; have c3 := hD.cell 3
      simp at c0 c1 c2 c3
      rw [hc]
      go_wp2_with (first | (go_at_call 67; refine (iTime _ _).mono ?_; rintro e w' ⟨rfl, rfl⟩))
      go_ret2
      obtain ⟨e1, e2⟩ := HE.out
      rw [e1, e2]
      exact ⟨rfl, hb0⟩
    · have HE := Lib.hid (sb_ok hc ht)
      obtain ⟨t0, t1⟩ := betw_iff.1 ht
      go_enter Try.func22, Try.ntmps22
      go_wp2_with fail
      refine absW ?_
      intro w0 hw
      have hb0 : Below w.heap.size w w0 := by rw [hw]; exact (by repeat' (first | assumption | exact Below.refl _ _ | refine Below.drew ?_ | refine Below.alloc ?_ (by first | omega | (simp; done) | (simp; omega)) _))
      have hD : Blk w0 w.heap.size 27 #[.int .i64 K, .int .i64 B, .int .i64 T, .int .i64 F] := by rw [hw]; exact Blk.new _ _ _
      clear hw
      refine (iCodeD _ _ _ _ _ _).mono ?_
      rintro e w1 ⟨rfl, hb⟩
      replace hD := hD.bel hb; replace hb0 := bel2 hb0 hb
      clear hb
      have c0 := hD.cell 0; have c1 := hD.cell 1; have c2 := hD.cell 2; have c3 := hD.cell 3
      simp at c0 c1 c2 c3
      rw [hc]
      go_wp2_with (first | (go_at_call 67; refine (iTime _ _).mono ?_; rintro e w' ⟨rfl, rfl⟩))
      refine (iSteps _ hok d1 t0 t1).mono ?_
      rintro e w2 ⟨rfl, hb2⟩
      replace hb0 := bel2 hb0 hb2
      clear c0 c1 c2 c3 hD
      go_wp2
      go_ret2
      obtain ⟨e1, e2⟩ := HE.out
      rw [e1, e2]
      exact ⟨rfl, hb0⟩
end Go.Proofs.Ythpaampkpajdfaa
