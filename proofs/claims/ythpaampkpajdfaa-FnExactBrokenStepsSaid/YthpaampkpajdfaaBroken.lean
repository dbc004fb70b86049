/- The steps of a drum with broken teeth. No condition. -/
import Derived.Test.YthpaampkpajdfaaSteps
namespace Go.Proofs.Ythpaampkpajdfaa
open Go.RowKit
attribute [local irreducible] wpQuiet

def brB (F m x : Int) : Bool := bits .and .i64 (m / 2 ^ (x - F).toNat) 1 == 0
def cntB (K B T F : Int) (d : Nat) (m : Int) : Nat → Nat
  | 0 => 0
  | k + 1 => cntB K B T F d m k + if brB F m (timeD K B T F d k) = true then 1 else 0
theorem cntB_le (K B T F : Int) (d : Nat) (m : Int) : ∀ k, cntB K B T F d m k ≤ k
  | 0 => Nat.le_refl _
  | k + 1 => by
    have := cntB_le K B T F d m k
    unfold cntB
    split <;> omega
theorem cntB_yes {K B T F : Int} {d : Nat} {m : Int} {k : Nat} (h : brB F m (timeD K B T F d k) = true) : cntB K B T F d m (k + 1) = cntB K B T F d m k + 1 := by rw [cntB, if_pos h]
theorem cntB_not {K B T F : Int} {d : Nat} {m : Int} {k : Nat} (h : brB F m (timeD K B T F d k) = false) : cntB K B T F d m (k + 1) = cntB K B T F d m k := by rw [cntB, if_neg (by simp [h]), Nat.add_zero]
def maskB (B m : Int) : Bool := betwB m 0 (2 ^ (B - 1).toNat - 1)
def bsVal (K B T F d m : Int) : Int := if codeD K B T F d = 0 then (if maskB B m then (if K = 3 then 0 else cntB K B T F d.toNat m d.toNat) else 0) else 0
def bsCode (K B T F d m : Int) : Int := if codeD K B T F d = 0 then (if maskB B m then (if K = 3 then 6 else 0) else 2) else codeD K B T F d
theorem bs_bad {K B T F d m : Int} (h : codeD K B T F d = 1 ∨ codeD K B T F d = 2) : bsVal K B T F d m = 0 ∧ bsCode K B T F d m = codeD K B T F d := by
  rcases h with h | h <;> simp [bsVal, bsCode, h]
theorem bs_far {K B T F d m : Int} (h : codeD K B T F d = 0) (h' : maskB B m = false) : bsVal K B T F d m = 0 ∧ bsCode K B T F d m = 2 := by simp [bsVal, bsCode, h, h']
theorem bs_rack {B T F d m : Int} (h : codeD 3 B T F d = 0) (h' : maskB B m = true) : bsVal 3 B T F d m = 0 ∧ bsCode 3 B T F d m = 6 := by simp [bsVal, bsCode, h, h']
theorem bs_ok {K B T F m : Int} {d : Nat} (h : codeD K B T F d = 0) (h' : maskB B m = true) (h3 : ¬ K = 3) : bsVal K B T F d m = cntB K B T F d m d ∧ bsCode K B T F d m = 0 := by simp [bsVal, bsCode, h, h', h3]
theorem pow_bd {B : Int} (h0 : 2 ≤ B) (h1 : B ≤ 16) : 2 ≤ (2 : Int) ^ (B - 1).toNat ∧ (2 : Int) ^ (B - 1).toNat ≤ 32768 := by
  obtain ⟨n, hn⟩ : ∃ n : Nat, (B - 1).toNat = n := ⟨_, rfl⟩
  rw [hn]
  have e : (2 : Int) ^ n = ((2 ^ n : Nat) : Int) := by simp
  have e1 : 2 ^ 1 ≤ 2 ^ n := Nat.pow_le_pow_right (by omega) (by omega)
  have e2 : 2 ^ n ≤ 2 ^ 15 := Nat.pow_le_pow_right (by omega) (by omega)
  rw [e]
  omega
theorem mask_iff {B m : Int} {P : Int} (hp : 2 ≤ P) : betwB m 0 (P - 1) = decide (¬ (m < 0) ∧ m / P = 0) := by
  unfold betwB
  congr 1
  apply propext
  constructor
  · rintro ⟨h0, h1⟩
    exact ⟨by omega, Int.ediv_eq_zero_of_lt h0 (by omega)⟩
  · rintro ⟨h0, h1⟩
    have h2 := Int.emod_add_mul_ediv m P
    rw [h1] at h2
    have h3 := Int.emod_lt_of_pos m (show 0 < P by omega)
    simp only [Int.mul_zero, Int.add_zero] at h2
    omega
theorem tooth_bd {K B T F : Int} {d k : Nat} (h1 : 1 ≤ K) (h3 : K ≤ 3) (hn : ¬ K = 3) (hd : (d : Int) ≤ B - 1) (hB : B ≤ 16) (hk : k < d) : 0 ≤ timeD K B T F d k - F ∧ timeD K B T F d k - F ≤ 16 := by
  have : K = 1 ∨ K = 2 := by omega
  rcases this with rfl | rfl
  · rw [timeD_1]; omega
  · rw [timeD_2]; omega

set_option maxHeartbeats 3200000 in
theorem sBrokenSteps (w : World) {K B T F d m : Int} :
    Calls Try.prog 25 #[.agg #[.int .i64 K, .int .i64 B, .int .i64 T, .int .i64 F], .int .i64 d, .int .i64 m] w fun e w' => e = .returned (.tuple #[.int .i64 (bsVal K B T F d m), .int .i64 (bsCode K B T F d m)]) ∧ Below w.heap.size w w' := by
  rcases codeD_cases K B T F d with hc | ⟨hc, hok, d0, d1⟩
  · have HE := Lib.hid (bs_bad (m := m) hc)
    go_enter Try.func25, Try.ntmps25
    go_wp2_with fail
    refine absW ?_
    intro w0 hw
    have hb0 : Below w.heap.size w w0 := by rw [hw]; exact (by repeat' (first | assumption | exact Below.refl _ _ | refine Below.drew ?_ | refine Below.alloc ?_ (by first | omega | (simp; done) | (simp; omega)) _))
    have hD : Blk w0 w.heap.size 27 #[.int .i64 K, .int .i64 B, .int .i64 T, .int .i64 F] := by rw [hw]; exact Blk.new _ _ _
    clear hw
    refine (sCodeD _ hD).mono ?_
    rintro e w1 ⟨rfl, kk, hw1⟩
    have hb := RetQ.bel (w := w0) kk
    rw [← hw1] at hb
    clear hw1
    replace hD := hD.bel hb; replace hb0 := bel2 hb0 hb
    clear hb
    have c0 := hD.cell 0; have c1 := hD.cell 1; have c2 := hD.cell 2; have c3 := hD.cell 3
    simp at c0 c1 c2 c3
    rcases hc with hc | hc
    all_goals
      rw [hc]
      go_wp2
      go_ret2
      obtain ⟨e1, e2⟩ := HE.out
      rw [e1, e2, hc]
      exact ⟨rfl, hb0⟩
  · obtain ⟨d, rfl⟩ := Int.eq_ofNat_of_zero_le d0
    obtain ⟨⟨k1, k2⟩, ⟨b1, b2⟩, ⟨v3, v4⟩, g1, g2⟩ := okD_parts hok
    have HB := pow_bd b1 b2
    obtain ⟨P, hP⟩ : ∃ P : Int, (2 : Int) ^ (B - 1).toNat = P := ⟨_, rfl⟩
    rw [hP] at HB
    obtain ⟨P0, P1⟩ := HB
    have hP' : (2 : Int) ^ (B.toNat - 1) = P := by rw [← hP]; congr 1; omega
    have HM : Hid (maskB B m = betwB m 0 (P - 1)) := by unfold Hid maskB; rw [hP]
    have HK := Lib.hid hok; clear hok
    cases hmk : betwB m 0 (P - 1)
    · have HE := Lib.hid (bs_far hc (HM.out.trans hmk))
      go_enter Try.func25, Try.ntmps25
      go_wp2_with fail
      refine absW ?_
      intro w0 hw
      have hb0 : Below w.heap.size w w0 := by rw [hw]; exact (by repeat' (first | assumption | exact Below.refl _ _ | refine Below.drew ?_ | refine Below.alloc ?_ (by first | omega | (simp; done) | (simp; omega)) _))
      have hD : Blk w0 w.heap.size 27 #[.int .i64 K, .int .i64 B, .int .i64 T, .int .i64 F] := by rw [hw]; exact Blk.new _ _ _
      clear hw
      refine (sCodeD _ hD).mono ?_
      rintro e w1 ⟨rfl, kk, hw1⟩
      have hb := RetQ.bel (w := w0) kk
      rw [← hw1] at hb
      clear hw1
      replace hD := hD.bel hb; replace hb0 := bel2 hb0 hb
      clear hb
      have c0 := hD.cell 0; have c1 := hD.cell 1; have c2 := hD.cell 2; have c3 := hD.cell 3
      simp at c0 c1 c2 c3
      rw [hc]
      go_wp2_with (first | (go_at_call 65; refine (l00In_any _ _ _ _).mono ?_; rintro e w' ⟨rfl, rfl⟩))
      go_ret2
      obtain ⟨e1, e2⟩ := HE.out
      rw [e1, e2]
      exact ⟨rfl, hb0⟩
    · obtain ⟨m0, m1⟩ := betw_iff.1 hmk
      by_cases h3 : K = 3
      · subst h3
        have HE := Lib.hid (bs_rack hc (HM.out.trans hmk))
        go_enter Try.func25, Try.ntmps25
        go_wp2_with fail
        refine absW ?_
        intro w0 hw
        have hb0 : Below w.heap.size w w0 := by rw [hw]; exact (by repeat' (first | assumption | exact Below.refl _ _ | refine Below.drew ?_ | refine Below.alloc ?_ (by first | omega | (simp; done) | (simp; omega)) _))
        have hD : Blk w0 w.heap.size 27 #[.int .i64 3, .int .i64 B, .int .i64 T, .int .i64 F] := by rw [hw]; exact Blk.new _ _ _
        clear hw
        refine (sCodeD _ hD).mono ?_
        rintro e w1 ⟨rfl, kk, hw1⟩
        have hb := RetQ.bel (w := w0) kk
        rw [← hw1] at hb
        clear hw1
        replace hD := hD.bel hb; replace hb0 := bel2 hb0 hb
        clear hb
        have c0 := hD.cell 0; have c1 := hD.cell 1; have c2 := hD.cell 2; have c3 := hD.cell 3
        simp at c0 c1 c2 c3
        rw [hc]
        go_wp2_with (first | (go_at_call 65; refine (l00In_any _ _ _ _).mono ?_; rintro e w' ⟨rfl, rfl⟩))
        go_ret2
        obtain ⟨e1, e2⟩ := HE.out
        rw [e1, e2]
        exact ⟨rfl, hb0⟩
      · have HE := Lib.hid (bs_ok hc (HM.out.trans hmk) h3)
        go_enter Try.func25, Try.ntmps25
        go_wp2_with fail
        refine absW ?_
        intro w0 hw
        have hb0 : Below w.heap.size w w0 := by rw [hw]; exact (by repeat' (first | assumption | exact Below.refl _ _ | refine Below.drew ?_ | refine Below.alloc ?_ (by first | omega | (simp; done) | (simp; omega)) _))
        have hD : Blk w0 w.heap.size 27 #[.int .i64 K, .int .i64 B, .int .i64 T, .int .i64 F] := by rw [hw]; exact Blk.new _ _ _
        clear hw
        refine (sCodeD _ hD).mono ?_
        rintro e w1 ⟨rfl, kk, hw1⟩
        have hb := RetQ.bel (w := w0) kk
        rw [← hw1] at hb
        clear hw1
        replace hD := hD.bel hb; replace hb0 := bel2 hb0 hb
        clear hb
        have c0 := hD.cell 0; have c1 := hD.cell 1; have c2 := hD.cell 2; have c3 := hD.cell 3
        simp at c0 c1 c2 c3
        rw [hc]
        go_wp2_with (first | (go_at_call 65; refine (l00In_any _ _ _ _).mono ?_; rintro e w' ⟨rfl, rfl⟩))
        clear c0 c1 c2 c3
        go_loopw [9, 10] (fun s i wr => ∃ k : Nat, k ≤ d ∧ i = .int .i64 k ∧ s = .int .i64 (cntB K B T F d m k : Int) ∧ Blk wr w.heap.size 27 #[.int .i64 K, .int .i64 B, .int .i64 T, .int .i64 F] ∧ Below w.heap.size w wr) (fun _ i _ => d - (intOf i).toNat)
        case atStart => exact ⟨0, Nat.zero_le _, rfl, rfl, hD, hb0⟩
        case round =>
          clear hD hb0
          obtain ⟨k, hk, rfl, rfl, hD, hb0⟩ := hrel
          have hcl := cntB_le K B T F d m k
          have c0 := hD.cell 0; have c1 := hD.cell 1; have c2 := hD.cell 2; have c3 := hD.cell 3
          simp at c0 c1 c2 c3
          by_cases hlt : k < d
          · obtain ⟨y0, y1⟩ := tooth_bd (K := K) (B := B) (T := T) (F := F) k1 k2 h3 d1 b2 hlt
            have W1 : IntKind.i64.wrap (timeD K B T F d k - F) = timeD K B T F d k - F := IntWalk.i64_in _ (by omega)
            go_wp2_with fail
            go_quiet ((go_at_call 69; refine Calls.mono (sTimeD (K := K) (B := B) (T := T) (F := F) _ (by simpa using c0) (by simpa using c1) (by simpa using c2) (by simpa using c3) HK.out (by omega) d1 (by omega) (by omega)) ?_; rintro e w2 ⟨rfl, kk, rfl⟩; exact ⟨rfl, _, by rw [World.drewN_drewN]⟩))
            cases hbr : brB F m (timeD K B T F d k)
            · have HS := Lib.hid (cntB_not hbr)
              have hbr' : ¬ bits .and .i64 (m / 2 ^ (timeD K B T F d k - F).toNat) 1 = 0 := by simpa [brB] using hbr
              go_wp2
              go_roundw
              case rel => exact ⟨k + 1, by omega, by go_num, by rw [HS.out], hD.bel (RetQ.bel _), bel2 hb0 (RetQ.bel _)⟩
              case measure => simp [intOf]; omega
            · have HS := Lib.hid (cntB_yes hbr)
              have hbr' : bits .and .i64 (m / 2 ^ (timeD K B T F d k - F).toNat) 1 = 0 := by simpa [brB] using hbr
              go_wp2
              go_roundw
              case rel => exact ⟨k + 1, by omega, by go_num, by rw [HS.out]; go_num, hD.bel (RetQ.bel _), bel2 hb0 (RetQ.bel _)⟩
              case measure => simp [intOf]; omega
          · obtain rfl : k = d := by omega
            clear c0 c1 c2 c3
            go_wp2
            go_ret2
            obtain ⟨e1, e2⟩ := HE.out
            rw [e1, e2]
            exact ⟨rfl, hb0⟩

set_option maxHeartbeats 3200000 in
theorem iBrokenSteps (w : World) {K B T F d m : Int} :
    Calls Try.prog 26 #[.agg #[.int .i64 K, .int .i64 B, .int .i64 T, .int .i64 F], .int .i64 d, .int .i64 m] w fun e w' => e = .returned (.tuple #[.int .i64 (bsVal K B T F d m), .int .i64 (bsCode K B T F d m)]) ∧ Below w.heap.size w w' := by
  rcases codeD_cases K B T F d with hc | ⟨hc, hok, d0, d1⟩
  · have HE := Lib.hid (bs_bad (m := m) hc)
    go_enter Try.func26, Try.ntmps26
    go_wp2_with fail
    refine absW ?_
    intro w0 hw
    have hb0 : Below w.heap.size w w0 := by rw [hw]; exact (by repeat' (first | assumption | exact Below.refl _ _ | refine Below.drew ?_ | refine Below.alloc ?_ (by first | omega | (simp; done) | (simp; omega)) _))
    have hD : Blk w0 w.heap.size 27 #[.int .i64 K, .int .i64 B, .int .i64 T, .int .i64 F] := by rw [hw]; exact Blk.new _ _ _
    clear hw
    refine (iCodeD _ _ _ _ _ _).mono ?_
    rintro e w1 ⟨rfl, hb⟩
    replace hD := hD.bel hb; replace hb0 := bel2 hb0 hb
    clear hb
    have c0 := hD.cell 0; have c1 := hD.cell 1; have c2 := hD.cell 2; have c3 := hD.cell 3
    simp at c0 c1 c2 c3
    rcases hc with hc | hc
    all_goals
      rw [hc]
      go_wp2
      go_ret2
      obtain ⟨e1, e2⟩ := HE.out
      rw [e1, e2, hc]
      exact ⟨rfl, hb0⟩
  · obtain ⟨d, rfl⟩ := Int.eq_ofNat_of_zero_le d0
    obtain ⟨⟨k1, k2⟩, ⟨b1, b2⟩, ⟨v3, v4⟩, g1, g2⟩ := okD_parts hok
    have HB := pow_bd b1 b2
    obtain ⟨P, hP⟩ : ∃ P : Int, (2 : Int) ^ (B - 1).toNat = P := ⟨_, rfl⟩
    rw [hP] at HB
    obtain ⟨P0, P1⟩ := HB
    have hP' : (2 : Int) ^ (B.toNat - 1) = P := by rw [← hP]; congr 1; omega
    have HM : Hid (maskB B m = betwB m 0 (P - 1)) := by unfold Hid maskB; rw [hP]
    have HK := Lib.hid hok; clear hok
    cases hmk : betwB m 0 (P - 1)
    · have HE := Lib.hid (bs_far hc (HM.out.trans hmk))
      go_enter Try.func26, Try.ntmps26
      go_wp2_with fail
      refine absW ?_
      intro w0 hw
      have hb0 : Below w.heap.size w w0 := by rw [hw]; exact (by repeat' (first | assumption | exact Below.refl _ _ | refine Below.drew ?_ | refine Below.alloc ?_ (by first | omega | (simp; done) | (simp; omega)) _))
      have hD : Blk w0 w.heap.size 27 #[.int .i64 K, .int .i64 B, .int .i64 T, .int .i64 F] := by rw [hw]; exact Blk.new _ _ _
      clear hw
      refine (iCodeD _ _ _ _ _ _).mono ?_
      rintro e w1 ⟨rfl, hb⟩
      replace hD := hD.bel hb; replace hb0 := bel2 hb0 hb
      clear hb
      have c0 := hD.cell 0; have c1 := hD.cell 1; have c2 := hD.cell 2; have c3 := hD.cell 3
      simp at c0 c1 c2 c3
      rw [hc]
      by_cases hneg : m < 0
      · go_wp2
        go_ret2
        obtain ⟨e1, e2⟩ := HE.out
        rw [e1, e2]
        exact ⟨rfl, hb0⟩
      · have hdiv : ¬ m / P = 0 := by
          intro hd
          rw [mask_iff (B := B) P0] at hmk
          simp [hd] at hmk
          omega
        have hdv : (m / P != 0) = true := by simp [hdiv]
        go_wp2
        go_ret2
        obtain ⟨e1, e2⟩ := HE.out
        rw [e1, e2]
        exact ⟨rfl, hb0⟩
    · have hmm := hmk
      rw [mask_iff (B := B) P0] at hmm
      simp only [decide_eq_true_eq] at hmm
      obtain ⟨hneg, hdiv⟩ := hmm
      obtain ⟨m0, m1⟩ := betw_iff.1 hmk
      by_cases h3 : K = 3
      · subst h3
        have HE := Lib.hid (bs_rack hc (HM.out.trans hmk))
        go_enter Try.func26, Try.ntmps26
        go_wp2_with fail
        refine absW ?_
        intro w0 hw
        have hb0 : Below w.heap.size w w0 := by rw [hw]; exact (by repeat' (first | assumption | exact Below.refl _ _ | refine Below.drew ?_ | refine Below.alloc ?_ (by first | omega | (simp; done) | (simp; omega)) _))
        have hD : Blk w0 w.heap.size 27 #[.int .i64 3, .int .i64 B, .int .i64 T, .int .i64 F] := by rw [hw]; exact Blk.new _ _ _
        clear hw
        refine (iCodeD _ _ _ _ _ _).mono ?_
        rintro e w1 ⟨rfl, hb⟩
        replace hD := hD.bel hb; replace hb0 := bel2 hb0 hb
        clear hb
        have c0 := hD.cell 0; have c1 := hD.cell 1; have c2 := hD.cell 2; have c3 := hD.cell 3
        simp at c0 c1 c2 c3
        rw [hc]
        go_wp2
        go_ret2
        obtain ⟨e1, e2⟩ := HE.out
        rw [e1, e2]
        exact ⟨rfl, hb0⟩
      · have HE := Lib.hid (bs_ok hc (HM.out.trans hmk) h3)
        go_enter Try.func26, Try.ntmps26
        go_wp2_with fail
        refine absW ?_
        intro w0 hw
        have hb0 : Below w.heap.size w w0 := by rw [hw]; exact (by repeat' (first | assumption | exact Below.refl _ _ | refine Below.drew ?_ | refine Below.alloc ?_ (by first | omega | (simp; done) | (simp; omega)) _))
        have hD : Blk w0 w.heap.size 27 #[.int .i64 K, .int .i64 B, .int .i64 T, .int .i64 F] := by rw [hw]; exact Blk.new _ _ _
        clear hw
        refine (iCodeD _ _ _ _ _ _).mono ?_
        rintro e w1 ⟨rfl, hb⟩
        replace hD := hD.bel hb; replace hb0 := bel2 hb0 hb
        clear hb
        have c0 := hD.cell 0; have c1 := hD.cell 1; have c2 := hD.cell 2; have c3 := hD.cell 3
        simp at c0 c1 c2 c3
        rw [hc]
        go_wp2_with fail
        refine (iTimes _ HK.out d1).mono ?_
        rintro e w2 ⟨v, rfl, ho, hb⟩
        obtain ⟨A, c, rfl, _, hcm⟩ := ho.form
        replace hD := hD.bel hb; replace hb0 := bel2 hb0 hb
        clear hb c0 c1 c2 c3
        have hR := ho.reads
        have c3 := hD.cell 3
        simp at c3
        have hdm : d ≤ 16 := by omega
        go_wp2
        go_loop [9, 35] (fun s i => ∃ k : Nat, k ≤ d ∧ i = .int .i64 k ∧ s = .int .i64 (cntB K B T F d m k : Int)) (fun _ i => d - (intOf i).toNat)
        case atStart => exact ⟨0, Nat.zero_le _, rfl, rfl⟩
        case round =>
          obtain ⟨k, hk, rfl, rfl⟩ := hrel
          have hcl := cntB_le K B T F d m k
          by_cases hlt : k < d
          · obtain ⟨ad, x, rfl, _, hx, hcx⟩ := hR.int_at hlt
            obtain rfl := times_at hlt hx
            clear hx
            obtain ⟨y0, y1⟩ := tooth_bd (K := K) (B := B) (T := T) (F := F) k1 k2 h3 d1 b2 hlt
            have W1 : IntKind.i64.wrap (timeD K B T F d k - F) = timeD K B T F d k - F := IntWalk.i64_in _ (by omega)
            cases hbr : brB F m (timeD K B T F d k)
            · have HS := Lib.hid (cntB_not hbr)
              have hbr' : ¬ bits .and .i64 (m / 2 ^ (timeD K B T F d k - F).toNat) 1 = 0 := by simpa [brB] using hbr
              go_wp2
              go_round
              case rel => exact ⟨k + 1, by omega, by go_num, by rw [HS.out]⟩
              case measure => simp [intOf]; omega
            · have HS := Lib.hid (cntB_yes hbr)
              have hbr' : bits .and .i64 (m / 2 ^ (timeD K B T F d k - F).toNat) 1 = 0 := by simpa [brB] using hbr
              go_wp2
              go_round
              case rel => exact ⟨k + 1, by omega, by go_num, by rw [HS.out]; go_num⟩
              case measure => simp [intOf]; omega
          · obtain rfl : k = d := by omega
            go_wp2
            go_ret2
            obtain ⟨e1, e2⟩ := HE.out
            rw [e1, e2]
            exact ⟨rfl, hb0⟩
end Go.Proofs.Ythpaampkpajdfaa
