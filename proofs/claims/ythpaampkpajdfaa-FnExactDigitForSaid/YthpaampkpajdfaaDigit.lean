/- The digit of a list of times. No condition. -/
import Derived.Test.YthpaampkpajdfaaSteps
namespace Go.Proofs.Ythpaampkpajdfaa
open Go.RowKit

def dfOk (K B T F : Int) (xs : List Int) : Bool := decide ((xs.length : Int) < B) && sameB (timesD K B T F xs.length) xs
def dfVal (K B T F : Int) (xs : List Int) : Int := if okD K B T F && dfOk K B T F xs then xs.length else 0
def dfCode (K B T F : Int) (xs : List Int) : Int := if okD K B T F then (if dfOk K B T F xs then 0 else 3) else 1
theorem df_1 {K B T F : Int} {xs : List Int} (h : okD K B T F = false) : dfVal K B T F xs = 0 ∧ dfCode K B T F xs = 1 := by simp [dfVal, dfCode, h]
theorem df_3 {K B T F : Int} {xs : List Int} (h : okD K B T F = true) (h' : dfOk K B T F xs = false) : dfVal K B T F xs = 0 ∧ dfCode K B T F xs = 3 := by simp [dfVal, dfCode, h, h']
theorem df_0 {K B T F : Int} {xs : List Int} (h : okD K B T F = true) (h' : dfOk K B T F xs = true) : dfVal K B T F xs = xs.length ∧ dfCode K B T F xs = 0 := by simp [dfVal, dfCode, h, h']
theorem same_iff {xs ys : List Int} : sameB xs ys = true ↔ xs = ys := by simp [sameB]
theorem df_at {K B T F : Int} {xs : List Int} {k : Nat} (hk : (k : Int) < B) (h : sameB (timesD K B T F k) xs = true) : dfOk K B T F xs = true ∧ xs.length = k := by
  have he := same_iff.1 h
  have hlen : xs.length = k := by rw [← he, times_length]
  rw [← hlen] at hk h
  exact ⟨by simp [dfOk, hk, h], hlen⟩
theorem df_none {K B T F : Int} {xs : List Int} (h : ∀ k : Nat, (k : Int) < B → sameB (timesD K B T F k) xs = false) : dfOk K B T F xs = false := by
  by_cases hn : (xs.length : Int) < B
  · simp [dfOk, h _ hn]
  · simp [dfOk, hn]

set_option maxHeartbeats 1600000 in
theorem sDigitFor {K B T F : Int} {A : Option Addr} {n c : Nat} {xs : List Int} (w : World) (h : Reads w w.heap.size 1 A n (xs.map (Value.int .i64))) (hl : xs.length = n) (hm : n ≤ maxLen) :
    Calls Try.prog 27 #[.agg #[.int .i64 K, .int .i64 B, .int .i64 T, .int .i64 F], .slice A n c] w fun e w' => e = .returned (.tuple #[.int .i64 (dfVal K B T F xs), .int .i64 (dfCode K B T F xs)]) ∧ Below w.heap.size w w' := by
  have hmm := hm
  unfold maxLen at hmm
  cases hk : okD K B T F
  all_goals
    go_enter Try.func27, Try.ntmps27
    go_wp2_with fail
    refine absW ?_
    intro w0 hw
    have hb0 : Below w.heap.size w w0 := by rw [hw]; exact (by repeat' (first | assumption | exact Below.refl _ _ | refine Below.drew ?_ | refine Below.alloc ?_ (by first | omega | (simp; done) | (simp; omega)) _))
    have hD : Blk w0 w.heap.size 27 #[.int .i64 K, .int .i64 B, .int .i64 T, .int .i64 F] := by rw [hw]; exact Blk.new _ _ _
    clear hw
    have c0 := hD.cell 0; have c1 := hD.cell 1; have c2 := hD.cell 2; have c3 := hD.cell 3
    simp at c0 c1 c2 c3
    refine (sOkD _ c0 c1 c2 c3).mono ?_
    rintro e w1 ⟨rfl, kk, hw1⟩
    have hb := RetQ.bel (w := w0) kk
    rw [← hw1] at hb
    clear hw1 c0 c1 c2 c3
    replace hD := hD.bel hb; replace hb0 := bel2 hb0 hb
    clear hb
    have c0 := hD.cell 0; have c1 := hD.cell 1; have c2 := hD.cell 2; have c3 := hD.cell 3
    simp at c0 c1 c2 c3
  · obtain ⟨e1, e2⟩ := df_1 (xs := xs) hk
    have HE := Lib.hid e1; have HE2 := Lib.hid e2; clear e1 e2
    go_wp2
    go_ret2
    rw [HE.out, HE2.out]
    exact ⟨rfl, hb0⟩
  · obtain ⟨_, ⟨b1, b2⟩, _⟩ := okD_parts hk
    have HK := Lib.hid hk
    by_cases hn : (n : Int) < B
    · rw [hk]
      go_wp2_with fail
      refine (sTimes _ hD HK.out (by omega)).mono ?_
      rintro e w2 ⟨v, rfl, ho, hb⟩
      obtain ⟨A2, c2', rfl, _, hcm⟩ := ho.form
      replace hb0 := bel2 hb0 hb
      clear c0 c1 c2 c3 hD hb
      go_wp2_with fail
      refine (sSame _ ho.reads (rdB h hb0) (times_length _ _ _ _ _) hl (by have := hcm; omega) hm).mono ?_
      rintro e w3 ⟨rfl, kk3, hw3⟩
      have hb3 := RetQ.bel (w := w2) kk3
      rw [← hw3] at hb3
      clear hw3
      replace hb0 := bel2 hb0 hb3
      clear hb3 ho
      cases hs : sameB (timesD K B T F n) xs
      · have hO : dfOk K B T F xs = false := by rw [← hl] at hs; simp [dfOk, hs]
        obtain ⟨e1, e2⟩ := df_3 HK.out hO
        have HE := Lib.hid e1; have HE2 := Lib.hid e2; clear e1 e2
        go_wp2
        go_ret2
        rw [HE.out, HE2.out]
        exact ⟨rfl, hb0⟩
      · obtain ⟨hO, _⟩ := df_at hn hs
        obtain ⟨e1, e2⟩ := df_0 HK.out hO
        rw [hl] at e1
        have HE := Lib.hid e1; have HE2 := Lib.hid e2; clear e1 e2
        go_wp2
        go_ret2
        rw [HE.out, HE2.out]
        exact ⟨rfl, hb0⟩
    · have hO : dfOk K B T F xs = false := by rw [← hl] at hn; simp [dfOk, hn]
      obtain ⟨e1, e2⟩ := df_3 HK.out hO
      have HE := Lib.hid e1; have HE2 := Lib.hid e2; clear e1 e2
      rw [hk]
      go_wp2
      go_ret2
      rw [HE.out, HE2.out]
      exact ⟨rfl, hb0⟩

set_option maxHeartbeats 1600000 in
theorem iDigitFor {K B T F : Int} {A : Option Addr} {n c : Nat} {xs : List Int} (w : World) (h : Reads w w.heap.size 1 A n (xs.map (Value.int .i64))) (hl : xs.length = n) (hm : n ≤ maxLen) :
    Calls Try.prog 29 #[.agg #[.int .i64 K, .int .i64 B, .int .i64 T, .int .i64 F], .slice A n c] w fun e w' => e = .returned (.tuple #[.int .i64 (dfVal K B T F xs), .int .i64 (dfCode K B T F xs)]) ∧ Below w.heap.size w w' := by
  cases hk : okD K B T F
  all_goals
    go_enter Try.func29, Try.ntmps29
    go_wp2_with fail
    refine absW ?_
    intro w0 hw
    have hb0 : Below w.heap.size w w0 := by rw [hw]; exact (by repeat' (first | assumption | exact Below.refl _ _ | refine Below.drew ?_ | refine Below.alloc ?_ (by first | omega | (simp; done) | (simp; omega)) _))
    have hD : Blk w0 w.heap.size 27 #[.int .i64 K, .int .i64 B, .int .i64 T, .int .i64 F] := by rw [hw]; exact Blk.new _ _ _
    clear hw
    refine (iOkD _ _ _ _ _).mono ?_
    rintro e w1 ⟨rfl, hb⟩
    replace hD := hD.bel hb; replace hb0 := bel2 hb0 hb
    clear hb
    have c0 := hD.cell 0; have c1 := hD.cell 1; have c2 := hD.cell 2; have c3 := hD.cell 3
    simp at c0 c1 c2 c3
  · obtain ⟨e1, e2⟩ := df_1 (xs := xs) hk
    have HE := Lib.hid e1; have HE2 := Lib.hid e2; clear e1 e2
    go_wp2
    go_ret2
    rw [HE.out, HE2.out]
    exact ⟨rfl, hb0⟩
  · obtain ⟨_, ⟨b1, b2⟩, _⟩ := okD_parts hk
    have HK := Lib.hid hk
    rw [hk]
    obtain ⟨m, rfl⟩ := Int.eq_ofNat_of_zero_le (show 0 ≤ B by omega)
    clear hk
    go_wp2
    clear c0 c1 c2 c3
    go_loopw [12] (fun i wr => ∃ k : Nat, k ≤ m ∧ i = .int .i64 k ∧ Blk wr w.heap.size 27 #[.int .i64 K, .int .i64 (m : Int), .int .i64 T, .int .i64 F] ∧ Below w.heap.size w wr ∧ Hid (∀ j : Nat, j < k → sameB (timesD K m T F j) xs = false)) (fun i _ => m - (intOf i).toNat)
    case atStart => exact ⟨0, Nat.zero_le _, rfl, hD, hb0, fun j hj => absurd hj (by omega)⟩
    case round =>
      clear hD hb0
      obtain ⟨k, hkm, rfl, hD, hB, hN⟩ := hrel
      have c0 := hD.cell 0; have c1 := hD.cell 1; have c2 := hD.cell 2; have c3 := hD.cell 3
      simp at c0 c1 c2 c3
      by_cases hlt : k < m
      · go_wp2_with fail
        refine (iTimes _ HK.out (by omega)).mono ?_
        rintro e w2 ⟨v, rfl, ho, hb⟩
        obtain ⟨A2, c2', rfl, _, hcm⟩ := ho.form
        replace hB := bel2 hB hb; replace hD := hD.bel hb
        clear c0 c1 c2 c3 hb
        go_wp2_with fail
        refine (iSame _ ho.reads (rdB h hB) (times_length _ _ _ _ _) hl (by have := hcm; omega) hm).mono ?_
        rintro e w3 ⟨rfl, kk3, hw3⟩
        have hb3 := RetQ.bel (w := w2) kk3
        rw [← hw3] at hb3
        clear hw3
        replace hB := bel2 hB hb3; replace hD := hD.bel hb3
        clear hb3 ho
        cases hs : sameB (timesD K m T F k) xs
        · have hN2 : Hid (∀ j : Nat, j < k + 1 → sameB (timesD K m T F j) xs = false) := by
            intro j hj
            by_cases hjk : j < k
            · exact hN.out j hjk
            · obtain rfl : j = k := by omega
              exact hs
          go_wp2
          go_roundw
          case rel => exact ⟨k + 1, by omega, by go_num, hD, hB, hN2⟩
          case measure => simp [intOf]; omega
        · obtain ⟨hO, hlen⟩ := df_at (show (k : Int) < (m : Int) by omega) hs
          obtain ⟨e1, e2⟩ := df_0 HK.out hO
          rw [hlen] at e1
          have HE := Lib.hid e1; have HE2 := Lib.hid e2; clear e1 e2
          go_wp2
          go_ret2
          rw [HE.out, HE2.out]
          exact ⟨rfl, hB⟩
      · obtain rfl : k = m := by omega
        have hO := df_none (K := K) (B := k) (T := T) (F := F) (xs := xs) (fun j hj => hN.out j (by omega))
        obtain ⟨e1, e2⟩ := df_3 HK.out hO
        have HE := Lib.hid e1; have HE2 := Lib.hid e2; clear e1 e2
        go_wp2
        go_ret2
        rw [HE.out, HE2.out]
        exact ⟨rfl, hB⟩
end Go.Proofs.Ythpaampkpajdfaa
