/- Drums: their codes, the lists of their times. No condition. -/
import Derived.Test.YthpaampkpajdfaaDrum
import Derived.Test.YthpaampkpajdfaaApp
import Derived.Test.YthpaampkpajdfaaIntsMem
namespace Go.Proofs.Ythpaampkpajdfaa
open Go.RowKit

theorem eltI : Elt Try.prog 24 2 1 := by
  obtain ⟨i0, hi, hz0, hz1, hz2⟩ := info_parts infoI
  exact ⟨i0, _, _, Try.underlying24, hi, hz0, hz1, hz2, rfl, by decide, by decide⟩
def codeD (K B T F d : Int) : Int := if okD K B T F then (if betwB d 0 (B - 1) then 0 else 2) else 1
theorem codeD_1 {K B T F d : Int} (h : okD K B T F = false) : codeD K B T F d = 1 := by simp [codeD, h]
theorem codeD_2 {K B T F d : Int} (h : okD K B T F = true) (h' : betwB d 0 (B - 1) = false) : codeD K B T F d = 2 := by simp [codeD, h, h']
theorem codeD_0 {K B T F d : Int} (h : okD K B T F = true) (h' : betwB d 0 (B - 1) = true) : codeD K B T F d = 0 := by simp [codeD, h, h']
theorem codeD_cases (K B T F d : Int) : (codeD K B T F d = 1 ∨ codeD K B T F d = 2) ∨ (codeD K B T F d = 0 ∧ okD K B T F = true ∧ 0 ≤ d ∧ d ≤ B - 1) := by
  cases h : okD K B T F
  · exact .inl (.inl (codeD_1 h))
  · cases h' : betwB d 0 (B - 1)
    · exact .inl (.inr (codeD_2 h h'))
    · exact .inr ⟨codeD_0 h h', rfl, betw_iff.1 h'⟩
def timesD (K B T F : Int) (d : Nat) : List Int := (List.range d).map fun (k : Nat) => timeD K B T F d k
theorem times_length (K B T F : Int) (d : Nat) : (timesD K B T F d).length = d := by simp [timesD]
theorem times_take {K B T F : Int} {d k : Nat} (h : k < d) : (timesD K B T F d).take (k + 1) = (timesD K B T F d).take k ++ [timeD K B T F d k] := by
  rw [List.take_add_one]
  simp [timesD, h]
theorem times_at {K B T F x : Int} {d k : Nat} (h : k < d) (hx : (timesD K B T F d)[k]? = some x) : x = timeD K B T F d k := by
  simp [timesD, h] at hx
  exact hx.symm

set_option maxHeartbeats 1000000 in
theorem sCodeD (w : World) {K B T F d : Int} {g : Nat} (hD : Blk w g 27 #[.int .i64 K, .int .i64 B, .int .i64 T, .int .i64 F]) :
    Calls Try.prog 61 #[.pointer (some ⟨g, 0, none⟩), .int .i64 d] w (RetQ (.int .i64 (codeD K B T F d)) w) := by
  have c0 := hD.cell 0; have c1 := hD.cell 1; have c2 := hD.cell 2; have c3 := hD.cell 3
  simp at c0 c1 c2 c3
  cases hk : okD K B T F
  · go_enter Try.func61, Try.ntmps61
    go_wp2_with fail
    refine (sOkD _ c0 c1 c2 c3).mono ?_
    rintro e w1 ⟨rfl, kk, rfl⟩
    go_wp2
    go_ret
    exact ⟨ret_n (codeD_1 hk).symm, _, rfl⟩
  · obtain ⟨_, ⟨b1, b2⟩, _⟩ := okD_parts hk
    cases hd : betwB d 0 (B - 1)
    all_goals
      go_enter Try.func61, Try.ntmps61
      go_wp2_with fail
      refine (sOkD _ c0 c1 c2 c3).mono ?_
      rintro e w1 ⟨rfl, kk, rfl⟩
      go_wp2_with (first | (go_at_call 65; refine (l00In_any _ _ _ _).mono ?_; rintro e w' ⟨rfl, rfl⟩))
      go_ret
    · exact ⟨ret_n (codeD_2 hk hd).symm, _, rfl⟩
    · exact ⟨ret_n (codeD_0 hk hd).symm, _, rfl⟩

set_option maxHeartbeats 1000000 in
theorem iCodeD (w : World) (K B T F d : Int) :
    Calls Try.prog 63 #[.agg #[.int .i64 K, .int .i64 B, .int .i64 T, .int .i64 F], .int .i64 d] w fun e w' => e = .returned (.int .i64 (codeD K B T F d)) ∧ Below w.heap.size w w' := by
  cases hk : okD K B T F
  · go_enter Try.func63, Try.ntmps63
    go_wp2_with fail
    refine (iOkD _ _ _ _ _).mono ?_
    rintro e w1 ⟨rfl, hb⟩
    go_wp2
    go_ret
    exact ⟨ret_n (codeD_1 hk).symm, (bel2 (by repeat' (first | assumption | exact Below.refl _ _ | refine Below.drew ?_ | refine Below.alloc ?_ (by first | omega | (simp; done) | (simp; omega)) _)) hb)⟩
  · obtain ⟨_, ⟨b1, b2⟩, _⟩ := okD_parts hk
    cases hd : betwB d 0 (B - 1)
    all_goals
      go_enter Try.func63, Try.ntmps63
      go_wp2_with fail
      refine absW ?_
      intro w0 hw
      have hb0 : Below w.heap.size w w0 := by rw [hw]; exact (by repeat' (first | assumption | exact Below.refl _ _ | refine Below.drew ?_ | refine Below.alloc ?_ (by first | omega | (simp; done) | (simp; omega)) _))
      have hD : Blk w0 w.heap.size 27 #[.int .i64 K, .int .i64 B, .int .i64 T, .int .i64 F] := by rw [hw]; exact Blk.new _ _ _
      clear hw
      refine (iOkD _ _ _ _ _).mono ?_
      rintro e w1 ⟨rfl, hb⟩
      replace hD := hD.bel hb
      replace hb0 := bel2 hb0 hb
      clear hb
      have c1 := hD.cell 1
      simp at c1
      go_wp2_with (first | (go_at_call 97; refine (between_any _ _ _ _).mono ?_; rintro e w' ⟨rfl, rfl⟩))
      go_ret
    · exact ⟨ret_n (codeD_2 hk hd).symm, hb0⟩
    · exact ⟨ret_n (codeD_0 hk hd).symm, hb0⟩

set_option maxHeartbeats 1600000 in
theorem sTimes (w : World) {K B T F : Int} {g d : Nat} (hD : Blk w g 27 #[.int .i64 K, .int .i64 B, .int .i64 T, .int .i64 F]) (hok : okD K B T F = true) (d1 : (d : Int) ≤ B - 1) :
    Calls Try.prog 62 #[.pointer (some ⟨g, 0, none⟩), .int .i64 d] w (RetOwn w 2 1 d ((timesD K B T F d).map (Value.int .i64))) := by
  obtain ⟨_, ⟨b1, b2⟩, _⟩ := okD_parts hok
  have HK := Lib.hid hok; clear hok
  go_enter Try.func62, Try.ntmps62
  go_wp2
  go_loopw [5, 6] (fun o i wr => ∃ (k : Nat) (A' : Option Addr) (c' : Nat), k ≤ d ∧ i = .int .i64 k ∧ o = .slice A' k c' ∧ Own wr w.heap.size wr.heap.size 2 1 (.slice A' k c') k (((timesD K B T F d).take k).map (Value.int .i64)) ∧ w.heap.size ≤ wr.heap.size ∧ Below w.heap.size w wr) (fun _ i _ => d - (intOf i).toNat)
  case atStart => exact ⟨0, some ⟨w.heap.size, 0, none⟩, 0, Nat.zero_le _, rfl, rfl, ((Blk.new w 2 #[]).own (n := 0) (Nat.zero_le _) rfl).more (Nat.le_refl _) (by simp), by simp, (by repeat' (first | assumption | exact Below.refl _ _ | refine Below.drew ?_ | refine Below.alloc ?_ (by first | omega | (simp; done) | (simp; omega)) _))⟩
  case round =>
    obtain ⟨k, A', c', hk, rfl, rfl, ho, hs, hB⟩ := hrel
    replace hD := hD.bel hB
    by_cases hlt : k < d
    · have HS := Lib.hid (times_take (K := K) (B := B) (T := T) (F := F) hlt)
      have c0 := hD.cell 0; have c1 := hD.cell 1; have c2 := hD.cell 2; have c3 := hD.cell 3
      simp at c0 c1 c2 c3
      go_wp2_with fail
      refine (sTimeD _ c0 c1 c2 c3 HK.out (by omega) d1 (by omega) (by omega)).mono ?_
      rintro e w1 ⟨rfl, kk, hw1⟩
      have hb := RetQ.bel (w := wr) kk
      rw [← hw1] at hb
      clear hw1
      replace ho := ho.bel hb; replace hB := bel2 hB hb; replace hs := Nat.le_trans hs hb.size
      clear c0 c1 c2 c3 hD
      go_wp2_with (first | (at_builtin; refine wpList_app1 rfl (.tmp 13) (.tmp 18) rfl eltI rfl (ho.alloc _) rfl (Blk.new _ _ _) rfl (one_int _) (by omega) (by simp; omega) ?_; intro A2 c2 w2 ho2 ht2))
      have hz2 := ht2.size
      go_roundw
      case rel => exact ⟨k + 1, A2, c2, by omega, by go_num, rfl, by rw [HS.out]; simpa using ho2, by simp at hz2 ⊢; omega, (Touch.below (hB.alloc (by omega) _) ht2 (by simp; omega) (by omega))⟩
      case measure => simp [intOf]; omega
    · obtain rfl : k = d := by omega
      have HT : Hid ((timesD K B T F k).take k = timesD K B T F k) := by unfold Hid; rw [List.take_of_length_le (by rw [times_length]; exact Nat.le_refl _)]
      rw [HT.out] at ho
      go_wp2
      go_ret
      exact ⟨_, rfl, ho, hB⟩

set_option maxHeartbeats 3200000 in
theorem iTimes (w : World) {K B T F : Int} {d : Nat} (hok : okD K B T F = true) (d1 : (d : Int) ≤ B - 1) :
    Calls Try.prog 64 #[.agg #[.int .i64 K, .int .i64 B, .int .i64 T, .int .i64 F], .int .i64 d] w (RetOwn w 2 1 d ((timesD K B T F d).map (Value.int .i64))) := by
  obtain ⟨⟨k1, k2⟩, ⟨b1, b2⟩, ⟨u1, u2⟩, f1, f2⟩ := okD_parts hok
  clear hok
  have hcase : K = 1 ∨ K = 2 ∨ K = 3 := by omega
  rcases hcase with rfl | rfl | rfl
  · go_enter Try.func64, Try.ntmps64
    go_wp2
    go_loopw [5, 9] (fun o i wr => ∃ (k : Nat) (A' : Option Addr) (c' : Nat), k ≤ d ∧ i = .int .i64 k ∧ o = .slice A' k c' ∧ Blk wr w.heap.size 27 #[.int .i64 1, .int .i64 B, .int .i64 T, .int .i64 F] ∧ Own wr (w.heap.size + 1) wr.heap.size 2 1 (.slice A' k c') k (((timesD 1 B T F d).take k).map (Value.int .i64)) ∧ w.heap.size + 1 ≤ wr.heap.size ∧ Below w.heap.size w wr) (fun _ i _ => d - (intOf i).toNat)
    case atStart => exact ⟨0, some ⟨w.heap.size + 1, 0, none⟩, 0, Nat.zero_le _, rfl, rfl, (Blk.new _ _ _).alloc _, by simpa using ((Blk.new (w.alloc (.cells #[.int .i64 1, .int .i64 B, .int .i64 T, .int .i64 F] 27)) 2 #[]).own (n := 0) (Nat.zero_le _) rfl).more (Nat.le_refl _) (by simp), by simp, (by repeat' (first | assumption | exact Below.refl _ _ | refine Below.drew ?_ | refine Below.alloc ?_ (by first | omega | (simp; done) | (simp; omega)) _))⟩
    case round =>
      obtain ⟨k, A', c', hk, rfl, rfl, hD, ho, hs, hB⟩ := hrel
      by_cases hlt : k < d
      · have HS := Lib.hid (times_take (K := 1) (B := B) (T := T) (F := F) hlt)
        have c0 := hD.cell 0; have c1 := hD.cell 1; have c2 := hD.cell 2; have c3 := hD.cell 3
        simp at c0 c1 c2 c3
        have ki0 : (0 : Int) ≤ (k : Int) := Int.natCast_nonneg _
        have ki1 : (k : Int) < (d : Int) := by omega
        have HV := Lib.hid (timeD_1 (B := B) (T := T) (F := F) (d := (d : Int)) (t := (k : Int)))
        go_wp2_with (first | (at_builtin; refine wpList_app1 rfl (.tmp 29) (.tmp 40) rfl eltI rfl (ho.alloc _) rfl (Blk.new _ _ _) rfl (one_int _) (by omega) (by simp; omega) ?_; intro A2 c2' w2 ho2 ht2))
        have hz2 := ht2.size
        have hD2 := Blk.touch (hD.alloc _) ht2 (.inl (by omega))
        clear c0 c1 c2 c3
        go_roundw
        case rel => exact ⟨k + 1, A2, c2', by omega, by go_num, rfl, hD2, by rw [HS.out, HV.out]; simpa using ho2, by simp at hz2 ⊢; omega, (Touch.below (hB.alloc (by omega) _) ht2 (by simp; omega) (by omega))⟩
        case measure => simp [intOf]; omega
      · obtain rfl : k = d := by omega
        have HT : Hid ((timesD 1 B T F k).take k = timesD 1 B T F k) := by unfold Hid; rw [List.take_of_length_le (by rw [times_length]; exact Nat.le_refl _)]
        rw [HT.out] at ho
        go_wp2
        go_ret
        exact ⟨_, rfl, ho.more (by omega) (Nat.le_refl _), hB⟩
  · go_enter Try.func64, Try.ntmps64
    go_wp2
    go_loopw [5, 9] (fun o i wr => ∃ (k : Nat) (A' : Option Addr) (c' : Nat), k ≤ d ∧ i = .int .i64 k ∧ o = .slice A' k c' ∧ Blk wr w.heap.size 27 #[.int .i64 2, .int .i64 B, .int .i64 T, .int .i64 F] ∧ Own wr (w.heap.size + 1) wr.heap.size 2 1 (.slice A' k c') k (((timesD 2 B T F d).take k).map (Value.int .i64)) ∧ w.heap.size + 1 ≤ wr.heap.size ∧ Below w.heap.size w wr) (fun _ i _ => d - (intOf i).toNat)
    case atStart => exact ⟨0, some ⟨w.heap.size + 1, 0, none⟩, 0, Nat.zero_le _, rfl, rfl, (Blk.new _ _ _).alloc _, by simpa using ((Blk.new (w.alloc (.cells #[.int .i64 2, .int .i64 B, .int .i64 T, .int .i64 F] 27)) 2 #[]).own (n := 0) (Nat.zero_le _) rfl).more (Nat.le_refl _) (by simp), by simp, (by repeat' (first | assumption | exact Below.refl _ _ | refine Below.drew ?_ | refine Below.alloc ?_ (by first | omega | (simp; done) | (simp; omega)) _))⟩
    case round =>
      obtain ⟨k, A', c', hk, rfl, rfl, hD, ho, hs, hB⟩ := hrel
      by_cases hlt : k < d
      · have HS := Lib.hid (times_take (K := 2) (B := B) (T := T) (F := F) hlt)
        have c0 := hD.cell 0; have c1 := hD.cell 1; have c2 := hD.cell 2; have c3 := hD.cell 3
        simp at c0 c1 c2 c3
        have ki0 : (0 : Int) ≤ (k : Int) := Int.natCast_nonneg _
        have ki1 : (k : Int) < (d : Int) := by omega
        have HV := Lib.hid (timeD_2 (B := B) (T := T) (F := F) (d := (d : Int)) (t := (k : Int)))
        go_wp2_with (first | (at_builtin; refine wpList_app1 rfl (.tmp 44) (.tmp 49) rfl eltI rfl (ho.alloc _) rfl (Blk.new _ _ _) rfl (one_int _) (by omega) (by simp; omega) ?_; intro A2 c2' w2 ho2 ht2))
        have hz2 := ht2.size
        have hD2 := Blk.touch (hD.alloc _) ht2 (.inl (by omega))
        clear c0 c1 c2 c3
        go_roundw
        case rel => exact ⟨k + 1, A2, c2', by omega, by go_num, rfl, hD2, by rw [HS.out, HV.out]; simpa using ho2, by simp at hz2 ⊢; omega, (Touch.below (hB.alloc (by omega) _) ht2 (by simp; omega) (by omega))⟩
        case measure => simp [intOf]; omega
      · obtain rfl : k = d := by omega
        have HT : Hid ((timesD 2 B T F k).take k = timesD 2 B T F k) := by unfold Hid; rw [List.take_of_length_le (by rw [times_length]; exact Nat.le_refl _)]
        rw [HT.out] at ho
        go_wp2
        go_ret
        exact ⟨_, rfl, ho.more (by omega) (Nat.le_refl _), hB⟩
  · go_enter Try.func64, Try.ntmps64
    go_wp2
    go_loopw [5, 9] (fun o i wr => ∃ (k : Nat) (A' : Option Addr) (c' : Nat), k ≤ d ∧ i = .int .i64 k ∧ o = .slice A' k c' ∧ Blk wr w.heap.size 27 #[.int .i64 3, .int .i64 B, .int .i64 T, .int .i64 F] ∧ Own wr (w.heap.size + 1) wr.heap.size 2 1 (.slice A' k c') k (((timesD 3 B T F d).take k).map (Value.int .i64)) ∧ w.heap.size + 1 ≤ wr.heap.size ∧ Below w.heap.size w wr) (fun _ i _ => d - (intOf i).toNat)
    case atStart => exact ⟨0, some ⟨w.heap.size + 1, 0, none⟩, 0, Nat.zero_le _, rfl, rfl, (Blk.new _ _ _).alloc _, by simpa using ((Blk.new (w.alloc (.cells #[.int .i64 3, .int .i64 B, .int .i64 T, .int .i64 F] 27)) 2 #[]).own (n := 0) (Nat.zero_le _) rfl).more (Nat.le_refl _) (by simp), by simp, (by repeat' (first | assumption | exact Below.refl _ _ | refine Below.drew ?_ | refine Below.alloc ?_ (by first | omega | (simp; done) | (simp; omega)) _))⟩
    case round =>
      obtain ⟨k, A', c', hk, rfl, rfl, hD, ho, hs, hB⟩ := hrel
      by_cases hlt : k < d
      · have HS := Lib.hid (times_take (K := 3) (B := B) (T := T) (F := F) hlt)
        have c0 := hD.cell 0; have c1 := hD.cell 1; have c2 := hD.cell 2; have c3 := hD.cell 3
        simp at c0 c1 c2 c3
        have ki0 : (0 : Int) ≤ (k : Int) := Int.natCast_nonneg _
        have ki1 : (k : Int) < (d : Int) := by omega
        obtain ⟨m1, m2⟩ := mulT (t := (k : Int)) (by omega) (by omega) (show 0 ≤ T by omega) u2
        have hdn : ¬ (d : Int) = 0 := by omega
        have hdv : (((k : Int) + 1) * T + (d : Int) - 1).tdiv (d : Int) = (((k : Int) + 1) * T + (d : Int) - 1) / (d : Int) := Int.tdiv_eq_ediv_of_nonneg (by omega)
        have q1 : 0 ≤ (((k : Int) + 1) * T + (d : Int) - 1) / (d : Int) := Int.ediv_nonneg (by omega) (by omega)
        have q2 := Int.ediv_le_self (d : Int) (show 0 ≤ ((k : Int) + 1) * T + (d : Int) - 1 by omega)
        have HV := Lib.hid (timeD_3 (B := B) (T := T) (F := F) (d := (d : Int)) (t := (k : Int)))
        go_wp2_with (first | (at_builtin; refine wpList_app1 rfl (.tmp 14) (.tmp 25) rfl eltI rfl (ho.alloc _) rfl (Blk.new _ _ _) rfl (one_int _) (by omega) (by simp; omega) ?_; intro A2 c2' w2 ho2 ht2))
        have hz2 := ht2.size
        have hD2 := Blk.touch (hD.alloc _) ht2 (.inl (by omega))
        clear c0 c1 c2 c3
        go_roundw
        case rel => exact ⟨k + 1, A2, c2', by omega, by go_num, rfl, hD2, by rw [HS.out, HV.out]; simpa using ho2, by simp at hz2 ⊢; omega, (Touch.below (hB.alloc (by omega) _) ht2 (by simp; omega) (by omega))⟩
        case measure => simp [intOf]; omega
      · obtain rfl : k = d := by omega
        have HT : Hid ((timesD 3 B T F k).take k = timesD 3 B T F k) := by unfold Hid; rw [List.take_of_length_le (by rw [times_length]; exact Nat.le_refl _)]
        rw [HT.out] at ho
        go_wp2
        go_ret
        exact ⟨_, rfl, ho.more (by omega) (Nat.le_refl _), hB⟩
end Go.Proofs.Ythpaampkpajdfaa
