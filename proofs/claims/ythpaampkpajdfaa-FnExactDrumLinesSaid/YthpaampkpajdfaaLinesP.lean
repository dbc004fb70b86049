/- The lines of a drum, the program's walk. No condition. -/
import Derived.Test.YthpaampkpajdfaaLinesI
namespace Go.Proofs.Ythpaampkpajdfaa
open Go.RowKit


set_option maxRecDepth 100000 in
set_option maxHeartbeats 4000000 in
theorem iLines (w : World) (K B T F : Int) :
    Calls Try.prog 36 #[.agg #[.int .i64 K, .int .i64 B, .int .i64 T, .int .i64 F]] w (RetSS w 9 1 (dlN K B T F) ((dlXs K B T F).map Value.string) (dlC K B T F)) := by
  cases hk : okD K B T F
  · have HE := Lib.hid (dl_bad hk)
    go_enter Try.func36, Try.ntmps36
    go_wp2_with fail
    refine absW ?_
    intro w0 hw
    have hb0 : Below w.heap.size w w0 := by rw [hw]; exact (by repeat' (first | assumption | exact Below.refl _ _ | refine Below.drew ?_ | refine belN ?_ _ | refine Below.alloc ?_ (by first | omega | (simp; done) | (simp; omega)) _ | refine Below.setCell ?_ (by first | omega | (simp; done) | (simp; omega)) _))
    clear hw
    refine (iOkD _ _ _ _ _).mono ?_
    rintro e w1 ⟨rfl, hb⟩
    rw [hk]
    go_wp2
    go_ret2
    obtain ⟨e1, e2, e3⟩ := HE.out
    rw [e1, e2, e3]
    exact ⟨_, rfl, Own.nil _ _ _ _ _, bel2 hb0 hb⟩
  obtain ⟨⟨k1, k2⟩, ⟨b1, b2⟩, ⟨v3, v4⟩, g1, g2⟩ := okD_parts hk
  obtain ⟨B, rfl⟩ := Int.eq_ofNat_of_zero_le (show 0 ≤ B by omega)
  obtain ⟨N, rfl⟩ := Int.eq_ofNat_of_zero_le (show 0 ≤ T by omega)
  have HE := Lib.hid (dl_ok hk)
  have HK := Lib.hid hk
  go_enter Try.func36, Try.ntmps36
  go_wp2_with fail
  refine absW ?_
  intro w0 hw
  have hb0 : Below w.heap.size w w0 := by rw [hw]; exact (by repeat' (first | assumption | exact Below.refl _ _ | refine Below.drew ?_ | refine belN ?_ _ | refine Below.alloc ?_ (by first | omega | (simp; done) | (simp; omega)) _ | refine Below.setCell ?_ (by first | omega | (simp; done) | (simp; omega)) _))
  have hD : Blk w0 w.heap.size 27 #[.int .i64 K, .int .i64 (B : Int), .int .i64 (N : Int), .int .i64 F] := by rw [hw]; exact Blk.new _ _ _
  clear hw
  refine (iOkD _ _ _ _ _).mono ?_
  rintro e w1 ⟨rfl, hb⟩
  rw [hk]
  clear hk
  replace hD := hD.bel hb; replace hb0 := bel2 hb0 hb
  clear hb
  have hlt1 := hD.lt
  have c1 := hD.cell 1
  simp at c1
  go_wp2
  go_loopw [4, 15] (fun o i wr => ∃ (k : Nat) (A' : Option Addr) (c' : Nat), k ≤ B ∧ i = .int .i64 k ∧ o = .slice A' k c' ∧ Blk wr w.heap.size 27 #[.int .i64 K, .int .i64 (B : Int), .int .i64 (N : Int), .int .i64 F] ∧ Own wr w1.heap.size wr.heap.size 9 1 (.slice A' k c') k ((lnS K B F N k).map Value.string) ∧ Below w.heap.size w wr ∧ w1.heap.size ≤ wr.heap.size) (fun _ i _ => B - (intOf i).toNat)
  case atStart => exact ⟨0, some ⟨w1.heap.size, 0, none⟩, 0, Nat.zero_le _, rfl, rfl, hD.alloc _, ((Blk.new w1 9 #[]).own (n := 0) (Nat.zero_le _) rfl).more (Nat.le_refl _) (by simp), hb0.alloc hb0.size _, by simp⟩
  case round =>
    clear hD hb0 c1
    obtain ⟨k, A', c', hkB, rfl, rfl, hD, ho, hB, hs⟩ := hrel
    have c0 := hD.cell 0; have c1 := hD.cell 1; have c2 := hD.cell 2; have c3 := hD.cell 3
    simp at c0 c1 c2 c3
    by_cases hlt : k < B
    · obtain ⟨wo, rfl⟩ : ∃ wo : World, wo = wr := ⟨_, rfl⟩
      have kB : (k : Int) < (B : Int) := by omega
      go_wp2_with fail
      refine (iRepeat N _ (by omega)).mono ?_
      rintro e wx ⟨rfl, hbx⟩
      have hzx := hbx.size
      replace hD := hD.bel hbx; replace ho := ho.bel hbx; replace hB := bel2 hB hbx
      clear hbx c0 c1 c2 c3
      have c0 := hD.cell 0; have c1 := hD.cell 1; have c2 := hD.cell 2; have c3 := hD.cell 3
      simp at c0 c1 c2 c3
      have hcv2 := run_bytes_of_string (P := Try.prog) wx 9 94 5 (strOfNums (List.replicate N 46)) Try.underlying9 Try.underlying94 Try.underlying5
      rw [rep_size] at hcv2
      generalize grownCap wx N 0 5 = cap at hcv2
      obtain ⟨lo, hlo⟩ : ∃ lo, lo = (bytesRow (strOfNums (List.replicate N 46)) cap).size := ⟨_, rfl⟩
      have hlo2 : N ≤ lo := by rw [hlo]; have := rep_size N; simp [bytesRow]; omega
      rw [← hlo] at hcv2
      clear hlo
      clear c0 c1 c2 c3
      have hD2 := hD.alloc (.cells (bytesRow (strOfNums (List.replicate N 46)) cap) 5 (lo, lo + 1))
      have c0 := hD2.cell 0; have c1 := hD2.cell 1; have c2 := hD2.cell 2; have c3 := hD2.cell 3
      simp at c0 c1 c2 c3
      go_wp2_with fail
      refine absW ?_
      intro wy hy
      have hL : Ln wy wx.heap.size N (List.replicate N 46) := by rw [hy]; exact (Ln.new wx N cap lo (lo + 1) hlo2).bel (by first | exact Below.refl _ _ | exact (Below.refl _ _).drew)
      have hby : Below wx.heap.size wx wy := by rw [hy]; exact (by repeat' (first | assumption | exact Below.refl _ _ | refine Below.drew ?_ | refine belN ?_ _ | refine Below.alloc ?_ (by first | omega | (simp; done) | (simp; omega)) _ | refine Below.setCell ?_ (by first | omega | (simp; done) | (simp; omega)) _))
      have hzy : wx.heap.size < wy.heap.size := by rw [hy]; simp
      clear hy c0 c1 c2 c3 hD2 hcv2
      replace hD := hD.bel hby; replace ho := ho.bel hby; replace hB := bel2 hB hby
      refine (iTimes _ HK.out (by omega)).mono ?_
      rintro e w3 ⟨v, rfl, ht, hb3⟩
      obtain ⟨A3, c3', rfl, _, hcm⟩ := ht.form
      obtain ⟨wt, hwt⟩ : ∃ wt, wy.heap.size = wt := ⟨_, rfl⟩
      obtain ⟨gx, hgx⟩ : ∃ gx, wx.heap.size = gx := ⟨_, rfl⟩
      rw [hwt] at ht hzy
      rw [hgx] at hL hzy hzx
      replace ho := ho.bel hb3; replace hL := hL.bel hb3
      replace hB := bel2 hB hb3; replace hD := hD.bel hb3
      have hz3 : wt ≤ w3.heap.size := by rw [← hwt]; exact hb3.size
      clear hb3 hwt hby
      have k0 : (0 : Int) ≤ (k : Int) := Int.natCast_nonneg _
      rw [hgx]
      clear hgx
      go_wp2
      go_loopw [26] (fun i wr => ∃ m : Nat, m ≤ k ∧ i = .int .i64 m ∧ Blk wr w.heap.size 27 #[.int .i64 K, .int .i64 (B : Int), .int .i64 (N : Int), .int .i64 F] ∧ Own wr w1.heap.size wo.heap.size 9 1 (.slice A' k c') k ((lnS K B F N k).map Value.string) ∧ Ln wr gx N (((timesD K B N F k).take m).foldl setL (List.replicate N 46)) ∧ Own wr wt w3.heap.size 2 1 (.slice A3 k c3') k ((timesD K B N F k).map (Value.int .i64)) ∧ Below w.heap.size w wr ∧ wt ≤ wr.heap.size) (fun i _ => k - (intOf i).toNat)
      case atStart => exact ⟨0, Nat.zero_le _, rfl, hD, ho, hL, ht, hB, hz3⟩
      case round =>
        clear hD ho hL ht hB
        obtain ⟨m, hmk, rfl, hD, ho, hL, ht, hB, hz4⟩ := hrel
        by_cases hm : m < k
        · obtain ⟨ad3, y, rfl, _, hy, hcy⟩ := ht.reads.int_at hm
          have hy2 := times_at hm hy
          obtain ⟨y0, y1⟩ := time_rng2 (t := (m : Int)) HK.out (show (0 : Int) ≤ (k : Int) ∧ (k : Int) ≤ (B : Int) - 1 by omega) ⟨by omega, by omega⟩
          rw [← hy2] at y0 y1
          have HFT := Lib.hid (setL_take (l := List.replicate N 46) hy)
          clear hy hy2
          obtain ⟨t, rfl⟩ : ∃ t : Nat, y = (t : Int) + 1 := ⟨(y - 1).toNat, by omega⟩
          have htN : t < N := by omega
          have hcell := hL.cell t htN
          have hfz := hL.fz t htN
          have HSH : Hid (Ln (wr.setCell ⟨gx, t, none⟩ (.int .u8 35)) gx N (((timesD K B N F k).take (m + 1)).foldl setL (List.replicate N 46))) := by
            unfold Hid
            rw [HFT.out, setL, show ((t : Int) + 1 - 1).toNat = t by omega]
            exact hL.set_ htN 35
          have t0 : (0 : Int) ≤ (t : Int) := Int.natCast_nonneg _
          have t1 : (t : Int) < (N : Int) := by omega
          have m0 : (0 : Int) ≤ (m : Int) := Int.natCast_nonneg _
          have m1 : (m : Int) < (k : Int) := by omega
          go_wp2
          go_roundw
          case rel => exact ⟨m + 1, by omega, by go_num, hD.far (by simp; omega) _, ho.setLow (.inr (by simp; omega)) _, HSH.out, ht.setLow (.inl (by simp; omega)) _, hB.setCell (by simp; omega) _, by simp; omega⟩
          case measure => simp [intOf] <;> omega
        · obtain rfl : m = k := by omega
          rw [show (timesD K B N F m).take m = timesD K B N F m from List.take_of_length_le (by rw [times_length]; exact Nat.le_refl _)] at hL
          have hcv := Ln.conv (c := cap) hL
          have HLS := Lib.hid (lnS_succ K B F N m)
          go_wp2_with (first | (at_builtin; refine wpList_app1 rfl (.tmp 35) (.tmp 38) rfl eltS rfl (ho.alloc _) rfl (Blk.new _ _ _) rfl (one_str _) (by omega) (by first | omega | (simp; omega)) ?_; intro A2 c2 w4 ho2 ht2))
          have hz5 := ht2.size
          go_roundw
          case rel => exact ⟨m + 1, A2, c2, by omega, by go_num, rfl, Blk.touch (hD.alloc _) ht2 (.inl (by omega)), by rw [HLS.out, List.map_append]; exact ho2, Touch.below (hB.alloc hB.size _) ht2 (by first | omega | (simp; omega)) (by omega), by have := hz5; simp at this; omega⟩
          case measure => simp [intOf] <;> omega
    · obtain rfl : k = B := by omega
      go_wp2
      go_ret2
      obtain ⟨e1, e2, e3⟩ := HE.out
      rw [e1, e2, e3]
      exact ⟨_, rfl, ho.more (by omega) (Nat.le_refl _), hB⟩
end Go.Proofs.Ythpaampkpajdfaa
