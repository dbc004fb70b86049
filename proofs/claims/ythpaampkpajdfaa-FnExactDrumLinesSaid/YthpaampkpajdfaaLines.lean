/- The lines of a drum. No condition. -/
import Derived.Test.YthpaampkpajdfaaSteps
import Derived.Test.YthpaampkpajdfaaStrs
namespace Go.Proofs.Ythpaampkpajdfaa
open Go.RowKit

theorem okD_F2 {K B T F : Int} (h : okD K B T F = true) : (K = 3 → F = 0) ∧ (¬ K = 3 → 1 ≤ F ∧ F ≤ T - B + 2) := by
  simp only [okD, Bool.and_eq_true] at h
  have h4 := h.2
  split at h4
  · rename_i h3
    simp at h4
    exact ⟨fun _ => h4, fun h => absurd h3 h⟩
  · rename_i h3
    rw [betw_iff] at h4
    exact ⟨fun h => absurd h h3, fun _ => h4⟩
theorem time_rng2 {K B T F d t : Int} (hok : okD K B T F = true) (hd : 0 ≤ d ∧ d ≤ B - 1) (ht : 0 ≤ t ∧ t < d) : 1 ≤ timeD K B T F d t ∧ timeD K B T F d t ≤ T := by
  obtain ⟨⟨k1, k2⟩, ⟨b1, b2⟩, ⟨u1, u2⟩, _⟩ := okD_parts hok
  obtain ⟨f1, f2⟩ := okD_F2 hok
  by_cases h1 : K = 1
  · subst h1
    have := f2 (by omega)
    rw [timeD_1]; omega
  · by_cases h2 : K = 2
    · subst h2
      have := f2 (by omega)
      rw [timeD_2]; omega
    · obtain rfl : K = 3 := by omega
      rw [timeD_3]
      have e0 : T ≤ (t + 1) * T := by
        have := Int.mul_le_mul_of_nonneg_right (show 1 ≤ t + 1 by omega) (show 0 ≤ T by omega)
        omega
      have e1 : (t + 1) * T ≤ d * T := Int.mul_le_mul_of_nonneg_right (by omega) (by omega)
      constructor
      · rw [Int.le_ediv_iff_mul_le (by omega)]; omega
      · rw [Int.ediv_le_iff_le_mul (by omega), Int.mul_comm T d]; omega
def setL (l : List Int) (t : Int) : List Int := l.set (t - 1).toNat 35
theorem setL_length : ∀ (ts l : List Int), (ts.foldl setL l).length = l.length
  | [], _ => rfl
  | t :: ts, l => by rw [List.foldl_cons, setL_length ts]; simp [setL]
theorem setL_take {l : List Int} {ts : List Int} {k : Nat} {t : Int} (h : ts[k]? = some t) : (ts.take (k + 1)).foldl setL l = setL ((ts.take k).foldl setL l) t := by
  rw [List.take_add_one, h]
  simp [List.foldl_append]
def lineL (K B F : Int) (N d : Nat) : List Int := (timesD K B N F d).foldl setL (List.replicate N 46)
def lnS (K B F : Int) (N k : Nat) : List ByteArray := (List.range k).map fun d => strOfNums (lineL K B F N d)
theorem lnS_succ (K B F : Int) (N k : Nat) : lnS K B F N (k + 1) = lnS K B F N k ++ [strOfNums (lineL K B F N k)] := by simp [lnS, List.range_succ]
theorem lnS_length (K B F : Int) (N k : Nat) : (lnS K B F N k).length = k := by simp [lnS]
def dlN (K B T F : Int) : Nat := if okD K B T F then B.toNat else 0
def dlXs (K B T F : Int) : List ByteArray := if okD K B T F then lnS K B F T.toNat B.toNat else []
def dlC (K B T F : Int) : Int := if okD K B T F then 0 else 1
theorem dlN_le (K B T F : Int) : dlN K B T F ≤ 1073741824 := by
  unfold dlN
  split
  · rename_i h
    have := (okD_parts h).2.1
    omega
  · omega
theorem dl_bad {K B T F : Int} (h : okD K B T F = false) : dlC K B T F = 1 ∧ dlN K B T F = 0 ∧ dlXs K B T F = [] := by simp [dlC, dlN, dlXs, h]
theorem dl_ok {K F : Int} {B N : Nat} (h : okD K B N F = true) : dlC K B N F = 0 ∧ dlN K B N F = B ∧ dlXs K B N F = lnS K B F N B := by simp [dlC, dlN, dlXs, h]
def fillL (N j : Nat) : List Int := List.replicate j 46 ++ List.replicate (N - j) 0
theorem fillL_length {N j : Nat} (h : j ≤ N) : (fillL N j).length = N := by simp [fillL]; omega
theorem fillL_step {N j : Nat} (h : j < N) : (fillL N j).set j 46 = fillL N (j + 1) := by
  unfold fillL
  rw [List.set_append_right _ _ (by simp), List.length_replicate, Nat.sub_self]
  obtain ⟨m, hm⟩ : ∃ m, N - j = m + 1 := ⟨N - j - 1, by omega⟩
  rw [hm, List.replicate_succ, List.set_cons_zero, show N - (j + 1) = m by omega, List.replicate_succ', List.append_assoc]
  rfl
theorem u8_set (l : List Int) (j : Nat) (x : Int) : (l.map (Value.int .u8)).set j (.int .u8 x) = (l.set j x).map (Value.int .u8) := by rw [List.map_set]
theorem u8_at {l : List Int} {j N : Nat} (hl : l.length = N) (hj : j < N) : ∃ v, (l.map (Value.int .u8))[j]? = some v := ⟨_, List.getElem?_eq_getElem (by rw [List.length_map]; omega)⟩
def RetSS (w : World) (e : TypeId) (size n : Nat) (xs : List Value) (cd : Int) (x : Ending) (w' : World) : Prop := ∃ s, x = .returned (.tuple #[s, .int .i64 cd]) ∧ Own w' w.heap.size w'.heap.size e size s n xs ∧ Below w.heap.size w w'

set_option maxRecDepth 100000 in
set_option maxHeartbeats 3200000 in
theorem sLines {K B T F : Int} (w : World) :
    Calls Try.prog 35 #[.agg #[.int .i64 K, .int .i64 B, .int .i64 T, .int .i64 F]] w (RetSS w 9 1 (dlN K B T F) ((dlXs K B T F).map Value.string) (dlC K B T F)) := by
  cases hk : okD K B T F
  · have HE := Lib.hid (dl_bad hk)
    go_enter Try.func35, Try.ntmps35
    go_wp2_with fail
    refine absW ?_
    intro w0 hw
    have hb0 : Below w.heap.size w w0 := by rw [hw]; exact (by repeat' (first | assumption | exact Below.refl _ _ | refine Below.drew ?_ | refine belN ?_ _ | refine Below.alloc ?_ (by first | omega | (simp; done) | (simp; omega)) _ | refine Below.setCell ?_ (by first | omega | (simp; done) | (simp; omega)) _))
    have hD : Blk w0 w.heap.size 27 #[.int .i64 K, .int .i64 B, .int .i64 T, .int .i64 F] := by rw [hw]; exact Blk.new _ _ _
    clear hw
    have c0 := hD.cell 0; have c1 := hD.cell 1; have c2 := hD.cell 2; have c3 := hD.cell 3
    simp at c0 c1 c2 c3
    refine (sOkD _ c0 c1 c2 c3).mono ?_
    rintro e w1 ⟨rfl, kk, hw1⟩
    have hb := RetQ.bel (w := w0) kk
    rw [← hw1] at hb
    clear hw1
    rw [hk]
    go_wp2
    go_ret2
    obtain ⟨e1, e2, e3⟩ := HE.out
    rw [e1, e2, e3]
    exact ⟨_, rfl, Own.nil _ _ _ _ _, bel2 hb0 hb⟩
  obtain ⟨⟨k1, k2⟩, ⟨b1, b2⟩, ⟨v3, v4⟩, g1, g2⟩ := okD_parts hk
  obtain ⟨B, rfl⟩ := Int.eq_ofNat_of_zero_le (show 0 ≤ B by omega)
  obtain ⟨N, rfl⟩ := Int.eq_ofNat_of_zero_le (show 0 ≤ T by omega)
  have HE := Lib.hid (dl_ok hk)
  have HK := Lib.hid hk
  obtain ⟨i0, hi, hz0, hz1, hz2⟩ := info_parts infoU
  have hmk := fun W => run_make_rowN (P := Try.prog) 94 5 i0 (.int .u8 0) Try.underlying94 hi hz0 .i64 .i64 N N (Nat.le_refl _) (by rw [hz2]; omega) (by omega) W
  simp only [hz1] at hmk
  clear hz0 hz1 hz2 hi
  go_enter Try.func35, Try.ntmps35
  go_wp2_with fail
  refine absW ?_
  intro w0 hw
  have hb0 : Below w.heap.size w w0 := by rw [hw]; exact (by repeat' (first | assumption | exact Below.refl _ _ | refine Below.drew ?_ | refine belN ?_ _ | refine Below.alloc ?_ (by first | omega | (simp; done) | (simp; omega)) _ | refine Below.setCell ?_ (by first | omega | (simp; done) | (simp; omega)) _))
  have hD : Blk w0 w.heap.size 27 #[.int .i64 K, .int .i64 (B : Int), .int .i64 (N : Int), .int .i64 F] := by rw [hw]; exact Blk.new _ _ _
  clear hw
  have c0 := hD.cell 0; have c1 := hD.cell 1; have c2 := hD.cell 2; have c3 := hD.cell 3
  simp at c0 c1 c2 c3
  refine (sOkD _ c0 c1 c2 c3).mono ?_
  rintro e w1 ⟨rfl, kk, hw1⟩
  have hb := RetQ.bel (w := w0) kk
  rw [← hw1] at hb
  rw [hk]
  clear hw1 c0 c1 c2 c3 hk
  replace hD := hD.bel hb; replace hb0 := bel2 hb0 hb
  clear hb
  have hlt1 := hD.lt
  go_wp2
  go_loopw [4, 5] (fun o i wr => ∃ (k : Nat) (A' : Option Addr) (c' : Nat), k ≤ B ∧ i = .int .i64 k ∧ o = .slice A' k c' ∧ Blk wr w.heap.size 27 #[.int .i64 K, .int .i64 (B : Int), .int .i64 (N : Int), .int .i64 F] ∧ Own wr w1.heap.size wr.heap.size 9 1 (.slice A' k c') k ((lnS K B F N k).map Value.string) ∧ Below w.heap.size w wr ∧ w1.heap.size ≤ wr.heap.size) (fun _ i _ => B - (intOf i).toNat)
  case atStart => exact ⟨0, some ⟨w1.heap.size, 0, none⟩, 0, Nat.zero_le _, rfl, rfl, hD.alloc _, ((Blk.new w1 9 #[]).own (n := 0) (Nat.zero_le _) rfl).more (Nat.le_refl _) (by simp), hb0.alloc hb0.size _, by simp⟩
  case round =>
    clear hD hb0
    obtain ⟨k, A', c', hkB, rfl, rfl, hD, ho, hB, hs⟩ := hrel
    have c0 := hD.cell 0; have c1 := hD.cell 1; have c2 := hD.cell 2; have c3 := hD.cell 3
    simp at c0 c1 c2 c3
    by_cases hlt : k < B
    · obtain ⟨wo, rfl⟩ : ∃ wo : World, wo = wr := ⟨_, rfl⟩
      go_wp2
      clear c0 c1 c2 c3
      have hD1 := hD.alloc (.cells (madeCells #[Value.int .u8 0] N) 5)
      have ho1 := ho.alloc (.cells (madeCells #[Value.int .u8 0] N) 5)
      have hB1 := hB.alloc hB.size (.cells (madeCells #[Value.int .u8 0] N) 5)
      have HF0 : Hid (Own (wo.alloc (.cells (madeCells #[Value.int .u8 0] N) 5)) wo.heap.size (wo.heap.size + 1) 5 1 (.slice (some ⟨wo.heap.size, 0, none⟩) N N) N ((fillL N 0).map (Value.int .u8))) := by
        unfold Hid
        have := (Blk.new wo 5 (madeCells #[Value.int .u8 0] N)).own (n := N) (size := 1) (by unfold maxLen; omega) (by rw [size_madeCells, Nat.mul_one])
        rw [toList_madeCells_one] at this
        simpa [fillL] using this
      go_loopw [24] (fun i wr => ∃ j : Nat, j ≤ N ∧ i = .int .i64 j ∧ Blk wr w.heap.size 27 #[.int .i64 K, .int .i64 (B : Int), .int .i64 (N : Int), .int .i64 F] ∧ Own wr w1.heap.size wo.heap.size 9 1 (.slice A' k c') k ((lnS K B F N k).map Value.string) ∧ Own wr wo.heap.size (wo.heap.size + 1) 5 1 (.slice (some ⟨wo.heap.size, 0, none⟩) N N) N ((fillL N j).map (Value.int .u8)) ∧ Below w.heap.size w wr ∧ wo.heap.size + 1 ≤ wr.heap.size) (fun i _ => N - (intOf i).toNat)
      case atStart => exact ⟨0, Nat.zero_le _, rfl, hD1, ho1, HF0.out, hB1, by simp⟩
      case round =>
        clear hD ho hB hD1 ho1 hB1 HF0
        obtain ⟨j, hj, rfl, hD, ho, hf, hB, hz⟩ := hrel
        by_cases hjN : j < N
        · obtain ⟨v, hv⟩ := u8_at (fillL_length hj) hjN
          have hcell := (hf.row.cellAt j (by omega)).trans hv
          have hfz := hf.row.frozenAt j
          have HST := hf.stored j (.int .u8 46)
          rw [u8_set, fillL_step hjN] at HST
          have HSH := Lib.hid HST
          clear HST hv
          have j0 : (0 : Int) ≤ (j : Int) := Int.natCast_nonneg _
          have j1 : (j : Int) < (N : Int) := by omega
          go_wp2
          go_roundw
          case rel => exact ⟨j + 1, by omega, by go_num, hD.far (by simp; omega) _, ho.setLow (.inr (by simp)) _, HSH.out, hB.setCell (by simp; omega) _, by simp; omega⟩
          case measure => simp [intOf] <;> omega
        · obtain rfl : j = N := by omega
          have hff : fillL j j = List.replicate j 46 := by simp [fillL]
          rw [hff] at hf
          clear hff
          have hz2 : w1.heap.size < wr.heap.size := by omega
          go_wp2_with fail
          refine (sTimes _ hD HK.out (by omega)).mono ?_
          rintro e w3 ⟨v, rfl, ht, hb3⟩
          obtain ⟨A3, c3', rfl, _, hcm⟩ := ht.form
          obtain ⟨wt, hwt⟩ : ∃ wt, wr.heap.size = wt := ⟨_, rfl⟩
          rw [hwt] at ht hz hz2
          replace ho := ho.bel hb3; replace hf := hf.bel hb3
          replace hB := bel2 hB hb3; replace hD := hD.bel hb3
          have hz3 : wt ≤ w3.heap.size := by rw [← hwt]; exact hb3.size
          clear hb3 hwt
          go_wp2
          go_loopw [9] (fun i wr => ∃ m : Nat, m ≤ k ∧ i = .int .i64 m ∧ Blk wr w.heap.size 27 #[.int .i64 K, .int .i64 (B : Int), .int .i64 (j : Int), .int .i64 F] ∧ Own wr w1.heap.size wo.heap.size 9 1 (.slice A' k c') k ((lnS K B F j k).map Value.string) ∧ Own wr wo.heap.size (wo.heap.size + 1) 5 1 (.slice (some ⟨wo.heap.size, 0, none⟩) j j) j ((((timesD K B j F k).take m).foldl setL (List.replicate j 46)).map (Value.int .u8)) ∧ Own wr wt w3.heap.size 2 1 (.slice A3 k c3') k ((timesD K B j F k).map (Value.int .i64)) ∧ Below w.heap.size w wr ∧ wt ≤ wr.heap.size) (fun i _ => k - (intOf i).toNat)
          case atStart => exact ⟨0, Nat.zero_le _, rfl, hD, ho, hf, ht, hB, hz3⟩
          case round =>
            clear hD ho hf ht hB
            obtain ⟨m, hmk, rfl, hD, ho, hf, ht, hB, hz4⟩ := hrel
            by_cases hm : m < k
            · obtain ⟨ad3, y, rfl, _, hy, hcy⟩ := ht.reads.int_at hm
              have hy2 := times_at hm hy
              obtain ⟨y0, y1⟩ := time_rng2 (t := (m : Int)) HK.out (show (0 : Int) ≤ (k : Int) ∧ (k : Int) ≤ (B : Int) - 1 by omega) ⟨by omega, by omega⟩
              rw [← hy2] at y0 y1
              have HFT := Lib.hid (setL_take (l := List.replicate j 46) hy)
              clear hy hy2
              obtain ⟨t, rfl⟩ : ∃ t : Nat, y = (t : Int) + 1 := ⟨(y - 1).toNat, by omega⟩
              have htN : t < j := by omega
              obtain ⟨v, hv⟩ := u8_at (l := ((timesD K B j F k).take m).foldl setL (List.replicate j 46)) (N := j) (by rw [setL_length, List.length_replicate]) htN
              have hcell := (hf.row.cellAt t (by omega)).trans hv
              have hfz := hf.row.frozenAt t
              have HST := hf.stored t (.int .u8 35)
              rw [u8_set] at HST
              have HSH : Hid (Own (wr.setCell ⟨wo.heap.size, t, none⟩ (.int .u8 35)) wo.heap.size (wo.heap.size + 1) 5 1 (.slice (some ⟨wo.heap.size, 0, none⟩) j j) j ((((timesD K B j F k).take (m + 1)).foldl setL (List.replicate j 46)).map (Value.int .u8))) := by
                unfold Hid
                rw [HFT.out, setL, show ((t : Int) + 1 - 1).toNat = t by omega]
                exact HST
              clear HST hv
              have t0 : (0 : Int) ≤ (t : Int) := Int.natCast_nonneg _
              have t1 : (t : Int) < (j : Int) := by omega
              have m0 : (0 : Int) ≤ (m : Int) := Int.natCast_nonneg _
              have m1 : (m : Int) < (k : Int) := by omega
              go_wp2
              go_roundw
              case rel => exact ⟨m + 1, by omega, by go_num, hD.far (by simp; omega) _, ho.setLow (.inr (by simp)) _, HSH.out, ht.setLow (.inl (by simp; omega)) _, hB.setCell (by simp; omega) _, by simp; omega⟩
              case measure => simp [intOf] <;> omega
            · obtain rfl : m = k := by omega
              rw [show (timesD K B j F m).take m = timesD K B j F m from List.take_of_length_le (by rw [times_length]; exact Nat.le_refl _)] at hf
              have hcv := conv_own hf
              have HLS := Lib.hid (lnS_succ K B F j m)
              go_wp2_with (first | (at_builtin; refine wpList_app1 rfl (.tmp 46) (.tmp 49) rfl eltS rfl (ho.alloc _) rfl (Blk.new _ _ _) rfl (one_str _) (by omega) (by first | omega | (simp; omega)) ?_; intro A2 c2 w4 ho2 ht2))
              have hz5 := ht2.size
              go_roundw
              case rel => exact ⟨m + 1, A2, c2, by omega, by go_num, rfl, Blk.touch (hD.alloc _) ht2 (.inl (by omega)), by rw [HLS.out, List.map_append]; exact ho2, Touch.below (hB.alloc hB.size _) ht2 (by first | omega | (simp; omega)) (by omega), by have := hz5; simp at this; omega⟩
              case measure => simp [intOf] <;> omega
    · obtain rfl : k = B := by omega
      go_wp2
      go_ret2
      obtain ⟨e1, e2, e3⟩ := HE.out
      rw [e1, e2, e3]
      exact ⟨_, rfl, ho.more (by omega) (Nat.le_refl _), hB⟩
end Go.Proofs.Ythpaampkpajdfaa
