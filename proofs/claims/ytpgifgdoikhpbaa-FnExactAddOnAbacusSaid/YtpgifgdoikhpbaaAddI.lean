/- Adding on an abacus, on the program's side. No condition. -/
import Derived.Test.YtpgifgdoikhpbaaAddO
import Derived.Test.YtpgifgdoikhpbaaBetw
import Derived.Test.YtpgifgdoikhpbaaOkAba
import Derived.Test.YtpgifgdoikhpbaaSetAba
import Derived.Test.YtpgifgdoikhpbaaPlain
import Derived.Test.YtpgifgdoikhpbaaValAba
namespace Go.Proofs.Ytpgifgdoikhpbaa
open Go.RowKit

section
attribute [local irreducible] wpQuiet addR addTo
set_option maxRecDepth 100000 in
set_option maxHeartbeats 12800000 in
theorem iAddOn {u o t v : Int} {A : Option Addr} {n c : Nat} {xs : List (Int × Int)} (w : World) (h : Reads w w.heap.size 2 A n (flat encPair xs)) (hl : xs.length = n) (hm : n ≤ maxLen) :
    Calls Try.prog 43 #[.agg #[.int .i64 u, .int .i64 o, .int .i64 t, .slice A n c], .int .i64 v] w (RetAdd w u o t xs v) := by
  have HL := Lib.hid hl; clear hl
  cases hk : okA u o t xs
  · have HE := Lib.hid (ad_1 (v := v) hk)
    go_enter Try.func43, Try.ntmps43
    go_wp2_with fail
    refine absW ?_
    intro w0 hw
    have hb0 : Below w.heap.size w w0 := by rw [hw]; exact (by repeat' (first | assumption | exact Below.refl _ _ | refine Below.drew ?_ | refine belN ?_ _ | refine Below.alloc ?_ (by first | omega | (simp; done) | (simp; omega)) _ | refine Below.setCell ?_ (by first | omega | (simp; done) | (simp; omega)) _))
    have c0 : w0.cell? ⟨w.heap.size, 0, none⟩ = some (.int .i64 u) := by rw [hw]; simp
    have c1 : w0.cell? ⟨w.heap.size, 1, none⟩ = some (.int .i64 o) := by rw [hw]; simp
    have c2 : w0.cell? ⟨w.heap.size, 2, none⟩ = some (.int .i64 t) := by rw [hw]; simp
    have c3 : w0.cell? ⟨w.heap.size, 3, none⟩ = some (.slice A n c) := by rw [hw]; simp
    have hR : Blk w0 (w.heap.size + 1) 29 #[.int .i64 0, .int .i64 0, .int .i64 0, .slice none 0 0] := by rw [hw]; exact blk_new (by simp)
    have hA : Blk w0 w.heap.size 29 #[.int .i64 u, .int .i64 o, .int .i64 t, .slice A n c] := by rw [hw]; exact (Blk.new _ _ _).alloc _
    clear hw
    have hr := rdB h hb0
    refine (iValidAba _ hr HL.out hm).mono ?_
    rintro e w1 ⟨rfl, hb⟩
    replace hR := hR.bel hb; replace hA := hA.bel hb; replace c0 := cellB c0 hb; replace c1 := cellB c1 hb; replace c2 := cellB c2 hb; replace c3 := cellB c3 hb; replace hr := rdB hr hb; replace hb0 := bel2 hb0 hb
    clear hb
    rw [hk]
    have zR := hR.lt; have d0 := hR.cell 0; have d1 := hR.cell 1; have d2 := hR.cell 2; have d3 := hR.cell 3; have fR := hR.frozen
    simp at d0 d1 d2 d3
    go_wp2
    refine bodyPost_ret (v := .tuple #[.agg #[.int .i64 0, .int .i64 0, .int .i64 0, .slice none 0 0], .slice none 0 0, .int .i64 1]) (by simp [results, Try.results43, go_sem, d0, d1, d2, d3]) rfl (add_no HE.out.1 HE.out.2 ?_)
    exact (((hb0.setCell (by first | omega | (simp; done) | (simp; omega)) _).setCell (by first | omega | (simp; done) | (simp; omega)) _).setCell (by first | omega | (simp; done) | (simp; omega)) _).setCell (by first | omega | (simp; done) | (simp; omega)) _
  have HK := Lib.hid hk
  cases hbv : betwB v 0 1000000000000
  · have HE := Lib.hid (ad_2 hk hbv)
    clear hk
    go_enter Try.func43, Try.ntmps43
    go_wp2_with fail
    refine absW ?_
    intro w0 hw
    have hb0 : Below w.heap.size w w0 := by rw [hw]; exact (by repeat' (first | assumption | exact Below.refl _ _ | refine Below.drew ?_ | refine belN ?_ _ | refine Below.alloc ?_ (by first | omega | (simp; done) | (simp; omega)) _ | refine Below.setCell ?_ (by first | omega | (simp; done) | (simp; omega)) _))
    have c0 : w0.cell? ⟨w.heap.size, 0, none⟩ = some (.int .i64 u) := by rw [hw]; simp
    have c1 : w0.cell? ⟨w.heap.size, 1, none⟩ = some (.int .i64 o) := by rw [hw]; simp
    have c2 : w0.cell? ⟨w.heap.size, 2, none⟩ = some (.int .i64 t) := by rw [hw]; simp
    have c3 : w0.cell? ⟨w.heap.size, 3, none⟩ = some (.slice A n c) := by rw [hw]; simp
    have hR : Blk w0 (w.heap.size + 1) 29 #[.int .i64 0, .int .i64 0, .int .i64 0, .slice none 0 0] := by rw [hw]; exact blk_new (by simp)
    have hA : Blk w0 w.heap.size 29 #[.int .i64 u, .int .i64 o, .int .i64 t, .slice A n c] := by rw [hw]; exact (Blk.new _ _ _).alloc _
    clear hw
    have hr := rdB h hb0
    refine (iValidAba _ hr HL.out hm).mono ?_
    rintro e w1 ⟨rfl, hb⟩
    replace hR := hR.bel hb; replace hA := hA.bel hb; replace c0 := cellB c0 hb; replace c1 := cellB c1 hb; replace c2 := cellB c2 hb; replace c3 := cellB c3 hb; replace hr := rdB hr hb; replace hb0 := bel2 hb0 hb
    clear hb
    rw [HK.out]
    go_wp2_with fail
    refine (between_any _ _ _ _).mono ?_
    rintro e w2 ⟨rfl, rfl⟩
    rw [hbv]
    have zR := hR.lt; have d0 := hR.cell 0; have d1 := hR.cell 1; have d2 := hR.cell 2; have d3 := hR.cell 3; have fR := hR.frozen
    simp at d0 d1 d2 d3
    go_wp2
    refine bodyPost_ret (v := .tuple #[.agg #[.int .i64 0, .int .i64 0, .int .i64 0, .slice none 0 0], .slice none 0 0, .int .i64 2]) (by simp [results, Try.results43, go_sem, d0, d1, d2, d3]) rfl (add_no HE.out.1 HE.out.2 ?_)
    exact (((hb0.setCell (by first | omega | (simp; done) | (simp; omega)) _).setCell (by first | omega | (simp; done) | (simp; omega)) _).setCell (by first | omega | (simp; done) | (simp; omega)) _).setCell (by first | omega | (simp; done) | (simp; omega)) _
  have HBV := Lib.hid hbv
  cases hip : ipB u o t xs
  · have HE := Lib.hid (ad_6 hk hbv hip)
    have HIP := Lib.hid hip
    clear hk hip hbv
    go_enter Try.func43, Try.ntmps43
    go_wp2_with fail
    refine absW ?_
    intro w0 hw
    have hb0 : Below w.heap.size w w0 := by rw [hw]; exact (by repeat' (first | assumption | exact Below.refl _ _ | refine Below.drew ?_ | refine belN ?_ _ | refine Below.alloc ?_ (by first | omega | (simp; done) | (simp; omega)) _ | refine Below.setCell ?_ (by first | omega | (simp; done) | (simp; omega)) _))
    have c0 : w0.cell? ⟨w.heap.size, 0, none⟩ = some (.int .i64 u) := by rw [hw]; simp
    have c1 : w0.cell? ⟨w.heap.size, 1, none⟩ = some (.int .i64 o) := by rw [hw]; simp
    have c2 : w0.cell? ⟨w.heap.size, 2, none⟩ = some (.int .i64 t) := by rw [hw]; simp
    have c3 : w0.cell? ⟨w.heap.size, 3, none⟩ = some (.slice A n c) := by rw [hw]; simp
    have hR : Blk w0 (w.heap.size + 1) 29 #[.int .i64 0, .int .i64 0, .int .i64 0, .slice none 0 0] := by rw [hw]; exact blk_new (by simp)
    have hA : Blk w0 w.heap.size 29 #[.int .i64 u, .int .i64 o, .int .i64 t, .slice A n c] := by rw [hw]; exact (Blk.new _ _ _).alloc _
    clear hw
    have hr := rdB h hb0
    refine (iValidAba _ hr HL.out hm).mono ?_
    rintro e w1 ⟨rfl, hb⟩
    replace hR := hR.bel hb; replace hA := hA.bel hb; replace c0 := cellB c0 hb; replace c1 := cellB c1 hb; replace c2 := cellB c2 hb; replace c3 := cellB c3 hb; replace hr := rdB hr hb; replace hb0 := bel2 hb0 hb
    clear hb
    rw [HK.out]
    go_wp2_with fail
    refine (between_any _ _ _ _).mono ?_
    rintro e w2 ⟨rfl, rfl⟩
    rw [HBV.out]
    go_wp2_with fail
    refine (iIsPlain _ hr HL.out hm).mono ?_
    rintro e w2 ⟨rfl, hb⟩
    replace hR := hR.bel hb; replace hA := hA.bel hb; replace c0 := cellB c0 hb; replace c1 := cellB c1 hb; replace c2 := cellB c2 hb; replace c3 := cellB c3 hb; replace hr := rdB hr hb; replace hb0 := bel2 hb0 hb
    clear hb
    clear c0 c1 c2 c3 hr
    rw [HIP.out]
    have zR := hR.lt; have d0 := hR.cell 0; have d1 := hR.cell 1; have d2 := hR.cell 2; have d3 := hR.cell 3; have fR := hR.frozen
    simp at d0 d1 d2 d3
    go_wp2
    refine bodyPost_ret (v := .tuple #[.agg #[.int .i64 0, .int .i64 0, .int .i64 0, .slice none 0 0], .slice none 0 0, .int .i64 6]) (by simp [results, Try.results43, go_sem, d0, d1, d2, d3]) rfl (add_no HE.out.1 HE.out.2 ?_)
    exact (((hb0.setCell (by first | omega | (simp; done) | (simp; omega)) _).setCell (by first | omega | (simp; done) | (simp; omega)) _).setCell (by first | omega | (simp; done) | (simp; omega)) _).setCell (by first | omega | (simp; done) | (simp; omega)) _
  have HIP := Lib.hid hip
  have HGOOD := Lib.hid (good_of hk hip)
  obtain ⟨hkd, _, n0, n1⟩ := okA_parts hk
  obtain ⟨ku, _, kt, _⟩ := kdB_parts hkd
  have HKU := Lib.hid ku; have HKT := Lib.hid kt
  rw [HL.out] at n0 n1
  obtain ⟨v0, v1⟩ := betw_iff.1 hbv
  obtain ⟨V, rfl⟩ := Int.eq_ofNat_of_zero_le v0
  have HLEN : Hid ((dL V).length ≤ 13) := dL_len 13 V (by omega)
  clear hk hip hbv hkd ku kt
  go_enter Try.func43, Try.ntmps43
  go_wp2_with fail
  refine absW ?_
  intro w0 hw
  have hb0 : Below w.heap.size w w0 := by rw [hw]; exact (by repeat' (first | assumption | exact Below.refl _ _ | refine Below.drew ?_ | refine belN ?_ _ | refine Below.alloc ?_ (by first | omega | (simp; done) | (simp; omega)) _ | refine Below.setCell ?_ (by first | omega | (simp; done) | (simp; omega)) _))
  have c0 : w0.cell? ⟨w.heap.size, 0, none⟩ = some (.int .i64 u) := by rw [hw]; simp
  have c1 : w0.cell? ⟨w.heap.size, 1, none⟩ = some (.int .i64 o) := by rw [hw]; simp
  have c2 : w0.cell? ⟨w.heap.size, 2, none⟩ = some (.int .i64 t) := by rw [hw]; simp
  have c3 : w0.cell? ⟨w.heap.size, 3, none⟩ = some (.slice A n c) := by rw [hw]; simp
  have hR : Blk w0 (w.heap.size + 1) 29 #[.int .i64 0, .int .i64 0, .int .i64 0, .slice none 0 0] := by rw [hw]; exact blk_new (by simp)
  have hA : Blk w0 w.heap.size 29 #[.int .i64 u, .int .i64 o, .int .i64 t, .slice A n c] := by rw [hw]; exact (Blk.new _ _ _).alloc _
  clear hw
  have hr := rdB h hb0
  refine (iValidAba _ hr HL.out hm).mono ?_
  rintro e w1 ⟨rfl, hb⟩
  replace hR := hR.bel hb; replace hA := hA.bel hb; replace c0 := cellB c0 hb; replace c1 := cellB c1 hb; replace c2 := cellB c2 hb; replace c3 := cellB c3 hb; replace hr := rdB hr hb; replace hb0 := bel2 hb0 hb
  clear hb
  rw [HK.out]
  go_wp2_with fail
  refine (between_any _ _ _ _).mono ?_
  rintro e w2 ⟨rfl, rfl⟩
  rw [HBV.out]
  go_wp2_with fail
  refine (iIsPlain _ hr HL.out hm).mono ?_
  rintro e w2 ⟨rfl, hb⟩
  replace hR := hR.bel hb; replace hA := hA.bel hb; replace c0 := cellB c0 hb; replace c1 := cellB c1 hb; replace c2 := cellB c2 hb; replace c3 := cellB c3 hb; replace hr := rdB hr hb; replace hb0 := bel2 hb0 hb
  clear hb
  rw [HIP.out]
  have zw2 := hb0.size; have zR2 := hR.lt
  go_wp2
  refine absC ?_
  intro w3 hw3
  have hB3 : Below w2.heap.size w2 w3 := by rw [hw3]; exact (by repeat' (first | assumption | exact Below.refl _ _ | refine Below.drew ?_ | refine belN ?_ _ | refine Below.alloc ?_ (by first | omega | (simp; done) | (simp; omega)) _ | refine Below.setCell ?_ (by first | omega | (simp; done) | (simp; omega)) _))
  have z3 : w3.heap.size = w2.heap.size + 1 := by rw [hw3]; simp
  have hD3 : Blk w3 w2.heap.size 2 #[] := by rw [hw3]; exact blk_new (by simp)
  clear hw3
  go_loopw [7, 8] (fun dg nn wr => ∃ (r j : Nat) (A' : Option Addr) (c' : Nat) (ds : List Int), nn = .int .i64 r ∧ r ≤ V ∧ dg = .slice A' j c' ∧ j ≤ 13 ∧ Hid (ds ++ dL r = dL V) ∧ Hid (ds.length = j) ∧ Own wr w2.heap.size wr.heap.size 2 1 (.slice A' j c') j (ds.map (Value.int .i64)) ∧ w2.heap.size + 1 ≤ wr.heap.size ∧ Below w2.heap.size w2 wr) (fun _ nn _ => (intOf nn).toNat)
  case atStart => exact ⟨V, 0, some ⟨w2.heap.size, 0, none⟩, 0, [], rfl, Nat.le_refl _, rfl, by omega, by simp [Hid], rfl, (hD3.own (n := 0) (Nat.zero_le _) rfl).more (Nat.le_refl _) (by omega), by omega, hB3⟩
  case round =>
    obtain ⟨r, j, A', c', ds, rfl, hrV, rfl, hj13, HDS, HDL, hod, hz, hB⟩ := hrel
    by_cases hr0 : r = 0
    rotate_left
    · have b1 : decide (0 < (r : Int)) = true := by simp; omega
      have HSTEP := Lib.hid (dg_step HDS.out hr0)
      have hj2 : j + 1 ≤ 13 := by
        have e1 : ds.length + (dL r).length = (dL V).length := by rw [← HDS.out, List.length_append]
        have e2 : 0 < (dL r).length := by rw [dL_pos hr0]; simp
        have := HLEN.out; have := HDL.out; omega
      obtain ⟨dd, hdd⟩ : ∃ dd : Int, ((r % 10 : Nat) : Int) = dd := ⟨_, rfl⟩
      obtain ⟨rr, hrr⟩ : ∃ rr : Nat, r / 10 = rr := ⟨_, rfl⟩
      have q1 : (r : Int).tmod 10 = dd := by rw [Int.tmod_eq_emod_of_nonneg (by omega)]; omega
      have q2 : (r : Int).tdiv 10 = (rr : Int) := by rw [Int.tdiv_eq_ediv_of_nonneg (by omega)]; omega
      have hlt : rr < r := by omega
      rw [hdd, hrr] at HSTEP
      clear hdd hrr hr0
      go_wp2_with (first | (at_builtin; refine wpList_app1 rfl (.tmp 34) (.tmp 37) rfl eltI rfl (hod.alloc _) rfl (blk_new (by simp)) rfl (one_int _) (by omega) (by first | omega | (simp; omega)) ?_; intro A2 c2 w6 ho2 ht2))
      have hz2 := ht2.size
      go_roundw
      case rel => exact ⟨rr, j + 1, A2, c2, ds ++ [dd], by go_num, by omega, by go_num, hj2, HSTEP, by unfold Hid; rw [List.length_append, HDL.out]; rfl, by simpa using ho2, by simp at hz2; omega, Touch.below (hB.alloc (by omega) _) ht2 (by first | omega | (simp; omega)) (Nat.le_refl _)⟩
      case measure => simp [intOf]; omega
    rename World => w5
    rw [show (r : Int) = 0 by omega]
    subst hr0
    have HDV : Hid (ds = dL V) := by have := HDS.out; rw [dL_zero, List.append_nil] at this; exact this
    have b1 : decide (0 < (0 : Int)) = false := by decide
    replace hR := hR.bel hB; replace hA := hA.bel hB; replace c0 := cellB c0 hB; replace c1 := cellB c1 hB; replace c2 := cellB c2 hB; replace c3 := cellB c3 hB; replace hr := rdB hr hB; replace hb0 := bel2 hb0 hB
    have z5 := hB.size
    clear hB hB3 hD3
    go_wp2_with fail
    refine (iWith _ hr HL.out rfl n0 (by omega)).mono ?_
    rintro e w6 ⟨s, rfl, hOR, hb⟩
    obtain ⟨A1, k1, rfl, _, _⟩ := hOR.form
    replace hR := hR.bel hb; replace hod := hod.bel hb; replace hA := hA.bel hb; replace c0 := cellB c0 hb; replace c1 := cellB c1 hb; replace c2 := cellB c2 hb; replace c3 := cellB c3 hb; replace hr := rdB hr hb; replace hb0 := bel2 hb0 hb
    have z6 := hb.size; have zR := hR.lt
    clear hb c0 c1 c2 c3 hr h hm
    go_wp2
    refine absC ?_
    intro w7 hw7
    have hB7 : Below w6.heap.size w6 w7 := by rw [hw7]; exact (by repeat' (first | assumption | exact Below.refl _ _ | refine Below.drew ?_ | refine belN ?_ _ | refine Below.alloc ?_ (by first | omega | (simp; done) | (simp; omega)) _ | refine Below.setCell ?_ (by first | omega | (simp; done) | (simp; omega)) _))
    have z7 : w7.heap.size = w6.heap.size + 2 := by rw [hw7]; simp
    have hM7 : Blk w7 w6.heap.size 41 #[] := by rw [hw7]; exact (Blk.new _ _ _).alloc _
    have hG7 : Blk w7 (w6.heap.size + 1) 29 #[.int .i64 u, .int .i64 o, .int .i64 t, .slice A1 n k1] := by rw [hw7]; exact blk_new (by simp)
    clear hw7
    have hOR7 := hOR.bel hB7
    have hOM7 : Own w7 w6.heap.size w7.heap.size 41 3 (.slice (some ⟨w6.heap.size, 0, none⟩) 0 0) 0 (flat encTrip []) := (hM7.own (n := 0) (Nat.zero_le _) rfl).more (Nat.le_refl _) (by omega)
    have hB67 : Below w5.heap.size w6 w7 := hB7.mono z6
    clear hM7 hOR hB7
    go_loopw [10, 11] (fun mv ii wr => ∃ (k m cm : Nat) (cur : List (Int × Int)) (ms : List (Int × Int × Int)) (AM : Option Addr), k ≤ j ∧ ii = .int .i64 ((k : Int) - 1) ∧ mv = .slice AM m cm ∧ Hid (adR u t xs (V : Int) = addTo u t n (dL V) k cur ms) ∧ Hid (goodA u o t cur) ∧ Hid (cur.length = n) ∧ Hid (ms.length = m) ∧ m ≤ (j - k) * 10 ∧ Blk wr (w6.heap.size + 1) 29 #[.int .i64 u, .int .i64 o, .int .i64 t, .slice A1 n k1] ∧ Own wr w5.heap.size w6.heap.size 69 2 (.slice A1 n k1) n (flat encPair cur) ∧ Own wr w6.heap.size wr.heap.size 41 3 (.slice AM m cm) m (flat encTrip ms) ∧ w6.heap.size + 2 ≤ wr.heap.size ∧ Below w5.heap.size w6 wr) (fun _ ii _ => (intOf ii + 1).toNat)
    case atStart => exact ⟨j, 0, 0, xs, [], some ⟨w6.heap.size, 0, none⟩, Nat.le_refl _, rfl, rfl, by unfold Hid; rw [ad_none (V := V) rfl, HL.out, show j = (dL V).length by rw [← HDV.out, HDL.out]], HGOOD.out, HL.out, rfl, by omega, hG7, hOR7, hOM7, by omega, hB67⟩
    case round =>
      obtain ⟨k, m, cm, cur, ms, AM, hkj, hi, rfl, HADD, HG, HCL, HML, hmk, hGi, hORi, hOMi, hzi, hBi⟩ := hrel
      clear hG7 hOR7 hOM7 hB67
      rcases k with _ | k
      · subst hi
        have hRi := hR.below hBi (by omega)
        have HFIN : Hid (adR u t xs (V : Int) = (true, cur, ms)) := by unfold Hid; rw [HADD.out, addTo]
        have zR := hRi.lt; have d0 := hRi.cell 0; have d1 := hRi.cell 1; have d2 := hRi.cell 2; have d3 := hRi.cell 3; have fR := hRi.frozen
        simp at d0 d1 d2 d3
        have g0 := hGi.cell 0; have g1 := hGi.cell 1; have g2 := hGi.cell 2; have g3 := hGi.cell 3; have zG := hGi.lt
        simp at g0 g1 g2 g3
        go_wp2
        have pb : w.heap.size + 1 < w5.heap.size := by omega
        refine bodyPost_ret (v := .tuple #[.agg #[.int .i64 u, .int .i64 o, .int .i64 t, .slice A1 n k1], .slice AM m cm, .int .i64 0]) (by simp [results, Try.results43, go_sem, d0, d1, d2, d3]) rfl (add_yes HK.out HBV.out HIP.out HL.out HML.out HFIN.out (mid := w6.heap.size) ?_ ?_ (by omega) (by simp; omega) ?_)
        · exact ((((hORi.setLow (.inl pb) _).setLow (.inl pb) _).setLow (.inl pb) _).setLow (.inl pb) _).more (by omega) (Nat.le_refl _)
        · have pc : w.heap.size + 1 < w6.heap.size := by omega
          exact ((((hOMi.setLow (.inl pc) _).setLow (.inl pc) _).setLow (.inl pc) _).setLow (.inl pc) _).more (Nat.le_refl _) (by simp)
        · exact ((((hb0.trans (hBi.mono (by omega))).setCell (Nat.le_succ _) _).setCell (Nat.le_succ _) _).setCell (Nat.le_succ _) _).setCell (Nat.le_succ _) _
      · rw [show (((k + 1 : Nat) : Int) - 1) = (k : Int) by omega] at hi
        subst hi
        have hkl : k < j := by omega
        obtain ⟨d, hd⟩ : ∃ d, ds[k]? = some d := ⟨_, List.getElem?_eq_getElem (by have := HDL.out; omega)⟩
        have hdV : (dL V)[k]? = some d := by rw [← HDV.out]; exact hd
        obtain ⟨e0, e9⟩ := dL_bd V d (List.mem_of_getElem? hdV)
        have hoi := hod.touch (Touch.of_bel hBi) (.inl (Nat.le_refl _))
        obtain ⟨ad, uu, rfl, _, hx, hc⟩ := hoi.reads.at_ hkl
        obtain rfl : uu = .int .i64 d := by rw [List.getElem?_map, hd] at hx; exact (Option.some.inj hx).symm
        have HDVK := Lib.hid hdV
        have ki0 : (0 : Int) ≤ (k : Int) := Int.natCast_nonneg _
        have ki1 : (k : Int) < (j : Int) := by omega
        clear hx hd hoi hdV
        go_wp2
        go_loopw [10, 12, 13] (fun mv dd kk wr => ∃ (z m2 cm2 : Nat) (e : Int) (cur2 : List (Int × Int)) (ms2 : List (Int × Int × Int)) (AM2 : Option Addr), mv = .slice AM2 m2 cm2 ∧ dd = .int .i64 e ∧ kk = .int .i64 (z : Int) ∧ z ≤ 13 ∧ 0 ≤ e ∧ e ≤ 9 ∧ Hid (addR u t (n - k) cur ms k d = addR u t (n - z) cur2 ms2 z e) ∧ Hid (goodA u o t cur2) ∧ Hid (cur2.length = n) ∧ Hid (ms2.length = m2) ∧ m2 + (n - z) ≤ m + (n - k) ∧ Blk wr (w6.heap.size + 1) 29 #[.int .i64 u, .int .i64 o, .int .i64 t, .slice A1 n k1] ∧ Own wr w5.heap.size w6.heap.size 69 2 (.slice A1 n k1) n (flat encPair cur2) ∧ Own wr w6.heap.size wr.heap.size 41 3 (.slice AM2 m2 cm2) m2 (flat encTrip ms2) ∧ w6.heap.size + 2 ≤ wr.heap.size ∧ Below w5.heap.size w6 wr) (fun _ _ kk _ => n - (intOf kk).toNat)
        case atStart => exact ⟨k, m, cm, d, cur, ms, AM, rfl, rfl, rfl, by omega, e0, e9, rfl, HG, HCL, HML, Nat.le_refl _, hGi, hORi, hOMi, hzi, hBi⟩
        case round =>
          obtain ⟨z, m2, cm2, e, cur2, ms2, AM2, rfl, rfl, rfl, hz13, f0, f9, HEQ, HG2, HCL2, HML2, hm2, hG2, hOR2, hOM2, hz2, hB2⟩ := hrel
          have hmb : m ≤ 120 := by have : (j - (k + 1)) * 10 ≤ 12 * 10 := Nat.mul_le_mul (by omega) (Nat.le_refl _); omega
          clear hGi hORi hOMi hzi hBi e0 e9
          by_cases he : e = 0
          · subst he
            have b1 : decide (0 < (0 : Int)) = false := by decide
            have HYES := Lib.hid (addTo_yes (n := n) (ms := ms) (xs := cur) (r := (true, cur2, ms2)) HDVK.out (HEQ.out.trans (addR_zero ..)) rfl)
            go_wp2
            go_roundw
            case rel => exact ⟨k, m2, cm2, cur2, ms2, AM2, by omega, by go_num, by go_num, by unfold Hid; rw [HADD.out, HYES.out], HG2, HCL2, HML2, by omega, hG2, hOR2, hOM2, hz2, hB2⟩
            case measure => simp [intOf]
          · have b1 : decide (0 < e) = true := by simp; omega
            have g3 := hG2.cell 3
            simp at g3
            by_cases hzn : z < n
            rotate_left
            · have b2 : decide (n ≤ z) = true := by simp; omega
              have HNO := Lib.hid (addTo_no (n := n) (ms := ms) (xs := cur) (r := (false, cur2, ms2)) HDVK.out (by rw [HEQ.out, show n - z = 0 by omega, addR_end _ _ _ he]) rfl)
              have HE : Hid (adK u o t xs (V : Int) = false ∧ adC u o t xs (V : Int) = 5) := ad_5 HK.out HBV.out HIP.out (by rw [HADD.out]; exact HNO.out)
              have hR8 := hR.below hB2 (by omega)
              have hb8 : Below w.heap.size w wr := hb0.trans (hB2.mono (by omega))
              clear he hzn hm2 hmb hmk
              have zR := hR8.lt; have d0 := hR8.cell 0; have d1 := hR8.cell 1; have d2 := hR8.cell 2; have d3 := hR8.cell 3; have fR := hR8.frozen
              simp at d0 d1 d2 d3
              go_wp2
              refine bodyPost_ret (v := .tuple #[.agg #[.int .i64 0, .int .i64 0, .int .i64 0, .slice none 0 0], .slice none 0 0, .int .i64 5]) (by simp [results, Try.results43, go_sem, d0, d1, d2, d3]) rfl (add_no HE.out.1 HE.out.2 ?_)
              exact (((hb8.setCell (by first | omega | (simp; done) | (simp; omega)) _).setCell (by first | omega | (simp; done) | (simp; omega)) _).setCell (by first | omega | (simp; done) | (simp; omega)) _).setCell (by first | omega | (simp; done) | (simp; omega)) _
            obtain ⟨q, hq⟩ : ∃ q, cur2[z]? = some q := ⟨_, List.getElem?_eq_getElem (by have := HCL2.out; omega)⟩
            have hrod := okA_rod HG2.out.1 hq
            obtain ⟨s0, s9⟩ := good_shw HG2.out hq
            have hto := toD_in (d := e) HG2.out hq (by have := HCL2.out; omega)
            obtain ⟨s, hs⟩ : ∃ s, shw t q + e = s := ⟨_, rfl⟩
            obtain ⟨r, hr⟩ : ∃ r, s % 10 = r := ⟨_, rfl⟩
            obtain ⟨y, hy⟩ : ∃ y, s / 10 = y := ⟨_, rfl⟩
            have r0 : 0 ≤ r := by omega
            have r9 : r ≤ 9 := by omega
            have y0 : 0 ≤ y := by omega
            have y9 : y ≤ 9 := by omega
            obtain ⟨p, hp⟩ : ∃ p, plD u t r = p := ⟨_, rfl⟩
            have hpto : toD u t q e = p := by rw [toD, hs, hr, hp]
            rw [hpto] at hto
            have HSTEP : Hid (addR u t (n - k) cur ms k d = addR u t (n - (z + 1)) (cur2.set z p) (ms2 ++ [((z : Int), p.1 - q.1, p.2 - q.2)]) (z + 1) y) := by
              unfold Hid
              rw [HEQ.out, show n - z = (n - (z + 1)) + 1 by omega, addR_step he hq, mvD, hpto, hs, hy]
            have HGOOD2 : Hid (goodA u o t (cur2.set z p)) := by unfold Hid; rw [← hp]; exact good_set z HG2.out r0 r9
            have HSET := Lib.hid (flat_set (xs := cur2) (k := z) p)
            have W1 : IntKind.i64.wrap (shw t q + e) = s := by rw [hs]; exact IntWalk.i64_in _ (by omega)
            have W2 : s.tmod 10 = r := by rw [Int.tmod_eq_emod_of_nonneg (by omega)]; exact hr
            have W5 : s.tdiv 10 = y := by rw [Int.tdiv_eq_ediv_of_nonneg (by omega)]; exact hy
            have hrod0 := hrod
            obtain ⟨⟨a0, a1, a2⟩, ⟨a3, a4, a5⟩, _⟩ := hrod
            obtain ⟨⟨x0, x1, x2⟩, ⟨x3, x4, x5⟩, _⟩ := hto
            have W3 : IntKind.i64.wrap (p.1 - q.1) = p.1 - q.1 := IntWalk.i64_in _ (by omega)
            have W4 : IntKind.i64.wrap (p.2 - q.2) = p.2 - q.2 := IntWalk.i64_in _ (by omega)
            have b2 : decide (n ≤ z) = false := by simp; omega
            have HSH := Lib.hid (fun (W : World) (hW : Reads W W.heap.size 2 A1 n (flat encPair cur2)) => iShown (u := u) (o := o) (t := t) (c := k1) W hW HCL2.out (by unfold maxLen; omega) hzn hq hrod0)
            have HPL := Lib.hid (fun (W : World) => iPlainRod (u := u) (o := o) (t := t) (d := r) (s := .slice A n c) W HKU.out HKT.out r0 r9)
            simp only [hp] at HPL
            have HLM : Hid ((ms2 ++ [((z : Int), p.1 - q.1, p.2 - q.2)]).length = m2 + 1) := by unfold Hid; rw [List.length_append, HML2.out]; rfl
            have HQ := Lib.hid hq
            have s18 : s ≤ 18 := by omega
            have s00 : 0 ≤ s := by omega
            have zi0 : (0 : Int) ≤ (z : Int) := Int.natCast_nonneg _
            have zi1 : (z : Int) < (n : Int) := by omega
            have hA2 := hA.below hB2 (by omega)
            have g0 := hG2.cell 0; have g1 := hG2.cell 1; have g2 := hG2.cell 2
            simp at g0 g1 g2
            clear hs hr hy hp hpto hq hrod0 he
            go_wp2_with fail
            refine (HSH.out _ hOR2.reads).mono ?_
            rintro e1 w8 ⟨rfl, hb⟩
            replace hG2 := hG2.bel hb; replace hA2 := hA2.bel hb; replace hOR2 := hOR2.bel hb; replace hOM2 := hOM2.bel hb
            have zb1 := hb.size
            replace hB2 := hB2.trans (hb.mono (by omega))
            clear hb g0 g1 g2 g3
            have h0 := hA2.cell 0; have h1 := hA2.cell 1; have h2 := hA2.cell 2; have h3 := hA2.cell 3
            simp at h0 h1 h2 h3
            go_wp2_with fail
            refine (HPL.out _).mono ?_
            rintro e1 w9 ⟨rfl, hb⟩
            replace hG2 := hG2.bel hb; replace hOR2 := hOR2.bel hb; replace hOM2 := hOM2.bel hb
            have zb2 := hb.size
            replace hB2 := hB2.trans (hb.mono (by omega))
            clear hb h0 h1 h2 h3 hA2
            go_wp2
            refine absC ?_
            intro wa hwa
            have hBa : Below w9.heap.size w9 wa := by rw [hwa]; exact (by repeat' (first | assumption | exact Below.refl _ _ | refine Below.drew ?_ | refine belN ?_ _ | refine Below.alloc ?_ (by first | omega | (simp; done) | (simp; omega)) _ | refine Below.setCell ?_ (by first | omega | (simp; done) | (simp; omega)) _))
            have t15 : Blk wa w9.heap.size 69 #[.int .i64 p.1, .int .i64 p.2] := by rw [hwa]; exact Blk.new _ _ _
            clear hwa
            have za := hBa.size; have zt := t15.lt; have z9 : w6.heap.size + 2 ≤ w9.heap.size := by omega
            replace hG2 := hG2.bel hBa; replace hOR2 := hOR2.bel hBa; replace hOM2 := hOM2.bel hBa
            replace hB2 := hB2.trans (hBa.mono (by omega))
            clear hBa
            obtain ⟨g1, rfl, hg1, hg1m, hg1w, hrow, hfz⟩ := hOR2.at_ (by omega)
            have p0 : wa.cell? ⟨g1, z * 2, none⟩ = some (.int .i64 q.1) := by
              rw [hrow (z * 2) (by omega)]
              have := flat_get encPair_length cur2 z 0 (by decide)
              simp only [Nat.add_zero] at this
              rw [this, HQ.out]
              rfl
            have p1 : wa.cell? ⟨g1, z * 2 + 1, none⟩ = some (.int .i64 q.2) := by
              rw [hrow (z * 2 + 1) (by omega), flat_get encPair_length cur2 z 1 (by decide), HQ.out]
              rfl
            clear hrow hfz
            have c3 := hG2.cell 3; have k0 := t15.cell 0; have k1' := t15.cell 1
            simp at c3 k0 k1'
            have hm2b : m2 ≤ 1000 := by omega
            have hGX := (hG2.drew).alloc (.cells #[.int .i64 z, .int .i64 (p.1 - q.1), .int .i64 (p.2 - q.2)] 41); have hOX := (hOM2.drew).alloc (.cells #[.int .i64 z, .int .i64 (p.1 - q.1), .int .i64 (p.2 - q.2)] 41); have hTX := (t15.drew).alloc (.cells #[.int .i64 z, .int .i64 (p.1 - q.1), .int .i64 (p.2 - q.2)] 41)
            have hNX := own_blk_ne hOX.row hGX (by decide); have hNT := own_blk_ne hOX.row hTX (by decide)
            have HGX := Lib.hid hGX; have HOX := Lib.hid hOX; have HTX := Lib.hid hTX; have HNX := Lib.hid hNX; have HNT := Lib.hid hNT; clear hGX hOX hTX hNX hNT
            obtain ⟨S, hS⟩ : ∃ S : World → Prop, S = fun w' => w'.cell? ⟨w6.heap.size + 1, 3, none⟩ = some (.slice (some ⟨g1, 0, none⟩) n k1) ∧ w'.cell? ⟨w9.heap.size, 0, none⟩ = some (.int .i64 p.1) ∧ w'.cell? ⟨w9.heap.size, 1, none⟩ = some (.int .i64 p.2) ∧ w'.cell? ⟨g1, z * 2, none⟩ = some (.int .i64 q.1) ∧ w'.cell? ⟨g1, z * 2 + 1, none⟩ = some (.int .i64 q.2) := ⟨_, rfl⟩
            have hSw : ∀ w', S w' → w'.cell? ⟨w6.heap.size + 1, 3, none⟩ = some (.slice (some ⟨g1, 0, none⟩) n k1) ∧ w'.cell? ⟨w9.heap.size, 0, none⟩ = some (.int .i64 p.1) ∧ w'.cell? ⟨w9.heap.size, 1, none⟩ = some (.int .i64 p.2) ∧ w'.cell? ⟨g1, z * 2, none⟩ = some (.int .i64 q.1) ∧ w'.cell? ⟨g1, z * 2 + 1, none⟩ = some (.int .i64 q.2) := fun w' h => by rw [hS] at h; exact h
            have q4 : ∀ x : CW S, x.w.cell? ⟨w6.heap.size + 1, 3, none⟩ = some (.slice (some ⟨g1, 0, none⟩) n k1) := fun x => (hSw x.w x.h).1
            have q0 : ∀ x : CW S, x.w.cell? ⟨w9.heap.size, 0, none⟩ = some (.int .i64 p.1) := fun x => (hSw x.w x.h).2.1
            have q1 : ∀ x : CW S, x.w.cell? ⟨w9.heap.size, 1, none⟩ = some (.int .i64 p.2) := fun x => (hSw x.w x.h).2.2.1
            have q2 : ∀ x : CW S, x.w.cell? ⟨g1, z * 2, none⟩ = some (.int .i64 q.1) := fun x => (hSw x.w x.h).2.2.2.1
            have q3 : ∀ x : CW S, x.w.cell? ⟨g1, z * 2 + 1, none⟩ = some (.int .i64 q.2) := fun x => (hSw x.w x.h).2.2.2.2
            have hS3 : S wa.drew := by rw [hS]; exact ⟨c3, k0, k1', p0, p1⟩
            have hS4 : S (wa.drew.alloc (.cells #[.int .i64 z, .int .i64 (p.1 - q.1), .int .i64 (p.2 - q.2)] 41)) := by rw [hS]; exact ⟨cellA c3 _, cellA k0 _, cellA k1' _, cellA p0 _, cellA p1 _⟩
            have HS := Lib.hid hS; clear hS hSw
            haveI : Nonempty (CW S) := ⟨⟨_, hS3⟩⟩
            refine wp_region_ch (C := fun w' => ∃ x : CW S, w' = x.w) 21 _ _ _ (by kernel_rfl) (by kernel_rfl) (by kernel_rfl) rfl rfl rfl ⟨⟨_, hS3⟩, rfl⟩ ?_
            simp only [List.take_succ_cons, List.take_zero]
            repeat (go_big_quiet_step (fail))
            refine wpQuiet_nil ?_
            simp only [List.length_cons, List.length_nil, List.take_succ_cons, List.take_zero, List.drop_succ_cons, List.drop_zero, Nat.add_sub_cancel, Act.put, List.setIfInBounds_toArray, List.set_cons_succ, List.set_cons_zero]
            repeat (go_big_quiet_step (fail))
            refine wpQuiet_nil ?_
            refine wpV_mk1 (v := .agg #[.int .i64 z, .int .i64 (p.1 - q.1), .int .i64 (p.2 - q.2)]) (cs := #[.int .i64 z, .int .i64 (p.1 - q.1), .int .i64 (p.2 - q.2)]) (e := 41) rfl (by rfl) (fun W => by simp [go_sem]) ⟨⟨⟨_, hS4⟩, rfl⟩, ?_⟩
            refine wpV_app1g (.tmp 75) (.tmp 96) rfl eltMv (by rfl) ((hOM2.drew).alloc _) (by rfl) (Blk.new _ _ _) rfl (three_ints _ _ _) (by omega) (by simp; omega) ?_
            intro A3 cm3 wb hob htb hgb
            have hGb := Blk.grown HGX.out hgb (fun e => HNX.out e.symm)
            have tb := Blk.grown HTX.out hgb (fun e => HNT.out e.symm)
            have hORb := (hOR2.drew.alloc (.cells #[.int .i64 z, .int .i64 (p.1 - q.1), .int .i64 (p.2 - q.2)] 41)).touch htb (.inl (Nat.le_refl _))
            have hBb : Below w5.heap.size w6 wb := Touch.below ((hB2.drew).alloc (by show w5.heap.size ≤ wa.heap.size; omega) _) htb (by simp; omega) z6
            have zb : w6.heap.size + 2 ≤ wb.heap.size := by have := htb.size; simp at this; omega
            clear c3 k0 k1' p0 p1
            have c3 := hGb.cell 3; have k0 := tb.cell 0; have k1' := tb.cell 1
            simp at c3 k0 k1'
            obtain ⟨g1', hA', _, _, _, hrow, hfz⟩ := hORb.at_ (by omega)
            injection hA' with hA'
            injection hA' with hA'
            subst hA'
            have p0 : wb.cell? ⟨g1, z * 2, none⟩ = some (.int .i64 q.1) := by
              rw [hrow (z * 2) (by omega)]
              have := flat_get encPair_length cur2 z 0 (by decide)
              simp only [Nat.add_zero] at this
              rw [this, HQ.out]
              rfl
            have p1 : wb.cell? ⟨g1, z * 2 + 1, none⟩ = some (.int .i64 q.2) := by
              rw [hrow (z * 2 + 1) (by omega), flat_get encPair_length cur2 z 1 (by decide), HQ.out]
              rfl
            clear hrow
            refine ⟨⟨⟨_, by rw [HS.out]; exact ⟨c3, k0, k1', p0, p1⟩⟩, rfl⟩, ?_⟩
            refine wpV_assign (v := .slice A3 (m2 + 1) cm3) rfl (by rfl) ?_
            clear q4 q0 q1 q2 q3 hS3 hS4 HS htb hgb HGX HOX HTX HNX HNT hOM2 hOR2 hG2 hB2 t15
            go_wp2
            go_roundw
            case rel =>
              refine ⟨z + 1, m2 + 1, cm3, y, cur2.set z p, ms2 ++ [((z : Int), p.1 - q.1, p.2 - q.2)], A3, by go_num, by go_num, by go_num, by omega, y0, y9, HSTEP, HGOOD2, by unfold Hid; rw [List.length_set]; exact HCL2.out, HLM, by omega, ?_, ?_, ?_, ?_, ?_⟩
              · exact (hGb.far (by show w6.heap.size + 1 ≠ g1; omega) _).far (by show w6.heap.size + 1 ≠ g1; omega) _
              · rw [← HSET.out]
                exact (hORb.stored (z * 2) (.int .i64 p.1)).stored (z * 2 + 1) (.int .i64 p.2)
              · rw [add_flat]
                exact ((hob.setLow (p := ⟨g1, z * 2, none⟩) (.inl hg1m) (.int .i64 p.1)).setLow (p := ⟨g1, z * 2 + 1, none⟩) (.inl hg1m) (.int .i64 p.2)).more (Nat.le_refl _) (by simp)
              · simp; omega
              · exact (hBb.setCell (by show w5.heap.size ≤ g1; omega) _).setCell (by show w5.heap.size ≤ g1; omega) _
            case measure => simp [intOf]; omega
end
end Go.Proofs.Ytpgifgdoikhpbaa
