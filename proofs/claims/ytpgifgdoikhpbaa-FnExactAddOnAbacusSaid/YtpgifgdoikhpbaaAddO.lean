/- Adding on an abacus, on the side of the reference. No condition. -/
import Derived.Test.YtpgifgdoikhpbaaAddS
namespace Go.Proofs.Ytpgifgdoikhpbaa
open Go.RowKit

theorem Touch.of_bel {D : Nat} {w w' : World} (hb : Below D w w') : Touch D w.heap.size w w' := ⟨hb.os, hb.tape, hb.output, hb.size, fun k hk hd => hb.block k (by omega)⟩
theorem addR_good {u o t : Int} : ∀ (f : Nat) (xs : List (Int × Int)) (ms : List (Int × Int × Int)) (k : Nat) (d : Int), goodA u o t xs → 0 ≤ d → d ≤ 9 → goodA u o t (addR u t f xs ms k d).2.1
  | 0, xs, ms, k, d, h, _, _ => h
  | f + 1, xs, ms, k, d, h, d0, d9 => by
    rw [addR]
    split
    · exact h
    · have hs : 0 ≤ shw t (xs.getD k (0, 0)) ∧ shw t (xs.getD k (0, 0)) ≤ 9 := by
        rw [List.getD_eq_getElem?_getD]
        cases hq : xs[k]? with
        | none => simp [shw]
        | some q => exact good_shw h hq
      refine addR_good f _ _ _ _ ?_ (by omega) (by omega)
      unfold toD
      exact good_set k h (by omega) (by omega)
theorem eltI : Elt Try.prog 90 2 1 := by
  have infoI : (Try.prog.info? 2).map (fun i => (i.zero, i.size, i.bytes)) = some (some (.int .i64 0), 1, 8) := by kernel_rfl
  obtain ⟨i0, hi, hz0, hz1, hz2⟩ := info_parts infoI
  exact ⟨i0, _, _, Try.underlying90, hi, hz0, hz1, hz2, rfl, by decide, by decide⟩
theorem good_of {u o t : Int} {xs : List (Int × Int)} (h : okA u o t xs = true) (hp : ipB u o t xs = true) : goodA u o t xs := ⟨h, by rw [← ip_all h]; exact hp⟩
/-- What is left of the digits: those of v behind the ones that are made. -/
theorem dg_step {v V : Nat} {ds : List Int} (h : ds ++ dL v = dL V) (hv : v ≠ 0) : (ds ++ [((v % 10 : Nat) : Int)]) ++ dL (v / 10) = dL V := by
  rw [← h, dL_pos hv, List.append_assoc]
  rfl
theorem ad_none {u t : Int} {xs : List (Int × Int)} {v : Int} {V : Nat} (hv : v = V) : adR u t xs v = addTo u t xs.length (dL V) (dL V).length xs [] := by
  subst hv
  rfl

section
attribute [local irreducible] wpQuiet addR addTo
set_option maxRecDepth 100000 in
set_option maxHeartbeats 12800000 in
theorem sAddOn {u o t v : Int} {A : Option Addr} {n c : Nat} {xs : List (Int × Int)} (w : World) (h : Reads w w.heap.size 2 A n (flat encPair xs)) (hl : xs.length = n) (hm : n ≤ maxLen) :
    Calls Try.prog 42 #[.agg #[.int .i64 u, .int .i64 o, .int .i64 t, .slice A n c], .int .i64 v] w (RetAdd w u o t xs v) := by
  have HL := Lib.hid hl; clear hl
  cases hk : okA u o t xs
  · have HE := Lib.hid (ad_1 (v := v) hk)
    go_enter Try.func42, Try.ntmps42
    go_wp2_with fail
    refine absW ?_
    intro w0 hw
    have hb0 : Below w.heap.size w w0 := by rw [hw]; exact (by repeat' (first | assumption | exact Below.refl _ _ | refine Below.drew ?_ | refine belN ?_ _ | refine Below.alloc ?_ (by first | omega | (simp; done) | (simp; omega)) _ | refine Below.setCell ?_ (by first | omega | (simp; done) | (simp; omega)) _))
    have c0 : w0.cell? ⟨w.heap.size, 0, none⟩ = some (.int .i64 u) := by rw [hw]; simp
    have c1 : w0.cell? ⟨w.heap.size, 1, none⟩ = some (.int .i64 o) := by rw [hw]; simp
    have c2 : w0.cell? ⟨w.heap.size, 2, none⟩ = some (.int .i64 t) := by rw [hw]; simp
    have c3 : w0.cell? ⟨w.heap.size, 3, none⟩ = some (.slice A n c) := by rw [hw]; simp
    have hR : Blk w0 (w.heap.size + 1) 29 #[.int .i64 0, .int .i64 0, .int .i64 0, .slice none 0 0] := by rw [hw]; exact blk_new (by simp)
    clear hw
    have hr := rdB h hb0
    refine (sOkA _ hr HL.out hm c0 c1 c2 c3).mono ?_
    rintro e w1 ⟨rfl, nd, hw⟩
    have hb : Below w0.heap.size w0 w1 := by rw [hw]; exact belN (Below.refl _ _) _
    replace c0 := cellB c0 hb; replace c1 := cellB c1 hb; replace c2 := cellB c2 hb; replace c3 := cellB c3 hb; replace hR := hR.bel hb
    replace hr := rdB hr hb; replace hb0 := bel2 hb0 hb
    clear hw hb
    rw [hk]
    have zR := hR.lt; have d0 := hR.cell 0; have d1 := hR.cell 1; have d2 := hR.cell 2; have d3 := hR.cell 3; have fR := hR.frozen
    simp at d0 d1 d2 d3
    go_wp2
    refine bodyPost_ret (v := .tuple #[.agg #[.int .i64 0, .int .i64 0, .int .i64 0, .slice none 0 0], .slice none 0 0, .int .i64 1]) (by simp [results, Try.results42, go_sem, d0, d1, d2, d3]) rfl (add_no HE.out.1 HE.out.2 ?_)
    exact (((hb0.setCell (by first | omega | (simp; done) | (simp; omega)) _).setCell (by first | omega | (simp; done) | (simp; omega)) _).setCell (by first | omega | (simp; done) | (simp; omega)) _).setCell (by first | omega | (simp; done) | (simp; omega)) _
  have HK := Lib.hid hk
  cases hbv : betwB v 0 1000000000000
  · have HE := Lib.hid (ad_2 hk hbv)
    clear hk
    go_enter Try.func42, Try.ntmps42
    go_wp2_with fail
    refine absW ?_
    intro w0 hw
    have hb0 : Below w.heap.size w w0 := by rw [hw]; exact (by repeat' (first | assumption | exact Below.refl _ _ | refine Below.drew ?_ | refine belN ?_ _ | refine Below.alloc ?_ (by first | omega | (simp; done) | (simp; omega)) _ | refine Below.setCell ?_ (by first | omega | (simp; done) | (simp; omega)) _))
    have c0 : w0.cell? ⟨w.heap.size, 0, none⟩ = some (.int .i64 u) := by rw [hw]; simp
    have c1 : w0.cell? ⟨w.heap.size, 1, none⟩ = some (.int .i64 o) := by rw [hw]; simp
    have c2 : w0.cell? ⟨w.heap.size, 2, none⟩ = some (.int .i64 t) := by rw [hw]; simp
    have c3 : w0.cell? ⟨w.heap.size, 3, none⟩ = some (.slice A n c) := by rw [hw]; simp
    have hR : Blk w0 (w.heap.size + 1) 29 #[.int .i64 0, .int .i64 0, .int .i64 0, .slice none 0 0] := by rw [hw]; exact blk_new (by simp)
    clear hw
    have hr := rdB h hb0
    refine (sOkA _ hr HL.out hm c0 c1 c2 c3).mono ?_
    rintro e w1 ⟨rfl, nd, hw⟩
    have hb : Below w0.heap.size w0 w1 := by rw [hw]; exact belN (Below.refl _ _) _
    replace c0 := cellB c0 hb; replace c1 := cellB c1 hb; replace c2 := cellB c2 hb; replace c3 := cellB c3 hb; replace hR := hR.bel hb
    replace hr := rdB hr hb; replace hb0 := bel2 hb0 hb
    clear hw hb
    rw [HK.out]
    go_wp2_with fail
    refine (l00In_any _ _ _ _).mono ?_
    rintro e w2 ⟨rfl, rfl⟩
    rw [hbv]
    have zR := hR.lt; have d0 := hR.cell 0; have d1 := hR.cell 1; have d2 := hR.cell 2; have d3 := hR.cell 3; have fR := hR.frozen
    simp at d0 d1 d2 d3
    go_wp2
    refine bodyPost_ret (v := .tuple #[.agg #[.int .i64 0, .int .i64 0, .int .i64 0, .slice none 0 0], .slice none 0 0, .int .i64 2]) (by simp [results, Try.results42, go_sem, d0, d1, d2, d3]) rfl (add_no HE.out.1 HE.out.2 ?_)
    exact (((hb0.setCell (by first | omega | (simp; done) | (simp; omega)) _).setCell (by first | omega | (simp; done) | (simp; omega)) _).setCell (by first | omega | (simp; done) | (simp; omega)) _).setCell (by first | omega | (simp; done) | (simp; omega)) _
  have HBV := Lib.hid hbv
  cases hip : ipB u o t xs
  · have HE := Lib.hid (ad_6 hk hbv hip)
    have HIP := Lib.hid hip
    clear hk hip hbv
    go_enter Try.func42, Try.ntmps42
    go_wp2_with fail
    refine absW ?_
    intro w0 hw
    have hb0 : Below w.heap.size w w0 := by rw [hw]; exact (by repeat' (first | assumption | exact Below.refl _ _ | refine Below.drew ?_ | refine belN ?_ _ | refine Below.alloc ?_ (by first | omega | (simp; done) | (simp; omega)) _ | refine Below.setCell ?_ (by first | omega | (simp; done) | (simp; omega)) _))
    have c0 : w0.cell? ⟨w.heap.size, 0, none⟩ = some (.int .i64 u) := by rw [hw]; simp
    have c1 : w0.cell? ⟨w.heap.size, 1, none⟩ = some (.int .i64 o) := by rw [hw]; simp
    have c2 : w0.cell? ⟨w.heap.size, 2, none⟩ = some (.int .i64 t) := by rw [hw]; simp
    have c3 : w0.cell? ⟨w.heap.size, 3, none⟩ = some (.slice A n c) := by rw [hw]; simp
    have hR : Blk w0 (w.heap.size + 1) 29 #[.int .i64 0, .int .i64 0, .int .i64 0, .slice none 0 0] := by rw [hw]; exact blk_new (by simp)
    clear hw
    have hr := rdB h hb0
    refine (sOkA _ hr HL.out hm c0 c1 c2 c3).mono ?_
    rintro e w1 ⟨rfl, nd, hw⟩
    have hb : Below w0.heap.size w0 w1 := by rw [hw]; exact belN (Below.refl _ _) _
    replace c0 := cellB c0 hb; replace c1 := cellB c1 hb; replace c2 := cellB c2 hb; replace c3 := cellB c3 hb; replace hR := hR.bel hb
    replace hr := rdB hr hb; replace hb0 := bel2 hb0 hb
    clear hw hb
    rw [HK.out]
    go_wp2_with fail
    refine (l00In_any _ _ _ _).mono ?_
    rintro e w2 ⟨rfl, rfl⟩
    rw [HBV.out]
    go_wp2_with fail
    refine (sIsPlain _ hr HL.out hm).mono ?_
    rintro e w2 ⟨rfl, hb⟩
    replace hR := hR.bel hb; replace hb0 := bel2 hb0 hb
    clear hb c0 c1 c2 c3 hr
    rw [HIP.out]
    have zR := hR.lt; have d0 := hR.cell 0; have d1 := hR.cell 1; have d2 := hR.cell 2; have d3 := hR.cell 3; have fR := hR.frozen
    simp at d0 d1 d2 d3
    go_wp2
    refine bodyPost_ret (v := .tuple #[.agg #[.int .i64 0, .int .i64 0, .int .i64 0, .slice none 0 0], .slice none 0 0, .int .i64 6]) (by simp [results, Try.results42, go_sem, d0, d1, d2, d3]) rfl (add_no HE.out.1 HE.out.2 ?_)
    exact (((hb0.setCell (by first | omega | (simp; done) | (simp; omega)) _).setCell (by first | omega | (simp; done) | (simp; omega)) _).setCell (by first | omega | (simp; done) | (simp; omega)) _).setCell (by first | omega | (simp; done) | (simp; omega)) _
  have HIP := Lib.hid hip
  have HGOOD := Lib.hid (good_of hk hip)
  obtain ⟨_, _, n0, n1⟩ := okA_parts hk
  rw [HL.out] at n0 n1
  obtain ⟨v0, v1⟩ := betw_iff.1 hbv
  obtain ⟨V, rfl⟩ := Int.eq_ofNat_of_zero_le v0
  have HLEN : Hid ((dL V).length ≤ 13) := dL_len 13 V (by omega)
  clear hk hip hbv
  go_enter Try.func42, Try.ntmps42
  go_wp2_with fail
  refine absW ?_
  intro w0 hw
  have hb0 : Below w.heap.size w w0 := by rw [hw]; exact (by repeat' (first | assumption | exact Below.refl _ _ | refine Below.drew ?_ | refine belN ?_ _ | refine Below.alloc ?_ (by first | omega | (simp; done) | (simp; omega)) _ | refine Below.setCell ?_ (by first | omega | (simp; done) | (simp; omega)) _))
  have c0 : w0.cell? ⟨w.heap.size, 0, none⟩ = some (.int .i64 u) := by rw [hw]; simp
  have c1 : w0.cell? ⟨w.heap.size, 1, none⟩ = some (.int .i64 o) := by rw [hw]; simp
  have c2 : w0.cell? ⟨w.heap.size, 2, none⟩ = some (.int .i64 t) := by rw [hw]; simp
  have c3 : w0.cell? ⟨w.heap.size, 3, none⟩ = some (.slice A n c) := by rw [hw]; simp
  have hR : Blk w0 (w.heap.size + 1) 29 #[.int .i64 0, .int .i64 0, .int .i64 0, .slice none 0 0] := by rw [hw]; exact blk_new (by simp)
  clear hw
  have hr := rdB h hb0
  refine (sOkA _ hr HL.out hm c0 c1 c2 c3).mono ?_
  rintro e w1 ⟨rfl, nd, hw⟩
  have hb : Below w0.heap.size w0 w1 := by rw [hw]; exact belN (Below.refl _ _) _
  replace c0 := cellB c0 hb; replace c1 := cellB c1 hb; replace c2 := cellB c2 hb; replace c3 := cellB c3 hb; replace hR := hR.bel hb
  replace hr := rdB hr hb; replace hb0 := bel2 hb0 hb
  clear hw hb
  rw [HK.out]
  go_wp2_with fail
  refine (l00In_any _ _ _ _).mono ?_
  rintro e w2 ⟨rfl, rfl⟩
  rw [HBV.out]
  go_wp2_with fail
  refine (sIsPlain _ hr HL.out hm).mono ?_
  rintro e w2 ⟨rfl, hb⟩
  replace hR := hR.bel hb; replace c0 := cellB c0 hb; replace c1 := cellB c1 hb; replace c2 := cellB c2 hb; replace c3 := cellB c3 hb; replace hr := rdB hr hb; replace hb0 := bel2 hb0 hb
  clear hb
  rw [HIP.out]
  go_wp2_with fail
  refine (sOwnA _ hr HL.out hm c0 c1 c2 c3 n0 (by omega)).mono ?_
  rintro e w3 ⟨s, rfl, hOR, hb⟩
  obtain ⟨A1, k1, rfl, _, _⟩ := hOR.form
  have zw2 := hb0.size; have zR2 := hR.lt
  replace hR := hR.bel hb; replace hb0 := bel2 hb0 hb
  have zR := hR.lt; have zw3 := hb.size
  clear hb c0 c1 c2 c3 hr h hm
  go_wp2
  refine absC ?_
  intro w4 hw4
  have hB4 : Below w3.heap.size w3 w4 := by rw [hw4]; exact (by repeat' (first | assumption | exact Below.refl _ _ | refine Below.drew ?_ | refine belN ?_ _ | refine Below.alloc ?_ (by first | omega | (simp; done) | (simp; omega)) _ | refine Below.setCell ?_ (by first | omega | (simp; done) | (simp; omega)) _))
  have z4 : w4.heap.size = w3.heap.size + 3 := by rw [hw4]; simp
  have hM4 : Blk w4 w3.heap.size 41 #[] := by rw [hw4]; exact ((Blk.new _ _ _).alloc _).alloc _
  have hG4 : Blk w4 (w3.heap.size + 1) 89 #[.int .i64 u, .int .i64 o, .int .i64 t, .slice A1 n k1, .slice (some ⟨w3.heap.size, 0, none⟩) 0 0] := by rw [hw4]; exact (blk_new (by simp)).alloc _
  have hD4 : Blk w4 (w3.heap.size + 2) 2 #[] := by rw [hw4]; exact blk_new (by simp)
  clear hw4
  go_loopw [8, 9] (fun dg nn wr => ∃ (r j : Nat) (A' : Option Addr) (c' : Nat) (ds : List Int), nn = .int .i64 r ∧ r ≤ V ∧ dg = .slice A' j c' ∧ j ≤ 13 ∧ Hid (ds ++ dL r = dL V) ∧ Hid (ds.length = j) ∧ Own wr (w3.heap.size + 2) wr.heap.size 2 1 (.slice A' j c') j (ds.map (Value.int .i64)) ∧ w3.heap.size + 3 ≤ wr.heap.size ∧ Below (w3.heap.size + 2) w4 wr) (fun _ nn _ => (intOf nn).toNat)
  case atStart => exact ⟨V, 0, some ⟨w3.heap.size + 2, 0, none⟩, 0, [], rfl, Nat.le_refl _, rfl, by omega, by simp [Hid], rfl, (hD4.own (n := 0) (Nat.zero_le _) rfl).more (Nat.le_refl _) (by omega), by omega, Below.refl _ _⟩
  case round =>
    obtain ⟨r, j, A', c', ds, rfl, hrV, rfl, hj13, HDS, HDL, hod, hz, hB⟩ := hrel
    by_cases hr0 : r = 0
    rotate_left
    · have b1 : decide (0 < (r : Int)) = true := by simp; omega
      have HSTEP := Lib.hid (dg_step HDS.out hr0)
      have hj2 : j + 1 ≤ 13 := by
        have e1 : ds.length + (dL r).length = (dL V).length := by rw [← HDS.out, List.length_append]
        have e2 : 0 < (dL r).length := by rw [dL_pos hr0]; simp
        have := HLEN.out; have := HDL.out; omega
      obtain ⟨dd, hdd⟩ : ∃ dd : Int, ((r % 10 : Nat) : Int) = dd := ⟨_, rfl⟩
      obtain ⟨rr, hrr⟩ : ∃ rr : Nat, r / 10 = rr := ⟨_, rfl⟩
      have q1 : (r : Int).tmod 10 = dd := by rw [Int.tmod_eq_emod_of_nonneg (by omega)]; omega
      have q2 : (r : Int).tdiv 10 = (rr : Int) := by rw [Int.tdiv_eq_ediv_of_nonneg (by omega)]; omega
      have hlt : rr < r := by omega
      rw [hdd, hrr] at HSTEP
      clear hdd hrr hr0
      go_wp2_with (first | (at_builtin; refine wpList_app1 rfl (.tmp 32) (.tmp 35) rfl eltI rfl (hod.alloc _) rfl (blk_new (by simp)) rfl (one_int _) (by omega) (by first | omega | (simp; omega)) ?_; intro A2 c2 w6 ho2 ht2))
      have hz2 := ht2.size
      go_roundw
      case rel => exact ⟨rr, j + 1, A2, c2, ds ++ [dd], by go_num, by omega, by go_num, hj2, HSTEP, by unfold Hid; rw [List.length_append, HDL.out]; rfl, by simpa using ho2, by simp at hz2; omega, Touch.below (hB.alloc (by omega) _) ht2 (by first | omega | (simp; omega)) (Nat.le_refl _)⟩
      case measure => simp [intOf]; omega
    rw [show (r : Int) = 0 by omega]
    subst hr0
    rename World => w5
    have HDV : Hid (ds = dL V) := by have := HDS.out; rw [dL_zero, List.append_nil] at this; exact this
    have b1 : decide (0 < (0 : Int)) = false := by decide
    have hG5 := hG4.below hB (by omega)
    have hR5 := (hR.bel hB4).below hB (by omega)
    have hOR5 := (hOR.bel hB4).touch (Touch.of_bel hB) (.inl (by omega))
    have hM5 := hM4.below hB (by omega)
    have hOM5 : Own w5 w3.heap.size w5.heap.size 41 3 (.slice (some ⟨w3.heap.size, 0, none⟩) 0 0) 0 (flat encTrip []) := (hM5.own (n := 0) (Nat.zero_le _) rfl).more (Nat.le_refl _) (by omega)
    have hb5 : Below w.heap.size w w5 := (bel2 hb0 hB4).trans (hB.mono (by omega))
    have z5 := hB.size
    clear hG4 hR hOR hM4 hM5 hD4 hB4 hB hb0
    go_wp2
    go_loopw [10] (fun ii wr => ∃ (k m cm : Nat) (cur : List (Int × Int)) (ms : List (Int × Int × Int)) (AM : Option Addr), k ≤ j ∧ ii = .int .i64 ((k : Int) - 1) ∧ Hid (adR u t xs (V : Int) = addTo u t n (dL V) k cur ms) ∧ Hid (goodA u o t cur) ∧ Hid (cur.length = n) ∧ Hid (ms.length = m) ∧ m ≤ (j - k) * 10 ∧ Blk wr (w3.heap.size + 1) 89 #[.int .i64 u, .int .i64 o, .int .i64 t, .slice A1 n k1, .slice AM m cm] ∧ Own wr w2.heap.size w3.heap.size 69 2 (.slice A1 n k1) n (flat encPair cur) ∧ Own wr w3.heap.size wr.heap.size 41 3 (.slice AM m cm) m (flat encTrip ms) ∧ Own wr (w3.heap.size + 2) w5.heap.size 2 1 (.slice A' j c') j (ds.map (Value.int .i64)) ∧ w5.heap.size ≤ wr.heap.size ∧ Below w2.heap.size w5 wr) (fun ii _ => (intOf ii + 1).toNat)
    case atStart => exact ⟨j, 0, 0, xs, [], some ⟨w3.heap.size, 0, none⟩, Nat.le_refl _, rfl, by unfold Hid; rw [ad_none (V := V) rfl, HL.out, show j = (dL V).length by rw [← HDV.out, HDL.out]], HGOOD.out, HL.out, rfl, by omega, hG5, hOR5, hOM5, hod, Nat.le_refl _, Below.refl _ _⟩
    case round =>
      obtain ⟨k, m, cm, cur, ms, AM, hkj, hi, HADD, HG, HCL, HML, hmk, hGi, hORi, hOMi, hoi, hzi, hBi⟩ := hrel
      have hRi := hR5.below hBi (by omega)
      rcases k with _ | k
      · subst hi
        have HFIN : Hid (adR u t xs (V : Int) = (true, cur, ms)) := by unfold Hid; rw [HADD.out, addTo]
        have zR := hRi.lt; have d0 := hRi.cell 0; have d1 := hRi.cell 1; have d2 := hRi.cell 2; have d3 := hRi.cell 3; have fR := hRi.frozen
        simp at d0 d1 d2 d3
        have g0 := hGi.cell 0; have g1 := hGi.cell 1; have g2 := hGi.cell 2; have g3 := hGi.cell 3; have g4 := hGi.cell 4; have zG := hGi.lt
        simp at g0 g1 g2 g3 g4
        go_wp2
        have pb : w.heap.size + 1 < w2.heap.size := zR2
        go_region_with (fail)
        all_goals go_wp2
        all_goals refine bodyPost_ret (v := .tuple #[.agg #[.int .i64 u, .int .i64 o, .int .i64 t, .slice A1 n k1], .slice AM m cm, .int .i64 0]) (by simp [results, Try.results42, go_sem, d0, d1, d2, d3]) rfl (add_yes HK.out HBV.out HIP.out HL.out HML.out HFIN.out (mid := w3.heap.size) ?_ ?_ (by omega) (by simp; omega) ?_)
        all_goals first | exact (((((hORi.setLow (.inl pb) _).setLow (.inl pb) _).setLow (.inl pb) _).setLow (.inl pb) _).drew).more (by omega) (Nat.le_refl _) | exact (((((hOMi.setLow (.inl (Nat.lt_of_lt_of_le pb zw3)) _).setLow (.inl (Nat.lt_of_lt_of_le pb zw3)) _).setLow (.inl (Nat.lt_of_lt_of_le pb zw3)) _).setLow (.inl (Nat.lt_of_lt_of_le pb zw3)) _).drew).more (Nat.le_refl _) (by simp) | exact (((((hb5.trans (hBi.mono zw2)).setCell (Nat.le_succ _) _).setCell (Nat.le_succ _) _).setCell (Nat.le_succ _) _).setCell (Nat.le_succ _) _).drew
      · rw [show (((k + 1 : Nat) : Int) - 1) = (k : Int) by omega] at hi
        subst hi
        have hkl : k < j := by omega
        obtain ⟨d, hd⟩ : ∃ d, ds[k]? = some d := ⟨_, List.getElem?_eq_getElem (by have := HDL.out; omega)⟩
        have hdV : (dL V)[k]? = some d := by rw [← HDV.out]; exact hd
        obtain ⟨e0, e9⟩ := dL_bd V d (List.mem_of_getElem? hdV)
        obtain ⟨ad, uu, rfl, _, hx, hc⟩ := hoi.reads.at_ hkl
        obtain rfl : uu = .int .i64 d := by rw [List.getElem?_map, hd] at hx; exact (Option.some.inj hx).symm
        obtain ⟨Rr, hRr⟩ : ∃ Rr, addR u t (n - k) cur ms k d = Rr := ⟨_, rfl⟩
        have HLEN2 := Lib.hid (addR_len u t (n - k) cur ms k d)
        have HGD2 := Lib.hid (addR_good (u := u) (o := o) (t := t) (n - k) cur ms k d HG.out e0 e9)
        have HCALL := Lib.hid (sAdd (u := u) (o := o) (t := t) (A := A1) (n := n) (c := k1) (lo := w2.heap.size) (mid := w3.heap.size) (g := w3.heap.size + 1) zw3 (by omega) n1 (n - k) k d cur ms AM m cm wr rfl (by omega) HCL.out HG.out e0 e9 HML.out (by have : (j - (k + 1)) * 10 ≤ 13 * 10 := Nat.mul_le_mul (by omega) (Nat.le_refl _); omega) hGi hORi hOMi)
        rw [hRr] at HLEN2 HGD2 HCALL
        have HRR := Lib.hid hRr
        have ki0 : (0 : Int) ≤ (k : Int) := Int.natCast_nonneg _
        have ki1 : (k : Int) < (j : Int) := by omega
        have hmn : m + (n - k) ≤ (j - k) * 10 := by omega
        clear hx hd hRr
        cases hyes : Rr.1
        · have HNO := Lib.hid (addTo_no (ms := ms) (xs := cur) hdV HRR.out hyes)
          have HE : Hid (adK u o t xs (V : Int) = false ∧ adC u o t xs (V : Int) = 5) := ad_5 HK.out HBV.out HIP.out (by rw [HADD.out]; exact HNO.out)
          clear hdV
          go_wp2_with fail
          refine HCALL.out.mono ?_
          rintro e w7 ⟨AM', m', cm', rfl, x1, x2, x3, x4, x5, x6, x7⟩
          rw [hyes]
          have hR7 := hRi.below x6 (by omega)
          have hb7 := hb5.trans ((hBi.mono zw2).trans (x6.mono zw2))
          have zR := hR7.lt; have d0 := hR7.cell 0; have d1 := hR7.cell 1; have d2 := hR7.cell 2; have d3 := hR7.cell 3; have fR := hR7.frozen
          simp at d0 d1 d2 d3
          go_wp2
          refine bodyPost_ret (v := .tuple #[.agg #[.int .i64 0, .int .i64 0, .int .i64 0, .slice none 0 0], .slice none 0 0, .int .i64 5]) (by simp [results, Try.results42, go_sem, d0, d1, d2, d3]) rfl (add_no HE.out.1 HE.out.2 ?_)
          exact (((hb7.setCell (by first | omega | (simp; done) | (simp; omega)) _).setCell (by first | omega | (simp; done) | (simp; omega)) _).setCell (by first | omega | (simp; done) | (simp; omega)) _).setCell (by first | omega | (simp; done) | (simp; omega)) _
        · have HYES := Lib.hid (addTo_yes (ms := ms) (xs := cur) hdV HRR.out hyes)
          clear hdV
          go_wp2_with fail
          refine HCALL.out.mono ?_
          rintro e w7 ⟨AM', m', cm', rfl, x1, x2, x3, x4, x5, x6, x7⟩
          rw [hyes]
          go_wp2
          go_roundw
          case rel => exact ⟨k, m', cm', Rr.2.1, Rr.2.2, AM', by omega, by go_num, by unfold Hid; rw [HADD.out, HYES.out], HGD2.out, by unfold Hid; rw [HLEN2.out.1, HCL.out], x2, by omega, x3, x4, x5, hoi.keep x7 (by unfold tg; decide), by have := x6.size; omega, hBi.trans x6⟩
          case measure => simp [intOf]
end
end Go.Proofs.Ytpgifgdoikhpbaa
