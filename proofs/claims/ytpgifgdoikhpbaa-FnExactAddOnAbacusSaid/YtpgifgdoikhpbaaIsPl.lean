/- Abaci: plain or not. No condition. -/
import Derived.Test.YtpgifgdoikhpbaaSetI
import Derived.Test.YtpgifgdoikhpbaaBel
namespace Go.Proofs.Ytpgifgdoikhpbaa
open Go.RowKit

def ipB (u o t : Int) (xs : List (Int × Int)) : Bool := okA u o t xs && plainB u t xs
theorem ip_no {u o t : Int} {xs : List (Int × Int)} (h : okA u o t xs = false) : ipB u o t xs = false := by simp [ipB, h]
theorem ip_iff {u o t : Int} {xs : List (Int × Int)} (h : okA u o t xs = true) : ipB u o t xs = true ↔ (rest10 xs.length (valA t xs) = 0 ∧ plL u t xs.length (valA t xs) = xs) := by
  have := plain_iff (u := u) (t := t) (xs := xs) (fun q hq => (okA_shw h q hq).1)
  simp [ipB, h, this]
theorem ip_rest {u o t : Int} {xs : List (Int × Int)} {n : Nat} (h : okA u o t xs = true) (hl : xs.length = n) (hr : ¬ rest10 n (valA t xs) = 0) : ipB u o t xs = false := by
  cases hi : ipB u o t xs
  · rfl
  · have := (ip_iff h).1 hi
    rw [hl] at this
    exact absurd this.1 hr
theorem ip_same {u o t : Int} {xs : List (Int × Int)} {n : Nat} (h : okA u o t xs = true) (hl : xs.length = n) (hr : rest10 n (valA t xs) = 0) : ipB u o t xs = saB u o t u o t (plL u t n (valA t xs)) xs := by
  have := ip_iff h
  rw [hl] at this
  rw [Bool.eq_iff_iff, this]
  simp [saB, sameB, hr]
theorem ip_all {u o t : Int} {xs : List (Int × Int)} (h : okA u o t xs = true) : ipB u o t xs = plainB u t xs := by simp [ipB, h]
def plnB (u t : Int) (q : Int × Int) : Bool := decide (shw t q ≤ 9) && decide (q = plD u t (shw t q))
theorem plain_def (u t : Int) (xs : List (Int × Int)) : plainB u t xs = xs.all (plnB u t) := rfl

set_option maxRecDepth 100000 in
set_option maxHeartbeats 3200000 in
theorem sIsPlain {u o t : Int} {A : Option Addr} {n c : Nat} {xs : List (Int × Int)} (w : World) (h : Reads w w.heap.size 2 A n (flat encPair xs)) (hl : xs.length = n) (hm : n ≤ maxLen) :
    Calls Try.prog 30 #[.agg #[.int .i64 u, .int .i64 o, .int .i64 t, .slice A n c]] w fun e w' => e = .returned (.bool (ipB u o t xs)) ∧ Below w.heap.size w w' := by
  have HL := Lib.hid hl
  cases hk : okA u o t xs
  · have HE := Lib.hid (ip_no hk)
    clear hl
    go_enter Try.func30, Try.ntmps30
    go_wp2_with fail
    refine (sOkA _ ((h.alloc (Nat.le_refl _) _).more (by simp)) HL.out hm (by simp; rfl) (by simp; rfl) (by simp; rfl) (by simp; rfl)).mono ?_
    rintro e w' ⟨rfl, k, rfl⟩
    rw [hk]
    go_wp2
    go_ret
    exact ⟨ret_b HE.out.symm, (by repeat' (first | assumption | exact Below.refl _ _ | refine Below.drew ?_ | refine belN ?_ _ | refine Below.alloc ?_ (by first | omega | (simp; done) | (simp; omega)) _ | refine Below.setCell ?_ (by first | omega | (simp; done) | (simp; omega)) _))⟩
  have HK := Lib.hid hk
  obtain ⟨v0, v1⟩ := valA_in hk
  obtain ⟨hkd, _, n0, n1⟩ := okA_parts hk
  obtain ⟨ku, _, kt, _⟩ := kdB_parts hkd
  rw [hl] at n0 n1
  by_cases hr : rest10 n (valA t xs) = 0
  · have HE := Lib.hid (ip_same hk hl hr)
    have BR : Hid ((rest10 n (valA t xs) == 0) = true) := by unfold Hid; simp [hr]
    clear hl hk hkd hr
    go_enter Try.func30, Try.ntmps30
    go_wp2_with fail
    refine absW ?_
    intro w0 hw
    have hb0 : Below w.heap.size w w0 := by rw [hw]; exact (by repeat' (first | assumption | exact Below.refl _ _ | refine Below.drew ?_ | refine belN ?_ _ | refine Below.alloc ?_ (by first | omega | (simp; done) | (simp; omega)) _ | refine Below.setCell ?_ (by first | omega | (simp; done) | (simp; omega)) _))
    have c0 : w0.cell? ⟨w.heap.size, 0, none⟩ = some (.int .i64 u) := by rw [hw]; simp
    have c1 : w0.cell? ⟨w.heap.size, 1, none⟩ = some (.int .i64 o) := by rw [hw]; simp
    have c2 : w0.cell? ⟨w.heap.size, 2, none⟩ = some (.int .i64 t) := by rw [hw]; simp
    have c3 : w0.cell? ⟨w.heap.size, 3, none⟩ = some (.slice A n c) := by rw [hw]; simp
    clear hw
    refine (sOkA _ (rdB h hb0) HL.out hm c0 c1 c2 c3).mono ?_
    rintro e w' ⟨rfl, k1, rfl⟩
    rw [HK.out]
    go_wp2_with fail
    refine (sValueA _ ((rdB h hb0).drewN _) HL.out hm c2 c3 HK.out).mono ?_
    rintro e w' ⟨rfl, k4, rfl⟩
    go_wp2_with fail
    refine absW ?_
    intro w3 hw
    have hb3 : Below w.heap.size w w3 := by rw [hw]; exact belN hb0 _
    replace c0 : w3.cell? ⟨w.heap.size, 0, none⟩ = some (.int .i64 u) := by rw [hw]; exact c0
    replace c1 : w3.cell? ⟨w.heap.size, 1, none⟩ = some (.int .i64 o) := by rw [hw]; exact c1
    replace c2 : w3.cell? ⟨w.heap.size, 2, none⟩ = some (.int .i64 t) := by rw [hw]; exact c2
    replace c3 : w3.cell? ⟨w.heap.size, 3, none⟩ = some (.slice A n c) := by rw [hw]; exact c3
    clear hw hb0
    refine (sSet _ (rdB h hb3) HL.out hm c0 c1 c2 c3 n0 n1 ku kt v0 v1).mono ?_
    rintro e w1 ⟨s, rfl, ho, hb⟩
    rw [BR.out]
    obtain ⟨A1, k2, rfl, _, hk2⟩ := ho.form
    replace hb3 := bel2 hb3 hb
    replace c0 := cellB c0 hb; replace c1 := cellB c1 hb; replace c2 := cellB c2 hb; replace c3 := cellB c3 hb
    clear hb
    have x0 := fun X : Obj => cellA c0 X; have x1 := fun X : Obj => cellA c1 X; have x2 := fun X : Obj => cellA c2 X; have x3 := fun X : Obj => cellA c3 X
    go_wp2_with fail
    refine (l03Same _ (((ho.alloc _).reads)) ((rdB h (hb3.alloc (by have := hb3.size; omega) _))) (by rw [plL_length]) HL.out (Nat.le_trans ‹_› hk2) hm (by simp; rfl) (x0 _) (by simp; rfl) (x1 _) (by simp; rfl) (x2 _) (by simp; rfl) (x3 _)).mono ?_
    rintro e w' ⟨rfl, k5, rfl⟩
    go_wp2
    go_ret
    exact ⟨ret_b HE.out.symm, belN (hb3.alloc (by have := hb3.size; omega) _) _⟩
  · have HE := Lib.hid (ip_rest hk hl hr)
    have BR : Hid ((rest10 n (valA t xs) == 0) = false) := by unfold Hid; simp [hr]
    clear hl hk hkd hr
    go_enter Try.func30, Try.ntmps30
    go_wp2_with fail
    refine absW ?_
    intro w0 hw
    have hb0 : Below w.heap.size w w0 := by rw [hw]; exact (by repeat' (first | assumption | exact Below.refl _ _ | refine Below.drew ?_ | refine belN ?_ _ | refine Below.alloc ?_ (by first | omega | (simp; done) | (simp; omega)) _ | refine Below.setCell ?_ (by first | omega | (simp; done) | (simp; omega)) _))
    have c0 : w0.cell? ⟨w.heap.size, 0, none⟩ = some (.int .i64 u) := by rw [hw]; simp
    have c1 : w0.cell? ⟨w.heap.size, 1, none⟩ = some (.int .i64 o) := by rw [hw]; simp
    have c2 : w0.cell? ⟨w.heap.size, 2, none⟩ = some (.int .i64 t) := by rw [hw]; simp
    have c3 : w0.cell? ⟨w.heap.size, 3, none⟩ = some (.slice A n c) := by rw [hw]; simp
    clear hw
    refine (sOkA _ (rdB h hb0) HL.out hm c0 c1 c2 c3).mono ?_
    rintro e w' ⟨rfl, k1, rfl⟩
    rw [HK.out]
    go_wp2_with fail
    refine (sValueA _ ((rdB h hb0).drewN _) HL.out hm c2 c3 HK.out).mono ?_
    rintro e w' ⟨rfl, k4, rfl⟩
    go_wp2_with fail
    refine absW ?_
    intro w3 hw
    have hb3 : Below w.heap.size w w3 := by rw [hw]; exact belN hb0 _
    replace c0 : w3.cell? ⟨w.heap.size, 0, none⟩ = some (.int .i64 u) := by rw [hw]; exact c0
    replace c1 : w3.cell? ⟨w.heap.size, 1, none⟩ = some (.int .i64 o) := by rw [hw]; exact c1
    replace c2 : w3.cell? ⟨w.heap.size, 2, none⟩ = some (.int .i64 t) := by rw [hw]; exact c2
    replace c3 : w3.cell? ⟨w.heap.size, 3, none⟩ = some (.slice A n c) := by rw [hw]; exact c3
    clear hw hb0
    refine (sSet _ (rdB h hb3) HL.out hm c0 c1 c2 c3 n0 n1 ku kt v0 v1).mono ?_
    rintro e w1 ⟨s, rfl, ho, hb⟩
    rw [BR.out]
    obtain ⟨A1, k2, rfl, _, hk2⟩ := ho.form
    replace hb3 := bel2 hb3 hb
    go_wp2
    go_ret
    exact ⟨ret_b HE.out.symm, hb3.alloc (by have := hb3.size; omega) _⟩

section
attribute [local irreducible] wpQuiet
set_option maxRecDepth 100000 in
set_option maxHeartbeats 3200000 in
theorem iIsPlain {u o t : Int} {A : Option Addr} {n c : Nat} {xs : List (Int × Int)} (w : World) (h : Reads w w.heap.size 2 A n (flat encPair xs)) (hl : xs.length = n) (hm : n ≤ maxLen) :
    Calls Try.prog 31 #[.agg #[.int .i64 u, .int .i64 o, .int .i64 t, .slice A n c]] w fun e w' => e = .returned (.bool (ipB u o t xs)) ∧ Below w.heap.size w w' := by
  have hm0 := Lib.hid hm
  have HL := Lib.hid hl; clear hl
  cases hk : okA u o t xs
  · have HE := Lib.hid (ip_no hk)
    go_enter Try.func31, Try.ntmps31
    go_wp2_with fail
    refine (iValidAba _ ((h.alloc (Nat.le_refl _) _).more (by simp)) HL.out hm).mono ?_
    rintro e w1 ⟨rfl, hb⟩
    rw [hk]
    go_wp2
    go_ret
    exact ⟨ret_b HE.out.symm, bel2 (by repeat' (first | assumption | exact Below.refl _ _ | refine Below.drew ?_ | refine belN ?_ _ | refine Below.alloc ?_ (by first | omega | (simp; done) | (simp; omega)) _ | refine Below.setCell ?_ (by first | omega | (simp; done) | (simp; omega)) _)) hb⟩
  have HK := Lib.hid hk
  have HE := Lib.hid (ip_all hk)
  obtain ⟨hkd, _, n0, n1⟩ := okA_parts hk
  obtain ⟨ku, _, kt, _⟩ := kdB_parts hkd
  clear hk hkd
  unfold maxLen at hm
  go_enter Try.func31, Try.ntmps31
  go_wp2_with fail
  refine (iValidAba _ ((h.alloc (Nat.le_refl _) _).more (by simp)) HL.out hm0.out).mono ?_
  rintro e w1 ⟨rfl, hb⟩
  rw [HK.out]
  have hB : Below (w.heap.size + 1) (w.alloc (.cells #[.int .i64 u, .int .i64 o, .int .i64 t, .slice A n c] 29)) w1 := hb.mono (by simp)
  clear hb
  obtain ⟨⟨e0, e1, e2, e3⟩, hB0, hsz⟩ := boxed4 hB
  go_wp2
  clear e0 e1 e2 e3 hB0 hsz
  go_loopw [11] (fun i wr => ∃ k : Nat, k ≤ n ∧ i = .int .i64 k ∧ Hid ((xs.take k).all (plnB u t) = true) ∧ Below (w.heap.size + 1) (w.alloc (.cells #[.int .i64 u, .int .i64 o, .int .i64 t, .slice A n c] 29)) wr) (fun i _ => n - (intOf i).toNat)
  case atStart => exact ⟨0, Nat.zero_le _, rfl, by simp [Hid], hB⟩
  case round =>
    clear hB
    obtain ⟨k, hk, rfl, hd, hB⟩ := hrel
    obtain ⟨⟨e0, e1, e2, e3⟩, hB0, hsz⟩ := boxed4 hB
    by_cases hlt : k < n
    · obtain ⟨b1, o1, q, hA, hbb, hq, hc⟩ := (rdB h hB0).row_at encPair_length (by decide) HL.out hlt
      have hr := okA_rod HK.out hq
      have HR := Lib.hid hr; have HQ := Lib.hid hq
      obtain ⟨s0, s1⟩ := shw_bd hr
      clear hr hq
      have r0 := hc 0 _ rfl; have r1 := hc 1 _ rfl
      simp only [Nat.add_zero] at r0
      clear hc
      have HS := Lib.hid (fun (W : World) (hW : Below w.heap.size w W) => iShown (u := u) (o := o) (c := c) W (rdB h hW) HL.out hm0.out hlt HQ.out HR.out)
      subst hA
      have ki0 : (0 : Int) ≤ (k : Int) := Int.natCast_nonneg _
      have ki1 : (k : Int) < (n : Int) := by omega
      obtain ⟨d, hdd⟩ : ∃ d, shw t q = d := ⟨_, rfl⟩
      rw [hdd] at s0 s1
      have HDD := Lib.hid hdd
      simp only [hdd] at HS
      clear hdd
      by_cases h9 : 9 < d
      · have d9 : decide (9 < d) = true := by simpa using h9
        have HN := Lib.hid (all_no (p := plnB u t) HQ.out (by simp [plnB, HDD.out]; intro h; omega))
        clear h9
        go_wp2_with (first | (go_at_call 67; refine (HS.out _ hB0).mono ?_; rintro e w2 ⟨rfl, hb2⟩; have hbx := bel2 hB0 hb2; have y0 := cellB e0 hb2; have y1 := cellB e1 hb2; have y2 := cellB e2 hb2; have y3 := cellB e3 hb2; have z0 := cellB r0 hb2; have z1 := cellB r1 hb2))
        refine wp_region_below (by kernel_rfl) (by kernel_rfl) ?_
        repeat (go_big_quiet_step (fail))
        refine wpQuiet_nil ?_
        rintro _ ⟨⟨w4, hb4⟩, rfl⟩
        go_wp2
        go_ret
        exact ⟨ret_b (by rw [HE.out, plain_def]; exact HN.out.symm), bel2 hbx hb4⟩
      · have d9 : decide (9 < d) = false := by simpa using h9
        have HP := Lib.hid (fun (W : World) => iPlainRod (u := u) (o := o) (t := t) (s := .slice (some ⟨b1, o1, none⟩) n c) W ku kt s0 (by omega : d ≤ 9))
        obtain ⟨p, hp⟩ : ∃ p, plD u t d = p := ⟨_, rfl⟩
        simp only [hp] at HP
        have HPP : Hid (plnB u t q = decide (q = p)) := by
          unfold Hid
          rw [plnB, HDD.out, hp]
          simp
          omega
        clear hp
        by_cases hx : q = p
        · have HNX := Lib.hid (all_step (p := plnB u t) hd.out HQ.out (by rw [HPP.out]; simpa using hx))
          have x1 : q.1 = p.1 := by rw [hx]
          have x2 : q.2 = p.2 := by rw [hx]
          clear hx h9
          go_wp2_with (first | (go_at_call 67; refine (HS.out _ hB0).mono ?_; rintro e w2 ⟨rfl, hb2⟩; have hbx := boxedB hB hb2; have y0 := cellB e0 hb2; have y1 := cellB e1 hb2; have y2 := cellB e2 hb2; have y3 := cellB e3 hb2; have z0 := cellB r0 hb2; have z1 := cellB r1 hb2))
          have v0 := fun x : BW w2 => BW.cell y0 x; have v1 := fun x : BW w2 => BW.cell y1 x; have v2 := fun x : BW w2 => BW.cell y2 x; have v3 := fun x : BW w2 => BW.cell y3 x; have v4 := fun x : BW w2 => BW.cell z0 x; have v5 := fun x : BW w2 => BW.cell z1 x
          refine wp_region_below (by kernel_rfl) (by kernel_rfl) ?_
          repeat (go_big_quiet_step ((go_at_call 68; exact BW.call (HP.out _))))
          refine wpQuiet_nil ?_
          rintro _ ⟨⟨w4, hb4⟩, rfl⟩
          go_wp2
          go_roundw
          case rel => exact ⟨k + 1, by omega, by go_num, HNX, boxedB hbx hb4⟩
          case measure => simp [intOf]; omega
        · have HNX := Lib.hid (all_no (p := plnB u t) HQ.out (by rw [HPP.out]; simpa using hx))
          have HX := Lib.hid hx
          clear hx h9
          by_cases x1 : q.1 = p.1
          · have x2 : ¬ q.2 = p.2 := fun e => HX.out (Prod.ext x1 e)
            go_wp2_with (first | (go_at_call 67; refine (HS.out _ hB0).mono ?_; rintro e w2 ⟨rfl, hb2⟩; have hbx := bel2 hB0 hb2; have y0 := cellB e0 hb2; have y1 := cellB e1 hb2; have y2 := cellB e2 hb2; have y3 := cellB e3 hb2; have z0 := cellB r0 hb2; have z1 := cellB r1 hb2))
            have v0 := fun x : BW w2 => BW.cell y0 x; have v1 := fun x : BW w2 => BW.cell y1 x; have v2 := fun x : BW w2 => BW.cell y2 x; have v3 := fun x : BW w2 => BW.cell y3 x; have v4 := fun x : BW w2 => BW.cell z0 x; have v5 := fun x : BW w2 => BW.cell z1 x
            refine wp_region_below (by kernel_rfl) (by kernel_rfl) ?_
            repeat (go_big_quiet_step ((go_at_call 68; exact BW.call (HP.out _))))
            refine wpQuiet_nil ?_
            rintro _ ⟨⟨w4, hb4⟩, rfl⟩
            go_wp2
            go_ret
            exact ⟨ret_b (by rw [HE.out, plain_def]; exact HNX.out.symm), bel2 hbx hb4⟩
          · go_wp2_with (first | (go_at_call 67; refine (HS.out _ hB0).mono ?_; rintro e w2 ⟨rfl, hb2⟩; have hbx := bel2 hB0 hb2; have y0 := cellB e0 hb2; have y1 := cellB e1 hb2; have y2 := cellB e2 hb2; have y3 := cellB e3 hb2; have z0 := cellB r0 hb2; have z1 := cellB r1 hb2))
            have v0 := fun x : BW w2 => BW.cell y0 x; have v1 := fun x : BW w2 => BW.cell y1 x; have v2 := fun x : BW w2 => BW.cell y2 x; have v3 := fun x : BW w2 => BW.cell y3 x; have v4 := fun x : BW w2 => BW.cell z0 x; have v5 := fun x : BW w2 => BW.cell z1 x
            refine wp_region_below (by kernel_rfl) (by kernel_rfl) ?_
            repeat (go_big_quiet_step ((go_at_call 68; exact BW.call (HP.out _))))
            refine wpQuiet_nil ?_
            rintro _ ⟨⟨w4, hb4⟩, rfl⟩
            go_wp2
            go_ret
            exact ⟨ret_b (by rw [HE.out, plain_def]; exact HNX.out.symm), bel2 hbx hb4⟩
    · obtain rfl : k = n := by omega
      have HA := Lib.hid (all_end hd.out HL.out)
      go_wp2
      go_ret
      exact ⟨ret_b (by rw [HE.out, plain_def]; exact HA.out.symm), hB0⟩
end
end Go.Proofs.Ytpgifgdoikhpbaa
