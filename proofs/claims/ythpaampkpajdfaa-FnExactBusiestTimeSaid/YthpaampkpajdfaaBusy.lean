/- The busiest time of a drum and a register. No condition. -/
import Derived.Test.YthpaampkpajdfaaSteps
import Derived.Test.YthpaampkpajdfaaValidD
import Derived.BigQuiet
namespace Go.Proofs.Ythpaampkpajdfaa
open Go.RowKit
attribute [local irreducible] wpQuiet

theorem okD_F {K B T F : Int} (h : okD K B T F = true) : (K = 3 → F = 0) ∧ (¬ K = 3 → 1 ≤ F ∧ F ≤ T - B + 2) := by
  simp only [okD, Bool.and_eq_true] at h
  have h4 := h.2
  split at h4
  · rename_i h3
    simp at h4
    exact ⟨fun _ => h4, fun h => absurd h3 h⟩
  · rename_i h3
    rw [betw_iff] at h4
    exact ⟨fun h => absurd h h3, fun _ => h4⟩
theorem time_rng {K B T F d t : Int} (hok : okD K B T F = true) (hd : 0 ≤ d ∧ d ≤ B - 1) (ht : 0 ≤ t ∧ t < d) : 1 ≤ timeD K B T F d t ∧ timeD K B T F d t ≤ T := by
  obtain ⟨⟨k1, k2⟩, ⟨b1, b2⟩, ⟨u1, u2⟩, _⟩ := okD_parts hok
  obtain ⟨f1, f2⟩ := okD_F hok
  by_cases h1 : K = 1
  · subst h1
    have := f2 (by omega)
    rw [timeD_1]; omega
  · by_cases h2 : K = 2
    · subst h2
      have := f2 (by omega)
      rw [timeD_2]; omega
    · obtain rfl : K = 3 := by omega
      rw [timeD_3]
      have e0 : T ≤ (t + 1) * T := by
        have := Int.mul_le_mul_of_nonneg_right (show 1 ≤ t + 1 by omega) (show 0 ≤ T by omega)
        omega
      have e1 : (t + 1) * T ≤ d * T := Int.mul_le_mul_of_nonneg_right (by omega) (by omega)
      constructor
      · rw [Int.le_ediv_iff_mul_le (by omega)]; omega
      · rw [Int.ediv_le_iff_le_mul (by omega), Int.mul_comm T d]; omega
def bump (c : List Int) (t : Int) : List Int := c.set t.toNat (c.getD t.toNat 0 + 1)
theorem bump_length (c : List Int) (t : Int) : (bump c t).length = c.length := by simp [bump]
def stepC (K B T F : Int) (c : List Int) (d : Int) : List Int := (timesD K B T F d.toNat).foldl bump c
def cntL (K B T F : Int) (xs : List Int) : List Int := xs.foldl (stepC K B T F) (List.replicate (T + 1).toNat 0)
theorem fold_length : ∀ (ts : List Int) (c : List Int), (ts.foldl bump c).length = c.length
  | [], _ => rfl
  | t :: ts, c => by rw [List.foldl_cons, fold_length ts, bump_length]
theorem cnt_length (K B T F : Int) : ∀ (xs : List Int) (c : List Int), (xs.foldl (stepC K B T F) c).length = c.length
  | [], _ => rfl
  | x :: xs, c => by rw [List.foldl_cons, cnt_length K B T F xs]; exact fold_length _ _
def smallC (c : List Int) (m : Nat) : Prop := ∀ x ∈ c, 0 ≤ x ∧ x ≤ (m : Int)
theorem bump_bd {c : List Int} {t : Int} {m : Nat} (h : smallC c m) : smallC (bump c t) (m + 1) := by
  intro x hx
  rcases List.mem_or_eq_of_mem_set hx with h1 | h1
  · have := h x h1
    omega
  · have : 0 ≤ c.getD t.toNat 0 ∧ c.getD t.toNat 0 ≤ (m : Int) := by
      rw [List.getD_eq_getElem?_getD]
      cases hg : c[t.toNat]? with
      | none => simp
      | some y => exact h y (List.mem_of_getElem? hg)
    omega
theorem fold_bd : ∀ {ts : List Int} {c : List Int} {m : Nat}, smallC c m → smallC (ts.foldl bump c) (m + ts.length)
  | [], _, _, h => h
  | t :: ts, c, m, h => by
    have := fold_bd (ts := ts) (bump_bd (t := t) h)
    rw [List.foldl_cons, List.length_cons]
    rwa [show m + (ts.length + 1) = m + 1 + ts.length by omega]
theorem cnt_bd {K B T F : Int} (hB : B ≤ 16) : ∀ {xs : List Int} {c : List Int} {m : Nat}, smallC c m → (∀ x ∈ xs, 0 ≤ x ∧ x ≤ B - 1) → smallC (xs.foldl (stepC K B T F) c) (m + 16 * xs.length)
  | [], _, _, h, _ => h
  | x :: xs, c, m, h, hx => by
    have h1 := fold_bd (ts := timesD K B T F x.toNat) h
    rw [times_length] at h1
    have h2 := hx x (List.mem_cons_self ..)
    have h3 : smallC (stepC K B T F c x) (m + 16) := fun y hy => by have := h1 y hy; omega
    have h4 := cnt_bd (K := K) (T := T) (F := F) hB (m := m + 16) h3 (fun y hy => hx y (List.mem_cons_of_mem _ hy))
    rw [List.foldl_cons, List.length_cons]
    rwa [show m + 16 * (xs.length + 1) = m + 16 + 16 * xs.length by omega]
def bstQ (c : List Int) : Nat → Nat
  | 0 => 0
  | k + 1 => if c.getD (bstQ c k) 0 < c.getD (k + 1) 0 then k + 1 else bstQ c k
theorem bst_le (c : List Int) : ∀ k, bstQ c k ≤ k
  | 0 => Nat.le_refl _
  | k + 1 => by
    have := bst_le c k
    rw [bstQ]
    split <;> omega
def buOk (K B T F b : Int) (xs : List Int) : Bool := okD K B T F && okR b xs && decide (b = B)
def buT (K B T F b : Int) (xs : List Int) : Int := if buOk K B T F b xs then (bstQ (cntL K B T F xs) T.toNat : Int) else 0
def buN (K B T F b : Int) (xs : List Int) : Int := if buOk K B T F b xs then (cntL K B T F xs).getD (bstQ (cntL K B T F xs) T.toNat) 0 else 0
def buC (K B T F b : Int) (xs : List Int) : Int := if okD K B T F && okR b xs then (if b = B then 0 else 6) else 1
theorem bu_bad {K B T F b : Int} {xs : List Int} (h : (okD K B T F && okR b xs) = false) : buT K B T F b xs = 0 ∧ buN K B T F b xs = 0 ∧ buC K B T F b xs = 1 := by simp [buT, buN, buC, buOk, h]
theorem bu_st {K B T F b : Int} {xs : List Int} (h : okD K B T F = true) (h' : okR b xs = true) (hb : ¬ b = B) : buT K B T F b xs = 0 ∧ buN K B T F b xs = 0 ∧ buC K B T F b xs = 6 := by simp [buT, buN, buC, buOk, h, h', hb]
theorem bu_ok {K T F b : Int} {xs : List Int} (h : okD K b T F = true) (h' : okR b xs = true) : buT K b T F b xs = (bstQ (cntL K b T F xs) T.toNat : Int) ∧ buN K b T F b xs = (cntL K b T F xs).getD (bstQ (cntL K b T F xs) T.toNat) 0 ∧ buC K b T F b xs = 0 := by simp [buT, buN, buC, buOk, h, h']
theorem fold_take {c : List Int} {ts : List Int} {k : Nat} {t : Int} (h : ts[k]? = some t) : (ts.take (k + 1)).foldl bump c = bump ((ts.take k).foldl bump c) t := by
  rw [List.take_add_one, h]
  simp [List.foldl_append]
theorem cnt_take {K B T F : Int} {c : List Int} {xs : List Int} {k : Nat} {d : Int} (h : xs[k]? = some d) : (xs.take (k + 1)).foldl (stepC K B T F) c = stepC K B T F ((xs.take k).foldl (stepC K B T F) c) d := by
  rw [List.take_add_one, h]
  simp [List.foldl_append]
theorem bump_cells {c : List Int} {t : Nat} : ((c.map (Value.int .i64)).set t (.int .i64 (c.getD t 0 + 1))) = (bump c (t : Int)).map (Value.int .i64) := by
  unfold bump
  rw [Int.toNat_natCast, List.map_set]
theorem getD_at {c : List Int} {t N : Nat} (hl : c.length = N) (ht : t < N) : (c.map (Value.int .i64))[t]? = some (.int .i64 (c.getD t 0)) := by
  rw [List.getElem?_map, List.getElem?_eq_getElem (by omega), List.getD_eq_getElem?_getD, List.getElem?_eq_getElem (by omega)]
  rfl
theorem small_at {c : List Int} {m t : Nat} (h : smallC c m) : 0 ≤ c.getD t 0 ∧ c.getD t 0 ≤ (m : Int) := by
  rw [List.getD_eq_getElem?_getD]
  cases hg : c[t]? with
  | none => simp
  | some y => exact h y (List.mem_of_getElem? hg)
theorem bst_yes {c : List Int} {k : Nat} (h : c.getD (bstQ c k) 0 < c.getD (k + 1) 0) : bstQ c (k + 1) = k + 1 := by rw [bstQ, if_pos h]
theorem bst_no {c : List Int} {k : Nat} (h : ¬ c.getD (bstQ c k) 0 < c.getD (k + 1) 0) : bstQ c (k + 1) = bstQ c k := by rw [bstQ, if_neg h]
theorem rep_made (N : Nat) : (madeCells #[Value.int .i64 0] N).toList = (List.replicate N (0 : Int)).map (Value.int .i64) := by
  rw [toList_madeCells_one, List.map_replicate]
theorem blk_at2 {w : World} {t : TypeId} {cs : Array Value} {g : Nat} (hg : g = w.heap.size) : Blk (w.alloc (.cells cs t)) g t cs := by subst hg; exact Blk.new _ _ _
theorem small_rep (N : Nat) : smallC (List.replicate N 0) 0 := by
  intro x hx
  have := (List.mem_replicate.1 hx).2
  omega

set_option maxRecDepth 100000 in
set_option maxHeartbeats 3200000 in
theorem sBusiest {K B T F b : Int} {A : Option Addr} {n c : Nat} {xs : List Int} (w : World) (h : Reads w w.heap.size 1 A n (xs.map (Value.int .i64))) (hl : xs.length = n) (hm : n ≤ maxLen) :
    Calls Try.prog 31 #[.agg #[.int .i64 K, .int .i64 B, .int .i64 T, .int .i64 F], .agg #[.int .i64 b, .slice A n c]] w fun e w' => e = .returned (.tuple #[.int .i64 (buT K B T F b xs), .int .i64 (buN K B T F b xs), .int .i64 (buC K B T F b xs)]) ∧ Below w.heap.size w w' := by
  have HL := Lib.hid hl; clear hl
  cases hk : okD K B T F
  · have HE := Lib.hid (bu_bad (b := b) (xs := xs) (show (okD K B T F && okR b xs) = false by rw [hk]; rfl))
    go_enter Try.func31, Try.ntmps31
    go_wp2_with fail
    refine absW ?_
    intro w0 hw
    have hb0 : Below w.heap.size w w0 := by rw [hw]; exact (by repeat' (first | assumption | exact Below.refl _ _ | refine Below.drew ?_ | refine belN ?_ _ | refine Below.alloc ?_ (by first | omega | (simp; done) | (simp; omega)) _ | refine Below.setCell ?_ (by first | omega | (simp; done) | (simp; omega)) _))
    have hD : Blk w0 w.heap.size 27 #[.int .i64 K, .int .i64 B, .int .i64 T, .int .i64 F] := by rw [hw]; exact (Blk.new _ _ _).alloc _
    have hR : Blk w0 (w.heap.size + 1) 45 #[.int .i64 b, .slice A n c] := by rw [hw]; exact blk_at2 (by simp)
    clear hw
    have c0 := hD.cell 0; have c1 := hD.cell 1; have c2 := hD.cell 2; have c3 := hD.cell 3; have r0 := hR.cell 0; have r1 := hR.cell 1
    simp at c0 c1 c2 c3 r0 r1
    refine (sOkD _ c0 c1 c2 c3).mono ?_
    rintro e w1 ⟨rfl, kk, hw1⟩
    have hb := RetQ.bel (w := w0) kk
    rw [← hw1] at hb
    clear hw1
    clear c0 c1 c2 c3 r0 r1
    replace hD := hD.bel hb; replace hR := hR.bel hb; replace hb0 := bel2 hb0 hb
    clear hb
    have c0 := hD.cell 0; have c1 := hD.cell 1; have c2 := hD.cell 2; have c3 := hD.cell 3; have r0 := hR.cell 0; have r1 := hR.cell 1
    simp at c0 c1 c2 c3 r0 r1
    rw [hk]
    go_wp2
    go_ret3
    obtain ⟨e1, e2, e3⟩ := HE.out
    rw [e1, e2, e3]
    exact ⟨rfl, hb0⟩
  cases hr : okR b xs
  · have HE := Lib.hid (bu_bad (K := K) (B := B) (T := T) (F := F) (show (okD K B T F && okR b xs) = false by rw [hr, Bool.and_false]))
    go_enter Try.func31, Try.ntmps31
    go_wp2_with fail
    refine absW ?_
    intro w0 hw
    have hb0 : Below w.heap.size w w0 := by rw [hw]; exact (by repeat' (first | assumption | exact Below.refl _ _ | refine Below.drew ?_ | refine belN ?_ _ | refine Below.alloc ?_ (by first | omega | (simp; done) | (simp; omega)) _ | refine Below.setCell ?_ (by first | omega | (simp; done) | (simp; omega)) _))
    have hD : Blk w0 w.heap.size 27 #[.int .i64 K, .int .i64 B, .int .i64 T, .int .i64 F] := by rw [hw]; exact (Blk.new _ _ _).alloc _
    have hR : Blk w0 (w.heap.size + 1) 45 #[.int .i64 b, .slice A n c] := by rw [hw]; exact blk_at2 (by simp)
    clear hw
    have c0 := hD.cell 0; have c1 := hD.cell 1; have c2 := hD.cell 2; have c3 := hD.cell 3; have r0 := hR.cell 0; have r1 := hR.cell 1
    simp at c0 c1 c2 c3 r0 r1
    refine (sOkD _ c0 c1 c2 c3).mono ?_
    rintro e w1 ⟨rfl, kk, hw1⟩
    have hb := RetQ.bel (w := w0) kk
    rw [← hw1] at hb
    clear hw1
    clear c0 c1 c2 c3 r0 r1
    replace hD := hD.bel hb; replace hR := hR.bel hb; replace hb0 := bel2 hb0 hb
    clear hb
    have c0 := hD.cell 0; have c1 := hD.cell 1; have c2 := hD.cell 2; have c3 := hD.cell 3; have r0 := hR.cell 0; have r1 := hR.cell 1
    simp at c0 c1 c2 c3 r0 r1
    rw [hk]
    go_wp2_with fail
    refine (sOkR _ (rdB h hb0) HL.out hm r0 r1).mono ?_
    rintro e w2 ⟨rfl, kk, hw1⟩
    have hb := RetQ.bel (w := w1) kk
    rw [← hw1] at hb
    clear hw1
    clear c0 c1 c2 c3 r0 r1
    replace hD := hD.bel hb; replace hR := hR.bel hb; replace hb0 := bel2 hb0 hb
    clear hb
    have c0 := hD.cell 0; have c1 := hD.cell 1; have c2 := hD.cell 2; have c3 := hD.cell 3; have r0 := hR.cell 0; have r1 := hR.cell 1
    simp at c0 c1 c2 c3 r0 r1
    rw [hr]
    go_wp2
    go_ret3
    obtain ⟨e1, e2, e3⟩ := HE.out
    rw [e1, e2, e3]
    exact ⟨rfl, hb0⟩
  by_cases hbB : b = B
  rotate_left
  · have HE := Lib.hid (bu_st hk hr hbB)
    have ne1 : (B != b) = true := by simp; omega
    have ne2 : (b != B) = true := by simp; omega
    go_enter Try.func31, Try.ntmps31
    go_wp2_with fail
    refine absW ?_
    intro w0 hw
    have hb0 : Below w.heap.size w w0 := by rw [hw]; exact (by repeat' (first | assumption | exact Below.refl _ _ | refine Below.drew ?_ | refine belN ?_ _ | refine Below.alloc ?_ (by first | omega | (simp; done) | (simp; omega)) _ | refine Below.setCell ?_ (by first | omega | (simp; done) | (simp; omega)) _))
    have hD : Blk w0 w.heap.size 27 #[.int .i64 K, .int .i64 B, .int .i64 T, .int .i64 F] := by rw [hw]; exact (Blk.new _ _ _).alloc _
    have hR : Blk w0 (w.heap.size + 1) 45 #[.int .i64 b, .slice A n c] := by rw [hw]; exact blk_at2 (by simp)
    clear hw
    have c0 := hD.cell 0; have c1 := hD.cell 1; have c2 := hD.cell 2; have c3 := hD.cell 3; have r0 := hR.cell 0; have r1 := hR.cell 1
    simp at c0 c1 c2 c3 r0 r1
    refine (sOkD _ c0 c1 c2 c3).mono ?_
    rintro e w1 ⟨rfl, kk, hw1⟩
    have hb := RetQ.bel (w := w0) kk
    rw [← hw1] at hb
    clear hw1
    clear c0 c1 c2 c3 r0 r1
    replace hD := hD.bel hb; replace hR := hR.bel hb; replace hb0 := bel2 hb0 hb
    clear hb
    have c0 := hD.cell 0; have c1 := hD.cell 1; have c2 := hD.cell 2; have c3 := hD.cell 3; have r0 := hR.cell 0; have r1 := hR.cell 1
    simp at c0 c1 c2 c3 r0 r1
    rw [hk]
    go_wp2_with fail
    refine (sOkR _ (rdB h hb0) HL.out hm r0 r1).mono ?_
    rintro e w2 ⟨rfl, kk, hw1⟩
    have hb := RetQ.bel (w := w1) kk
    rw [← hw1] at hb
    clear hw1
    clear c0 c1 c2 c3 r0 r1
    replace hD := hD.bel hb; replace hR := hR.bel hb; replace hb0 := bel2 hb0 hb
    clear hb
    have c0 := hD.cell 0; have c1 := hD.cell 1; have c2 := hD.cell 2; have c3 := hD.cell 3; have r0 := hR.cell 0; have r1 := hR.cell 1
    simp at c0 c1 c2 c3 r0 r1
    rw [hr]
    go_wp2
    go_ret3
    obtain ⟨e1, e2, e3⟩ := HE.out
    rw [e1, e2, e3]
    exact ⟨rfl, hb0⟩
  subst hbB
  obtain ⟨⟨k1, k2⟩, ⟨b1, b2⟩, ⟨v3, v4⟩, g1, g2⟩ := okD_parts hk
  obtain ⟨_, ⟨n1, n2⟩, hdg, _⟩ := okR_parts hr
  rw [HL.out] at n1 n2
  have HE := Lib.hid (bu_ok hk hr)
  have HK := Lib.hid hk
  have HDG := Lib.hid hdg; clear hdg
  obtain ⟨N, hN⟩ : ∃ N : Nat, T + 1 = (N : Int) := ⟨(T + 1).toNat, by omega⟩
  have HNN : Hid ((T + 1).toNat = N) := by unfold Hid; omega
  obtain ⟨i0, hi, hz0, hz1, hz2⟩ := info_parts infoI
  have hmk := fun W => run_make_rowN (P := Try.prog) 24 2 i0 (.int .i64 0) Try.underlying24 hi hz0 .i64 .i64 N N (Nat.le_refl _) (by rw [hz2]; omega) (by omega) W
  simp only [hz1, ← hN] at hmk
  clear hz0 hz1 hz2 hi
  have HN := Lib.hid hN
  have hN61 : N ≤ 61 := by omega
  have eqb : (b != b) = false := by simp
  go_enter Try.func31, Try.ntmps31
  go_wp2_with fail
  refine absW ?_
  intro w0 hw
  have hb0 : Below w.heap.size w w0 := by rw [hw]; exact (by repeat' (first | assumption | exact Below.refl _ _ | refine Below.drew ?_ | refine belN ?_ _ | refine Below.alloc ?_ (by first | omega | (simp; done) | (simp; omega)) _ | refine Below.setCell ?_ (by first | omega | (simp; done) | (simp; omega)) _))
  have hD : Blk w0 w.heap.size 27 #[.int .i64 K, .int .i64 b, .int .i64 T, .int .i64 F] := by rw [hw]; exact (Blk.new _ _ _).alloc _
  have hR : Blk w0 (w.heap.size + 1) 45 #[.int .i64 b, .slice A n c] := by rw [hw]; exact blk_at2 (by simp)
  clear hw
  have c0 := hD.cell 0; have c1 := hD.cell 1; have c2 := hD.cell 2; have c3 := hD.cell 3; have r0 := hR.cell 0; have r1 := hR.cell 1
  simp at c0 c1 c2 c3 r0 r1
  refine (sOkD _ c0 c1 c2 c3).mono ?_
  rintro e w1 ⟨rfl, kk, hw1⟩
  have hb := RetQ.bel (w := w0) kk
  rw [← hw1] at hb
  clear hw1
  clear c0 c1 c2 c3 r0 r1
  replace hD := hD.bel hb; replace hR := hR.bel hb; replace hb0 := bel2 hb0 hb
  clear hb
  have c0 := hD.cell 0; have c1 := hD.cell 1; have c2 := hD.cell 2; have c3 := hD.cell 3; have r0 := hR.cell 0; have r1 := hR.cell 1
  simp at c0 c1 c2 c3 r0 r1
  rw [hk]
  go_wp2_with fail
  refine (sOkR _ (rdB h hb0) HL.out hm r0 r1).mono ?_
  rintro e w2 ⟨rfl, kk, hw1⟩
  have hb := RetQ.bel (w := w1) kk
  rw [← hw1] at hb
  clear hw1
  clear c0 c1 c2 c3 r0 r1
  replace hD := hD.bel hb; replace hR := hR.bel hb; replace hb0 := bel2 hb0 hb
  clear hb
  have c0 := hD.cell 0; have c1 := hD.cell 1; have c2 := hD.cell 2; have c3 := hD.cell 3; have r0 := hR.cell 0; have r1 := hR.cell 1
  simp at c0 c1 c2 c3 r0 r1
  rw [hr]
  clear hN
  have xr1 := fun X : Obj => cellA r1 X
  go_wp2
  clear hmk c0 c1 c2 c3 r0 r1 xr1
  have hlt2 := hR.lt
  have HO0 : Hid (Own (w2.alloc (.cells (madeCells #[Value.int .i64 0] N) 2)) w2.heap.size (w2.heap.size + 1) 2 1 (.slice (some ⟨w2.heap.size, 0, none⟩) N N) N ((List.replicate N (0 : Int)).map (Value.int .i64))) := by
    unfold Hid
    have := (Blk.new w2 2 (madeCells #[Value.int .i64 0] N)).own (n := N) (size := 1) (by unfold maxLen; omega) (by rw [size_madeCells, Nat.mul_one])
    rwa [rep_made] at this
  have hDn := hD.alloc (.cells (madeCells #[Value.int .i64 0] N) 2)
  have hRn := hR.alloc (.cells (madeCells #[Value.int .i64 0] N) 2)
  have hbn := hb0.alloc hb0.size (.cells (madeCells #[Value.int .i64 0] N) 2)
  have hT60 := v4
  go_loopw [8] (fun i wr => ∃ k : Nat, k ≤ n ∧ i = .int .i64 k ∧ Blk wr w.heap.size 27 #[.int .i64 K, .int .i64 b, .int .i64 T, .int .i64 F] ∧ Blk wr (w.heap.size + 1) 45 #[.int .i64 b, .slice A n c] ∧ Own wr w2.heap.size (w2.heap.size + 1) 2 1 (.slice (some ⟨w2.heap.size, 0, none⟩) N N) N (((xs.take k).foldl (stepC K b T F) (List.replicate N 0)).map (Value.int .i64)) ∧ Below w.heap.size w wr ∧ w2.heap.size + 1 ≤ wr.heap.size) (fun i _ => n - (intOf i).toNat)
  case atStart => exact ⟨0, Nat.zero_le _, rfl, hDn, hRn, HO0.out, hbn, by simp⟩
  case round =>
    clear hD hR hb0 HO0 hDn hRn hbn
    obtain ⟨k, hkn, rfl, hD, hR, ho, hB, hsz⟩ := hrel
    have c0 := hD.cell 0; have c1 := hD.cell 1; have c2 := hD.cell 2; have c3 := hD.cell 3; have r0 := hR.cell 0; have r1 := hR.cell 1
    simp at c0 c1 c2 c3 r0 r1
    by_cases hlt : k < n
    · obtain ⟨ad, x, rfl, _, hx, hcx⟩ := (rdB h hB).int_at hlt
      obtain ⟨x0, x1⟩ := dig_at HDG.out hx
      obtain ⟨d, rfl⟩ := Int.eq_ofNat_of_zero_le x0
      have HCT := Lib.hid (cnt_take (K := K) (B := b) (T := T) (F := F) (c := List.replicate N 0) hx)
      have HSM : Hid (smallC ((xs.take k).foldl (stepC K b T F) (List.replicate N 0)) (16 * k)) := by
        have := cnt_bd (K := K) (T := T) (F := F) (B := b) b2 (xs := xs.take k) (small_rep N) (fun y hy => by
          obtain ⟨i, hi, he⟩ := List.getElem_of_mem (List.mem_of_mem_take hy)
          exact dig_at HDG.out (by rw [← he]; exact List.getElem?_eq_getElem hi))
        rw [List.length_take, HL.out, Nat.zero_add, Nat.min_eq_left (by omega)] at this
        exact this
      have HLN : Hid (((xs.take k).foldl (stepC K b T F) (List.replicate N 0)).length = N) := by unfold Hid; rw [cnt_length, List.length_replicate]
      clear hx
      go_wp2_with fail
      refine (sTimes _ hD HK.out x1).mono ?_
      rintro e w3 ⟨v, rfl, ht, hb3⟩
      obtain ⟨A3, c3', rfl, _, hcm⟩ := ht.form
      obtain ⟨ws, hws⟩ : ∃ ws, wr.heap.size = ws := ⟨_, rfl⟩
      rw [hws] at ht hsz
      replace ho := ho.bel hb3
      replace hB := bel2 hB hb3; replace hD := hD.bel hb3; replace hR := hR.bel hb3
      have hz3 : ws ≤ w3.heap.size := by rw [← hws]; exact hb3.size
      clear hb3 c0 c1 c2 c3 r0 r1 hcx hws
      go_wp2
      go_loopw [10] (fun i wr => ∃ j : Nat, j ≤ d ∧ i = .int .i64 j ∧ Blk wr w.heap.size 27 #[.int .i64 K, .int .i64 b, .int .i64 T, .int .i64 F] ∧ Blk wr (w.heap.size + 1) 45 #[.int .i64 b, .slice (some ad) n c] ∧ Own wr w2.heap.size (w2.heap.size + 1) 2 1 (.slice (some ⟨w2.heap.size, 0, none⟩) N N) N ((((timesD K b T F d).take j).foldl bump ((xs.take k).foldl (stepC K b T F) (List.replicate N 0))).map (Value.int .i64)) ∧ Own wr ws w3.heap.size 2 1 (.slice A3 d c3') d ((timesD K b T F d).map (Value.int .i64)) ∧ Below w.heap.size w wr ∧ ws ≤ wr.heap.size) (fun i _ => d - (intOf i).toNat)
      case atStart => exact ⟨0, Nat.zero_le _, rfl, hD, hR, ho, ht, hB, hz3⟩
      case round =>
        clear hD hR ho ht hB
        obtain ⟨j, hj, rfl, hD, hR, ho, ht, hB, hz4⟩ := hrel
        by_cases hjd : j < d
        · obtain ⟨ad3, y, rfl, _, hy, hcy⟩ := ht.reads.int_at hjd
          have hy2 := times_at hjd hy
          obtain ⟨y0, y1⟩ := time_rng (t := (j : Int)) HK.out ⟨x0, x1⟩ ⟨by omega, by omega⟩
          rw [← hy2] at y0 y1
          have HFT := Lib.hid (fold_take (c := (xs.take k).foldl (stepC K b T F) (List.replicate N 0)) hy)
          clear hy hy2
          obtain ⟨t, rfl⟩ := Int.eq_ofNat_of_zero_le (show 0 ≤ y by omega)
          have htN : t < N := by have := HN.out; omega
          have HL2 : Hid ((((timesD K b T F d).take j).foldl bump ((xs.take k).foldl (stepC K b T F) (List.replicate N 0))).length = N) := by unfold Hid; rw [fold_length]; exact HLN.out
          have hs1 : smallC (((timesD K b T F d).take j).foldl bump ((xs.take k).foldl (stepC K b T F) (List.replicate N 0))) (16 * k + j) := by
            have := fold_bd (ts := (timesD K b T F d).take j) HSM.out
            rwa [List.length_take, times_length, Nat.min_eq_left (by omega)] at this
          obtain ⟨s0, s1⟩ := small_at (t := t) hs1
          have hcell := (ho.row.cellAt t (by omega)).trans (getD_at HL2.out htN)
          have hfz := ho.row.frozenAt t
          have HST := ho.stored t (.int .i64 ((((timesD K b T F d).take j).foldl bump ((xs.take k).foldl (stepC K b T F) (List.replicate N 0))).getD t 0 + 1))
          rw [bump_cells, ← HFT.out] at HST
          have HSTH := Lib.hid HST
          clear HST hs1
          generalize (((timesD K b T F d).take j).foldl bump ((xs.take k).foldl (stepC K b T F) (List.replicate N 0))).getD t 0 = v at *
          have t0 : (0 : Int) ≤ (t : Int) := Int.natCast_nonneg _
          have t1 : (t : Int) < (N : Int) := by omega
          go_wp2
          go_roundw
          case rel => exact ⟨j + 1, by omega, by go_num, hD.far (by simp; omega) _, hR.far (by simp; omega) _, HSTH.out, ht.setLow (.inl (by simp; omega)) _, hB.setCell (by simp; omega) _, by simp; omega⟩
          case measure => simp [intOf]; omega
        · obtain rfl : j = d := by omega
          have HO2 : Hid (Own wr w2.heap.size (w2.heap.size + 1) 2 1 (.slice (some ⟨w2.heap.size, 0, none⟩) N N) N (((xs.take (k + 1)).foldl (stepC K b T F) (List.replicate N 0)).map (Value.int .i64))) := by
            unfold Hid
            rw [show (timesD K b T F j).take j = timesD K b T F j from List.take_of_length_le (by rw [times_length]; exact Nat.le_refl _)] at ho
            rw [HCT.out, stepC, Int.toNat_natCast]
            exact ho
          clear ho
          go_wp2
          go_roundw
          case rel => exact ⟨k + 1, by omega, by go_num, hD, hR, HO2.out, hB, by omega⟩
          case measure => simp [intOf]; omega
    · obtain rfl : k = n := by omega
      rw [List.take_of_length_le (by rw [HL.out]; exact Nat.le_refl _)] at ho
      have HC : Hid (xs.foldl (stepC K b T F) (List.replicate N 0) = cntL K b T F xs) := by unfold Hid cntL; rw [HNN.out]
      rw [HC.out] at ho
      have HLC : Hid ((cntL K b T F xs).length = N) := by unfold Hid cntL; rw [cnt_length, List.length_replicate]; exact HNN.out
      clear h HC
      go_wp2
      clear c0 c1 c2 c3 r0 r1
      go_loopw [11, 12] (fun be t wr => ∃ k : Nat, k + 1 ≤ N ∧ t = .int .i64 ((k + 1 : Nat) : Int) ∧ be = .int .i64 ((bstQ (cntL K b T F xs) k : Nat) : Int) ∧ Blk wr w.heap.size 27 #[.int .i64 K, .int .i64 b, .int .i64 T, .int .i64 F] ∧ Own wr w2.heap.size (w2.heap.size + 1) 2 1 (.slice (some ⟨w2.heap.size, 0, none⟩) N N) N ((cntL K b T F xs).map (Value.int .i64)) ∧ Below w.heap.size w wr) (fun _ t _ => N + 1 - (intOf t).toNat)
      case atStart => exact ⟨0, by have := HN.out; omega, rfl, rfl, hD, ho, hB⟩
      case round =>
        clear hD hR ho hB
        obtain ⟨k, hk1, rfl, rfl, hD, ho, hB⟩ := hrel
        have hN1 := HN.out
        have c2 := hD.cell 2
        simp at c2
        have hbl := bst_le (cntL K b T F xs) k
        have i0 : (0 : Int) ≤ (k : Int) + 1 := by omega
        have i2 : (0 : Int) ≤ ((bstQ (cntL K b T F xs) k : Nat) : Int) := Int.natCast_nonneg _
        have i3 : ((bstQ (cntL K b T F xs) k : Nat) : Int) < (N : Int) := by omega
        have q2 := (ho.row.cellAt (bstQ (cntL K b T F xs) k) (by omega)).trans (getD_at HLC.out (show bstQ (cntL K b T F xs) k < N by omega))
        by_cases hlt : k + 1 < N
        · have i1 : (k : Int) + 1 < (N : Int) := by omega
          have i4 : (k : Int) + 1 ≤ T := by omega
          have q1 := (ho.row.cellAt (k + 1) (by omega)).trans (getD_at HLC.out hlt)
          by_cases hgt : (cntL K b T F xs).getD (bstQ (cntL K b T F xs) k) 0 < (cntL K b T F xs).getD (k + 1) 0
          · have HBS := Lib.hid (bst_yes hgt)
            clear hN1
            generalize (cntL K b T F xs).getD (bstQ (cntL K b T F xs) k) 0 = vb at hgt q2
            generalize (cntL K b T F xs).getD (k + 1) 0 = vt at hgt q1
            go_wp2_with fail
            go_quiet (fail)
            go_wp2
            go_roundw
            case rel => exact ⟨k + 1, by omega, by go_num, by rw [HBS.out], hD.bel (RetQ.bel _), ho.bel (RetQ.bel _), bel2 hB (RetQ.bel _)⟩
            case measure => simp [intOf] <;> omega
          · have HBS := Lib.hid (bst_no hgt)
            clear hN1
            generalize (cntL K b T F xs).getD (bstQ (cntL K b T F xs) k) 0 = vb at hgt q2
            generalize (cntL K b T F xs).getD (k + 1) 0 = vt at hgt q1
            go_wp2_with fail
            go_quiet (fail)
            go_wp2
            go_roundw
            case rel => exact ⟨k + 1, by omega, by go_num, by rw [HBS.out], hD.bel (RetQ.bel _), ho.bel (RetQ.bel _), bel2 hB (RetQ.bel _)⟩
            case measure => simp [intOf] <;> omega
        · have i4 : ¬ ((k : Int) + 1 ≤ T) := by omega
          have HT : Hid (T.toNat = k) := by unfold Hid; omega
          clear hN1
          go_wp2_with fail
          go_quiet (fail)
          go_wp2
          go_ret3
          obtain ⟨e1, e2, e3⟩ := HE.out
          rw [e1, e2, e3, HT.out]
          exact ⟨rfl, bel2 hB (RetQ.bel _)⟩

set_option maxRecDepth 100000 in
set_option maxHeartbeats 3200000 in
theorem iBusiest {K B T F b : Int} {A : Option Addr} {n c : Nat} {xs : List Int} (w : World) (h : Reads w w.heap.size 1 A n (xs.map (Value.int .i64))) (hl : xs.length = n) (hm : n ≤ maxLen) :
    Calls Try.prog 33 #[.agg #[.int .i64 K, .int .i64 B, .int .i64 T, .int .i64 F], .agg #[.int .i64 b, .slice A n c]] w fun e w' => e = .returned (.tuple #[.int .i64 (buT K B T F b xs), .int .i64 (buN K B T F b xs), .int .i64 (buC K B T F b xs)]) ∧ Below w.heap.size w w' := by
  have HL := Lib.hid hl; clear hl
  cases hk : okD K B T F
  · have HE := Lib.hid (bu_bad (b := b) (xs := xs) (show (okD K B T F && okR b xs) = false by rw [hk]; rfl))
    go_enter Try.func33, Try.ntmps33
    go_wp2_with fail
    refine absW ?_
    intro w0 hw
    have hb0 : Below w.heap.size w w0 := by rw [hw]; exact (by repeat' (first | assumption | exact Below.refl _ _ | refine Below.drew ?_ | refine belN ?_ _ | refine Below.alloc ?_ (by first | omega | (simp; done) | (simp; omega)) _ | refine Below.setCell ?_ (by first | omega | (simp; done) | (simp; omega)) _))
    have hD : Blk w0 w.heap.size 27 #[.int .i64 K, .int .i64 B, .int .i64 T, .int .i64 F] := by rw [hw]; exact (Blk.new _ _ _).alloc _
    have hR : Blk w0 (w.heap.size + 1) 45 #[.int .i64 b, .slice A n c] := by rw [hw]; exact blk_at2 (by simp)
    clear hw
    have c0 := hD.cell 0; have c1 := hD.cell 1; have c2 := hD.cell 2; have c3 := hD.cell 3; have r0 := hR.cell 0; have r1 := hR.cell 1
    simp at c0 c1 c2 c3 r0 r1
    refine (iOkD _ _ _ _ _).mono ?_
    rintro e w1 ⟨rfl, hb⟩
    clear c0 c1 c2 c3 r0 r1
    replace hD := hD.bel hb; replace hR := hR.bel hb; replace hb0 := bel2 hb0 hb
    clear hb
    have c0 := hD.cell 0; have c1 := hD.cell 1; have c2 := hD.cell 2; have c3 := hD.cell 3; have r0 := hR.cell 0; have r1 := hR.cell 1
    simp at c0 c1 c2 c3 r0 r1
    rw [hk]
    go_wp2
    go_ret3
    obtain ⟨e1, e2, e3⟩ := HE.out
    rw [e1, e2, e3]
    exact ⟨rfl, hb0⟩
  cases hr : okR b xs
  · have HE := Lib.hid (bu_bad (K := K) (B := B) (T := T) (F := F) (show (okD K B T F && okR b xs) = false by rw [hr, Bool.and_false]))
    go_enter Try.func33, Try.ntmps33
    go_wp2_with fail
    refine absW ?_
    intro w0 hw
    have hb0 : Below w.heap.size w w0 := by rw [hw]; exact (by repeat' (first | assumption | exact Below.refl _ _ | refine Below.drew ?_ | refine belN ?_ _ | refine Below.alloc ?_ (by first | omega | (simp; done) | (simp; omega)) _ | refine Below.setCell ?_ (by first | omega | (simp; done) | (simp; omega)) _))
    have hD : Blk w0 w.heap.size 27 #[.int .i64 K, .int .i64 B, .int .i64 T, .int .i64 F] := by rw [hw]; exact (Blk.new _ _ _).alloc _
    have hR : Blk w0 (w.heap.size + 1) 45 #[.int .i64 b, .slice A n c] := by rw [hw]; exact blk_at2 (by simp)
    clear hw
    have c0 := hD.cell 0; have c1 := hD.cell 1; have c2 := hD.cell 2; have c3 := hD.cell 3; have r0 := hR.cell 0; have r1 := hR.cell 1
    simp at c0 c1 c2 c3 r0 r1
    refine (iOkD _ _ _ _ _).mono ?_
    rintro e w1 ⟨rfl, hb⟩
    clear c0 c1 c2 c3 r0 r1
    replace hD := hD.bel hb; replace hR := hR.bel hb; replace hb0 := bel2 hb0 hb
    clear hb
    have c0 := hD.cell 0; have c1 := hD.cell 1; have c2 := hD.cell 2; have c3 := hD.cell 3; have r0 := hR.cell 0; have r1 := hR.cell 1
    simp at c0 c1 c2 c3 r0 r1
    rw [hk]
    go_wp2_with fail
    refine (iValidReg _ (rdB h hb0) HL.out hm).mono ?_
    rintro e w2 ⟨rfl, hb⟩
    clear c0 c1 c2 c3 r0 r1
    replace hD := hD.bel hb; replace hR := hR.bel hb; replace hb0 := bel2 hb0 hb
    clear hb
    have c0 := hD.cell 0; have c1 := hD.cell 1; have c2 := hD.cell 2; have c3 := hD.cell 3; have r0 := hR.cell 0; have r1 := hR.cell 1
    simp at c0 c1 c2 c3 r0 r1
    rw [hr]
    go_wp2
    go_ret3
    obtain ⟨e1, e2, e3⟩ := HE.out
    rw [e1, e2, e3]
    exact ⟨rfl, hb0⟩
  by_cases hbB : b = B
  rotate_left
  · have HE := Lib.hid (bu_st hk hr hbB)
    have ne1 : (B != b) = true := by simp; omega
    have ne2 : (b != B) = true := by simp; omega
    go_enter Try.func33, Try.ntmps33
    go_wp2_with fail
    refine absW ?_
    intro w0 hw
    have hb0 : Below w.heap.size w w0 := by rw [hw]; exact (by repeat' (first | assumption | exact Below.refl _ _ | refine Below.drew ?_ | refine belN ?_ _ | refine Below.alloc ?_ (by first | omega | (simp; done) | (simp; omega)) _ | refine Below.setCell ?_ (by first | omega | (simp; done) | (simp; omega)) _))
    have hD : Blk w0 w.heap.size 27 #[.int .i64 K, .int .i64 B, .int .i64 T, .int .i64 F] := by rw [hw]; exact (Blk.new _ _ _).alloc _
    have hR : Blk w0 (w.heap.size + 1) 45 #[.int .i64 b, .slice A n c] := by rw [hw]; exact blk_at2 (by simp)
    clear hw
    have c0 := hD.cell 0; have c1 := hD.cell 1; have c2 := hD.cell 2; have c3 := hD.cell 3; have r0 := hR.cell 0; have r1 := hR.cell 1
    simp at c0 c1 c2 c3 r0 r1
    refine (iOkD _ _ _ _ _).mono ?_
    rintro e w1 ⟨rfl, hb⟩
    clear c0 c1 c2 c3 r0 r1
    replace hD := hD.bel hb; replace hR := hR.bel hb; replace hb0 := bel2 hb0 hb
    clear hb
    have c0 := hD.cell 0; have c1 := hD.cell 1; have c2 := hD.cell 2; have c3 := hD.cell 3; have r0 := hR.cell 0; have r1 := hR.cell 1
    simp at c0 c1 c2 c3 r0 r1
    rw [hk]
    go_wp2_with fail
    refine (iValidReg _ (rdB h hb0) HL.out hm).mono ?_
    rintro e w2 ⟨rfl, hb⟩
    clear c0 c1 c2 c3 r0 r1
    replace hD := hD.bel hb; replace hR := hR.bel hb; replace hb0 := bel2 hb0 hb
    clear hb
    have c0 := hD.cell 0; have c1 := hD.cell 1; have c2 := hD.cell 2; have c3 := hD.cell 3; have r0 := hR.cell 0; have r1 := hR.cell 1
    simp at c0 c1 c2 c3 r0 r1
    rw [hr]
    go_wp2
    go_ret3
    obtain ⟨e1, e2, e3⟩ := HE.out
    rw [e1, e2, e3]
    exact ⟨rfl, hb0⟩
  subst hbB
  obtain ⟨⟨k1, k2⟩, ⟨b1, b2⟩, ⟨v3, v4⟩, g1, g2⟩ := okD_parts hk
  obtain ⟨_, ⟨n1, n2⟩, hdg, _⟩ := okR_parts hr
  rw [HL.out] at n1 n2
  have HE := Lib.hid (bu_ok hk hr)
  have HK := Lib.hid hk
  have HDG := Lib.hid hdg; clear hdg
  obtain ⟨N, hN⟩ : ∃ N : Nat, T + 1 = (N : Int) := ⟨(T + 1).toNat, by omega⟩
  have HNN : Hid ((T + 1).toNat = N) := by unfold Hid; omega
  obtain ⟨i0, hi, hz0, hz1, hz2⟩ := info_parts infoI
  have hmk := fun W => run_make_rowN (P := Try.prog) 24 2 i0 (.int .i64 0) Try.underlying24 hi hz0 .i64 .i64 N N (Nat.le_refl _) (by rw [hz2]; omega) (by omega) W
  simp only [hz1, ← hN] at hmk
  clear hz0 hz1 hz2 hi
  have HN := Lib.hid hN
  have hN61 : N ≤ 61 := by omega
  have eqb : (b != b) = false := by simp
  go_enter Try.func33, Try.ntmps33
  go_wp2_with fail
  refine absW ?_
  intro w0 hw
  have hb0 : Below w.heap.size w w0 := by rw [hw]; exact (by repeat' (first | assumption | exact Below.refl _ _ | refine Below.drew ?_ | refine belN ?_ _ | refine Below.alloc ?_ (by first | omega | (simp; done) | (simp; omega)) _ | refine Below.setCell ?_ (by first | omega | (simp; done) | (simp; omega)) _))
  have hD : Blk w0 w.heap.size 27 #[.int .i64 K, .int .i64 b, .int .i64 T, .int .i64 F] := by rw [hw]; exact (Blk.new _ _ _).alloc _
  have hR : Blk w0 (w.heap.size + 1) 45 #[.int .i64 b, .slice A n c] := by rw [hw]; exact blk_at2 (by simp)
  clear hw
  have c0 := hD.cell 0; have c1 := hD.cell 1; have c2 := hD.cell 2; have c3 := hD.cell 3; have r0 := hR.cell 0; have r1 := hR.cell 1
  simp at c0 c1 c2 c3 r0 r1
  refine (iOkD _ _ _ _ _).mono ?_
  rintro e w1 ⟨rfl, hb⟩
  clear c0 c1 c2 c3 r0 r1
  replace hD := hD.bel hb; replace hR := hR.bel hb; replace hb0 := bel2 hb0 hb
  clear hb
  have c0 := hD.cell 0; have c1 := hD.cell 1; have c2 := hD.cell 2; have c3 := hD.cell 3; have r0 := hR.cell 0; have r1 := hR.cell 1
  simp at c0 c1 c2 c3 r0 r1
  rw [hk]
  go_wp2_with fail
  refine (iValidReg _ (rdB h hb0) HL.out hm).mono ?_
  rintro e w2 ⟨rfl, hb⟩
  clear c0 c1 c2 c3 r0 r1
  replace hD := hD.bel hb; replace hR := hR.bel hb; replace hb0 := bel2 hb0 hb
  clear hb
  have c0 := hD.cell 0; have c1 := hD.cell 1; have c2 := hD.cell 2; have c3 := hD.cell 3; have r0 := hR.cell 0; have r1 := hR.cell 1
  simp at c0 c1 c2 c3 r0 r1
  rw [hr]
  clear hN
  have xr1 := fun X : Obj => cellA r1 X
  go_wp2
  clear hmk c0 c1 c2 c3 r0 r1 xr1
  have hlt2 := hR.lt
  have HO0 : Hid (Own (w2.alloc (.cells (madeCells #[Value.int .i64 0] N) 2)) w2.heap.size (w2.heap.size + 1) 2 1 (.slice (some ⟨w2.heap.size, 0, none⟩) N N) N ((List.replicate N (0 : Int)).map (Value.int .i64))) := by
    unfold Hid
    have := (Blk.new w2 2 (madeCells #[Value.int .i64 0] N)).own (n := N) (size := 1) (by unfold maxLen; omega) (by rw [size_madeCells, Nat.mul_one])
    rwa [rep_made] at this
  have hDn := hD.alloc (.cells (madeCells #[Value.int .i64 0] N) 2)
  have hRn := hR.alloc (.cells (madeCells #[Value.int .i64 0] N) 2)
  have hbn := hb0.alloc hb0.size (.cells (madeCells #[Value.int .i64 0] N) 2)
  have hT60 := v4
  go_loopw [35] (fun i wr => ∃ k : Nat, k ≤ n ∧ i = .int .i64 k ∧ Blk wr w.heap.size 27 #[.int .i64 K, .int .i64 b, .int .i64 T, .int .i64 F] ∧ Blk wr (w.heap.size + 1) 45 #[.int .i64 b, .slice A n c] ∧ Own wr w2.heap.size (w2.heap.size + 1) 2 1 (.slice (some ⟨w2.heap.size, 0, none⟩) N N) N (((xs.take k).foldl (stepC K b T F) (List.replicate N 0)).map (Value.int .i64)) ∧ Below w.heap.size w wr ∧ w2.heap.size + 1 ≤ wr.heap.size) (fun i _ => n - (intOf i).toNat)
  case atStart => exact ⟨0, Nat.zero_le _, rfl, hDn, hRn, HO0.out, hbn, by simp⟩
  case round =>
    clear hD hR hb0 HO0 hDn hRn hbn
    obtain ⟨k, hkn, rfl, hD, hR, ho, hB, hsz⟩ := hrel
    have c0 := hD.cell 0; have c1 := hD.cell 1; have c2 := hD.cell 2; have c3 := hD.cell 3; have r0 := hR.cell 0; have r1 := hR.cell 1
    simp at c0 c1 c2 c3 r0 r1
    by_cases hlt : k < n
    · obtain ⟨ad, x, rfl, _, hx, hcx⟩ := (rdB h hB).int_at hlt
      obtain ⟨x0, x1⟩ := dig_at HDG.out hx
      obtain ⟨d, rfl⟩ := Int.eq_ofNat_of_zero_le x0
      have HCT := Lib.hid (cnt_take (K := K) (B := b) (T := T) (F := F) (c := List.replicate N 0) hx)
      have HSM : Hid (smallC ((xs.take k).foldl (stepC K b T F) (List.replicate N 0)) (16 * k)) := by
        have := cnt_bd (K := K) (T := T) (F := F) (B := b) b2 (xs := xs.take k) (small_rep N) (fun y hy => by
          obtain ⟨i, hi, he⟩ := List.getElem_of_mem (List.mem_of_mem_take hy)
          exact dig_at HDG.out (by rw [← he]; exact List.getElem?_eq_getElem hi))
        rw [List.length_take, HL.out, Nat.zero_add, Nat.min_eq_left (by omega)] at this
        exact this
      have HLN : Hid (((xs.take k).foldl (stepC K b T F) (List.replicate N 0)).length = N) := by unfold Hid; rw [cnt_length, List.length_replicate]
      clear hx
      go_wp2_with fail
      refine (iTimes _ HK.out x1).mono ?_
      rintro e w3 ⟨v, rfl, ht, hb3⟩
      obtain ⟨A3, c3', rfl, _, hcm⟩ := ht.form
      obtain ⟨ws, hws⟩ : ∃ ws, wr.heap.size = ws := ⟨_, rfl⟩
      rw [hws] at ht hsz
      replace ho := ho.bel hb3
      replace hB := bel2 hB hb3; replace hD := hD.bel hb3; replace hR := hR.bel hb3
      have hz3 : ws ≤ w3.heap.size := by rw [← hws]; exact hb3.size
      clear hb3 c0 c1 c2 c3 r0 r1 hcx hws
      go_wp2
      go_loopw [43] (fun i wr => ∃ j : Nat, j ≤ d ∧ i = .int .i64 j ∧ Blk wr w.heap.size 27 #[.int .i64 K, .int .i64 b, .int .i64 T, .int .i64 F] ∧ Blk wr (w.heap.size + 1) 45 #[.int .i64 b, .slice (some ad) n c] ∧ Own wr w2.heap.size (w2.heap.size + 1) 2 1 (.slice (some ⟨w2.heap.size, 0, none⟩) N N) N ((((timesD K b T F d).take j).foldl bump ((xs.take k).foldl (stepC K b T F) (List.replicate N 0))).map (Value.int .i64)) ∧ Own wr ws w3.heap.size 2 1 (.slice A3 d c3') d ((timesD K b T F d).map (Value.int .i64)) ∧ Below w.heap.size w wr ∧ ws ≤ wr.heap.size) (fun i _ => d - (intOf i).toNat)
      case atStart => exact ⟨0, Nat.zero_le _, rfl, hD, hR, ho, ht, hB, hz3⟩
      case round =>
        clear hD hR ho ht hB
        obtain ⟨j, hj, rfl, hD, hR, ho, ht, hB, hz4⟩ := hrel
        by_cases hjd : j < d
        · obtain ⟨ad3, y, rfl, _, hy, hcy⟩ := ht.reads.int_at hjd
          have hy2 := times_at hjd hy
          obtain ⟨y0, y1⟩ := time_rng (t := (j : Int)) HK.out ⟨x0, x1⟩ ⟨by omega, by omega⟩
          rw [← hy2] at y0 y1
          have HFT := Lib.hid (fold_take (c := (xs.take k).foldl (stepC K b T F) (List.replicate N 0)) hy)
          clear hy hy2
          obtain ⟨t, rfl⟩ := Int.eq_ofNat_of_zero_le (show 0 ≤ y by omega)
          have htN : t < N := by have := HN.out; omega
          have HL2 : Hid ((((timesD K b T F d).take j).foldl bump ((xs.take k).foldl (stepC K b T F) (List.replicate N 0))).length = N) := by unfold Hid; rw [fold_length]; exact HLN.out
          have hs1 : smallC (((timesD K b T F d).take j).foldl bump ((xs.take k).foldl (stepC K b T F) (List.replicate N 0))) (16 * k + j) := by
            have := fold_bd (ts := (timesD K b T F d).take j) HSM.out
            rwa [List.length_take, times_length, Nat.min_eq_left (by omega)] at this
          obtain ⟨s0, s1⟩ := small_at (t := t) hs1
          have hcell := (ho.row.cellAt t (by omega)).trans (getD_at HL2.out htN)
          have hfz := ho.row.frozenAt t
          have HST := ho.stored t (.int .i64 ((((timesD K b T F d).take j).foldl bump ((xs.take k).foldl (stepC K b T F) (List.replicate N 0))).getD t 0 + 1))
          rw [bump_cells, ← HFT.out] at HST
          have HSTH := Lib.hid HST
          clear HST hs1
          generalize (((timesD K b T F d).take j).foldl bump ((xs.take k).foldl (stepC K b T F) (List.replicate N 0))).getD t 0 = v at *
          have t0 : (0 : Int) ≤ (t : Int) := Int.natCast_nonneg _
          have t1 : (t : Int) < (N : Int) := by omega
          go_wp2
          go_roundw
          case rel => exact ⟨j + 1, by omega, by go_num, hD.far (by simp; omega) _, hR.far (by simp; omega) _, HSTH.out, ht.setLow (.inl (by simp; omega)) _, hB.setCell (by simp; omega) _, by simp; omega⟩
          case measure => simp [intOf]; omega
        · obtain rfl : j = d := by omega
          have HO2 : Hid (Own wr w2.heap.size (w2.heap.size + 1) 2 1 (.slice (some ⟨w2.heap.size, 0, none⟩) N N) N (((xs.take (k + 1)).foldl (stepC K b T F) (List.replicate N 0)).map (Value.int .i64))) := by
            unfold Hid
            rw [show (timesD K b T F j).take j = timesD K b T F j from List.take_of_length_le (by rw [times_length]; exact Nat.le_refl _)] at ho
            rw [HCT.out, stepC, Int.toNat_natCast]
            exact ho
          clear ho
          go_wp2
          go_roundw
          case rel => exact ⟨k + 1, by omega, by go_num, hD, hR, HO2.out, hB, by omega⟩
          case measure => simp [intOf]; omega
    · obtain rfl : k = n := by omega
      rw [List.take_of_length_le (by rw [HL.out]; exact Nat.le_refl _)] at ho
      have HC : Hid (xs.foldl (stepC K b T F) (List.replicate N 0) = cntL K b T F xs) := by unfold Hid cntL; rw [HNN.out]
      rw [HC.out] at ho
      have HLC : Hid ((cntL K b T F xs).length = N) := by unfold Hid cntL; rw [cnt_length, List.length_replicate]; exact HNN.out
      clear h HC
      go_wp2
      clear c0 c1 c2 c3 r0 r1
      go_loopw [12, 57] (fun be t wr => ∃ k : Nat, k ≤ N ∧ t = .int .i64 (k : Int) ∧ be = .int .i64 ((bstQ (cntL K b T F xs) (k - 1) : Nat) : Int) ∧ Own wr w2.heap.size (w2.heap.size + 1) 2 1 (.slice (some ⟨w2.heap.size, 0, none⟩) N N) N ((cntL K b T F xs).map (Value.int .i64)) ∧ Below w.heap.size w wr) (fun _ t _ => N - (intOf t).toNat)
      case atStart => exact ⟨0, by omega, rfl, rfl, ho, hB⟩
      case round =>
        clear hD hR ho hB
        obtain ⟨k, hk1, rfl, rfl, ho, hB⟩ := hrel
        have hN1 := HN.out
        have hbl := bst_le (cntL K b T F xs) (k - 1)
        have i2 : (0 : Int) ≤ ((bstQ (cntL K b T F xs) (k - 1) : Nat) : Int) := Int.natCast_nonneg _
        have i3 : ((bstQ (cntL K b T F xs) (k - 1) : Nat) : Int) < (N : Int) := by omega
        have q2 := (ho.row.cellAt (bstQ (cntL K b T F xs) (k - 1)) (by omega)).trans (getD_at HLC.out (show bstQ (cntL K b T F xs) (k - 1) < N by omega))
        by_cases hlt : k < N
        · have i0 : (0 : Int) ≤ (k : Int) := Int.natCast_nonneg _
          have i1 : (k : Int) < (N : Int) := by omega
          have q1 := (ho.row.cellAt k (by omega)).trans (getD_at HLC.out hlt)
          have HB : Hid ((bstQ (cntL K b T F xs) (k + 1 - 1) : Nat) = if (cntL K b T F xs).getD (bstQ (cntL K b T F xs) (k - 1)) 0 < (cntL K b T F xs).getD k 0 then k else bstQ (cntL K b T F xs) (k - 1)) := by
            unfold Hid
            rcases k with _ | k
            · simp [bstQ]
            · rw [Nat.add_sub_cancel, Nat.add_sub_cancel, bstQ]
          clear hN1
          by_cases hgt : (cntL K b T F xs).getD (bstQ (cntL K b T F xs) (k - 1)) 0 < (cntL K b T F xs).getD k 0
          · have HBS : Hid ((bstQ (cntL K b T F xs) (k + 1 - 1) : Nat) = k) := by unfold Hid; rw [HB.out, if_pos hgt]
            clear HB
            generalize (cntL K b T F xs).getD (bstQ (cntL K b T F xs) (k - 1)) 0 = vb at hgt q2
            generalize (cntL K b T F xs).getD k 0 = vt at hgt q1
            go_wp2
            go_roundw
            case rel => exact ⟨k + 1, by omega, by go_num, by rw [HBS.out], ho, hB⟩
            case measure => simp [intOf] <;> omega
          · have HBS : Hid ((bstQ (cntL K b T F xs) (k + 1 - 1) : Nat) = bstQ (cntL K b T F xs) (k - 1)) := by unfold Hid; rw [HB.out, if_neg hgt]
            clear HB
            generalize (cntL K b T F xs).getD (bstQ (cntL K b T F xs) (k - 1)) 0 = vb at hgt q2
            generalize (cntL K b T F xs).getD k 0 = vt at hgt q1
            go_wp2
            go_roundw
            case rel => exact ⟨k + 1, by omega, by go_num, by rw [HBS.out], ho, hB⟩
            case measure => simp [intOf] <;> omega
        · obtain rfl : k = N := by omega
          have HT : Hid (T.toNat = k - 1) := by unfold Hid; omega
          clear hN1
          go_wp2_with fail
          go_quiet (fail)
          go_wp2
          go_ret3
          obtain ⟨e1, e2, e3⟩ := HE.out
          rw [e1, e2, e3, HT.out]
          exact ⟨rfl, bel2 hB (RetQ.bel _)⟩
end Go.Proofs.Ythpaampkpajdfaa
