/- Signals of groups, on the side of the program. No condition. -/
import Derived.Test.YthpaampkpajdfaaGrp
namespace Go.Proofs.Ythpaampkpajdfaa
open Go.RowKit

theorem blk_at {w : World} {t : TypeId} {cs : Array Value} {g : Nat} (hg : g = w.heap.size) : Blk (w.alloc (.cells cs t)) g t cs := by subst hg; exact Blk.new _ _ _
theorem flat_drop (xs : List (Bool × Bool)) (k : Nat) (hk : k ≤ xs.length) : (flat encSig xs).drop (k * 2) = flat encSig (xs.drop k) := by
  have hs : flat encSig xs = flat encSig (xs.take k) ++ flat encSig (xs.drop k) := by rw [← flat_append, List.take_append_drop]
  rw [hs]
  have hl : (flat encSig (xs.take k)).length = k * 2 := by rw [flat_length encSig_length, List.length_take]; omega
  rw [← hl, List.drop_left]
theorem Reads.part {w : World} {B n b off k m : Nat} {xs : List (Bool × Bool)} (h : Reads w B 2 (some ⟨b, off, none⟩) n (flat encSig xs)) (hl : xs.length = n) (hk : k + m ≤ n) : Reads w B 2 (some ⟨b, off + k * 2, none⟩) m (flat encSig ((xs.drop k).take m)) := by
  refine ⟨by rw [flat_length encSig_length, List.length_take, List.length_drop]; omega, fun h0 => ?_⟩
  obtain ⟨ad, e, hb, hc⟩ := h.2 (by omega)
  obtain rfl := Option.some.inj e
  refine ⟨_, rfl, hb, fun j u hu => ?_⟩
  rw [Addr.add_lit]
  have := hc (k * 2 + j) u (by
    rw [← List.getElem?_drop, flat_drop xs k (by omega)]
    have hs : flat encSig (xs.drop k) = flat encSig ((xs.drop k).take m) ++ flat encSig ((xs.drop k).drop m) := by rw [← flat_append, List.take_append_drop]
    rw [hs, List.getElem?_append_left (List.getElem?_eq_some_iff.1 hu).1]
    exact hu)
  rw [Addr.add_lit] at this
  rw [Nat.add_assoc]
  exact this
theorem jn_part {xs : List (Bool × Bool)} {a m : Nat} : ∀ t, t < m → jnQ ((xs.drop a).take m) 0 t = jnQ xs a t
  | 0, h => by simp [jnQ, qAt, List.getD_eq_getElem?_getD, h]
  | t + 1, h => by
    rw [jnQ, jnQ, jn_part t (by omega)]
    congr 1
    simp [qAt, List.getD_eq_getElem?_getD, h]

set_option maxRecDepth 100000 in
set_option maxHeartbeats 3200000 in
theorem iJoined {b off n c : Nat} {ys : List (Bool × Bool)} (w : World) (h : Reads w w.heap.size 2 (some ⟨b, off, none⟩) n (flat encSig ys)) (hl : ys.length = n) (h1 : 1 ≤ n) (hn : n ≤ 16) (hc : n ≤ c) :
    Calls Try.prog 101 #[.slice (some ⟨b, off, none⟩) n c] w fun e w' => e = .returned (.agg #[.bool (jnQ ys 0 (n - 1)).1, .bool (jnQ ys 0 (n - 1)).2]) ∧ Below w.heap.size w w' := by
  obtain ⟨b0, o0, q, hbo, _, hq, hd⟩ := h.row_at encSig_length (by decide) hl (show 0 < n by omega)
  obtain ⟨rfl, rfl⟩ : b = b0 ∧ off = o0 := by injection hbo with hbo; injection hbo with h1 h2; exact ⟨h1, h2⟩
  have e0 := hd 0 _ rfl; have e1 := hd 1 _ rfl
  simp only [Nat.add_zero, Nat.zero_mul] at e0 e1
  clear hd hbo
  have H0 : Hid (jnQ ys 0 0 = q) := qAt_of hq
  clear hq
  have HL := Lib.hid hl; clear hl
  obtain ⟨m, rfl⟩ : ∃ m, n = m + 1 := ⟨n - 1, by omega⟩
  have n1 : (0 : Int) < (m : Int) + 1 := by omega
  have n2 : (1 : Int) ≤ (m : Int) + 1 := by omega
  have n3 : (m : Int) + 1 ≤ (c : Int) := by omega
  have hcx : c = 1 ∨ ¬ c = 1 := by omega
  rcases hcx with hc1 | hc1
  all_goals
    go_enter Try.func101, Try.ntmps101
    go_wp2
    clear e0 e1
    go_loopw [12] (fun i wr => ∃ k : Nat, k ≤ m ∧ i = .int .i64 k ∧ Blk wr w.heap.size 98 #[.bool false, .bool false] ∧ Blk wr (w.heap.size + 1) 98 #[.bool (jnQ ys 0 k).1, .bool (jnQ ys 0 k).2] ∧ Below w.heap.size w wr) (fun i _ => m - (intOf i).toNat)
    case atStart => exact ⟨0, Nat.zero_le _, rfl, (Blk.new _ _ _).alloc _, by rw [H0.out]; exact blk_at (by simp), (by repeat' (first | assumption | exact Below.refl _ _ | refine Below.drew ?_ | refine belN ?_ _ | refine Below.alloc ?_ (by first | omega | (simp; done) | (simp; omega)) _ | refine Below.setCell ?_ (by first | omega | (simp; done) | (simp; omega)) _))⟩
    case round =>
      obtain ⟨k, hk, rfl, hR, hS, hB⟩ := hrel
      have c0 := hS.cell 0; have c1 := hS.cell 1; have d0 := hR.cell 0; have d1 := hR.cell 1; have fR := hR.frozen; have fS := hS.frozen
      simp at c0 c1 d0 d1
      by_cases hlt : k < m
      · have hc2 : ¬ c = 1 := by omega
        obtain ⟨b0, o0, q1, hbo, _, hq, hd⟩ := (rdB h hB).row_at encSig_length (by decide) HL.out (show k + 1 < m + 1 by omega)
        obtain ⟨rfl, rfl⟩ : b = b0 ∧ off = o0 := by injection hbo with hbo; injection hbo with h1 h2; exact ⟨h1, h2⟩
        have e0 := hd 0 _ rfl; have e1 := hd 1 _ rfl
        rw [show off + (k + 1) * 2 + 0 = off + 2 + k * 2 by omega] at e0
        rw [show off + (k + 1) * 2 + 1 = off + 2 + k * 2 + 1 by omega] at e1
        clear hd hbo
        have HS : Hid (jnQ ys 0 (k + 1) = joinQ (jnQ ys 0 k) q1) := by
          unfold Hid
          rw [jnQ, Nat.zero_add, qAt_of hq]
        clear hq
        have x0 := fun X : Obj => cellA c0 X; have x1 := fun X : Obj => cellA c1 X
        have ki0 : (0 : Int) ≤ (k : Int) := Int.natCast_nonneg _
        have ki1 : (k : Int) < (m : Int) := by omega
        first
          | exact absurd hc1 hc2
          | (go_wp2_with (first | (go_at_call 83; refine (iJoinSig _ _ _).mono ?_; rintro e w1 ⟨rfl, hb1⟩; have hS1 := (hS.alloc _).bel hb1; have hR1 := (hR.alloc _).bel hb1; have hB1 := bel2 (hB.alloc hB.size _) hb1; have s0 := hS1.cell 0; have s1 := hS1.cell 1; have fz := hS1.frozen; simp at s0 s1))
             go_roundw
             case rel => exact ⟨k + 1, by omega, by go_num, (hR1.far (by first | omega | (simp; done) | (simp; omega)) _).far (by first | omega | (simp; done) | (simp; omega)) _, by rw [HS.out]; simpa using (hS1.set_ 0 _).set_ 1 _, (hB1.setCell (by first | omega | (simp; done) | (simp; omega)) _).setCell (by first | omega | (simp; done) | (simp; omega)) _⟩
             case measure => simp [intOf]; omega)
      · obtain rfl : k = m := by omega
        clear hS
        go_wp2
        exact bodyPost_ret (v := .agg #[.bool (jnQ ys 0 k).1, .bool (jnQ ys 0 k).2]) (by simp [results, Try.results101, go_sem, d0, d1]) rfl ⟨rfl, (hB.setCell (Nat.le_refl _) _).setCell (Nat.le_refl _) _⟩

set_option maxRecDepth 100000 in
set_option maxHeartbeats 3200000 in
theorem iGroups {z : Nat} {A : Option Addr} {n c : Nat} {xs : List (Bool × Bool)} (w : World) (h : Reads w w.heap.size 2 A n (flat encSig xs)) (hl : xs.length = n) (hn1 : 1 ≤ n) (hn : n ≤ 16) (hnc : n ≤ c) (hz : 1 ≤ z ∧ z ≤ 16) :
    Calls Try.prog 87 #[.slice A n c, .int .i64 (z : Int)] w (RetOwn w 98 2 (grL xs z n).length (flat encSig (grL xs z n))) := by
  obtain ⟨b, off, q, rfl, _, _, _⟩ := h.row_at encSig_length (by decide) hl (show 0 < n by omega)
  have HL := Lib.hid hl; clear hl
  obtain ⟨z1, z2⟩ := hz
  go_enter Try.func87, Try.ntmps87
  go_wp2
  go_loopw [5, 6] (fun o i wr => ∃ (fr m : Nat) (A' : Option Addr) (c' : Nat), fr ≤ 32 ∧ m ≤ fr ∧ Hid (fr % z = 0) ∧ i = .int .i64 fr ∧ o = .slice A' m c' ∧ m = (grL xs z (min fr n)).length ∧ Own wr w.heap.size wr.heap.size 98 2 (.slice A' m c') m (flat encSig (grL xs z (min fr n))) ∧ w.heap.size ≤ wr.heap.size ∧ Below w.heap.size w wr) (fun _ i _ => 48 - (intOf i).toNat)
  case atStart => exact ⟨0, 0, some ⟨w.heap.size, 0, none⟩, 0, by omega, by omega, Nat.zero_mod z, rfl, rfl, by rw [Nat.zero_min]; rfl, by rw [Nat.zero_min]; exact ((Blk.new w 98 #[]).own (n := 0) (size := 2) (Nat.zero_le _) rfl).more (Nat.le_refl _) (by simp), by simp, (by repeat' (first | assumption | exact Below.refl _ _ | refine Below.drew ?_ | refine belN ?_ _ | refine Below.alloc ?_ (by first | omega | (simp; done) | (simp; omega)) _ | refine Below.setCell ?_ (by first | omega | (simp; done) | (simp; omega)) _))⟩
  case round =>
    obtain ⟨fr, m, A', c', hfr, hmf, HZ, rfl, rfl, hm, ho, hs, hB⟩ := hrel
    have HM := Lib.hid hm; clear hm
    by_cases hlt : fr < n
    · have i0 : (0 : Int) ≤ (fr : Int) := Int.natCast_nonneg _
      have i1 : (fr : Int) < (n : Int) := by omega
      have i2 : (n : Int) ≤ (c : Int) := by omega
      have i3 : ¬ c = fr := by omega
      by_cases hA : fr + z ≤ n
      · have j1 : (fr : Int) + (z : Int) ≤ (n : Int) := by omega
        have j2 : (fr : Int) ≤ (fr : Int) + (z : Int) := by omega
        have j3 : (fr : Int) + (z : Int) ≤ (c : Int) := by omega
        have HJ : Hid (jnQ ((xs.drop fr).take z) 0 (z - 1) = jnQ xs fr (z - 1)) := jn_part _ (by omega)
        have HG : Hid (grL xs z (min (fr + z) n) = grL xs z (min fr n) ++ [jnQ xs fr (z - 1)]) := by
          unfold Hid
          have := gr_in (xs := xs) HZ.out (z - 1) (by omega)
          rw [show min (fr + z) n = fr + (z - 1) + 1 by omega, show min fr n = fr by omega]
          exact this
        have HP := Lib.hid ((rdB h hB).part HL.out (show fr + z ≤ n by omega))
        have HLN : Hid (((xs.drop fr).take z).length = z) := by
          unfold Hid
          rw [List.length_take, List.length_drop, HL.out]
          omega
        have HMZ : Hid ((fr + z) % z = 0) := by unfold Hid; rw [Nat.add_mod_right]; exact HZ.out
        have HJC := Lib.hid (fun (W : World) (hW : Reads W W.heap.size 2 (some ⟨b, off + fr * 2, none⟩) z (flat encSig ((xs.drop fr).take z))) => iJoined (c := c - fr) W hW HLN.out (by omega) (by omega) (by omega))
        go_wp2_with (first | (go_at_call 101; refine (HJC.out _ HP.out).mono ?_; rintro e w1 ⟨rfl, hb1⟩; have ho1 := ho.bel hb1; have hB1 := bel2 hB hb1; have hz1 := hb1.size) | (at_builtin; refine wpList_app1 rfl (.tmp 15) (.tmp 26) rfl eltSig rfl (ho1.alloc _) rfl (Blk.new _ _ _) rfl (two_bools _ _) (by omega) (by first | omega | (simp; omega)) ?_; intro A2 c2 w2 ho2 ht2))
        have hz2 := ht2.size
        rw [HJ.out] at ho2
        have HO := Lib.hid ho2; clear ho2 ho1
        go_roundw
        case rel => exact ⟨fr + z, m + 1, A2, c2, by omega, by omega, HMZ, by go_num, rfl, by rw [HG.out, List.length_append, ← HM.out]; rfl, by rw [HG.out, flat_grow]; exact HO.out, by have := hz2; simp at this; omega, Touch.below (hB1.alloc (by omega) _) ht2 (by first | omega | (simp; omega)) (Nat.le_refl _)⟩
        case measure => simp [intOf]; omega
      · have j1 : ¬ ((fr : Int) + (z : Int) ≤ (n : Int)) := by omega
        have j2 : (fr : Int) ≤ (n : Int) := by omega
        have HJ : Hid (jnQ ((xs.drop fr).take (n - fr)) 0 ((n - fr) - 1) = jnQ xs fr ((n - fr) - 1)) := jn_part _ (by omega)
        have HG : Hid (grL xs z (min (fr + z) n) = grL xs z (min fr n) ++ [jnQ xs fr ((n - fr) - 1)]) := by
          unfold Hid
          have := gr_in (xs := xs) HZ.out ((n - fr) - 1) (by omega)
          rw [show min (fr + z) n = fr + ((n - fr) - 1) + 1 by omega, show min fr n = fr by omega]
          exact this
        have HP := Lib.hid ((rdB h hB).part HL.out (show fr + (n - fr) ≤ n by omega))
        have HLN : Hid (((xs.drop fr).take (n - fr)).length = (n - fr)) := by
          unfold Hid
          rw [List.length_take, List.length_drop, HL.out]
          omega
        have HMZ : Hid ((fr + z) % z = 0) := by unfold Hid; rw [Nat.add_mod_right]; exact HZ.out
        have HJC := Lib.hid (fun (W : World) (hW : Reads W W.heap.size 2 (some ⟨b, off + fr * 2, none⟩) (n - fr) (flat encSig ((xs.drop fr).take (n - fr)))) => iJoined (c := c - fr) W hW HLN.out (by omega) (by omega) (by omega))
        go_wp2_with (first | (go_at_call 101; refine (HJC.out _ HP.out).mono ?_; rintro e w1 ⟨rfl, hb1⟩; have ho1 := ho.bel hb1; have hB1 := bel2 hB hb1; have hz1 := hb1.size) | (at_builtin; refine wpList_app1 rfl (.tmp 15) (.tmp 26) rfl eltSig rfl (ho1.alloc _) rfl (Blk.new _ _ _) rfl (two_bools _ _) (by omega) (by first | omega | (simp; omega)) ?_; intro A2 c2 w2 ho2 ht2))
        have hz2 := ht2.size
        rw [HJ.out] at ho2
        have HO := Lib.hid ho2; clear ho2 ho1
        go_roundw
        case rel => exact ⟨fr + z, m + 1, A2, c2, by omega, by omega, HMZ, by go_num, rfl, by rw [HG.out, List.length_append, ← HM.out]; rfl, by rw [HG.out, flat_grow]; exact HO.out, by have := hz2; simp at this; omega, Touch.below (hB1.alloc (by omega) _) ht2 (by first | omega | (simp; omega)) (Nat.le_refl _)⟩
        case measure => simp [intOf]; omega
    · have hmin : min fr n = n := by omega
      rw [hmin] at ho
      have HM2 : Hid (m = (grL xs z n).length) := by unfold Hid; rw [HM.out, hmin]
      clear hmin
      go_wp2
      go_ret
      exact ⟨_, rfl, by rw [← HM2.out]; exact ho, hB⟩

set_option maxHeartbeats 1600000 in
theorem sGroupSignals {y : Int} {A : Option Addr} {n c : Nat} {xs : List (Bool × Bool)} (w : World) (h : Reads w w.heap.size 2 A n (flat encSig xs)) (hl : xs.length = n) (hm : n ≤ maxLen) (hnc : n ≤ c) :
    Calls Try.prog 47 #[.slice A n c, .int .i64 y] w (RetSG w 98 2 (gsN xs y) (flat encSig (gsXs xs y)) (gsCode xs y)) := by
  have hmm := hm
  unfold maxLen at hmm
  cases h1 : betwB (n : Int) 1 16
  · have HE := Lib.hid (gs_bad (xs := xs) (z := y) (by rw [gsOk, hl, h1]; rfl))
    cases h2 : betwB y 1 16
    all_goals
      go_enter Try.func47, Try.ntmps47
      go_wp2_with (first | (go_at_call 79; refine (sWid _ _).mono ?_; rintro e w' ⟨rfl, rfl⟩))
      go_ret2
      obtain ⟨e1, e2, e3⟩ := HE.out
      rw [e1, e2, e3]
      exact ⟨_, rfl, Own.nil _ _ _ _ _, Below.refl _ _⟩
  · cases h2 : betwB y 1 16
    · have HE := Lib.hid (gs_bad (xs := xs) (z := y) (by rw [gsOk, hl, h1, h2]; rfl))
      go_enter Try.func47, Try.ntmps47
      go_wp2_with (first | (go_at_call 79; refine (sWid _ _).mono ?_; rintro e w' ⟨rfl, rfl⟩))
      go_ret2
      obtain ⟨e1, e2, e3⟩ := HE.out
      rw [e1, e2, e3]
      exact ⟨_, rfl, Own.nil _ _ _ _ _, Below.refl _ _⟩
    · obtain ⟨n1, n2⟩ := betw_iff.1 h1
      obtain ⟨y1, y2⟩ := betw_iff.1 h2
      obtain ⟨z, rfl⟩ := Int.eq_ofNat_of_zero_le (show 0 ≤ y by omega)
      have HE := Lib.hid (gs_ok (xs := xs) (z := z) (by rw [gsOk, hl, h1, h2]; rfl))
      go_enter Try.func47, Try.ntmps47
      go_wp2_with (first | (go_at_call 79; refine (sWid _ _).mono ?_; rintro e w' ⟨rfl, rfl⟩))
      refine (sGroups _ h hl (by omega) ⟨by omega, by omega⟩).mono ?_
      rintro e w1 ⟨v, rfl, ho, hb⟩
      go_wp2
      go_ret2
      obtain ⟨e1, e2, e3⟩ := HE.out
      rw [e1, e2, e3, hl]
      exact ⟨_, rfl, ho, hb⟩

set_option maxHeartbeats 1600000 in
theorem iGroupSignals {y : Int} {A : Option Addr} {n c : Nat} {xs : List (Bool × Bool)} (w : World) (h : Reads w w.heap.size 2 A n (flat encSig xs)) (hl : xs.length = n) (hm : n ≤ maxLen) (hnc : n ≤ c) :
    Calls Try.prog 48 #[.slice A n c, .int .i64 y] w (RetSG w 98 2 (gsN xs y) (flat encSig (gsXs xs y)) (gsCode xs y)) := by
  have hmm := hm
  unfold maxLen at hmm
  cases h1 : betwB (n : Int) 1 16
  · have HE := Lib.hid (gs_bad (xs := xs) (z := y) (by rw [gsOk, hl, h1]; rfl))
    cases h2 : betwB y 1 16
    all_goals
      go_enter Try.func48, Try.ntmps48
      go_wp2_with (first | (go_at_call 82; refine (iAreSig _ hm).mono ?_; rintro e w' ⟨rfl, rfl⟩) | (go_at_call 86; refine (iWid _ _).mono ?_; rintro e w' ⟨rfl, rfl⟩))
      go_ret2
      obtain ⟨e1, e2, e3⟩ := HE.out
      rw [e1, e2, e3]
      exact ⟨_, rfl, Own.nil _ _ _ _ _, Below.refl _ _⟩
  · cases h2 : betwB y 1 16
    · have HE := Lib.hid (gs_bad (xs := xs) (z := y) (by rw [gsOk, hl, h1, h2]; rfl))
      go_enter Try.func48, Try.ntmps48
      go_wp2_with (first | (go_at_call 82; refine (iAreSig _ hm).mono ?_; rintro e w' ⟨rfl, rfl⟩) | (go_at_call 86; refine (iWid _ _).mono ?_; rintro e w' ⟨rfl, rfl⟩))
      go_ret2
      obtain ⟨e1, e2, e3⟩ := HE.out
      rw [e1, e2, e3]
      exact ⟨_, rfl, Own.nil _ _ _ _ _, Below.refl _ _⟩
    · obtain ⟨n1, n2⟩ := betw_iff.1 h1
      obtain ⟨y1, y2⟩ := betw_iff.1 h2
      obtain ⟨z, rfl⟩ := Int.eq_ofNat_of_zero_le (show 0 ≤ y by omega)
      have HE := Lib.hid (gs_ok (xs := xs) (z := z) (by rw [gsOk, hl, h1, h2]; rfl))
      go_enter Try.func48, Try.ntmps48
      go_wp2_with (first | (go_at_call 82; refine (iAreSig _ hm).mono ?_; rintro e w' ⟨rfl, rfl⟩) | (go_at_call 86; refine (iWid _ _).mono ?_; rintro e w' ⟨rfl, rfl⟩))
      refine (iGroups _ h hl (by omega) (by omega) hnc ⟨by omega, by omega⟩).mono ?_
      rintro e w1 ⟨v, rfl, ho, hb⟩
      go_wp2
      go_ret2
      obtain ⟨e1, e2, e3⟩ := HE.out
      rw [e1, e2, e3, hl]
      exact ⟨_, rfl, ho, hb⟩
end Go.Proofs.Ythpaampkpajdfaa
