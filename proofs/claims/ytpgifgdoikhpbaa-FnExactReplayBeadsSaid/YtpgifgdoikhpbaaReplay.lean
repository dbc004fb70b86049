/- Abaci: moves replayed. No condition. -/
import Derived.Test.YtpgifgdoikhpbaaMoveL
namespace Go.Proofs.Ytpgifgdoikhpbaa
open Go.RowKit

/-- Moves, one after the other, up to the first that cannot be made; how many. -/
def rp (u o : Int) : List (Int × Int) → List (Int × Int × Int) → List (Int × Int) × Nat
  | xs, [] => (xs, 0)
  | xs, m :: ms => if mvC u o xs m.1 m.2.1 m.2.2 = 0 then ((rp u o (mvX u o xs m.1 m.2.1 m.2.2) ms).1, (rp u o (mvX u o xs m.1 m.2.1 m.2.2) ms).2 + 1) else (xs, 0)
theorem rp_end {u o : Int} {xs : List (Int × Int)} {ms : List (Int × Int × Int)} {n : Nat} (h : ms.length = n) : rp u o xs (ms.drop n) = (xs, 0) := by
  rw [List.drop_of_length_le (by omega)]
  rfl
theorem rp_bad {u o : Int} {xs : List (Int × Int)} {ms : List (Int × Int × Int)} {k : Nat} {q : Int × Int × Int} (hq : ms[k]? = some q) (hc : ¬ mvC u o xs q.1 q.2.1 q.2.2 = 0) : rp u o xs (ms.drop k) = (xs, 0) := by
  obtain ⟨hk, he⟩ := List.getElem?_eq_some_iff.1 hq
  rw [List.drop_eq_getElem_cons hk, he, rp, if_neg hc]
theorem rp_ok {u o : Int} {xs : List (Int × Int)} {ms : List (Int × Int × Int)} {k : Nat} {q : Int × Int × Int} (hq : ms[k]? = some q) (hc : mvC u o xs q.1 q.2.1 q.2.2 = 0) : rp u o xs (ms.drop k) = ((rp u o (mvX u o xs q.1 q.2.1 q.2.2) (ms.drop (k + 1))).1, (rp u o (mvX u o xs q.1 q.2.1 q.2.2) (ms.drop (k + 1))).2 + 1) := by
  obtain ⟨hk, he⟩ := List.getElem?_eq_some_iff.1 hq
  rw [List.drop_eq_getElem_cons hk, he, rp, if_pos hc]
def rpTo (u o : Int) (xs : List (Int × Int)) (ms : List (Int × Int × Int)) (cur : List (Int × Int)) (k : Nat) : Prop := rp u o xs ms = ((rp u o cur (ms.drop k)).1, k + (rp u o cur (ms.drop k)).2)
theorem rpTo_step {u o : Int} {xs cur : List (Int × Int)} {ms : List (Int × Int × Int)} {k : Nat} {q : Int × Int × Int} (h : rpTo u o xs ms cur k) (hq : ms[k]? = some q) (hc : mvC u o cur q.1 q.2.1 q.2.2 = 0) : rpTo u o xs ms (mvX u o cur q.1 q.2.1 q.2.2) (k + 1) := by
  unfold rpTo at h ⊢
  rw [h, rp_ok hq hc]
  simp
  omega
theorem rpTo_end {u o : Int} {xs cur : List (Int × Int)} {ms : List (Int × Int × Int)} {k : Nat} (h : rpTo u o xs ms cur k) (he : rp u o cur (ms.drop k) = (cur, 0)) : rp u o xs ms = (cur, k) := by
  unfold rpTo at h
  rw [h, he]
  rfl
def rpV (u o t : Int) (xs : List (Int × Int)) (ms : List (Int × Int × Int)) : Int := if okA u o t xs then ((rp u o xs ms).2 : Int) else 0
def rpN (u o t : Int) (xs : List (Int × Int)) : Nat := if okA u o t xs then xs.length else 0
def rpX (u o t : Int) (xs : List (Int × Int)) (ms : List (Int × Int × Int)) : List (Int × Int) := if okA u o t xs then (rp u o xs ms).1 else []
theorem rpN_le (u o t : Int) (xs : List (Int × Int)) : rpN u o t xs ≤ 1073741824 := by
  unfold rpN
  split
  · rename_i h
    have := okA_parts h
    omega
  · omega
def RetRP (w : World) (u o t : Int) (xs : List (Int × Int)) (ms : List (Int × Int × Int)) (x : Ending) (w' : World) : Prop :=
  ∃ s, x = .returned (.tuple #[.agg #[.int .i64 (pkI (okA u o t xs) u), .int .i64 (pkI (okA u o t xs) o), .int .i64 (pkI (okA u o t xs) t), s], .int .i64 (rpV u o t xs ms), .int .i64 (cdA u o t xs)]) ∧ Own w' w.heap.size w'.heap.size 69 2 s (rpN u o t xs) (flat encPair (rpX u o t xs ms)) ∧ Below w.heap.size w w'
theorem rp_no {w w' : World} {u o t : Int} {xs : List (Int × Int)} {ms : List (Int × Int × Int)} (hk : okA u o t xs = false) (hb : Below w.heap.size w w') : RetRP w u o t xs ms (.returned (.tuple #[.agg #[.int .i64 0, .int .i64 0, .int .i64 0, .slice none 0 0], .int .i64 0, .int .i64 1])) w' := by
  refine ⟨.slice none 0 0, ?_, ?_, hb⟩
  · simp [hk, pkI, rpV, cdA]
  · unfold rpN rpX
    rw [hk]
    exact Own.nil _ _ _ _ _
theorem rp_yes {w w' : World} {u o t : Int} {xs cur : List (Int × Int)} {ms : List (Int × Int × Int)} {s : Value} {n k : Nat} (hk : okA u o t xs = true) (hl : xs.length = n) (hr : rp u o xs ms = (cur, k)) (ho : Own w' w.heap.size w'.heap.size 69 2 s n (flat encPair cur)) (hb : Below w.heap.size w w') :
    RetRP w u o t xs ms (.returned (.tuple #[.agg #[.int .i64 u, .int .i64 o, .int .i64 t, s], .int .i64 (k : Int), .int .i64 0])) w' := by
  refine ⟨s, ?_, ?_, hb⟩
  · simp [hk, pkI, rpV, cdA, hr]
  · unfold rpN rpX
    rw [hk, if_pos rfl, if_pos rfl, hl, hr]
    exact ho
theorem Own.setBox {w : World} {lo hi : Nat} {e : TypeId} {size n : Nat} {v : Value} {xs : List Value} {g : Nat} {t : TypeId} {cs : Array Value} (h : Own w lo hi e size v n xs) (hb : Blk w g t cs) (hne : e ≠ t) (j : Nat) (u : Value) : Own (w.setCell ⟨g, j, none⟩ u) lo hi e size v n xs := by
  refine ⟨⟨h.row.1, ?_⟩, h.top⟩
  rcases h.row.2 with hn | ⟨g', cap, cur, rfl, hb', hg, rest⟩
  · exact .inl hn
  · have hgg : g' ≠ g := by
      rintro rfl
      exact Blk.ne_ (t := e) hg hb hne rfl
    exact .inr ⟨g', cap, cur, rfl, hb', (Below.heap_setCell _ _ _ _ hgg).trans hg, rest⟩

set_option maxRecDepth 100000 in
set_option maxHeartbeats 3200000 in
theorem sReplay {u o t : Int} {A A' : Option Addr} {n c n' c' : Nat} {xs : List (Int × Int)} {ms : List (Int × Int × Int)} (w : World) (h : Reads w w.heap.size 2 A n (flat encPair xs)) (hl : xs.length = n) (hm : n ≤ maxLen) (h' : Reads w w.heap.size 3 A' n' (flat encTrip ms)) (hl' : ms.length = n') (hm' : n' ≤ maxLen) :
    Calls Try.prog 37 #[.agg #[.int .i64 u, .int .i64 o, .int .i64 t, .slice A n c], .slice A' n' c'] w (RetRP w u o t xs ms) := by
  have HL := Lib.hid hl; have HL' := Lib.hid hl'
  unfold maxLen at hm'
  cases hk : okA u o t xs
  · have HE := Lib.hid hk
    clear hl hl'
    go_enter Try.func37, Try.ntmps37
    go_wp2_with fail
    refine absW ?_
    intro w0 hw
    have hb0 : Below w.heap.size w w0 := by rw [hw]; exact (by repeat' (first | assumption | exact Below.refl _ _ | refine Below.drew ?_ | refine belN ?_ _ | refine Below.alloc ?_ (by first | omega | (simp; done) | (simp; omega)) _ | refine Below.setCell ?_ (by first | omega | (simp; done) | (simp; omega)) _))
    have bA : Blk w0 w.heap.size 29 #[.int .i64 u, .int .i64 o, .int .i64 t, .slice A n c] := by rw [hw]; exact (Blk.new _ _ _).alloc _
    have bR : Blk w0 (w.heap.size + 1) 29 #[.int .i64 0, .int .i64 0, .int .i64 0, .slice none 0 0] := by rw [hw]; exact blk_new (by simp)
    have zR0 := bR.lt
    clear hw
    have c0 := bA.cell 0; have c1 := bA.cell 1; have c2 := bA.cell 2; have c3 := bA.cell 3
    simp at c0 c1 c2 c3
    have d0 := bR.cell 0; have d1 := bR.cell 1; have d2 := bR.cell 2; have d3 := bR.cell 3; have fR := bR.frozen
    simp at d0 d1 d2 d3
    refine (sOkA _ (rdB h hb0) HL.out hm c0 c1 c2 c3).mono ?_
    rintro e w' ⟨rfl, k1, rfl⟩
    rw [hk]
    go_wp2
    refine bodyPost_ret (v := .tuple #[.agg #[.int .i64 0, .int .i64 0, .int .i64 0, .slice none 0 0], .int .i64 0, .int .i64 1]) (by simp [results, Try.results37, go_sem, d0, d1, d2, d3, zR0]) rfl (rp_no HE.out ?_)
    exact ((((belN hb0 _).setCell (by first | omega | (simp; done) | (simp; omega)) _).setCell (by first | omega | (simp; done) | (simp; omega)) _).setCell (by first | omega | (simp; done) | (simp; omega)) _).setCell (by first | omega | (simp; done) | (simp; omega)) _
  have HK := Lib.hid hk
  obtain ⟨_, _, n0, n1⟩ := okA_parts hk
  rw [hl] at n0 n1
  clear hl hl' hk
  go_enter Try.func37, Try.ntmps37
  go_wp2_with fail
  refine absW ?_
  intro w0 hw
  have hb0 : Below w.heap.size w w0 := by rw [hw]; exact (by repeat' (first | assumption | exact Below.refl _ _ | refine Below.drew ?_ | refine belN ?_ _ | refine Below.alloc ?_ (by first | omega | (simp; done) | (simp; omega)) _ | refine Below.setCell ?_ (by first | omega | (simp; done) | (simp; omega)) _))
  have bA : Blk w0 w.heap.size 29 #[.int .i64 u, .int .i64 o, .int .i64 t, .slice A n c] := by rw [hw]; exact (Blk.new _ _ _).alloc _
  have bR : Blk w0 (w.heap.size + 1) 29 #[.int .i64 0, .int .i64 0, .int .i64 0, .slice none 0 0] := by rw [hw]; exact blk_new (by simp)
  have zR0 := bR.lt
  clear hw
  have c0 := bA.cell 0; have c1 := bA.cell 1; have c2 := bA.cell 2; have c3 := bA.cell 3
  simp at c0 c1 c2 c3
  refine (sOkA _ (rdB h hb0) HL.out hm c0 c1 c2 c3).mono ?_
  rintro e w' ⟨rfl, k1, rfl⟩
  rw [HK.out]
  go_wp2_with fail
  refine (sOwnA _ ((rdB h hb0).drewN _) HL.out hm c0 c1 c2 c3 n0 (by omega)).mono ?_
  rintro e w1 ⟨s, rfl, ho, hb⟩
  obtain ⟨A1, k2, rfl, _, _⟩ := ho.form
  replace bR := (bR.drewN k1).bel hb
  replace hb0 := bel2 (belN hb0 k1) hb
  have zb := hb.size
  have zb2 : w0.heap.size ≤ w1.heap.size := zb
  replace ho : Own w1 w0.heap.size w1.heap.size 69 2 (.slice A1 n k2) n (flat encPair xs) := ho
  clear hb zb c0 c1 c2 c3
  go_wp2
  go_loopw [8, 9] (fun y i wr => ∃ (k : Nat) (cur : List (Int × Int)), k ≤ n' ∧ i = .int .i64 k ∧ y = .int .i64 k ∧ Hid (cur.length = n) ∧ Hid (okA u o t cur = true) ∧ Hid (rpTo u o xs ms cur k) ∧ Blk wr (w.heap.size + 1) 29 #[.int .i64 0, .int .i64 0, .int .i64 0, .slice none 0 0] ∧ Blk wr w1.heap.size 29 #[.int .i64 u, .int .i64 o, .int .i64 t, .slice A1 n k2] ∧ Own wr w0.heap.size w1.heap.size 69 2 (.slice A1 n k2) n (flat encPair cur) ∧ w1.heap.size < wr.heap.size ∧ Below w.heap.size w wr) (fun _ i _ => n' - (intOf i).toNat)
  case atStart => exact ⟨0, xs, Nat.zero_le _, rfl, rfl, HL, HK, by simp [Hid, rpTo], bR.alloc _, Blk.new _ _ _, ho.alloc _, (by first | omega | (simp; done) | (simp; omega)), hb0.alloc (by have := hb0.size; omega) _⟩
  case round =>
    obtain ⟨k, cur, hkn, rfl, rfl, HC, HO, HRP, hR, hO, hw, zO, hB⟩ := hrel
    have d0 := hR.cell 0; have d1 := hR.cell 1; have d2 := hR.cell 2; have d3 := hR.cell 3; have fR := hR.frozen
    have e0 := hO.cell 0; have e1 := hO.cell 1; have e2 := hO.cell 2; have e3 := hO.cell 3
    simp at d0 d1 d2 d3 e0 e1 e2 e3
    by_cases hlt : k < n'
    · obtain ⟨b1, o1, q, hA1, hbb, hq, hc⟩ := (rdB h' hB).row_at encTrip_length (by decide) HL'.out hlt
      have r0 := hc 0 _ rfl; have r1 := hc 1 _ rfl; have r2 := hc 2 _ rfl
      simp only [Nat.add_zero] at r0
      clear hc
      have ki0 : (0 : Int) ≤ (k : Int) := Int.natCast_nonneg _
      have ki1 : (k : Int) < (n' : Int) := by omega
      subst hA1
      have HCALL := Lib.hid (sMove (t := t) (r := q.1) (du := q.2.1) (dd := q.2.2) wr hw HC.out e0 e1 e3 (.inr (Nat.le_refl _)) (by omega) HO.out)
      obtain ⟨mc, hmc⟩ : ∃ mc, mvC u o cur q.1 q.2.1 q.2.2 = mc := ⟨_, rfl⟩
      have HMC := Lib.hid hmc
      by_cases hz : mc = 0
      · subst hz
        have HST := Lib.hid (rpTo_step HRP.out hq hmc)
        have HLN : Hid ((mvX u o cur q.1 q.2.1 q.2.2).length = n) := by unfold Hid; rw [mvX_length]; exact HC.out
        have HOK : Hid (okA u o t (mvX u o cur q.1 q.2.1 q.2.2) = true) := mvX_ok HO.out
        clear hq hmc
        go_wp2_with fail
        refine HCALL.out.mono ?_
        rintro e w3 ⟨rfl, ho3, ht3⟩
        rw [HMC.out]
        have hR3 := hR.touch ht3 (.inl (by omega)); have hO3 := hO.touch ht3 (.inr (Nat.le_refl _))
        have zw := ht3.size
        have hB3 := Touch.below hB ht3 (by have := hB.size; omega) (by omega)
        clear e0 e1 e2 e3 d0 d1 d2 d3 fR
        go_wp2
        go_roundw
        case rel => exact ⟨k + 1, _, by omega, by go_num, by go_num, HLN, HOK, HST, hR3, hO3, ho3, by omega, hB3⟩
        case measure => simp [intOf]; omega
      · have HEND := Lib.hid (rpTo_end HRP.out (rp_bad hq (by rw [hmc]; exact hz)))
        have b1 : (mc == 0) = false := by simp [hz]
        have HX : Hid (mvX u o cur q.1 q.2.1 q.2.2 = cur) := by unfold Hid mvX; rw [if_neg (by rw [hmc]; exact hz)]
        clear hq hmc hz
        go_wp2_with fail
        refine HCALL.out.mono ?_
        rintro e w3 ⟨rfl, ho3, ht3⟩
        rw [HMC.out]
        rw [HX.out] at ho3
        have hR3 := hR.touch ht3 (.inl (by omega)); have hO3 := hO.touch ht3 (.inr (Nat.le_refl _))
        have zw := ht3.size
        have hB3 := Touch.below hB ht3 (by have := hB.size; omega) (by omega)
        clear e0 e1 e2 e3 d0 d1 d2 d3 fR
        have d0 := hR3.cell 0; have d1 := hR3.cell 1; have d2 := hR3.cell 2; have d3 := hR3.cell 3; have fR := hR3.frozen
        have e0 := hO3.cell 0; have e1 := hO3.cell 1; have e2 := hO3.cell 2; have e3 := hO3.cell 3
        simp at d0 d1 d2 d3 e0 e1 e2 e3
        go_wp2
        refine bodyPost_ret (v := .tuple #[.agg #[.int .i64 u, .int .i64 o, .int .i64 t, .slice A1 n k2], .int .i64 (k : Int), .int .i64 0]) (by simp [results, Try.results37, go_sem, d0, d1, d2, d3]) rfl (rp_yes HK.out HL.out HEND.out ?_ ?_)
        · exact ((((ho3.setLow (.inl (by first | omega | (simp; done) | (simp; omega))) _).setLow (.inl (by first | omega | (simp; done) | (simp; omega))) _).setLow (.inl (by first | omega | (simp; done) | (simp; omega))) _).setLow (.inl (by first | omega | (simp; done) | (simp; omega))) _).more (by first | omega | (simp; done) | (simp; omega)) (by first | omega | (simp; done) | (simp; omega))
        · exact (((hB3.setCell (by first | omega | (simp; done) | (simp; omega)) _).setCell (by first | omega | (simp; done) | (simp; omega)) _).setCell (by first | omega | (simp; done) | (simp; omega)) _).setCell (by first | omega | (simp; done) | (simp; omega)) _
    · obtain rfl : k = n' := by omega
      have HEND := Lib.hid (rpTo_end HRP.out (rp_end HL'.out))
      go_wp2
      refine bodyPost_ret (v := .tuple #[.agg #[.int .i64 u, .int .i64 o, .int .i64 t, .slice A1 n k2], .int .i64 (k : Int), .int .i64 0]) (by simp [results, Try.results37, go_sem, d0, d1, d2, d3]) rfl (rp_yes HK.out HL.out HEND.out ?_ ?_)
      · exact ((((hw.setLow (.inl (by first | omega | (simp; done) | (simp; omega))) _).setLow (.inl (by first | omega | (simp; done) | (simp; omega))) _).setLow (.inl (by first | omega | (simp; done) | (simp; omega))) _).setLow (.inl (by first | omega | (simp; done) | (simp; omega))) _).more (by first | omega | (simp; done) | (simp; omega)) (by first | omega | (simp; done) | (simp; omega))
      · exact (((hB.setCell (by first | omega | (simp; done) | (simp; omega)) _).setCell (by first | omega | (simp; done) | (simp; omega)) _).setCell (by first | omega | (simp; done) | (simp; omega)) _).setCell (by first | omega | (simp; done) | (simp; omega)) _

set_option maxRecDepth 100000 in
set_option maxHeartbeats 3200000 in
theorem iReplay {u o t : Int} {A A' : Option Addr} {n c n' c' : Nat} {xs : List (Int × Int)} {ms : List (Int × Int × Int)} (w : World) (h : Reads w w.heap.size 2 A n (flat encPair xs)) (hl : xs.length = n) (hm : n ≤ maxLen) (h' : Reads w w.heap.size 3 A' n' (flat encTrip ms)) (hl' : ms.length = n') (hm' : n' ≤ maxLen) :
    Calls Try.prog 39 #[.agg #[.int .i64 u, .int .i64 o, .int .i64 t, .slice A n c], .slice A' n' c'] w (RetRP w u o t xs ms) := by
  have HL := Lib.hid hl; have HL' := Lib.hid hl'
  unfold maxLen at hm'
  cases hk : okA u o t xs
  · have HE := Lib.hid hk
    clear hl hl'
    go_enter Try.func39, Try.ntmps39
    go_wp2_with fail
    refine absW ?_
    intro w0 hw
    have hb0 : Below w.heap.size w w0 := by rw [hw]; exact (by repeat' (first | assumption | exact Below.refl _ _ | refine Below.drew ?_ | refine belN ?_ _ | refine Below.alloc ?_ (by first | omega | (simp; done) | (simp; omega)) _ | refine Below.setCell ?_ (by first | omega | (simp; done) | (simp; omega)) _))
    have bA : Blk w0 w.heap.size 29 #[.int .i64 u, .int .i64 o, .int .i64 t, .slice A n c] := by rw [hw]; exact (Blk.new _ _ _).alloc _
    have bR : Blk w0 (w.heap.size + 1) 29 #[.int .i64 0, .int .i64 0, .int .i64 0, .slice none 0 0] := by rw [hw]; exact blk_new (by simp)
    have zR0 := bR.lt
    clear hw
    have c0 := bA.cell 0; have c1 := bA.cell 1; have c2 := bA.cell 2; have c3 := bA.cell 3
    simp at c0 c1 c2 c3
    refine (iValidAba _ (rdB h hb0) HL.out hm).mono ?_
    rintro e w1 ⟨rfl, hb⟩
    replace bR := bR.bel hb
    replace c0 := cellB c0 hb
    replace c1 := cellB c1 hb
    replace c2 := cellB c2 hb
    replace c3 := cellB c3 hb
    replace hb0 := bel2 hb0 hb
    clear hb
    have zR0 := bR.lt
    have d0 := bR.cell 0; have d1 := bR.cell 1; have d2 := bR.cell 2; have d3 := bR.cell 3; have fR := bR.frozen
    simp at d0 d1 d2 d3
    rw [hk]
    go_wp2
    refine bodyPost_ret (v := .tuple #[.agg #[.int .i64 0, .int .i64 0, .int .i64 0, .slice none 0 0], .int .i64 0, .int .i64 1]) (by simp [results, Try.results39, go_sem, d0, d1, d2, d3, zR0]) rfl (rp_no HE.out ?_)
    exact (((hb0.setCell (by first | omega | (simp; done) | (simp; omega)) _).setCell (by first | omega | (simp; done) | (simp; omega)) _).setCell (by first | omega | (simp; done) | (simp; omega)) _).setCell (by first | omega | (simp; done) | (simp; omega)) _
  have HK := Lib.hid hk
  obtain ⟨_, _, n0, n1⟩ := okA_parts hk
  rw [hl] at n0 n1
  clear hl hl' hk
  go_enter Try.func39, Try.ntmps39
  go_wp2_with fail
  refine absW ?_
  intro w0 hw
  have hb0 : Below w.heap.size w w0 := by rw [hw]; exact (by repeat' (first | assumption | exact Below.refl _ _ | refine Below.drew ?_ | refine belN ?_ _ | refine Below.alloc ?_ (by first | omega | (simp; done) | (simp; omega)) _ | refine Below.setCell ?_ (by first | omega | (simp; done) | (simp; omega)) _))
  have bA : Blk w0 w.heap.size 29 #[.int .i64 u, .int .i64 o, .int .i64 t, .slice A n c] := by rw [hw]; exact (Blk.new _ _ _).alloc _
  have bR : Blk w0 (w.heap.size + 1) 29 #[.int .i64 0, .int .i64 0, .int .i64 0, .slice none 0 0] := by rw [hw]; exact blk_new (by simp)
  have zR0 := bR.lt
  clear hw
  have c0 := bA.cell 0; have c1 := bA.cell 1; have c2 := bA.cell 2; have c3 := bA.cell 3
  simp at c0 c1 c2 c3
  refine (iValidAba _ (rdB h hb0) HL.out hm).mono ?_
  rintro e w1 ⟨rfl, hb⟩
  replace bR := bR.bel hb
  replace c0 := cellB c0 hb
  replace c1 := cellB c1 hb
  replace c2 := cellB c2 hb
  replace c3 := cellB c3 hb
  replace hb0 := bel2 hb0 hb
  clear hb
  have zR0 := bR.lt
  rw [HK.out]
  go_wp2_with fail
  refine (iWith _ (rdB h hb0) HL.out rfl n0 (by omega)).mono ?_
  rintro e w2 ⟨s, rfl, ho, hb⟩
  obtain ⟨A1, k2, rfl, _, _⟩ := ho.form
  replace bR := bR.bel hb
  replace hb0 := bel2 hb0 hb
  have zb := hb.size
  clear hb c0 c1 c2 c3
  go_wp2
  go_loopw [22] (fun i wr => ∃ (k : Nat) (cur : List (Int × Int)) (A2 : Option Addr) (c2 : Nat), k ≤ n' ∧ i = .int .i64 k ∧ Hid (cur.length = n) ∧ Hid (okA u o t cur = true) ∧ Hid (rpTo u o xs ms cur k) ∧ c2 ≤ maxLen ∧ Blk wr (w.heap.size + 1) 29 #[.int .i64 0, .int .i64 0, .int .i64 0, .slice none 0 0] ∧ Blk wr w2.heap.size 29 #[.int .i64 u, .int .i64 o, .int .i64 t, .slice A2 n c2] ∧ Own wr (w.heap.size + 2) wr.heap.size 69 2 (.slice A2 n c2) n (flat encPair cur) ∧ w2.heap.size < wr.heap.size ∧ Below w.heap.size w wr) (fun i _ => n' - (intOf i).toNat)
  case atStart => exact ⟨0, xs, A1, k2, Nat.zero_le _, rfl, HL, HK, by simp [Hid, rpTo], by assumption, bR.alloc _, Blk.new _ _ _, (ho.alloc _).more (by omega) (by first | omega | (simp; done) | (simp; omega)), (by first | omega | (simp; done) | (simp; omega)), hb0.alloc (by have := hb0.size; omega) _⟩
  case round =>
    obtain ⟨k, cur, A2, c2, hkn, rfl, HC, HO, HRP, hc2, hR, hO, hw, zO, hB⟩ := hrel
    have zsz := hB.size
    have d0 := hR.cell 0; have d1 := hR.cell 1; have d2 := hR.cell 2; have d3 := hR.cell 3; have fR := hR.frozen
    have e0 := hO.cell 0; have e1 := hO.cell 1; have e2 := hO.cell 2; have e3 := hO.cell 3
    simp at d0 d1 d2 d3 e0 e1 e2 e3
    by_cases hlt : k < n'
    · obtain ⟨b1, o1, q, hA1, hbb, hq, hc⟩ := (rdB h' hB).row_at encTrip_length (by decide) HL'.out hlt
      have r0 := hc 0 _ rfl; have r1 := hc 1 _ rfl; have r2 := hc 2 _ rfl
      simp only [Nat.add_zero] at r0
      clear hc
      have ki0 : (0 : Int) ≤ (k : Int) := Int.natCast_nonneg _
      have ki1 : (k : Int) < (n' : Int) := by omega
      subst hA1
      have x0 := fun X : Obj => cellA e0 X; have x1 := fun X : Obj => cellA e1 X; have x2 := fun X : Obj => cellA e2 X; have x3 := fun X : Obj => cellA e3 X
      obtain ⟨mc, hmc⟩ : ∃ mc, mvC u o cur q.1 q.2.1 q.2.2 = mc := ⟨_, rfl⟩
      by_cases hz : mc = 0
      · subst hz
        have HST := Lib.hid (rpTo_step HRP.out hq hmc)
        have HLN : Hid ((mvX u o cur q.1 q.2.1 q.2.2).length = n) := by unfold Hid; rw [mvX_length]; exact HC.out
        have HOK : Hid (okA u o t (mvX u o cur q.1 q.2.1 q.2.2) = true) := mvX_ok HO.out
        have HCALL := Lib.hid (fun (W : World) (hW : Reads W W.heap.size 2 A2 n (flat encPair cur)) => iMovedOk (t := t) (c := c2) W hW HC.out hm HO.out hmc)
        clear hq hmc
        go_wp2_with fail
        refine (HCALL.out _ (hw.alloc _).reads).mono ?_
        rintro e w3 ⟨s, rfl, ho3, hb3⟩
        obtain ⟨A3, k3, rfl, _, hk3⟩ := ho3.form
        have hR3 := (hR.alloc _).bel hb3; have hO3 := (hO.alloc _).bel hb3
        have zw := hb3.size
        have hB3 := bel2 (hB.alloc zsz _) hb3
        clear e0 e1 e2 e3 d0 d1 d2 d3 fR x0 x1 x2 x3 hb3
        have e0 := hO3.cell 0; have e1 := hO3.cell 1; have e2 := hO3.cell 2; have e3 := hO3.cell 3; have fO := hO3.frozen
        simp at e0 e1 e2 e3 zw
        have zO3 := hO3.lt
        have x0 := fun X : Obj => cellA e0 X; have x1 := fun X : Obj => cellA e1 X; have x2 := fun X : Obj => cellA e2 X; have x3 := fun X : Obj => cellA e3 X
        have hO4 := (((hO3.set_ 0 (.int .i64 u)).set_ 1 (.int .i64 o)).set_ 2 (.int .i64 t)).set_ 3 (.slice A3 n k3)
        simp at hO4
        have g1 := hO3.set_ 0 (.int .i64 u); have g2 := g1.set_ 1 (.int .i64 o); have g3 := g2.set_ 2 (.int .i64 t)
        have HO4 := Lib.hid hO4; have HG1 := Lib.hid g1; have HG2 := Lib.hid g2; have HG3 := Lib.hid g3
        clear hO4 g1 g2 g3
        go_wp2
        go_roundw
        case rel =>
          refine ⟨k + 1, _, A3, k3, by omega, by go_num, HLN, HOK, HST, hk3, ?_, ?_, ?_, ?_, ?_⟩
          · exact ((((hR3.far (by show w.heap.size + 1 ≠ w2.heap.size; omega) _).far (by show w.heap.size + 1 ≠ w2.heap.size; omega) _).far (by show w.heap.size + 1 ≠ w2.heap.size; omega) _).far (by show w.heap.size + 1 ≠ w2.heap.size; omega) _).alloc _
          · exact HO4.out.alloc _
          · exact (((((ho3.setBox hO3 (by decide) 0 _).setBox HG1.out (by decide) 1 _).setBox HG2.out (by decide) 2 _).setBox HG3.out (by decide) 3 _).alloc _).more (by first | omega | (simp; done) | (simp; omega)) (by first | omega | (simp; done) | (simp; omega))
          · first | omega | (simp; done) | (simp; omega)
          · exact ((((hB3.setCell (by first | omega | (simp; done) | (simp; omega)) _).setCell (by first | omega | (simp; done) | (simp; omega)) _).setCell (by first | omega | (simp; done) | (simp; omega)) _).setCell (by first | omega | (simp; done) | (simp; omega)) _).alloc (by first | omega | (simp; done) | (simp; omega)) _
        case measure => simp [intOf]; omega
      · have HEND := Lib.hid (rpTo_end HRP.out (rp_bad hq (by rw [hmc]; exact hz)))
        have b1 : (mc == 0) = false := by simp [hz]
        have b2 : (mc != 0) = true := by simp [hz]
        have HCALL := Lib.hid (fun (W : World) (hW : Reads W W.heap.size 2 A2 n (flat encPair cur)) => iMovedBad (t := t) (c := c2) W hW HC.out hm HO.out hmc hz)
        clear hq hmc hz
        go_wp2_with fail
        refine (HCALL.out _ (hw.alloc _).reads).mono ?_
        rintro e w3 ⟨s, rfl, ho3, hb3⟩
        obtain ⟨A3, k3, rfl, _, hk3⟩ := ho3.form
        have hR3 := (hR.alloc _).bel hb3; have hO3 := (hO.alloc _).bel hb3
        have hw3 := (hw.alloc _).bel hb3
        have zw := hb3.size
        have hB3 := bel2 (hB.alloc zsz _) hb3
        clear e0 e1 e2 e3 d0 d1 d2 d3 fR x0 x1 x2 x3 hb3
        have e0 := hO3.cell 0; have e1 := hO3.cell 1; have e2 := hO3.cell 2; have e3 := hO3.cell 3
        have d0 := hR3.cell 0; have d1 := hR3.cell 1; have d2 := hR3.cell 2; have d3 := hR3.cell 3; have fR := hR3.frozen
        simp at d0 d1 d2 d3 e0 e1 e2 e3 zw
        have zR3 := hR3.lt
        have x0 := fun X : Obj => cellA e0 X; have x1 := fun X : Obj => cellA e1 X; have x2 := fun X : Obj => cellA e2 X; have x3 := fun X : Obj => cellA e3 X
        go_wp2
        refine bodyPost_ret (v := .tuple #[.agg #[.int .i64 u, .int .i64 o, .int .i64 t, .slice A2 n c2], .int .i64 (k : Int), .int .i64 0]) (by simp [results, Try.results39, go_sem, d0, d1, d2, d3, zR3]) rfl (rp_yes HK.out HL.out HEND.out ?_ ?_)
        · exact (((((hw3.setLow (.inl (by first | omega | (simp; done) | (simp; omega))) _).setLow (.inl (by first | omega | (simp; done) | (simp; omega))) _).setLow (.inl (by first | omega | (simp; done) | (simp; omega))) _).setLow (.inl (by first | omega | (simp; done) | (simp; omega))) _).alloc _).more (by first | omega | (simp; done) | (simp; omega)) (by first | omega | (simp; done) | (simp; omega))
        · exact ((((hB3.setCell (by first | omega | (simp; done) | (simp; omega)) _).setCell (by first | omega | (simp; done) | (simp; omega)) _).setCell (by first | omega | (simp; done) | (simp; omega)) _).setCell (by first | omega | (simp; done) | (simp; omega)) _).alloc (by first | omega | (simp; done) | (simp; omega)) _
    · obtain rfl : k = n' := by omega
      have HEND := Lib.hid (rpTo_end HRP.out (rp_end HL'.out))
      go_wp2
      refine bodyPost_ret (v := .tuple #[.agg #[.int .i64 u, .int .i64 o, .int .i64 t, .slice A2 n c2], .int .i64 (k : Int), .int .i64 0]) (by simp [results, Try.results39, go_sem, d0, d1, d2, d3]) rfl (rp_yes HK.out HL.out HEND.out ?_ ?_)
      · exact ((((hw.setLow (.inl (by first | omega | (simp; done) | (simp; omega))) _).setLow (.inl (by first | omega | (simp; done) | (simp; omega))) _).setLow (.inl (by first | omega | (simp; done) | (simp; omega))) _).setLow (.inl (by first | omega | (simp; done) | (simp; omega))) _).more (by first | omega | (simp; done) | (simp; omega)) (by first | omega | (simp; done) | (simp; omega))
      · exact (((hB.setCell (by first | omega | (simp; done) | (simp; omega)) _).setCell (by first | omega | (simp; done) | (simp; omega)) _).setCell (by first | omega | (simp; done) | (simp; omega)) _).setCell (by first | omega | (simp; done) | (simp; omega)) _
end Go.Proofs.Ytpgifgdoikhpbaa
