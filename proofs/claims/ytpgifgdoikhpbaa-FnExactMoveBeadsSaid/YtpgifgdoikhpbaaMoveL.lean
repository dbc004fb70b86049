/- Abaci: a move of beads, both sides. No condition. -/
import Derived.Test.YtpgifgdoikhpbaaMoveI
namespace Go.Proofs.Ytpgifgdoikhpbaa
open Go.RowKit

def mbK (u o t : Int) (xs : List (Int × Int)) (r du dd : Int) : Bool := okA u o t xs && decide (mvC u o xs r du dd = 0)
def mbC (u o t : Int) (xs : List (Int × Int)) (r du dd : Int) : Int := if okA u o t xs then mvC u o xs r du dd else 1
def mbN (u o t : Int) (xs : List (Int × Int)) (r du dd : Int) : Nat := if mbK u o t xs r du dd then xs.length else 0
def mbX (u o t : Int) (xs : List (Int × Int)) (r du dd : Int) : List (Int × Int) := if mbK u o t xs r du dd then mvX u o xs r du dd else []
theorem mbN_le (u o t : Int) (xs : List (Int × Int)) (r du dd : Int) : mbN u o t xs r du dd ≤ 1073741824 := by
  unfold mbN
  split
  · rename_i h
    simp only [mbK, Bool.and_eq_true] at h
    have := okA_parts h.1
    omega
  · omega
def RetMB (w : World) (u o t : Int) (xs : List (Int × Int)) (r du dd : Int) (x : Ending) (w' : World) : Prop :=
  ∃ s, x = .returned (.tuple #[.agg #[.int .i64 (pkI (mbK u o t xs r du dd) u), .int .i64 (pkI (mbK u o t xs r du dd) o), .int .i64 (pkI (mbK u o t xs r du dd) t), s], .int .i64 (mbC u o t xs r du dd)]) ∧ Own w' w.heap.size w'.heap.size 69 2 s (mbN u o t xs r du dd) (flat encPair (mbX u o t xs r du dd)) ∧ Below w.heap.size w w'
theorem mb_no {w w' : World} {u o t k : Int} {xs : List (Int × Int)} {r du dd : Int} {s : Value} (hk : mbK u o t xs r du dd = false) (hc : mbC u o t xs r du dd = k) (ho : Own w' w.heap.size w'.heap.size 69 2 s 0 []) (hb : Below w.heap.size w w') :
    RetMB w u o t xs r du dd (.returned (.tuple #[.agg #[.int .i64 0, .int .i64 0, .int .i64 0, s], .int .i64 k])) w' := by
  refine ⟨s, ?_, ?_, hb⟩
  · rw [hk, hc]; rfl
  · unfold mbN mbX
    rw [hk]
    exact ho
theorem mb_yes {w w' : World} {u o t : Int} {xs : List (Int × Int)} {r du dd : Int} {s : Value} {n : Nat} (hok : okA u o t xs = true) (hc : mvC u o xs r du dd = 0) (hl : xs.length = n) (ho : Own w' w.heap.size w'.heap.size 69 2 s n (flat encPair (mvX u o xs r du dd))) (hb : Below w.heap.size w w') :
    RetMB w u o t xs r du dd (.returned (.tuple #[.agg #[.int .i64 u, .int .i64 o, .int .i64 t, s], .int .i64 0])) w' := by
  have hk : mbK u o t xs r du dd = true := by simp [mbK, hok, hc]
  refine ⟨s, ?_, ?_, hb⟩
  · simp [hk, mbC, hok, hc, pkI]
  · unfold mbN mbX
    rw [hk, if_pos rfl, if_pos rfl, hl]
    exact ho
theorem mb_1 {u o t : Int} {xs : List (Int × Int)} {r du dd : Int} (h : okA u o t xs = false) : mbK u o t xs r du dd = false ∧ mbC u o t xs r du dd = 1 := by simp [mbK, mbC, h]
theorem mb_c {u o t : Int} {xs : List (Int × Int)} {r du dd : Int} (h : okA u o t xs = true) (hc : ¬ mvC u o xs r du dd = 0) : mbK u o t xs r du dd = false ∧ mbC u o t xs r du dd = mvC u o xs r du dd := by simp [mbK, mbC, h, hc]

set_option maxRecDepth 100000 in
set_option maxHeartbeats 3200000 in
theorem sMoveB {u o t : Int} {A : Option Addr} {n c : Nat} {xs : List (Int × Int)} {r du dd : Int} (w : World) (h : Reads w w.heap.size 2 A n (flat encPair xs)) (hl : xs.length = n) (hm : n ≤ maxLen) :
    Calls Try.prog 25 #[.agg #[.int .i64 u, .int .i64 o, .int .i64 t, .slice A n c], .agg #[.int .i64 r, .int .i64 du, .int .i64 dd]] w (RetMB w u o t xs r du dd) := by
  have HL := Lib.hid hl
  cases hk : okA u o t xs
  · have HE := Lib.hid (mb_1 (r := r) (du := du) (dd := dd) hk)
    clear hl
    go_enter Try.func25, Try.ntmps25
    go_wp2_with fail
    refine absW ?_
    intro w0 hw
    have hb0 : Below w.heap.size w w0 := by rw [hw]; exact (by repeat' (first | assumption | exact Below.refl _ _ | refine Below.drew ?_ | refine belN ?_ _ | refine Below.alloc ?_ (by first | omega | (simp; done) | (simp; omega)) _ | refine Below.setCell ?_ (by first | omega | (simp; done) | (simp; omega)) _))
    have bA : Blk w0 w.heap.size 29 #[.int .i64 u, .int .i64 o, .int .i64 t, .slice A n c] := by rw [hw]; exact ((Blk.new _ _ _).alloc _).alloc _
    have bM : Blk w0 (w.heap.size + 1) 41 #[.int .i64 r, .int .i64 du, .int .i64 dd] := by rw [hw]; exact (blk_new (by simp)).alloc _
    have bR : Blk w0 (w.heap.size + 2) 29 #[.int .i64 0, .int .i64 0, .int .i64 0, .slice none 0 0] := by rw [hw]; exact blk_new (by simp)
    have zR0 := bR.lt
    clear hw
    have c0 := bA.cell 0; have c1 := bA.cell 1; have c2 := bA.cell 2; have c3 := bA.cell 3
    have m0 := bM.cell 0; have m1 := bM.cell 1; have m2 := bM.cell 2
    simp at c0 c1 c2 c3 m0 m1 m2
    have d0 := bR.cell 0; have d1 := bR.cell 1; have d2 := bR.cell 2; have d3 := bR.cell 3; have fR := bR.frozen
    simp at d0 d1 d2 d3
    refine (sOkA _ (rdB h hb0) HL.out hm c0 c1 c2 c3).mono ?_
    rintro e w' ⟨rfl, k1, rfl⟩
    rw [hk]
    go_wp2
    refine bodyPost_ret (v := .tuple #[.agg #[.int .i64 0, .int .i64 0, .int .i64 0, .slice none 0 0], .int .i64 1]) (by simp [results, Try.results25, go_sem, d0, d1, d2, d3, zR0]) rfl (mb_no HE.out.1 HE.out.2 (Own.nil _ _ _ _ _) ?_)
    exact ((((belN hb0 _).setCell (by first | omega | (simp; done) | (simp; omega)) _).setCell (by first | omega | (simp; done) | (simp; omega)) _).setCell (by first | omega | (simp; done) | (simp; omega)) _).setCell (by first | omega | (simp; done) | (simp; omega)) _
  have HK := Lib.hid hk
  obtain ⟨_, _, n0, n1⟩ := okA_parts hk
  rw [hl] at n0 n1
  obtain ⟨mc, hmc⟩ : ∃ mc, mvC u o xs r du dd = mc := ⟨_, rfl⟩
  have HMC := Lib.hid hmc
  by_cases hz : mc = 0
  · have HY : Hid (mvC u o xs r du dd = 0) := by unfold Hid; rw [hmc, hz]
    subst hz
    clear hl hk hmc
    go_enter Try.func25, Try.ntmps25
    go_wp2_with fail
    refine absW ?_
    intro w0 hw
    have hb0 : Below w.heap.size w w0 := by rw [hw]; exact (by repeat' (first | assumption | exact Below.refl _ _ | refine Below.drew ?_ | refine belN ?_ _ | refine Below.alloc ?_ (by first | omega | (simp; done) | (simp; omega)) _ | refine Below.setCell ?_ (by first | omega | (simp; done) | (simp; omega)) _))
    have bA : Blk w0 w.heap.size 29 #[.int .i64 u, .int .i64 o, .int .i64 t, .slice A n c] := by rw [hw]; exact ((Blk.new _ _ _).alloc _).alloc _
    have bM : Blk w0 (w.heap.size + 1) 41 #[.int .i64 r, .int .i64 du, .int .i64 dd] := by rw [hw]; exact (blk_new (by simp)).alloc _
    have bR : Blk w0 (w.heap.size + 2) 29 #[.int .i64 0, .int .i64 0, .int .i64 0, .slice none 0 0] := by rw [hw]; exact blk_new (by simp)
    have zR0 := bR.lt
    clear hw
    have c0 := bA.cell 0; have c1 := bA.cell 1; have c2 := bA.cell 2; have c3 := bA.cell 3
    have m0 := bM.cell 0; have m1 := bM.cell 1; have m2 := bM.cell 2
    simp at c0 c1 c2 c3 m0 m1 m2
    refine (sOkA _ (rdB h hb0) HL.out hm c0 c1 c2 c3).mono ?_
    rintro e w' ⟨rfl, k1, rfl⟩
    rw [HK.out]
    go_wp2_with fail
    refine (sOwnA _ ((rdB h hb0).drewN _) HL.out hm c0 c1 c2 c3 n0 (by omega)).mono ?_
    rintro e w1 ⟨s, rfl, ho, hb⟩
    obtain ⟨A1, k2, rfl, _, _⟩ := ho.form
    replace bR := (bR.drewN k1).bel hb
    replace hb0 := bel2 (belN hb0 k1) hb
    have zb := hb.size
    have zb2 : w0.heap.size ≤ w1.heap.size := zb
    replace ho : Own w1 w0.heap.size w1.heap.size 69 2 (.slice A1 n k2) n (flat encPair xs) := ho
    have x0 := cellB (show (w0.drewN k1).cell? _ = _ from m0) hb; have x1 := cellB (show (w0.drewN k1).cell? _ = _ from m1) hb; have x2 := cellB (show (w0.drewN k1).cell? _ = _ from m2) hb
    have y0 := fun X : Obj => cellA x0 X; have y1 := fun X : Obj => cellA x1 X; have y2 := fun X : Obj => cellA x2 X
    clear hb zb
    go_wp2_with fail
    refine (sMove (t := t) _ (ho.alloc _) HL.out (g := w1.heap.size) (by first | (simp; done) | (simp; rfl)) (by first | (simp; done) | (simp; rfl)) (by first | (simp; done) | (simp; rfl)) (.inr (Nat.le_refl _)) (by simp) HK.out).mono ?_
    rintro e w3 ⟨rfl, ho3, ht3⟩
    rw [HY.out]
    have c4 := fun (i : Nat) (v : Value) (hc : (w1.alloc (.cells #[.int .i64 u, .int .i64 o, .int .i64 t, .slice A1 n k2] 29)).cell? ⟨w1.heap.size, i, none⟩ = some v) => cellT hc ht3 (.inr (Nat.le_refl _))
    have o0 := c4 0 (.int .i64 u) (by simp); have o1 := c4 1 (.int .i64 o) (by simp); have o2 := c4 2 (.int .i64 t) (by simp); have o3 := c4 3 (.slice A1 n k2) (by simp)
    clear c4
    have bR3 := (bR.alloc _).touch ht3 (.inl (by omega))
    have zw := ht3.size
    have hb3 := Touch.below (hb0.alloc (by have := hb0.size; omega) _) ht3 (by first | omega | (simp; done) | (simp; omega)) (by omega)
    have zR1 := bR3.lt
    have d0 := bR3.cell 0; have d1 := bR3.cell 1; have d2 := bR3.cell 2; have d3 := bR3.cell 3; have fR := bR3.frozen
    simp at d0 d1 d2 d3
    go_wp2
    refine bodyPost_ret (v := .tuple #[.agg #[.int .i64 u, .int .i64 o, .int .i64 t, .slice A1 n k2], .int .i64 0]) (by simp [results, Try.results25, go_sem, d0, d1, d2, d3, zR1]) rfl (mb_yes HK.out HY.out HL.out ?_ ?_)
    · exact ((((ho3.setLow (.inl (by first | omega | (simp; done) | (simp; omega))) _).setLow (.inl (by first | omega | (simp; done) | (simp; omega))) _).setLow (.inl (by first | omega | (simp; done) | (simp; omega))) _).setLow (.inl (by first | omega | (simp; done) | (simp; omega))) _).more (by first | omega | (simp; done) | (simp; omega)) (by simp at zw ⊢; omega)
    · exact (((hb3.setCell (by first | omega | (simp; done) | (simp; omega)) _).setCell (by first | omega | (simp; done) | (simp; omega)) _).setCell (by first | omega | (simp; done) | (simp; omega)) _).setCell (by first | omega | (simp; done) | (simp; omega)) _
  · have HE : Hid (mbK u o t xs r du dd = false ∧ mbC u o t xs r du dd = mc) := by unfold Hid; rw [← hmc]; exact mb_c hk (by rw [hmc]; exact hz)
    have b1 : (mc == 0) = false := by simp [hz]
    have b2 : (mc != 0) = true := by simp [hz]
    clear hl hk hmc hz
    go_enter Try.func25, Try.ntmps25
    go_wp2_with fail
    refine absW ?_
    intro w0 hw
    have hb0 : Below w.heap.size w w0 := by rw [hw]; exact (by repeat' (first | assumption | exact Below.refl _ _ | refine Below.drew ?_ | refine belN ?_ _ | refine Below.alloc ?_ (by first | omega | (simp; done) | (simp; omega)) _ | refine Below.setCell ?_ (by first | omega | (simp; done) | (simp; omega)) _))
    have bA : Blk w0 w.heap.size 29 #[.int .i64 u, .int .i64 o, .int .i64 t, .slice A n c] := by rw [hw]; exact ((Blk.new _ _ _).alloc _).alloc _
    have bM : Blk w0 (w.heap.size + 1) 41 #[.int .i64 r, .int .i64 du, .int .i64 dd] := by rw [hw]; exact (blk_new (by simp)).alloc _
    have bR : Blk w0 (w.heap.size + 2) 29 #[.int .i64 0, .int .i64 0, .int .i64 0, .slice none 0 0] := by rw [hw]; exact blk_new (by simp)
    have zR0 := bR.lt
    clear hw
    have c0 := bA.cell 0; have c1 := bA.cell 1; have c2 := bA.cell 2; have c3 := bA.cell 3
    have m0 := bM.cell 0; have m1 := bM.cell 1; have m2 := bM.cell 2
    simp at c0 c1 c2 c3 m0 m1 m2
    refine (sOkA _ (rdB h hb0) HL.out hm c0 c1 c2 c3).mono ?_
    rintro e w' ⟨rfl, k1, rfl⟩
    rw [HK.out]
    go_wp2_with fail
    refine (sOwnA _ ((rdB h hb0).drewN _) HL.out hm c0 c1 c2 c3 n0 (by omega)).mono ?_
    rintro e w1 ⟨s, rfl, ho, hb⟩
    obtain ⟨A1, k2, rfl, _, _⟩ := ho.form
    replace bR := (bR.drewN k1).bel hb
    replace hb0 := bel2 (belN hb0 k1) hb
    have zb := hb.size
    have zb2 : w0.heap.size ≤ w1.heap.size := zb
    replace ho : Own w1 w0.heap.size w1.heap.size 69 2 (.slice A1 n k2) n (flat encPair xs) := ho
    have x0 := cellB (show (w0.drewN k1).cell? _ = _ from m0) hb; have x1 := cellB (show (w0.drewN k1).cell? _ = _ from m1) hb; have x2 := cellB (show (w0.drewN k1).cell? _ = _ from m2) hb
    have y0 := fun X : Obj => cellA x0 X; have y1 := fun X : Obj => cellA x1 X; have y2 := fun X : Obj => cellA x2 X
    clear hb zb
    go_wp2_with fail
    refine (sMove (t := t) _ (ho.alloc _) HL.out (g := w1.heap.size) (by first | (simp; done) | (simp; rfl)) (by first | (simp; done) | (simp; rfl)) (by first | (simp; done) | (simp; rfl)) (.inr (Nat.le_refl _)) (by simp) HK.out).mono ?_
    rintro e w3 ⟨rfl, ho3, ht3⟩
    rw [HMC.out]
    have bR3 := (bR.alloc _).touch ht3 (.inl (by omega))
    have zw := ht3.size
    have hb3 := Touch.below (hb0.alloc (by have := hb0.size; omega) _) ht3 (by first | omega | (simp; done) | (simp; omega)) (by omega)
    have zR1 := bR3.lt
    have d0 := bR3.cell 0; have d1 := bR3.cell 1; have d2 := bR3.cell 2; have d3 := bR3.cell 3; have fR := bR3.frozen
    simp at d0 d1 d2 d3
    go_wp2
    refine bodyPost_ret (v := .tuple #[.agg #[.int .i64 0, .int .i64 0, .int .i64 0, .slice none 0 0], .int .i64 mc]) (by simp [results, Try.results25, go_sem, d0, d1, d2, d3, zR1]) rfl (mb_no HE.out.1 HE.out.2 (Own.nil _ _ _ _ _) ?_)
    exact (((hb3.setCell (by first | omega | (simp; done) | (simp; omega)) _).setCell (by first | omega | (simp; done) | (simp; omega)) _).setCell (by first | omega | (simp; done) | (simp; omega)) _).setCell (by first | omega | (simp; done) | (simp; omega)) _

theorem iMovedOk {u o t : Int} {A : Option Addr} {n c : Nat} {xs : List (Int × Int)} {r du dd : Int} (w : World) (h : Reads w w.heap.size 2 A n (flat encPair xs)) (hl : xs.length = n) (hm : n ≤ maxLen) (hok : okA u o t xs = true) (hc : mvC u o xs r du dd = 0) :
    Calls Try.prog 63 #[.agg #[.int .i64 u, .int .i64 o, .int .i64 t, .slice A n c], .agg #[.int .i64 r, .int .i64 du, .int .i64 dd]] w (RetAV w u o t n (flat encPair (mvX u o xs r du dd)) (.int .i64 0)) :=
  (iMoved w h hl hm hok).mono fun _ _ hp => hp.elim (fun h => by rw [← hl]; exact h.2) (fun h => absurd hc h.1)
theorem iMovedBad {u o t : Int} {A : Option Addr} {n c : Nat} {xs : List (Int × Int)} {r du dd mc : Int} (w : World) (h : Reads w w.heap.size 2 A n (flat encPair xs)) (hl : xs.length = n) (hm : n ≤ maxLen) (hok : okA u o t xs = true) (hmc : mvC u o xs r du dd = mc) (hc : ¬ mc = 0) :
    Calls Try.prog 63 #[.agg #[.int .i64 u, .int .i64 o, .int .i64 t, .slice A n c], .agg #[.int .i64 r, .int .i64 du, .int .i64 dd]] w (RetAV w 0 0 0 0 [] (.int .i64 mc)) :=
  (iMoved w h hl hm hok).mono fun _ _ hp => hp.elim (fun h => absurd (hmc.symm.trans h.1) hc) (fun h => by rw [← hmc]; exact h.2)

set_option maxRecDepth 100000 in
set_option maxHeartbeats 3200000 in
theorem iMoveB {u o t : Int} {A : Option Addr} {n c : Nat} {xs : List (Int × Int)} {r du dd : Int} (w : World) (h : Reads w w.heap.size 2 A n (flat encPair xs)) (hl : xs.length = n) (hm : n ≤ maxLen) :
    Calls Try.prog 27 #[.agg #[.int .i64 u, .int .i64 o, .int .i64 t, .slice A n c], .agg #[.int .i64 r, .int .i64 du, .int .i64 dd]] w (RetMB w u o t xs r du dd) := by
  have HL := Lib.hid hl
  cases hk : okA u o t xs
  · have HE := Lib.hid (mb_1 (r := r) (du := du) (dd := dd) hk)
    clear hl
    go_enter Try.func27, Try.ntmps27
    go_wp2_with fail
    refine absW ?_
    intro w0 hw
    have hb0 : Below w.heap.size w w0 := by rw [hw]; exact (by repeat' (first | assumption | exact Below.refl _ _ | refine Below.drew ?_ | refine belN ?_ _ | refine Below.alloc ?_ (by first | omega | (simp; done) | (simp; omega)) _ | refine Below.setCell ?_ (by first | omega | (simp; done) | (simp; omega)) _))
    have bA : Blk w0 w.heap.size 29 #[.int .i64 u, .int .i64 o, .int .i64 t, .slice A n c] := by rw [hw]; exact ((Blk.new _ _ _).alloc _).alloc _
    have bM : Blk w0 (w.heap.size + 1) 41 #[.int .i64 r, .int .i64 du, .int .i64 dd] := by rw [hw]; exact (blk_new (by simp)).alloc _
    have bR : Blk w0 (w.heap.size + 2) 29 #[.int .i64 0, .int .i64 0, .int .i64 0, .slice none 0 0] := by rw [hw]; exact blk_new (by simp)
    have zR0 := bR.lt
    clear hw
    have c0 := bA.cell 0; have c1 := bA.cell 1; have c2 := bA.cell 2; have c3 := bA.cell 3
    have m0 := bM.cell 0; have m1 := bM.cell 1; have m2 := bM.cell 2
    simp at c0 c1 c2 c3 m0 m1 m2
    refine (iValidAba _ (rdB h hb0) HL.out hm).mono ?_
    rintro e w1 ⟨rfl, hb⟩
    replace bR := bR.bel hb
    replace c0 := cellB c0 hb
    replace c1 := cellB c1 hb
    replace c2 := cellB c2 hb
    replace c3 := cellB c3 hb
    replace m0 := cellB m0 hb
    replace m1 := cellB m1 hb
    replace m2 := cellB m2 hb
    replace hb0 := bel2 hb0 hb
    clear hb
    have zR0 := bR.lt
    have d0 := bR.cell 0; have d1 := bR.cell 1; have d2 := bR.cell 2; have d3 := bR.cell 3; have fR := bR.frozen
    simp at d0 d1 d2 d3
    rw [hk]
    go_wp2
    refine bodyPost_ret (v := .tuple #[.agg #[.int .i64 0, .int .i64 0, .int .i64 0, .slice none 0 0], .int .i64 1]) (by simp [results, Try.results27, go_sem, d0, d1, d2, d3, zR0]) rfl (mb_no HE.out.1 HE.out.2 (Own.nil _ _ _ _ _) ?_)
    exact (((hb0.setCell (by first | omega | (simp; done) | (simp; omega)) _).setCell (by first | omega | (simp; done) | (simp; omega)) _).setCell (by first | omega | (simp; done) | (simp; omega)) _).setCell (by first | omega | (simp; done) | (simp; omega)) _
  have HK := Lib.hid hk
  obtain ⟨_, _, n0, n1⟩ := okA_parts hk
  rw [hl] at n0 n1
  obtain ⟨mc, hmc⟩ : ∃ mc, mvC u o xs r du dd = mc := ⟨_, rfl⟩
  have HMC := Lib.hid hmc
  by_cases hz : mc = 0
  · have HY : Hid (mvC u o xs r du dd = 0) := by unfold Hid; rw [hmc, hz]
    subst hz
    clear hl hk hmc
    go_enter Try.func27, Try.ntmps27
    go_wp2_with fail
    refine absW ?_
    intro w0 hw
    have hb0 : Below w.heap.size w w0 := by rw [hw]; exact (by repeat' (first | assumption | exact Below.refl _ _ | refine Below.drew ?_ | refine belN ?_ _ | refine Below.alloc ?_ (by first | omega | (simp; done) | (simp; omega)) _ | refine Below.setCell ?_ (by first | omega | (simp; done) | (simp; omega)) _))
    have bA : Blk w0 w.heap.size 29 #[.int .i64 u, .int .i64 o, .int .i64 t, .slice A n c] := by rw [hw]; exact ((Blk.new _ _ _).alloc _).alloc _
    have bM : Blk w0 (w.heap.size + 1) 41 #[.int .i64 r, .int .i64 du, .int .i64 dd] := by rw [hw]; exact (blk_new (by simp)).alloc _
    have bR : Blk w0 (w.heap.size + 2) 29 #[.int .i64 0, .int .i64 0, .int .i64 0, .slice none 0 0] := by rw [hw]; exact blk_new (by simp)
    have zR0 := bR.lt
    clear hw
    have c0 := bA.cell 0; have c1 := bA.cell 1; have c2 := bA.cell 2; have c3 := bA.cell 3
    have m0 := bM.cell 0; have m1 := bM.cell 1; have m2 := bM.cell 2
    simp at c0 c1 c2 c3 m0 m1 m2
    refine (iValidAba _ (rdB h hb0) HL.out hm).mono ?_
    rintro e w1 ⟨rfl, hb⟩
    replace bR := bR.bel hb
    replace c0 := cellB c0 hb
    replace c1 := cellB c1 hb
    replace c2 := cellB c2 hb
    replace c3 := cellB c3 hb
    replace m0 := cellB m0 hb
    replace m1 := cellB m1 hb
    replace m2 := cellB m2 hb
    replace hb0 := bel2 hb0 hb
    clear hb
    have zR0 := bR.lt
    rw [HK.out]
    go_wp2_with fail
    refine (iMovedOk _ (rdB h hb0) HL.out hm HK.out HY.out).mono ?_
    rintro e w2 ⟨s, rfl, ho, hb⟩
    obtain ⟨A1, k2, rfl, _, _⟩ := ho.form
    replace bR := bR.bel hb
    replace hb0 := bel2 hb0 hb
    have zR1 := bR.lt
    have d0 := bR.cell 0; have d1 := bR.cell 1; have d2 := bR.cell 2; have d3 := bR.cell 3; have fR := bR.frozen
    simp at d0 d1 d2 d3
    go_wp2
    refine bodyPost_ret (v := .tuple #[.agg #[.int .i64 u, .int .i64 o, .int .i64 t, .slice A1 n k2], .int .i64 0]) (by simp [results, Try.results27, go_sem, d0, d1, d2, d3, zR1]) rfl (mb_yes HK.out HY.out HL.out ?_ ?_)
    · exact ((((ho.setLow (.inl (by first | omega | (simp; done) | (simp; omega))) _).setLow (.inl (by first | omega | (simp; done) | (simp; omega))) _).setLow (.inl (by first | omega | (simp; done) | (simp; omega))) _).setLow (.inl (by first | omega | (simp; done) | (simp; omega))) _).more (by first | omega | (simp; done) | (simp; omega)) (by first | omega | (simp; done) | (simp; omega))
    · exact (((hb0.setCell (by first | omega | (simp; done) | (simp; omega)) _).setCell (by first | omega | (simp; done) | (simp; omega)) _).setCell (by first | omega | (simp; done) | (simp; omega)) _).setCell (by first | omega | (simp; done) | (simp; omega)) _
  · have HE : Hid (mbK u o t xs r du dd = false ∧ mbC u o t xs r du dd = mc) := by unfold Hid; rw [← hmc]; exact mb_c hk (by rw [hmc]; exact hz)
    have HZ := Lib.hid hz
    clear hl hk hmc hz
    go_enter Try.func27, Try.ntmps27
    go_wp2_with fail
    refine absW ?_
    intro w0 hw
    have hb0 : Below w.heap.size w w0 := by rw [hw]; exact (by repeat' (first | assumption | exact Below.refl _ _ | refine Below.drew ?_ | refine belN ?_ _ | refine Below.alloc ?_ (by first | omega | (simp; done) | (simp; omega)) _ | refine Below.setCell ?_ (by first | omega | (simp; done) | (simp; omega)) _))
    have bA : Blk w0 w.heap.size 29 #[.int .i64 u, .int .i64 o, .int .i64 t, .slice A n c] := by rw [hw]; exact ((Blk.new _ _ _).alloc _).alloc _
    have bM : Blk w0 (w.heap.size + 1) 41 #[.int .i64 r, .int .i64 du, .int .i64 dd] := by rw [hw]; exact (blk_new (by simp)).alloc _
    have bR : Blk w0 (w.heap.size + 2) 29 #[.int .i64 0, .int .i64 0, .int .i64 0, .slice none 0 0] := by rw [hw]; exact blk_new (by simp)
    have zR0 := bR.lt
    clear hw
    have c0 := bA.cell 0; have c1 := bA.cell 1; have c2 := bA.cell 2; have c3 := bA.cell 3
    have m0 := bM.cell 0; have m1 := bM.cell 1; have m2 := bM.cell 2
    simp at c0 c1 c2 c3 m0 m1 m2
    refine (iValidAba _ (rdB h hb0) HL.out hm).mono ?_
    rintro e w1 ⟨rfl, hb⟩
    replace bR := bR.bel hb
    replace c0 := cellB c0 hb
    replace c1 := cellB c1 hb
    replace c2 := cellB c2 hb
    replace c3 := cellB c3 hb
    replace m0 := cellB m0 hb
    replace m1 := cellB m1 hb
    replace m2 := cellB m2 hb
    replace hb0 := bel2 hb0 hb
    clear hb
    have zR0 := bR.lt
    rw [HK.out]
    go_wp2_with fail
    refine (iMovedBad _ (rdB h hb0) HL.out hm HK.out HMC.out HZ.out).mono ?_
    rintro e w2 ⟨s, rfl, ho, hb⟩
    obtain ⟨A1, k2, rfl, _, _⟩ := ho.form
    replace bR := bR.bel hb
    replace hb0 := bel2 hb0 hb
    have zR1 := bR.lt
    have d0 := bR.cell 0; have d1 := bR.cell 1; have d2 := bR.cell 2; have d3 := bR.cell 3; have fR := bR.frozen
    simp at d0 d1 d2 d3
    go_wp2
    refine bodyPost_ret (v := .tuple #[.agg #[.int .i64 0, .int .i64 0, .int .i64 0, .slice A1 0 k2], .int .i64 mc]) (by simp [results, Try.results27, go_sem, d0, d1, d2, d3, zR1]) rfl (mb_no HE.out.1 HE.out.2 ?_ ?_)
    · exact ((((ho.setLow (.inl (by first | omega | (simp; done) | (simp; omega))) _).setLow (.inl (by first | omega | (simp; done) | (simp; omega))) _).setLow (.inl (by first | omega | (simp; done) | (simp; omega))) _).setLow (.inl (by first | omega | (simp; done) | (simp; omega))) _).more (by first | omega | (simp; done) | (simp; omega)) (by first | omega | (simp; done) | (simp; omega))
    · exact (((hb0.setCell (by first | omega | (simp; done) | (simp; omega)) _).setCell (by first | omega | (simp; done) | (simp; omega)) _).setCell (by first | omega | (simp; done) | (simp; omega)) _).setCell (by first | omega | (simp; done) | (simp; omega)) _
end Go.Proofs.Ytpgifgdoikhpbaa
