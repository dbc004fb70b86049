/- The complement of a register. No condition. -/
import Derived.Test.YtndodfolpjkppaaNew
namespace Go.Proofs.Ytndodfolpjkppaa
open Go.RowKit

def cmXs (b : Int) (xs : List Int) : List Int := xs.map fun d => b - 1 - d
def coOk (b : Int) (xs : List Int) : Bool := okR b xs && okR b (cmXs b xs)
def coCode (b : Int) (xs : List Int) : Int := if okR b xs then (if okR b (cmXs b xs) then 0 else 5) else 1
def coBase (b : Int) (xs : List Int) : Int := if coOk b xs then b else 0
def coN (b : Int) (xs : List Int) : Nat := if coOk b xs then xs.length else 0
def coXs (b : Int) (xs : List Int) : List Int := if coOk b xs then cmXs b xs else []
theorem co_bad {b : Int} {xs : List Int} (h : okR b xs = false) : coCode b xs = 1 ∧ coBase b xs = 0 ∧ coN b xs = 0 ∧ coXs b xs = [] := by simp [coCode, coBase, coN, coXs, coOk, h]
theorem co_full {b : Int} {xs : List Int} (h : okR b xs = true) (h' : okR b (cmXs b xs) = false) : coCode b xs = 5 ∧ coBase b xs = 0 ∧ coN b xs = 0 ∧ coXs b xs = [] := by simp [coCode, coBase, coN, coXs, coOk, h, h']
theorem co_ok {b : Int} {xs : List Int} (h : okR b xs = true) (h' : okR b (cmXs b xs) = true) : coCode b xs = 0 ∧ coBase b xs = b ∧ coN b xs = xs.length ∧ coXs b xs = cmXs b xs := by simp [coCode, coBase, coN, coXs, coOk, h, h']
theorem coN_le (b : Int) (xs : List Int) : coN b xs ≤ 1073741824 := by
  unfold coN
  split
  · rename_i h
    simp only [coOk, Bool.and_eq_true] at h
    have := (okR_parts h.1).2.1
    omega
  · omega
theorem cm_take {b x : Int} {xs : List Int} {k : Nat} (hx : xs[k]? = some x) : (cmXs b xs).take (k + 1) = (cmXs b xs).take k ++ [b - 1 - x] := by
  rw [List.take_add_one]
  simp [cmXs, hx]
theorem cm_length (b : Int) (xs : List Int) : (cmXs b xs).length = xs.length := by simp [cmXs]

set_option maxHeartbeats 800000 in
theorem iSole {b : Int} {A : Option Addr} {n c : Nat} {xs : List Int} (w : World) (h : Reads w w.heap.size 1 A n (xs.map (Value.int .i64))) (hl : xs.length = n) (hm : n ≤ maxLen) :
    Calls Try.prog 70 #[.agg #[.int .i64 b, .slice A n c]] w fun e w' => e = .returned (.tuple #[if okR b xs then .agg #[.int .i64 b, .slice A n c] else .agg #[.int .i64 0, .slice none 0 0], .int .i64 (if okR b xs then 0 else 5)]) ∧ Below w.heap.size w w' := by
  cases hk : okR b xs
  all_goals
    go_enter Try.func70, Try.ntmps70
    go_wp2_with fail
    refine absW ?_
    intro w0 hw
    have hb0 : Below w.heap.size w w0 := by rw [hw]; exact (by repeat' (first | assumption | exact Below.refl _ _ | refine Below.drew ?_ | refine Below.alloc ?_ (by first | omega | (simp; done) | (simp; omega)) _))
    have hG : Blk w0 w.heap.size 27 #[.int .i64 b, .slice A n c] := by rw [hw]; exact (Blk.new _ _ _).alloc _
    have hR : Blk w0 (w.heap.size + 1) 27 #[.int .i64 0, .slice none 0 0] := by rw [hw]; simpa using Blk.new (w.alloc (.cells #[.int .i64 b, .slice A n c] 27)) 27 #[.int .i64 0, .slice none 0 0]
    clear hw
    refine (iValidReg _ (rdB h hb0) hl hm).mono ?_
    rintro e w1 ⟨rfl, hb⟩
    replace hG := hG.bel hb; replace hR := hR.bel hb; replace hb0 := bel2 hb0 hb
    clear hb
    have c0 := hG.cell 0; have c1 := hG.cell 1; have d0 := hR.cell 0; have d1 := hR.cell 1; have fR := hR.frozen
    simp at c0 c1 d0 d1
    go_wp2
  · refine bodyPost_ret (v := .tuple #[.agg #[.int .i64 0, .slice none 0 0], .int .i64 5]) (by simp [results, Try.results70, go_sem, d0, d1]) rfl ⟨rfl, (hb0.setCell (by simp) _).setCell (by simp) _⟩
  · refine bodyPost_ret (v := .tuple #[.agg #[.int .i64 b, .slice A n c], .int .i64 0]) (by simp [results, Try.results70, go_sem, d0, d1]) rfl ⟨rfl, (hb0.setCell (by simp) _).setCell (by simp) _⟩

set_option maxHeartbeats 3200000 in
theorem sCompReg {b : Int} {A : Option Addr} {n c : Nat} {xs : List Int} (w : World) (h : Reads w w.heap.size 1 A n (xs.map (Value.int .i64))) (hl : xs.length = n) (hm : n ≤ maxLen) :
    Calls Try.prog 40 #[.agg #[.int .i64 b, .slice A n c]] w (RetRC w (coBase b xs) (coN b xs) ((coXs b xs).map (Value.int .i64)) (coCode b xs)) := by
  have HL := Lib.hid hl; clear hl
  cases hk : okR b xs
  · obtain ⟨e1, e2, e3, e4⟩ := co_bad hk
    rw [e1, e2, e3, e4]
    clear e1 e2 e3 e4
    go_enter Try.func40, Try.ntmps40
    go_wp2_with fail
    refine absW ?_
    intro w0 hw
    have hb0 : Below w.heap.size w w0 := by rw [hw]; exact (by repeat' (first | assumption | exact Below.refl _ _ | refine Below.drew ?_ | refine Below.alloc ?_ (by first | omega | (simp; done) | (simp; omega)) _))
    have hz0 : w.heap.size + 2 ≤ w0.heap.size := by rw [hw]; simp
    have hG : Blk w0 w.heap.size 27 #[.int .i64 b, .slice A n c] := by rw [hw]; exact (Blk.new _ _ _).alloc _
    have hR : Blk w0 (w.heap.size + 1) 27 #[.int .i64 0, .slice none 0 0] := by rw [hw]; simpa using Blk.new (w.alloc (.cells #[.int .i64 b, .slice A n c] 27)) 27 #[.int .i64 0, .slice none 0 0]
    clear hw
    have c0 := hG.cell 0; have c1 := hG.cell 1
    simp at c0 c1
    refine (sOkR _ (rdB h hb0) HL.out hm c0 c1).mono ?_
    rintro e w1 ⟨rfl, kk, hw1⟩
    have hb := RetQ.bel (w := w0) kk
    rw [← hw1] at hb
    clear hw1
    replace hG := hG.bel hb; replace hR := hR.bel hb; replace hb0 := bel2 hb0 hb; replace hz0 := Nat.le_trans hz0 hb.size
    clear hb c0 c1
    have c0 := hG.cell 0; have c1 := hG.cell 1; have d0 := hR.cell 0; have d1 := hR.cell 1; have fR := hR.frozen
    simp at c0 c1 d0 d1
    go_wp2
    refine bodyPost_ret (v := .tuple #[.agg #[.int .i64 0, .slice none 0 0], .int .i64 1]) (by simp [results, Try.results40, go_sem, d0, d1]) rfl ⟨_, rfl, Own.nil _ _ _ _ _, ?_⟩
    exact (hb0.setCell (by simp) _).setCell (by simp) _
  · obtain ⟨⟨b1, b2⟩, ⟨n1, n2⟩, hd, _⟩ := okR_parts hk
    have HD := Lib.hid hd; clear hd
    have HK := Lib.hid hk; clear hk
    rw [HL.out] at n1 n2
    have hk := HK.out
    go_enter Try.func40, Try.ntmps40
    go_wp2_with fail
    refine absW ?_
    intro w0 hw
    have hb0 : Below w.heap.size w w0 := by rw [hw]; exact (by repeat' (first | assumption | exact Below.refl _ _ | refine Below.drew ?_ | refine Below.alloc ?_ (by first | omega | (simp; done) | (simp; omega)) _))
    have hz0 : w.heap.size + 2 ≤ w0.heap.size := by rw [hw]; simp
    have hG : Blk w0 w.heap.size 27 #[.int .i64 b, .slice A n c] := by rw [hw]; exact (Blk.new _ _ _).alloc _
    have hR : Blk w0 (w.heap.size + 1) 27 #[.int .i64 0, .slice none 0 0] := by rw [hw]; simpa using Blk.new (w.alloc (.cells #[.int .i64 b, .slice A n c] 27)) 27 #[.int .i64 0, .slice none 0 0]
    clear hw
    have c0 := hG.cell 0; have c1 := hG.cell 1
    simp at c0 c1
    refine (sOkR _ (rdB h hb0) HL.out hm c0 c1).mono ?_
    rintro e w1 ⟨rfl, kk, hw1⟩
    have hb := RetQ.bel (w := w0) kk
    rw [← hw1] at hb
    clear hw1
    replace hG := hG.bel hb; replace hR := hR.bel hb; replace hb0 := bel2 hb0 hb; replace hz0 := Nat.le_trans hz0 hb.size
    clear hb c0 c1
    have c0 := hG.cell 0; have c1 := hG.cell 1; have d0 := hR.cell 0; have d1 := hR.cell 1; have fR := hR.frozen
    simp at c0 c1 d0 d1
    have a0 := fun X : Obj => cellA c0 X; have a1 := fun X : Obj => cellA c1 X
    go_wp2
    clear a0 a1
    go_loopw [5] (fun i wr => ∃ (k : Nat) (A' : Option Addr) (c' : Nat), k ≤ n ∧ i = .int .i64 k ∧ Blk wr w.heap.size 27 #[.int .i64 b, .slice A n c] ∧ Blk wr (w.heap.size + 1) 27 #[.int .i64 0, .slice none 0 0] ∧ Blk wr w1.heap.size 27 #[.int .i64 b, .slice A' k c'] ∧
        Own wr (w1.heap.size + 1) wr.heap.size 2 1 (.slice A' k c') k (((cmXs b xs).take k).map (Value.int .i64)) ∧ w1.heap.size + 1 ≤ wr.heap.size ∧ Below w.heap.size w wr) (fun i _ => n - (intOf i).toNat)
    case atStart => exact ⟨0, none, 0, Nat.zero_le _, rfl, hG.alloc _, hR.alloc _, Blk.new _ _ _, Own.nil _ _ _ _ _, by simp, hb0.alloc (by omega) _⟩
    case round =>
      clear c0 c1 d0 d1 fR hG hR
      obtain ⟨k, A', c', hk, rfl, hG, hR, hO, ho, hs, hB⟩ := hrel
      have c0 := hG.cell 0; have c1 := hG.cell 1; have d0 := hR.cell 0; have d1 := hR.cell 1; have g0 := hO.cell 0; have g1 := hO.cell 1; have fR := hR.frozen; have fO := hO.frozen
      simp at c0 c1 d0 d1 g0 g1
      by_cases hlt : k < n
      · obtain ⟨ad, x, rfl, _, hx, hc⟩ := (rdB h hB).int_at hlt
        obtain ⟨x0, x1⟩ := dig_at HD.out hx
        have HX := Lib.hid (cm_take (b := b) hx); clear hx
        have W1 : IntKind.i64.wrap (b - 1) = b - 1 := IntWalk.i64_in _ (by omega)
        have W2 : IntKind.i64.wrap (b - 1 - x) = b - 1 - x := IntWalk.i64_in _ (by omega)
        have a0 := fun X : Obj => cellA c0 X; have a1 := fun X : Obj => cellA c1 X; have b0 := fun X : Obj => cellA g0 X; have b1' := fun X : Obj => cellA g1 X; have ac := fun X : Obj => cellA hc X
        have ki0 : (0 : Int) ≤ (k : Int) := Int.natCast_nonneg _
        have ki1 : (k : Int) < (n : Int) := by omega
        go_wp2_with fail
        go_region_law ((refine step_app1 (by rfl) (.tmp 20) (.tmp 30) (by rfl) eltI (by rfl) ((ho.alloc _).drew) (by rfl) (Blk.new _ _ _) (by rfl) (one_int _) (by omega) (by simp; omega) ?_; intro A2 c2 w2 ho2 ht2; have hG2 := Blk.touch ((hG.alloc _).drew) ht2 (.inl (by omega)); have hR2 := Blk.touch ((hR.alloc _).drew) ht2 (.inl (by omega)); have hO2 := Blk.touch ((hO.alloc _).drew) ht2 (.inl (by omega)); have o0 := hO2.cell 0; have o1 := hO2.cell 1; have fO2 := hO2.frozen; simp at o0 o1))
        all_goals
          clear a0 a1 b0 b1' ac W1 W2
          have hz2 := ht2.size
          go_wp2
          go_roundw
          case rel => exact ⟨k + 1, A2, c2, by omega, by go_num, hG2.far (by simp; omega) _, hR2.far (by simp; omega) _, by simpa using hO2.set_ 1 (.slice A2 (k + 1) c2), by rw [HX.out]; simpa using (ho2.setLow (p := ⟨w1.heap.size, 1, none⟩) (.inl (by simp)) _), by simp at hz2 ⊢; omega, (Touch.below ((hB.alloc (by omega) _).drew) ht2 (by simp; omega) (by omega)).setCell (by simp; omega) _⟩
          case measure => simp [intOf]; omega
      · obtain rfl : k = n := by omega
        have HT : Hid ((cmXs b xs).take k = cmXs b xs) := by unfold Hid; rw [List.take_of_length_le (by rw [cm_length, HL.out]; exact Nat.le_refl _)]
        rw [HT.out] at ho
        go_wp2_with fail
        refine (sOkR _ ho.reads (by rw [cm_length, HL.out]) hm g0 g1).mono ?_
        rintro e w3 ⟨rfl, kk3, hw3⟩
        have hb3 := RetQ.bel (w := wr) kk3
        rw [← hw3] at hb3
        clear hw3
        replace hR := hR.bel hb3; replace hO := hO.bel hb3; replace ho := ho.bel hb3; replace hB := bel2 hB hb3
        have hz3 := hb3.size
        clear c0 c1 d0 d1 g0 g1 fR fO hb3
        have d0 := hR.cell 0; have d1 := hR.cell 1; have g0 := hO.cell 0; have g1 := hO.cell 1; have fR := hR.frozen
        simp at d0 d1 g0 g1
        cases h2 : okR b (cmXs b xs)
        · have HE := Lib.hid (co_full HK.out h2)
          go_wp2
          refine bodyPost_ret (v := .tuple #[.agg #[.int .i64 0, .slice none 0 0], .int .i64 5]) (by simp [results, Try.results40, go_sem, d0, d1]) rfl ?_
          obtain ⟨e1, e2, e3, e4⟩ := HE.out
          rw [e1, e2, e3, e4]
          refine ⟨_, rfl, Own.nil _ _ _ _ _, ?_⟩
          exact (hB.setCell (by simp) _).setCell (by simp) _
        · have HE := Lib.hid (co_ok HK.out h2)
          go_wp2
          refine bodyPost_ret (v := .tuple #[.agg #[.int .i64 b, .slice A' k c'], .int .i64 0]) (by simp [results, Try.results40, go_sem, d0, d1]) rfl ?_
          obtain ⟨e1, e2, e3, e4⟩ := HE.out
          rw [e1, e2, e3, e4, HL.out]
          refine ⟨_, rfl, ?_, ?_⟩
          · exact ((ho.setLow (p := ⟨w.heap.size + 1, 0, none⟩) (.inl (by simp; omega)) _).setLow (p := ⟨w.heap.size + 1, 1, none⟩) (.inl (by simp; omega)) _).more (by omega) (by simpa using hz3)
          · exact (hB.setCell (by simp) _).setCell (by simp) _

set_option maxHeartbeats 3200000 in
theorem iCompReg {b : Int} {A : Option Addr} {n c : Nat} {xs : List Int} (w : World) (h : Reads w w.heap.size 1 A n (xs.map (Value.int .i64))) (hl : xs.length = n) (hm : n ≤ maxLen) :
    Calls Try.prog 41 #[.agg #[.int .i64 b, .slice A n c]] w (RetRC w (coBase b xs) (coN b xs) ((coXs b xs).map (Value.int .i64)) (coCode b xs)) := by
  have HL := Lib.hid hl; clear hl
  cases hk : okR b xs
  · obtain ⟨e1, e2, e3, e4⟩ := co_bad hk
    rw [e1, e2, e3, e4]
    clear e1 e2 e3 e4
    go_enter Try.func41, Try.ntmps41
    go_wp2_with fail
    refine absW ?_
    intro w0 hw
    have hb0 : Below w.heap.size w w0 := by rw [hw]; exact (by repeat' (first | assumption | exact Below.refl _ _ | refine Below.drew ?_ | refine Below.alloc ?_ (by first | omega | (simp; done) | (simp; omega)) _))
    have hz0 : w.heap.size + 2 ≤ w0.heap.size := by rw [hw]; simp
    have hG : Blk w0 w.heap.size 27 #[.int .i64 b, .slice A n c] := by rw [hw]; exact (Blk.new _ _ _).alloc _
    have hR : Blk w0 (w.heap.size + 1) 27 #[.int .i64 0, .slice none 0 0] := by rw [hw]; simpa using Blk.new (w.alloc (.cells #[.int .i64 b, .slice A n c] 27)) 27 #[.int .i64 0, .slice none 0 0]
    clear hw
    have c0 := hG.cell 0; have c1 := hG.cell 1
    simp at c0 c1
    refine (iValidReg _ (rdB h hb0) HL.out hm).mono ?_
    rintro e w1 ⟨rfl, hb⟩
    replace hG := hG.bel hb; replace hR := hR.bel hb; replace hb0 := bel2 hb0 hb; replace hz0 := Nat.le_trans hz0 hb.size
    clear hb c0 c1
    have c0 := hG.cell 0; have c1 := hG.cell 1; have d0 := hR.cell 0; have d1 := hR.cell 1; have fR := hR.frozen
    simp at c0 c1 d0 d1
    go_wp2
    refine bodyPost_ret (v := .tuple #[.agg #[.int .i64 0, .slice none 0 0], .int .i64 1]) (by simp [results, Try.results41, go_sem, d0, d1]) rfl ⟨_, rfl, Own.nil _ _ _ _ _, ?_⟩
    exact (hb0.setCell (by simp) _).setCell (by simp) _
  · obtain ⟨⟨b1, b2⟩, ⟨n1, n2⟩, hd, _⟩ := okR_parts hk
    have HD := Lib.hid hd; clear hd
    have HK := Lib.hid hk; clear hk
    rw [HL.out] at n1 n2
    have hk := HK.out
    go_enter Try.func41, Try.ntmps41
    go_wp2_with fail
    refine absW ?_
    intro w0 hw
    have hb0 : Below w.heap.size w w0 := by rw [hw]; exact (by repeat' (first | assumption | exact Below.refl _ _ | refine Below.drew ?_ | refine Below.alloc ?_ (by first | omega | (simp; done) | (simp; omega)) _))
    have hz0 : w.heap.size + 2 ≤ w0.heap.size := by rw [hw]; simp
    have hG : Blk w0 w.heap.size 27 #[.int .i64 b, .slice A n c] := by rw [hw]; exact (Blk.new _ _ _).alloc _
    have hR : Blk w0 (w.heap.size + 1) 27 #[.int .i64 0, .slice none 0 0] := by rw [hw]; simpa using Blk.new (w.alloc (.cells #[.int .i64 b, .slice A n c] 27)) 27 #[.int .i64 0, .slice none 0 0]
    clear hw
    have c0 := hG.cell 0; have c1 := hG.cell 1
    simp at c0 c1
    refine (iValidReg _ (rdB h hb0) HL.out hm).mono ?_
    rintro e w1 ⟨rfl, hb⟩
    replace hG := hG.bel hb; replace hR := hR.bel hb; replace hb0 := bel2 hb0 hb; replace hz0 := Nat.le_trans hz0 hb.size
    clear hb c0 c1
    have c0 := hG.cell 0; have c1 := hG.cell 1; have d0 := hR.cell 0; have d1 := hR.cell 1; have fR := hR.frozen
    simp at c0 c1 d0 d1
    have a0 := fun X : Obj => cellA c0 X; have a1 := fun X : Obj => cellA c1 X
    go_wp2
    clear a0 a1
    go_loopw [17] (fun i wr => ∃ (k : Nat) (A' : Option Addr) (c' : Nat), k ≤ n ∧ i = .int .i64 k ∧ Blk wr w.heap.size 27 #[.int .i64 b, .slice A n c] ∧ Blk wr (w.heap.size + 1) 27 #[.int .i64 0, .slice none 0 0] ∧ Blk wr w1.heap.size 27 #[.int .i64 b, .slice A' k c'] ∧
        Own wr (w1.heap.size + 1) wr.heap.size 2 1 (.slice A' k c') k (((cmXs b xs).take k).map (Value.int .i64)) ∧ w1.heap.size + 1 ≤ wr.heap.size ∧ Below w.heap.size w wr) (fun i _ => n - (intOf i).toNat)
    case atStart => exact ⟨0, none, 0, Nat.zero_le _, rfl, hG.alloc _, hR.alloc _, Blk.new _ _ _, Own.nil _ _ _ _ _, by simp, hb0.alloc (by omega) _⟩
    case round =>
      clear c0 c1 d0 d1 fR hG hR
      obtain ⟨k, A', c', hk, rfl, hG, hR, hO, ho, hs, hB⟩ := hrel
      have c0 := hG.cell 0; have c1 := hG.cell 1; have d0 := hR.cell 0; have d1 := hR.cell 1; have g0 := hO.cell 0; have g1 := hO.cell 1; have fR := hR.frozen; have fO := hO.frozen
      simp at c0 c1 d0 d1 g0 g1
      by_cases hlt : k < n
      · obtain ⟨ad, x, rfl, _, hx, hc⟩ := (rdB h hB).int_at hlt
        obtain ⟨x0, x1⟩ := dig_at HD.out hx
        have HX := Lib.hid (cm_take (b := b) hx); clear hx
        go_wp2_with (first | (at_builtin; refine wpList_app1 rfl (.tmp 22) (.tmp 28) rfl eltI rfl (ho.alloc _) rfl (Blk.new _ _ _) rfl (one_int _) (by omega) (by simp; omega) ?_; intro A2 c2 w2 ho2 ht2; have hG2 := Blk.touch (hG.alloc _) ht2 (.inl (by omega)); have hR2 := Blk.touch (hR.alloc _) ht2 (.inl (by omega)); have hO2 := Blk.touch (hO.alloc _) ht2 (.inl (by omega)); have o0 := hO2.cell 0; have o1 := hO2.cell 1; have fO2 := hO2.frozen; simp at o0 o1))
        have hz2 := ht2.size
        go_roundw
        case rel => exact ⟨k + 1, A2, c2, by omega, by go_num, hG2.far (by simp; omega) _, hR2.far (by simp; omega) _, by simpa using hO2.set_ 1 (.slice A2 (k + 1) c2), by rw [HX.out]; simpa using (ho2.setLow (p := ⟨w1.heap.size, 1, none⟩) (.inl (by simp)) _), by simp at hz2 ⊢; omega, (Touch.below (hB.alloc (by omega) _) ht2 (by simp; omega) (by omega)).setCell (by simp; omega) _⟩
        case measure => simp [intOf]; omega
      · obtain rfl : k = n := by omega
        have HT : Hid ((cmXs b xs).take k = cmXs b xs) := by unfold Hid; rw [List.take_of_length_le (by rw [cm_length, HL.out]; exact Nat.le_refl _)]
        rw [HT.out] at ho
        go_wp2_with fail
        refine (iSole _ ho.reads (by rw [cm_length, HL.out]) hm).mono ?_
        rintro e w3 ⟨rfl, hb3⟩
        replace hR := hR.bel hb3; replace hO := hO.bel hb3; replace ho := ho.bel hb3; replace hB := bel2 hB hb3
        have hz3 := hb3.size
        clear c0 c1 d0 d1 g0 g1 fR fO hb3
        have d0 := hR.cell 0; have d1 := hR.cell 1; have fR := hR.frozen
        simp at d0 d1
        cases h2 : okR b (cmXs b xs)
        · have HE := Lib.hid (co_full HK.out h2)
          simp only [h2, if_true, if_false, Bool.false_eq_true]
          go_wp2
          refine bodyPost_ret (v := .tuple #[.agg #[.int .i64 0, .slice none 0 0], .int .i64 5]) (by simp [results, Try.results41, go_sem, d0, d1]) rfl ?_
          obtain ⟨e1, e2, e3, e4⟩ := HE.out
          rw [e1, e2, e3, e4]
          refine ⟨_, rfl, Own.nil _ _ _ _ _, ?_⟩
          exact (hB.setCell (by simp) _).setCell (by simp) _
        · have HE := Lib.hid (co_ok HK.out h2)
          simp only [h2, if_true, if_false, Bool.false_eq_true]
          go_wp2
          refine bodyPost_ret (v := .tuple #[.agg #[.int .i64 b, .slice A' k c'], .int .i64 0]) (by simp [results, Try.results41, go_sem, d0, d1]) rfl ?_
          obtain ⟨e1, e2, e3, e4⟩ := HE.out
          rw [e1, e2, e3, e4, HL.out]
          refine ⟨_, rfl, ?_, ?_⟩
          · exact ((ho.setLow (p := ⟨w.heap.size + 1, 0, none⟩) (.inl (by simp; omega)) _).setLow (p := ⟨w.heap.size + 1, 1, none⟩) (.inl (by simp; omega)) _).more (by omega) (by simpa using hz3)
          · exact (hB.setCell (by simp) _).setCell (by simp) _
end Go.Proofs.Ytndodfolpjkppaa
