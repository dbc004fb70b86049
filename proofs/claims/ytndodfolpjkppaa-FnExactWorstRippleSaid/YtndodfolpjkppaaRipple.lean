/- The worst carry ripple of a register: all digits at the top, and one. No condition. -/
import Derived.Test.YtndodfolpjkppaaNew
namespace Go.Proofs.Ytndodfolpjkppaa
open Go.RowKit

def wrIn (b n : Int) : Bool := betwB b 2 16 && betwB n 1 16
def wrK (b n : Int) : Bool := wrIn b n && okR b (List.replicate n.toNat (b - 1))
def wrCode (b n : Int) : Int := if wrIn b n then (if okR b (List.replicate n.toNat (b - 1)) then 0 else 5) else 2
def wrBase (b n : Int) : Int := if wrK b n then b else 0
def wrN (b n : Int) : Nat := if wrK b n then n.toNat else 0
def wrXs (b n : Int) : List Int := if wrK b n then List.replicate n.toNat (b - 1) else []
def wrYs (b n : Int) : List Int := if wrK b n then digS b n.toNat 1 else []
theorem wrN_le (b n : Int) : wrN b n ≤ 1073741824 := by
  unfold wrN
  split
  · rename_i h
    simp only [wrK, wrIn, Bool.and_eq_true, betw_iff] at h
    omega
  · omega
/-- Two registers and a code. -/
def RetRRC (w : World) (b n : Int) (x : Ending) (w' : World) : Prop := ∃ s s' mid, x = .returned (.tuple #[.agg #[.int .i64 (wrBase b n), s], .agg #[.int .i64 (wrBase b n), s'], .int .i64 (wrCode b n)]) ∧ Own w' w.heap.size mid 2 1 s (wrN b n) ((wrXs b n).map (Value.int .i64)) ∧ Own w' mid w'.heap.size 2 1 s' (wrN b n) ((wrYs b n).map (Value.int .i64)) ∧ w.heap.size ≤ mid ∧ mid ≤ w'.heap.size ∧ Below w.heap.size w w'
theorem wr_z {w w' : World} {b n k : Int} (hk : wrK b n = false) (hc : wrCode b n = k) (hb : Below w.heap.size w w') : RetRRC w b n (.returned (.tuple #[.agg #[.int .i64 0, .slice none 0 0], .agg #[.int .i64 0, .slice none 0 0], .int .i64 k])) w' := by
  refine ⟨.slice none 0 0, .slice none 0 0, w'.heap.size, by simp [hc, wrBase, hk], ?_, ?_, hb.size, Nat.le_refl _, hb⟩
  · unfold wrN wrXs; rw [hk]; exact Own.nil _ _ _ _ _
  · unfold wrN wrYs; rw [hk]; exact Own.nil _ _ _ _ _
theorem wr_o {w w' : World} {b : Int} {n mid : Nat} {s s' : Value} (hk : wrK b n = true) (h1 : Own w' w.heap.size mid 2 1 s n ((List.replicate n (b - 1)).map (Value.int .i64))) (h2 : Own w' mid w'.heap.size 2 1 s' n ((digS b n 1).map (Value.int .i64))) (h3 : w.heap.size ≤ mid) (h4 : mid ≤ w'.heap.size) (hb : Below w.heap.size w w') :
    RetRRC w b n (.returned (.tuple #[.agg #[.int .i64 b, s], .agg #[.int .i64 b, s'], .int .i64 0])) w' := by
  have hc : wrCode b n = 0 := by
    simp only [wrK, Bool.and_eq_true] at hk
    simp only [wrCode, hk, if_true]
  refine ⟨s, s', mid, by simp [hc, wrBase, hk], ?_, ?_, h3, h4, hb⟩
  · unfold wrN wrXs; rw [hk, if_pos rfl, if_pos rfl]; exact h1
  · unfold wrN wrYs; rw [hk, if_pos rfl, if_pos rfl]; exact h2
theorem rep_snoc (k : Nat) (x : Int) : (List.replicate k x).map (Value.int .i64) ++ [.int .i64 x] = (List.replicate (k + 1) x).map (Value.int .i64) := by
  rw [List.replicate_succ']; simp

set_option maxHeartbeats 3200000 in
theorem sRipple {b n : Int} (w : World) :
    Calls Try.prog 36 #[.int .i64 b, .int .i64 n] w (RetRRC w b n) := by
  cases hg : wrIn b n
  · cases h1 : betwB b 2 16
    · go_enter Try.func36, Try.ntmps36
      go_wp2_with (first | (go_at_call 52; refine (sBase _ _).mono ?_; rintro e w' ⟨rfl, rfl⟩) | (go_at_call 53; refine (l00In_any _ _ _ _).mono ?_; rintro e w' ⟨rfl, rfl⟩))
      refine bodyPost_ret (v := .tuple #[.agg #[.int .i64 0, .slice none 0 0], .agg #[.int .i64 0, .slice none 0 0], .int .i64 2]) (by simp [results, Try.results36, go_sem]) rfl (wr_z (by simp [wrK, hg]) (by simp [wrCode, hg]) (by repeat' (first | assumption | exact Below.refl _ _ | refine Below.drew ?_ | refine Below.alloc ?_ (by first | omega | (simp; done) | (simp; omega)) _)))
    · have h2 : betwB n 1 16 = false := by simpa [wrIn, h1] using hg
      go_enter Try.func36, Try.ntmps36
      go_wp2_with (first | (go_at_call 52; refine (sBase _ _).mono ?_; rintro e w' ⟨rfl, rfl⟩) | (go_at_call 53; refine (l00In_any _ _ _ _).mono ?_; rintro e w' ⟨rfl, rfl⟩))
      refine bodyPost_ret (v := .tuple #[.agg #[.int .i64 0, .slice none 0 0], .agg #[.int .i64 0, .slice none 0 0], .int .i64 2]) (by simp [results, Try.results36, go_sem]) rfl (wr_z (by simp [wrK, hg]) (by simp [wrCode, hg]) (by repeat' (first | assumption | exact Below.refl _ _ | refine Below.drew ?_ | refine Below.alloc ?_ (by first | omega | (simp; done) | (simp; omega)) _)))
  · have hg' := hg
    simp only [wrIn, Bool.and_eq_true] at hg'
    obtain ⟨h1, h2⟩ := hg'
    obtain ⟨b1, b2⟩ := betw_iff.1 h1
    obtain ⟨n1, n2⟩ := betw_iff.1 h2
    obtain ⟨m, rfl⟩ := Int.eq_ofNat_of_zero_le (show 0 ≤ n by omega)
    have HG := Lib.hid hg; clear hg
    have W1 : IntKind.i64.wrap (b - 1) = b - 1 := IntWalk.i64_in _ (by omega)
    go_enter Try.func36, Try.ntmps36
    go_wp2_with (first | (go_at_call 52; refine (sBase _ _).mono ?_; rintro e w' ⟨rfl, rfl⟩) | (go_at_call 53; refine (l00In_any _ _ _ _).mono ?_; rintro e w' ⟨rfl, rfl⟩))
    clear h1 h2
    go_loopw [8] (fun i wr => ∃ (k : Nat) (A' : Option Addr) (c' : Nat), k ≤ m ∧ i = .int .i64 k ∧ Blk wr w.heap.size 27 #[.int .i64 0, .slice none 0 0] ∧ Blk wr (w.heap.size + 1) 27 #[.int .i64 0, .slice none 0 0] ∧ Blk wr (w.heap.size + 2) 27 #[.int .i64 b, .slice A' k c'] ∧
        Own wr (w.heap.size + 3) wr.heap.size 2 1 (.slice A' k c') k ((List.replicate k (b - 1)).map (Value.int .i64)) ∧ w.heap.size + 3 ≤ wr.heap.size ∧ Below w.heap.size w wr) (fun i _ => m - (intOf i).toNat)
    case atStart => exact ⟨0, none, 0, Nat.zero_le _, rfl, ((Blk.new _ _ _).alloc _).alloc _, by simpa using (Blk.new (w.alloc (.cells #[.int .i64 0, .slice none 0 0] 27)) 27 #[.int .i64 0, .slice none 0 0]).alloc (.cells #[.int .i64 b, .slice none 0 0] 27), by simpa using Blk.new ((w.alloc (.cells #[.int .i64 0, .slice none 0 0] 27)).alloc (.cells #[.int .i64 0, .slice none 0 0] 27)) 27 #[.int .i64 b, .slice none 0 0], Own.nil _ _ _ _ _, by simp, (by repeat' (first | assumption | exact Below.refl _ _ | refine Below.drew ?_ | refine Below.alloc ?_ (by first | omega | (simp; done) | (simp; omega)) _))⟩
    case round =>
      obtain ⟨k, A', c', hk, rfl, hP, hQ, hO, ho, hs, hB⟩ := hrel
      have p0 := hP.cell 0; have p1 := hP.cell 1; have q0 := hQ.cell 0; have q1 := hQ.cell 1; have g0 := hO.cell 0; have g1 := hO.cell 1; have fP := hP.frozen; have fQ := hQ.frozen; have fO := hO.frozen
      simp at p0 p1 q0 q1 g0 g1
      by_cases hlt : k < m
      · go_wp2_with (first
          | (at_builtin; refine wpList_app1 rfl (.tmp 29) (.tmp 32) rfl eltI rfl (ho.alloc _) rfl (Blk.new _ _ _) rfl (one_int _) (by omega) (by simp; omega) ?_; intro A2 c2 w2 ho2 ht2; have hP2 := Blk.touch (hP.alloc _) ht2 (.inl (by omega)); have hQ2 := Blk.touch (hQ.alloc _) ht2 (.inl (by omega)); have hO2 := Blk.touch (hO.alloc _) ht2 (.inl (by omega)); have o0 := hO2.cell 0; have o1 := hO2.cell 1; have fO2 := hO2.frozen; simp at o0 o1))
        have hz2 := ht2.size
        go_roundw
        case rel => exact ⟨k + 1, A2, c2, by omega, by go_num, hP2.far (by first | omega | (simp; done) | (simp; omega)) _, hQ2.far (by first | omega | (simp; done) | (simp; omega)) _, by simpa using hO2.set_ 1 (.slice A2 (k + 1) c2), by rw [← rep_snoc]; simpa using (ho2.setLow (p := ⟨w.heap.size + 2, 1, none⟩) (.inl (by first | omega | (simp; done) | (simp; omega))) _), by simp at hz2 ⊢; omega, (Touch.below (hB.alloc (by omega) _) ht2 (by simp; omega) (by omega)).setCell (by first | omega | (simp; done) | (simp; omega)) _⟩
        case measure => simp [intOf]; omega
      · obtain rfl : k = m := by omega
        go_wp2_with fail
        refine (sOkR _ ho.reads (by simp) (by simp [maxLen]; omega) g0 g1).mono ?_
        rintro e w3 ⟨rfl, kk3, hw3⟩
        have hb3 := RetQ.bel (w := wr) kk3
        rw [← hw3] at hb3
        clear hw3
        replace hP := hP.bel hb3; replace hQ := hQ.bel hb3; replace hO := hO.bel hb3; replace ho := ho.bel hb3; replace hB := bel2 hB hb3
        have hz3 := hb3.size
        clear p0 p1 q0 q1 g0 g1 fP fQ fO hb3
        have p0 := hP.cell 0; have p1 := hP.cell 1; have q0 := hQ.cell 0; have q1 := hQ.cell 1; have fP := hP.frozen; have fQ := hQ.frozen
        simp at p0 p1 q0 q1
        cases h3 : okR b (List.replicate k (b - 1))
        · have K0 : Hid (wrK b k = false) := by unfold Hid wrK; simp [h3]
          have C0 : Hid (wrCode b k = 5) := by unfold Hid wrCode; rw [HG.out]; simp [h3]
          go_wp2
          refine bodyPost_ret (v := .tuple #[.agg #[.int .i64 0, .slice none 0 0], .agg #[.int .i64 0, .slice none 0 0], .int .i64 5]) (by simp [results, Try.results36, go_sem, p0, p1, q0, q1]) rfl (wr_z K0.out C0.out ?_)
          exact (((hB.setCell (by simp) _).setCell (by simp) _).setCell (by simp) _).setCell (by simp) _
        · have K1 : Hid (wrK b k = true) := by unfold Hid wrK; rw [HG.out]; simpa using h3
          go_wp2_with fail
          refine (sNew _ b1 b2 (by omega) (by omega) (by omega)).mono ?_
          rintro e w4 ⟨s, rfl, ho4, hb4⟩
          obtain ⟨A4, c4, rfl, _, _⟩ := ho4.form
          replace hP := hP.bel hb4; replace hQ := hQ.bel hb4; replace hO := hO.bel hb4; replace ho := ho.bel hb4; replace hB := bel2 hB hb4
          have hz4 := hb4.size
          clear p0 p1 q0 q1 fP fQ hb4
          go_wp2_with fail
          refine absC ?_
          intro w5 hw5
          have hb5 : Below w4.heap.size w4 w5 := by rw [hw5]; exact (by repeat' (first | assumption | exact Below.refl _ _ | refine Below.drew ?_ | refine Below.alloc ?_ (by first | omega | (simp; done) | (simp; omega)) _))
          have hS : Blk w5 w4.heap.size 27 #[.int .i64 b, .slice A4 k c4] := by rw [hw5]; exact Blk.new _ _ _
          clear hw5
          replace hP := hP.bel hb5; replace hQ := hQ.bel hb5; replace hO := hO.bel hb5; replace ho := ho.bel hb5; replace ho4 := ho4.bel hb5; replace hB := bel2 hB hb5
          have hz5 := hb5.size
          clear hb5
          have p0 := hP.cell 0; have p1 := hP.cell 1; have q0 := hQ.cell 0; have q1 := hQ.cell 1; have g0 : w5.cell? ⟨w.heap.size + 1 + 1, 0, none⟩ = some (.int .i64 b) := hO.cell 0; have g1 : w5.cell? ⟨w.heap.size + 1 + 1, 1, none⟩ = some (.slice A' k c') := hO.cell 1; have s0 := hS.cell 0; have s1 := hS.cell 1; have fP := hP.frozen; have fQ := hQ.frozen
          simp at p0 p1 q0 q1 s0 s1
          have N0 : ¬ w4.heap.size = w.heap.size := by omega
          have N1 : ¬ w4.heap.size = w.heap.size + 1 := by omega
          go_region_with (fail)
          all_goals
            go_wp2
            refine bodyPost_ret (v := .tuple #[.agg #[.int .i64 b, .slice A' k c'], .agg #[.int .i64 b, .slice A4 k c4], .int .i64 0]) (by simp [results, Try.results36, go_sem, p0, p1, q0, q1]) rfl (wr_o (mid := w3.heap.size) K1.out ?_ ?_ (by first | omega | (simp; done) | (simp; omega)) (by first | omega | (simp; done) | (simp; omega)) ?_)
            · exact (((((ho.drew).setLow (p := ⟨w.heap.size, 0, none⟩) (.inl (by first | omega | (simp; done) | (simp; omega))) _).setLow (p := ⟨w.heap.size, 1, none⟩) (.inl (by first | omega | (simp; done) | (simp; omega))) _).setLow (p := ⟨w.heap.size + 1, 0, none⟩) (.inl (by first | omega | (simp; done) | (simp; omega))) _).setLow (p := ⟨w.heap.size + 1, 1, none⟩) (.inl (by first | omega | (simp; done) | (simp; omega))) _).more (by first | omega | (simp; done) | (simp; omega)) (by first | omega | (simp; done) | (simp; omega))
            · exact (((((ho4.drew).setLow (p := ⟨w.heap.size, 0, none⟩) (.inl (by first | omega | (simp; done) | (simp; omega))) _).setLow (p := ⟨w.heap.size, 1, none⟩) (.inl (by first | omega | (simp; done) | (simp; omega))) _).setLow (p := ⟨w.heap.size + 1, 0, none⟩) (.inl (by first | omega | (simp; done) | (simp; omega))) _).setLow (p := ⟨w.heap.size + 1, 1, none⟩) (.inl (by first | omega | (simp; done) | (simp; omega))) _).more (by first | omega | (simp; done) | (simp; omega)) (by first | omega | (simp; done) | (simp; omega))
            · exact ((((hB.drew).setCell (by first | omega | (simp; done) | (simp; omega)) _).setCell (by first | omega | (simp; done) | (simp; omega)) _).setCell (by first | omega | (simp; done) | (simp; omega)) _).setCell (by first | omega | (simp; done) | (simp; omega)) _

set_option maxHeartbeats 3200000 in
theorem iRipple {b n : Int} (w : World) :
    Calls Try.prog 37 #[.int .i64 b, .int .i64 n] w (RetRRC w b n) := by
  cases hg : wrIn b n
  · cases h1 : betwB b 2 16
    · go_enter Try.func37, Try.ntmps37
      go_wp2_with (first | (go_at_call 55; refine (iBase _ _).mono ?_; rintro e w' ⟨rfl, rfl⟩) | (go_at_call 56; refine (iWidth _ _).mono ?_; rintro e w' ⟨rfl, rfl⟩))
      refine bodyPost_ret (v := .tuple #[.agg #[.int .i64 0, .slice none 0 0], .agg #[.int .i64 0, .slice none 0 0], .int .i64 2]) (by simp [results, Try.results37, go_sem]) rfl (wr_z (by simp [wrK, hg]) (by simp [wrCode, hg]) (by repeat' (first | assumption | exact Below.refl _ _ | refine Below.drew ?_ | refine Below.alloc ?_ (by first | omega | (simp; done) | (simp; omega)) _)))
    · have h2 : betwB n 1 16 = false := by simpa [wrIn, h1] using hg
      go_enter Try.func37, Try.ntmps37
      go_wp2_with (first | (go_at_call 55; refine (iBase _ _).mono ?_; rintro e w' ⟨rfl, rfl⟩) | (go_at_call 56; refine (iWidth _ _).mono ?_; rintro e w' ⟨rfl, rfl⟩))
      refine bodyPost_ret (v := .tuple #[.agg #[.int .i64 0, .slice none 0 0], .agg #[.int .i64 0, .slice none 0 0], .int .i64 2]) (by simp [results, Try.results37, go_sem]) rfl (wr_z (by simp [wrK, hg]) (by simp [wrCode, hg]) (by repeat' (first | assumption | exact Below.refl _ _ | refine Below.drew ?_ | refine Below.alloc ?_ (by first | omega | (simp; done) | (simp; omega)) _)))
  · have hg' := hg
    simp only [wrIn, Bool.and_eq_true] at hg'
    obtain ⟨h1, h2⟩ := hg'
    obtain ⟨b1, b2⟩ := betw_iff.1 h1
    obtain ⟨n1, n2⟩ := betw_iff.1 h2
    obtain ⟨m, rfl⟩ := Int.eq_ofNat_of_zero_le (show 0 ≤ n by omega)
    have HG := Lib.hid hg; clear hg
    have W1 : IntKind.i64.wrap (b - 1) = b - 1 := IntWalk.i64_in _ (by omega)
    go_enter Try.func37, Try.ntmps37
    go_wp2_with (first | (go_at_call 55; refine (iBase _ _).mono ?_; rintro e w' ⟨rfl, rfl⟩) | (go_at_call 56; refine (iWidth _ _).mono ?_; rintro e w' ⟨rfl, rfl⟩))
    clear h1 h2
    go_loopw [23] (fun i wr => ∃ (k : Nat) (A' : Option Addr) (c' : Nat), k ≤ m ∧ i = .int .i64 k ∧ Blk wr w.heap.size 27 #[.int .i64 0, .slice none 0 0] ∧ Blk wr (w.heap.size + 1) 27 #[.int .i64 0, .slice none 0 0] ∧ Blk wr (w.heap.size + 2) 27 #[.int .i64 b, .slice A' k c'] ∧
        Own wr (w.heap.size + 3) wr.heap.size 2 1 (.slice A' k c') k ((List.replicate k (b - 1)).map (Value.int .i64)) ∧ w.heap.size + 3 ≤ wr.heap.size ∧ Below w.heap.size w wr) (fun i _ => m - (intOf i).toNat)
    case atStart => exact ⟨0, none, 0, Nat.zero_le _, rfl, ((Blk.new _ _ _).alloc _).alloc _, by simpa using (Blk.new (w.alloc (.cells #[.int .i64 0, .slice none 0 0] 27)) 27 #[.int .i64 0, .slice none 0 0]).alloc (.cells #[.int .i64 b, .slice none 0 0] 27), by simpa using Blk.new ((w.alloc (.cells #[.int .i64 0, .slice none 0 0] 27)).alloc (.cells #[.int .i64 0, .slice none 0 0] 27)) 27 #[.int .i64 b, .slice none 0 0], Own.nil _ _ _ _ _, by simp, (by repeat' (first | assumption | exact Below.refl _ _ | refine Below.drew ?_ | refine Below.alloc ?_ (by first | omega | (simp; done) | (simp; omega)) _))⟩
    case round =>
      obtain ⟨k, A', c', hk, rfl, hP, hQ, hO, ho, hs, hB⟩ := hrel
      have p0 := hP.cell 0; have p1 := hP.cell 1; have q0 := hQ.cell 0; have q1 := hQ.cell 1; have g0 := hO.cell 0; have g1 := hO.cell 1; have fP := hP.frozen; have fQ := hQ.frozen; have fO := hO.frozen
      simp at p0 p1 q0 q1 g0 g1
      by_cases hlt : k < m
      · go_wp2_with (first
          | (at_builtin; refine wpList_app1 rfl (.tmp 26) (.tmp 29) rfl eltI rfl (ho.alloc _) rfl (Blk.new _ _ _) rfl (one_int _) (by omega) (by simp; omega) ?_; intro A2 c2 w2 ho2 ht2; have hP2 := Blk.touch (hP.alloc _) ht2 (.inl (by omega)); have hQ2 := Blk.touch (hQ.alloc _) ht2 (.inl (by omega)); have hO2 := Blk.touch (hO.alloc _) ht2 (.inl (by omega)); have o0 := hO2.cell 0; have o1 := hO2.cell 1; have fO2 := hO2.frozen; simp at o0 o1))
        have hz2 := ht2.size
        go_roundw
        case rel => exact ⟨k + 1, A2, c2, by omega, by go_num, hP2.far (by first | omega | (simp; done) | (simp; omega)) _, hQ2.far (by first | omega | (simp; done) | (simp; omega)) _, by simpa using hO2.set_ 1 (.slice A2 (k + 1) c2), by rw [← rep_snoc]; simpa using (ho2.setLow (p := ⟨w.heap.size + 2, 1, none⟩) (.inl (by first | omega | (simp; done) | (simp; omega))) _), by simp at hz2 ⊢; omega, (Touch.below (hB.alloc (by omega) _) ht2 (by simp; omega) (by omega)).setCell (by first | omega | (simp; done) | (simp; omega)) _⟩
        case measure => simp [intOf]; omega
      · obtain rfl : k = m := by omega
        go_wp2_with fail
        refine (iValidReg _ ho.reads (by simp) (by simp [maxLen]; omega)).mono ?_
        rintro e w3 ⟨rfl, hb3⟩
        replace hP := hP.bel hb3; replace hQ := hQ.bel hb3; replace hO := hO.bel hb3; replace ho := ho.bel hb3; replace hB := bel2 hB hb3
        have hz3 := hb3.size
        clear p0 p1 q0 q1 g0 g1 fP fQ fO hb3
        have p0 := hP.cell 0; have p1 := hP.cell 1; have q0 := hQ.cell 0; have q1 := hQ.cell 1; have fP := hP.frozen; have fQ := hQ.frozen
        simp at p0 p1 q0 q1
        cases h3 : okR b (List.replicate k (b - 1))
        · have K0 : Hid (wrK b k = false) := by unfold Hid wrK; simp [h3]
          have C0 : Hid (wrCode b k = 5) := by unfold Hid wrCode; rw [HG.out]; simp [h3]
          go_wp2
          refine bodyPost_ret (v := .tuple #[.agg #[.int .i64 0, .slice none 0 0], .agg #[.int .i64 0, .slice none 0 0], .int .i64 5]) (by simp [results, Try.results37, go_sem, p0, p1, q0, q1]) rfl (wr_z K0.out C0.out ?_)
          exact (((hB.setCell (by simp) _).setCell (by simp) _).setCell (by simp) _).setCell (by simp) _
        · have K1 : Hid (wrK b k = true) := by unfold Hid wrK; rw [HG.out]; simpa using h3
          go_wp2_with fail
          refine (iNew _ b1 b2 (by omega) (by omega) (by omega)).mono ?_
          rintro e w4 ⟨s, rfl, ho4, hb4⟩
          obtain ⟨A4, c4, rfl, _, _⟩ := ho4.form
          replace hP := hP.bel hb4; replace hQ := hQ.bel hb4; replace hO := hO.bel hb4; replace ho := ho.bel hb4; replace hB := bel2 hB hb4
          have hz4 := hb4.size
          clear p0 p1 q0 q1 fP fQ hb4
          go_wp2_with fail
          refine absC ?_
          intro w5 hw5
          have hb5 : Below w4.heap.size w4 w5 := by rw [hw5]; exact (by repeat' (first | assumption | exact Below.refl _ _ | refine Below.drew ?_ | refine Below.alloc ?_ (by first | omega | (simp; done) | (simp; omega)) _))
          have hS : Blk w5 w4.heap.size 27 #[.int .i64 b, .slice A4 k c4] := by rw [hw5]; exact Blk.new _ _ _
          clear hw5
          replace hP := hP.bel hb5; replace hQ := hQ.bel hb5; replace hO := hO.bel hb5; replace ho := ho.bel hb5; replace ho4 := ho4.bel hb5; replace hB := bel2 hB hb5
          have hz5 := hb5.size
          clear hb5
          have p0 := hP.cell 0; have p1 := hP.cell 1; have q0 := hQ.cell 0; have q1 := hQ.cell 1; have g0 : w5.cell? ⟨w.heap.size + 1 + 1, 0, none⟩ = some (.int .i64 b) := hO.cell 0; have g1 : w5.cell? ⟨w.heap.size + 1 + 1, 1, none⟩ = some (.slice A' k c') := hO.cell 1; have s0 := hS.cell 0; have s1 := hS.cell 1; have fP := hP.frozen; have fQ := hQ.frozen
          simp at p0 p1 q0 q1 s0 s1
          have N0 : ¬ w4.heap.size = w.heap.size := by omega
          have N1 : ¬ w4.heap.size = w.heap.size + 1 := by omega
          go_region_with (fail)
          all_goals
            go_wp2
            refine bodyPost_ret (v := .tuple #[.agg #[.int .i64 b, .slice A' k c'], .agg #[.int .i64 b, .slice A4 k c4], .int .i64 0]) (by simp [results, Try.results37, go_sem, p0, p1, q0, q1]) rfl (wr_o (mid := w3.heap.size) K1.out ?_ ?_ (by first | omega | (simp; done) | (simp; omega)) (by first | omega | (simp; done) | (simp; omega)) ?_)
            · exact (((((ho.drew).setLow (p := ⟨w.heap.size, 0, none⟩) (.inl (by first | omega | (simp; done) | (simp; omega))) _).setLow (p := ⟨w.heap.size, 1, none⟩) (.inl (by first | omega | (simp; done) | (simp; omega))) _).setLow (p := ⟨w.heap.size + 1, 0, none⟩) (.inl (by first | omega | (simp; done) | (simp; omega))) _).setLow (p := ⟨w.heap.size + 1, 1, none⟩) (.inl (by first | omega | (simp; done) | (simp; omega))) _).more (by first | omega | (simp; done) | (simp; omega)) (by first | omega | (simp; done) | (simp; omega))
            · exact (((((ho4.drew).setLow (p := ⟨w.heap.size, 0, none⟩) (.inl (by first | omega | (simp; done) | (simp; omega))) _).setLow (p := ⟨w.heap.size, 1, none⟩) (.inl (by first | omega | (simp; done) | (simp; omega))) _).setLow (p := ⟨w.heap.size + 1, 0, none⟩) (.inl (by first | omega | (simp; done) | (simp; omega))) _).setLow (p := ⟨w.heap.size + 1, 1, none⟩) (.inl (by first | omega | (simp; done) | (simp; omega))) _).more (by first | omega | (simp; done) | (simp; omega)) (by first | omega | (simp; done) | (simp; omega))
            · exact ((((hB.drew).setCell (by first | omega | (simp; done) | (simp; omega)) _).setCell (by first | omega | (simp; done) | (simp; omega)) _).setCell (by first | omega | (simp; done) | (simp; omega)) _).setCell (by first | omega | (simp; done) | (simp; omega)) _
end Go.Proofs.Ytndodfolpjkppaa
