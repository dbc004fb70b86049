/- Registers made from a value. No condition. -/
import Derived.Test.YtndodfolpjkppaaValid
import Derived.Test.YtndodfolpjkppaaApp
namespace Go.Proofs.Ytndodfolpjkppaa
open Go.RowKit

def digL (b : Int) : Nat → Int → List Int
  | 0, _ => []
  | n + 1, v => v % b :: digL b n (v / b)
def restV (b : Int) : Nat → Int → Int
  | 0, v => v
  | n + 1, v => restV b n (v / b)
def digS (b : Int) : Nat → Int → List Int
  | 0, _ => []
  | n + 1, v => digS b n v ++ [restV b n v % b]
theorem restV_succ (b : Int) : ∀ (n : Nat) (v : Int), restV b (n + 1) v = restV b n v / b
  | 0, _ => rfl
  | n + 1, v => restV_succ b n (v / b)
theorem restV_bd {b : Int} (hb : 2 ≤ b) : ∀ (n : Nat) (v : Int), 0 ≤ v → v ≤ 1000000000000 → 0 ≤ restV b n v ∧ restV b n v ≤ 1000000000000
  | 0, v, h0, h1 => ⟨h0, h1⟩
  | n + 1, v, h0, h1 => restV_bd hb n (v / b) (Int.ediv_nonneg h0 (by omega)) (Int.le_trans (Int.ediv_le_self _ h0) h1)
theorem digS_length (b : Int) : ∀ (n : Nat) (v : Int), (digS b n v).length = n
  | 0, _ => rfl
  | n + 1, v => by simp [digS, digS_length b n v]

theorem eltI : Elt Try.prog 22 2 1 := by
  obtain ⟨i0, hi, hz0, hz1, hz2⟩ := info_parts infoI
  exact ⟨i0, _, _, Try.underlying22, hi, hz0, hz1, hz2, rfl, by decide, by decide⟩
set_option maxHeartbeats 1000000 in
theorem sNew {b v : Int} {n : Nat} (w : World) (hb : 2 ≤ b) (hb' : b ≤ 16) (hn : n ≤ 16) (h0 : 0 ≤ v) (h1 : v ≤ 1000000000000) :
    Calls Try.prog 54 #[.int .i64 b, .int .i64 n, .int .i64 v] w (fun e w' => ∃ s, e = .returned (.tuple #[.agg #[.int .i64 b, s], .int .i64 (restV b n v)]) ∧ Own w' w.heap.size w'.heap.size 2 1 s n ((digS b n v).map (Value.int .i64)) ∧ Below w.heap.size w w') := by
  go_enter Try.func54, Try.ntmps54
  go_wp2
  go_loopw [2, 9] (fun x i wr => ∃ (k : Nat) (A : Option Addr) (c : Nat), k ≤ n ∧ i = .int .i64 k ∧ x = .int .i64 (restV b k v) ∧ Blk wr (w.heap.size + 1) 27 #[.int .i64 b, .slice A k c] ∧ Blk wr w.heap.size 27 #[.int .i64 0, .slice none 0 0] ∧
      Own wr (w.heap.size + 2) wr.heap.size 2 1 (.slice A k c) k ((digS b k v).map (Value.int .i64)) ∧ w.heap.size + 2 ≤ wr.heap.size ∧ Below w.heap.size w wr) (fun _ i _ => n - (intOf i).toNat)
  case atStart => exact ⟨0, none, 0, Nat.zero_le _, rfl, rfl, by simpa using Blk.new (w.alloc (.cells #[.int .i64 0, .slice none 0 0] 27)) 27 #[.int .i64 b, .slice none 0 0], (Blk.new _ _ _).alloc _, Own.nil _ _ _ _ _, by simp, (by repeat' (first | assumption | exact Below.refl _ _ | refine Below.drew ?_ | refine Below.alloc ?_ (by first | omega | (simp; done) | (simp; omega)) _))⟩
  case round =>
    obtain ⟨k, A, c, hk, rfl, rfl, hG, hR, ho, hs, hB⟩ := hrel
    obtain ⟨r0, r1⟩ := restV_bd hb k v h0 h1
    have c0 := hG.cell 0; have c1 := hG.cell 1; have d0 := hR.cell 0; have d1 := hR.cell 1; have fG := hG.frozen; have fR := hR.frozen
    simp at c0 c1 d0 d1
    by_cases hlt : k < n
    · have q0 : 0 ≤ restV b k v % b := Int.emod_nonneg _ (by omega)
      have q1 : restV b k v % b < b := Int.emod_lt_of_pos _ (by omega)
      have hb0 : ¬ (b = 0) := by omega
      have hmod : (restV b k v).tmod b = restV b k v % b := Int.tmod_eq_emod_of_nonneg r0
      have c1a := fun X : Obj => cellA c1 X
      go_wp2_with fail
      go_region_law ((refine step_app1 (by rfl) (.tmp 18) (.tmp 22) (by rfl) eltI (by rfl) ((ho.alloc _).drew) (by rfl) (Blk.new _ _ _) (by rfl) (one_int _) (by omega) (by simp; omega) ?_; intro A' c' w1 ho1 ht1; have hG1 := Blk.touch ((hG.alloc _).drew) ht1 (.inl (by omega)); have hR1 := Blk.touch ((hR.alloc _).drew) ht1 (.inl (by omega)); have e0 := hG1.cell 0; have e1 := hG1.cell 1; have fG1 := hG1.frozen; simp at e0 e1))
      all_goals
        clear hmod c1a
        have RS := Lib.hid (restV_succ b k v)
        have hz1 := ht1.size
        go_wp2
        go_roundw
        case rel => exact ⟨k + 1, A', c', by omega, by go_num, by rw [RS.out], by simpa using hG1.set_ 1 (.slice A' (k + 1) c'), hR1.far (by simp) _, by simpa [digS] using (ho1.setLow (p := ⟨w.heap.size + 1, 1, none⟩) (.inl (by simp)) _), by simp at hz1 ⊢; omega, (Touch.below ((hB.alloc (by omega) _).drew) ht1 (by simp; omega) (by omega)).setCell (by simp) _⟩
        case measure => simp [intOf]; omega
    · obtain rfl : k = n := by omega
      go_wp2
      refine bodyPost_ret (v := .tuple #[.agg #[.int .i64 b, .slice A k c], .int .i64 (restV b k v)]) (by simp [results, Try.results54, go_sem, d0, d1]) rfl ⟨_, rfl, ?_, ?_⟩
      · simpa using ((ho.setLow (p := ⟨w.heap.size, 0, none⟩) (.inl (by simp)) _).setLow (p := ⟨w.heap.size, 1, none⟩) (.inl (by simp)) _).more (by omega) (Nat.le_refl _)
      · exact (hB.setCell (Nat.le_refl _) _).setCell (Nat.le_refl _) _
set_option maxHeartbeats 1000000 in
theorem iNew {b v : Int} {n : Nat} (w : World) (hb : 2 ≤ b) (hb' : b ≤ 16) (hn : n ≤ 16) (h0 : 0 ≤ v) (h1 : v ≤ 1000000000000) :
    Calls Try.prog 58 #[.int .i64 b, .int .i64 n, .int .i64 v] w (fun e w' => ∃ s, e = .returned (.tuple #[.agg #[.int .i64 b, s], .bool (restV b n v == 0)]) ∧ Own w' w.heap.size w'.heap.size 2 1 s n ((digS b n v).map (Value.int .i64)) ∧ Below w.heap.size w w') := by
  go_enter Try.func58, Try.ntmps58
  go_wp2
  go_loopw [2, 12] (fun x i wr => ∃ (k : Nat) (A : Option Addr) (c : Nat), k ≤ n ∧ i = .int .i64 k ∧ x = .int .i64 (restV b k v) ∧ Blk wr (w.heap.size + 1) 27 #[.int .i64 b, .slice A k c] ∧ Blk wr w.heap.size 27 #[.int .i64 0, .slice none 0 0] ∧
      Own wr (w.heap.size + 2) wr.heap.size 2 1 (.slice A k c) k ((digS b k v).map (Value.int .i64)) ∧ w.heap.size + 2 ≤ wr.heap.size ∧ Below w.heap.size w wr) (fun _ i _ => n - (intOf i).toNat)
  case atStart => exact ⟨0, none, 0, Nat.zero_le _, rfl, rfl, by simpa using Blk.new (w.alloc (.cells #[.int .i64 0, .slice none 0 0] 27)) 27 #[.int .i64 b, .slice none 0 0], (Blk.new _ _ _).alloc _, Own.nil _ _ _ _ _, by simp, (by repeat' (first | assumption | exact Below.refl _ _ | refine Below.drew ?_ | refine Below.alloc ?_ (by first | omega | (simp; done) | (simp; omega)) _))⟩
  case round =>
    obtain ⟨k, A, c, hk, rfl, rfl, hG, hR, ho, hs, hB⟩ := hrel
    obtain ⟨r0, r1⟩ := restV_bd hb k v h0 h1
    have c0 := hG.cell 0; have c1 := hG.cell 1; have d0 := hR.cell 0; have d1 := hR.cell 1; have fG := hG.frozen; have fR := hR.frozen
    simp at c0 c1 d0 d1
    by_cases hlt : k < n
    · have q0 : 0 ≤ restV b k v % b := Int.emod_nonneg _ (by omega)
      have q1 : restV b k v % b < b := Int.emod_lt_of_pos _ (by omega)
      have hb0 : ¬ (b = 0) := by omega
      have hmod : (restV b k v).tmod b = restV b k v % b := Int.tmod_eq_emod_of_nonneg r0
      have c1a := fun X : Obj => cellA c1 X
      go_wp2_with fail
      go_region_law ((refine step_app1 (by rfl) (.tmp 15) (.tmp 19) (by rfl) eltI (by rfl) ((ho.alloc _).drew) (by rfl) (Blk.new _ _ _) (by rfl) (one_int _) (by omega) (by simp; omega) ?_; intro A' c' w1 ho1 ht1; have hG1 := Blk.touch ((hG.alloc _).drew) ht1 (.inl (by omega)); have hR1 := Blk.touch ((hR.alloc _).drew) ht1 (.inl (by omega)); have e0 := hG1.cell 0; have e1 := hG1.cell 1; have fG1 := hG1.frozen; simp at e0 e1))
      all_goals
        clear hmod c1a
        have RS := Lib.hid (restV_succ b k v)
        have hz1 := ht1.size
        go_wp2
        go_roundw
        case rel => exact ⟨k + 1, A', c', by omega, by go_num, by rw [RS.out], by simpa using hG1.set_ 1 (.slice A' (k + 1) c'), hR1.far (by simp) _, by simpa [digS] using (ho1.setLow (p := ⟨w.heap.size + 1, 1, none⟩) (.inl (by simp)) _), by simp at hz1 ⊢; omega, (Touch.below ((hB.alloc (by omega) _).drew) ht1 (by simp; omega) (by omega)).setCell (by simp) _⟩
        case measure => simp [intOf]; omega
    · obtain rfl : k = n := by omega
      go_wp2
      refine bodyPost_ret (v := .tuple #[.agg #[.int .i64 b, .slice A k c], .bool (restV b k v == 0)]) (by simp [results, Try.results58, go_sem, d0, d1]) rfl ⟨_, rfl, ?_, ?_⟩
      · simpa using ((ho.setLow (p := ⟨w.heap.size, 0, none⟩) (.inl (by simp)) _).setLow (p := ⟨w.heap.size, 1, none⟩) (.inl (by simp)) _).more (by omega) (Nat.le_refl _)
      · exact (hB.setCell (Nat.le_refl _) _).setCell (Nat.le_refl _) _

def nrB (b n v : Int) : Bool := betwB b 2 16 && betwB n 1 16 && betwB v 0 1000000000000
def nrOk (b n v : Int) : Bool := nrB b n v && decide (restV b n.toNat v = 0)
def nrCode (b n v : Int) : Int := if nrB b n v then (if restV b n.toNat v = 0 then 0 else 5) else 2
def nrBase (b n v : Int) : Int := if nrOk b n v then b else 0
def nrN (b n v : Int) : Nat := if nrOk b n v then n.toNat else 0
def nrXs (b n v : Int) : List Int := if nrOk b n v then digS b n.toNat v else []
/-- A register and a code. -/
def RetRC (w : World) (b : Int) (n : Nat) (xs : List Value) (cd : Int) (x : Ending) (w' : World) : Prop := ∃ s, x = .returned (.tuple #[.agg #[.int .i64 b, s], .int .i64 cd]) ∧ Own w' w.heap.size w'.heap.size 2 1 s n xs ∧ Below w.heap.size w w'
theorem nrN_le (b n v : Int) : nrN b n v ≤ 1073741824 := by
  unfold nrN
  split
  · rename_i h
    simp only [nrOk, nrB, Bool.and_eq_true, betw_iff] at h
    omega
  · omega
theorem nr_bad {b n v : Int} (h : nrB b n v = false) : nrCode b n v = 2 ∧ nrBase b n v = 0 ∧ nrN b n v = 0 ∧ nrXs b n v = [] := by simp [nrCode, nrBase, nrN, nrXs, nrOk, h]
theorem nr_full {b v : Int} {n : Nat} (h : nrB b n v = true) (hr : ¬ restV b n v = 0) : nrCode b n v = 5 ∧ nrBase b n v = 0 ∧ nrN b n v = 0 ∧ nrXs b n v = [] := by simp [nrCode, nrBase, nrN, nrXs, nrOk, h, hr]
theorem nr_ok {b v : Int} {n : Nat} (h : nrB b n v = true) (hr : restV b n v = 0) : nrCode b n v = 0 ∧ nrBase b n v = b ∧ nrN b n v = n ∧ nrXs b n v = digS b n v := by simp [nrCode, nrBase, nrN, nrXs, nrOk, h, hr]

set_option maxHeartbeats 1600000 in
theorem sNewReg {b n v : Int} (w : World) :
    Calls Try.prog 24 #[.int .i64 b, .int .i64 n, .int .i64 v] w (RetRC w (nrBase b n v) (nrN b n v) ((nrXs b n v).map (Value.int .i64)) (nrCode b n v)) := by
  have bad : nrB b n v = false → Calls Try.prog 24 #[.int .i64 b, .int .i64 n, .int .i64 v] w (RetRC w 0 0 [] 2) := by
    intro hbad
    have fin : RetRC w 0 0 [] 2 (.returned (.tuple #[.agg #[.int .i64 0, .slice none 0 0], .int .i64 2])) (w.alloc (.cells #[.int .i64 0, .slice none 0 0] 27)) := ⟨_, rfl, Own.nil _ _ _ _ _, (by repeat' (first | assumption | exact Below.refl _ _ | refine Below.drew ?_ | refine Below.alloc ?_ (by first | omega | (simp; done) | (simp; omega)) _))⟩
    have FIN := Lib.hid fin; clear fin
    cases h1 : betwB b 2 16
    · go_enter Try.func24, Try.ntmps24
      go_wp2_with (first | (go_at_call 52; refine (sBase _ _).mono ?_; rintro e w' ⟨rfl, rfl⟩) | (go_at_call 53; refine (l00In_any _ _ _ _).mono ?_; rintro e w' ⟨rfl, rfl⟩))
      refine bodyPost_ret (v := .tuple #[.agg #[.int .i64 0, .slice none 0 0], .int .i64 2]) (by simp [results, Try.results24, go_sem]) rfl FIN.out
    · cases h2 : betwB n 1 16
      · go_enter Try.func24, Try.ntmps24
        go_wp2_with (first | (go_at_call 52; refine (sBase _ _).mono ?_; rintro e w' ⟨rfl, rfl⟩) | (go_at_call 53; refine (l00In_any _ _ _ _).mono ?_; rintro e w' ⟨rfl, rfl⟩))
        refine bodyPost_ret (v := .tuple #[.agg #[.int .i64 0, .slice none 0 0], .int .i64 2]) (by simp [results, Try.results24, go_sem]) rfl FIN.out
      · have h3 : betwB v 0 1000000000000 = false := by simpa [nrB, h1, h2] using hbad
        go_enter Try.func24, Try.ntmps24
        go_wp2_with (first | (go_at_call 52; refine (sBase _ _).mono ?_; rintro e w' ⟨rfl, rfl⟩) | (go_at_call 53; refine (l00In_any _ _ _ _).mono ?_; rintro e w' ⟨rfl, rfl⟩))
        refine bodyPost_ret (v := .tuple #[.agg #[.int .i64 0, .slice none 0 0], .int .i64 2]) (by simp [results, Try.results24, go_sem]) rfl FIN.out
  cases hg : nrB b n v
  · obtain ⟨e1, e2, e3, e4⟩ := nr_bad hg
    rw [e1, e2, e3, e4]
    exact bad hg
  · clear bad
    have hg' := hg
    simp only [nrB, Bool.and_eq_true] at hg'
    obtain ⟨⟨h1, h2⟩, h3⟩ := hg'
    obtain ⟨b1, b2⟩ := betw_iff.1 h1
    obtain ⟨n1, n2⟩ := betw_iff.1 h2
    obtain ⟨v1, v2⟩ := betw_iff.1 h3
    obtain ⟨m, rfl⟩ := Int.eq_ofNat_of_zero_le (show 0 ≤ n by omega)
    obtain ⟨q0, q1⟩ := restV_bd b1 m v v1 v2
    have HG := Lib.hid hg; clear hg
    by_cases hr : restV b m v = 0
    · obtain ⟨e1, e2, e3, e4⟩ := nr_ok HG.out hr
      rw [e1, e2, e3, e4]
      clear e1 e2 e3 e4
      have hr1 : ¬ (0 < restV b m v) := by omega
      have hr2 : (restV b m v == 0) = true := by simp [hr]
      clear hr
      go_enter Try.func24, Try.ntmps24
      go_wp2_with (first | (go_at_call 52; refine (sBase _ _).mono ?_; rintro e w' ⟨rfl, rfl⟩) | (go_at_call 53; refine (l00In_any _ _ _ _).mono ?_; rintro e w' ⟨rfl, rfl⟩) | (go_at_call 54; refine (sNew _ b1 b2 (by omega) v1 v2).mono ?_; rintro e w1 ⟨s, rfl, ho, hb⟩; obtain ⟨A', c', rfl, _, _⟩ := ho.form; have hR := (Blk.new w 27 #[.int .i64 0, .slice none 0 0]).bel hb; have hRa := fun X : Obj => hR.alloc X; have d0 := fun X : Obj => (hRa X).cell 0; have d1 := fun X : Obj => (hRa X).cell 1; have dF := fun X : Obj => (hRa X).frozen; simp at d0 d1))
      refine bodyPost_ret (v := .tuple #[.agg #[.int .i64 b, .slice A' m c'], .int .i64 0]) (by simp [results, Try.results24, go_sem, d0, d1]) rfl ⟨_, rfl, ?_, ?_⟩
      · exact (((ho.alloc _).setLow (p := ⟨w.heap.size, 0, none⟩) (.inl (by simp)) _).setLow (p := ⟨w.heap.size, 1, none⟩) (.inl (by simp)) _).more (by simp) (by simp)
      · exact (((((Below.refl _ _).alloc (Nat.le_refl _) _).trans (hb.mono (by simp))).alloc (by have := hb.size; simp at this; omega) _).setCell (Nat.le_refl _) _).setCell (Nat.le_refl _) _
    · obtain ⟨e1, e2, e3, e4⟩ := nr_full HG.out hr
      rw [e1, e2, e3, e4]
      clear e1 e2 e3 e4
      have hr1 : 0 < restV b m v := by omega
      have hr2 : (restV b m v == 0) = false := by simp [hr]
      clear hr
      go_enter Try.func24, Try.ntmps24
      go_wp2_with (first | (go_at_call 52; refine (sBase _ _).mono ?_; rintro e w' ⟨rfl, rfl⟩) | (go_at_call 53; refine (l00In_any _ _ _ _).mono ?_; rintro e w' ⟨rfl, rfl⟩) | (go_at_call 54; refine (sNew _ b1 b2 (by omega) v1 v2).mono ?_; rintro e w1 ⟨s, rfl, ho, hb⟩; obtain ⟨A', c', rfl, _, _⟩ := ho.form; have hR := (Blk.new w 27 #[.int .i64 0, .slice none 0 0]).bel hb; have hRa := fun X : Obj => hR.alloc X; have d0 := fun X : Obj => (hRa X).cell 0; have d1 := fun X : Obj => (hRa X).cell 1; have dF := fun X : Obj => (hRa X).frozen; simp at d0 d1))
      refine bodyPost_ret (v := .tuple #[.agg #[.int .i64 0, .slice none 0 0], .int .i64 5]) (by simp [results, Try.results24, go_sem, d0, d1]) rfl ⟨_, rfl, Own.nil _ _ _ _ _, ?_⟩
      exact (((((Below.refl _ _).alloc (Nat.le_refl _) _).trans (hb.mono (by simp))).alloc (by have := hb.size; simp at this; omega) _).setCell (Nat.le_refl _) _).setCell (Nat.le_refl _) _

set_option maxHeartbeats 1600000 in
theorem iNewReg {b n v : Int} (w : World) :
    Calls Try.prog 25 #[.int .i64 b, .int .i64 n, .int .i64 v] w (RetRC w (nrBase b n v) (nrN b n v) ((nrXs b n v).map (Value.int .i64)) (nrCode b n v)) := by
  have bad : nrB b n v = false → Calls Try.prog 25 #[.int .i64 b, .int .i64 n, .int .i64 v] w (RetRC w 0 0 [] 2) := by
    intro hbad
    have fin : RetRC w 0 0 [] 2 (.returned (.tuple #[.agg #[.int .i64 0, .slice none 0 0], .int .i64 2])) (w.alloc (.cells #[.int .i64 0, .slice none 0 0] 27)) := ⟨_, rfl, Own.nil _ _ _ _ _, (by repeat' (first | assumption | exact Below.refl _ _ | refine Below.drew ?_ | refine Below.alloc ?_ (by first | omega | (simp; done) | (simp; omega)) _))⟩
    have FIN := Lib.hid fin; clear fin
    cases h1 : betwB b 2 16
    · go_enter Try.func25, Try.ntmps25
      go_wp2_with (first | (go_at_call 55; refine (iBase _ _).mono ?_; rintro e w' ⟨rfl, rfl⟩) | (go_at_call 56; refine (iWidth _ _).mono ?_; rintro e w' ⟨rfl, rfl⟩) | (go_at_call 57; refine (between_any _ _ _ _).mono ?_; rintro e w' ⟨rfl, rfl⟩))
      refine bodyPost_ret (v := .tuple #[.agg #[.int .i64 0, .slice none 0 0], .int .i64 2]) (by simp [results, Try.results25, go_sem]) rfl FIN.out
    · cases h2 : betwB n 1 16
      · go_enter Try.func25, Try.ntmps25
        go_wp2_with (first | (go_at_call 55; refine (iBase _ _).mono ?_; rintro e w' ⟨rfl, rfl⟩) | (go_at_call 56; refine (iWidth _ _).mono ?_; rintro e w' ⟨rfl, rfl⟩) | (go_at_call 57; refine (between_any _ _ _ _).mono ?_; rintro e w' ⟨rfl, rfl⟩))
        refine bodyPost_ret (v := .tuple #[.agg #[.int .i64 0, .slice none 0 0], .int .i64 2]) (by simp [results, Try.results25, go_sem]) rfl FIN.out
      · have h3 : betwB v 0 1000000000000 = false := by simpa [nrB, h1, h2] using hbad
        go_enter Try.func25, Try.ntmps25
        go_wp2_with (first | (go_at_call 55; refine (iBase _ _).mono ?_; rintro e w' ⟨rfl, rfl⟩) | (go_at_call 56; refine (iWidth _ _).mono ?_; rintro e w' ⟨rfl, rfl⟩) | (go_at_call 57; refine (between_any _ _ _ _).mono ?_; rintro e w' ⟨rfl, rfl⟩))
        refine bodyPost_ret (v := .tuple #[.agg #[.int .i64 0, .slice none 0 0], .int .i64 2]) (by simp [results, Try.results25, go_sem]) rfl FIN.out
  cases hg : nrB b n v
  · obtain ⟨e1, e2, e3, e4⟩ := nr_bad hg
    rw [e1, e2, e3, e4]
    exact bad hg
  · clear bad
    have hg' := hg
    simp only [nrB, Bool.and_eq_true] at hg'
    obtain ⟨⟨h1, h2⟩, h3⟩ := hg'
    obtain ⟨b1, b2⟩ := betw_iff.1 h1
    obtain ⟨n1, n2⟩ := betw_iff.1 h2
    obtain ⟨v1, v2⟩ := betw_iff.1 h3
    obtain ⟨m, rfl⟩ := Int.eq_ofNat_of_zero_le (show 0 ≤ n by omega)
    obtain ⟨q0, q1⟩ := restV_bd b1 m v v1 v2
    have HG := Lib.hid hg; clear hg
    by_cases hr : restV b m v = 0
    · obtain ⟨e1, e2, e3, e4⟩ := nr_ok HG.out hr
      rw [e1, e2, e3, e4]
      clear e1 e2 e3 e4
      have hr1 : ¬ (0 < restV b m v) := by omega
      have hr2 : (restV b m v == 0) = true := by simp [hr]
      clear hr
      go_enter Try.func25, Try.ntmps25
      go_wp2_with (first | (go_at_call 55; refine (iBase _ _).mono ?_; rintro e w' ⟨rfl, rfl⟩) | (go_at_call 56; refine (iWidth _ _).mono ?_; rintro e w' ⟨rfl, rfl⟩) | (go_at_call 57; refine (between_any _ _ _ _).mono ?_; rintro e w' ⟨rfl, rfl⟩) | (go_at_call 58; refine (iNew _ b1 b2 (by omega) v1 v2).mono ?_; rintro e w1 ⟨s, rfl, ho, hb⟩; obtain ⟨A', c', rfl, _, _⟩ := ho.form; have hR := (Blk.new w 27 #[.int .i64 0, .slice none 0 0]).bel hb; have hRa := fun X : Obj => hR.alloc X; have d0 := fun X : Obj => (hRa X).cell 0; have d1 := fun X : Obj => (hRa X).cell 1; have dF := fun X : Obj => (hRa X).frozen; simp at d0 d1))
      refine bodyPost_ret (v := .tuple #[.agg #[.int .i64 b, .slice A' m c'], .int .i64 0]) (by simp [results, Try.results25, go_sem, d0, d1]) rfl ⟨_, rfl, ?_, ?_⟩
      · exact (((ho.alloc _).setLow (p := ⟨w.heap.size, 0, none⟩) (.inl (by simp)) _).setLow (p := ⟨w.heap.size, 1, none⟩) (.inl (by simp)) _).more (by simp) (by simp)
      · exact (((((Below.refl _ _).alloc (Nat.le_refl _) _).trans (hb.mono (by simp))).alloc (by have := hb.size; simp at this; omega) _).setCell (Nat.le_refl _) _).setCell (Nat.le_refl _) _
    · obtain ⟨e1, e2, e3, e4⟩ := nr_full HG.out hr
      rw [e1, e2, e3, e4]
      clear e1 e2 e3 e4
      have hr1 : 0 < restV b m v := by omega
      have hr2 : (restV b m v == 0) = false := by simp [hr]
      clear hr
      go_enter Try.func25, Try.ntmps25
      go_wp2_with (first | (go_at_call 55; refine (iBase _ _).mono ?_; rintro e w' ⟨rfl, rfl⟩) | (go_at_call 56; refine (iWidth _ _).mono ?_; rintro e w' ⟨rfl, rfl⟩) | (go_at_call 57; refine (between_any _ _ _ _).mono ?_; rintro e w' ⟨rfl, rfl⟩) | (go_at_call 58; refine (iNew _ b1 b2 (by omega) v1 v2).mono ?_; rintro e w1 ⟨s, rfl, ho, hb⟩; obtain ⟨A', c', rfl, _, _⟩ := ho.form; have hR := (Blk.new w 27 #[.int .i64 0, .slice none 0 0]).bel hb; have hRa := fun X : Obj => hR.alloc X; have d0 := fun X : Obj => (hRa X).cell 0; have d1 := fun X : Obj => (hRa X).cell 1; have dF := fun X : Obj => (hRa X).frozen; simp at d0 d1))
      refine bodyPost_ret (v := .tuple #[.agg #[.int .i64 0, .slice none 0 0], .int .i64 5]) (by simp [results, Try.results25, go_sem, d0, d1]) rfl ⟨_, rfl, Own.nil _ _ _ _ _, ?_⟩
      exact (((((Below.refl _ _).alloc (Nat.le_refl _) _).trans (hb.mono (by simp))).alloc (by have := hb.size; simp at this; omega) _).setCell (Nat.le_refl _) _).setCell (Nat.le_refl _) _
end Go.Proofs.Ytndodfolpjkppaa
