/- Chains: their size, a copy, equality, marks. No condition. -/
import Derived.Test.YtndodfolpjkppaaIntsMem
namespace Go.Proofs.Ytndodfolpjkppaa
open Go.RowKit

/-- A chain of its own. -/
def RetChain (w : World) (n n' : Nat) (xs ys : List Value) (x : Ending) (w' : World) : Prop :=
  ∃ v v' mid, x = .returned (.agg #[v, v']) ∧ Own w' w.heap.size mid 2 1 v n xs ∧ Own w' mid w'.heap.size 2 1 v' n' ys ∧ w.heap.size ≤ mid ∧ mid ≤ w'.heap.size ∧ Below w.heap.size w w'
theorem blk_new {w : World} {t : TypeId} {cs : Array Value} {g : Nat} (hg : g = w.heap.size) : Blk (w.alloc (.cells cs t)) g t cs := by subst hg; exact Blk.new _ _ _

set_option maxHeartbeats 800000 in
theorem szChain {A A' : Option Addr} {n c n' c' : Nat} (l : Int) (w : World) (hn : n ≤ maxLen) (hn' : n' ≤ maxLen) (h0 : 0 ≤ l) (h1 : l ≤ 1048576) :
    Calls Try.prog 19 #[.agg #[.slice A n c, .slice A' n' c'], .int .i64 l] w fun e w' => e = .returned (.int .i64 (szII n n' l)) ∧ Below w.heap.size w w' := by
  by_cases ha : (n : Int) ≤ l
  · have e1 : Hid (szI n l = l - n) := by unfold Hid szI; rw [if_pos ha]
    by_cases hb : (n : Int) + (n' : Int) ≤ l
    · have e2 : Hid (szI n' (l - n) = l - n - n') := by unfold Hid szI; rw [if_pos (by omega)]
      have e3 : Hid (szII n n' l = l - n - n') := by unfold Hid szII; rw [if_pos hb]
      go_enter Try.func19, Try.ntmps19
      go_wp2_with fail
      refine (szInt64S l _ hn h0 h1).mono ?_
      rintro e w' ⟨rfl, rfl⟩
      rw [e1.out]
      go_wp2_with fail
      refine (szInt64S (l - n) _ hn' (by omega) (by omega)).mono ?_
      rintro e w' ⟨rfl, rfl⟩
      rw [e2.out]
      go_wp2
      go_ret
      exact ⟨ret_n e3.out.symm, (by repeat' (first | assumption | exact Below.refl _ _ | refine Below.drew ?_ | refine belN ?_ _ | refine Below.alloc ?_ (by first | omega | (simp; done) | (simp; omega)) _ | refine Below.setCell ?_ (by first | omega | (simp; done) | (simp; omega)) _))⟩
    · have e2 : Hid (szI n' (l - n) = -1) := by unfold Hid szI; rw [if_neg (by omega)]
      have e3 : Hid (szII n n' l = -1) := by unfold Hid szII; rw [if_neg hb]
      go_enter Try.func19, Try.ntmps19
      go_wp2_with fail
      refine (szInt64S l _ hn h0 h1).mono ?_
      rintro e w' ⟨rfl, rfl⟩
      rw [e1.out]
      go_wp2_with fail
      refine (szInt64S (l - n) _ hn' (by omega) (by omega)).mono ?_
      rintro e w' ⟨rfl, rfl⟩
      rw [e2.out]
      go_wp2
      go_ret
      exact ⟨ret_n e3.out.symm, (by repeat' (first | assumption | exact Below.refl _ _ | refine Below.drew ?_ | refine belN ?_ _ | refine Below.alloc ?_ (by first | omega | (simp; done) | (simp; omega)) _ | refine Below.setCell ?_ (by first | omega | (simp; done) | (simp; omega)) _))⟩
  · have e1 : Hid (szI n l = -1) := by unfold Hid szI; rw [if_neg ha]
    have e3 : Hid (szII n n' l = -1) := by unfold Hid szII; rw [if_neg (by omega)]
    go_enter Try.func19, Try.ntmps19
    go_wp2_with fail
    refine (szInt64S l _ hn h0 h1).mono ?_
    rintro e w' ⟨rfl, rfl⟩
    rw [e1.out]
    go_wp2
    go_ret
    exact ⟨ret_n e3.out.symm, (by repeat' (first | assumption | exact Below.refl _ _ | refine Below.drew ?_ | refine belN ?_ _ | refine Below.alloc ?_ (by first | omega | (simp; done) | (simp; omega)) _ | refine Below.setCell ?_ (by first | omega | (simp; done) | (simp; omega)) _))⟩

set_option maxHeartbeats 1600000 in
theorem toChain {A A' : Option Addr} {n c n' c' : Nat} {xs ys : List Int} (w : World) (h : Reads w w.heap.size 1 A n (xs.map (Value.int .i64))) (hl : xs.length = n) (h' : Reads w w.heap.size 1 A' n' (ys.map (Value.int .i64))) (hl' : ys.length = n') (hm : n ≤ 1048576) (hm' : n' ≤ 1048576) :
    Calls Try.prog 21 #[.agg #[.slice A n c, .slice A' n' c']] w (RetChain w n n' (xs.map (Value.int .i64)) (ys.map (Value.int .i64))) := by
  have HL := Lib.hid hl; have HL' := Lib.hid hl'; clear hl hl'
  go_enter Try.func21, Try.ntmps21
  go_wp2_with fail
  refine absW ?_
  intro w0 hw
  have hb0 : Below w.heap.size w w0 := by rw [hw]; exact (by repeat' (first | assumption | exact Below.refl _ _ | refine Below.drew ?_ | refine belN ?_ _ | refine Below.alloc ?_ (by first | omega | (simp; done) | (simp; omega)) _ | refine Below.setCell ?_ (by first | omega | (simp; done) | (simp; omega)) _))
  have bA : Blk w0 w.heap.size 31 #[.slice A n c, .slice A' n' c'] := by rw [hw]; exact ((blk_new rfl).alloc _).alloc _
  have bR : Blk w0 (w.heap.size + 1) 34 #[.slice none 0 0, .slice none 0 0] := by rw [hw]; exact (blk_new (by simp)).alloc _
  have bO : Blk w0 (w.heap.size + 2) 34 #[.slice none 0 0, .slice none 0 0] := by rw [hw]; exact blk_new (by simp)
  clear hw
  have z0 := bO.lt
  refine (toInt64S _ (rdB h hb0) HL.out hm).mono ?_
  rintro e w1 ⟨v, rfl, ho, hb⟩
  obtain ⟨A1, c1, rfl, _, _⟩ := ho.form
  replace bA := bA.bel hb; replace bR := bR.bel hb; replace bO := bO.bel hb
  replace hb0 := bel2 hb0 hb
  have z1 := hb.size
  clear hb
  have cA := bA.cell 1; have cO := bO.cell 0; have fO := bO.frozen
  simp at cA cO
  go_wp2_with fail
  refine absW ?_
  intro w2 hw
  have hb2 : Below w.heap.size w w2 := by rw [hw]; exact hb0.setCell (by simp; omega) _
  replace bR : Blk w2 (w.heap.size + 1) 34 #[.slice none 0 0, .slice none 0 0] := by rw [hw]; exact bR.far (by simp) _
  replace bO : Blk w2 (w.heap.size + 2) 34 #[.slice A1 n c1, .slice none 0 0] := by rw [hw]; simpa using bO.set_ 0 (.slice A1 n c1)
  replace ho : Own w2 w0.heap.size w1.heap.size 2 1 (.slice A1 n c1) n (xs.map (Value.int .i64)) := by rw [hw]; exact ho.setLow (.inl z0) _
  have z2 : w1.heap.size = w2.heap.size := by rw [hw]; simp
  clear hw cA cO fO bA hb0
  refine (toInt64S _ (rdB h' hb2) HL'.out hm').mono ?_
  rintro e w3 ⟨v', rfl, ho', hb⟩
  obtain ⟨A2, c2, rfl, _, _⟩ := ho'.form
  replace bR := bR.bel hb; replace bO := bO.bel hb; replace ho := ho.bel hb
  replace hb2 := bel2 hb2 hb
  have z3 := hb.size
  clear hb
  have cO := bO.cell 0; have cO1 := bO.cell 1; have fO := bO.frozen; have cR := bR.cell 0; have cR1 := bR.cell 1; have fR := bR.frozen
  simp at cO cO1 cR cR1
  go_wp2
  refine bodyPost_ret (v := .agg #[.slice A1 n c1, .slice A2 n' c2]) (by simp [results, Try.results21, go_sem, cR, cR1]) rfl ⟨_, _, w1.heap.size, rfl, ?_, ?_, ?_, ?_, ?_⟩
  · exact (((ho.setLow (.inl (by simp; omega)) _).setLow (.inl (by simp; omega)) _).setLow (.inl (by simp; omega)) _).more (by omega) (Nat.le_refl _)
  · exact (((ho'.setLow (.inl (by simp; omega)) _).setLow (.inl (by simp; omega)) _).setLow (.inl (by simp; omega)) _).more (by omega) (by simp)
  · omega
  · simp; omega
  · exact ((hb2.setCell (by simp; omega) _).setCell (by simp) _).setCell (by simp) _

set_option maxHeartbeats 800000 in
theorem eqChain {A A' D D' : Option Addr} {n c n' c' d d' : Nat} {xs ys : List Int} (w : World) (h : Reads w w.heap.size 1 A n (xs.map (Value.int .i64))) (k : Reads w w.heap.size 1 D n (xs.map (Value.int .i64))) (h' : Reads w w.heap.size 1 A' n' (ys.map (Value.int .i64))) (k' : Reads w w.heap.size 1 D' n' (ys.map (Value.int .i64))) (hl : xs.length = n) (hm : n ≤ maxLen) (hl' : ys.length = n') (hm' : n' ≤ maxLen) :
    Calls Try.prog 23 #[.agg #[.slice A n c, .slice A' n' c'], .agg #[.slice D n d, .slice D' n' d']] w fun e w' => e = .returned (.bool true) ∧ Below w.heap.size w w' := by
  have HL := Lib.hid hl; have HL' := Lib.hid hl'; clear hl hl'
  go_enter Try.func23, Try.ntmps23
  go_wp2_with fail
  refine (eqInt64S _ (((h.alloc (Nat.le_refl _) _).alloc (by simp) _).more (by simp; omega)) (((k.alloc (Nat.le_refl _) _).alloc (by simp) _).more (by simp; omega)) HL.out HL.out hm hm).mono ?_
  rintro e w' ⟨rfl, k1, rfl⟩
  rw [show sameB xs xs = true by simp [sameB]]
  go_wp2_with fail
  refine (eqInt64S _ ((((h'.alloc (Nat.le_refl _) _).alloc (by simp) _).more (by simp; omega)).drewN _) ((((k'.alloc (Nat.le_refl _) _).alloc (by simp) _).more (by simp; omega)).drewN _) HL'.out HL'.out hm' hm').mono ?_
  rintro e w' ⟨rfl, k2, rfl⟩
  rw [show sameB ys ys = true by simp [sameB]]
  go_wp2
  go_ret
  exact ⟨rfl, (by repeat' (first | assumption | exact Below.refl _ _ | refine Below.drew ?_ | refine belN ?_ _ | refine Below.alloc ?_ (by first | omega | (simp; done) | (simp; omega)) _ | refine Below.setCell ?_ (by first | omega | (simp; done) | (simp; omega)) _))⟩

def MarkedC (w : World) (lo hi lo' hi' : Nat) (v : Value) (n : Nat) (v' : Value) (n' : Nat) (k : Int) (L H : Nat) (x : Ending) (w' : World) : Prop :=
  x = .returned (.int .i64 (k + (n : Int) + (n' : Int))) ∧ Own w' lo hi 2 1 v n ((marksI k n).map (Value.int .i64)) ∧ Own w' lo' hi' 2 1 v' n' ((marksI (k + (n : Int)) n').map (Value.int .i64)) ∧ Touch L H w w'
theorem Touch.wide {lo hi lo' hi' : Nat} {w w' : World} (h : Touch lo hi w w') (h1 : lo' ≤ lo) (h2 : hi ≤ hi') : Touch lo' hi' w w' := ⟨h.os, h.tape, h.output, h.size, fun k hk hd => h.block k hk (by omega)⟩
set_option maxHeartbeats 800000 in
theorem markChain {A A' : Option Addr} {n c n' c' lo mid hi : Nat} {xs ys : List Value} (k : Int) (w : World) (h : Own w lo mid 2 1 (.slice A n c) n xs) (h' : Own w mid hi 2 1 (.slice A' n' c') n' ys) (hm : n ≤ 1073741824) (hm' : n' ≤ 1073741824) (h1 : lo ≤ mid) (h2 : mid ≤ hi) (hhi : hi ≤ w.heap.size) (h0 : 0 ≤ k) (h3 : k ≤ 1098437885952) :
    Calls Try.prog 44 #[.agg #[.slice A n c, .slice A' n' c'], .int .i64 k] w (MarkedC w lo mid mid hi (.slice A n c) n (.slice A' n' c') n' k lo hi) := by
  go_enter Try.func44, Try.ntmps44
  go_wp2_with fail
  refine absW ?_
  intro w0 hw
  have cA : w0.cell? ⟨w.heap.size, 1, none⟩ = some (.slice A' n' c') := by rw [hw]; simp
  have hb0 : Below w.heap.size w w0 := by rw [hw]; exact (by repeat' (first | assumption | exact Below.refl _ _ | refine Below.drew ?_ | refine belN ?_ _ | refine Below.alloc ?_ (by first | omega | (simp; done) | (simp; omega)) _ | refine Below.setCell ?_ (by first | omega | (simp; done) | (simp; omega)) _))
  clear hw
  refine (markInt64S k _ (h.bel hb0) hm h0 (by omega)).mono ?_
  rintro e w1 ⟨rfl, ho, ht⟩
  replace cA := cellT cA ht (by omega)
  have ho' := (h'.bel hb0).touch ht (by omega)
  go_wp2_with fail
  refine (markInt64S (k + (n : Int)) _ ho' hm' (by omega) (by omega)).mono ?_
  rintro e w2 ⟨rfl, ho2, ht2⟩
  go_wp2
  go_ret
  exact ⟨rfl, ho.touch ht2 (by omega), ho2, ((Touch.of_below _ _ hb0).trans (ht.wide (Nat.le_refl _) h2)).trans (ht2.wide h1 (Nat.le_refl _))⟩

set_option maxHeartbeats 800000 in
theorem heldChain {A A' : Option Addr} {n c n' c' : Nat} (k : Int) (w : World) (h : Reads w w.heap.size 1 A n ((marksI k n).map (Value.int .i64))) (h' : Reads w w.heap.size 1 A' n' ((marksI (k + (n : Int)) n').map (Value.int .i64))) (hm : n ≤ 1073741824) (hm' : n' ≤ 1073741824) (h0 : 0 ≤ k) (h1 : k ≤ 1098437885952) :
    Calls Try.prog 45 #[.agg #[.slice A n c, .slice A' n' c'], .int .i64 k] w fun e w' => e = .returned (.int .i64 (k + (n : Int) + (n' : Int))) ∧ Below w.heap.size w w' := by
  have hp : 0 ≤ k + (n : Int) := by omega
  have hp' : 0 ≤ k + (n : Int) + (n' : Int) := by omega
  go_enter Try.func45, Try.ntmps45
  go_wp2_with fail
  refine (heldInt64S k _ ((h.alloc (Nat.le_refl _) _).more (by simp)) hm h0 (by omega)).mono ?_
  rintro e w1 ⟨rfl, rfl⟩
  go_wp2_with fail
  refine (heldInt64S (k + (n : Int)) _ ((h'.alloc (Nat.le_refl _) _).more (by simp)) hm' hp (by omega)).mono ?_
  rintro e w1 ⟨rfl, rfl⟩
  go_wp2
  go_ret
  exact ⟨rfl, (by repeat' (first | assumption | exact Below.refl _ _ | refine Below.drew ?_ | refine belN ?_ _ | refine Below.alloc ?_ (by first | omega | (simp; done) | (simp; omega)) _ | refine Below.setCell ?_ (by first | omega | (simp; done) | (simp; omega)) _))⟩
end Go.Proofs.Ytndodfolpjkppaa
