/- Registers: their size, a copy, equality, marks. No condition. -/
import Derived.Test.YtlnajkimlooapaaDoorIntsMem
namespace Go.Proofs.YtlnajkimlooapaaDoor
open Go.RowKit

/-- A register of its own. -/
def RetReg (w : World) (b : Int) (n : Nat) (xs : List Value) (x : Ending) (w' : World) : Prop := ∃ v, x = .returned (.agg #[.int .i64 b, v]) ∧ Own w' w.heap.size w'.heap.size 2 1 v n xs ∧ Below w.heap.size w w'

set_option maxHeartbeats 400000 in
theorem szRegister {b : Int} {A : Option Addr} {n c : Nat} (l : Int) (w : World) (hn : n ≤ maxLen) (h0 : 0 ≤ l) (h1 : l ≤ 1048576) :
    Calls Tryd.prog 15 #[.agg #[.int .i64 b, .slice A n c], .int .i64 l] w fun e w' => e = .returned (.int .i64 (szI n l)) ∧ Below w.heap.size w w' := by
  by_cases hc : szI n l < 0
  · have hs : Hid (szI n l = -1) := by unfold Hid szI at *; split at hc <;> split <;> omega
    go_enter Tryd.func15, Tryd.ntmps15
    go_wp2_with fail
    refine (szInt64S l _ hn h0 h1).mono ?_
    rintro e w' ⟨rfl, rfl⟩
    go_wp2
    go_ret
    exact ⟨ret_n hs.out.symm, (by repeat' (first | assumption | exact Below.refl _ _ | refine Below.drew ?_ | refine Below.alloc ?_ (by first | omega | (simp; done) | (simp; omega)) _))⟩
  · go_enter Tryd.func15, Tryd.ntmps15
    go_wp2_with fail
    refine (szInt64S l _ hn h0 h1).mono ?_
    rintro e w' ⟨rfl, rfl⟩
    go_wp2
    go_ret
    exact ⟨rfl, (by repeat' (first | assumption | exact Below.refl _ _ | refine Below.drew ?_ | refine Below.alloc ?_ (by first | omega | (simp; done) | (simp; omega)) _))⟩

set_option maxHeartbeats 400000 in
theorem toRegister {b : Int} {A : Option Addr} {n c : Nat} {xs : List Int} (w : World) (h : Reads w w.heap.size 1 A n (xs.map (Value.int .i64))) (hl : xs.length = n) (hm : n ≤ 1048576) :
    Calls Tryd.prog 17 #[.agg #[.int .i64 b, .slice A n c]] w (RetReg w b n (xs.map (Value.int .i64))) := by
  go_enter Tryd.func17, Tryd.ntmps17
  go_wp2_with fail
  refine (toInt64S _ ((((h.alloc (Nat.le_refl _) _).alloc (by simp) _).alloc (by simp; omega) _).more (by simp; omega)) hl hm).mono ?_
  rintro e w1 ⟨v, rfl, ho, hb⟩
  obtain ⟨A', c', rfl, _, _⟩ := ho.form
  obtain ⟨hc, hf⟩ := bcell hb
  have hz : w.heap.size + 2 < w1.heap.size := by have := hb.size; simp at this; omega
  go_wp2
  refine bodyPost_ret (v := .agg #[.int .i64 b, .slice A' n c']) (by simp [results, Tryd.results17, go_sem, hc, hz]) rfl ⟨_, rfl, ?_, ?_⟩
  · exact (((ho.setLow (.inl (by simp)) _).setLow (.inl (by simp)) _).setLow (.inl (by simp)) _).more (by simp; omega) (by simp)
  · exact (((((((Below.refl _ _).alloc (Nat.le_refl _) _).alloc (by simp) _).alloc (by simp; omega) _).trans (hb.mono (by simp; omega))).setCell (by simp; omega) _).setCell (by simp) _).setCell (by simp) _

set_option maxHeartbeats 400000 in
theorem eqRegister {b : Int} {A A' : Option Addr} {n c c' : Nat} {xs : List Int} (w : World) (h : Reads w w.heap.size 1 A n (xs.map (Value.int .i64))) (h' : Reads w w.heap.size 1 A' n (xs.map (Value.int .i64))) (hl : xs.length = n) (hm : n ≤ maxLen) :
    Calls Tryd.prog 19 #[.agg #[.int .i64 b, .slice A n c], .agg #[.int .i64 b, .slice A' n c']] w fun e w' => e = .returned (.bool true) ∧ Below w.heap.size w w' := by
  have HL := Lib.hid hl; clear hl
  go_enter Tryd.func19, Tryd.ntmps19
  go_wp2_with fail
  refine (eqInt64S _ (((h.alloc (Nat.le_refl _) _).alloc (by simp) _).more (by simp; omega)) (((h'.alloc (Nat.le_refl _) _).alloc (by simp) _).more (by simp; omega)) HL.out HL.out hm hm).mono ?_
  rintro e w' ⟨rfl, k, rfl⟩
  rw [show sameB xs xs = true by simp [sameB]]
  go_wp2
  go_ret
  exact ⟨rfl, bel2 (by repeat' (first | assumption | exact Below.refl _ _ | refine Below.drew ?_ | refine Below.alloc ?_ (by first | omega | (simp; done) | (simp; omega)) _)) (RetQ.bel k)⟩

set_option maxHeartbeats 400000 in
theorem markRegister {b : Int} {A : Option Addr} {n c lo hi : Nat} {xs : List Value} (k : Int) (w : World) (h : Own w lo hi 2 1 (.slice A n c) n xs) (hm : n ≤ 1073741824) (h0 : 0 ≤ k) (h1 : k ≤ 1099511627776) :
    Calls Tryd.prog 22 #[.agg #[.int .i64 b, .slice A n c], .int .i64 k] w (Marked w lo hi 2 1 (.slice A n c) n ((marksI k n).map (Value.int .i64)) (k + n)) := by
  go_enter Tryd.func22, Tryd.ntmps22
  go_wp2_with fail
  refine (markInt64S k _ (h.alloc _) hm h0 h1).mono ?_
  rintro e w1 ⟨rfl, ho, ht⟩
  go_wp2
  go_ret
  exact ⟨rfl, ho, (Touch.of_below _ _ ((Below.refl _ _).alloc (Nat.le_refl _) _)).trans ht⟩

set_option maxHeartbeats 400000 in
theorem heldRegister {b : Int} {A : Option Addr} {n c : Nat} (k : Int) (w : World) (h : Reads w w.heap.size 1 A n ((marksI k n).map (Value.int .i64))) (hm : n ≤ 1073741824) (h0 : 0 ≤ k) (h1 : k ≤ 1099511627776) :
    Calls Tryd.prog 23 #[.agg #[.int .i64 b, .slice A n c], .int .i64 k] w fun e w' => e = .returned (.int .i64 (k + n)) ∧ Below w.heap.size w w' := by
  have hp : 0 ≤ k + (n : Int) := by omega
  go_enter Tryd.func23, Tryd.ntmps23
  go_wp2_with fail
  refine (heldInt64S k _ ((h.alloc (Nat.le_refl _) _).more (by simp)) hm h0 h1).mono ?_
  rintro e w1 ⟨rfl, rfl⟩
  go_wp2
  go_ret
  exact ⟨rfl, (by repeat' (first | assumption | exact Below.refl _ _ | refine Below.drew ?_ | refine Below.alloc ?_ (by first | omega | (simp; done) | (simp; omega)) _))⟩
end Go.Proofs.YtlnajkimlooapaaDoor
