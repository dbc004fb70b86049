/- Abaci: their size, a copy, equality, marks. No condition. -/
import Derived.Test.YtpgifgdoikhpbaaRods
namespace Go.Proofs.Ytpgifgdoikhpbaa
open Go.RowKit

/-- An abacus of its own. -/
def RetAba (w : World) (u o t : Int) (n : Nat) (xs : List Value) (x : Ending) (w' : World) : Prop := ∃ v, x = .returned (.agg #[.int .i64 u, .int .i64 o, .int .i64 t, v]) ∧ Own w' w.heap.size w'.heap.size 69 2 v n xs ∧ Below w.heap.size w w'

set_option maxHeartbeats 400000 in
theorem szAbacus {u o t : Int} {A : Option Addr} {n c : Nat} (l : Int) (w : World) (hn : n ≤ maxLen) (h0 : 0 ≤ l) (h1 : l ≤ 1048576) :
    Calls Try.prog 14 #[.agg #[.int .i64 u, .int .i64 o, .int .i64 t, .slice A n c], .int .i64 l] w fun e w' => e = .returned (.int .i64 (szI n l)) ∧ Below w.heap.size w w' := by
  by_cases hc : szI n l < 0
  · have hs : Hid (szI n l = -1) := by unfold Hid szI at *; split at hc <;> split <;> omega
    go_enter Try.func14, Try.ntmps14
    go_wp2_with fail
    refine (szRodS l _ hn h0 h1).mono ?_
    rintro e w' ⟨rfl, rfl⟩
    go_wp2
    go_ret
    exact ⟨ret_n hs.out.symm, (by repeat' (first | assumption | exact Below.refl _ _ | refine Below.drew ?_ | refine Below.alloc ?_ (by first | omega | (simp; done) | (simp; omega)) _))⟩
  · go_enter Try.func14, Try.ntmps14
    go_wp2_with fail
    refine (szRodS l _ hn h0 h1).mono ?_
    rintro e w' ⟨rfl, rfl⟩
    go_wp2
    go_ret
    exact ⟨rfl, (by repeat' (first | assumption | exact Below.refl _ _ | refine Below.drew ?_ | refine Below.alloc ?_ (by first | omega | (simp; done) | (simp; omega)) _))⟩

set_option maxHeartbeats 1000000 in
theorem toAbacus {u o t : Int} {A : Option Addr} {n c : Nat} {xs : List (Int × Int)} (w : World) (h : Reads w w.heap.size 2 A n (flat encPair xs)) (hl : xs.length = n) (hm : n ≤ 1048576) :
    Calls Try.prog 16 #[.agg #[.int .i64 u, .int .i64 o, .int .i64 t, .slice A n c]] w (RetAba w u o t n (flat encPair xs)) := by
  go_enter Try.func16, Try.ntmps16
  go_wp2_with fail
  refine (toRodS _ ((((h.alloc (Nat.le_refl _) _).alloc (by simp) _).alloc (by simp; omega) _).more (by simp; omega)) hl hm).mono ?_
  rintro e w1 ⟨v, rfl, ho, hb⟩
  obtain ⟨A', c', rfl, _, _⟩ := ho.form
  obtain ⟨hc, hf⟩ := bcell hb
  have hz : w.heap.size + 2 < w1.heap.size := by have := hb.size; simp at this; omega
  go_wp2
  refine bodyPost_ret (v := .agg #[.int .i64 u, .int .i64 o, .int .i64 t, .slice A' n c']) (by simp [results, Try.results16, go_sem, hc, hz]) rfl ⟨_, rfl, ?_, ?_⟩
  · exact (((((ho.setLow (.inl (by simp)) _).setLow (.inl (by simp)) _).setLow (.inl (by simp)) _).setLow (.inl (by simp)) _).setLow (.inl (by simp)) _).more (by simp; omega) (by simp)
  · exact (((((((((Below.refl _ _).alloc (Nat.le_refl _) _).alloc (by simp) _).alloc (by simp; omega) _).trans (hb.mono (by simp; omega))).setCell (by simp; omega) _).setCell (by simp) _).setCell (by simp) _).setCell (by simp) _).setCell (by simp) _

set_option maxHeartbeats 1000000 in
theorem eqAbacus {u o t : Int} {A A' : Option Addr} {n c c' : Nat} {xs : List (Int × Int)} (w : World) (h : Reads w w.heap.size 2 A n (flat encPair xs)) (h' : Reads w w.heap.size 2 A' n (flat encPair xs)) (hl : xs.length = n) (hm : n ≤ maxLen) :
    Calls Try.prog 18 #[.agg #[.int .i64 u, .int .i64 o, .int .i64 t, .slice A n c], .agg #[.int .i64 u, .int .i64 o, .int .i64 t, .slice A' n c']] w fun e w' => e = .returned (.bool true) ∧ Below w.heap.size w w' := by
  have HL := Lib.hid hl; clear hl
  go_enter Try.func18, Try.ntmps18
  go_wp2_with fail
  refine (eqRodS _ (((h.alloc (Nat.le_refl _) _).alloc (by simp) _).more (by simp; omega)) (((h'.alloc (Nat.le_refl _) _).alloc (by simp) _).more (by simp; omega)) HL.out hm).mono ?_
  rintro e w' ⟨rfl, hb⟩
  go_wp2
  go_ret
  exact ⟨rfl, bel2 (by repeat' (first | assumption | exact Below.refl _ _ | refine Below.drew ?_ | refine Below.alloc ?_ (by first | omega | (simp; done) | (simp; omega)) _)) hb⟩

set_option maxHeartbeats 400000 in
theorem markAbacus {u o t : Int} {A : Option Addr} {n c lo hi : Nat} {xs : List Value} (k : Int) (w : World) (h : Own w lo hi 69 2 (.slice A n c) n xs) (hm : n ≤ 1073741824) (h0 : 0 ≤ k) (h1 : k ≤ 1099511627776) :
    Calls Try.prog 28 #[.agg #[.int .i64 u, .int .i64 o, .int .i64 t, .slice A n c], .int .i64 k] w (Marked w lo hi 69 2 (.slice A n c) n ((marksI k (n * 2)).map (Value.int .i64)) (k + ((n * 2 : Nat) : Int))) := by
  go_enter Try.func28, Try.ntmps28
  go_wp2_with fail
  refine (markRodS k _ (h.alloc _) hm h0 h1).mono ?_
  rintro e w1 ⟨rfl, ho, ht⟩
  go_wp2
  go_ret
  exact ⟨rfl, ho, (Touch.of_below _ _ ((Below.refl _ _).alloc (Nat.le_refl _) _)).trans ht⟩

set_option maxHeartbeats 400000 in
theorem heldAbacus {u o t : Int} {A : Option Addr} {n c : Nat} (k : Int) (w : World) (h : Reads w w.heap.size 2 A n ((marksI k (n * 2)).map (Value.int .i64))) (hm : n ≤ 1073741824) (h0 : 0 ≤ k) (h1 : k ≤ 1099511627776) :
    Calls Try.prog 29 #[.agg #[.int .i64 u, .int .i64 o, .int .i64 t, .slice A n c], .int .i64 k] w fun e w' => e = .returned (.int .i64 (k + ((n * 2 : Nat) : Int))) ∧ Below w.heap.size w w' := by
  have hp : 0 ≤ k + ((n * 2 : Nat) : Int) := by omega
  go_enter Try.func29, Try.ntmps29
  go_wp2_with fail
  refine (heldRodS k _ ((h.alloc (Nat.le_refl _) _).more (by simp)) hm h0 h1).mono ?_
  rintro e w1 ⟨rfl, rfl⟩
  go_wp2
  go_ret
  exact ⟨rfl, (by repeat' (first | assumption | exact Below.refl _ _ | refine Below.drew ?_ | refine Below.alloc ?_ (by first | omega | (simp; done) | (simp; omega)) _))⟩
end Go.Proofs.Ytpgifgdoikhpbaa
