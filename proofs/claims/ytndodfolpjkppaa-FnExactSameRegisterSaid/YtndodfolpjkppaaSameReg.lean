/- Equality of registers: the law. No condition. -/
import Derived.Test.YtndodfolpjkppaaReg
namespace Go.Proofs.Ytndodfolpjkppaa
open Go.RowKit

def srB (b b' : Int) (xs ys : List Int) : Bool := decide (b = b') && sameB xs ys

set_option maxHeartbeats 800000 in
theorem l02Same {b b' : Int} {A A' : Option Addr} {n c n' c' : Nat} {xs ys : List Int} {g g' : Nat} (w : World) (h : Reads w w.heap.size 1 A n (xs.map (Value.int .i64))) (h' : Reads w w.heap.size 1 A' n' (ys.map (Value.int .i64))) (hl : xs.length = n) (hl' : ys.length = n') (hm : n ≤ maxLen) (hm' : n' ≤ maxLen) (c0 : w.cell? ⟨g, 0, none⟩ = some (.int .i64 b)) (c1 : w.cell? ⟨g, 1, none⟩ = some (.slice A n c)) (d0 : w.cell? ⟨g', 0, none⟩ = some (.int .i64 b')) (d1 : w.cell? ⟨g', 1, none⟩ = some (.slice A' n' c')) :
    Calls Try.prog 47 #[.pointer (some ⟨g, 0, none⟩), .pointer (some ⟨g', 0, none⟩)] w (RetQ (.bool (srB b b' xs ys)) w) := by
  have HL := Lib.hid hl; clear hl
  have HL' := Lib.hid hl'; clear hl'
  by_cases hb : b = b'
  · subst hb
    go_enter Try.func47, Try.ntmps47
    go_wp2_with fail
    go_quiet ((go_at_call 51; refine Calls.quiet_of (sSame _ (h.drewN _) (h'.drewN _) HL.out HL'.out hm hm')))
    go_wp2
    go_ret
    exact ⟨ret_b (by simp [srB]), _, rfl⟩
  · have hbb : (b == b') = false := by simp [hb]
    go_enter Try.func47, Try.ntmps47
    go_wp2_with fail
    go_quiet ((go_at_call 51; refine Calls.quiet_of (sSame _ (h.drewN _) (h'.drewN _) HL.out HL'.out hm hm')))
    go_wp2
    go_ret
    exact ⟨ret_b (by simp [srB, hb]), _, rfl⟩
set_option maxHeartbeats 800000 in
theorem sSameReg {b b' : Int} {A A' : Option Addr} {n c n' c' : Nat} {xs ys : List Int} (w : World) (h : Reads w w.heap.size 1 A n (xs.map (Value.int .i64))) (h' : Reads w w.heap.size 1 A' n' (ys.map (Value.int .i64))) (hl : xs.length = n) (hl' : ys.length = n') (hm : n ≤ maxLen) (hm' : n' ≤ maxLen) :
    Calls Try.prog 15 #[.agg #[.int .i64 b, .slice A n c], .agg #[.int .i64 b', .slice A' n' c']] w fun e w' => e = .returned (.bool (srB b b' xs ys)) ∧ Below w.heap.size w w' := by
  have HL := Lib.hid hl; clear hl
  have HL' := Lib.hid hl'; clear hl'
  go_enter Try.func15, Try.ntmps15
  go_wp2_with fail
  refine (l02Same _ (((h.alloc (Nat.le_refl _) _).alloc (by simp) _).more (by simp; omega)) (((h'.alloc (Nat.le_refl _) _).alloc (by simp) _).more (by simp; omega)) HL.out HL'.out hm hm' (by simp; rfl) (by simp; rfl) (by simp; rfl) (by simp; rfl)).mono ?_
  rintro e w' ⟨rfl, k, rfl⟩
  go_wp2
  go_ret
  exact ⟨rfl, bel2 (by repeat' (first | assumption | exact Below.refl _ _ | refine Below.drew ?_ | refine Below.alloc ?_ (by first | omega | (simp; done) | (simp; omega)) _)) (RetQ.bel k)⟩
set_option maxHeartbeats 800000 in
theorem iSameReg {b b' : Int} {A A' : Option Addr} {n c n' c' : Nat} {xs ys : List Int} (w : World) (h : Reads w w.heap.size 1 A n (xs.map (Value.int .i64))) (h' : Reads w w.heap.size 1 A' n' (ys.map (Value.int .i64))) (hl : xs.length = n) (hl' : ys.length = n') (hm : n ≤ maxLen) (hm' : n' ≤ maxLen) :
    Calls Try.prog 17 #[.agg #[.int .i64 b, .slice A n c], .agg #[.int .i64 b', .slice A' n' c']] w fun e w' => e = .returned (.bool (srB b b' xs ys)) ∧ Below w.heap.size w w' := by
  have HL := Lib.hid hl; clear hl
  have HL' := Lib.hid hl'; clear hl'
  by_cases hb : b = b'
  · subst hb
    go_enter Try.func17, Try.ntmps17
    go_wp2_with fail
    refine (iSame _ (((h.alloc (Nat.le_refl _) _).alloc (by simp) _).more (by simp; omega)) (((h'.alloc (Nat.le_refl _) _).alloc (by simp) _).more (by simp; omega)) HL.out HL'.out hm hm').mono ?_
    rintro e w' ⟨rfl, k, rfl⟩
    go_wp2
    go_ret
    exact ⟨ret_b (by simp [srB]), bel2 (by repeat' (first | assumption | exact Below.refl _ _ | refine Below.drew ?_ | refine Below.alloc ?_ (by first | omega | (simp; done) | (simp; omega)) _)) (RetQ.bel k)⟩
  · have hbb : (b == b') = false := by simp [hb]
    go_enter Try.func17, Try.ntmps17
    go_wp2
    go_ret
    exact ⟨ret_b (by simp [srB, hb]), (by repeat' (first | assumption | exact Below.refl _ _ | refine Below.drew ?_ | refine Below.alloc ?_ (by first | omega | (simp; done) | (simp; omega)) _))⟩
end Go.Proofs.Ytndodfolpjkppaa
