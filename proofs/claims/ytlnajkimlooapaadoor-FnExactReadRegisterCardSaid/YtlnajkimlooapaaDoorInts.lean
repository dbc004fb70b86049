/- Slices of integers: their size, a copy, equality, marks. No condition. -/
import Derived.Test.YtlnajkimlooapaaDoorRows
import Derived.Test.YtlnajkimlooapaaDoorWords
import Derived.BigQuiet
import Derived.StillTail
namespace Go.Proofs.YtlnajkimlooapaaDoor
open Go.RowKit

set_option maxHeartbeats 400000 in
theorem szInt64S {A : Option Addr} {n c : Nat} (l : Int) (w : World) (hn : n ≤ maxLen) (h0 : 0 ≤ l) (h1 : l ≤ 1048576) :
    Calls Tryd.prog 28 #[.slice A n c, .int .i64 l] w fun e w' => e = .returned (.int .i64 (szI n l)) ∧ w = w' := by
  unfold maxLen at hn
  by_cases hc : (n : Int) ≤ l
  all_goals
    go_enter Tryd.func28, Tryd.ntmps28
    go_wp2
    go_ret
    exact ⟨ret_n (by unfold szI; split <;> omega), rfl⟩


set_option maxHeartbeats 1000000 in
theorem eqInt64S {A A' : Option Addr} {n c n' c' : Nat} {xs ys : List Int} (w : World) (h : Reads w w.heap.size 1 A n (xs.map (Value.int .i64))) (h' : Reads w w.heap.size 1 A' n' (ys.map (Value.int .i64))) (hl : xs.length = n) (hl' : ys.length = n') (hm : n ≤ maxLen) (hm' : n' ≤ maxLen) :
    Calls Tryd.prog 33 #[.slice A n c, .slice A' n' c'] w (RetQ (.bool (sameB xs ys)) w) := by
  unfold maxLen at hm hm'
  by_cases hn : n = n'
  · subst hn
    have HL := Lib.hid hl; have HL' := Lib.hid hl'; clear hl hl'
    go_enter Tryd.func33, Tryd.ntmps33
    go_wp2
    go_loopw [5] (fun i wr => ∃ k m : Nat, k ≤ n ∧ i = .int .i64 k ∧ wr = w.drewN m ∧ xs.take k = ys.take k) (fun i _ => n - (intOf i).toNat)
    case atStart => exact ⟨0, 0, Nat.zero_le _, rfl, rfl, rfl⟩
    case round =>
      obtain ⟨k, m, hk, rfl, rfl, heq⟩ := hrel
      have HE := Lib.hid heq; clear heq
      by_cases hlt : k < n
      · obtain ⟨ad, x, rfl, _, hx, hc⟩ := h.int_at hlt
        obtain ⟨ad', y, rfl, _, hy, hc'⟩ := h'.int_at hlt
        have HX := Lib.hid hx; have HY := Lib.hid hy; clear hx hy
        by_cases hxy : x = y
        · subst hxy
          go_wp2
          go_quiet (fail)
          go_wp2
          go_roundw
          case rel => exact ⟨k + 1, _, by omega, by go_num, rfl, take_snoc_some HX.out HY.out HE.out⟩
          case measure => simp [intOf]; omega
        · have hb : (x != y) = true := by simp [hxy]
          go_wp2
          go_quiet (fail)
          go_wp2
          go_ret
          exact ⟨ret_b (by simp [sameB]; exact ne_of_at HX.out HY.out hxy), m + nq, by first | rfl | exact World.drewN_drewN _ _ _⟩
      · obtain rfl : k = n := by omega
        go_wp2
        go_ret
        exact ⟨ret_b (by simp [sameB]; have := HE.out; rwa [List.take_of_length_le (by rw [HL.out]; exact Nat.le_refl _), List.take_of_length_le (by rw [HL'.out]; exact Nat.le_refl _)] at this), _, rfl⟩
  · have hb : ((n : Int) != (n' : Int)) = true := by simp; omega
    go_enter Tryd.func33, Tryd.ntmps33
    go_wp2
    go_ret
    exact ⟨ret_b (by simp [sameB]; rintro rfl; omega), 0, rfl⟩

end Go.Proofs.YtlnajkimlooapaaDoor
