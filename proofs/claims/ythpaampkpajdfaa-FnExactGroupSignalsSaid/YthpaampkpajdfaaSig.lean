/- Signals joined, from the lowest digits on. No condition. -/
import Derived.Test.YthpaampkpajdfaaSigs
import Derived.Test.YthpaampkpajdfaaJsig
import Derived.Test.YthpaampkpajdfaaBetw
import Derived.Test.YthpaampkpajdfaaApp
import Derived.Test.YthpaampkpajdfaaCall
import Derived.BigQuiet
import Derived.Deep.RegionLaw
namespace Go.Proofs.Ythpaampkpajdfaa
open Go.RowKit

theorem eltSig : Elt Try.prog 57 98 2 := by
  obtain ⟨i0, hi, hz0, hz1, hz2⟩ := info_parts infoSignal
  exact ⟨i0, _, _, Try.underlying57, hi, hz0, hz1, hz2, rfl, by decide, by decide⟩
/-- A slice and a code. -/
def RetSG (w : World) (e : TypeId) (size n : Nat) (xs : List Value) (cd : Int) (x : Ending) (w' : World) : Prop := ∃ s, x = .returned (.tuple #[s, .int .i64 cd]) ∧ Own w' w.heap.size w'.heap.size e size s n xs ∧ Below w.heap.size w w'
theorem two_bools (x y : Bool) : ∀ u ∈ (#[Value.bool x, .bool y] : Array Value).toList, u.oneCell' = true := by
  intro u hu
  simp at hu
  rcases hu with rfl | rfl <;> rfl
set_option maxHeartbeats 400000 in
theorem sWid (x : Int) (w : World) : Calls Try.prog 79 #[.int .i64 x] w fun e w' => e = .returned (.bool (betwB x 1 16)) ∧ w = w' := by
  go_enter Try.func79, Try.ntmps79
  go_wp2_with (first | (go_at_call 65; refine (l00In_any _ _ _ _).mono ?_; rintro e w' ⟨rfl, rfl⟩))
  go_ret
  exact ⟨rfl, rfl⟩
set_option maxHeartbeats 400000 in
theorem iWid (x : Int) (w : World) : Calls Try.prog 86 #[.int .i64 x] w fun e w' => e = .returned (.bool (betwB x 1 16)) ∧ w = w' := by
  go_enter Try.func86, Try.ntmps86
  go_wp2_with (first | (go_at_call 97; refine (between_any _ _ _ _).mono ?_; rintro e w' ⟨rfl, rfl⟩))
  go_ret
  exact ⟨rfl, rfl⟩
set_option maxHeartbeats 400000 in
theorem iAreSig {A : Option Addr} {n c : Nat} (w : World) (hm : n ≤ maxLen) : Calls Try.prog 82 #[.slice A n c] w fun e w' => e = .returned (.bool (betwB (n : Int) 1 16)) ∧ w = w' := by
  unfold maxLen at hm
  go_enter Try.func82, Try.ntmps82
  go_wp2_with (first | (go_at_call 86; refine (iWid _ _).mono ?_; rintro e w' ⟨rfl, rfl⟩))
  go_ret
  exact ⟨rfl, rfl⟩

/-- The signal of the lowest digits, of which there are k + 1. -/
def preQ (xs : List (Bool × Bool)) : Nat → Bool × Bool
  | 0 => xs.getD 0 (false, false)
  | k + 1 => joinQ (preQ xs k) (xs.getD (k + 1) (false, false))
def preL (xs : List (Bool × Bool)) (k : Nat) : List (Bool × Bool) := (List.range k).map (preQ xs)
theorem preL_length (xs : List (Bool × Bool)) (k : Nat) : (preL xs k).length = k := by simp [preL]
theorem preL_succ (xs : List (Bool × Bool)) (k : Nat) : preL xs (k + 1) = preL xs k ++ [preQ xs k] := by simp [preL, List.range_succ]
theorem preL_at {xs : List (Bool × Bool)} {k j : Nat} (h : j < k) : (preL xs k)[j]? = some (preQ xs j) := by simp [preL, h]
theorem getB_of {xs : List (Bool × Bool)} {k : Nat} {q : Bool × Bool} (h : xs[k]? = some q) : xs.getD k (false, false) = q := by simp [List.getD_eq_getElem?_getD, h]
theorem flat_snoc (xs : List (Bool × Bool)) (k : Nat) : flat encSig (preL xs (k + 1)) = flat encSig (preL xs k) ++ [.bool (preQ xs k).1, .bool (preQ xs k).2] := by
  rw [preL_succ, flat_append]; rfl
def psOk (xs : List (Bool × Bool)) : Bool := betwB xs.length 1 16
def psN (xs : List (Bool × Bool)) : Nat := if psOk xs then xs.length else 0
def psXs (xs : List (Bool × Bool)) : List (Bool × Bool) := if psOk xs then preL xs xs.length else []
def psCode (xs : List (Bool × Bool)) : Int := if psOk xs then 0 else 2
theorem psN_le (xs : List (Bool × Bool)) : psN xs ≤ 1073741824 := by
  unfold psN psOk
  split
  · rename_i h
    have := betw_iff.1 h
    omega
  · omega
theorem ps_bad {xs : List (Bool × Bool)} (h : psOk xs = false) : psCode xs = 2 ∧ psN xs = 0 ∧ psXs xs = [] := by simp [psCode, psN, psXs, h]
theorem ps_ok {xs : List (Bool × Bool)} (h : psOk xs = true) : psCode xs = 0 ∧ psN xs = xs.length ∧ psXs xs = preL xs xs.length := by simp [psCode, psN, psXs, h]

set_option maxRecDepth 100000 in
set_option maxHeartbeats 3200000 in
theorem sPrefix {A : Option Addr} {n c : Nat} {xs : List (Bool × Bool)} (w : World) (h : Reads w w.heap.size 2 A n (flat encSig xs)) (hl : xs.length = n) (hm : n ≤ maxLen) :
    Calls Try.prog 41 #[.slice A n c] w (RetSG w 98 2 (psN xs) (flat encSig (psXs xs)) (psCode xs)) := by
  have hm0 := hm
  unfold maxLen at hm
  cases hk : psOk xs
  · have HE := Lib.hid (ps_bad hk)
    have hk' : betwB (n : Int) 1 16 = false := by rw [← hl]; exact hk
    go_enter Try.func41, Try.ntmps41
    go_wp2_with (first | (go_at_call 79; refine (sWid _ _).mono ?_; rintro e w' ⟨rfl, rfl⟩))
    go_ret2
    obtain ⟨e1, e2, e3⟩ := HE.out
    rw [e1, e2, e3]
    exact ⟨_, rfl, Own.nil _ _ _ _ _, Below.refl _ _⟩
  · have HE := Lib.hid (ps_ok hk)
    have hk' : betwB (n : Int) 1 16 = true := by rw [← hl]; exact hk
    obtain ⟨n1, n2⟩ := betw_iff.1 hk'
    have HL := Lib.hid hl; clear hl
    obtain ⟨b, off, q, rfl, _, hq, hc⟩ := h.row_at encSig_length (by decide) HL.out (show 0 < n by omega)
    have e0 := hc 0 _ rfl; have e1 := hc 1 _ rfl
    simp only [Nat.add_zero, Nat.zero_mul] at e0 e1
    clear hc
    have H0 : Hid (preQ xs 0 = q) := getB_of hq
    clear hq
    go_enter Try.func41, Try.ntmps41
    go_wp2_with (first | (go_at_call 79; refine (sWid _ _).mono ?_; rintro e w' ⟨rfl, rfl⟩))
    clear hk hk' e0 e1
    go_loopw [4, 5] (fun o i wr => ∃ (k : Nat) (A' : Option Addr) (c' : Nat), k < n ∧ i = .int .i64 ((k + 1 : Nat) : Int) ∧ o = .slice A' (k + 1) c' ∧ Own wr w.heap.size wr.heap.size 98 2 (.slice A' (k + 1) c') (k + 1) (flat encSig (preL xs (k + 1))) ∧ w.heap.size ≤ wr.heap.size ∧ Below w.heap.size w wr) (fun _ i _ => n - (intOf i).toNat)
    case atStart =>
      refine ⟨0, some ⟨w.heap.size, 0, none⟩, 1, by omega, rfl, rfl, ?_, by simp, (by repeat' (first | assumption | exact Below.refl _ _ | refine Below.drew ?_ | refine belN ?_ _ | refine Below.alloc ?_ (by first | omega | (simp; done) | (simp; omega)) _ | refine Below.setCell ?_ (by first | omega | (simp; done) | (simp; omega)) _))⟩
      have hb := (Blk.new w 98 #[.bool q.1, .bool q.2]).own (n := 1) (size := 2) (by unfold maxLen; omega) rfl
      have e : flat encSig (preL xs (0 + 1)) = [.bool q.1, .bool q.2] := by rw [flat_snoc, H0.out]; rfl
      rw [e]
      exact hb.more (Nat.le_refl _) (by simp)
    case round =>
      obtain ⟨k, A', c', hk, rfl, rfl, ho, hs, hB⟩ := hrel
      by_cases hlt : k + 1 < n
      · obtain ⟨b1, o1, q1, hbo, _, hq1, hc⟩ := (rdB h hB).row_at encSig_length (by decide) HL.out hlt
        obtain ⟨rfl, rfl⟩ : b = b1 ∧ off = o1 := by injection hbo with hbo; injection hbo with h1 h2; exact ⟨h1, h2⟩
        have e0 := hc 0 _ rfl; have e1 := hc 1 _ rfl
        simp only [Nat.add_zero] at e0
        clear hc hbo
        obtain ⟨b2, o2, q2, rfl, _, hq2, hd⟩ := ho.reads.row_at encSig_length (by decide) (preL_length _ _) (show k < k + 1 by omega)
        rw [preL_at (by omega)] at hq2
        obtain rfl := Option.some.inj hq2
        have d0 := hd 0 _ rfl; have d1 := hd 1 _ rfl
        simp only [Nat.add_zero] at d0
        clear hd hq2
        have HS : Hid (preQ xs (k + 1) = joinQ (preQ xs k) q1) := by unfold Hid; rw [preQ, getB_of hq1]
        clear hq1
        have ki0 : (0 : Int) ≤ (k : Int) := Int.natCast_nonneg _
        have ki1 : (k : Int) < (k : Int) + 1 := by omega
        have ki2 : (0 : Int) ≤ (k : Int) + 1 := by omega
        have ki3 : (k : Int) + 1 < (n : Int) := by omega
        have kw : IntKind.i64.wrap (k : Int) = (k : Int) := IntWalk.i64_in _ (by omega)
        go_wp2_with fail
        go_region_law (first | (refine step_call (by rfl) 80 (by rfl) _ Try.func80 (by kernel_rfl) (by kernel_rfl) #[.agg #[.bool (preQ xs k).1, .bool (preQ xs k).2], .agg #[.bool q1.1, .bool q1.2]] (by rfl) ?_; refine (sJoinSig _ _ _).mono ?_; rintro e w1 ⟨rfl, hb1⟩; refine ⟨_, rfl, ?_⟩; have ho1 := ho.drew.bel hb1) | (refine step_app1 (by rfl) (.tmp 20) (.tmp 31) (by rfl) eltSig (by rfl) (ho1.alloc _) (by rfl) (Blk.new _ _ _) (by rfl) (two_bools _ _) (by omega) (by have := hb1.size; simp at this ⊢; omega) ?_; intro A2 c2 w2 ho2 ht2))
        all_goals
          have hz1 := hb1.size
          have hz2 := ht2.size
          have hB1 := bel2 hB.drew hb1
          have he : flat encSig (preL xs (k + 1)) ++ #[Value.bool (joinQ (preQ xs k) q1).1, .bool (joinQ (preQ xs k) q1).2].toList = flat encSig (preL xs (k + 1 + 1)) := by rw [flat_snoc xs (k + 1), HS.out]
          rw [he] at ho2
          have HO := Lib.hid ho2
          clear he ho2
          go_wp2
          go_roundw
          case rel => exact ⟨k + 1, A2, c2, by omega, by go_num, rfl, HO.out, by simp at hz1 hz2 ⊢; omega, Touch.below (hB1.alloc (by simp at hz1 ⊢; omega) _) ht2 (by simp at hz1 ⊢; omega) (Nat.le_refl _)⟩
          case measure => simp [intOf]; omega
      · obtain rfl : k + 1 = n := by omega
        go_wp2
        go_ret2
        obtain ⟨e1, e2, e3⟩ := HE.out
        rw [e1, e2, e3, HL.out]
        exact ⟨_, rfl, ho, hB⟩

set_option maxRecDepth 100000 in
set_option maxHeartbeats 3200000 in
theorem iPrefix {A : Option Addr} {n c : Nat} {xs : List (Bool × Bool)} (w : World) (h : Reads w w.heap.size 2 A n (flat encSig xs)) (hl : xs.length = n) (hm : n ≤ maxLen) :
    Calls Try.prog 43 #[.slice A n c] w (RetSG w 98 2 (psN xs) (flat encSig (psXs xs)) (psCode xs)) := by
  have hm0 := hm
  unfold maxLen at hm
  cases hk : psOk xs
  · have HE := Lib.hid (ps_bad hk)
    have hk' : betwB (n : Int) 1 16 = false := by rw [← hl]; exact hk
    go_enter Try.func43, Try.ntmps43
    go_wp2_with (first | (go_at_call 82; refine (iAreSig _ hm0).mono ?_; rintro e w' ⟨rfl, rfl⟩))
    go_ret2
    obtain ⟨e1, e2, e3⟩ := HE.out
    rw [e1, e2, e3]
    exact ⟨_, rfl, Own.nil _ _ _ _ _, Below.refl _ _⟩
  · have HE := Lib.hid (ps_ok hk)
    have hk' : betwB (n : Int) 1 16 = true := by rw [← hl]; exact hk
    obtain ⟨n1, n2⟩ := betw_iff.1 hk'
    have HL := Lib.hid hl; clear hl
    obtain ⟨b, off, q, rfl, _, hq, hc⟩ := h.row_at encSig_length (by decide) HL.out (show 0 < n by omega)
    have e0 := hc 0 _ rfl; have e1 := hc 1 _ rfl
    simp only [Nat.add_zero, Nat.zero_mul] at e0 e1
    clear hc
    have H0 : Hid (preQ xs 0 = q) := getB_of hq
    clear hq
    go_enter Try.func43, Try.ntmps43
    go_wp2_with (first | (go_at_call 82; refine (iAreSig _ hm0).mono ?_; rintro e w' ⟨rfl, rfl⟩))
    clear hk hk' e0 e1
    go_loopw [4, 5] (fun o i wr => ∃ (k : Nat) (A' : Option Addr) (c' : Nat), k < n ∧ i = .int .i64 ((k + 1 : Nat) : Int) ∧ o = .slice A' (k + 1) c' ∧ Own wr w.heap.size wr.heap.size 98 2 (.slice A' (k + 1) c') (k + 1) (flat encSig (preL xs (k + 1))) ∧ w.heap.size ≤ wr.heap.size ∧ Below w.heap.size w wr) (fun _ i _ => n - (intOf i).toNat)
    case atStart =>
      refine ⟨0, some ⟨w.heap.size, 0, none⟩, 1, by omega, rfl, rfl, ?_, by simp, (by repeat' (first | assumption | exact Below.refl _ _ | refine Below.drew ?_ | refine belN ?_ _ | refine Below.alloc ?_ (by first | omega | (simp; done) | (simp; omega)) _ | refine Below.setCell ?_ (by first | omega | (simp; done) | (simp; omega)) _))⟩
      have hb := (Blk.new w 98 #[.bool q.1, .bool q.2]).own (n := 1) (size := 2) (by unfold maxLen; omega) rfl
      have e : flat encSig (preL xs (0 + 1)) = [.bool q.1, .bool q.2] := by rw [flat_snoc, H0.out]; rfl
      rw [e]
      exact hb.more (Nat.le_refl _) (by simp)
    case round =>
      obtain ⟨k, A', c', hk, rfl, rfl, ho, hs, hB⟩ := hrel
      by_cases hlt : k + 1 < n
      · obtain ⟨b1, o1, q1, hbo, _, hq1, hc⟩ := (rdB h hB).row_at encSig_length (by decide) HL.out hlt
        obtain ⟨rfl, rfl⟩ : b = b1 ∧ off = o1 := by injection hbo with hbo; injection hbo with h1 h2; exact ⟨h1, h2⟩
        have e0 := hc 0 _ rfl; have e1 := hc 1 _ rfl
        simp only [Nat.add_zero] at e0
        clear hc hbo
        obtain ⟨b2, o2, q2, rfl, _, hq2, hd⟩ := ho.reads.row_at encSig_length (by decide) (preL_length _ _) (show k < k + 1 by omega)
        rw [preL_at (by omega)] at hq2
        obtain rfl := Option.some.inj hq2
        have d0 := hd 0 _ rfl; have d1 := hd 1 _ rfl
        simp only [Nat.add_zero] at d0
        clear hd hq2
        have HS : Hid (preQ xs (k + 1) = joinQ (preQ xs k) q1) := by unfold Hid; rw [preQ, getB_of hq1]
        clear hq1
        have ki0 : (0 : Int) ≤ (k : Int) := Int.natCast_nonneg _
        have ki1 : (k : Int) < (k : Int) + 1 := by omega
        have ki2 : (0 : Int) ≤ (k : Int) + 1 := by omega
        have ki3 : (k : Int) + 1 < (n : Int) := by omega
        have kw : IntKind.i64.wrap (k : Int) = (k : Int) := IntWalk.i64_in _ (by omega)
        go_wp2_with fail
        go_region_law (first | (refine step_call (by rfl) 83 (by rfl) _ Try.func83 (by kernel_rfl) (by kernel_rfl) #[.agg #[.bool (preQ xs k).1, .bool (preQ xs k).2], .agg #[.bool q1.1, .bool q1.2]] (by rfl) ?_; refine (iJoinSig _ _ _).mono ?_; rintro e w1 ⟨rfl, hb1⟩; refine ⟨_, rfl, ?_⟩; have ho1 := ho.drew.bel hb1) | (refine step_app1 (by rfl) (.tmp 19) (.tmp 30) (by rfl) eltSig (by rfl) (ho1.alloc _) (by rfl) (Blk.new _ _ _) (by rfl) (two_bools _ _) (by omega) (by have := hb1.size; simp at this ⊢; omega) ?_; intro A2 c2 w2 ho2 ht2))
        all_goals
          have hz1 := hb1.size
          have hz2 := ht2.size
          have hB1 := bel2 hB.drew hb1
          have he : flat encSig (preL xs (k + 1)) ++ #[Value.bool (joinQ (preQ xs k) q1).1, .bool (joinQ (preQ xs k) q1).2].toList = flat encSig (preL xs (k + 1 + 1)) := by rw [flat_snoc xs (k + 1), HS.out]
          rw [he] at ho2
          have HO := Lib.hid ho2
          clear he ho2
          go_wp2
          go_roundw
          case rel => exact ⟨k + 1, A2, c2, by omega, by go_num, rfl, HO.out, by simp at hz1 hz2 ⊢; omega, Touch.below (hB1.alloc (by simp at hz1 ⊢; omega) _) ht2 (by simp at hz1 ⊢; omega) (Nat.le_refl _)⟩
          case measure => simp [intOf]; omega
      · obtain rfl : k + 1 = n := by omega
        go_wp2
        go_ret2
        obtain ⟨e1, e2, e3⟩ := HE.out
        rw [e1, e2, e3, HL.out]
        exact ⟨_, rfl, ho, hB⟩
end Go.Proofs.Ythpaampkpajdfaa
