/- Equality of abaci. No condition. -/
import Derived.Test.YtpgifgdoikhpbaaAba
import Derived.Test.YtpgifgdoikhpbaaAbaM
import Derived.BigQuiet
namespace Go.Proofs.Ytpgifgdoikhpbaa
open Go.RowKit

def saB (u o t u' o' t' : Int) (xs ys : List (Int × Int)) : Bool := decide (u = u') && decide (o = o') && decide (t = t') && sameB xs ys

section
attribute [local irreducible] wpQuiet
set_option maxHeartbeats 3200000 in
theorem l03Same {u o t u' o' t' : Int} {A A' : Option Addr} {n c n' c' : Nat} {xs ys : List (Int × Int)} {g g' : Nat} (w : World) (h : Reads w w.heap.size 2 A n (flat encPair xs)) (h' : Reads w w.heap.size 2 A' n' (flat encPair ys)) (hl : xs.length = n) (hl' : ys.length = n') (hm : n ≤ maxLen) (hm' : n' ≤ maxLen) (c0 : w.cell? ⟨g, 0, none⟩ = some (.int .i64 u)) (d0 : w.cell? ⟨g', 0, none⟩ = some (.int .i64 u')) (c1 : w.cell? ⟨g, 1, none⟩ = some (.int .i64 o)) (d1 : w.cell? ⟨g', 1, none⟩ = some (.int .i64 o')) (c2 : w.cell? ⟨g, 2, none⟩ = some (.int .i64 t)) (d2 : w.cell? ⟨g', 2, none⟩ = some (.int .i64 t')) (c3 : w.cell? ⟨g, 3, none⟩ = some (.slice A n c)) (d3 : w.cell? ⟨g', 3, none⟩ = some (.slice A' n' c')) :
    Calls Try.prog 51 #[.pointer (some ⟨g, 0, none⟩), .pointer (some ⟨g', 0, none⟩)] w (RetQ (.bool (saB u o t u' o' t' xs ys)) w) := by
  unfold maxLen at hm hm'
  have HL := Lib.hid hl; clear hl
  have HL' := Lib.hid hl'; clear hl'
  by_cases e0 : u = u'
  rotate_left
  · have b0 : (u == u') = false := by simp [e0]
    have b1 : (u != u') = true := by simp [bne, b0]
    go_enter Try.func51, Try.ntmps51
    go_wp2_with fail
    go_quiet (fail)
    go_wp2
    go_ret
    exact ⟨ret_b (by simp [saB, e0]), _, rfl⟩
  subst e0
  by_cases e0 : o = o'
  rotate_left
  · have b0 : (o == o') = false := by simp [e0]
    have b1 : (o != o') = true := by simp [bne, b0]
    go_enter Try.func51, Try.ntmps51
    go_wp2_with fail
    go_quiet (fail)
    go_wp2
    go_ret
    exact ⟨ret_b (by simp [saB, e0]), _, rfl⟩
  subst e0
  by_cases e0 : t = t'
  rotate_left
  · have b0 : (t == t') = false := by simp [e0]
    have b1 : (t != t') = true := by simp [bne, b0]
    go_enter Try.func51, Try.ntmps51
    go_wp2_with fail
    go_quiet (fail)
    go_wp2
    go_ret
    exact ⟨ret_b (by simp [saB, e0]), _, rfl⟩
  subst e0
  by_cases e0 : n = n'
  rotate_left
  · have b0 : ((n : Int) == (n' : Int)) = false := by simp; omega
    have b1 : ((n : Int) != (n' : Int)) = true := by simp [bne, b0]
    go_enter Try.func51, Try.ntmps51
    go_wp2_with fail
    go_quiet (fail)
    go_wp2
    go_ret
    exact ⟨ret_b (by
      have : xs ≠ ys := by rintro rfl; exact e0 (HL.out.symm.trans HL'.out)
      simp [saB, sameB, this]), _, rfl⟩
  subst e0
  go_enter Try.func51, Try.ntmps51
  go_wp2_with fail
  go_quiet (fail)
  go_wp2
  go_loopw [5] (fun i wr => ∃ k m : Nat, k ≤ n ∧ i = .int .i64 k ∧ Hid (xs.take k = ys.take k) ∧ wr = w.drewN m) (fun i _ => n - (intOf i).toNat)
  case atStart => exact ⟨0, _, Nat.zero_le _, rfl, by simp [Hid], rfl⟩
  case round =>
    obtain ⟨k, m, hk, rfl, hd, rfl⟩ := hrel
    by_cases hlt : k < n
    · obtain ⟨b1, o1, q, rfl, _, hq, hc⟩ := h.row_at encPair_length (by decide) HL.out hlt
      obtain ⟨b2, o2, q', rfl, _, hq', hd'⟩ := h'.row_at encPair_length (by decide) HL'.out hlt
      have HQ := Lib.hid hq; have HQ' := Lib.hid hq'
      clear hq hq'
      have s0 := hc 0 _ rfl; have s1 := hc 1 _ rfl
      have r0 := hd' 0 _ rfl; have r1 := hd' 1 _ rfl
      simp only [Nat.add_zero] at s0 r0
      clear hc hd'
      have ki0 : (0 : Int) ≤ (k : Int) := Int.natCast_nonneg _
      have ki1 : (k : Int) < (n : Int) := by omega
      by_cases hx : q.1 = q'.1 ∧ q.2 = q'.2
      · obtain ⟨x1, x2⟩ := hx
        have HS := Lib.hid (take_snoc_some HQ.out (by rw [HQ'.out, Prod.ext x1 x2]) hd.out)
        go_wp2_with fail
        go_quiet (fail)
        go_wp2
        go_roundw
        case rel => exact ⟨k + 1, _, by omega, by go_num, HS, by first | rfl | exact World.drewN_drewN _ _ _⟩
        case measure => simp [intOf]; omega
      · have HX := Lib.hid hx; clear hx
        by_cases hx1 : q.1 = q'.1
        · have hx2 : ¬ q.2 = q'.2 := fun e => HX.out ⟨hx1, e⟩
          go_wp2_with fail
          go_quiet (fail)
          go_wp2
          go_ret
          exact ⟨ret_b (by
            have : xs ≠ ys := ne_of_at HQ.out HQ'.out (fun e => HX.out (by rw [e]; exact ⟨rfl, rfl⟩))
            simp [saB, sameB, this]), _, by first | rfl | exact World.drewN_drewN _ _ _⟩
        · go_wp2_with fail
          go_quiet (fail)
          go_wp2
          go_ret
          exact ⟨ret_b (by
            have : xs ≠ ys := ne_of_at HQ.out HQ'.out (fun e => HX.out (by rw [e]; exact ⟨rfl, rfl⟩))
            simp [saB, sameB, this]), _, by first | rfl | exact World.drewN_drewN _ _ _⟩
    · obtain rfl : k = n := by omega
      go_wp2
      go_ret
      exact ⟨ret_b (by
        have := hd.out
        rw [List.take_of_length_le (by rw [HL.out]; exact Nat.le_refl _), List.take_of_length_le (by rw [HL'.out]; exact Nat.le_refl _)] at this
        simp [saB, sameB, this]), _, rfl⟩
end
def sbB (u o t u' o' t' : Int) (n n' : Nat) : Bool := decide (u = u') && decide (o = o') && decide (t = t') && decide (n = n')
set_option maxHeartbeats 1600000 in
theorem iBeads {u o t u' o' t' : Int} {A A' : Option Addr} {n c n' c' : Nat} (w : World) (hm : n ≤ maxLen) (hm' : n' ≤ maxLen) :
    Calls Try.prog 53 #[.agg #[.int .i64 u, .int .i64 o, .int .i64 t, .slice A n c], .agg #[.int .i64 u', .int .i64 o', .int .i64 t', .slice A' n' c']] w fun e w' => e = .returned (.bool (sbB u o t u' o' t' n n')) ∧ Below w.heap.size w w' := by
  unfold maxLen at hm hm'
  by_cases e0 : u = u'
  rotate_left
  · have b0 : (u == u') = false := by simp [e0]
    go_enter Try.func53, Try.ntmps53
    go_wp2
    go_ret
    exact ⟨ret_b (by simp [sbB, e0]), (by repeat' (first | assumption | exact Below.refl _ _ | refine Below.drew ?_ | refine Below.alloc ?_ (by first | omega | (simp; done) | (simp; omega)) _))⟩
  subst e0
  by_cases e0 : o = o'
  rotate_left
  · have b0 : (o == o') = false := by simp [e0]
    go_enter Try.func53, Try.ntmps53
    go_wp2
    go_ret
    exact ⟨ret_b (by simp [sbB, e0]), (by repeat' (first | assumption | exact Below.refl _ _ | refine Below.drew ?_ | refine Below.alloc ?_ (by first | omega | (simp; done) | (simp; omega)) _))⟩
  subst e0
  by_cases e0 : t = t'
  rotate_left
  · have b0 : (t == t') = false := by simp [e0]
    go_enter Try.func53, Try.ntmps53
    go_wp2
    go_ret
    exact ⟨ret_b (by simp [sbB, e0]), (by repeat' (first | assumption | exact Below.refl _ _ | refine Below.drew ?_ | refine Below.alloc ?_ (by first | omega | (simp; done) | (simp; omega)) _))⟩
  subst e0
  by_cases e0 : n = n'
  rotate_left
  · have b0 : ((n : Int) == (n' : Int)) = false := by simp; omega
    go_enter Try.func53, Try.ntmps53
    go_wp2
    go_ret
    exact ⟨ret_b (by simp [sbB, e0]), (by repeat' (first | assumption | exact Below.refl _ _ | refine Below.drew ?_ | refine Below.alloc ?_ (by first | omega | (simp; done) | (simp; omega)) _))⟩
  subst e0
  go_enter Try.func53, Try.ntmps53
  go_wp2
  go_ret
  exact ⟨ret_b (by simp [sbB]), (by repeat' (first | assumption | exact Below.refl _ _ | refine Below.drew ?_ | refine Below.alloc ?_ (by first | omega | (simp; done) | (simp; omega)) _))⟩
theorem saB_no {u o t u' o' t' : Int} {xs ys : List (Int × Int)} (h : sbB u o t u' o' t' xs.length ys.length = false) : saB u o t u' o' t' xs ys = false := by
  cases hs : saB u o t u' o' t' xs ys
  · rfl
  · simp only [saB, sameB, Bool.and_eq_true, decide_eq_true_eq] at hs
    obtain ⟨⟨⟨rfl, rfl⟩, rfl⟩, rfl⟩ := hs
    simp [sbB] at h
theorem saB_yes {u o t u' o' t' : Int} {xs ys : List (Int × Int)} (h : sbB u o t u' o' t' xs.length ys.length = true) : saB u o t u' o' t' xs ys = sameB xs ys := by
  simp only [sbB, Bool.and_eq_true, decide_eq_true_eq] at h
  simp [saB, h.1]

set_option maxHeartbeats 1600000 in
theorem sSameAba {u o t u' o' t' : Int} {A A' : Option Addr} {n c n' c' : Nat} {xs ys : List (Int × Int)} (w : World) (h : Reads w w.heap.size 2 A n (flat encPair xs)) (h' : Reads w w.heap.size 2 A' n' (flat encPair ys)) (hl : xs.length = n) (hl' : ys.length = n') (hm : n ≤ maxLen) (hm' : n' ≤ maxLen) :
    Calls Try.prog 15 #[.agg #[.int .i64 u, .int .i64 o, .int .i64 t, .slice A n c], .agg #[.int .i64 u', .int .i64 o', .int .i64 t', .slice A' n' c']] w fun e w' => e = .returned (.bool (saB u o t u' o' t' xs ys)) ∧ Below w.heap.size w w' := by
  have HL := Lib.hid hl; clear hl
  have HL' := Lib.hid hl'; clear hl'
  go_enter Try.func15, Try.ntmps15
  go_wp2_with fail
  refine (l03Same _ (((h.alloc (Nat.le_refl _) _).alloc (by simp) _).more (by simp; omega)) (((h'.alloc (Nat.le_refl _) _).alloc (by simp) _).more (by simp; omega)) HL.out HL'.out hm hm' (by simp; rfl) (by simp; rfl) (by simp; rfl) (by simp; rfl) (by simp; rfl) (by simp; rfl) (by simp; rfl) (by simp; rfl)).mono ?_
  rintro e w' ⟨rfl, k, rfl⟩
  go_wp2
  go_ret
  exact ⟨rfl, bel2 (by repeat' (first | assumption | exact Below.refl _ _ | refine Below.drew ?_ | refine Below.alloc ?_ (by first | omega | (simp; done) | (simp; omega)) _)) (RetQ.bel k)⟩

section
attribute [local irreducible] wpQuiet
set_option maxHeartbeats 3200000 in
theorem iSameAba {u o t u' o' t' : Int} {A A' : Option Addr} {n c n' c' : Nat} {xs ys : List (Int × Int)} (w : World) (h : Reads w w.heap.size 2 A n (flat encPair xs)) (h' : Reads w w.heap.size 2 A' n' (flat encPair ys)) (hl : xs.length = n) (hl' : ys.length = n') (hm : n ≤ maxLen) (hm' : n' ≤ maxLen) :
    Calls Try.prog 17 #[.agg #[.int .i64 u, .int .i64 o, .int .i64 t, .slice A n c], .agg #[.int .i64 u', .int .i64 o', .int .i64 t', .slice A' n' c']] w fun e w' => e = .returned (.bool (saB u o t u' o' t' xs ys)) ∧ Below w.heap.size w w' := by
  have hm0 := Lib.hid hm; have hm0' := Lib.hid hm'
  unfold maxLen at hm hm'
  have HL := Lib.hid hl; have HL' := Lib.hid hl'
  cases hs : sbB u o t u' o' t' n n'
  · have HN := Lib.hid (saB_no (u := u) (o := o) (t := t) (u' := u') (o' := o') (t' := t') (xs := xs) (ys := ys) (by rw [hl, hl']; exact hs))
    clear hl hl'
    go_enter Try.func17, Try.ntmps17
    go_wp2_with fail
    refine (iBeads _ hm0.out hm0'.out).mono ?_
    rintro e w1 ⟨rfl, hb⟩
    go_wp2
    go_ret
    exact ⟨ret_b HN.out.symm, bel2 (by repeat' (first | assumption | exact Below.refl _ _ | refine Below.drew ?_ | refine Below.alloc ?_ (by first | omega | (simp; done) | (simp; omega)) _)) hb⟩
  · have HN := Lib.hid (saB_yes (u := u) (o := o) (t := t) (u' := u') (o' := o') (t' := t') (xs := xs) (ys := ys) (by rw [hl, hl']; exact hs))
    have e0 : n = n' := by
      simp only [sbB, Bool.and_eq_true, decide_eq_true_eq] at hs
      exact hs.2
    clear hl hl'
    subst e0
    go_enter Try.func17, Try.ntmps17
    go_wp2_with fail
    refine absW ?_
    intro w0 hw
    have hb0 : Below w.heap.size w w0 := by rw [hw]; exact (by repeat' (first | assumption | exact Below.refl _ _ | refine Below.drew ?_ | refine Below.alloc ?_ (by first | omega | (simp; done) | (simp; omega)) _))
    have c3 : w0.cell? ⟨w.heap.size, 3, none⟩ = some (.slice A n c) := by rw [hw]; simp
    have d3 : w0.cell? ⟨w.heap.size + 1, 3, none⟩ = some (.slice A' n c') := by rw [hw]; simp
    clear hw
    refine (iBeads _ hm0.out hm0'.out).mono ?_
    rintro e w1 ⟨rfl, hb⟩
    replace c3 := cellB c3 hb; replace d3 := cellB d3 hb
    replace hb0 := bel2 hb0 hb
    clear hb
    have h1 := rdB h hb0; have h2 := rdB h' hb0
    clear h h'
    go_wp2
    go_loopw [13] (fun i wr => ∃ k m : Nat, k ≤ n ∧ i = .int .i64 k ∧ Hid (xs.take k = ys.take k) ∧ wr = w1.drewN m) (fun i _ => n - (intOf i).toNat)
    case atStart => exact ⟨0, 0, Nat.zero_le _, rfl, by simp [Hid], rfl⟩
    case round =>
      obtain ⟨k, m, hk, rfl, hd, rfl⟩ := hrel
      by_cases hlt : k < n
      · obtain ⟨b1, o1, q, rfl, _, hq, hc⟩ := h1.row_at encPair_length (by decide) HL.out hlt
        obtain ⟨b2, o2, q', rfl, _, hq', hd'⟩ := h2.row_at encPair_length (by decide) HL'.out hlt
        have HQ := Lib.hid hq; have HQ' := Lib.hid hq'
        clear hq hq'
        have s0 := hc 0 _ rfl; have s1 := hc 1 _ rfl
        have r0 := hd' 0 _ rfl; have r1 := hd' 1 _ rfl
        simp only [Nat.add_zero] at s0 r0
        clear hc hd'
        have ki0 : (0 : Int) ≤ (k : Int) := Int.natCast_nonneg _
        have ki1 : (k : Int) < (n : Int) := by omega
        by_cases hx : q.1 = q'.1 ∧ q.2 = q'.2
        · obtain ⟨x1, x2⟩ := hx
          have HS := Lib.hid (take_snoc_some HQ.out (by rw [HQ'.out, Prod.ext x1 x2]) hd.out)
          go_wp2_with fail
          go_quiet (fail)
          go_wp2
          go_roundw
          case rel => exact ⟨k + 1, _, by omega, by go_num, HS, by first | rfl | exact World.drewN_drewN _ _ _⟩
          case measure => simp [intOf]; omega
        · have HX := Lib.hid hx; clear hx
          by_cases hx1 : q.1 = q'.1
          · have hx2 : ¬ q.2 = q'.2 := fun e => HX.out ⟨hx1, e⟩
            go_wp2_with fail
            go_quiet (fail)
            go_wp2
            go_ret
            exact ⟨ret_b (by
              have : xs ≠ ys := ne_of_at HQ.out HQ'.out (fun e => HX.out (by rw [e]; exact ⟨rfl, rfl⟩))
              rw [HN.out]
              simp [sameB, this]), bel2 hb0 (by first | exact RetQ.bel _ | (rw [World.drewN_drewN]; exact RetQ.bel _))⟩
          · go_wp2_with fail
            go_quiet (fail)
            go_wp2
            go_ret
            exact ⟨ret_b (by
              have : xs ≠ ys := ne_of_at HQ.out HQ'.out (fun e => HX.out (by rw [e]; exact ⟨rfl, rfl⟩))
              rw [HN.out]
              simp [sameB, this]), bel2 hb0 (by first | exact RetQ.bel _ | (rw [World.drewN_drewN]; exact RetQ.bel _))⟩
      · obtain rfl : k = n := by omega
        go_wp2
        go_ret
        exact ⟨ret_b (by
          have := hd.out
          rw [List.take_of_length_le (by rw [HL.out]; exact Nat.le_refl _), List.take_of_length_le (by rw [HL'.out]; exact Nat.le_refl _)] at this
          rw [HN.out]
          simp [sameB, this]), bel2 hb0 (RetQ.bel _)⟩
end
end Go.Proofs.Ytpgifgdoikhpbaa
