/- Abaci: what a rod shows, the value. No condition. -/
import Derived.Test.YtpgifgdoikhpbaaOkAba
namespace Go.Proofs.Ytpgifgdoikhpbaa
open Go.RowKit

theorem boxed4 {w wr : World} {T : TypeId} {v0 v1 v2 v3 : Value} (hB : Below (w.heap.size + 1) (w.alloc (.cells #[v0, v1, v2, v3] T)) wr) :
    (wr.cell? ⟨w.heap.size, 0, none⟩ = some v0 ∧ wr.cell? ⟨w.heap.size, 1, none⟩ = some v1 ∧ wr.cell? ⟨w.heap.size, 2, none⟩ = some v2 ∧ wr.cell? ⟨w.heap.size, 3, none⟩ = some v3) ∧ Below w.heap.size w wr ∧ w.heap.size < wr.heap.size := by
  refine ⟨⟨(hB.cell (p := ⟨w.heap.size, 0, none⟩) (by simp)).trans (by simp), (hB.cell (p := ⟨w.heap.size, 1, none⟩) (by simp)).trans (by simp), (hB.cell (p := ⟨w.heap.size, 2, none⟩) (by simp)).trans (by simp), (hB.cell (p := ⟨w.heap.size, 3, none⟩) (by simp)).trans (by simp)⟩, ((Below.refl _ _).alloc (Nat.le_refl _) _).trans (hB.mono (by simp)), ?_⟩
  have := hB.size
  simp at this
  omega
theorem boxedB {w wr w' : World} {X : Obj} (hB : Below (w.heap.size + 1) (w.alloc X) wr) (hb : Below wr.heap.size wr w') : Below (w.heap.size + 1) (w.alloc X) w' :=
  hB.trans (hb.mono (by have := hB.size; simp at this; omega))

section
attribute [local irreducible] wpQuiet
set_option maxHeartbeats 1600000 in
theorem sRod {u o t : Int} {A : Option Addr} {n c : Nat} {xs : List (Int × Int)} {g k : Nat} {q : Int × Int} (w : World) (h : Reads w w.heap.size 2 A n (flat encPair xs)) (hl : xs.length = n) (hm : n ≤ maxLen) (c2 : w.cell? ⟨g, 2, none⟩ = some (.int .i64 t)) (c3 : w.cell? ⟨g, 3, none⟩ = some (.slice A n c)) (hk : k < n) (hq : xs[k]? = some q) (hr : rodIn u o t q) :
    Calls Try.prog 83 #[.pointer (some ⟨g, 0, none⟩), .int .i64 k] w (RetQ (.int .i64 (shw t q)) w) := by
  unfold maxLen at hm
  obtain ⟨b1, o1, q', rfl, _, hq', hc⟩ := h.row_at encPair_length (by decide) hl hk
  rw [hq] at hq'
  obtain rfl := Option.some.inj hq'
  clear hq hq' hl
  have s0 := hc 0 _ rfl; have s1 := hc 1 _ rfl
  simp only [Nat.add_zero] at s0
  clear hc
  obtain ⟨r0, r1, r2, r3, r4⟩ := hr
  have ki0 : (0 : Int) ≤ (k : Int) := Int.natCast_nonneg _
  have ki1 : (k : Int) < (n : Int) := by omega
  have W2 : IntKind.i64.wrap (q.1 * t) = q.1 * t := IntWalk.i64_in _ (by omega)
  have W3 : IntKind.i64.wrap (q.1 * t + q.2) = q.1 * t + q.2 := IntWalk.i64_in _ (by omega)
  go_enter Try.func83, Try.ntmps83
  go_wp2_with fail
  go_quiet (fail)
  go_wp2
  go_ret
  exact ⟨rfl, _, rfl⟩

set_option maxHeartbeats 1600000 in
theorem sValueA {u o t : Int} {A : Option Addr} {n c : Nat} {xs : List (Int × Int)} {g : Nat} (w : World) (h : Reads w w.heap.size 2 A n (flat encPair xs)) (hl : xs.length = n) (hm : n ≤ maxLen) (c2 : w.cell? ⟨g, 2, none⟩ = some (.int .i64 t)) (c3 : w.cell? ⟨g, 3, none⟩ = some (.slice A n c)) (hok : okA u o t xs = true) :
    Calls Try.prog 57 #[.pointer (some ⟨g, 0, none⟩)] w (RetQ (.int .i64 (valA t xs)) w) := by
  have hm0 := Lib.hid hm
  unfold maxLen at hm
  have HL := Lib.hid hl; clear hl
  have HO := Lib.hid hok; clear hok
  go_enter Try.func57, Try.ntmps57
  go_wp2
  go_loopw [3, 4] (fun s i wr => ∃ k m : Nat, k ≤ n ∧ i = .int .i64 ((k : Int) - 1) ∧ s = .int .i64 (valA t (xs.drop k)) ∧ wr = w.drewN m) (fun _ i _ => (intOf i + 1).toNat)
  case atStart => exact ⟨n, 0, Nat.le_refl _, rfl, by rw [List.drop_of_length_le (by rw [HL.out]; exact Nat.le_refl _)]; rfl, rfl⟩
  case round =>
    obtain ⟨k, m, hk, hi, rfl, rfl⟩ := hrel
    obtain ⟨v0, v1⟩ := valA_bd HO.out k
    rcases k with _ | j
    · subst hi
      go_wp2
      go_ret
      exact ⟨by simp, _, rfl⟩
    · rw [show (((j + 1 : Nat) : Int) - 1) = (j : Int) by omega] at hi
      subst hi
      obtain ⟨q, hq⟩ : ∃ q, xs[j]? = some q := ⟨_, List.getElem?_eq_getElem (by rw [HL.out]; omega)⟩
      have hr := okA_rod HO.out hq
      obtain ⟨s0, s1⟩ := shw_bd hr
      have HS := Lib.hid (valA_step (t := t) hq)
      have HR := Lib.hid hr; have HQ := Lib.hid hq; clear hr hq
      go_wp2_with (first | (go_at_call 83; refine (sRod _ (h.drewN m) HL.out hm0.out c2 c3 (by omega) HQ.out HR.out).mono ?_; rintro e w' ⟨rfl, m2, rfl⟩))
      go_roundw
      case rel => exact ⟨j, m + m2, by omega, by go_num, by rw [HS.out], by first | rfl | exact World.drewN_drewN _ _ _⟩
      case measure => simp [intOf]

set_option maxHeartbeats 1600000 in
theorem iShown {u o t : Int} {A : Option Addr} {n c : Nat} {xs : List (Int × Int)} {k : Nat} {q : Int × Int} (w : World) (h : Reads w w.heap.size 2 A n (flat encPair xs)) (hl : xs.length = n) (hm : n ≤ maxLen) (hk : k < n) (hq : xs[k]? = some q) (hr : rodIn u o t q) :
    Calls Try.prog 67 #[.agg #[.int .i64 u, .int .i64 o, .int .i64 t, .slice A n c], .int .i64 k] w fun e w' => e = .returned (.int .i64 (shw t q)) ∧ Below w.heap.size w w' := by
  unfold maxLen at hm
  obtain ⟨b1, o1, q', rfl, _, hq', hc⟩ := h.row_at encPair_length (by decide) hl hk
  rw [hq] at hq'
  obtain rfl := Option.some.inj hq'
  clear hq hq' hl
  have s0 := hc 0 _ rfl; have s1 := hc 1 _ rfl
  simp only [Nat.add_zero] at s0
  clear hc
  obtain ⟨r0, r1, r2, r3, r4⟩ := hr
  have ki0 : (0 : Int) ≤ (k : Int) := Int.natCast_nonneg _
  have ki1 : (k : Int) < (n : Int) := by omega
  have W2 : IntKind.i64.wrap (q.1 * t) = q.1 * t := IntWalk.i64_in _ (by omega)
  have W3 : IntKind.i64.wrap (q.1 * t + q.2) = q.1 * t + q.2 := IntWalk.i64_in _ (by omega)
  have x0 := fun X : Obj => cellA s0 X; have x1 := fun X : Obj => cellA s1 X
  go_enter Try.func67, Try.ntmps67
  go_wp2_with fail
  go_quiet (fail)
  go_wp2
  go_ret
  exact ⟨rfl, (by repeat' (first | assumption | exact Below.refl _ _ | refine Below.drew ?_ | refine belN ?_ _ | refine Below.alloc ?_ (by first | omega | (simp; done) | (simp; omega)) _ | refine Below.setCell ?_ (by first | omega | (simp; done) | (simp; omega)) _))⟩

set_option maxHeartbeats 1600000 in
theorem iValueA {u o t : Int} {A : Option Addr} {n c : Nat} {xs : List (Int × Int)} (w : World) (h : Reads w w.heap.size 2 A n (flat encPair xs)) (hl : xs.length = n) (hm : n ≤ maxLen) (hok : okA u o t xs = true) :
    Calls Try.prog 58 #[.agg #[.int .i64 u, .int .i64 o, .int .i64 t, .slice A n c]] w fun e w' => e = .returned (.int .i64 (valA t xs)) ∧ Below w.heap.size w w' := by
  have hm0 := Lib.hid hm
  unfold maxLen at hm
  have HL := Lib.hid hl; clear hl
  have HO := Lib.hid hok; clear hok
  go_enter Try.func58, Try.ntmps58
  go_wp2
  go_loopw [3, 4] (fun s i wr => ∃ k : Nat, k ≤ n ∧ i = .int .i64 ((k : Int) - 1) ∧ s = .int .i64 (valA t (xs.drop k)) ∧ Below (w.heap.size + 1) (w.alloc (.cells #[.int .i64 u, .int .i64 o, .int .i64 t, .slice A n c] 29)) wr) (fun _ i _ => (intOf i + 1).toNat)
  case atStart => exact ⟨n, Nat.le_refl _, rfl, by rw [List.drop_of_length_le (by rw [HL.out]; exact Nat.le_refl _)]; rfl, Below.refl _ _⟩
  case round =>
    obtain ⟨k, hk, hi, rfl, hB⟩ := hrel
    obtain ⟨⟨e0, e1, e2, e3⟩, hB0, hsz⟩ := boxed4 hB
    obtain ⟨v0, v1⟩ := valA_bd HO.out k
    rcases k with _ | j
    · subst hi
      go_wp2
      go_ret
      exact ⟨by simp, hB0⟩
    · rw [show (((j + 1 : Nat) : Int) - 1) = (j : Int) by omega] at hi
      subst hi
      obtain ⟨q, hq⟩ : ∃ q, xs[j]? = some q := ⟨_, List.getElem?_eq_getElem (by rw [HL.out]; omega)⟩
      have hr := okA_rod HO.out hq
      obtain ⟨s0, s1⟩ := shw_bd hr
      have HS := Lib.hid (valA_step (t := t) hq)
      have HR := Lib.hid hr; have HQ := Lib.hid hq; clear hr hq
      go_wp2_with (first | (go_at_call 67; refine (iShown _ (rdB h hB0) HL.out hm0.out (by omega) HQ.out HR.out).mono ?_; rintro e w' ⟨rfl, hb⟩))
      go_roundw
      case rel => exact ⟨j, by omega, by go_num, by rw [HS.out], boxedB hB hb⟩
      case measure => simp [intOf]
end
def vlA (u o t : Int) (xs : List (Int × Int)) : Int := if okA u o t xs then valA t xs else 0
def cdA (u o t : Int) (xs : List (Int × Int)) : Int := if okA u o t xs then 0 else 1
set_option maxHeartbeats 1600000 in
theorem sAbaVal {u o t : Int} {A : Option Addr} {n c : Nat} {xs : List (Int × Int)} (w : World) (h : Reads w w.heap.size 2 A n (flat encPair xs)) (hl : xs.length = n) (hm : n ≤ maxLen) :
    Calls Try.prog 21 #[.agg #[.int .i64 u, .int .i64 o, .int .i64 t, .slice A n c]] w fun e w' => e = .returned (.tuple #[.int .i64 (vlA u o t xs), .int .i64 (cdA u o t xs)]) ∧ Below w.heap.size w w' := by
  have HL := Lib.hid hl; clear hl
  cases hk : okA u o t xs
  · have e1 : vlA u o t xs = 0 := by simp [vlA, hk]
    have e2 : cdA u o t xs = 1 := by simp [cdA, hk]
    rw [e1, e2]
    clear e1 e2
    go_enter Try.func21, Try.ntmps21
    go_wp2_with fail
    refine (sOkA _ ((h.alloc (Nat.le_refl _) _).more (by simp)) HL.out hm (by simp; rfl) (by simp; rfl) (by simp; rfl) (by simp; rfl)).mono ?_
    rintro e w' ⟨rfl, k, rfl⟩
    go_wp2
    go_ret2
    exact ⟨rfl, bel2 (by repeat' (first | assumption | exact Below.refl _ _ | refine Below.drew ?_ | refine belN ?_ _ | refine Below.alloc ?_ (by first | omega | (simp; done) | (simp; omega)) _ | refine Below.setCell ?_ (by first | omega | (simp; done) | (simp; omega)) _)) (RetQ.bel k)⟩
  · have e1 : vlA u o t xs = valA t xs := by simp [vlA, hk]
    have e2 : cdA u o t xs = 0 := by simp [cdA, hk]
    rw [e1, e2]
    clear e1 e2
    have HK := Lib.hid hk
    go_enter Try.func21, Try.ntmps21
    go_wp2_with fail
    refine (sOkA _ ((h.alloc (Nat.le_refl _) _).more (by simp)) HL.out hm (by simp; rfl) (by simp; rfl) (by simp; rfl) (by simp; rfl)).mono ?_
    rintro e w' ⟨rfl, k, rfl⟩
    go_wp2_with fail
    refine (sValueA _ (((h.alloc (Nat.le_refl _) _).more (by simp)).drewN _) HL.out hm (by first | (simp; done) | (simp; rfl)) (by first | (simp; done) | (simp; rfl)) HK.out).mono ?_
    rintro e w' ⟨rfl, k2, rfl⟩
    go_wp2
    go_ret2
    exact ⟨rfl, (by repeat' (first | assumption | exact Below.refl _ _ | refine Below.drew ?_ | refine belN ?_ _ | refine Below.alloc ?_ (by first | omega | (simp; done) | (simp; omega)) _ | refine Below.setCell ?_ (by first | omega | (simp; done) | (simp; omega)) _))⟩
set_option maxHeartbeats 1600000 in
theorem iAbaVal {u o t : Int} {A : Option Addr} {n c : Nat} {xs : List (Int × Int)} (w : World) (h : Reads w w.heap.size 2 A n (flat encPair xs)) (hl : xs.length = n) (hm : n ≤ maxLen) :
    Calls Try.prog 22 #[.agg #[.int .i64 u, .int .i64 o, .int .i64 t, .slice A n c]] w fun e w' => e = .returned (.tuple #[.int .i64 (vlA u o t xs), .int .i64 (cdA u o t xs)]) ∧ Below w.heap.size w w' := by
  have HL := Lib.hid hl; clear hl
  cases hk : okA u o t xs
  · have e1 : vlA u o t xs = 0 := by simp [vlA, hk]
    have e2 : cdA u o t xs = 1 := by simp [cdA, hk]
    rw [e1, e2]
    clear e1 e2
    go_enter Try.func22, Try.ntmps22
    go_wp2_with fail
    refine (iValidAba _ ((h.alloc (Nat.le_refl _) _).more (by simp)) HL.out hm).mono ?_
    rintro e w1 ⟨rfl, hb⟩
    go_wp2
    go_ret2
    exact ⟨rfl, bel2 (by repeat' (first | assumption | exact Below.refl _ _ | refine Below.drew ?_ | refine belN ?_ _ | refine Below.alloc ?_ (by first | omega | (simp; done) | (simp; omega)) _ | refine Below.setCell ?_ (by first | omega | (simp; done) | (simp; omega)) _)) hb⟩
  · have e1 : vlA u o t xs = valA t xs := by simp [vlA, hk]
    have e2 : cdA u o t xs = 0 := by simp [cdA, hk]
    rw [e1, e2]
    clear e1 e2
    have HK := Lib.hid hk
    go_enter Try.func22, Try.ntmps22
    go_wp2_with fail
    refine (iValidAba _ ((h.alloc (Nat.le_refl _) _).more (by simp)) HL.out hm).mono ?_
    rintro e w1 ⟨rfl, hb⟩
    rw [HK.out]
    have hB : Below (w.heap.size + 1) (w.alloc (.cells #[.int .i64 u, .int .i64 o, .int .i64 t, .slice A n c] 29)) w1 := hb.mono (by simp)
    clear hb
    obtain ⟨⟨e0, e1, e2, e3⟩, hB0, hsz⟩ := boxed4 hB
    go_wp2_with fail
    refine (iValueA _ (rdB h hB0) HL.out hm HK.out).mono ?_
    rintro e w2 ⟨rfl, hb⟩
    go_wp2
    go_ret2
    exact ⟨rfl, bel2 hB0 hb⟩
end Go.Proofs.Ytpgifgdoikhpbaa
