/- The turns at the end of a train. No condition. -/
import Derived.Test.YtmdipidejmnijaaRatOf
namespace Go.Proofs.Ytmdipidejmnijaa
open Go.RowKit

def otOk (xs : List (Int × Int)) (t : Int) : Bool := trB xs && betwB t (-1000) 1000
def otNum (xs : List (Int × Int)) (t : Int) : Int := if otOk xs t then (lowQ ((ratS xs).1 * t) (ratS xs).2).1 else 0
def otDen (xs : List (Int × Int)) (t : Int) : Int := if otOk xs t then (lowQ ((ratS xs).1 * t) (ratS xs).2).2 else 0
def otCode (xs : List (Int × Int)) (t : Int) : Int := if trB xs then (if betwB t (-1000) 1000 then 0 else 2) else 1
theorem ot_bad {xs : List (Int × Int)} {t : Int} (h : trB xs = false) : otNum xs t = 0 ∧ otDen xs t = 0 ∧ otCode xs t = 1 := by simp [otNum, otDen, otCode, otOk, h]
theorem ot_far {xs : List (Int × Int)} {t : Int} (h : trB xs = true) (h' : betwB t (-1000) 1000 = false) : otNum xs t = 0 ∧ otDen xs t = 0 ∧ otCode xs t = 2 := by simp [otNum, otDen, otCode, otOk, h, h']
theorem ot_ok {xs : List (Int × Int)} {t : Int} (h : trB xs = true) (h' : betwB t (-1000) 1000 = true) : otNum xs t = (lowQ ((ratS xs).1 * t) (ratS xs).2).1 ∧ otDen xs t = (lowQ ((ratS xs).1 * t) (ratS xs).2).2 ∧ otCode xs t = 0 := by simp [otNum, otDen, otCode, otOk, h, h']
theorem mul_turn {a t : Int} (ha : a.natAbs ≤ 2985984000000) (h0 : -1000 ≤ t) (h1 : t ≤ 1000) : (a * t).natAbs ≤ 2985984000000000 := by
  rw [Int.natAbs_mul]
  exact Nat.mul_le_mul ha (show t.natAbs ≤ 1000 by omega)

set_option maxHeartbeats 1600000 in
theorem sOutputTurns {t : Int} {A : Option Addr} {n c : Nat} {xs : List (Int × Int)} (w : World) (h : Reads w w.heap.size 2 A n (flat encPair xs)) (hl : xs.length = n) (hm : n ≤ maxLen) :
    Calls Try.prog 29 #[.slice A n c, .int .i64 t] w fun e w' => e = .returned (.tuple #[.agg #[.int .i64 (otNum xs t), .int .i64 (otDen xs t)], .int .i64 (otCode xs t)]) ∧ Below w.heap.size w w' := by
  cases hk : trB xs
  · have HE := Lib.hid (ot_bad (t := t) hk)
    go_enter Try.func29, Try.ntmps29
    go_wp2_with fail
    refine absW ?_
    intro w0 hw
    have hb0 : Below w.heap.size w w0 := by rw [hw]; exact (by repeat' (first | assumption | exact Below.refl _ _ | refine Below.drew ?_ | refine Below.alloc ?_ (by first | omega | (simp; done) | (simp; omega)) _))
    have hR : Blk w0 w.heap.size 37 #[.int .i64 0, .int .i64 0] := by rw [hw]; exact Blk.new _ _ _
    clear hw
    refine (sTrain _ (rdB h hb0) hl hm).mono ?_
    rintro e w1 ⟨rfl, rfl⟩
    have hb : Below w0.heap.size w0 w0 := Below.refl _ _
    replace hR := hR.bel hb; replace hb0 := bel2 hb0 hb
    clear hb
    have d0 := hR.cell 0; have d1 := hR.cell 1; have fR := hR.frozen
    simp at d0 d1
    go_wp2
    obtain ⟨e1, e2, e3⟩ := HE.out
    rw [e1, e2, e3]
    exact bodyPost_ret (v := .tuple #[.agg #[.int .i64 0, .int .i64 0], .int .i64 1]) (by simp [results, Try.results29, go_sem, d0, d1]) rfl ⟨rfl, (by repeat' (first | assumption | exact Below.refl _ _ | refine Below.setCell ?_ (by first | omega | (simp; done) | (simp; omega)) _ | refine Below.alloc ?_ (by first | omega | (simp; done) | (simp; omega)) _))⟩
  · cases ht : betwB t (-1000) 1000
    · have HE := Lib.hid (ot_far hk ht)
      go_enter Try.func29, Try.ntmps29
      go_wp2_with fail
      refine absW ?_
      intro w0 hw
      have hb0 : Below w.heap.size w w0 := by rw [hw]; exact (by repeat' (first | assumption | exact Below.refl _ _ | refine Below.drew ?_ | refine Below.alloc ?_ (by first | omega | (simp; done) | (simp; omega)) _))
      have hR : Blk w0 w.heap.size 37 #[.int .i64 0, .int .i64 0] := by rw [hw]; exact Blk.new _ _ _
      clear hw
      refine (sTrain _ (rdB h hb0) hl hm).mono ?_
      rintro e w1 ⟨rfl, rfl⟩
      have hb : Below w0.heap.size w0 w0 := Below.refl _ _
      replace hR := hR.bel hb; replace hb0 := bel2 hb0 hb
      clear hb
      have d0 := hR.cell 0; have d1 := hR.cell 1; have fR := hR.frozen
      simp at d0 d1
      rw [hk]
      go_wp2_with (first | (go_at_call 40; refine (l00In_any _ _ _ _).mono ?_; rintro e w' ⟨rfl, rfl⟩))
      obtain ⟨e1, e2, e3⟩ := HE.out
      rw [e1, e2, e3]
      exact bodyPost_ret (v := .tuple #[.agg #[.int .i64 0, .int .i64 0], .int .i64 2]) (by simp [results, Try.results29, go_sem, d0, d1]) rfl ⟨rfl, (by repeat' (first | assumption | exact Below.refl _ _ | refine Below.setCell ?_ (by first | omega | (simp; done) | (simp; omega)) _ | refine Below.alloc ?_ (by first | omega | (simp; done) | (simp; omega)) _))⟩
    · have HE := Lib.hid (ot_ok hk ht)
      obtain ⟨t0, t1⟩ := betw_iff.1 ht
      obtain ⟨hok, n1, n2⟩ := trB_parts hk
      have hok' : okQ xs := hok
      obtain ⟨r1, r2, r3⟩ := rat_use hok' (Nat.le_refl xs.length) n2
      rw [List.take_length] at r1 r2 r3
      have HM := mul_turn r1 t0 t1
      have WT : IntKind.i64.wrap ((ratS xs).1 * t) = (ratS xs).1 * t := IntWalk.i64_in _ (by omega)
      have HK : Hid (okQ xs) := hok
      clear hok hok'
      go_enter Try.func29, Try.ntmps29
      go_wp2_with fail
      refine absW ?_
      intro w0 hw
      have hb0 : Below w.heap.size w w0 := by rw [hw]; exact (by repeat' (first | assumption | exact Below.refl _ _ | refine Below.drew ?_ | refine Below.alloc ?_ (by first | omega | (simp; done) | (simp; omega)) _))
      have hR : Blk w0 w.heap.size 37 #[.int .i64 0, .int .i64 0] := by rw [hw]; exact Blk.new _ _ _
      clear hw
      refine (sTrain _ (rdB h hb0) hl hm).mono ?_
      rintro e w1 ⟨rfl, rfl⟩
      have hb : Below w0.heap.size w0 w0 := Below.refl _ _
      replace hR := hR.bel hb; replace hb0 := bel2 hb0 hb
      clear hb
      have d0 := hR.cell 0; have d1 := hR.cell 1; have fR := hR.frozen
      simp at d0 d1
      rw [hk]
      go_wp2_with (first | (go_at_call 40; refine (l00In_any _ _ _ _).mono ?_; rintro e w' ⟨rfl, rfl⟩))
      refine (sRatio _ (rdB h hb0) hl hm HK.out (by omega)).mono ?_
      rintro e w2 ⟨rfl, hb⟩
      replace hR := hR.bel hb; replace hb0 := bel2 hb0 hb
      have hz2 : w.heap.size ≤ w2.heap.size := hb0.size
      clear hb d0 d1 fR
      go_wp2_with fail
      refine absW ?_
      intro w3 hw
      have hb3 : Below w2.heap.size w2 w3 := by rw [hw]; exact (by repeat' (first | assumption | exact Below.refl _ _ | refine Below.drew ?_ | refine Below.alloc ?_ (by first | omega | (simp; done) | (simp; omega)) _))
      clear hw
      refine (sLow _ (by omega) r2 (by omega)).mono ?_
      rintro e w4 ⟨rfl, hb⟩
      replace hb3 := bel2 hb3 hb
      replace hR := hR.bel hb3; replace hb0 := bel2 hb0 hb3
      clear hb hb3
      have fR := hR.frozen; have zR := hR.lt; have d0 := hR.cell 0; have d1 := hR.cell 1
      simp at d0 d1
      go_wp2
      obtain ⟨e1, e2, e3⟩ := HE.out
      rw [e1, e2, e3]
      have s0 := ((hR.set_ 0 (.int .i64 (lowQ ((ratS xs).1 * t) (ratS xs).2).1)).set_ 1 (.int .i64 (lowQ ((ratS xs).1 * t) (ratS xs).2).2)).cell 0
      have s1 := ((hR.set_ 0 (.int .i64 (lowQ ((ratS xs).1 * t) (ratS xs).2).1)).set_ 1 (.int .i64 (lowQ ((ratS xs).1 * t) (ratS xs).2).2)).cell 1
      simp at s0 s1
      exact bodyPost_ret (v := .tuple #[.agg #[.int .i64 (lowQ ((ratS xs).1 * t) (ratS xs).2).1, .int .i64 (lowQ ((ratS xs).1 * t) (ratS xs).2).2], .int .i64 0]) (by simp [results, Try.results29, go_sem, s0, s1]) rfl ⟨rfl, (by repeat' (first | assumption | exact Below.refl _ _ | refine Below.setCell ?_ (by first | omega | (simp; done) | (simp; omega)) _ | refine Below.alloc ?_ (by first | omega | (simp; done) | (simp; omega)) _))⟩

set_option maxHeartbeats 1600000 in
theorem iOutputTurns {t : Int} {A : Option Addr} {n c : Nat} {xs : List (Int × Int)} (w : World) (h : Reads w w.heap.size 2 A n (flat encPair xs)) (hl : xs.length = n) (hm : n ≤ maxLen) :
    Calls Try.prog 30 #[.slice A n c, .int .i64 t] w fun e w' => e = .returned (.tuple #[.agg #[.int .i64 (otNum xs t), .int .i64 (otDen xs t)], .int .i64 (otCode xs t)]) ∧ Below w.heap.size w w' := by
  cases hk : trB xs
  · have HE := Lib.hid (ot_bad (t := t) hk)
    go_enter Try.func30, Try.ntmps30
    go_wp2_with fail
    refine absW ?_
    intro w0 hw
    have hb0 : Below w.heap.size w w0 := by rw [hw]; exact (by repeat' (first | assumption | exact Below.refl _ _ | refine Below.drew ?_ | refine Below.alloc ?_ (by first | omega | (simp; done) | (simp; omega)) _))
    have hR : Blk w0 w.heap.size 37 #[.int .i64 0, .int .i64 0] := by rw [hw]; exact Blk.new _ _ _
    clear hw
    refine (iTrain _ (rdB h hb0) hl hm).mono ?_
    rintro e w1 ⟨rfl, hb⟩
    replace hR := hR.bel hb; replace hb0 := bel2 hb0 hb
    clear hb
    have d0 := hR.cell 0; have d1 := hR.cell 1; have fR := hR.frozen
    simp at d0 d1
    go_wp2
    obtain ⟨e1, e2, e3⟩ := HE.out
    rw [e1, e2, e3]
    exact bodyPost_ret (v := .tuple #[.agg #[.int .i64 0, .int .i64 0], .int .i64 1]) (by simp [results, Try.results30, go_sem, d0, d1]) rfl ⟨rfl, (by repeat' (first | assumption | exact Below.refl _ _ | refine Below.setCell ?_ (by first | omega | (simp; done) | (simp; omega)) _ | refine Below.alloc ?_ (by first | omega | (simp; done) | (simp; omega)) _))⟩
  · cases ht : betwB t (-1000) 1000
    · have HE := Lib.hid (ot_far hk ht)
      go_enter Try.func30, Try.ntmps30
      go_wp2_with fail
      refine absW ?_
      intro w0 hw
      have hb0 : Below w.heap.size w w0 := by rw [hw]; exact (by repeat' (first | assumption | exact Below.refl _ _ | refine Below.drew ?_ | refine Below.alloc ?_ (by first | omega | (simp; done) | (simp; omega)) _))
      have hR : Blk w0 w.heap.size 37 #[.int .i64 0, .int .i64 0] := by rw [hw]; exact Blk.new _ _ _
      clear hw
      refine (iTrain _ (rdB h hb0) hl hm).mono ?_
      rintro e w1 ⟨rfl, hb⟩
      replace hR := hR.bel hb; replace hb0 := bel2 hb0 hb
      clear hb
      have d0 := hR.cell 0; have d1 := hR.cell 1; have fR := hR.frozen
      simp at d0 d1
      rw [hk]
      go_wp2_with (first | (go_at_call 38; refine (between_any _ _ _ _).mono ?_; rintro e w' ⟨rfl, rfl⟩))
      obtain ⟨e1, e2, e3⟩ := HE.out
      rw [e1, e2, e3]
      exact bodyPost_ret (v := .tuple #[.agg #[.int .i64 0, .int .i64 0], .int .i64 2]) (by simp [results, Try.results30, go_sem, d0, d1]) rfl ⟨rfl, (by repeat' (first | assumption | exact Below.refl _ _ | refine Below.setCell ?_ (by first | omega | (simp; done) | (simp; omega)) _ | refine Below.alloc ?_ (by first | omega | (simp; done) | (simp; omega)) _))⟩
    · have HE := Lib.hid (ot_ok hk ht)
      obtain ⟨t0, t1⟩ := betw_iff.1 ht
      obtain ⟨hok, n1, n2⟩ := trB_parts hk
      have hok' : okQ xs := hok
      obtain ⟨r1, r2, r3⟩ := rat_use hok' (Nat.le_refl xs.length) n2
      rw [List.take_length] at r1 r2 r3
      have HM := mul_turn r1 t0 t1
      have WT : IntKind.i64.wrap ((ratS xs).1 * t) = (ratS xs).1 * t := IntWalk.i64_in _ (by omega)
      have HK : Hid (okQ xs) := hok
      clear hok hok'
      go_enter Try.func30, Try.ntmps30
      go_wp2_with fail
      refine absW ?_
      intro w0 hw
      have hb0 : Below w.heap.size w w0 := by rw [hw]; exact (by repeat' (first | assumption | exact Below.refl _ _ | refine Below.drew ?_ | refine Below.alloc ?_ (by first | omega | (simp; done) | (simp; omega)) _))
      have hR : Blk w0 w.heap.size 37 #[.int .i64 0, .int .i64 0] := by rw [hw]; exact Blk.new _ _ _
      clear hw
      refine (iTrain _ (rdB h hb0) hl hm).mono ?_
      rintro e w1 ⟨rfl, hb⟩
      replace hR := hR.bel hb; replace hb0 := bel2 hb0 hb
      clear hb
      have d0 := hR.cell 0; have d1 := hR.cell 1; have fR := hR.frozen
      simp at d0 d1
      rw [hk]
      go_wp2_with (first | (go_at_call 38; refine (between_any _ _ _ _).mono ?_; rintro e w' ⟨rfl, rfl⟩))
      refine (iRatio _ (rdB h hb0) hl hm HK.out (by omega)).mono ?_
      rintro e w2 ⟨rfl, hb⟩
      replace hR := hR.bel hb; replace hb0 := bel2 hb0 hb
      have hz2 : w.heap.size ≤ w2.heap.size := hb0.size
      clear hb d0 d1 fR
      go_wp2_with fail
      refine absW ?_
      intro w3 hw
      have hb3 : Below w2.heap.size w2 w3 := by rw [hw]; exact (by repeat' (first | assumption | exact Below.refl _ _ | refine Below.drew ?_ | refine Below.alloc ?_ (by first | omega | (simp; done) | (simp; omega)) _))
      clear hw
      refine (iLow _ (by omega) r2 (by omega)).mono ?_
      rintro e w4 ⟨rfl, hb⟩
      replace hb3 := bel2 hb3 hb
      replace hR := hR.bel hb3; replace hb0 := bel2 hb0 hb3
      clear hb hb3
      have fR := hR.frozen; have zR := hR.lt; have d0 := hR.cell 0; have d1 := hR.cell 1
      simp at d0 d1
      go_wp2
      obtain ⟨e1, e2, e3⟩ := HE.out
      rw [e1, e2, e3]
      have s0 := ((hR.set_ 0 (.int .i64 (lowQ ((ratS xs).1 * t) (ratS xs).2).1)).set_ 1 (.int .i64 (lowQ ((ratS xs).1 * t) (ratS xs).2).2)).cell 0
      have s1 := ((hR.set_ 0 (.int .i64 (lowQ ((ratS xs).1 * t) (ratS xs).2).1)).set_ 1 (.int .i64 (lowQ ((ratS xs).1 * t) (ratS xs).2).2)).cell 1
      simp at s0 s1
      exact bodyPost_ret (v := .tuple #[.agg #[.int .i64 (lowQ ((ratS xs).1 * t) (ratS xs).2).1, .int .i64 (lowQ ((ratS xs).1 * t) (ratS xs).2).2], .int .i64 0]) (by simp [results, Try.results30, go_sem, s0, s1]) rfl ⟨rfl, (by repeat' (first | assumption | exact Below.refl _ _ | refine Below.setCell ?_ (by first | omega | (simp; done) | (simp; omega)) _ | refine Below.alloc ?_ (by first | omega | (simp; done) | (simp; omega)) _))⟩
end Go.Proofs.Ytmdipidejmnijaa
