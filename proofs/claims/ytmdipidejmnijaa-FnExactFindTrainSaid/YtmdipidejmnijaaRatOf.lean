/- The ratio of a train, with its code. No condition. -/
import Derived.Test.YtmdipidejmnijaaRatio
import Derived.Test.YtmdipidejmnijaaBack
namespace Go.Proofs.Ytmdipidejmnijaa
open Go.RowKit

def rtNum (xs : List (Int × Int)) : Int := if trB xs then (ratS xs).1 else 0
def rtDen (xs : List (Int × Int)) : Int := if trB xs then (ratS xs).2 else 0
theorem rt_bad {xs : List (Int × Int)} (h : trB xs = false) : rtNum xs = 0 ∧ rtDen xs = 0 ∧ trCode xs = 1 := by simp [rtNum, rtDen, trCode, h]
theorem rt_ok {xs : List (Int × Int)} (h : trB xs = true) : rtNum xs = (ratS xs).1 ∧ rtDen xs = (ratS xs).2 ∧ trCode xs = 0 := by simp [rtNum, rtDen, trCode, h]
set_option maxHeartbeats 400000 in
theorem eqFraction {x y : Int} (w : World) :
    Calls Try.prog 26 #[.agg #[.int .i64 x, .int .i64 y], .agg #[.int .i64 x, .int .i64 y]] w fun e w' => e = .returned (.bool true) ∧ Below w.heap.size w w' := by
  go_enter Try.func26, Try.ntmps26
  go_wp2
  go_ret
  exact ⟨rfl, (by repeat' (first | assumption | exact Below.refl _ _ | refine Below.drew ?_ | refine Below.alloc ?_ (by first | omega | (simp; done) | (simp; omega)) _))⟩

set_option maxHeartbeats 1000000 in
theorem sRatioOf {A : Option Addr} {n c : Nat} {xs : List (Int × Int)} (w : World) (h : Reads w w.heap.size 2 A n (flat encPair xs)) (hl : xs.length = n) (hm : n ≤ maxLen) :
    Calls Try.prog 24 #[.slice A n c] w fun e w' => e = .returned (.tuple #[.agg #[.int .i64 (rtNum xs), .int .i64 (rtDen xs)], .int .i64 (trCode xs)]) ∧ Below w.heap.size w w' := by
  cases hk : trB xs
  · have HE := Lib.hid (rt_bad hk)
    go_enter Try.func24, Try.ntmps24
    go_wp2_with fail
    refine absW ?_
    intro w0 hw
    have hb0 : Below w.heap.size w w0 := by rw [hw]; exact (by repeat' (first | assumption | exact Below.refl _ _ | refine Below.drew ?_ | refine Below.alloc ?_ (by first | omega | (simp; done) | (simp; omega)) _))
    have hR : Blk w0 w.heap.size 37 #[.int .i64 0, .int .i64 0] := by rw [hw]; exact Blk.new _ _ _
    clear hw
    refine (sTrain _ (rdB h hb0) hl hm).mono ?_
    rintro e w1 ⟨rfl, rfl⟩
    have hb : Below w0.heap.size w0 w0 := Below.refl _ _
    replace hR := hR.bel hb; replace hb0 := bel2 hb0 hb
    clear hb
    have d0 := hR.cell 0; have d1 := hR.cell 1; have fR := hR.frozen
    simp at d0 d1
    go_wp2
    obtain ⟨e1, e2, e3⟩ := HE.out
    rw [e1, e2, e3]
    exact bodyPost_ret (v := .tuple #[.agg #[.int .i64 0, .int .i64 0], .int .i64 1]) (by simp [results, Try.results24, go_sem, d0, d1]) rfl ⟨rfl, (by repeat' (first | assumption | exact Below.refl _ _ | refine Below.setCell ?_ (by first | omega | (simp; done) | (simp; omega)) _ | refine Below.alloc ?_ (by first | omega | (simp; done) | (simp; omega)) _))⟩
  · have HE := Lib.hid (rt_ok hk)
    obtain ⟨hok, n1, n2⟩ := trB_parts hk
    have HK : Hid (okQ xs) := hok
    clear hok
    go_enter Try.func24, Try.ntmps24
    go_wp2_with fail
    refine absW ?_
    intro w0 hw
    have hb0 : Below w.heap.size w w0 := by rw [hw]; exact (by repeat' (first | assumption | exact Below.refl _ _ | refine Below.drew ?_ | refine Below.alloc ?_ (by first | omega | (simp; done) | (simp; omega)) _))
    have hR : Blk w0 w.heap.size 37 #[.int .i64 0, .int .i64 0] := by rw [hw]; exact Blk.new _ _ _
    clear hw
    refine (sTrain _ (rdB h hb0) hl hm).mono ?_
    rintro e w1 ⟨rfl, rfl⟩
    have hb : Below w0.heap.size w0 w0 := Below.refl _ _
    replace hR := hR.bel hb; replace hb0 := bel2 hb0 hb
    clear hb
    have d0 := hR.cell 0; have d1 := hR.cell 1; have fR := hR.frozen
    simp at d0 d1
    go_wp2_with fail
    refine (sRatio _ (rdB h hb0) hl hm HK.out (by omega)).mono ?_
    rintro e w2 ⟨rfl, hb⟩
    replace hR := hR.bel hb; replace hb0 := bel2 hb0 hb
    clear hb d0 d1 fR
    have fR := hR.frozen; have zR := hR.lt; have d0 := hR.cell 0; have d1 := hR.cell 1
    simp at d0 d1
    go_wp2
    obtain ⟨e1, e2, e3⟩ := HE.out
    rw [e1, e2, e3]
    have s0 := ((hR.set_ 0 (.int .i64 (ratS xs).1)).set_ 1 (.int .i64 (ratS xs).2)).cell 0
    have s1 := ((hR.set_ 0 (.int .i64 (ratS xs).1)).set_ 1 (.int .i64 (ratS xs).2)).cell 1
    simp at s0 s1
    exact bodyPost_ret (v := .tuple #[.agg #[.int .i64 (ratS xs).1, .int .i64 (ratS xs).2], .int .i64 0]) (by simp [results, Try.results24, go_sem, s0, s1]) rfl ⟨rfl, (by repeat' (first | assumption | exact Below.refl _ _ | refine Below.setCell ?_ (by first | omega | (simp; done) | (simp; omega)) _ | refine Below.alloc ?_ (by first | omega | (simp; done) | (simp; omega)) _))⟩

set_option maxHeartbeats 1000000 in
theorem iRatioOf {A : Option Addr} {n c : Nat} {xs : List (Int × Int)} (w : World) (h : Reads w w.heap.size 2 A n (flat encPair xs)) (hl : xs.length = n) (hm : n ≤ maxLen) :
    Calls Try.prog 25 #[.slice A n c] w fun e w' => e = .returned (.tuple #[.agg #[.int .i64 (rtNum xs), .int .i64 (rtDen xs)], .int .i64 (trCode xs)]) ∧ Below w.heap.size w w' := by
  cases hk : trB xs
  · have HE := Lib.hid (rt_bad hk)
    go_enter Try.func25, Try.ntmps25
    go_wp2_with fail
    refine absW ?_
    intro w0 hw
    have hb0 : Below w.heap.size w w0 := by rw [hw]; exact (by repeat' (first | assumption | exact Below.refl _ _ | refine Below.drew ?_ | refine Below.alloc ?_ (by first | omega | (simp; done) | (simp; omega)) _))
    have hR : Blk w0 w.heap.size 37 #[.int .i64 0, .int .i64 0] := by rw [hw]; exact Blk.new _ _ _
    clear hw
    refine (iTrain _ (rdB h hb0) hl hm).mono ?_
    rintro e w1 ⟨rfl, hb⟩
    replace hR := hR.bel hb; replace hb0 := bel2 hb0 hb
    clear hb
    have d0 := hR.cell 0; have d1 := hR.cell 1; have fR := hR.frozen
    simp at d0 d1
    go_wp2
    obtain ⟨e1, e2, e3⟩ := HE.out
    rw [e1, e2, e3]
    exact bodyPost_ret (v := .tuple #[.agg #[.int .i64 0, .int .i64 0], .int .i64 1]) (by simp [results, Try.results25, go_sem, d0, d1]) rfl ⟨rfl, (by repeat' (first | assumption | exact Below.refl _ _ | refine Below.setCell ?_ (by first | omega | (simp; done) | (simp; omega)) _ | refine Below.alloc ?_ (by first | omega | (simp; done) | (simp; omega)) _))⟩
  · have HE := Lib.hid (rt_ok hk)
    obtain ⟨hok, n1, n2⟩ := trB_parts hk
    have HK : Hid (okQ xs) := hok
    clear hok
    go_enter Try.func25, Try.ntmps25
    go_wp2_with fail
    refine absW ?_
    intro w0 hw
    have hb0 : Below w.heap.size w w0 := by rw [hw]; exact (by repeat' (first | assumption | exact Below.refl _ _ | refine Below.drew ?_ | refine Below.alloc ?_ (by first | omega | (simp; done) | (simp; omega)) _))
    have hR : Blk w0 w.heap.size 37 #[.int .i64 0, .int .i64 0] := by rw [hw]; exact Blk.new _ _ _
    clear hw
    refine (iTrain _ (rdB h hb0) hl hm).mono ?_
    rintro e w1 ⟨rfl, hb⟩
    replace hR := hR.bel hb; replace hb0 := bel2 hb0 hb
    clear hb
    have d0 := hR.cell 0; have d1 := hR.cell 1; have fR := hR.frozen
    simp at d0 d1
    go_wp2_with fail
    refine (iRatio _ (rdB h hb0) hl hm HK.out (by omega)).mono ?_
    rintro e w2 ⟨rfl, hb⟩
    replace hR := hR.bel hb; replace hb0 := bel2 hb0 hb
    clear hb d0 d1 fR
    have fR := hR.frozen; have zR := hR.lt; have d0 := hR.cell 0; have d1 := hR.cell 1
    simp at d0 d1
    go_wp2
    obtain ⟨e1, e2, e3⟩ := HE.out
    rw [e1, e2, e3]
    have s0 := ((hR.set_ 0 (.int .i64 (ratS xs).1)).set_ 1 (.int .i64 (ratS xs).2)).cell 0
    have s1 := ((hR.set_ 0 (.int .i64 (ratS xs).1)).set_ 1 (.int .i64 (ratS xs).2)).cell 1
    simp at s0 s1
    exact bodyPost_ret (v := .tuple #[.agg #[.int .i64 (ratS xs).1, .int .i64 (ratS xs).2], .int .i64 0]) (by simp [results, Try.results25, go_sem, s0, s1]) rfl ⟨rfl, (by repeat' (first | assumption | exact Below.refl _ _ | refine Below.setCell ?_ (by first | omega | (simp; done) | (simp; omega)) _ | refine Below.alloc ?_ (by first | omega | (simp; done) | (simp; omega)) _))⟩
end Go.Proofs.Ytmdipidejmnijaa
