/- The times of a drum, and what the laws ask of drums. No condition. -/
import Derived.Test.YthpaampkpajdfaaTimes
namespace Go.Proofs.Ythpaampkpajdfaa
open Go.RowKit

/-- A slice and a code. -/
def RetSC (w : World) (e : TypeId) (size n : Nat) (xs : List Value) (cd : Int) (x : Ending) (w' : World) : Prop := ∃ s, x = .returned (.tuple #[s, .int .i64 cd]) ∧ Own w' w.heap.size w'.heap.size e size s n xs ∧ Below w.heap.size w w'
set_option maxHeartbeats 400000 in
theorem toDrum {K B T F : Int} (w : World) :
    Calls Try.prog 16 #[.agg #[.int .i64 K, .int .i64 B, .int .i64 T, .int .i64 F]] w fun e w' => e = .returned (.agg #[.int .i64 K, .int .i64 B, .int .i64 T, .int .i64 F]) ∧ Below w.heap.size w w' := by
  go_enter Try.func16, Try.ntmps16
  go_wp2
  refine bodyPost_ret (v := .agg #[.int .i64 K, .int .i64 B, .int .i64 T, .int .i64 F]) (by simp [results, Try.results16, go_sem]) rfl ⟨rfl, by repeat' (first | assumption | exact Below.refl _ _ | refine Below.setCell ?_ (by first | omega | (simp; done) | (simp; omega)) _ | refine Below.alloc ?_ (by first | omega | (simp; done) | (simp; omega)) _)⟩
theorem eqSameI {A A' : Option Addr} {n c c' : Nat} {xs : List Int} (w : World) (h : Reads w w.heap.size 1 A n (xs.map (Value.int .i64))) (h' : Reads w w.heap.size 1 A' n (xs.map (Value.int .i64))) (hl : xs.length = n) (hm : n ≤ maxLen) :
    Calls Try.prog 18 #[.slice A n c, .slice A' n c'] w fun e w' => e = .returned (.bool true) ∧ Below w.heap.size w w' := by
  refine (eqInt64S _ h h' hl hl hm hm).mono ?_
  rintro e w' ⟨rfl, k, rfl⟩
  exact ⟨ret_b (by simp [sameB]), RetQ.bel k⟩

def stN (K B T F d : Int) : Nat := if codeD K B T F d = 0 then d.toNat else 0
def stXs (K B T F d : Int) : List Int := if codeD K B T F d = 0 then timesD K B T F d.toNat else []
theorem st_bad {K B T F d : Int} (h : codeD K B T F d = 1 ∨ codeD K B T F d = 2) : stN K B T F d = 0 ∧ stXs K B T F d = [] := by
  rcases h with h | h <;> simp [stN, stXs, h]
theorem st_ok {K B T F : Int} {d : Nat} (h : codeD K B T F d = 0) : stN K B T F d = d ∧ stXs K B T F d = timesD K B T F d := by simp [stN, stXs, h]
theorem stN_le (K B T F d : Int) : stN K B T F d ≤ 1073741824 := by
  unfold stN
  split
  · rename_i h
    rcases codeD_cases K B T F d with hc | ⟨_, hok, h0, h1⟩
    · omega
    · have := (okD_parts hok).2.1
      omega
  · omega

set_option maxHeartbeats 1000000 in
theorem sStepTimes (w : World) {K B T F d : Int} :
    Calls Try.prog 15 #[.agg #[.int .i64 K, .int .i64 B, .int .i64 T, .int .i64 F], .int .i64 d] w (RetSC w 2 1 (stN K B T F d) ((stXs K B T F d).map (Value.int .i64)) (codeD K B T F d)) := by
  rcases codeD_cases K B T F d with hc | ⟨hc, hok, d0, d1⟩
  · have HE := Lib.hid (st_bad hc)
    go_enter Try.func15, Try.ntmps15
    go_wp2_with fail
    refine absW ?_
    intro w0 hw
    have hb0 : Below w.heap.size w w0 := by rw [hw]; exact (by repeat' (first | assumption | exact Below.refl _ _ | refine Below.drew ?_ | refine Below.alloc ?_ (by first | omega | (simp; done) | (simp; omega)) _))
    have hD : Blk w0 w.heap.size 27 #[.int .i64 K, .int .i64 B, .int .i64 T, .int .i64 F] := by rw [hw]; exact Blk.new _ _ _
    clear hw
    refine (sCodeD _ hD).mono ?_
    rintro e w1 ⟨rfl, kk, hw1⟩
    have hb := RetQ.bel (w := w0) kk
    rw [← hw1] at hb
    clear hw1
    replace hD := hD.bel hb; replace hb0 := bel2 hb0 hb
    clear hb
    have hz1 : w.heap.size ≤ w1.heap.size := hb0.size
    have c0 := hD.cell 0; have c1 := hD.cell 1; have c2 := hD.cell 2; have c3 := hD.cell 3
    simp at c0 c1 c2 c3
    rcases hc with hc | hc
    all_goals
      rw [hc]
      go_wp2
      go_ret2
      obtain ⟨e1, e2⟩ := HE.out
      rw [e1, e2, hc]
      exact ⟨_, rfl, Own.nil _ _ _ _ _, hb0⟩
  · obtain ⟨d, rfl⟩ := Int.eq_ofNat_of_zero_le d0
    have HE := Lib.hid (st_ok hc)
    go_enter Try.func15, Try.ntmps15
    go_wp2_with fail
    refine absW ?_
    intro w0 hw
    have hb0 : Below w.heap.size w w0 := by rw [hw]; exact (by repeat' (first | assumption | exact Below.refl _ _ | refine Below.drew ?_ | refine Below.alloc ?_ (by first | omega | (simp; done) | (simp; omega)) _))
    have hD : Blk w0 w.heap.size 27 #[.int .i64 K, .int .i64 B, .int .i64 T, .int .i64 F] := by rw [hw]; exact Blk.new _ _ _
    clear hw
    refine (sCodeD _ hD).mono ?_
    rintro e w1 ⟨rfl, kk, hw1⟩
    have hb := RetQ.bel (w := w0) kk
    rw [← hw1] at hb
    clear hw1
    replace hD := hD.bel hb; replace hb0 := bel2 hb0 hb
    clear hb
    have hz1 : w.heap.size ≤ w1.heap.size := hb0.size
    have c0 := hD.cell 0; have c1 := hD.cell 1; have c2 := hD.cell 2; have c3 := hD.cell 3
    simp at c0 c1 c2 c3
    rw [hc]
    go_wp2_with fail
    refine (sTimes _ hD hok d1).mono ?_
    rintro e w2 ⟨v, rfl, ho, hb⟩
    replace hb0 := bel2 hb0 hb
    have hz := hb0.size
    clear c0 c1 c2 c3 hD
    go_wp2
    go_ret2
    obtain ⟨e1, e2⟩ := HE.out
    rw [e1, e2, hc]
    exact ⟨_, rfl, ho.more hz1 (Nat.le_refl _), hb0⟩

set_option maxHeartbeats 1000000 in
theorem iStepTimes (w : World) {K B T F d : Int} :
    Calls Try.prog 17 #[.agg #[.int .i64 K, .int .i64 B, .int .i64 T, .int .i64 F], .int .i64 d] w (RetSC w 2 1 (stN K B T F d) ((stXs K B T F d).map (Value.int .i64)) (codeD K B T F d)) := by
  rcases codeD_cases K B T F d with hc | ⟨hc, hok, d0, d1⟩
  · have HE := Lib.hid (st_bad hc)
    go_enter Try.func17, Try.ntmps17
    go_wp2_with fail
    refine absW ?_
    intro w0 hw
    have hb0 : Below w.heap.size w w0 := by rw [hw]; exact (by repeat' (first | assumption | exact Below.refl _ _ | refine Below.drew ?_ | refine Below.alloc ?_ (by first | omega | (simp; done) | (simp; omega)) _))
    have hD : Blk w0 w.heap.size 27 #[.int .i64 K, .int .i64 B, .int .i64 T, .int .i64 F] := by rw [hw]; exact Blk.new _ _ _
    clear hw
    refine (iCodeD _ _ _ _ _ _).mono ?_
    rintro e w1 ⟨rfl, hb⟩
    replace hD := hD.bel hb; replace hb0 := bel2 hb0 hb
    clear hb
    have hz1 : w.heap.size ≤ w1.heap.size := hb0.size
    have c0 := hD.cell 0; have c1 := hD.cell 1; have c2 := hD.cell 2; have c3 := hD.cell 3
    simp at c0 c1 c2 c3
    rcases hc with hc | hc
    all_goals
      rw [hc]
      go_wp2
      go_ret2
      obtain ⟨e1, e2⟩ := HE.out
      rw [e1, e2, hc]
      exact ⟨_, rfl, Own.nil _ _ _ _ _, hb0⟩
  · obtain ⟨d, rfl⟩ := Int.eq_ofNat_of_zero_le d0
    have HE := Lib.hid (st_ok hc)
    go_enter Try.func17, Try.ntmps17
    go_wp2_with fail
    refine absW ?_
    intro w0 hw
    have hb0 : Below w.heap.size w w0 := by rw [hw]; exact (by repeat' (first | assumption | exact Below.refl _ _ | refine Below.drew ?_ | refine Below.alloc ?_ (by first | omega | (simp; done) | (simp; omega)) _))
    have hD : Blk w0 w.heap.size 27 #[.int .i64 K, .int .i64 B, .int .i64 T, .int .i64 F] := by rw [hw]; exact Blk.new _ _ _
    clear hw
    refine (iCodeD _ _ _ _ _ _).mono ?_
    rintro e w1 ⟨rfl, hb⟩
    replace hD := hD.bel hb; replace hb0 := bel2 hb0 hb
    clear hb
    have hz1 : w.heap.size ≤ w1.heap.size := hb0.size
    have c0 := hD.cell 0; have c1 := hD.cell 1; have c2 := hD.cell 2; have c3 := hD.cell 3
    simp at c0 c1 c2 c3
    rw [hc]
    go_wp2_with fail
    refine (iTimes _ hok d1).mono ?_
    rintro e w2 ⟨v, rfl, ho, hb⟩
    replace hb0 := bel2 hb0 hb
    have hz := hb0.size
    clear c0 c1 c2 c3 hD
    go_wp2
    go_ret2
    obtain ⟨e1, e2⟩ := HE.out
    rw [e1, e2, hc]
    exact ⟨_, rfl, ho.more hz1 (Nat.le_refl _), hb0⟩
end Go.Proofs.Ythpaampkpajdfaa
