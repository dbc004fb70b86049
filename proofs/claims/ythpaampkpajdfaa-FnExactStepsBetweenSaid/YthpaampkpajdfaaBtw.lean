/- How many steps a drum makes between two times. No condition. -/
import Derived.Test.YthpaampkpajdfaaBy
import Derived.Deep.RegionHeld3
namespace Go.Proofs.Ythpaampkpajdfaa
open Go.RowKit

def btOk (a b : Int) : Bool := betwB a 0 100000 && betwB b a 100000
def btVal (K B T F d a b : Int) : Int := if codeD K B T F d = 0 then (if btOk a b then byD K B T F d.toNat b - byD K B T F d.toNat a else 0) else 0
def btCode (K B T F d a b : Int) : Int := if codeD K B T F d = 0 then (if btOk a b then 0 else 2) else codeD K B T F d
theorem bt_bad {K B T F d a b : Int} (h : codeD K B T F d = 1 ∨ codeD K B T F d = 2) : btVal K B T F d a b = 0 ∧ btCode K B T F d a b = codeD K B T F d := by
  rcases h with h | h <;> simp [btVal, btCode, h]
theorem bt_far {K B T F d a b : Int} (h : codeD K B T F d = 0) (h' : btOk a b = false) : btVal K B T F d a b = 0 ∧ btCode K B T F d a b = 2 := by simp [btVal, btCode, h, h']
theorem bt_ok {K B T F a b : Int} {d : Nat} (h : codeD K B T F d = 0) (h' : btOk a b = true) : btVal K B T F d a b = byD K B T F d b - byD K B T F d a ∧ btCode K B T F d a b = 0 := by simp [btVal, btCode, h, h']
theorem btw_not {n lo hi : Int} (h : betwB n lo hi = false) : n < lo ∨ hi < n := by
  simp only [betwB, decide_eq_false_iff_not] at h
  omega

set_option maxHeartbeats 3200000 in
theorem sStepsBetween (w : World) {K B T F d a b : Int} :
    Calls Try.prog 23 #[.agg #[.int .i64 K, .int .i64 B, .int .i64 T, .int .i64 F], .int .i64 d, .int .i64 a, .int .i64 b] w fun e w' => e = .returned (.tuple #[.int .i64 (btVal K B T F d a b), .int .i64 (btCode K B T F d a b)]) ∧ Below w.heap.size w w' := by
  rcases codeD_cases K B T F d with hc | ⟨hc, hok, d0, d1⟩
  · have HE := Lib.hid (bt_bad (a := a) (b := b) hc)
    go_enter Try.func23, Try.ntmps23
    go_wp2_with fail
    refine absW ?_
    intro w0 hw
    have hb0 : Below w.heap.size w w0 := by rw [hw]; exact (by repeat' (first | assumption | exact Below.refl _ _ | refine Below.drew ?_ | refine Below.alloc ?_ (by first | omega | (simp; done) | (simp; omega)) _))
    have hD : Blk w0 w.heap.size 27 #[.int .i64 K, .int .i64 B, .int .i64 T, .int .i64 F] := by rw [hw]; exact Blk.new _ _ _
    clear hw
    refine (sCodeD _ hD).mono ?_
    rintro e w1 ⟨rfl, kk, hw1⟩
    have hb := RetQ.bel (w := w0) kk
    rw [← hw1] at hb
    clear hw1
    replace hD := hD.bel hb; replace hb0 := bel2 hb0 hb
    clear hb
    have c0 := hD.cell 0; have c1 := hD.cell 1; have c2 := hD.cell 2; have c3 := hD.cell 3
    simp at c0 c1 c2 c3
    rcases hc with hc | hc
    all_goals
      rw [hc]
      go_wp2
      go_ret2
      obtain ⟨e1, e2⟩ := HE.out
      rw [e1, e2, hc]
      exact ⟨rfl, hb0⟩
  · obtain ⟨d, rfl⟩ := Int.eq_ofNat_of_zero_le d0
    cases ht : btOk a b
    · have HE := Lib.hid (bt_far hc ht)
      go_enter Try.func23, Try.ntmps23
      go_wp2_with fail
      refine absW ?_
      intro w0 hw
      have hb0 : Below w.heap.size w w0 := by rw [hw]; exact (by repeat' (first | assumption | exact Below.refl _ _ | refine Below.drew ?_ | refine Below.alloc ?_ (by first | omega | (simp; done) | (simp; omega)) _))
      have hD : Blk w0 w.heap.size 27 #[.int .i64 K, .int .i64 B, .int .i64 T, .int .i64 F] := by rw [hw]; exact Blk.new _ _ _
      clear hw
      refine (sCodeD _ hD).mono ?_
      rintro e w1 ⟨rfl, kk, hw1⟩
      have hb := RetQ.bel (w := w0) kk
      rw [← hw1] at hb
      clear hw1
      replace hD := hD.bel hb; replace hb0 := bel2 hb0 hb
      clear hb
      have c0 := hD.cell 0; have c1 := hD.cell 1; have c2 := hD.cell 2; have c3 := hD.cell 3
      simp at c0 c1 c2 c3
      rw [hc]
      cases h1 : betwB a 0 100000
      · go_wp2_with (first | (go_at_call 65; refine (l00In_any _ _ _ _).mono ?_; rintro e w' ⟨rfl, rfl⟩))
        go_ret2
        obtain ⟨e1, e2⟩ := HE.out
        rw [e1, e2]
        exact ⟨rfl, hb0⟩
      · have h2 : betwB b a 100000 = false := by simpa [btOk, h1] using ht
        clear ht
        go_wp2_with (first | (go_at_call 65; refine (l00In_any _ _ _ _).mono ?_; rintro e w' ⟨rfl, rfl⟩))
        go_ret2
        obtain ⟨e1, e2⟩ := HE.out
        rw [e1, e2]
        exact ⟨rfl, hb0⟩
    · have HE := Lib.hid (bt_ok hc ht)
      have h1 : betwB a 0 100000 = true := by have := ht; simp only [btOk, Bool.and_eq_true] at this; exact this.1
      have h2 : betwB b a 100000 = true := by have := ht; simp only [btOk, Bool.and_eq_true] at this; exact this.2
      have hab : a ≤ b := by have := ht; simp only [btOk, Bool.and_eq_true, betw_iff] at this; omega
      obtain ⟨a0, a1⟩ := betw_iff.1 h1
      have b0 : 0 ≤ b := by omega
      have b1 : b ≤ 100000 := (betw_iff.1 h2).2
      clear ht
      obtain ⟨_, ⟨v1, v2⟩, ⟨v3, v4⟩, _⟩ := okD_parts hok
      have YA := byD_bd (K := K) (B := B) (T := T) (F := F) (d := d) (t := a) (by omega) (by omega) a0 a1
      have YB := byD_bd (K := K) (B := B) (T := T) (F := F) (d := d) (t := b) (by omega) (by omega) b0 b1
      go_enter Try.func23, Try.ntmps23
      go_wp2_with fail
      refine absW ?_
      intro w0 hw
      have hb0 : Below w.heap.size w w0 := by rw [hw]; exact (by repeat' (first | assumption | exact Below.refl _ _ | refine Below.drew ?_ | refine Below.alloc ?_ (by first | omega | (simp; done) | (simp; omega)) _))
      have hD : Blk w0 w.heap.size 27 #[.int .i64 K, .int .i64 B, .int .i64 T, .int .i64 F] := by rw [hw]; exact Blk.new _ _ _
      clear hw
      refine (sCodeD _ hD).mono ?_
      rintro e w1 ⟨rfl, kk, hw1⟩
      have hb := RetQ.bel (w := w0) kk
      rw [← hw1] at hb
      clear hw1
      replace hD := hD.bel hb; replace hb0 := bel2 hb0 hb
      clear hb
      have c0 := hD.cell 0; have c1 := hD.cell 1; have c2 := hD.cell 2; have c3 := hD.cell 3
      simp at c0 c1 c2 c3
      rw [hc]
      have WS : IntKind.i64.wrap (byD K B T F d b - byD K B T F d a) = byD K B T F d b - byD K B T F d a := IntWalk.i64_in _ (by omega)
      go_wp2_with (first | (go_at_call 65; refine (l00In_any _ _ _ _).mono ?_; rintro e w' ⟨rfl, rfl⟩))
      refine (sBy _ hD hok d1 b0 b1).mono ?_
      rintro e w2 ⟨rfl, kk2, hw2⟩
      have hb2 := RetQ.bel (w := w1) kk2
      rw [← hw2] at hb2
      clear hw2 c0 c1 c2 c3
      replace hD := hD.bel hb2; replace hb0 := bel2 hb0 hb2
      clear hb2
      have c0 := hD.cell 0; have c1 := hD.cell 1; have c2 := hD.cell 2; have c3 := hD.cell 3
      simp at c0 c1 c2 c3
      go_wp2_with fail
      refine (sBy _ hD hok d1 a0 a1).mono ?_
      rintro e w3 ⟨rfl, kk3, hw3⟩
      have hb2 := RetQ.bel (w := w2) kk3
      rw [← hw3] at hb2
      clear hw3
      replace hb0 := bel2 hb0 hb2
      clear c0 c1 c2 c3 hD
      go_wp2
      go_ret2
      obtain ⟨e1, e2⟩ := HE.out
      rw [e1, e2]
      exact ⟨rfl, hb0⟩

set_option maxHeartbeats 3200000 in
theorem iStepsBetween (w : World) {K B T F d a b : Int} :
    Calls Try.prog 24 #[.agg #[.int .i64 K, .int .i64 B, .int .i64 T, .int .i64 F], .int .i64 d, .int .i64 a, .int .i64 b] w fun e w' => e = .returned (.tuple #[.int .i64 (btVal K B T F d a b), .int .i64 (btCode K B T F d a b)]) ∧ Below w.heap.size w w' := by
  rcases codeD_cases K B T F d with hc | ⟨hc, hok, d0, d1⟩
  · have HE := Lib.hid (bt_bad (a := a) (b := b) hc)
    go_enter Try.func24, Try.ntmps24
    go_wp2_with fail
    refine absW ?_
    intro w0 hw
    have hb0 : Below w.heap.size w w0 := by rw [hw]; exact (by repeat' (first | assumption | exact Below.refl _ _ | refine Below.drew ?_ | refine Below.alloc ?_ (by first | omega | (simp; done) | (simp; omega)) _))
    have hD : Blk w0 w.heap.size 27 #[.int .i64 K, .int .i64 B, .int .i64 T, .int .i64 F] := by rw [hw]; exact Blk.new _ _ _
    clear hw
    refine (iCodeD _ _ _ _ _ _).mono ?_
    rintro e w1 ⟨rfl, hb⟩
    replace hD := hD.bel hb; replace hb0 := bel2 hb0 hb
    clear hb
    have c0 := hD.cell 0; have c1 := hD.cell 1; have c2 := hD.cell 2; have c3 := hD.cell 3
    simp at c0 c1 c2 c3
    rcases hc with hc | hc
    all_goals
      rw [hc]
      go_wp2
      go_ret2
      obtain ⟨e1, e2⟩ := HE.out
      rw [e1, e2, hc]
      exact ⟨rfl, hb0⟩
  · obtain ⟨d, rfl⟩ := Int.eq_ofNat_of_zero_le d0
    cases ht : btOk a b
    · have HE := Lib.hid (bt_far hc ht)
      go_enter Try.func24, Try.ntmps24
      go_wp2_with fail
      refine absW ?_
      intro w0 hw
      have hb0 : Below w.heap.size w w0 := by rw [hw]; exact (by repeat' (first | assumption | exact Below.refl _ _ | refine Below.drew ?_ | refine Below.alloc ?_ (by first | omega | (simp; done) | (simp; omega)) _))
      have hD : Blk w0 w.heap.size 27 #[.int .i64 K, .int .i64 B, .int .i64 T, .int .i64 F] := by rw [hw]; exact Blk.new _ _ _
      clear hw
      refine (iCodeD _ _ _ _ _ _).mono ?_
      rintro e w1 ⟨rfl, hb⟩
      replace hD := hD.bel hb; replace hb0 := bel2 hb0 hb
      clear hb
      have c0 := hD.cell 0; have c1 := hD.cell 1; have c2 := hD.cell 2; have c3 := hD.cell 3
      simp at c0 c1 c2 c3
      rw [hc]
      cases h1 : betwB a 0 100000
      · go_wp2_with (first | (go_at_call 67; refine (iTime _ _).mono ?_; rintro e w' ⟨rfl, rfl⟩))
        go_ret2
        obtain ⟨e1, e2⟩ := HE.out
        rw [e1, e2]
        exact ⟨rfl, hb0⟩
      · have h2 : betwB b a 100000 = false := by simpa [btOk, h1] using ht
        clear ht
        obtain ⟨a0, a1⟩ := betw_iff.1 h1
        cases h3 : betwB b 0 100000
        · go_wp2_with (first | (go_at_call 67; refine (iTime _ _).mono ?_; rintro e w' ⟨rfl, rfl⟩))
          go_ret2
          obtain ⟨e1, e2⟩ := HE.out
          rw [e1, e2]
          exact ⟨rfl, hb0⟩
        · obtain ⟨b0, b1⟩ := betw_iff.1 h3
          have h4 : b < a := by have := btw_not h2; omega
          go_wp2_with (first | (go_at_call 67; refine (iTime _ _).mono ?_; rintro e w' ⟨rfl, rfl⟩))
          go_ret2
          obtain ⟨e1, e2⟩ := HE.out
          rw [e1, e2]
          exact ⟨rfl, hb0⟩
    · have HE := Lib.hid (bt_ok hc ht)
      have h1 : betwB a 0 100000 = true := by have := ht; simp only [btOk, Bool.and_eq_true] at this; exact this.1
      have h2 : betwB b 0 100000 = true := by have := ht; simp only [btOk, Bool.and_eq_true, betw_iff] at this; rw [betw_iff]; omega
      have hab : a ≤ b := by have := ht; simp only [btOk, Bool.and_eq_true, betw_iff] at this; omega
      obtain ⟨a0, a1⟩ := betw_iff.1 h1
      have b0 : 0 ≤ b := by omega
      have b1 : b ≤ 100000 := (betw_iff.1 h2).2
      clear ht
      obtain ⟨_, ⟨v1, v2⟩, ⟨v3, v4⟩, _⟩ := okD_parts hok
      have YA := byD_bd (K := K) (B := B) (T := T) (F := F) (d := d) (t := a) (by omega) (by omega) a0 a1
      have YB := byD_bd (K := K) (B := B) (T := T) (F := F) (d := d) (t := b) (by omega) (by omega) b0 b1
      go_enter Try.func24, Try.ntmps24
      go_wp2_with fail
      refine absW ?_
      intro w0 hw
      have hb0 : Below w.heap.size w w0 := by rw [hw]; exact (by repeat' (first | assumption | exact Below.refl _ _ | refine Below.drew ?_ | refine Below.alloc ?_ (by first | omega | (simp; done) | (simp; omega)) _))
      have hD : Blk w0 w.heap.size 27 #[.int .i64 K, .int .i64 B, .int .i64 T, .int .i64 F] := by rw [hw]; exact Blk.new _ _ _
      clear hw
      refine (iCodeD _ _ _ _ _ _).mono ?_
      rintro e w1 ⟨rfl, hb⟩
      replace hD := hD.bel hb; replace hb0 := bel2 hb0 hb
      clear hb
      have c0 := hD.cell 0; have c1 := hD.cell 1; have c2 := hD.cell 2; have c3 := hD.cell 3
      simp at c0 c1 c2 c3
      rw [hc]
      have WS : IntKind.i64.wrap (byD K B T F d b - byD K B T F d a) = byD K B T F d b - byD K B T F d a := IntWalk.i64_in _ (by omega)
      go_wp2_with (first | (go_at_call 67; refine (iTime _ _).mono ?_; rintro e w' ⟨rfl, rfl⟩))
      clear hD
      go_region_held3 (fun w' => w'.cell? ⟨w.heap.size, 0, none⟩ = some (.int .i64 K) ∧ w'.cell? ⟨w.heap.size, 1, none⟩ = some (.int .i64 B) ∧ w'.cell? ⟨w.heap.size, 2, none⟩ = some (.int .i64 T) ∧ w'.cell? ⟨w.heap.size, 3, none⟩ = some (.int .i64 F) ∧ Below w1.heap.size w1 w')
        ((go_split_ands; and_intros <;> (first | assumption | exact cellB (by assumption) hbx | exact bel2 (by assumption) hbx | exact (Below.refl _ _).drew)))
        (first
          | (go_at_call_of 68 (Value.int .i64 b); go_split_ands; (first | refine (iSteps _ hok d1 b0 b1).mono ?_); rintro e w' ⟨rfl, hbx⟩)
          | (go_at_call_of 68 (Value.int .i64 a); go_split_ands; (first | refine (iSteps _ hok d1 a0 a1).mono ?_); rintro e w' ⟨rfl, hbx⟩)
        )
      have hb2 : Below w1.heap.size w1 w' := by go_split_ands; assumption
      replace hb0 := bel2 hb0 hb2
      clear c0 c1 c2 c3
      go_wp2
      go_ret2
      obtain ⟨e1, e2⟩ := HE.out
      rw [e1, e2]
      exact ⟨rfl, hb0⟩
end Go.Proofs.Ythpaampkpajdfaa
