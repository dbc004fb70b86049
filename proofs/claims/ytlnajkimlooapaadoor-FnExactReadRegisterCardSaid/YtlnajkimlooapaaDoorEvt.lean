/- Events of carries in text. No condition. -/
import Derived.Test.YtlnajkimlooapaaDoorFmt
import Derived.Test.YtlnajkimlooapaaDoorBel
namespace Go.Proofs.YtlnajkimlooapaaDoor
open Go.RowKit

theorem itoa_small {n : Int} (hn : inI n) : (decS n).size ≤ 20 := by
  unfold inI at hn
  have hz : (decS n).size = (Lib.itoa n).length := by simp [decS, ByteArray.size]
  rcases Int.lt_trichotomy n 0 with h | h | h
  · rw [← decS_neg h]
    have := dgs_len 19 n.natAbs (by omega)
    rw [ByteArray.size_append, strOfNums_size]
    have : (ByteArray.mk #[45]).size = 1 := rfl
    omega
  · subst h; rw [decS_zero]; decide
  · rw [← decS_pos h, strOfNums_size]
    have := dgs_len 19 n.natAbs (by omega)
    omega
def evS (k a b : Int) : ByteArray :=
  if k = 1 then ByteArray.mk #[116, 117, 114, 110, 32] ++ decS a ++ ByteArray.mk #[32, 98, 121, 32] ++ decS b else
  if k = 2 then ByteArray.mk #[99, 111, 99, 107, 32] ++ decS a else if k = 3 then ByteArray.mk #[112, 117, 115, 104, 32] ++ decS a else ByteArray.mk #[]
def EvPost (k a b : Int) (w : World) (e : Ending) (w' : World) : Prop := e = .returned (.string (evS k a b)) ∧ Below w.heap.size w w'

set_option maxRecDepth 100000 in
theorem toCarryEvent {a0 a1 a2 : Int} (w : World) :
    Calls Tryd.prog 11 #[.agg #[.int .i64 a0, .int .i64 a1, .int .i64 a2]] w fun e w' => e = .returned (.agg #[.int .i64 a0, .int .i64 a1, .int .i64 a2]) ∧ Below w.heap.size w w' := by
  go_enter Tryd.func11, Tryd.ntmps11
  go_wp2
  exact bodyPost_ret (v := .agg #[.int .i64 a0, .int .i64 a1, .int .i64 a2]) (by simp [results, Tryd.results11, go_sem]) rfl ⟨rfl, (by repeat' (first | assumption | exact Below.refl _ _ | refine Below.drew ?_ | refine Below.alloc ?_ (by first | omega | (simp; done) | (simp; omega)) _ | refine Below.setCell ?_ (by first | omega | (simp; done) | (simp; omega)) _))⟩
section EVT
attribute [local irreducible] wpQuiet
attribute [local irreducible] decS
set_option maxRecDepth 100000 in
set_option maxHeartbeats 3200000 in
theorem sEvt {k a b : Int} (w : World) (ha : inI a) (hb : inI b) : Calls Tryd.prog 10 #[.agg #[.int .i64 k, .int .i64 a, .int .i64 b]] w (EvPost k a b w) := by
  have la := itoa_small ha; have lb := itoa_small hb
  have HC := Lib.hid (fun (n : Int) (W : World) (hn : inI n) (hW : Below w.heap.size w W) => sDec (n := n) W hn)
  unfold DecPost at HC
  have HB : Below w.heap.size w (w.alloc (.cells #[.int .i64 k, .int .i64 a, .int .i64 b] 27)) := (by repeat' (first | assumption | exact Below.refl _ _ | refine Below.drew ?_ | refine belN ?_ _ | refine Below.alloc ?_ (by first | omega | (simp; done) | (simp; omega)) _))
  by_cases h1 : k = 1
  · subst h1
    have HE : Hid (evS 1 a b = ByteArray.mk #[116, 117, 114, 110, 32] ++ decS a ++ ByteArray.mk #[32, 98, 121, 32] ++ decS b) := by rfl
    go_enter Tryd.func10, Tryd.ntmps10
    go_wp2_with fail
    refine absC ?_
    intro w0 hw
    have hb0 : Below w.heap.size w w0 := by rw [hw]; exact (by repeat' (first | assumption | exact Below.refl _ _ | refine Below.drew ?_ | refine belN ?_ _ | refine Below.alloc ?_ (by first | omega | (simp; done) | (simp; omega)) _))
    have c1 : w0.cell? ⟨w.heap.size, 1, none⟩ = some (.int .i64 a) := by rw [hw]; simp
    have c2 : w0.cell? ⟨w.heap.size, 2, none⟩ = some (.int .i64 b) := by rw [hw]; simp
    clear hw
    have x1 := fun x : BW w0 => BW.cell c1 x; have x2 := fun x : BW w0 => BW.cell c2 x
    refine wp_region_below (by kernel_rfl) (by kernel_rfl) ?_
    repeat (go_big_quiet_step ((go_at_call 24; exact BW.call (HC.out _ _ (by assumption) (bel2 hb0 (BW.bel _))))))
    refine wpQuiet_nil ?_
    rintro _ ⟨⟨w4, hb4⟩, rfl⟩
    go_wp2
    go_ret
    exact ⟨ret_s HE.out.symm, bel2 hb0 hb4⟩
  by_cases h2 : k = 2
  · subst h2
    have HE : Hid (evS 2 a b = ByteArray.mk #[99, 111, 99, 107, 32] ++ decS a) := by rfl
    go_enter Tryd.func10, Tryd.ntmps10
    go_wp2_with fail
    refine (HC.out _ _ ha HB).mono ?_
    rintro e w1 ⟨rfl, hb1⟩
    go_wp2
    go_ret
    exact ⟨ret_s HE.out.symm, bel2 HB hb1⟩
  by_cases h3 : k = 3
  · subst h3
    have HE : Hid (evS 3 a b = ByteArray.mk #[112, 117, 115, 104, 32] ++ decS a) := by rfl
    go_enter Tryd.func10, Tryd.ntmps10
    go_wp2_with fail
    refine (HC.out _ _ ha HB).mono ?_
    rintro e w1 ⟨rfl, hb1⟩
    go_wp2
    go_ret
    exact ⟨ret_s HE.out.symm, bel2 HB hb1⟩
  have HE : Hid (evS k a b = ByteArray.mk #[]) := by unfold Hid evS; rw [if_neg h1, if_neg h2, if_neg h3]
  have b1 : (k == 1) = false := by simpa using h1
  have b2 : (k == 2) = false := by simpa using h2
  have b3 : (k == 3) = false := by simpa using h3
  clear h1 h2 h3
  go_enter Tryd.func10, Tryd.ntmps10
  go_wp2
  go_ret
  exact ⟨ret_s HE.out.symm, HB⟩
set_option maxRecDepth 100000 in
set_option maxHeartbeats 3200000 in
theorem iEvt {k a b : Int} (w : World) (ha : inI a) (hb : inI b) (T : Tab w) : Calls Tryd.prog 12 #[.agg #[.int .i64 k, .int .i64 a, .int .i64 b]] w (EvPost k a b w) := by
  have la := itoa_small ha; have lb := itoa_small hb
  have HC := Lib.hid (fun (n : Int) (W : World) (hn : inI n) (hW : Below w.heap.size w W) => iDec (n := n) W hn (T.bel hW))
  unfold DecPost at HC
  clear T
  have HB : Below w.heap.size w (w.alloc (.cells #[.int .i64 k, .int .i64 a, .int .i64 b] 27)) := (by repeat' (first | assumption | exact Below.refl _ _ | refine Below.drew ?_ | refine belN ?_ _ | refine Below.alloc ?_ (by first | omega | (simp; done) | (simp; omega)) _))
  by_cases h1 : k = 1
  · subst h1
    have HE : Hid (evS 1 a b = ByteArray.mk #[116, 117, 114, 110, 32] ++ decS a ++ ByteArray.mk #[32, 98, 121, 32] ++ decS b) := by rfl
    go_enter Tryd.func12, Tryd.ntmps12
    go_wp2_with fail
    refine absC ?_
    intro w0 hw
    have hb0 : Below w.heap.size w w0 := by rw [hw]; exact (by repeat' (first | assumption | exact Below.refl _ _ | refine Below.drew ?_ | refine belN ?_ _ | refine Below.alloc ?_ (by first | omega | (simp; done) | (simp; omega)) _))
    have c1 : w0.cell? ⟨w.heap.size, 1, none⟩ = some (.int .i64 a) := by rw [hw]; simp
    have c2 : w0.cell? ⟨w.heap.size, 2, none⟩ = some (.int .i64 b) := by rw [hw]; simp
    clear hw
    have x1 := fun x : BW w0 => BW.cell c1 x; have x2 := fun x : BW w0 => BW.cell c2 x
    refine wp_region_below (by kernel_rfl) (by kernel_rfl) ?_
    repeat (go_big_quiet_step ((go_at_call 9; exact BW.call (HC.out _ _ (by assumption) (bel2 hb0 (BW.bel _))))))
    refine wpQuiet_nil ?_
    rintro _ ⟨⟨w4, hb4⟩, rfl⟩
    go_wp2
    go_ret
    exact ⟨ret_s HE.out.symm, bel2 hb0 hb4⟩
  by_cases h2 : k = 2
  · subst h2
    have HE : Hid (evS 2 a b = ByteArray.mk #[99, 111, 99, 107, 32] ++ decS a) := by rfl
    go_enter Tryd.func12, Tryd.ntmps12
    go_wp2_with fail
    refine (HC.out _ _ ha HB).mono ?_
    rintro e w1 ⟨rfl, hb1⟩
    go_wp2
    go_ret
    exact ⟨ret_s HE.out.symm, bel2 HB hb1⟩
  by_cases h3 : k = 3
  · subst h3
    have HE : Hid (evS 3 a b = ByteArray.mk #[112, 117, 115, 104, 32] ++ decS a) := by rfl
    go_enter Tryd.func12, Tryd.ntmps12
    go_wp2_with fail
    refine (HC.out _ _ ha HB).mono ?_
    rintro e w1 ⟨rfl, hb1⟩
    go_wp2
    go_ret
    exact ⟨ret_s HE.out.symm, bel2 HB hb1⟩
  have HE : Hid (evS k a b = ByteArray.mk #[]) := by unfold Hid evS; rw [if_neg h1, if_neg h2, if_neg h3]
  have b1 : (k == 1) = false := by simpa using h1
  have b2 : (k == 2) = false := by simpa using h2
  have b3 : (k == 3) = false := by simpa using h3
  clear h1 h2 h3
  go_enter Tryd.func12, Tryd.ntmps12
  go_wp2
  go_ret
  exact ⟨ret_s HE.out.symm, HB⟩
end EVT
set_option maxHeartbeats 3200000 in
theorem lEventText {a0_0 a0_1 a0_2 : Int} (w : World) (w0 : inI a0_0) (w1 : inI a0_1) (w2 : inI a0_2) (T : Tab w) :
    Calls Tryd.prog 4 #[.agg #[.int .i64 a0_0, .int .i64 a0_1, .int .i64 a0_2]] w fun e w' => e = .returned (.bool true) ∧ Below w.heap.size w w' := by
  go_enter Tryd.func4, Tryd.ntmps4
  go_wp2_with fail
  refine absW ?_
  intro v0 hw
  have hb0 : Below w.heap.size w v0 := by rw [hw]; exact (by repeat' (first | assumption | exact Below.refl _ _ | refine Below.drew ?_ | refine belN ?_ _ | refine Below.alloc ?_ (by first | omega | (simp; done) | (simp; omega)) _))
  have c0 : v0.cell? ⟨w.heap.size, 0, none⟩ = some (.int .i64 a0_0) := by rw [hw]; simp
  have c1 : v0.cell? ⟨w.heap.size, 1, none⟩ = some (.int .i64 a0_1) := by rw [hw]; simp
  have c2 : v0.cell? ⟨w.heap.size, 2, none⟩ = some (.int .i64 a0_2) := by rw [hw]; simp
  clear hw
  refine (toCarryEvent _).mono ?_
  rintro e v1 ⟨rfl, hb⟩
  replace c0 := cellB c0 hb; replace c1 := cellB c1 hb; replace c2 := cellB c2 hb
  replace hb0 := bel2 hb0 hb
  go_wp2_with fail
  refine (sEvt _ w1 w2).mono ?_
  rintro e v2 ⟨rfl, hb⟩
  replace c0 := cellB c0 hb; replace c1 := cellB c1 hb; replace c2 := cellB c2 hb
  replace hb0 := bel2 hb0 hb
  go_wp2_with fail
  refine (toCarryEvent _).mono ?_
  rintro e v3 ⟨rfl, hb⟩
  replace hb0 := bel2 hb0 hb
  go_wp2_with fail
  refine (iEvt _ w1 w2 (T.bel hb0)).mono ?_
  rintro e v4 ⟨rfl, hb⟩
  replace hb0 := bel2 hb0 hb
  go_wp2
  go_ret
  exact ⟨rfl, hb0⟩
end Go.Proofs.YtlnajkimlooapaaDoor
