/- Abaci: the plain setting of a digit, an abacus of its own. No condition. -/
import Derived.Test.YtpgifgdoikhpbaaValAba
import Derived.Test.YtpgifgdoikhpbaaSameAba
import Derived.Test.YtpgifgdoikhpbaaApp
import Derived.Test.YtpgifgdoikhpbaaCall
import Derived.Test.YtpgifgdoikhpbaaBel
import Derived.Deep.RegionLaw
namespace Go.Proofs.Ytpgifgdoikhpbaa
open Go.RowKit

set_option maxHeartbeats 400000 in
theorem sMin (a b : Int) (w : World) : Calls Try.prog 86 #[.int .i64 a, .int .i64 b] w fun e w' => e = .returned (.int .i64 (min a b)) ∧ w = w' := by
  by_cases hab : b < a
  · have : min a b = b := by omega
    rw [this]
    go_enter Try.func86, Try.ntmps86
    go_wp2
    go_ret
    exact ⟨rfl, rfl⟩
  · have : min a b = a := by omega
    rw [this]
    by_cases hba : a < b
    all_goals
      go_enter Try.func86, Try.ntmps86
      go_wp2
      go_ret
      exact ⟨ret_n (by omega), rfl⟩

section
attribute [local irreducible] wpQuiet
set_option maxHeartbeats 1600000 in
theorem sDigit {u t d : Int} {g : Nat} (w : World) (c0 : w.cell? ⟨g, 0, none⟩ = some (.int .i64 u)) (c2 : w.cell? ⟨g, 2, none⟩ = some (.int .i64 t)) (ku : 0 ≤ u ∧ u ≤ 4) (kt : 1 ≤ t ∧ t ≤ 10) (d0 : 0 ≤ d) (d1 : d ≤ 9) :
    Calls Try.prog 85 #[.pointer (some ⟨g, 0, none⟩), .int .i64 d] w fun e w' => e = .returned (.agg #[.int .i64 (plD u t d).1, .int .i64 (plD u t d).2]) ∧ Below w.heap.size w w' := by
  obtain ⟨u0, u1⟩ := ku
  obtain ⟨t0, t1⟩ := kt
  have q0 : 0 ≤ d / t := Int.ediv_nonneg d0 (by omega)
  have q1 : d / t ≤ d := Int.ediv_le_self _ d0
  have tz : ¬ t = 0 := by omega
  have T1 : d.tdiv t = d / t := Int.tdiv_eq_ediv_of_nonneg d0
  have PD : plD u t d = (min u (d / t), d - min u (d / t) * t) := rfl
  generalize d / t = e at *
  have W1 : IntKind.i64.wrap e = e := IntWalk.i64_in _ (by omega)
  by_cases hue : e < u
  · have m0 : 0 ≤ e := by omega
    have m1 : e ≤ u := by omega
    obtain ⟨m2, m3⟩ := mul_in m0 m1 u1 t0 t1
    have E : min u e = e := by omega
    rw [E] at PD
    rw [PD]
    clear PD
    have HC := fun W => sMin u e W
    simp only [E] at HC
    replace HC := Lib.hid HC
    clear E
    have x0 := fun X : Obj => cellA c0 X; have x2 := fun X : Obj => cellA c2 X
    have hg := World.block_lt_of_cell? _ _ c0
    go_enter Try.func85, Try.ntmps85
    go_wp2_with fail
    go_quiet ((go_at_call 86; refine quietD (HC.out _) ?_; first | exact ⟨_, rfl⟩ | exact ⟨_, (World.drewN_drewN _ _ _).symm⟩))
    go_wp2
    exact bodyPost_ret (v := .agg #[.int .i64 e, .int .i64 (d - e * t)]) (by simp [results, Try.results85, go_sem]) rfl ⟨rfl, (by repeat' (first | assumption | exact Below.refl _ _ | refine Below.drew ?_ | refine belN ?_ _ | refine Below.alloc ?_ (by first | omega | (simp; done) | (simp; omega)) _ | refine Below.setCell ?_ (by first | omega | (simp; done) | (simp; omega)) _))⟩
  · have m0 : 0 ≤ u := by omega
    have m1 : u ≤ u := by omega
    obtain ⟨m2, m3⟩ := mul_in m0 m1 u1 t0 t1
    have E : min u e = u := by omega
    rw [E] at PD
    rw [PD]
    clear PD
    have HC := fun W => sMin u e W
    simp only [E] at HC
    replace HC := Lib.hid HC
    clear E
    have x0 := fun X : Obj => cellA c0 X; have x2 := fun X : Obj => cellA c2 X
    have hg := World.block_lt_of_cell? _ _ c0
    go_enter Try.func85, Try.ntmps85
    go_wp2_with fail
    go_quiet ((go_at_call 86; refine quietD (HC.out _) ?_; first | exact ⟨_, rfl⟩ | exact ⟨_, (World.drewN_drewN _ _ _).symm⟩))
    go_wp2
    exact bodyPost_ret (v := .agg #[.int .i64 u, .int .i64 (d - u * t)]) (by simp [results, Try.results85, go_sem]) rfl ⟨rfl, (by repeat' (first | assumption | exact Below.refl _ _ | refine Below.drew ?_ | refine belN ?_ _ | refine Below.alloc ?_ (by first | omega | (simp; done) | (simp; omega)) _ | refine Below.setCell ?_ (by first | omega | (simp; done) | (simp; omega)) _))⟩

set_option maxHeartbeats 1600000 in
theorem iPlainRod {u o t d : Int} {s : Value} (w : World) (ku : 0 ≤ u ∧ u ≤ 4) (kt : 1 ≤ t ∧ t ≤ 10) (d0 : 0 ≤ d) (d1 : d ≤ 9) :
    Calls Try.prog 68 #[.agg #[.int .i64 u, .int .i64 o, .int .i64 t, s], .int .i64 d] w fun e w' => e = .returned (.agg #[.int .i64 (plD u t d).1, .int .i64 (plD u t d).2]) ∧ Below w.heap.size w w' := by
  obtain ⟨u0, u1⟩ := ku
  obtain ⟨t0, t1⟩ := kt
  have q0 : 0 ≤ d / t := Int.ediv_nonneg d0 (by omega)
  have q1 : d / t ≤ d := Int.ediv_le_self _ d0
  have tz : ¬ t = 0 := by omega
  have T1 : d.tdiv t = d / t := Int.tdiv_eq_ediv_of_nonneg d0
  have PD : plD u t d = (min u (d / t), d - min u (d / t) * t) := rfl
  generalize d / t = e at *
  have W1 : IntKind.i64.wrap e = e := IntWalk.i64_in _ (by omega)
  by_cases hue : e < u
  · have m0 : 0 ≤ e := by omega
    have m1 : e ≤ u := by omega
    obtain ⟨m2, m3⟩ := mul_in m0 m1 u1 t0 t1
    have E : min u e = e := by omega
    rw [E] at PD
    rw [PD]
    clear PD
    clear E
    go_enter Try.func68, Try.ntmps68
    go_wp2_with fail
    go_quiet (fail)
    go_wp2
    exact bodyPost_ret (v := .agg #[.int .i64 e, .int .i64 (d - e * t)]) (by simp [results, Try.results68, go_sem]) rfl ⟨rfl, (by repeat' (first | assumption | exact Below.refl _ _ | refine Below.drew ?_ | refine belN ?_ _ | refine Below.alloc ?_ (by first | omega | (simp; done) | (simp; omega)) _ | refine Below.setCell ?_ (by first | omega | (simp; done) | (simp; omega)) _))⟩
  · have m0 : 0 ≤ u := by omega
    have m1 : u ≤ u := by omega
    obtain ⟨m2, m3⟩ := mul_in m0 m1 u1 t0 t1
    have E : min u e = u := by omega
    rw [E] at PD
    rw [PD]
    clear PD
    clear E
    go_enter Try.func68, Try.ntmps68
    go_wp2_with fail
    go_quiet (fail)
    go_wp2
    exact bodyPost_ret (v := .agg #[.int .i64 u, .int .i64 (d - u * t)]) (by simp [results, Try.results68, go_sem]) rfl ⟨rfl, (by repeat' (first | assumption | exact Below.refl _ _ | refine Below.drew ?_ | refine belN ?_ _ | refine Below.alloc ?_ (by first | omega | (simp; done) | (simp; omega)) _ | refine Below.setCell ?_ (by first | omega | (simp; done) | (simp; omega)) _))⟩

end
end Go.Proofs.Ytpgifgdoikhpbaa
