/- Abaci, and slices of triples of integers, opened. No condition. -/
import Derived.Test.YtpgifgdoikhpbaaOpen
import Derived.ProofKit
import Derived.OpenShut
import Derived.Lib.SmallJoins
import Derived.Deep.Slices
import Derived.Deep.SlicePairs
import Derived.Deep.Fields
import Derived.ChangeSame
namespace Go.Proofs.Ytpgifgdoikhpbaa
open Go.ChangeShapes Go.WideShapes Go.ChangeAt Go.RowKit Go.Joins Go.Deep

section
variable {H : Type} {enc : TypeId × Value → H} {P : Program} {w : World} {base : Nat} {spare : Nat → Bool} {held : Bool} {r : Reach} {b0 : Nat}

/-- A slice of structs of three integers. -/
theorem row_of_trips {t e ti : TypeId} {f0 f1 f2 : Field} {fuel : Nat} {A : Option Addr} {n c : Nat} {x : DataW H × List MemPlace} (ht : P.underlying t = some (.slice e)) (he : P.underlying e = some (.struct #[f0, f1, f2]))
    (ce : P.cellsOf e = 3) (o0 : f0.offset = 0) (o1 : f1.offset = 1) (o2 : f2.offset = 2) (c0 : P.cellsOf f0.type = 1) (c1 : P.cellsOf f1.type = 1) (c2 : P.cellsOf f2.type = 1) (t0 : f0.type = ti) (t1 : f1.type = ti) (t2 : f2.type = ti) (hi : P.underlying ti = some (.int .i64))
    (h : DataW.trod enc P w base spare held fuel t [.slice A n c] = some x) : ∃ zs : List (Int × Int × Int), TripRow w A n c zs := by
  rcases open_slice ht h with ⟨hcs, _⟩ | ⟨ad, l, cp, m, k, D, Pl, hcs, _, hl, hm, hmm, _, hel⟩
  · simp at hcs
    obtain ⟨rfl, rfl, rfl⟩ := hcs
    exact ⟨[], ⟨rfl, Nat.le_refl _, Nat.zero_le _, Reads.none_, fun x hx => by simp at hx⟩⟩
  · simp at hcs
    obtain ⟨rfl, rfl, rfl⟩ := hcs
    have hzl : n ≤ m := by rw [hmm]; split <;> omega
    have each : ∀ i, i < n → ∃ q : Int × Int × Int, w.cell? (ad.add (i * 3)) = some (.int .i64 q.1) ∧ w.cell? (ad.add (i * 3 + 1)) = some (.int .i64 q.2.1) ∧ w.cell? (ad.add (i * 3 + 2)) = some (.int .i64 q.2.2) ∧ (Lit.int .i64 q.1).wf = true ∧ (Lit.int .i64 q.2.1).wf = true ∧ (Lit.int .i64 q.2.2).wf = true := by
      intro i hi'
      obtain ⟨cs', h1, h2⟩ := hel i (by omega)
      rw [ce] at h1
      obtain ⟨_, hlen, hcell⟩ := World.cells?_some h1
      obtain ⟨y0, y1, y2, k', _, _, g0, g1, g2⟩ := trod_struct3 he h2
      match cs', hlen with
      | [v0, v1, v2], _ =>
        simp [o0, o1, o2, c0, c1, c2] at g0 g1 g2
        have e0 := hcell 0 (by omega)
        have e1 := hcell 1 (by omega)
        have e2 := hcell 2 (by omega)
        rw [add_add] at e0 e1 e2
        rw [t0] at g0
        rw [t1] at g1
        rw [t2] at g2
        obtain ⟨a, ea, _, wa⟩ := DataW.trod_int hi g0
        obtain ⟨b, eb, _, wb⟩ := DataW.trod_int hi g1
        obtain ⟨d, ed, _, wd⟩ := DataW.trod_int hi g2
        simp at ea eb ed
        subst ea eb ed
        exact ⟨(a, b, d), by simpa using e0, by simpa using e1, by simpa using e2, wa, wb, wd⟩
    obtain ⟨F, hF⟩ : ∃ F : Nat → Int × Int × Int, ∀ i, i < n → w.cell? (ad.add (i * 3)) = some (.int .i64 (F i).1) ∧ w.cell? (ad.add (i * 3 + 1)) = some (.int .i64 (F i).2.1) ∧ w.cell? (ad.add (i * 3 + 2)) = some (.int .i64 (F i).2.2) ∧ (Lit.int .i64 (F i).1).wf = true ∧ (Lit.int .i64 (F i).2.1).wf = true ∧ (Lit.int .i64 (F i).2.2).wf = true :=
      choose_lt each
    refine ⟨(List.range n).map F, ⟨by simp, hl, hm, ⟨by simp [flat_length encTrip_length], fun hn => ⟨ad, rfl, ?_, ?_⟩⟩, fun q hq => ?_⟩⟩
    · have h0 := (hF 0 hn).1
      have := World.block_lt_of_cell? w _ h0
      rwa [block_of_add] at this
    · intro j u hu
      have hj : j < n * 3 := by
        have := (List.getElem?_eq_some_iff.1 hu).1
        rw [flat_length encTrip_length] at this
        simpa using this
      have hjd : j = (j / 3) * 3 + j % 3 := by omega
      have hm2 : j % 3 < 3 := by omega
      have hi' : j / 3 < n := by omega
      rw [hjd] at hu ⊢
      generalize j / 3 = i at *
      generalize j % 3 = s at *
      rw [flat_get encTrip_length _ _ _ hm2] at hu
      simp [hi'] at hu
      obtain ⟨e0, e1, e2, _, _, _⟩ := hF i hi'
      match s, hm2 with
      | 0, _ => simp [encTrip] at hu; rw [← hu]; simpa using e0
      | 1, _ => simp [encTrip] at hu; rw [← hu]; simpa using e1
      | 2, _ => simp [encTrip] at hu; rw [← hu]; simpa using e2
    · obtain ⟨i, hi', rfl⟩ := List.mem_map.1 hq
      obtain ⟨_, _, _, wa, wb, wd⟩ := hF i (by simpa using hi')
      exact ⟨bounds_i64 wa, bounds_i64 wb, bounds_i64 wd⟩

theorem open_slst3i {t e ti : TypeId} {f0 f1 f2 : Field} {v : Value} {d : DataW H} {p : List MemPlace} (ht : P.underlying t = some (.slice e)) (he : P.underlying e = some (.struct #[f0, f1, f2])) (ce : P.cellsOf e = 3)
    (o0 : f0.offset = 0) (o1 : f1.offset = 1) (o2 : f2.offset = 2) (c0 : P.cellsOf f0.type = 1) (c1 : P.cellsOf f1.type = 1) (c2 : P.cellsOf f2.type = 1) (t0 : f0.type = ti) (t1 : f1.type = ti) (t2 : f2.type = ti) (hi : P.underlying ti = some (.int .i64))
    (hv : Value.okWide P w r b0 t v) (h : DataW.Trod enc P w base spare held t v d p) : ∃ (A : Option Addr) (n c : Nat) (zs : List (Int × Int × Int)), v = .slice A n c ∧ TripRow w A n c zs := by
  obtain ⟨A, n, c, rfl⟩ := okWide_slice ht hv
  obtain ⟨fuel, hf⟩ := h
  obtain ⟨zs, hz⟩ := row_of_trips ht he ce o0 o1 o2 c0 c1 c2 t0 t1 t2 hi (show DataW.trod enc P w base spare held fuel t [.slice A n c] = _ from hf)
  exact ⟨A, n, c, zs, rfl, hz⟩

/-- A struct of three integers and a slice of pairs. -/
theorem open_abacus {t ti ts e : TypeId} {f0 f1 f2 f3 g0 g1 : Field} {v : Value} {d : DataW H} {p : List MemPlace} (hs : P.underlying t = some (.struct #[f0, f1, f2, f3])) (hone : oneCellFields P #[f0, f1, f2, f3] = true) (hC : P.cellsOf t = 4)
    (hi : P.underlying ti = some (.int .i64)) (hsl : P.underlying ts = some (.slice e)) (he : P.underlying e = some (.struct #[g0, g1])) (ce : P.cellsOf e = 2) (hc : P.cellsOf ti = 1)
    (o0 : g0.offset = 0) (o1 : g1.offset = 1) (u0 : g0.type = ti) (u1 : g1.type = ti) (t0 : f0.type = ti) (t1 : f1.type = ti) (t2 : f2.type = ti) (t3 : f3.type = ts)
    (hv : Value.okWide P w r b0 t v) (h : DataW.Trod enc P w base spare held t v d p) :
    ∃ (x0 x1 x2 : Int) (A : Option Addr) (n c : Nat) (zs : List (Int × Int)), v = .agg #[.int .i64 x0, .int .i64 x1, .int .i64 x2, .slice A n c] ∧ inI x0 ∧ inI x1 ∧ inI x2 ∧ PairRow w A n c zs := by
  obtain ⟨c0, c1, c2, c3, y0, y1, y2, y3, m, rfl, _, _, r0, r1, r2, r3⟩ := open_agg4 hs hone hC hv h
  rw [t0] at r0
  rw [t1] at r1
  rw [t2] at r2
  rw [t3] at r3
  obtain ⟨x0, e0, _, w0⟩ := DataW.trod_int hi r0
  obtain ⟨x1, e1, _, w1⟩ := DataW.trod_int hi r1
  obtain ⟨x2, e2, _, w2⟩ := DataW.trod_int hi r2
  simp at e0 e1 e2
  subst e0 e1 e2
  obtain ⟨A, n, c, rfl⟩ : ∃ A n c, c3 = .slice A n c := by
    rcases open_slice hsl r3 with ⟨hcs, _⟩ | ⟨ad, l, cp, m, k, D, Pl, hcs, _⟩
    · simp at hcs; exact ⟨_, _, _, hcs⟩
    · simp at hcs; exact ⟨_, _, _, hcs⟩
  obtain ⟨zs, hz⟩ := row_of_pairs hsl he ce o0 o1 (by rw [u0]; exact hc) (by rw [u1]; exact hc) u0 u1 hi r3
  exact ⟨x0, x1, x2, A, n, c, zs, rfl, bounds_i64 w0, bounds_i64 w1, bounds_i64 w2, hz⟩
end
end Go.Proofs.Ytpgifgdoikhpbaa
