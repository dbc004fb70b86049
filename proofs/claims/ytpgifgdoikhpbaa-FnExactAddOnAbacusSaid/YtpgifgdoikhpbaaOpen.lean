/- Arguments opened to what the walks ask: integers in bounds, slices that read as lists, structs with slices. No condition. -/
import Derived.Test.YtpgifgdoikhpbaaWords
import Derived.ProofKit
import Derived.OpenShut
import Derived.Lib.SmallJoins
import Derived.Deep.Slices
import Derived.Deep.SlicePairs
import Derived.Deep.Fields
import Derived.ChangeSame
namespace Go.Proofs.Ytpgifgdoikhpbaa
open Go.ChangeShapes Go.WideShapes Go.ChangeAt Go.RowKit Go.Joins Go.Deep

section
variable {H : Type} {enc : TypeId × Value → H} {P : Program} {w : World} {base : Nat} {spare : Nat → Bool} {held : Bool} {r : Reach} {b0 : Nat}

theorem row_of_ints {t e : TypeId} {fuel : Nat} {A : Option Addr} {n c : Nat} {x : DataW H × List MemPlace} (ht : P.underlying t = some (.slice e)) (he : P.underlying e = some (.int .i64)) (hc : P.cellsOf e = 1)
    (h : DataW.trod enc P w base spare held fuel t [.slice A n c] = some x) : ∃ zs : List Int, IntRow w A n c zs := by
  rcases open_ints ht he hc h with ⟨hcs, _⟩ | ⟨ad, l, cp, zs, hcs, _, hl, hm, hz, _, hcell, hwz⟩
  · simp at hcs
    obtain ⟨rfl, rfl, rfl⟩ := hcs
    exact ⟨[], ⟨rfl, Nat.le_refl _, Nat.zero_le _, Reads.none_, fun x hx => by simp at hx⟩⟩
  · simp at hcs
    obtain ⟨rfl, rfl, rfl⟩ := hcs
    have hzl : n ≤ zs.length := by rw [hz]; split <;> omega
    refine ⟨zs.take n, ⟨by simp [hzl], hl, hm, ⟨by simp [hzl], fun hn => ⟨ad, rfl, ?_, ?_⟩⟩, fun x hx => ?_⟩⟩
    · have h0 := hcell 0 (by omega)
      have := World.block_lt_of_cell? w _ h0
      rwa [block_of_add] at this
    · intro j u hu
      have hj : j < n := by
        have := (List.getElem?_eq_some_iff.1 hu).1
        simp at this
        omega
      rw [hcell j (by omega)]
      rw [← hu]
      simp [hj, List.getD_eq_getElem?_getD]
      rw [List.getElem?_eq_getElem (by omega)]
      simp
    · have := bounds_i64 (hwz x (List.mem_of_mem_take hx))
      exact this

theorem open_slint {t e : TypeId} {v : Value} {d : DataW H} {p : List MemPlace} (ht : P.underlying t = some (.slice e)) (he : P.underlying e = some (.int .i64)) (hc : P.cellsOf e = 1)
    (hv : Value.okWide P w r b0 t v) (h : DataW.Trod enc P w base spare held t v d p) : ∃ (A : Option Addr) (n c : Nat) (zs : List Int), v = .slice A n c ∧ IntRow w A n c zs := by
  obtain ⟨A, n, c, rfl⟩ := okWide_slice ht hv
  obtain ⟨fuel, hf⟩ := h
  obtain ⟨zs, hz⟩ := row_of_ints ht he hc (show DataW.trod enc P w base spare held fuel t [.slice A n c] = _ from hf)
  exact ⟨A, n, c, zs, rfl, hz⟩

/-- A slice of structs of two one-cell integers. -/
theorem row_of_pairs {t e ti : TypeId} {f0 f1 : Field} {fuel : Nat} {A : Option Addr} {n c : Nat} {x : DataW H × List MemPlace} (ht : P.underlying t = some (.slice e)) (he : P.underlying e = some (.struct #[f0, f1]))
    (ce : P.cellsOf e = 2) (o0 : f0.offset = 0) (o1 : f1.offset = 1) (c0 : P.cellsOf f0.type = 1) (c1 : P.cellsOf f1.type = 1) (t0 : f0.type = ti) (t1 : f1.type = ti) (hi : P.underlying ti = some (.int .i64))
    (h : DataW.trod enc P w base spare held fuel t [.slice A n c] = some x) : ∃ zs : List (Int × Int), PairRow w A n c zs := by
  rcases open_slice_pairs ht he ce o0 o1 c0 c1 h with ⟨hcs, _⟩ | ⟨ad, l, cp, m, k, V0, V1, D0, D1, P0, P1, hcs, _, hl, hm, hmm, _, hel⟩
  · simp at hcs
    obtain ⟨rfl, rfl, rfl⟩ := hcs
    exact ⟨[], ⟨rfl, Nat.le_refl _, Nat.zero_le _, Reads.none_, fun x hx => by simp at hx⟩⟩
  · simp at hcs
    obtain ⟨rfl, rfl, rfl⟩ := hcs
    have hzl : n ≤ m := by rw [hmm]; split <;> omega
    have each : ∀ i, i < n → ∃ q : Int × Int, w.cell? (ad.add (i * 2)) = some (.int .i64 q.1) ∧ w.cell? (ad.add (i * 2 + 1)) = some (.int .i64 q.2) ∧ (Lit.int .i64 q.1).wf = true ∧ (Lit.int .i64 q.2).wf = true := by
      intro i hi'
      obtain ⟨h0, h1, h2, h3⟩ := hel i (by omega)
      subst t0
      rw [t1] at h3
      obtain ⟨a, ea, _, wa⟩ := DataW.trod_int hi h2
      obtain ⟨b, eb, _, wb⟩ := DataW.trod_int hi h3
      simp at ea eb
      exact ⟨(a, b), by rw [h0, ea], by rw [h1, eb], wa, wb⟩
    obtain ⟨F, hF⟩ : ∃ F : Nat → Int × Int, ∀ i, i < n → w.cell? (ad.add (i * 2)) = some (.int .i64 (F i).1) ∧ w.cell? (ad.add (i * 2 + 1)) = some (.int .i64 (F i).2) ∧ (Lit.int .i64 (F i).1).wf = true ∧ (Lit.int .i64 (F i).2).wf = true :=
      choose_lt each
    refine ⟨(List.range n).map F, ⟨by simp, hl, hm, ⟨by simp [flat_length encPair_length], fun hn => ⟨ad, rfl, ?_, ?_⟩⟩, fun q hq => ?_⟩⟩
    · have h0 := (hF 0 hn).1
      have := World.block_lt_of_cell? w _ h0
      rwa [block_of_add] at this
    · intro j u hu
      have hj : j < n * 2 := by
        have := (List.getElem?_eq_some_iff.1 hu).1
        rw [flat_length encPair_length] at this
        simpa using this
      have hjd : j = (j / 2) * 2 + j % 2 := by omega
      have hm2 : j % 2 < 2 := by omega
      have hi' : j / 2 < n := by omega
      rw [hjd] at hu ⊢
      generalize j / 2 = i at *
      generalize j % 2 = s at *
      rw [flat_get encPair_length _ _ _ hm2] at hu
      simp [hi'] at hu
      obtain ⟨e0, e1, _, _⟩ := hF i hi'
      match s, hm2 with
      | 0, _ => simp [encPair] at hu; rw [← hu]; simpa using e0
      | 1, _ => simp [encPair] at hu; rw [← hu]; simpa using e1
    · obtain ⟨i, hi', rfl⟩ := List.mem_map.1 hq
      obtain ⟨_, _, wa, wb⟩ := hF i (by simpa using hi')
      exact ⟨bounds_i64 wa, bounds_i64 wb⟩

theorem open_slst2i {t e ti : TypeId} {f0 f1 : Field} {v : Value} {d : DataW H} {p : List MemPlace} (ht : P.underlying t = some (.slice e)) (he : P.underlying e = some (.struct #[f0, f1])) (ce : P.cellsOf e = 2)
    (o0 : f0.offset = 0) (o1 : f1.offset = 1) (c0 : P.cellsOf f0.type = 1) (c1 : P.cellsOf f1.type = 1) (t0 : f0.type = ti) (t1 : f1.type = ti) (hi : P.underlying ti = some (.int .i64))
    (hv : Value.okWide P w r b0 t v) (h : DataW.Trod enc P w base spare held t v d p) : ∃ (A : Option Addr) (n c : Nat) (zs : List (Int × Int)), v = .slice A n c ∧ PairRow w A n c zs := by
  obtain ⟨A, n, c, rfl⟩ := okWide_slice ht hv
  obtain ⟨fuel, hf⟩ := h
  obtain ⟨zs, hz⟩ := row_of_pairs ht he ce o0 o1 c0 c1 t0 t1 hi (show DataW.trod enc P w base spare held fuel t [.slice A n c] = _ from hf)
  exact ⟨A, n, c, zs, rfl, hz⟩

theorem open_reg {t ti ts : TypeId} {f0 f1 : Field} {v : Value} {d : DataW H} {p : List MemPlace} (hs : P.underlying t = some (.struct #[f0, f1])) (hone : oneCellFields P #[f0, f1] = true) (hC : P.cellsOf t = 2)
    (hi : P.underlying ti = some (.int .i64)) (hsl : P.underlying ts = some (.slice ti)) (hc : P.cellsOf ti = 1) (t0 : f0.type = ti) (t1 : f1.type = ts)
    (hv : Value.okWide P w r b0 t v) (h : DataW.Trod enc P w base spare held t v d p) :
    ∃ (b : Int) (A : Option Addr) (n c : Nat) (zs : List Int), v = .agg #[.int .i64 b, .slice A n c] ∧ (-9223372036854775808 ≤ b ∧ b ≤ 9223372036854775807) ∧ IntRow w A n c zs := by
  obtain ⟨c0, c1, y0, y1, m, rfl, _, _, g0, g1⟩ := open_agg2 hs hone hC hv h
  rw [t0] at g0
  rw [t1] at g1
  obtain ⟨b, e0, _, wb⟩ := DataW.trod_int hi g0
  simp at e0
  subst e0
  obtain ⟨A, n, c, rfl⟩ : ∃ A n c, c1 = .slice A n c := by
    rcases open_ints hsl hi hc g1 with ⟨hcs, _⟩ | ⟨ad, l, cp, zs, hcs, _⟩
    · simp at hcs; exact ⟨_, _, _, hcs⟩
    · simp at hcs; exact ⟨_, _, _, hcs⟩
  obtain ⟨zs, hz⟩ := row_of_ints hsl hi hc g1
  exact ⟨b, A, n, c, zs, rfl, bounds_i64 wb, hz⟩

theorem open_chain {t ti ts : TypeId} {f0 f1 : Field} {v : Value} {d : DataW H} {p : List MemPlace} (hs : P.underlying t = some (.struct #[f0, f1])) (hone : oneCellFields P #[f0, f1] = true) (hC : P.cellsOf t = 2)
    (hi : P.underlying ti = some (.int .i64)) (hsl : P.underlying ts = some (.slice ti)) (hc : P.cellsOf ti = 1) (t0 : f0.type = ts) (t1 : f1.type = ts)
    (hv : Value.okWide P w r b0 t v) (h : DataW.Trod enc P w base spare held t v d p) :
    ∃ (A : Option Addr) (n c : Nat) (zs : List Int) (A' : Option Addr) (n' c' : Nat) (zs' : List Int), v = .agg #[.slice A n c, .slice A' n' c'] ∧ IntRow w A n c zs ∧ IntRow w A' n' c' zs' := by
  obtain ⟨c0, c1, y0, y1, m, rfl, _, _, g0, g1⟩ := open_agg2 hs hone hC hv h
  rw [t0] at g0
  rw [t1] at g1
  have form : ∀ (c1 : Value) (y1 : DataW H × List MemPlace), DataW.trod enc P w base spare held m ts [c1] = some y1 → ∃ A n c, c1 = .slice A n c := by
    intro c1 y1 g1
    rcases open_ints hsl hi hc g1 with ⟨hcs, _⟩ | ⟨ad, l, cp, zs, hcs, _⟩
    · simp at hcs; exact ⟨_, _, _, hcs⟩
    · simp at hcs; exact ⟨_, _, _, hcs⟩
  obtain ⟨A, n, c, rfl⟩ := form _ _ g0
  obtain ⟨A', n', c', rfl⟩ := form _ _ g1
  obtain ⟨zs, hz⟩ := row_of_ints hsl hi hc g0
  obtain ⟨zs', hz'⟩ := row_of_ints hsl hi hc g1
  exact ⟨A, n, c, zs, A', n', c', zs', rfl, hz, hz'⟩
end
end Go.Proofs.Ytpgifgdoikhpbaa
