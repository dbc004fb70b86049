/- Slices of pairs of Bools opened. No condition. -/
import Derived.Test.YthpaampkpajdfaaOpen
import Derived.ProofKit
import Derived.OpenShut
import Derived.Lib.SmallJoins
import Derived.Deep.Slices
import Derived.Deep.SlicePairs
import Derived.Deep.Fields
import Derived.ChangeSame
namespace Go.Proofs.Ythpaampkpajdfaa
open Go.ChangeShapes Go.WideShapes Go.ChangeAt Go.RowKit Go.Joins Go.Deep

section
variable {H : Type} {enc : TypeId × Value → H} {P : Program} {w : World} {base : Nat} {spare : Nat → Bool} {held : Bool} {r : Reach} {b0 : Nat}

/-- A slice of structs of two Bools. -/
theorem row_of_sigs {t e ti : TypeId} {f0 f1 : Field} {fuel : Nat} {A : Option Addr} {n c : Nat} {x : DataW H × List MemPlace} (ht : P.underlying t = some (.slice e)) (he : P.underlying e = some (.struct #[f0, f1]))
    (ce : P.cellsOf e = 2) (o0 : f0.offset = 0) (o1 : f1.offset = 1) (c0 : P.cellsOf f0.type = 1) (c1 : P.cellsOf f1.type = 1) (t0 : f0.type = ti) (t1 : f1.type = ti) (hi : P.underlying ti = some .bool)
    (h : DataW.trod enc P w base spare held fuel t [.slice A n c] = some x) : ∃ zs : List (Bool × Bool), SigRow w A n c zs := by
  rcases open_slice_pairs ht he ce o0 o1 c0 c1 h with ⟨hcs, _⟩ | ⟨ad, l, cp, m, k, V0, V1, D0, D1, P0, P1, hcs, _, hl, hm, hmm, _, hel⟩
  · simp at hcs
    obtain ⟨rfl, rfl, rfl⟩ := hcs
    exact ⟨[], ⟨rfl, Nat.le_refl _, Nat.zero_le _, Reads.none_⟩⟩
  · simp at hcs
    obtain ⟨rfl, rfl, rfl⟩ := hcs
    have hzl : n ≤ m := by rw [hmm]; split <;> omega
    have each : ∀ i, i < n → ∃ q : Bool × Bool, w.cell? (ad.add (i * 2)) = some (.bool q.1) ∧ w.cell? (ad.add (i * 2 + 1)) = some (.bool q.2) := by
      intro i hi'
      obtain ⟨h0, h1, h2, h3⟩ := hel i (by omega)
      subst t0
      rw [t1] at h3
      obtain ⟨a, ea, _⟩ := DataW.trod_bool hi h2
      obtain ⟨b, eb, _⟩ := DataW.trod_bool hi h3
      simp at ea eb
      exact ⟨(a, b), by rw [h0, ea], by rw [h1, eb]⟩
    obtain ⟨F, hF⟩ : ∃ F : Nat → Bool × Bool, ∀ i, i < n → w.cell? (ad.add (i * 2)) = some (.bool (F i).1) ∧ w.cell? (ad.add (i * 2 + 1)) = some (.bool (F i).2) :=
      choose_lt each
    refine ⟨(List.range n).map F, ⟨by simp, hl, hm, ⟨by simp [flat_length encSig_length], fun hn => ⟨ad, rfl, ?_, ?_⟩⟩⟩⟩
    · have h0 := (hF 0 hn).1
      have := World.block_lt_of_cell? w _ h0
      rwa [block_of_add] at this
    · intro j u hu
      have hj : j < n * 2 := by
        have := (List.getElem?_eq_some_iff.1 hu).1
        rw [flat_length encSig_length] at this
        simpa using this
      have hjd : j = (j / 2) * 2 + j % 2 := by omega
      have hm2 : j % 2 < 2 := by omega
      have hi' : j / 2 < n := by omega
      rw [hjd] at hu ⊢
      generalize j / 2 = i at *
      generalize j % 2 = s at *
      rw [flat_get encSig_length _ _ _ hm2] at hu
      simp [hi'] at hu
      obtain ⟨e0, e1⟩ := hF i hi'
      match s, hm2 with
      | 0, _ => simp [encSig] at hu; rw [← hu]; simpa using e0
      | 1, _ => simp [encSig] at hu; rw [← hu]; simpa using e1

theorem open_slst2b {t e ti : TypeId} {f0 f1 : Field} {v : Value} {d : DataW H} {p : List MemPlace} (ht : P.underlying t = some (.slice e)) (he : P.underlying e = some (.struct #[f0, f1])) (ce : P.cellsOf e = 2)
    (o0 : f0.offset = 0) (o1 : f1.offset = 1) (c0 : P.cellsOf f0.type = 1) (c1 : P.cellsOf f1.type = 1) (t0 : f0.type = ti) (t1 : f1.type = ti) (hi : P.underlying ti = some .bool)
    (hv : Value.okWide P w r b0 t v) (h : DataW.Trod enc P w base spare held t v d p) : ∃ (A : Option Addr) (n c : Nat) (zs : List (Bool × Bool)), v = .slice A n c ∧ SigRow w A n c zs := by
  obtain ⟨A, n, c, rfl⟩ := okWide_slice ht hv
  obtain ⟨fuel, hf⟩ := h
  obtain ⟨zs, hz⟩ := row_of_sigs ht he ce o0 o1 c0 c1 t0 t1 hi (show DataW.trod enc P w base spare held fuel t [.slice A n c] = _ from hf)
  exact ⟨A, n, c, zs, rfl, hz⟩

end
end Go.Proofs.Ythpaampkpajdfaa
