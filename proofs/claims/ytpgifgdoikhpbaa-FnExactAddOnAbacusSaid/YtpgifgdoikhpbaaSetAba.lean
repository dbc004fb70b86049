/- Abaci: an abacus of its own, set to a value. No condition. -/
import Derived.Test.YtpgifgdoikhpbaaPlain
namespace Go.Proofs.Ytpgifgdoikhpbaa
open Go.RowKit

theorem eltRod : Elt Try.prog 27 69 2 := by
  obtain ⟨i0, hi, hz0, hz1, hz2⟩ := info_parts infoRod
  exact ⟨i0, _, _, Try.underlying27, hi, hz0, hz1, hz2, rfl, by decide, by decide⟩
theorem blk_new {w : World} {t : TypeId} {cs : Array Value} {g : Nat} (hg : g = w.heap.size) : Blk (w.alloc (.cells cs t)) g t cs := by subst hg; exact Blk.new _ _ _

set_option maxHeartbeats 1600000 in
theorem sOwnA {u o t : Int} {A : Option Addr} {n c : Nat} {xs : List (Int × Int)} {g : Nat} (w : World) (h : Reads w w.heap.size 2 A n (flat encPair xs)) (hl : xs.length = n) (hm : n ≤ maxLen) (c0 : w.cell? ⟨g, 0, none⟩ = some (.int .i64 u)) (c1 : w.cell? ⟨g, 1, none⟩ = some (.int .i64 o)) (c2 : w.cell? ⟨g, 2, none⟩ = some (.int .i64 t)) (c3 : w.cell? ⟨g, 3, none⟩ = some (.slice A n c)) (hn : 1 ≤ n) (hn' : n ≤ 1000) :
    Calls Try.prog 61 #[.pointer (some ⟨g, 0, none⟩)] w (RetAba w u o t n (flat encPair xs)) := by
  obtain ⟨b, off, rfl, hbb, hc⟩ := h.lits (by decide) hn
  have r1 := h.1
  have hg := World.block_lt_of_cell? _ _ c0
  have HC := Lib.hid hc; clear hc
  have HL := Lib.hid hl; have HR := Lib.hid r1; clear hl r1
  go_enter Try.func61, Try.ntmps61
  have x0 := fun X Y Z : Obj => cellA (cellA (cellA c3 X) Y) Z
  have x1 := fun X Y : Obj => cellA (cellA c3 X) Y
  go_wp2_with (first
    | (at_builtin
       refine wpList_appN rfl (.tmp 7) (.tmp 11) rfl eltRod rfl ((blk_new (by first | omega | (simp; done) | (simp; omega))).own (n := 0) (Nat.zero_le _) rfl) rfl HR.out (fun j u hu => by rw [Addr.add_lit]; exact cellA (cellA (cellA (HC.out j u hu) _) _) _) (flat_one encPair_one _) (by omega) (by omega) (by first | omega | (simp; done) | (simp; omega)) ?_
       intro A3 k3 w3 ho3 ht3
       try simp only [Nat.zero_add, List.nil_append] at ho3
       have hz3 := ht3.size
       try simp at hz3
       have bR : Blk w3 w.heap.size 29 #[.int .i64 0, .int .i64 0, .int .i64 0, .slice none 0 0] := Blk.touch (((Blk.new w _ _).alloc _).alloc _) ht3 (.inl (by first | omega | (simp; done) | (simp; omega)))
       have bO : Blk w3 (w.heap.size + 1) 29 #[.int .i64 u, .int .i64 o, .int .i64 t, .slice (some ⟨b, off, none⟩) n c] := Blk.touch ((blk_new (by first | omega | (simp; done) | (simp; omega))).alloc _) ht3 (.inl (by first | omega | (simp; done) | (simp; omega)))
       have fR := bR.frozen; have fO := bO.frozen
       have d0 := bR.cell 0; have d1 := bR.cell 1; have d2 := bR.cell 2; have d3 := bR.cell 3; have e0 := bO.cell 0; have e1 := bO.cell 1; have e2 := bO.cell 2; have e3 := bO.cell 3; (try simp at d0 d1 d2 d3); (try simp at e0 e1 e2 e3)
       have HB : Hid (Below w.heap.size w w3) := Touch.below (by repeat' (first | assumption | exact Below.refl _ _ | refine Below.drew ?_ | refine belN ?_ _ | refine Below.alloc ?_ (by first | omega | (simp; done) | (simp; omega)) _ | refine Below.setCell ?_ (by first | omega | (simp; done) | (simp; omega)) _)) ht3 (by first | omega | (simp; done) | (simp; omega)) (by first | omega | (simp; done) | (simp; omega))))
  refine bodyPost_ret (v := .agg #[.int .i64 u, .int .i64 o, .int .i64 t, .slice A3 n k3]) (by simp [results, Try.results61, go_sem, d0, d1, d2, d3]) rfl ⟨_, rfl, ?_, ?_⟩
  · exact (((((ho3.setLow (.inl (by first | omega | (simp; done) | (simp; omega))) _).setLow (.inl (by first | omega | (simp; done) | (simp; omega))) _).setLow (.inl (by first | omega | (simp; done) | (simp; omega))) _).setLow (.inl (by first | omega | (simp; done) | (simp; omega))) _).setLow (.inl (by first | omega | (simp; done) | (simp; omega))) _).more (by first | omega | (simp; done) | (simp; omega)) (by first | omega | (simp; done) | (simp; omega))
  · exact ((((HB.out.setCell (by first | omega | (simp; done) | (simp; omega)) _).setCell (by first | omega | (simp; done) | (simp; omega)) _).setCell (by first | omega | (simp; done) | (simp; omega)) _).setCell (by first | omega | (simp; done) | (simp; omega)) _).setCell (by first | omega | (simp; done) | (simp; omega)) _

set_option maxHeartbeats 1600000 in
theorem iWith {u o t : Int} {A : Option Addr} {n c : Nat} {xs : List (Int × Int)} {s : Value} (w : World) (h : Reads w w.heap.size 2 A n (flat encPair xs)) (hl : xs.length = n) (hs : s.oneCell' = true) (hn : 1 ≤ n) (hn' : n ≤ 1000) :
    Calls Try.prog 71 #[.agg #[.int .i64 u, .int .i64 o, .int .i64 t, s], .slice A n c] w (RetAba w u o t n (flat encPair xs)) := by
  obtain ⟨b, off, rfl, hbb, hc⟩ := h.lits (by decide) hn
  have r1 := h.1
  have HC := Lib.hid hc; clear hc
  have HL := Lib.hid hl; have HR := Lib.hid r1; clear hl r1
  go_enter Try.func71, Try.ntmps71
  go_wp2_with (first
    | (at_builtin
       refine wpList_appN rfl (.tmp 5) (.tmp 6) rfl eltRod rfl ((blk_new (by first | omega | (simp; done) | (simp; omega))).own (n := 0) (Nat.zero_le _) rfl) rfl HR.out (fun j u hu => by rw [Addr.add_lit]; exact cellA (cellA (cellA (HC.out j u hu) _) _) _) (flat_one encPair_one _) (by omega) (by omega) (by first | omega | (simp; done) | (simp; omega)) ?_
       intro A3 k3 w3 ho3 ht3
       try simp only [Nat.zero_add, List.nil_append] at ho3
       have hz3 := ht3.size
       try simp at hz3
       have bO : Blk w3 w.heap.size 29 #[.int .i64 u, .int .i64 o, .int .i64 t, s] := Blk.touch (((Blk.new w _ _).alloc _).alloc _) ht3 (.inl (by first | omega | (simp; done) | (simp; omega)))
       have bR : Blk w3 (w.heap.size + 1) 29 #[.int .i64 0, .int .i64 0, .int .i64 0, .slice none 0 0] := Blk.touch ((blk_new (by first | omega | (simp; done) | (simp; omega))).alloc _) ht3 (.inl (by first | omega | (simp; done) | (simp; omega)))
       have fR := bR.frozen; have fO := bO.frozen
       have d0 := bR.cell 0; have d1 := bR.cell 1; have d2 := bR.cell 2; have d3 := bR.cell 3; have e0 := bO.cell 0; have e1 := bO.cell 1; have e2 := bO.cell 2; have e3 := bO.cell 3; (try simp at d0 d1 d2 d3); (try simp at e0 e1 e2 e3)
       have HB : Hid (Below w.heap.size w w3) := Touch.below (by repeat' (first | assumption | exact Below.refl _ _ | refine Below.drew ?_ | refine belN ?_ _ | refine Below.alloc ?_ (by first | omega | (simp; done) | (simp; omega)) _ | refine Below.setCell ?_ (by first | omega | (simp; done) | (simp; omega)) _)) ht3 (by first | omega | (simp; done) | (simp; omega)) (by first | omega | (simp; done) | (simp; omega))))
  refine bodyPost_ret (v := .agg #[.int .i64 u, .int .i64 o, .int .i64 t, .slice A3 n k3]) (by simp [results, Try.results71, go_sem, d0, d1, d2, d3]) rfl ⟨_, rfl, ?_, ?_⟩
  · exact (((((ho3.setLow (.inl (by first | omega | (simp; done) | (simp; omega))) _).setLow (.inl (by first | omega | (simp; done) | (simp; omega))) _).setLow (.inl (by first | omega | (simp; done) | (simp; omega))) _).setLow (.inl (by first | omega | (simp; done) | (simp; omega))) _).setLow (.inl (by first | omega | (simp; done) | (simp; omega))) _).more (by first | omega | (simp; done) | (simp; omega)) (by first | omega | (simp; done) | (simp; omega))
  · exact ((((HB.out.setCell (by first | omega | (simp; done) | (simp; omega)) _).setCell (by first | omega | (simp; done) | (simp; omega)) _).setCell (by first | omega | (simp; done) | (simp; omega)) _).setCell (by first | omega | (simp; done) | (simp; omega)) _).setCell (by first | omega | (simp; done) | (simp; omega)) _

theorem flat_set {xs : List (Int × Int)} {k : Nat} (p : Int × Int) : ((flat encPair xs).set (k * 2) (.int .i64 p.1)).set (k * 2 + 1) (.int .i64 p.2) = flat encPair (xs.set k p) := by
  induction xs generalizing k with
  | nil => simp [flat]
  | cons x xs ih =>
    cases k with
    | zero => simp [flat, encPair]
    | succ k =>
      have := ih (k := k)
      simp only [flat, List.flatMap_cons, List.set_cons_succ] at this ⊢
      rw [← this]
      rw [show (k + 1) * 2 = (k * 2 + 1) + 1 by omega]
      simp [encPair]
theorem plL_snoc (u t : Int) : ∀ (n : Nat) (v : Int), plL u t (n + 1) v = plL u t n v ++ [plD u t (rest10 n v % 10)]
  | 0, _ => rfl
  | n + 1, v => by
    rw [plL, plL_snoc u t n (v / 10)]
    rfl
theorem set_step {u t v : Int} {k n : Nat} {xs : List (Int × Int)} (hl : xs.length = n) (hk : k < n) :
    ((flat encPair (plL u t k v ++ xs.drop k)).set (k * 2) (.int .i64 (plD u t (rest10 k v % 10)).1)).set (k * 2 + 1) (.int .i64 (plD u t (rest10 k v % 10)).2) = flat encPair (plL u t (k + 1) v ++ xs.drop (k + 1)) := by
  rw [flat_set, set_mid (plL_length u t k v) (by omega), plL_snoc]

/-- An abacus of its own, and a value. -/
def RetAV (w : World) (u o t : Int) (n : Nat) (xs : List Value) (r : Value) (x : Ending) (w' : World) : Prop := ∃ v, x = .returned (.tuple #[.agg #[.int .i64 u, .int .i64 o, .int .i64 t, v], r]) ∧ Own w' w.heap.size w'.heap.size 69 2 v n xs ∧ Below w.heap.size w w'
set_option maxRecDepth 100000 in
set_option maxHeartbeats 3200000 in
theorem sSet {u o t : Int} {A : Option Addr} {n c : Nat} {xs : List (Int × Int)} {g : Nat} {v : Int} (w : World) (h : Reads w w.heap.size 2 A n (flat encPair xs)) (hl : xs.length = n) (hm : n ≤ maxLen) (c0 : w.cell? ⟨g, 0, none⟩ = some (.int .i64 u)) (c1 : w.cell? ⟨g, 1, none⟩ = some (.int .i64 o)) (c2 : w.cell? ⟨g, 2, none⟩ = some (.int .i64 t)) (c3 : w.cell? ⟨g, 3, none⟩ = some (.slice A n c)) (hn : 1 ≤ n) (hn' : n ≤ 10) (ku : 0 ≤ u ∧ u ≤ 4) (kt : 1 ≤ t ∧ t ≤ 10) (v0 : 0 ≤ v) (v1 : v ≤ 1000000000000) :
    Calls Try.prog 66 #[.pointer (some ⟨g, 0, none⟩), .int .i64 v] w (RetAV w u o t n (flat encPair (plL u t n v)) (.bool (rest10 n v == 0))) := by
  have hm0 := Lib.hid hm
  have HL := Lib.hid hl; clear hl
  have hg := World.block_lt_of_cell? _ _ c0
  go_enter Try.func66, Try.ntmps66
  go_wp2_with fail
  refine absW ?_
  intro w0 hw
  have hb0 : Below w.heap.size w w0 := by rw [hw]; exact (by repeat' (first | assumption | exact Below.refl _ _ | refine Below.drew ?_ | refine belN ?_ _ | refine Below.alloc ?_ (by first | omega | (simp; done) | (simp; omega)) _ | refine Below.setCell ?_ (by first | omega | (simp; done) | (simp; omega)) _))
  have bR : Blk w0 w.heap.size 29 #[.int .i64 0, .int .i64 0, .int .i64 0, .slice none 0 0] := by rw [hw]; exact Blk.new _ _ _
  have z0 := bR.lt
  clear hw
  refine (sOwnA _ (rdB h hb0) HL.out hm0.out (cellB c0 hb0) (cellB c1 hb0) (cellB c2 hb0) (cellB c3 hb0) hn (by omega)).mono ?_
  rintro e w1 ⟨s, rfl, ho, hb⟩
  obtain ⟨A1, k1, rfl, _, _⟩ := ho.form
  replace bR := bR.bel hb
  replace hb0 := bel2 hb0 hb
  have z1 := hb.size
  clear hb
  go_wp2
  go_loopw [1, 7] (fun y i wr => ∃ k : Nat, k ≤ n ∧ i = .int .i64 k ∧ y = .int .i64 (rest10 k v) ∧ Blk wr w.heap.size 29 #[.int .i64 0, .int .i64 0, .int .i64 0, .slice none 0 0] ∧ Blk wr w1.heap.size 29 #[.int .i64 u, .int .i64 o, .int .i64 t, .slice A1 n k1] ∧ Own wr w0.heap.size w1.heap.size 69 2 (.slice A1 n k1) n (flat encPair (plL u t k v ++ xs.drop k)) ∧ Below w.heap.size w wr) (fun _ i _ => n - (intOf i).toNat)
  case atStart => exact ⟨0, Nat.zero_le _, rfl, rfl, bR.alloc _, Blk.new _ _ _, by simpa [plL] using ho.alloc _, hb0.alloc (by omega) _⟩
  case round =>
    obtain ⟨k, hk, rfl, rfl, hR, hO, ho, hB⟩ := hrel
    obtain ⟨q0, q1⟩ := rest10_bd k v v0
    have d0 := hR.cell 0; have d1 := hR.cell 1; have d2 := hR.cell 2; have d3 := hR.cell 3; have fR := hR.frozen
    have e0 := hO.cell 0; have e1 := hO.cell 1; have e2 := hO.cell 2; have e3 := hO.cell 3
    simp at d0 d1 d2 d3 e0 e1 e2 e3
    have zO := hO.lt
    by_cases hlt : k < n
    · obtain ⟨g1, rfl, hlo, hhi, hgs, hcell, hfz⟩ := ho.at_ (by omega)
      have hlen := ho.row.1
      obtain ⟨p0, hp0⟩ : ∃ p, wr.cell? ⟨g1, k * 2, none⟩ = some p := ⟨_, (hcell (k * 2) (by omega)).trans (List.getElem?_eq_getElem (by rw [hlen]; omega))⟩
      obtain ⟨p1, hp1⟩ : ∃ p, wr.cell? ⟨g1, k * 2 + 1, none⟩ = some p := ⟨_, (hcell (k * 2 + 1) (by omega)).trans (List.getElem?_eq_getElem (by rw [hlen]; omega))⟩
      clear hcell hlen
      have m0 : 0 ≤ rest10 k v % 10 := by omega
      have m1 : rest10 k v % 10 ≤ 9 := by omega
      have T1 : (rest10 k v).tmod 10 = rest10 k v % 10 := Int.tmod_eq_emod_of_nonneg q0
      have a0 := cellB c0 hB; have a2 := cellB c2 hB
      have HC := Lib.hid (fun (W : World) (hW : Below w.heap.size w W) => sDigit (u := u) (t := t) W (cellB c0 hW) (cellB c2 hW) ku kt m0 m1)
      have HS := Lib.hid (set_step (u := u) (t := t) (v := v) HL.out hlt)
      have RS := Lib.hid (rest10_succ k v)
      have ki0 : (0 : Int) ≤ (k : Int) := Int.natCast_nonneg _
      have ki1 : (k : Int) < (n : Int) := by omega
      go_wp2_with fail
      go_region_with ((go_at_call 85; refine (HC.out _ (hB.drew)).mono ?_; rintro e w2 ⟨rfl, hb2⟩; have hbx : Below wr.heap.size wr w2 := ((Below.refl _ _).drew).trans hb2; clear hb2; have x3 := cellB e3 hbx; have xp0 := cellB hp0 hbx; have xp1 := cellB hp1 hbx; have xfz := (ho.bel hbx).row.frozenAt))
      all_goals
        have hR2 := ((hR.bel hbx).far (p := ⟨g1, k * 2, none⟩) (by show w.heap.size ≠ g1; omega) (.int .i64 (plD u t (rest10 k v % 10)).1)).far (p := ⟨g1, k * 2 + 1, none⟩) (by show w.heap.size ≠ g1; omega) (.int .i64 (plD u t (rest10 k v % 10)).2)
        have hO2 := ((hO.bel hbx).far (p := ⟨g1, k * 2, none⟩) (by show w1.heap.size ≠ g1; omega) (.int .i64 (plD u t (rest10 k v % 10)).1)).far (p := ⟨g1, k * 2 + 1, none⟩) (by show w1.heap.size ≠ g1; omega) (.int .i64 (plD u t (rest10 k v % 10)).2)
        have ho2 := ((ho.bel hbx).stored (k * 2) (.int .i64 (plD u t (rest10 k v % 10)).1)).stored (k * 2 + 1) (.int .i64 (plD u t (rest10 k v % 10)).2)
        have hB2 := ((bel2 hB hbx).setCell (p := ⟨g1, k * 2, none⟩) (by show w.heap.size ≤ g1; omega) (.int .i64 (plD u t (rest10 k v % 10)).1)).setCell (p := ⟨g1, k * 2 + 1, none⟩) (by show w.heap.size ≤ g1; omega) (.int .i64 (plD u t (rest10 k v % 10)).2)
        rw [HS.out] at ho2
        clear T1 x3 xp0 xp1 xfz hbx
        go_wp2
        go_roundw
        case rel => exact ⟨k + 1, by omega, by go_num, by rw [RS.out], hR2, hO2, ho2, hB2⟩
        case measure => simp [intOf]; omega
    · obtain rfl : k = n := by omega
      have HD : Hid (xs.drop k = []) := List.drop_of_length_le (by rw [HL.out]; exact Nat.le_refl _)
      rw [HD.out, List.append_nil] at ho
      have hz := hB.size
      go_wp2
      refine bodyPost_ret (v := .tuple #[.agg #[.int .i64 u, .int .i64 o, .int .i64 t, .slice A1 k k1], .bool (rest10 k v == 0)]) (by simp [results, Try.results66, go_sem, d0, d1, d2, d3]) rfl ⟨_, rfl, ?_, ?_⟩
      · exact ((((ho.setLow (.inl (by first | omega | (simp; done) | (simp; omega))) _).setLow (.inl (by first | omega | (simp; done) | (simp; omega))) _).setLow (.inl (by first | omega | (simp; done) | (simp; omega))) _).setLow (.inl (by first | omega | (simp; done) | (simp; omega))) _).more (by first | omega | (simp; done) | (simp; omega)) (by first | omega | (simp; done) | (simp; omega))
      · exact (((hB.setCell (by first | omega | (simp; done) | (simp; omega)) _).setCell (by first | omega | (simp; done) | (simp; omega)) _).setCell (by first | omega | (simp; done) | (simp; omega)) _).setCell (by first | omega | (simp; done) | (simp; omega)) _
end Go.Proofs.Ytpgifgdoikhpbaa
