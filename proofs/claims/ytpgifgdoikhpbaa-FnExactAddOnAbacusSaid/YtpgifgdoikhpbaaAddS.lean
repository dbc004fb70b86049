/- Adding a digit on an abacus, on the side of the reference. No condition. -/
import Derived.Test.YtpgifgdoikhpbaaAddP
import Derived.Test.YtpgifgdoikhpbaaRgC
import Derived.StillTailTactics
import Derived.Deep.RegionLaw
namespace Go.Proofs.Ytpgifgdoikhpbaa
open Go.RowKit

theorem Own.setBx {w : World} {lo hi : Nat} {e : TypeId} {size n : Nat} {v : Value} {xs : List Value} {g : Nat} {t : TypeId} {cs : Array Value} (h : Own w lo hi e size v n xs) (hb : Blk w g t cs) (hne : e ≠ t) (j : Nat) (u : Value) : Own (w.setCell ⟨g, j, none⟩ u) lo hi e size v n xs := by
  refine ⟨⟨h.row.1, ?_⟩, h.top⟩
  rcases h.row.2 with hn | ⟨g', cap, cur, rfl, hb', hg, rest⟩
  · exact .inl hn
  · have hgg : g' ≠ g := by
      rintro rfl
      exact Blk.ne_ (t := e) hg hb hne rfl
    exact .inr ⟨g', cap, cur, rfl, hb', (Below.heap_setCell _ _ _ _ hgg).trans hg, rest⟩
def AddPost (w : World) (lo mid g : Nat) (u o t : Int) (A : Option Addr) (n c : Nat) (R : Bool × List (Int × Int) × List (Int × Int × Int)) (M : Nat) (e : Ending) (w' : World) : Prop :=
  ∃ (AM : Option Addr) (m cm : Nat), e = .returned (.bool R.1) ∧ m ≤ M ∧ R.2.2.length = m ∧ Blk w' g 89 #[.int .i64 u, .int .i64 o, .int .i64 t, .slice A n c, .slice AM m cm] ∧
    Own w' lo mid 69 2 (.slice A n c) n (flat encPair R.2.1) ∧ Own w' mid w'.heap.size 41 3 (.slice AM m cm) m (flat encTrip R.2.2) ∧ Below lo w w' ∧ Keep w w'
theorem add_flat (ms : List (Int × Int × Int)) (x : Int × Int × Int) : flat encTrip (ms ++ [x]) = flat encTrip ms ++ [.int .i64 x.1, .int .i64 x.2.1, .int .i64 x.2.2] := by rw [flat_append]; rfl
set_option maxRecDepth 100000 in
set_option maxHeartbeats 6400000 in
theorem sAdd {u o t : Int} {A : Option Addr} {n c lo mid g : Nat} (hlm : lo ≤ mid) (hmg : mid ≤ g) (hn10 : n ≤ 10) : ∀ (f k : Nat) (d : Int) (cur : List (Int × Int)) (ms : List (Int × Int × Int)) (AM : Option Addr) (m cm : Nat) (w : World),
    n - k = f → k ≤ 1000 → cur.length = n → goodA u o t cur → 0 ≤ d → d ≤ 9 → ms.length = m → m + f ≤ 1000 → Blk w g 89 #[.int .i64 u, .int .i64 o, .int .i64 t, .slice A n c, .slice AM m cm] →
    Own w lo mid 69 2 (.slice A n c) n (flat encPair cur) → Own w mid w.heap.size 41 3 (.slice AM m cm) m (flat encTrip ms) →
    Calls Try.prog 73 #[.pointer (some ⟨g, 0, none⟩), .int .i64 k, .int .i64 d] w (AddPost w lo mid g u o t A n c (addR u t f cur ms k d) (m + f)) := by
  intro f
  induction f with
  | zero =>
    intro k d cur ms AM m cm w hf hk1 hl hgd d0 d9 hml hmb hG hOR hOM
    have c3 := hG.cell 3
    simp at c3
    have b1 : decide (n ≤ k) = true := by simp; omega
    by_cases hd : d = 0
    · subst hd
      have HE := Lib.hid (addR_zero u t 0 cur ms k)
      have HP : Hid (∀ e, e = .returned (.bool true) → AddPost w lo mid g u o t A n c (addR u t 0 cur ms k 0) (m + 0) e w) := by
        intro e he
        rw [HE.out]
        exact ⟨AM, m, cm, he, by omega, hml, hG, hOR, hOM, Below.refl _ _, Keep.refl _⟩
      clear hf hl hml hmb
      go_enter Try.func73, Try.ntmps73
      go_wp2
      go_ret
      exact HP.out _ rfl
    · have HE := Lib.hid (addR_end (u := u) (t := t) cur ms k hd)
      have b2 : (d == 0) = false := by simpa using hd
      have HP : Hid (∀ e, e = .returned (.bool false) → AddPost w lo mid g u o t A n c (addR u t 0 cur ms k d) (m + 0) e w) := by
        intro e he
        rw [HE.out]
        exact ⟨AM, m, cm, he, by omega, hml, hG, hOR, hOM, Below.refl _ _, Keep.refl _⟩
      clear hf hl hml hmb hd
      go_enter Try.func73, Try.ntmps73
      go_wp2
      go_ret
      exact HP.out _ rfl
  | succ f ih =>
    intro k d cur ms AM m cm w hf hk1 hl hgd d0 d9 hml hmb hG hOR hOM
    have IH := Lib.hid ih; clear ih
    have c0 := hG.cell 0; have c1 := hG.cell 1; have c2 := hG.cell 2; have c3 := hG.cell 3; have c4 := hG.cell 4
    simp at c0 c1 c2 c3 c4
    have b1 : decide (n ≤ k) = false := by simp; omega
    by_cases hd : d = 0
    · subst hd
      have HE := Lib.hid (addR_zero u t (f + 1) cur ms k)
      have HP : Hid (∀ e, e = .returned (.bool true) → AddPost w lo mid g u o t A n c (addR u t (f + 1) cur ms k 0) (m + (f + 1)) e w) := by
        intro e he
        rw [HE.out]
        exact ⟨AM, m, cm, he, by omega, hml, hG, hOR, hOM, Below.refl _ _, Keep.refl _⟩
      clear hf hl hml hmb
      go_enter Try.func73, Try.ntmps73
      go_wp2
      go_ret
      exact HP.out _ rfl
    · have hk : k < n := by omega
      obtain ⟨q, hq⟩ : ∃ q, cur[k]? = some q := ⟨_, List.getElem?_eq_getElem (by omega)⟩
      have hrod := okA_rod hgd.1 hq
      obtain ⟨s0, s9⟩ := good_shw hgd hq
      have hto := toD_in (d := d) hgd hq (by omega)
      obtain ⟨hkd, _⟩ := okA_parts hgd.1
      obtain ⟨ku, _, kt, _⟩ := kdB_parts hkd
      obtain ⟨s, hs⟩ : ∃ s, shw t q + d = s := ⟨_, rfl⟩
      obtain ⟨r, hr⟩ : ∃ r, s % 10 = r := ⟨_, rfl⟩
      have r0 : 0 ≤ r := by omega
      have r9 : r ≤ 9 := by omega
      obtain ⟨p, hp⟩ : ∃ p, plD u t r = p := ⟨_, rfl⟩
      have hpto : toD u t q d = p := by rw [toD, hs, hr, hp]
      rw [hpto] at hto
      have HSTEP : Hid (addR u t (f + 1) cur ms k d = addR u t f (cur.set k p) (ms ++ [((k : Int), p.1 - q.1, p.2 - q.2)]) (k + 1) (s / 10)) := by
        unfold Hid
        rw [addR_step hd hq, mvD, hpto, hs]
      have HGOOD : Hid (goodA u o t (cur.set k p)) := by unfold Hid; rw [← hp]; exact good_set k hgd r0 r9
      have HSET := Lib.hid (flat_set (xs := cur) (k := k) p)
      have W1 : IntKind.i64.wrap (shw t q + d) = s := by rw [hs]; exact IntWalk.i64_in _ (by omega)
      have W2 : s.tmod 10 = r := by rw [Int.tmod_eq_emod_of_nonneg (by omega)]; exact hr
      have hrod0 := hrod
      obtain ⟨⟨a0, a1, a2⟩, ⟨a3, a4, a5⟩, _⟩ := hrod
      obtain ⟨⟨e0, e1, e2⟩, ⟨e3, e4, e5⟩, _⟩ := hto
      have W3 : IntKind.i64.wrap (p.1 - q.1) = p.1 - q.1 := IntWalk.i64_in _ (by omega)
      have W4 : IntKind.i64.wrap (p.2 - q.2) = p.2 - q.2 := IntWalk.i64_in _ (by omega)
      have b2 : (d == 0) = false := by simpa using hd
      have HL := Lib.hid hl
      have HR := Lib.hid (fun (W : World) (hW : Reads W W.heap.size 2 A n (flat encPair cur)) (c2 : W.cell? ⟨g, 2, none⟩ = some (.int .i64 t)) (c3 : W.cell? ⟨g, 3, none⟩ = some (.slice A n c)) => sRod (u := u) (o := o) W hW HL.out (by unfold maxLen; omega) c2 c3 hk hq hrod0)
      have HD := Lib.hid (fun (W : World) (c0 : W.cell? ⟨g, 0, none⟩ = some (.int .i64 u)) (c2 : W.cell? ⟨g, 2, none⟩ = some (.int .i64 t)) => sDigit (g := g) W c0 c2 ku kt r0 r9)
      simp only [hp] at HD
      obtain ⟨g1, rfl, hg1, hg1m, hg1w, hrow, hfz⟩ := hOR.at_ (by omega)
      have p0 : w.cell? ⟨g1, k * 2, none⟩ = some (.int .i64 q.1) := by
        rw [hrow (k * 2) (by omega)]
        have := flat_get encPair_length cur k 0 (by decide)
        simp only [Nat.add_zero] at this
        rw [this, hq]
        rfl
      have p1 : w.cell? ⟨g1, k * 2 + 1, none⟩ = some (.int .i64 q.2) := by
        rw [hrow (k * 2 + 1) (by omega), flat_get encPair_length cur k 1 (by decide), hq]
        rfl
      have HQ := Lib.hid hq; have HF := Lib.hid hf; have HML := Lib.hid hml; have HSS := Lib.hid hs; have HMB := Lib.hid hmb
      have s18 : s ≤ 18 := by omega
      have s00 : 0 ≤ s := by omega
      have ki0 : (0 : Int) ≤ (k : Int) := Int.natCast_nonneg _
      have ki1 : (k : Int) < (n : Int) := by omega
      clear hrow hfz hf hl hml hmb hs hr hp hpto hq hgd hkd hd hrod0
      go_enter Try.func73, Try.ntmps73
      go_wp2_with fail
      refine (HR.out _ hOR.reads c2 c3).mono ?_
      rintro e w1 ⟨rfl, n1, rfl⟩
      go_wp2_with fail
      refine (HD.out (w.drewN n1) c0 c2).mono ?_
      rintro e w2 ⟨rfl, hb2⟩
      have hB2 : Below w.heap.size w w2 := bel2 (belN (Below.refl _ _) _) hb2
      clear hb2 c0 c1 c2 c3 c4
      have hG2 := hG.bel hB2; have hOR2 := hOR.bel hB2; have hOM2 := hOM.bel hB2; have z2 := hB2.size
      replace p0 := cellB p0 hB2; replace p1 := cellB p1 hB2
      have c3 := hG2.cell 3; have c4 := hG2.cell 4
      simp at c3 c4
      have y3 := fun X : Obj => cellA c3 X; have y0 := fun X : Obj => cellA p0 X; have y1 := fun X : Obj => cellA p1 X
      go_wp2
      refine absC ?_
      intro w3 hw3
      have hB3 : Below w2.heap.size w2 w3 := by rw [hw3]; exact (by repeat' (first | assumption | exact Below.refl _ _ | refine Below.drew ?_ | refine belN ?_ _ | refine Below.alloc ?_ (by first | omega | (simp; done) | (simp; omega)) _ | refine Below.setCell ?_ (by first | omega | (simp; done) | (simp; omega)) _))
      have t8 : Blk w3 w2.heap.size 69 #[.int .i64 p.1, .int .i64 p.2] := by rw [hw3]; exact (by repeat' (first | exact Blk.new _ _ _ | refine Blk.drewN ?_ _ | refine Blk.drew ?_ | exact blk_new (by first | rfl | (simp; done)) | refine Blk.alloc ?_ _))
      have t9 : Blk w3 (w2.heap.size + 1) 69 #[.int .i64 q.1, .int .i64 q.2] := by rw [hw3]; exact (by repeat' (first | exact Blk.new _ _ _ | refine Blk.drewN ?_ _ | refine Blk.drew ?_ | exact blk_new (by first | rfl | (simp; done)) | refine Blk.alloc ?_ _))
      have z3 := hB3.size
      clear hw3 y0 y1 y3
      have hlw := hG.lt
      have hG3 := hG2.bel hB3; have hOR3 := hOR2.bel hB3; have hOM3 := hOM2.bel hB3
      clear c3 c4
      have c3 := hG3.cell 3; have c4 := hG3.cell 4; have k0 := t8.cell 0; have k1 := t8.cell 1; have k2 := t9.cell 0; have k3 := t9.cell 1
      simp at c3 c4 k0 k1 k2 k3
      have c4a := fun X : Obj => cellA c4 X
      have HMS : Hid (m ≤ 1000) := by have := HMB.out; unfold Hid; omega
      have hm1 := HMS.out
      have hGX := (hG3.drew).alloc (.cells #[.int .i64 k, .int .i64 (p.1 - q.1), .int .i64 (p.2 - q.2)] 41); have hOX := (hOM3.drew).alloc (.cells #[.int .i64 k, .int .i64 (p.1 - q.1), .int .i64 (p.2 - q.2)] 41); have hTX := (t8.drew).alloc (.cells #[.int .i64 k, .int .i64 (p.1 - q.1), .int .i64 (p.2 - q.2)] 41)
      have hNX := own_blk_ne hOX.row hGX (by decide); have hNT := own_blk_ne hOX.row hTX (by decide)
      have HGX := Lib.hid hGX; have HOX := Lib.hid hOX; have HTX := Lib.hid hTX; have HNX := Lib.hid hNX; have HNT := Lib.hid hNT; have h9X := (t9.drew).alloc (.cells #[.int .i64 k, .int .i64 (p.1 - q.1), .int .i64 (p.2 - q.2)] 41); have H9X := Lib.hid h9X; have hN9 := own_blk_ne hOX.row h9X (by decide); have HN9 := Lib.hid hN9; clear h9X hGX hOX hTX hNX hNT hN9
      obtain ⟨S, hS⟩ : ∃ S : World → Prop, S = fun w' => w'.cell? ⟨g, 4, none⟩ = some (.slice AM m cm) ∧ w'.cell? ⟨w2.heap.size, 0, none⟩ = some (.int .i64 p.1) ∧ w'.cell? ⟨w2.heap.size, 1, none⟩ = some (.int .i64 p.2) ∧ w'.cell? ⟨w2.heap.size + 1, 0, none⟩ = some (.int .i64 q.1) ∧ w'.cell? ⟨w2.heap.size + 1, 1, none⟩ = some (.int .i64 q.2) := ⟨_, rfl⟩
      have hSw : ∀ w', S w' → w'.cell? ⟨g, 4, none⟩ = some (.slice AM m cm) ∧ w'.cell? ⟨w2.heap.size, 0, none⟩ = some (.int .i64 p.1) ∧ w'.cell? ⟨w2.heap.size, 1, none⟩ = some (.int .i64 p.2) ∧ w'.cell? ⟨w2.heap.size + 1, 0, none⟩ = some (.int .i64 q.1) ∧ w'.cell? ⟨w2.heap.size + 1, 1, none⟩ = some (.int .i64 q.2) := fun w' h => by rw [hS] at h; exact h
      have q4 : ∀ x : CW S, x.w.cell? ⟨g, 4, none⟩ = some (.slice AM m cm) := fun x => (hSw x.w x.h).1
      have q0 : ∀ x : CW S, x.w.cell? ⟨w2.heap.size, 0, none⟩ = some (.int .i64 p.1) := fun x => (hSw x.w x.h).2.1
      have q1 : ∀ x : CW S, x.w.cell? ⟨w2.heap.size, 1, none⟩ = some (.int .i64 p.2) := fun x => (hSw x.w x.h).2.2.1
      have q2 : ∀ x : CW S, x.w.cell? ⟨w2.heap.size + 1, 0, none⟩ = some (.int .i64 q.1) := fun x => (hSw x.w x.h).2.2.2.1
      have q3 : ∀ x : CW S, x.w.cell? ⟨w2.heap.size + 1, 1, none⟩ = some (.int .i64 q.2) := fun x => (hSw x.w x.h).2.2.2.2
      have hS3 : S w3.drew := by rw [hS]; exact ⟨c4, k0, k1, k2, k3⟩
      have hS4 : S (w3.drew.alloc (.cells #[.int .i64 k, .int .i64 (p.1 - q.1), .int .i64 (p.2 - q.2)] 41)) := by rw [hS]; exact ⟨cellA c4 _, cellA k0 _, cellA k1 _, cellA k2 _, cellA k3 _⟩
      have HS := Lib.hid hS; clear hS hSw
      haveI : Nonempty (CW S) := ⟨⟨_, hS3⟩⟩
      refine wp_region_ch (C := fun w' => ∃ x : CW S, w' = x.w) 17 _ _ _ (by kernel_rfl) (by kernel_rfl) (by kernel_rfl) rfl rfl rfl ⟨⟨_, hS3⟩, rfl⟩ ?_
      simp only [List.take_succ_cons, List.take_zero]
      repeat (go_big_quiet_step (fail))
      refine wpQuiet_nil ?_
      simp only [List.length_cons, List.length_nil, List.take_succ_cons, List.take_zero, List.drop_succ_cons, List.drop_zero, Nat.add_sub_cancel, Act.put, List.setIfInBounds_toArray, List.set_cons_succ, List.set_cons_zero]
      repeat (go_big_quiet_step (fail))
      refine wpQuiet_nil ?_
      refine wpV_mk1 (v := .agg #[.int .i64 k, .int .i64 (p.1 - q.1), .int .i64 (p.2 - q.2)]) (cs := #[.int .i64 k, .int .i64 (p.1 - q.1), .int .i64 (p.2 - q.2)]) (e := 41) rfl (by rfl) (fun W => by simp [go_sem]) ⟨⟨⟨_, hS4⟩, rfl⟩, ?_⟩
      refine wpV_app1g (.tmp 47) (.tmp 60) rfl eltMv (by rfl) ((hOM3.drew).alloc _) (by rfl) (Blk.new _ _ _) rfl (three_ints _ _ _) (by omega) (by simp; omega) ?_
      intro A2 cm2 w4 ho4 ht4 hg4
      have hG4 := Blk.grown HGX.out hg4 (fun e => HNX.out e.symm)
      have d4 := hG4.cell 4; have fG4 := hG4.frozen
      have t84 := Blk.grown HTX.out hg4 (fun e => HNT.out e.symm)
      have t94 := Blk.grown H9X.out hg4 (fun e => HN9.out e.symm)
      have m0 := t84.cell 0; have m1 := t84.cell 1; have m2 := t94.cell 0; have m3 := t94.cell 1
      simp at d4 m0 m1 m2 m3
      refine ⟨⟨⟨_, by rw [HS.out]; exact ⟨d4, m0, m1, m2, m3⟩⟩, rfl⟩, ?_⟩
      refine wpV_store (u := .pointer (some ⟨g, 4, none⟩)) (v := .slice A2 (m + 1) cm2) (w' := w4.setCell ⟨g, 4, none⟩ (.slice A2 (m + 1) cm2)) rfl (by rfl) (by rfl) (by simp [go_sem, d4, fG4]) ?_
      clear q4 q0 q1 q2 q3 hS3 hS4 HS
      have hOR4 := (hOR3.drew.alloc _).touch ht4 (.inl (Nat.le_refl _))
      have hBl : Below lo w w4 := Touch.below ((((bel2 hB2 hB3).mono (by omega)).drew).alloc (by show lo ≤ w3.heap.size; omega) _) ht4 (by simp; omega) hlm
      have hK4 : Keep w w4 := ((Keep.bel (bel2 hB2 hB3)).trans (Keep.bel (((Below.refl _ _).drew).alloc (Nat.le_refl _) _))).trans (Keep.grown HOX.out.row hg4 (.inr (.inl rfl)))
      clear c3 c4 k0 k1 k2 k3 c4a p0 p1 hG3 hOR3 hOM3 hG2 hOR2 hOM2 t8 t9 hB3 ht4 hg4 HGX HOX HTX HNX HNT H9X HN9 t94 m0 m1 m2 m3
      go_wp2
      refine absC ?_
      intro w5 hw5
      have hG5 : Blk w5 g 89 #[.int .i64 u, .int .i64 o, .int .i64 t, .slice (some ⟨g1, 0, none⟩) n c, .slice A2 (m + 1) cm2] := by rw [hw5]; simpa using hG4.set_ 4 (.slice A2 (m + 1) cm2)
      have hOR5 : Own w5 lo mid 69 2 (.slice (some ⟨g1, 0, none⟩) n c) n (flat encPair cur) := by rw [hw5]; exact hOR4.setLow (p := ⟨g, 4, none⟩) (.inr hmg) _
      have hOM5 : Own w5 mid w5.heap.size 41 3 (.slice A2 (m + 1) cm2) (m + 1) (flat encTrip (ms ++ [((k : Int), p.1 - q.1, p.2 - q.2)])) := by rw [hw5, add_flat]; simpa using ho4.setBx hG4 (by decide) 4 (.slice A2 (m + 1) cm2)
      have t85 : Blk w5 w2.heap.size 69 #[.int .i64 p.1, .int .i64 p.2] := by rw [hw5]; exact t84.far (by show w2.heap.size ≠ g; omega) _
      have hB5 : Below lo w w5 := by rw [hw5]; exact hBl.setCell (by show lo ≤ g; omega) _
      have hK5 : Keep w w5 := by rw [hw5]; exact hK4.trans (Keep.set_ hG4 (.inr (.inr rfl)) 4 _)
      clear hw5 hG4 hOR4 ho4 t84 hBl hK4 d4 fG4
      have c3 := hG5.cell 3; have k0 := t85.cell 0; have k1 := t85.cell 1
      simp at c3 k0 k1
      obtain ⟨g1', hA', _, _, _, hrow, hfz⟩ := hOR5.at_ (by omega)
      injection hA' with hA'
      injection hA' with hA'
      subst hA'
      have p0 : w5.cell? ⟨g1, k * 2, none⟩ = some (.int .i64 q.1) := by
        rw [hrow (k * 2) (by omega)]
        have := flat_get encPair_length cur k 0 (by decide)
        simp only [Nat.add_zero] at this
        rw [this, HQ.out]
        rfl
      have p1 : w5.cell? ⟨g1, k * 2 + 1, none⟩ = some (.int .i64 q.2) := by
        rw [hrow (k * 2 + 1) (by omega), flat_get encPair_length cur k 1 (by decide), HQ.out]
        rfl
      clear hrow
      have HFIN : Hid (∀ w6, w6 = (w5.drew.setCell ⟨g1, k * 2, none⟩ (.int .i64 p.1)).setCell ⟨g1, k * 2 + 1, none⟩ (.int .i64 p.2) →
          Blk w6 g 89 #[.int .i64 u, .int .i64 o, .int .i64 t, .slice (some ⟨g1, 0, none⟩) n c, .slice A2 (m + 1) cm2] ∧ Own w6 lo mid 69 2 (.slice (some ⟨g1, 0, none⟩) n c) n (flat encPair (cur.set k p)) ∧
          Own w6 mid w6.heap.size 41 3 (.slice A2 (m + 1) cm2) (m + 1) (flat encTrip (ms ++ [((k : Int), p.1 - q.1, p.2 - q.2)])) ∧ Below lo w w6 ∧ Keep w w6) := by
        intro w6 hw6
        subst hw6
        refine ⟨(hG5.drew.far (by show g ≠ g1; omega) _).far (by show g ≠ g1; omega) _, ?_, ?_, ?_, ?_⟩
        · rw [← HSET.out]
          exact (hOR5.drew.stored (k * 2) (.int .i64 p.1)).stored (k * 2 + 1) (.int .i64 p.2)
        · simpa using (hOM5.drew.setLow (p := ⟨g1, k * 2, none⟩) (.inl hg1m) (.int .i64 p.1)).setLow (p := ⟨g1, k * 2 + 1, none⟩) (.inl hg1m) (.int .i64 p.2)
        · exact (hB5.drew.setCell (by show lo ≤ g1; omega) _).setCell (by show lo ≤ g1; omega) _
        · exact hK5.trans (((Keep.bel ((Below.refl _ _).drew)).trans (Keep.stored hOR5.drew (.inl rfl) (k * 2) _)).trans (Keep.stored (hOR5.drew.stored (k * 2) (.int .i64 p.1)) (.inl rfl) (k * 2 + 1) _))
      have HLM : Hid ((ms ++ [((k : Int), p.1 - q.1, p.2 - q.2)]).length = m + 1) := by unfold Hid; rw [List.length_append, HML.out]; rfl
      by_cases h10 : s < 10
      · have b10 : decide (s < 10) = true := by simpa using h10
        have HEND : Hid (addR u t (f + 1) cur ms k d = (true, cur.set k p, ms ++ [((k : Int), p.1 - q.1, p.2 - q.2)])) := by unfold Hid; rw [HSTEP.out, show s / 10 = 0 by omega, addR_zero]
        clear h10
        go_still_tail 8, (by kernel_rfl)
        change wpList _ _ _ _ _ w5.drew
        go_wp2
        go_ret
        obtain ⟨f1, f2, f3, f4, f5⟩ := HFIN.out _ rfl
        rw [HEND.out]
        exact ⟨A2, m + 1, cm2, rfl, by omega, HLM.out, f1, f2, f3, f4, f5⟩
      · have b10 : decide (s < 10) = false := by simp; omega
        have HEND : Hid (addR u t (f + 1) cur ms k d = addR u t f (cur.set k p) (ms ++ [((k : Int), p.1 - q.1, p.2 - q.2)]) (k + 1) 1) := by unfold Hid; rw [HSTEP.out, show s / 10 = 1 by omega]
        clear h10
        have HIH := Lib.hid (fun (w6 : World) (f1 : Blk w6 g 89 #[.int .i64 u, .int .i64 o, .int .i64 t, .slice (some ⟨g1, 0, none⟩) n c, .slice A2 (m + 1) cm2]) f2 f3 => IH.out (k + 1) 1 (cur.set k p) (ms ++ [((k : Int), p.1 - q.1, p.2 - q.2)]) A2 (m + 1) cm2 w6 (by have := HF.out; omega) (by omega) (by rw [List.length_set]; exact HL.out) HGOOD.out (by decide) (by decide) HLM.out (by have := HMB.out; omega) f1 f2 f3)
        rw [show ((k + 1 : Nat) : Int) = (k : Int) + 1 by omega] at HIH
        go_still_tail 8, (by kernel_rfl)
        change wpList _ _ _ _ _ w5.drew
        go_wp2_with fail
        refine absW ?_
        intro w6 hw6
        obtain ⟨f1, f2, f3, f4, f5⟩ := HFIN.out w6 hw6
        clear hw6
        refine (HIH.out w6 f1 f2 f3).mono ?_
        rintro e w7 ⟨AM', m', cm', rfl, g2, g3, g4, g5, g6, g7, g8⟩
        go_wp2
        go_ret
        rw [HEND.out]
        exact ⟨AM', m', cm', rfl, by omega, g3, g4, g5, g6, f4.trans g7, f5.trans g8⟩
end Go.Proofs.Ytpgifgdoikhpbaa
