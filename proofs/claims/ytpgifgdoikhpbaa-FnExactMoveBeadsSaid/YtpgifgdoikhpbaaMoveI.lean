/- Abaci: a move of beads on the program's side. No condition. -/
import Derived.Test.YtpgifgdoikhpbaaMove
import Derived.Test.YtpgifgdoikhpbaaRgQ
namespace Go.Proofs.Ytpgifgdoikhpbaa
open Go.RowKit

/-- What a move hands back. -/
def RetMv (w : World) (u o t : Int) (xs : List (Int × Int)) (r du dd : Int) (x : Ending) (w' : World) : Prop :=
  (mvC u o xs r du dd = 0 ∧ RetAV w u o t xs.length (flat encPair (mvX u o xs r du dd)) (.int .i64 0) x w') ∨ (¬ mvC u o xs r du dd = 0 ∧ RetAV w 0 0 0 0 [] (.int .i64 (mvC u o xs r du dd)) x w')
theorem mb_z {w w' : World} {u o t k : Int} {xs ys : List (Int × Int)} {r du dd : Int} (hc : mvC u o xs r du dd = k ∧ mvX u o xs r du dd = ys) (hb : Below w.heap.size w w') (hk : k ≠ 0 := by decide) :
    RetMv w u o t xs r du dd (.returned (.tuple #[.agg #[.int .i64 0, .int .i64 0, .int .i64 0, .slice none 0 0], .int .i64 k])) w' :=
  .inr ⟨by rw [hc.1]; exact hk, .slice none 0 0, by rw [hc.1], Own.nil _ _ _ _ _, hb⟩

set_option maxRecDepth 100000 in
set_option maxHeartbeats 6400000 in
theorem iMoved {u o t : Int} {A : Option Addr} {n c : Nat} {xs : List (Int × Int)} {r du dd : Int} (w : World) (h : Reads w w.heap.size 2 A n (flat encPair xs)) (hl : xs.length = n) (hm : n ≤ maxLen) (hok : okA u o t xs = true) :
    Calls Try.prog 63 #[.agg #[.int .i64 u, .int .i64 o, .int .i64 t, .slice A n c], .agg #[.int .i64 r, .int .i64 du, .int .i64 dd]] w (RetMv w u o t xs r du dd) := by
  have HL := Lib.hid hl
  obtain ⟨_, _, n0, n1⟩ := okA_parts hok
  rw [hl] at n0 n1
  have W0 : IntKind.i64.wrap ((n : Int) - 1) = (n : Int) - 1 := IntWalk.i64_in _ (by omega)
  cases h0 : betwB r 0 ((n : Int) - 1)
  · have HE := Lib.hid (mv_2 (u := u) (o := o) (xs := xs) (r := r) (du := du) (dd := dd) (by rw [hl, rgM, h0]; rfl))
    clear hl hok
    go_enter Try.func63, Try.ntmps63
    go_wp2_with (first | (go_at_call 56; refine (between_any _ _ _ _).mono ?_; rintro e w' ⟨rfl, rfl⟩))
    refine bodyPost_ret (v := .tuple #[.agg #[.int .i64 0, .int .i64 0, .int .i64 0, .slice none 0 0], .int .i64 2]) (by simp [results, Try.results63, go_sem]) rfl (mb_z HE.out (by repeat' (first | assumption | exact Below.refl _ _ | refine Below.drew ?_ | refine belN ?_ _ | refine Below.alloc ?_ (by first | omega | (simp; done) | (simp; omega)) _ | refine Below.setCell ?_ (by first | omega | (simp; done) | (simp; omega)) _)))
  cases h1 : betwB du (-4) 4
  · have HE := Lib.hid (mv_2 (u := u) (o := o) (xs := xs) (r := r) (du := du) (dd := dd) (by rw [hl, rgM, h0, h1]; rfl))
    clear hl hok
    go_enter Try.func63, Try.ntmps63
    go_wp2_with (first | (go_at_call 56; refine (between_any _ _ _ _).mono ?_; rintro e w' ⟨rfl, rfl⟩))
    refine bodyPost_ret (v := .tuple #[.agg #[.int .i64 0, .int .i64 0, .int .i64 0, .slice none 0 0], .int .i64 2]) (by simp [results, Try.results63, go_sem]) rfl (mb_z HE.out (by repeat' (first | assumption | exact Below.refl _ _ | refine Below.drew ?_ | refine belN ?_ _ | refine Below.alloc ?_ (by first | omega | (simp; done) | (simp; omega)) _ | refine Below.setCell ?_ (by first | omega | (simp; done) | (simp; omega)) _)))
  cases h2 : betwB dd (-12) 12
  · have HE := Lib.hid (mv_2 (u := u) (o := o) (xs := xs) (r := r) (du := du) (dd := dd) (by rw [hl, rgM, h0, h1, h2]; rfl))
    clear hl hok
    go_enter Try.func63, Try.ntmps63
    go_wp2_with (first | (go_at_call 56; refine (between_any _ _ _ _).mono ?_; rintro e w' ⟨rfl, rfl⟩))
    refine bodyPost_ret (v := .tuple #[.agg #[.int .i64 0, .int .i64 0, .int .i64 0, .slice none 0 0], .int .i64 2]) (by simp [results, Try.results63, go_sem]) rfl (mb_z HE.out (by repeat' (first | assumption | exact Below.refl _ _ | refine Below.drew ?_ | refine belN ?_ _ | refine Below.alloc ?_ (by first | omega | (simp; done) | (simp; omega)) _ | refine Below.setCell ?_ (by first | omega | (simp; done) | (simp; omega)) _)))
  have hrg : rgM xs.length r du dd = true := by rw [hl, rgM, h0, h1, h2]; rfl
  obtain ⟨r0, r1⟩ := betw_iff.1 h0
  obtain ⟨d0, d1⟩ := betw_iff.1 h1
  obtain ⟨d2, d3⟩ := betw_iff.1 h2
  obtain ⟨k, rfl⟩ := Int.eq_ofNat_of_zero_le r0
  have hk : k < n := by omega
  obtain ⟨b1, o1, q, rfl, hbb, hq, hc⟩ := h.row_at encPair_length (by decide) hl hk
  have p0 := hc 0 _ rfl; have p1 := hc 1 _ rfl
  simp only [Nat.add_zero] at p0
  clear hc
  obtain ⟨⟨q0, q1, q2⟩, ⟨q3, q4, q5⟩, _⟩ := okA_rod hok hq
  have ki0 : (0 : Int) ≤ (k : Int) := Int.natCast_nonneg _
  have ki1 : (k : Int) < (n : Int) := by omega
  have W1 : IntKind.i64.wrap (q.1 + du) = q.1 + du := IntWalk.i64_in _ (by omega)
  have W2 : IntKind.i64.wrap (q.2 + dd) = q.2 + dd := IntWalk.i64_in _ (by omega)
  go_enter Try.func63, Try.ntmps63
  go_wp2_with (first | (go_at_call 56; refine (between_any _ _ _ _).mono ?_; rintro e w' ⟨rfl, rfl⟩))
  refine absC ?_
  intro w0 hw
  have hb0 : Below w.heap.size w w0 := by rw [hw]; exact (by repeat' (first | assumption | exact Below.refl _ _ | refine Below.drew ?_ | refine belN ?_ _ | refine Below.alloc ?_ (by first | omega | (simp; done) | (simp; omega)) _ | refine Below.setCell ?_ (by first | omega | (simp; done) | (simp; omega)) _))
  have bM : Blk w0 (w.heap.size + 1) 41 #[.int .i64 k, .int .i64 du, .int .i64 dd] := by rw [hw]; exact (blk_new (by simp)).alloc _
  have bR : Blk w0 (w.heap.size + 2) 29 #[.int .i64 0, .int .i64 0, .int .i64 0, .slice none 0 0] := by rw [hw]; exact blk_new (by simp)
  have bA : Blk w0 w.heap.size 29 #[.int .i64 u, .int .i64 o, .int .i64 t, .slice (some ⟨b1, o1, none⟩) n c] := by rw [hw]; exact ((Blk.new _ _ _).alloc _).alloc _
  have zR0 := bR.lt; have zM := bM.lt; have zA := bA.lt
  clear hw
  have c0 := bA.cell 0; have c1 := bA.cell 1; have c2 := bA.cell 2; have c3 := bA.cell 3
  simp at c0 c1 c2 c3
  have m0 := bM.cell 0; have m1 := bM.cell 1; have m2 := bM.cell 2
  simp at m0 m1 m2
  have y0 := cellB p0 hb0; have y1 := cellB p1 hb0
  have ac3 := fun X : Obj => cellA c3 X; have am0 := fun X : Obj => cellA m0 X; have am1 := fun X : Obj => cellA m1 X; have am2 := fun X : Obj => cellA m2 X; have ay0 := fun X : Obj => cellA y0 X; have ay1 := fun X : Obj => cellA y1 X
  have v3 := fun x : BW w0 => BW.cell c3 x; have v4 := fun x : BW w0 => BW.cell m0 x; have v5 := fun x : BW w0 => BW.cell m1 x; have v6 := fun x : BW w0 => BW.cell m2 x; have v7 := fun x : BW w0 => BW.cell y0 x; have v8 := fun x : BW w0 => BW.cell y1 x
  refine wp_region_qa 21 6 69 #[.int .i64 0, .int .i64 0] _ (by kernel_rfl) (by kernel_rfl) (by kernel_rfl) rfl rfl rfl (fun W => by simp [go_sem]) ?_
  simp only [List.take_succ_cons, List.take_zero]
  repeat (go_big_quiet_step (fail))
  refine wpQuiet_nil ?_
  intro g1 w1 hb1 hbl hg1
  simp only [List.drop_succ_cons, List.drop_zero]
  have hbw := bel2 hb0 hb1
  have x0 := cellB c0 hb1; have x1 := cellB c1 hb1; have x2 := cellB c2 hb1; have x3 := cellB c3 hb1; have s0 := cellB m0 hb1
  replace bR := bR.bel hb1; replace bM := bM.bel hb1
  have hgs := hbl.lt
  have gn0 := hbl.cell 0; have gn1 := hbl.cell 1; have gf := hbl.frozen
  simp at gn0 gn1
  have hz1 := hb1.size
  have ne0 : ¬ g1 = w.heap.size := by omega
  have ne1 : ¬ w.heap.size = g1 := by omega
  have ne2 : ¬ g1 = w.heap.size + 1 := by omega
  have ne3 : ¬ w.heap.size + 1 = g1 := by omega
  have ne4 : ¬ g1 = w.heap.size + 2 := by omega
  have ne5 : ¬ w.heap.size + 2 = g1 := by omega
  have bG := (hbl.set_ 0 (.int .i64 (q.1 + du))).set_ 1 (.int .i64 (q.2 + dd))
  simp at bG
  have bR2 := (bR.far (p := ⟨g1, 0, none⟩) ne5 (.int .i64 (q.1 + du))).far (p := ⟨g1, 1, none⟩) ne5 (.int .i64 (q.2 + dd))
  have bM2 := (bM.far (p := ⟨g1, 0, none⟩) ne3 (.int .i64 (q.1 + du))).far (p := ⟨g1, 1, none⟩) ne3 (.int .i64 (q.2 + dd))
  have hbw2 : Below w.heap.size w ((w1.setCell ⟨g1, 0, none⟩ (.int .i64 (q.1 + du))).setCell ⟨g1, 1, none⟩ (.int .i64 (q.2 + dd))) := (hbw.setCell (by show w.heap.size ≤ g1; omega) _).setCell (by show w.heap.size ≤ g1; omega) _
  have d0 := bR2.cell 0; have d1 := bR2.cell 1; have d2 := bR2.cell 2; have d3 := bR2.cell 3; have fR := bR2.frozen
  simp at d0 d1 d2 d3
  clear v3 v4 v5 v6 v7 v8 ac3 am0 am1 am2 ay0 ay1 y0 y1 p0 p1
  have HBW := Lib.hid hbw2; have HBR := Lib.hid bR2; have HBM := Lib.hid bM2; have HBG := Lib.hid bG
  clear hbw2 bM2 bG
  have HOK := Lib.hid hok; have HQ := Lib.hid hq; have HRG := Lib.hid hrg
  clear hok hq hrg hl W0 W1 W2
  cases h3 : betwB (q.1 + du) 0 u
  · have HE := Lib.hid (mv_6 (u := u) (o := o) HRG.out HQ.out (by rw [stM, h3]; rfl))
    go_wp2_with (first | (go_at_call 56; refine (between_any _ _ _ _).mono ?_; rintro e w' ⟨rfl, rfl⟩))
    refine bodyPost_ret (v := .tuple #[.agg #[.int .i64 0, .int .i64 0, .int .i64 0, .slice none 0 0], .int .i64 6]) (by simp [results, Try.results63, go_sem, d0, d1, d2, d3]) rfl (mb_z HE.out ?_)
    exact (((HBW.out.setCell (by first | omega | (simp; done) | (simp; omega)) _).setCell (by first | omega | (simp; done) | (simp; omega)) _).setCell (by first | omega | (simp; done) | (simp; omega)) _).setCell (by first | omega | (simp; done) | (simp; omega)) _
  cases h4 : betwB (q.2 + dd) 0 o
  · have HE := Lib.hid (mv_6 (u := u) (o := o) HRG.out HQ.out (by rw [stM, h3, h4]; rfl))
    go_wp2_with (first | (go_at_call 56; refine (between_any _ _ _ _).mono ?_; rintro e w' ⟨rfl, rfl⟩))
    refine bodyPost_ret (v := .tuple #[.agg #[.int .i64 0, .int .i64 0, .int .i64 0, .slice none 0 0], .int .i64 6]) (by simp [results, Try.results63, go_sem, d0, d1, d2, d3]) rfl (mb_z HE.out ?_)
    exact (((HBW.out.setCell (by first | omega | (simp; done) | (simp; omega)) _).setCell (by first | omega | (simp; done) | (simp; omega)) _).setCell (by first | omega | (simp; done) | (simp; omega)) _).setCell (by first | omega | (simp; done) | (simp; omega)) _
  have HE := Lib.hid (mv_0 (u := u) (o := o) HRG.out HQ.out (by rw [stM, h3, h4]; rfl))
  have HS := Lib.hid (flat_set (xs := xs) (k := k) (q.1 + du, q.2 + dd))
  go_wp2_with (first | (go_at_call 56; refine (between_any _ _ _ _).mono ?_; rintro e w' ⟨rfl, rfl⟩))
  refine absW ?_
  intro w2 hw2
  have hb2 : Below w.heap.size w w2 := by rw [hw2]; exact HBW.out
  have bR3 : Blk w2 (w.heap.size + 2) 29 #[.int .i64 0, .int .i64 0, .int .i64 0, .slice none 0 0] := by rw [hw2]; exact HBR.out
  have bM3 : Blk w2 (w.heap.size + 1) 41 #[.int .i64 k, .int .i64 du, .int .i64 dd] := by rw [hw2]; exact HBM.out
  have bG3 : Blk w2 g1 69 #[.int .i64 (q.1 + du), .int .i64 (q.2 + dd)] := by rw [hw2]; exact HBG.out
  clear hw2 d0 d1 d2 d3 fR gn0 gn1 gf
  refine (iWith _ (rdB h hb2) HL.out rfl n0 (by omega)).mono ?_
  rintro e w3 ⟨s, rfl, ho, hb⟩
  obtain ⟨A3, k3, rfl, _, _⟩ := ho.form
  have zz2 := bR3.lt; have zg := bG3.lt
  replace bR3 := bR3.bel hb; replace bM3 := bM3.bel hb; replace bG3 := bG3.bel hb
  replace hb2 := bel2 hb2 hb
  have z3 := hb.size
  obtain ⟨g2, rfl, hlo, hhi, hgs2, hcell, hfz⟩ := ho.at_ (by omega)
  have hlen := ho.row.1
  obtain ⟨e0, he0⟩ : ∃ p, w3.cell? ⟨g2, k * 2, none⟩ = some p := ⟨_, (hcell (k * 2) (by omega)).trans (List.getElem?_eq_getElem (by rw [hlen]; omega))⟩
  obtain ⟨e1, he1⟩ : ∃ p, w3.cell? ⟨g2, k * 2 + 1, none⟩ = some p := ⟨_, (hcell (k * 2 + 1) (by omega)).trans (List.getElem?_eq_getElem (by rw [hlen]; omega))⟩
  clear hcell hlen hb
  have d0 := bR3.cell 0; have d1 := bR3.cell 1; have d2 := bR3.cell 2; have d3 := bR3.cell 3; have fR := bR3.frozen
  have t0 := bM3.cell 0; have r0' := bG3.cell 0; have r1' := bG3.cell 1
  simp at d0 d1 d2 d3 t0 r0' r1'
  have at0 := fun X : Obj => cellA t0 X; have ar0 := fun X : Obj => cellA r0' X; have ar1 := fun X : Obj => cellA r1' X; have ae0 := fun X : Obj => cellA he0 X; have ae1 := fun X : Obj => cellA he1 X
  have bR4 := fun X : Obj => bR3.alloc X
  have ho4 := fun X : Obj => ((ho.alloc X).stored (k * 2) (.int .i64 (q.1 + du))).stored (k * 2 + 1) (.int .i64 (q.2 + dd))
  have HO4 := Lib.hid ho4; clear ho4
  have afz := fun (X : Obj) (j : Nat) => (ho.alloc X).row.frozenAt j
  have nf0 : ¬ g2 = w.heap.size + 1 + 1 := by omega
  have nf1 : ¬ w.heap.size + 1 + 1 = g2 := by omega
  have nf2 : ¬ g2 = w3.heap.size := by omega
  have nf3 : ¬ w3.heap.size = g2 := by omega
  have nf4 : ¬ w3.heap.size = w.heap.size + 1 + 1 := by omega
  have nf5 : w.heap.size + 1 + 1 < w3.heap.size := by omega
  have d0' : w3.cell? ⟨w.heap.size + 1 + 1, 0, none⟩ = some (.int .i64 0) := d0
  have d1' : w3.cell? ⟨w.heap.size + 1 + 1, 1, none⟩ = some (.int .i64 0) := d1
  have d2' : w3.cell? ⟨w.heap.size + 1 + 1, 2, none⟩ = some (.int .i64 0) := d2
  have d3' : w3.cell? ⟨w.heap.size + 1 + 1, 3, none⟩ = some (.slice none 0 0) := d3
  go_wp2
  refine bodyPost_ret (v := .tuple #[.agg #[.int .i64 u, .int .i64 o, .int .i64 t, .slice (some ⟨g2, 0, none⟩) n k3], .int .i64 0]) (by simp [results, Try.results63, go_sem, d0', d1', d2', d3', nf0, nf1, nf5]) rfl (.inl ⟨HE.out.1, _, rfl, ?_, ?_⟩)
  · rw [HE.out.2, HL.out, ← HS.out]
    exact (((((((ho.stored (k * 2) (.int .i64 (q.1 + du))).stored (k * 2 + 1) (.int .i64 (q.2 + dd))).setLow (.inl (by first | omega | (simp; done) | (simp; omega))) _).setLow (.inl (by first | omega | (simp; done) | (simp; omega))) _).setLow (.inl (by first | omega | (simp; done) | (simp; omega))) _).setLow (.inl (by first | omega | (simp; done) | (simp; omega))) _).alloc _).more (by first | omega | (simp; done) | (simp; omega)) (by first | omega | (simp; done) | (simp; omega))
  · exact ((((((hb2.setCell (by first | omega | (simp; done) | (simp; omega)) _).setCell (by first | omega | (simp; done) | (simp; omega)) _).setCell (by first | omega | (simp; done) | (simp; omega)) _).setCell (by first | omega | (simp; done) | (simp; omega)) _).setCell (by first | omega | (simp; done) | (simp; omega)) _).setCell (by first | omega | (simp; done) | (simp; omega)) _).alloc (by first | omega | (simp; done) | (simp; omega)) _
end Go.Proofs.Ytpgifgdoikhpbaa
