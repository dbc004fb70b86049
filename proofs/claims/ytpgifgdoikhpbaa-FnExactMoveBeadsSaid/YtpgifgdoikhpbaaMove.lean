/- Abaci: a move of beads. No condition. -/
import Derived.Test.YtpgifgdoikhpbaaSetI
import Derived.Test.YtpgifgdoikhpbaaMoves
import Derived.StillTailTactics
namespace Go.Proofs.Ytpgifgdoikhpbaa
open Go.RowKit

def rgM (n : Nat) (r du dd : Int) : Bool := betwB r 0 ((n : Int) - 1) && (betwB du (-4) 4 && betwB dd (-12) 12)
def stM (u o : Int) (q : Int × Int) (du dd : Int) : Bool := betwB (q.1 + du) 0 u && betwB (q.2 + dd) 0 o
def mvC (u o : Int) (xs : List (Int × Int)) (r du dd : Int) : Int := if rgM xs.length r du dd then (if stM u o (xs.getD r.toNat (0, 0)) du dd then 0 else 6) else 2
def mvS (xs : List (Int × Int)) (r du dd : Int) : List (Int × Int) := xs.set r.toNat ((xs.getD r.toNat (0, 0)).1 + du, (xs.getD r.toNat (0, 0)).2 + dd)
def mvX (u o : Int) (xs : List (Int × Int)) (r du dd : Int) : List (Int × Int) := if mvC u o xs r du dd = 0 then mvS xs r du dd else xs
theorem mv_2 {u o : Int} {xs : List (Int × Int)} {r du dd : Int} (h : rgM xs.length r du dd = false) : mvC u o xs r du dd = 2 ∧ mvX u o xs r du dd = xs := by simp [mvX, mvC, h]
theorem mv_6 {u o : Int} {xs : List (Int × Int)} {k : Nat} {du dd : Int} {q : Int × Int} (h : rgM xs.length k du dd = true) (hq : xs[k]? = some q) (h2 : stM u o q du dd = false) : mvC u o xs k du dd = 6 ∧ mvX u o xs k du dd = xs := by
  simp [mvX, mvC, h, h2, List.getD_eq_getElem?_getD, hq]
theorem mv_0 {u o : Int} {xs : List (Int × Int)} {k : Nat} {du dd : Int} {q : Int × Int} (h : rgM xs.length k du dd = true) (hq : xs[k]? = some q) (h2 : stM u o q du dd = true) : mvC u o xs k du dd = 0 ∧ mvX u o xs k du dd = xs.set k (q.1 + du, q.2 + dd) := by
  simp [mvX, mvC, mvS, h, h2, List.getD_eq_getElem?_getD, hq]
theorem mvX_length (u o : Int) (xs : List (Int × Int)) (r du dd : Int) : (mvX u o xs r du dd).length = xs.length := by
  unfold mvX mvS
  split <;> simp
theorem mvX_ok {u o t : Int} {xs : List (Int × Int)} {r du dd : Int} (h : okA u o t xs = true) : okA u o t (mvX u o xs r du dd) = true := by
  by_cases hc : mvC u o xs r du dd = 0
  · have hX : mvX u o xs r du dd = mvS xs r du dd := by simp [mvX, hc]
    obtain ⟨hk, hr, hl⟩ := okA_parts h
    have hst : stM u o (xs.getD r.toNat (0, 0)) du dd = true := by
      unfold mvC at hc
      split at hc
      · split at hc
        · assumption
        · omega
      · omega
    have hlen := mvX_length u o xs r du dd
    refine ok_yes hk ?_ (by rw [hlen]; exact betw_iff.2 (by omega))
    rw [hX, mvS, List.all_eq_true]
    intro q hq
    rcases List.mem_or_eq_of_mem_set hq with hq | rfl
    · have := hr q hq
      simp only [rodB, Bool.and_eq_true, betw_iff]
      exact this
    · exact hst
  · rw [show mvX u o xs r du dd = xs by simp [mvX, hc]]
    exact h

def MvPost (w : World) (lo hi : Nat) (A : Option Addr) (n c : Nat) (u o : Int) (xs : List (Int × Int)) (r du dd : Int) (x : Ending) (w' : World) : Prop :=
  x = .returned (.int .i64 (mvC u o xs r du dd)) ∧ Own w' lo hi 69 2 (.slice A n c) n (flat encPair (mvX u o xs r du dd)) ∧ Touch lo hi w w'
theorem mv_same {w w' : World} {lo hi : Nat} {A : Option Addr} {n c : Nat} {u o : Int} {xs : List (Int × Int)} {r du dd k : Int} (ho : Own w lo hi 69 2 (.slice A n c) n (flat encPair xs)) (hb : Below w.heap.size w w') (hc : mvC u o xs r du dd = k ∧ mvX u o xs r du dd = xs) :
    MvPost w lo hi A n c u o xs r du dd (.returned (.int .i64 k)) w' := by
  refine ⟨by rw [hc.1], ?_, Touch.of_below _ _ hb⟩
  rw [hc.2]
  exact ho.bel hb

section
attribute [local irreducible] wpQuiet
set_option maxRecDepth 100000 in
set_option maxHeartbeats 3200000 in
theorem sMove {u o t : Int} {A : Option Addr} {n c lo hi g : Nat} {xs : List (Int × Int)} {r du dd : Int} (w : World) (ho : Own w lo hi 69 2 (.slice A n c) n (flat encPair xs)) (hl : xs.length = n) (c0 : w.cell? ⟨g, 0, none⟩ = some (.int .i64 u)) (c1 : w.cell? ⟨g, 1, none⟩ = some (.int .i64 o)) (c3 : w.cell? ⟨g, 3, none⟩ = some (.slice A n c)) (hg : g < lo ∨ hi ≤ g) (hhi : hi ≤ w.heap.size) (hok : okA u o t xs = true) :
    Calls Try.prog 62 #[.pointer (some ⟨g, 0, none⟩), .agg #[.int .i64 r, .int .i64 du, .int .i64 dd]] w (MvPost w lo hi A n c u o xs r du dd) := by
  have HL := Lib.hid hl
  obtain ⟨_, _, n0, n1⟩ := okA_parts hok
  rw [hl] at n0 n1
  have hgs := World.block_lt_of_cell? _ _ c0
  have x0 := fun X : Obj => cellA c0 X; have x1 := fun X : Obj => cellA c1 X; have x3 := fun X : Obj => cellA c3 X
  have W0 : IntKind.i64.wrap ((n : Int) - 1) = (n : Int) - 1 := IntWalk.i64_in _ (by omega)
  have HO := Lib.hid ho
  cases h0 : betwB r 0 ((n : Int) - 1)
  · have HE := Lib.hid (mv_2 (u := u) (o := o) (xs := xs) (r := r) (du := du) (dd := dd) (by rw [hl, rgM, h0]; rfl))
    clear hl hok ho
    go_enter Try.func62, Try.ntmps62
    go_wp2_with fail
    go_quiet ((go_at_call 69; (first | refine quietC (l00In_any _ _ _ _) h0 ?_); first | exact ⟨_, rfl⟩ | exact ⟨_, (World.drewN_drewN _ _ _).symm⟩))
    go_wp2
    go_ret
    exact mv_same HO.out (by repeat' (first | assumption | exact Below.refl _ _ | refine Below.drew ?_ | refine belN ?_ _ | refine Below.alloc ?_ (by first | omega | (simp; done) | (simp; omega)) _ | refine Below.setCell ?_ (by first | omega | (simp; done) | (simp; omega)) _)) HE.out
  cases h1 : betwB du (-4) 4
  · have HE := Lib.hid (mv_2 (u := u) (o := o) (xs := xs) (r := r) (du := du) (dd := dd) (by rw [hl, rgM, h0, h1]; rfl))
    clear hl hok ho
    go_enter Try.func62, Try.ntmps62
    go_wp2_with fail
    go_quiet ((go_at_call 69; (first | refine quietC (l00In_any _ _ _ _) h0 ?_ | refine quietC (l00In_any _ _ _ _) h1 ?_); first | exact ⟨_, rfl⟩ | exact ⟨_, (World.drewN_drewN _ _ _).symm⟩))
    go_wp2
    go_ret
    exact mv_same HO.out (by repeat' (first | assumption | exact Below.refl _ _ | refine Below.drew ?_ | refine belN ?_ _ | refine Below.alloc ?_ (by first | omega | (simp; done) | (simp; omega)) _ | refine Below.setCell ?_ (by first | omega | (simp; done) | (simp; omega)) _)) HE.out
  cases h2 : betwB dd (-12) 12
  · have HE := Lib.hid (mv_2 (u := u) (o := o) (xs := xs) (r := r) (du := du) (dd := dd) (by rw [hl, rgM, h0, h1, h2]; rfl))
    clear hl hok ho
    go_enter Try.func62, Try.ntmps62
    go_wp2_with fail
    go_quiet ((go_at_call 69; (first | refine quietC (l00In_any _ _ _ _) h0 ?_ | refine quietC (l00In_any _ _ _ _) h1 ?_ | refine quietC (l00In_any _ _ _ _) h2 ?_); first | exact ⟨_, rfl⟩ | exact ⟨_, (World.drewN_drewN _ _ _).symm⟩))
    go_wp2
    go_ret
    exact mv_same HO.out (by repeat' (first | assumption | exact Below.refl _ _ | refine Below.drew ?_ | refine belN ?_ _ | refine Below.alloc ?_ (by first | omega | (simp; done) | (simp; omega)) _ | refine Below.setCell ?_ (by first | omega | (simp; done) | (simp; omega)) _)) HE.out
  have hrg : rgM xs.length r du dd = true := by rw [hl, rgM, h0, h1, h2]; rfl
  obtain ⟨r0, r1⟩ := betw_iff.1 h0
  obtain ⟨d0, d1⟩ := betw_iff.1 h1
  obtain ⟨d2, d3⟩ := betw_iff.1 h2
  obtain ⟨k, rfl⟩ := Int.eq_ofNat_of_zero_le r0
  have hk : k < n := by omega
  obtain ⟨q, hq⟩ : ∃ q, xs[k]? = some q := ⟨_, List.getElem?_eq_getElem (by omega)⟩
  obtain ⟨⟨q0, q1, q2⟩, ⟨q3, q4, q5⟩, _⟩ := okA_rod hok hq
  obtain ⟨g1, rfl, hlo, hh, hgg, hcell, hfz⟩ := ho.at_ (by omega)
  have p0 : w.cell? ⟨g1, k * 2, none⟩ = some (.int .i64 q.1) := by
    rw [hcell (k * 2) (by omega)]
    have := flat_get encPair_length xs k 0 (by decide)
    simp only [Nat.add_zero] at this
    rw [this, hq]
    rfl
  have p1 : w.cell? ⟨g1, k * 2 + 1, none⟩ = some (.int .i64 q.2) := by
    rw [hcell (k * 2 + 1) (by omega), flat_get encPair_length xs k 1 (by decide), hq]
    rfl
  clear hcell
  have y0 := fun X : Obj => cellA p0 X; have y1 := fun X : Obj => cellA p1 X
  have z0 := fun X Y : Obj => cellA (cellA p0 X) Y; have z1 := fun X Y : Obj => cellA (cellA p1 X) Y
  have x00 := fun X Y : Obj => cellA (cellA c0 X) Y; have x11 := fun X Y : Obj => cellA (cellA c1 X) Y; have x33 := fun X Y : Obj => cellA (cellA c3 X) Y
  have W1 : IntKind.i64.wrap (q.1 + du) = q.1 + du := IntWalk.i64_in _ (by omega)
  have W2 : IntKind.i64.wrap (q.2 + dd) = q.2 + dd := IntWalk.i64_in _ (by omega)
  cases h3 : betwB (q.1 + du) 0 u
  · have HE := Lib.hid (mv_6 (u := u) (o := o) hrg hq (by rw [stM, h3]; rfl))
    clear hl hok ho hq hrg
    go_enter Try.func62, Try.ntmps62
    go_wp2_with fail
    go_quiet ((go_at_call 69; (first | refine quietC (l00In_any _ _ _ _) h0 ?_ | refine quietC (l00In_any _ _ _ _) h1 ?_ | refine quietC (l00In_any _ _ _ _) h2 ?_); first | exact ⟨_, rfl⟩ | exact ⟨_, (World.drewN_drewN _ _ _).symm⟩))
    go_wp2
    go_region_with (fail)
    all_goals
      go_wp2
      go_quiet ((go_at_call 69; (first | refine quietC (l00In_any _ _ _ _) h3 ?_); first | exact ⟨_, rfl⟩ | exact ⟨_, (World.drewN_drewN _ _ _).symm⟩))
      go_wp2
      go_ret
      exact mv_same HO.out (by repeat' (first | assumption | exact Below.refl _ _ | refine Below.drew ?_ | refine belN ?_ _ | refine Below.alloc ?_ (by first | omega | (simp; done) | (simp; omega)) _ | refine Below.setCell ?_ (by first | omega | (simp; done) | (simp; omega)) _)) HE.out
  cases h4 : betwB (q.2 + dd) 0 o
  · have HE := Lib.hid (mv_6 (u := u) (o := o) hrg hq (by rw [stM, h3, h4]; rfl))
    clear hl hok ho hq hrg
    go_enter Try.func62, Try.ntmps62
    go_wp2_with fail
    go_quiet ((go_at_call 69; (first | refine quietC (l00In_any _ _ _ _) h0 ?_ | refine quietC (l00In_any _ _ _ _) h1 ?_ | refine quietC (l00In_any _ _ _ _) h2 ?_); first | exact ⟨_, rfl⟩ | exact ⟨_, (World.drewN_drewN _ _ _).symm⟩))
    go_wp2
    go_region_with (fail)
    all_goals
      go_wp2
      go_quiet ((go_at_call 69; (first | refine quietC (l00In_any _ _ _ _) h3 ?_ | refine quietC (l00In_any _ _ _ _) h4 ?_); first | exact ⟨_, rfl⟩ | exact ⟨_, (World.drewN_drewN _ _ _).symm⟩))
      go_wp2
      go_ret
      exact mv_same HO.out (by repeat' (first | assumption | exact Below.refl _ _ | refine Below.drew ?_ | refine belN ?_ _ | refine Below.alloc ?_ (by first | omega | (simp; done) | (simp; omega)) _ | refine Below.setCell ?_ (by first | omega | (simp; done) | (simp; omega)) _)) HE.out
  have HE := Lib.hid (mv_0 (u := u) (o := o) hrg hq (by rw [stM, h3, h4]; rfl))
  have HS := Lib.hid (flat_set (xs := xs) (k := k) (q.1 + du, q.2 + dd))
  clear hl hok ho hq hrg
  go_enter Try.func62, Try.ntmps62
  go_wp2_with fail
  go_quiet ((go_at_call 69; (first | refine quietC (l00In_any _ _ _ _) h0 ?_ | refine quietC (l00In_any _ _ _ _) h1 ?_ | refine quietC (l00In_any _ _ _ _) h2 ?_); first | exact ⟨_, rfl⟩ | exact ⟨_, (World.drewN_drewN _ _ _).symm⟩))
  go_wp2
  go_region_with (fail)
  all_goals
    go_wp2
    go_quiet ((go_at_call 69; (first | refine quietC (l00In_any _ _ _ _) h3 ?_ | refine quietC (l00In_any _ _ _ _) h4 ?_); first | exact ⟨_, rfl⟩ | exact ⟨_, (World.drewN_drewN _ _ _).symm⟩))
    go_wp2
    refine absC ?_
    intro wz hz
    have hbz : Below w.heap.size w wz := by rw [hz]; exact (by repeat' (first | assumption | exact Below.refl _ _ | refine Below.drew ?_ | refine belN ?_ _ | refine Below.alloc ?_ (by first | omega | (simp; done) | (simp; omega)) _ | refine Below.setCell ?_ (by first | omega | (simp; done) | (simp; omega)) _))
    have bm : Blk wz w.heap.size 41 #[.int .i64 k, .int .i64 du, .int .i64 dd] := by rw [hz]; exact (by repeat' (first | exact Blk.new _ _ _ | refine Blk.drewN ?_ _ | refine Blk.drew ?_ | exact blk_new (by first | rfl | (simp; done) | (show w.heap.size + 1 = (w.alloc _).heap.size; simp)) | refine Blk.alloc ?_ _))
    have bs : Blk wz (w.heap.size + 1) 69 #[.int .i64 (q.1 + du), .int .i64 (q.2 + dd)] := by rw [hz]; exact (by repeat' (first | exact Blk.new _ _ _ | refine Blk.drewN ?_ _ | refine Blk.drew ?_ | exact blk_new (by first | rfl | (simp; done) | (show w.heap.size + 1 = (w.alloc _).heap.size; simp)) | refine Blk.alloc ?_ _))
    have m0 := bm.cell 0; have s0 := bs.cell 0; have s1 := bs.cell 1
    simp at m0 s0 s1
    clear hz
    have b3 := cellB c3 hbz; have b4 := cellB p0 hbz; have b5 := cellB p1 hbz; have fz := (HO.out.bel hbz).row.frozenAt
    have ki0 : (0 : Int) ≤ (k : Int) := Int.natCast_nonneg _
    have ki1 : (k : Int) < (n : Int) := by omega
    go_still_tail 8, (by kernel_rfl)
    change wpList _ _ _ _ _ wz.drew
    go_wp2
    go_ret
    refine ⟨by rw [HE.out.1]; rfl, ?_, ?_⟩
    · rw [HE.out.2, ← HS.out]
      exact ((HO.out.bel hbz.drew).stored (k * 2) (.int .i64 (q.1 + du))).stored (k * 2 + 1) (.int .i64 (q.2 + dd))
    · exact ((Touch.of_below lo hi hbz.drew).trans ((HO.out.bel hbz.drew).stored_touch (k * 2) (.int .i64 (q.1 + du)))).trans (((HO.out.bel hbz.drew).stored (k * 2) (.int .i64 (q.1 + du))).stored_touch (k * 2 + 1) (.int .i64 (q.2 + dd)))
end
end Go.Proofs.Ytpgifgdoikhpbaa
