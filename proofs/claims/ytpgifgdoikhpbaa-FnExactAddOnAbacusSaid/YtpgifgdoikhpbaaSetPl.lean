/- Abaci: set to a value; the plain setting. No condition. -/
import Derived.Test.YtpgifgdoikhpbaaSetAba
namespace Go.Proofs.Ytpgifgdoikhpbaa
open Go.RowKit

def PlainPost (w : World) (u o t : Int) (n : Nat) (v : Int) (x : Ending) (w' : World) : Prop :=
  (rest10 n v = 0 ∧ RetAV w u o t n (flat encPair (plL u t n v)) (.int .i64 0) x w') ∨ (¬ rest10 n v = 0 ∧ RetAV w 0 0 0 0 [] (.int .i64 5) x w')
set_option maxRecDepth 100000 in
set_option maxHeartbeats 3200000 in
theorem iPlain {u o t : Int} {A : Option Addr} {n c : Nat} {xs : List (Int × Int)} {v : Int} (w : World) (h : Reads w w.heap.size 2 A n (flat encPair xs)) (hl : xs.length = n) (hm : n ≤ maxLen) (hn : 1 ≤ n) (hn' : n ≤ 10) (ku : 0 ≤ u ∧ u ≤ 4) (kt : 1 ≤ t ∧ t ≤ 10) (v0 : 0 ≤ v) (v1 : v ≤ 1000000000000) :
    Calls Try.prog 70 #[.agg #[.int .i64 u, .int .i64 o, .int .i64 t, .slice A n c], .int .i64 v] w (PlainPost w u o t n v) := by
  have hm0 := Lib.hid hm
  have HL := Lib.hid hl; clear hl
  go_enter Try.func70, Try.ntmps70
  go_wp2_with fail
  refine absW ?_
  intro w0 hw
  have hb0 : Below w.heap.size w w0 := by rw [hw]; exact (by repeat' (first | assumption | exact Below.refl _ _ | refine Below.drew ?_ | refine belN ?_ _ | refine Below.alloc ?_ (by first | omega | (simp; done) | (simp; omega)) _ | refine Below.setCell ?_ (by first | omega | (simp; done) | (simp; omega)) _))
  have bR : Blk w0 (w.heap.size + 1) 29 #[.int .i64 0, .int .i64 0, .int .i64 0, .slice none 0 0] := by rw [hw]; exact blk_new (by simp)
  have c0 : w0.cell? ⟨w.heap.size, 0, none⟩ = some (.int .i64 u) := by rw [hw]; simp
  have c1 : w0.cell? ⟨w.heap.size, 1, none⟩ = some (.int .i64 o) := by rw [hw]; simp
  have c2 : w0.cell? ⟨w.heap.size, 2, none⟩ = some (.int .i64 t) := by rw [hw]; simp
  have c3 : w0.cell? ⟨w.heap.size, 3, none⟩ = some (.slice A n c) := by rw [hw]; simp
  have zR0 := bR.lt
  clear hw
  refine (iWith _ (rdB h hb0) HL.out rfl hn (by omega)).mono ?_
  rintro e w1 ⟨s, rfl, ho, hb⟩
  obtain ⟨A1, k1, rfl, _, _⟩ := ho.form
  replace bR := bR.bel hb
  replace hb0 := bel2 hb0 hb
  have z0 := (World.block_lt_of_cell? _ _ c0)
  have zR := bR.lt
  replace c0 := cellB c0 hb
  replace c1 := cellB c1 hb
  replace c2 := cellB c2 hb
  replace c3 := cellB c3 hb
  have z1 := hb.size
  clear hb
  go_wp2
  go_loopw [1, 15] (fun y i wr => ∃ k : Nat, k ≤ n ∧ i = .int .i64 k ∧ y = .int .i64 (rest10 k v) ∧ Blk wr (w.heap.size + 1) 29 #[.int .i64 0, .int .i64 0, .int .i64 0, .slice none 0 0] ∧ Below (w.heap.size + 1) w1 wr ∧ Blk wr w1.heap.size 29 #[.int .i64 u, .int .i64 o, .int .i64 t, .slice A1 n k1] ∧ Own wr w0.heap.size w1.heap.size 69 2 (.slice A1 n k1) n (flat encPair (plL u t k v ++ xs.drop k)) ∧ Below w.heap.size w wr) (fun _ i _ => n - (intOf i).toNat)
  case atStart => exact ⟨0, Nat.zero_le _, rfl, rfl, bR.alloc _, (Below.refl _ _).alloc (by omega) _, Blk.new _ _ _, by simpa [plL] using ho.alloc _, hb0.alloc (by omega) _⟩
  case round =>
    obtain ⟨k, hk, rfl, rfl, hR, hW, hO, ho, hB⟩ := hrel
    obtain ⟨q0, q1⟩ := rest10_bd k v v0
    have d0 := hR.cell 0; have d1 := hR.cell 1; have d2 := hR.cell 2; have d3 := hR.cell 3; have fR := hR.frozen
    have e0 := hO.cell 0; have e1 := hO.cell 1; have e2 := hO.cell 2; have e3 := hO.cell 3
    simp at d0 d1 d2 d3 e0 e1 e2 e3
    have b0 := (hW.cell (p := ⟨w.heap.size, 0, none⟩) (by simp)).trans c0; have b1 := (hW.cell (p := ⟨w.heap.size, 1, none⟩) (by simp)).trans c1
    have b2 := (hW.cell (p := ⟨w.heap.size, 2, none⟩) (by simp)).trans c2; have b3 := (hW.cell (p := ⟨w.heap.size, 3, none⟩) (by simp)).trans c3
    have zO := hO.lt
    by_cases hlt : k < n
    · obtain ⟨g1, rfl, hlo, hhi, hgs, hcell, hfz⟩ := ho.at_ (by omega)
      have hlen := ho.row.1
      obtain ⟨p0, hp0⟩ : ∃ p, wr.cell? ⟨g1, k * 2, none⟩ = some p := ⟨_, (hcell (k * 2) (by omega)).trans (List.getElem?_eq_getElem (by rw [hlen]; omega))⟩
      obtain ⟨p1, hp1⟩ : ∃ p, wr.cell? ⟨g1, k * 2 + 1, none⟩ = some p := ⟨_, (hcell (k * 2 + 1) (by omega)).trans (List.getElem?_eq_getElem (by rw [hlen]; omega))⟩
      clear hcell hlen
      have m0 : 0 ≤ rest10 k v % 10 := by omega
      have m1 : rest10 k v % 10 ≤ 9 := by omega
      have T1 : (rest10 k v).tmod 10 = rest10 k v % 10 := Int.tmod_eq_emod_of_nonneg q0
      have HC := Lib.hid (fun (W : World) => iPlainRod (u := u) (o := o) (t := t) (s := .slice A n c) W ku kt m0 m1)
      have HS := Lib.hid (set_step (u := u) (t := t) (v := v) HL.out hlt)
      have RS := Lib.hid (rest10_succ k v)
      have ki0 : (0 : Int) ≤ (k : Int) := Int.natCast_nonneg _
      have ki1 : (k : Int) < (n : Int) := by omega
      go_wp2_with fail
      go_region_with ((go_at_call 68; refine (HC.out _).mono ?_; rintro e w2 ⟨rfl, hb2⟩; have hbx : Below wr.heap.size wr w2 := ((Below.refl _ _).drew).trans hb2; clear hb2; have x3 := cellB e3 hbx; have xp0 := cellB hp0 hbx; have xp1 := cellB hp1 hbx; have xfz := (ho.bel hbx).row.frozenAt; have y0 := cellB b0 hbx; have y1 := cellB b1 hbx; have y2 := cellB b2 hbx; have y3 := cellB b3 hbx))
      all_goals
        have hR2 := ((hR.bel hbx).far (p := ⟨g1, k * 2, none⟩) (by show w.heap.size + 1 ≠ g1; omega) (.int .i64 (plD u t (rest10 k v % 10)).1)).far (p := ⟨g1, k * 2 + 1, none⟩) (by show w.heap.size + 1 ≠ g1; omega) (.int .i64 (plD u t (rest10 k v % 10)).2)
        have hO2 := ((hO.bel hbx).far (p := ⟨g1, k * 2, none⟩) (by show w1.heap.size ≠ g1; omega) (.int .i64 (plD u t (rest10 k v % 10)).1)).far (p := ⟨g1, k * 2 + 1, none⟩) (by show w1.heap.size ≠ g1; omega) (.int .i64 (plD u t (rest10 k v % 10)).2)
        have ho2 := ((ho.bel hbx).stored (k * 2) (.int .i64 (plD u t (rest10 k v % 10)).1)).stored (k * 2 + 1) (.int .i64 (plD u t (rest10 k v % 10)).2)
        have hB2 := ((bel2 hB hbx).setCell (p := ⟨g1, k * 2, none⟩) (by show w.heap.size ≤ g1; omega) (.int .i64 (plD u t (rest10 k v % 10)).1)).setCell (p := ⟨g1, k * 2 + 1, none⟩) (by show w.heap.size ≤ g1; omega) (.int .i64 (plD u t (rest10 k v % 10)).2)
        have hW2 := ((hW.trans (hbx.mono (by omega))).setCell (p := ⟨g1, k * 2, none⟩) (by show w.heap.size + 1 ≤ g1; omega) (.int .i64 (plD u t (rest10 k v % 10)).1)).setCell (p := ⟨g1, k * 2 + 1, none⟩) (by show w.heap.size + 1 ≤ g1; omega) (.int .i64 (plD u t (rest10 k v % 10)).2)
        rw [HS.out] at ho2
        clear T1 x3 xp0 xp1 xfz hbx y0 y1 y2 y3
        go_wp2
        go_roundw
        case rel => exact ⟨k + 1, by omega, by go_num, by rw [RS.out], hR2, hW2, hO2, ho2, hB2⟩
        case measure => simp [intOf]; omega
    · obtain rfl : k = n := by omega
      have HD : Hid (xs.drop k = []) := List.drop_of_length_le (by rw [HL.out]; exact Nat.le_refl _)
      rw [HD.out, List.append_nil] at ho
      have hz := hB.size
      by_cases hr : 0 < rest10 k v
      · have HR : Hid (¬ rest10 k v = 0) := by unfold Hid; omega
        go_wp2
        refine bodyPost_ret (v := .tuple #[.agg #[.int .i64 0, .int .i64 0, .int .i64 0, .slice none 0 0], .int .i64 5]) (by simp [results, Try.results70, go_sem, d0, d1, d2, d3]) rfl (.inr ⟨HR.out, _, rfl, Own.nil _ _ _ _ _, ?_⟩)
        exact (((hB.setCell (by first | omega | (simp; done) | (simp; omega)) _).setCell (by first | omega | (simp; done) | (simp; omega)) _).setCell (by first | omega | (simp; done) | (simp; omega)) _).setCell (by first | omega | (simp; done) | (simp; omega)) _
      · have HR : Hid (rest10 k v = 0) := by unfold Hid; omega
        go_wp2
        refine bodyPost_ret (v := .tuple #[.agg #[.int .i64 u, .int .i64 o, .int .i64 t, .slice A1 k k1], .int .i64 0]) (by simp [results, Try.results70, go_sem, d0, d1, d2, d3]) rfl (.inl ⟨HR.out, _, rfl, ?_, ?_⟩)
        · exact ((((ho.setLow (.inl (by first | omega | (simp; done) | (simp; omega))) _).setLow (.inl (by first | omega | (simp; done) | (simp; omega))) _).setLow (.inl (by first | omega | (simp; done) | (simp; omega))) _).setLow (.inl (by first | omega | (simp; done) | (simp; omega))) _).more (by first | omega | (simp; done) | (simp; omega)) (by first | omega | (simp; done) | (simp; omega))
        · exact (((hB.setCell (by first | omega | (simp; done) | (simp; omega)) _).setCell (by first | omega | (simp; done) | (simp; omega)) _).setCell (by first | omega | (simp; done) | (simp; omega)) _).setCell (by first | omega | (simp; done) | (simp; omega)) _

def pkI (b : Bool) (x : Int) : Int := if b then x else 0
def saP (u o t : Int) (xs : List (Int × Int)) (v : Int) : Bool := okA u o t xs && betwB v 0 1000000000000
def saK (u o t : Int) (xs : List (Int × Int)) (v : Int) : Bool := saP u o t xs v && decide (rest10 xs.length v = 0)
def saC (u o t : Int) (xs : List (Int × Int)) (v : Int) : Int := if okA u o t xs then (if betwB v 0 1000000000000 then (if rest10 xs.length v = 0 then 0 else 5) else 2) else 1
def saN (u o t : Int) (xs : List (Int × Int)) (v : Int) : Nat := if saK u o t xs v then xs.length else 0
def saX (u o t : Int) (xs : List (Int × Int)) (v : Int) : List (Int × Int) := if saK u o t xs v then plL u t xs.length v else []
theorem saN_le (u o t : Int) (xs : List (Int × Int)) (v : Int) : saN u o t xs v ≤ 1073741824 := by
  unfold saN
  split
  · rename_i h
    simp only [saK, saP, Bool.and_eq_true] at h
    have := okA_parts h.1.1
    omega
  · omega
/-- What a setting hands back. -/
def RetSA (w : World) (u o t : Int) (xs : List (Int × Int)) (v : Int) (x : Ending) (w' : World) : Prop :=
  ∃ s, x = .returned (.tuple #[.agg #[.int .i64 (pkI (saK u o t xs v) u), .int .i64 (pkI (saK u o t xs v) o), .int .i64 (pkI (saK u o t xs v) t), s], .int .i64 (saC u o t xs v)]) ∧ Own w' w.heap.size w'.heap.size 69 2 s (saN u o t xs v) (flat encPair (saX u o t xs v)) ∧ Below w.heap.size w w'
theorem sa_z {w w' : World} {u o t : Int} {xs : List (Int × Int)} {v c : Int} (hk : saK u o t xs v = false) (hc : saC u o t xs v = c) (hb : Below w.heap.size w w') :
    RetSA w u o t xs v (.returned (.tuple #[.agg #[.int .i64 0, .int .i64 0, .int .i64 0, .slice none 0 0], .int .i64 c])) w' := by
  refine ⟨.slice none 0 0, ?_, ?_, hb⟩
  · rw [hk, hc]; rfl
  · unfold saN saX
    rw [hk]
    exact Own.nil _ _ _ _ _
theorem sa_o {w w' : World} {u o t : Int} {xs : List (Int × Int)} {v : Int} {n : Nat} {s : Value} (hk : saK u o t xs v = true) (hl : xs.length = n) (ho : Own w' w.heap.size w'.heap.size 69 2 s n (flat encPair (plL u t n v))) (hb : Below w.heap.size w w') :
    RetSA w u o t xs v (.returned (.tuple #[.agg #[.int .i64 u, .int .i64 o, .int .i64 t, s], .int .i64 0])) w' := by
  have hc : saC u o t xs v = 0 := by
    simp only [saK, saP, Bool.and_eq_true, decide_eq_true_eq] at hk
    simp [saC, hk.1.1, hk.1.2, hk.2]
  refine ⟨s, ?_, ?_, hb⟩
  · rw [hk, hc]; rfl
  · unfold saN saX
    rw [hk, hl]
    exact ho
theorem sa_1 {u o t : Int} {xs : List (Int × Int)} {v : Int} (h : okA u o t xs = false) : saK u o t xs v = false ∧ saC u o t xs v = 1 := by simp [saK, saP, saC, h]
theorem sa_2 {u o t : Int} {xs : List (Int × Int)} {v : Int} (h : okA u o t xs = true) (h1 : betwB v 0 1000000000000 = false) : saK u o t xs v = false ∧ saC u o t xs v = 2 := by simp [saK, saP, saC, h, h1]
theorem sa_5 {u o t : Int} {xs : List (Int × Int)} {v : Int} (h : okA u o t xs = true) (h1 : betwB v 0 1000000000000 = true) (h2 : ¬ rest10 xs.length v = 0) : saK u o t xs v = false ∧ saC u o t xs v = 5 := by simp [saK, saP, saC, h, h1, h2]
theorem sa_0 {u o t : Int} {xs : List (Int × Int)} {v : Int} (h : okA u o t xs = true) (h1 : betwB v 0 1000000000000 = true) (h2 : rest10 xs.length v = 0) : saK u o t xs v = true := by simp [saK, saP, h, h1, h2]

set_option maxRecDepth 100000 in
set_option maxHeartbeats 3200000 in
theorem sSetAba {u o t : Int} {A : Option Addr} {n c : Nat} {xs : List (Int × Int)} {v : Int} (w : World) (h : Reads w w.heap.size 2 A n (flat encPair xs)) (hl : xs.length = n) (hm : n ≤ maxLen) :
    Calls Try.prog 32 #[.agg #[.int .i64 u, .int .i64 o, .int .i64 t, .slice A n c], .int .i64 v] w (RetSA w u o t xs v) := by
  have HL := Lib.hid hl
  cases hk : okA u o t xs
  · have HE := Lib.hid (sa_1 (v := v) hk)
    clear hl
    go_enter Try.func32, Try.ntmps32
    go_wp2_with fail
    refine absW ?_
    intro w0 hw
    have hb0 : Below w.heap.size w w0 := by rw [hw]; exact (by repeat' (first | assumption | exact Below.refl _ _ | refine Below.drew ?_ | refine belN ?_ _ | refine Below.alloc ?_ (by first | omega | (simp; done) | (simp; omega)) _ | refine Below.setCell ?_ (by first | omega | (simp; done) | (simp; omega)) _))
    have bR : Blk w0 (w.heap.size + 1) 29 #[.int .i64 0, .int .i64 0, .int .i64 0, .slice none 0 0] := by rw [hw]; exact blk_new (by simp)
    have c0 : w0.cell? ⟨w.heap.size, 0, none⟩ = some (.int .i64 u) := by rw [hw]; simp
    have c1 : w0.cell? ⟨w.heap.size, 1, none⟩ = some (.int .i64 o) := by rw [hw]; simp
    have c2 : w0.cell? ⟨w.heap.size, 2, none⟩ = some (.int .i64 t) := by rw [hw]; simp
    have c3 : w0.cell? ⟨w.heap.size, 3, none⟩ = some (.slice A n c) := by rw [hw]; simp
    have zR0 := bR.lt
    clear hw
    have d0 := bR.cell 0; have d1 := bR.cell 1; have d2 := bR.cell 2; have d3 := bR.cell 3; have fR := bR.frozen
    simp at d0 d1 d2 d3
    refine (sOkA _ (rdB h hb0) HL.out hm c0 c1 c2 c3).mono ?_
    rintro e w' ⟨rfl, k1, rfl⟩
    rw [hk]
    go_wp2
    refine bodyPost_ret (v := .tuple #[.agg #[.int .i64 0, .int .i64 0, .int .i64 0, .slice none 0 0], .int .i64 1]) (by simp [results, Try.results32, go_sem, d0, d1, d2, d3]) rfl (sa_z HE.out.1 HE.out.2 ?_)
    exact ((((belN hb0 _).setCell (by first | omega | (simp; done) | (simp; omega)) _).setCell (by first | omega | (simp; done) | (simp; omega)) _).setCell (by first | omega | (simp; done) | (simp; omega)) _).setCell (by first | omega | (simp; done) | (simp; omega)) _
  have HK := Lib.hid hk
  cases h1 : betwB v 0 1000000000000
  · have HE := Lib.hid (sa_2 hk h1)
    clear hl hk
    go_enter Try.func32, Try.ntmps32
    go_wp2_with fail
    refine absW ?_
    intro w0 hw
    have hb0 : Below w.heap.size w w0 := by rw [hw]; exact (by repeat' (first | assumption | exact Below.refl _ _ | refine Below.drew ?_ | refine belN ?_ _ | refine Below.alloc ?_ (by first | omega | (simp; done) | (simp; omega)) _ | refine Below.setCell ?_ (by first | omega | (simp; done) | (simp; omega)) _))
    have bR : Blk w0 (w.heap.size + 1) 29 #[.int .i64 0, .int .i64 0, .int .i64 0, .slice none 0 0] := by rw [hw]; exact blk_new (by simp)
    have c0 : w0.cell? ⟨w.heap.size, 0, none⟩ = some (.int .i64 u) := by rw [hw]; simp
    have c1 : w0.cell? ⟨w.heap.size, 1, none⟩ = some (.int .i64 o) := by rw [hw]; simp
    have c2 : w0.cell? ⟨w.heap.size, 2, none⟩ = some (.int .i64 t) := by rw [hw]; simp
    have c3 : w0.cell? ⟨w.heap.size, 3, none⟩ = some (.slice A n c) := by rw [hw]; simp
    have zR0 := bR.lt
    clear hw
    have d0 := bR.cell 0; have d1 := bR.cell 1; have d2 := bR.cell 2; have d3 := bR.cell 3; have fR := bR.frozen
    simp at d0 d1 d2 d3
    refine (sOkA _ (rdB h hb0) HL.out hm c0 c1 c2 c3).mono ?_
    rintro e w' ⟨rfl, k1, rfl⟩
    rw [HK.out]
    go_wp2_with (first | (go_at_call 69; refine (l00In_any _ _ _ _).mono ?_; rintro e w' ⟨rfl, rfl⟩))
    refine bodyPost_ret (v := .tuple #[.agg #[.int .i64 0, .int .i64 0, .int .i64 0, .slice none 0 0], .int .i64 2]) (by simp [results, Try.results32, go_sem, d0, d1, d2, d3]) rfl (sa_z HE.out.1 HE.out.2 ?_)
    exact ((((belN hb0 _).setCell (by first | omega | (simp; done) | (simp; omega)) _).setCell (by first | omega | (simp; done) | (simp; omega)) _).setCell (by first | omega | (simp; done) | (simp; omega)) _).setCell (by first | omega | (simp; done) | (simp; omega)) _
  obtain ⟨v0, v1⟩ := betw_iff.1 h1
  obtain ⟨hkd, _, n0, n1⟩ := okA_parts hk
  obtain ⟨ku, _, kt, _⟩ := kdB_parts hkd
  rw [hl] at n0 n1
  by_cases hr : rest10 n v = 0
  · have HS := Lib.hid (sa_0 hk h1 (by rw [hl]; exact hr))
    have br : (rest10 n v == 0) = true := by simp [hr]
    have BR := Lib.hid br
    clear hl hk hkd hr br
    go_enter Try.func32, Try.ntmps32
    go_wp2_with fail
    refine absW ?_
    intro w0 hw
    have hb0 : Below w.heap.size w w0 := by rw [hw]; exact (by repeat' (first | assumption | exact Below.refl _ _ | refine Below.drew ?_ | refine belN ?_ _ | refine Below.alloc ?_ (by first | omega | (simp; done) | (simp; omega)) _ | refine Below.setCell ?_ (by first | omega | (simp; done) | (simp; omega)) _))
    have bR : Blk w0 (w.heap.size + 1) 29 #[.int .i64 0, .int .i64 0, .int .i64 0, .slice none 0 0] := by rw [hw]; exact blk_new (by simp)
    have c0 : w0.cell? ⟨w.heap.size, 0, none⟩ = some (.int .i64 u) := by rw [hw]; simp
    have c1 : w0.cell? ⟨w.heap.size, 1, none⟩ = some (.int .i64 o) := by rw [hw]; simp
    have c2 : w0.cell? ⟨w.heap.size, 2, none⟩ = some (.int .i64 t) := by rw [hw]; simp
    have c3 : w0.cell? ⟨w.heap.size, 3, none⟩ = some (.slice A n c) := by rw [hw]; simp
    have zR0 := bR.lt
    clear hw
    refine (sOkA _ (rdB h hb0) HL.out hm c0 c1 c2 c3).mono ?_
    rintro e w' ⟨rfl, k1, rfl⟩
    rw [HK.out]
    go_wp2_with (first | (go_at_call 69; refine (l00In_any _ _ _ _).mono ?_; rintro e w' ⟨rfl, rfl⟩))
    refine (sSet _ ((rdB h hb0).drewN _) HL.out hm c0 c1 c2 c3 n0 n1 ku kt v0 v1).mono ?_
    rintro e w1 ⟨s, rfl, ho, hb⟩
    rw [BR.out]
    obtain ⟨A1, k2, rfl, _, _⟩ := ho.form
    replace bR := (bR.drewN k1).bel hb
    replace hb0 := bel2 (belN hb0 k1) hb
    have zR1 := bR.lt
    have d0 := bR.cell 0; have d1 := bR.cell 1; have d2 := bR.cell 2; have d3 := bR.cell 3; have fR := bR.frozen
    simp at d0 d1 d2 d3
    go_wp2
    refine bodyPost_ret (v := .tuple #[.agg #[.int .i64 u, .int .i64 o, .int .i64 t, .slice A1 n k2], .int .i64 0]) (by simp [results, Try.results32, go_sem, d0, d1, d2, d3, zR1]) rfl (sa_o HS.out HL.out ?_ ?_)
    · exact (((((ho.setLow (.inl (by first | omega | (simp; done) | (simp; omega))) _).setLow (.inl (by first | omega | (simp; done) | (simp; omega))) _).setLow (.inl (by first | omega | (simp; done) | (simp; omega))) _).setLow (.inl (by first | omega | (simp; done) | (simp; omega))) _).alloc _).more (by first | omega | (simp; done) | (simp; omega)) (by first | omega | (simp; done) | (simp; omega))
    · exact ((((hb0.setCell (by first | omega | (simp; done) | (simp; omega)) _).setCell (by first | omega | (simp; done) | (simp; omega)) _).setCell (by first | omega | (simp; done) | (simp; omega)) _).setCell (by first | omega | (simp; done) | (simp; omega)) _).alloc (by first | omega | (simp; done) | (simp; omega)) _
  · have HE := Lib.hid (sa_5 hk h1 (by rw [hl]; exact hr))
    have br : (rest10 n v == 0) = false := by simp [hr]
    have BR := Lib.hid br
    clear hl hk hkd hr br
    go_enter Try.func32, Try.ntmps32
    go_wp2_with fail
    refine absW ?_
    intro w0 hw
    have hb0 : Below w.heap.size w w0 := by rw [hw]; exact (by repeat' (first | assumption | exact Below.refl _ _ | refine Below.drew ?_ | refine belN ?_ _ | refine Below.alloc ?_ (by first | omega | (simp; done) | (simp; omega)) _ | refine Below.setCell ?_ (by first | omega | (simp; done) | (simp; omega)) _))
    have bR : Blk w0 (w.heap.size + 1) 29 #[.int .i64 0, .int .i64 0, .int .i64 0, .slice none 0 0] := by rw [hw]; exact blk_new (by simp)
    have c0 : w0.cell? ⟨w.heap.size, 0, none⟩ = some (.int .i64 u) := by rw [hw]; simp
    have c1 : w0.cell? ⟨w.heap.size, 1, none⟩ = some (.int .i64 o) := by rw [hw]; simp
    have c2 : w0.cell? ⟨w.heap.size, 2, none⟩ = some (.int .i64 t) := by rw [hw]; simp
    have c3 : w0.cell? ⟨w.heap.size, 3, none⟩ = some (.slice A n c) := by rw [hw]; simp
    have zR0 := bR.lt
    clear hw
    refine (sOkA _ (rdB h hb0) HL.out hm c0 c1 c2 c3).mono ?_
    rintro e w' ⟨rfl, k1, rfl⟩
    rw [HK.out]
    go_wp2_with (first | (go_at_call 69; refine (l00In_any _ _ _ _).mono ?_; rintro e w' ⟨rfl, rfl⟩))
    refine (sSet _ ((rdB h hb0).drewN _) HL.out hm c0 c1 c2 c3 n0 n1 ku kt v0 v1).mono ?_
    rintro e w1 ⟨s, rfl, ho, hb⟩
    rw [BR.out]
    obtain ⟨A1, k2, rfl, _, _⟩ := ho.form
    replace bR := (bR.drewN k1).bel hb
    replace hb0 := bel2 (belN hb0 k1) hb
    have zR1 := bR.lt
    have d0 := bR.cell 0; have d1 := bR.cell 1; have d2 := bR.cell 2; have d3 := bR.cell 3; have fR := bR.frozen
    simp at d0 d1 d2 d3
    go_wp2
    refine bodyPost_ret (v := .tuple #[.agg #[.int .i64 0, .int .i64 0, .int .i64 0, .slice none 0 0], .int .i64 5]) (by simp [results, Try.results32, go_sem, d0, d1, d2, d3, zR1]) rfl (sa_z HE.out.1 HE.out.2 ?_)
    exact ((((hb0.setCell (by first | omega | (simp; done) | (simp; omega)) _).setCell (by first | omega | (simp; done) | (simp; omega)) _).setCell (by first | omega | (simp; done) | (simp; omega)) _).setCell (by first | omega | (simp; done) | (simp; omega)) _).alloc (by first | omega | (simp; done) | (simp; omega)) _
end Go.Proofs.Ytpgifgdoikhpbaa
