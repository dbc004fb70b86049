/- Beads between two settings of an abacus. No condition. -/
import Derived.Test.YtpgifgdoikhpbaaValAba
import Derived.Test.YtpgifgdoikhpbaaSameAba
import Derived.Test.YtpgifgdoikhpbaaBel
namespace Go.Proofs.Ytpgifgdoikhpbaa
open Go.RowKit

def absI (x : Int) : Int := if x < 0 then -x else x
def bdQ (p q : Int × Int) : Int := absI (p.1 - q.1) + absI (p.2 - q.2)
def bdT (xs ys : List (Int × Int)) : Nat → Int
  | 0 => 0
  | k + 1 => bdT xs ys k + bdQ (xs.getD k (0, 0)) (ys.getD k (0, 0))
theorem bdT_step {xs ys : List (Int × Int)} {k : Nat} {p q : Int × Int} (hp : xs[k]? = some p) (hq : ys[k]? = some q) : bdT xs ys (k + 1) = bdT xs ys k + bdQ p q := by
  simp [bdT, List.getD_eq_getElem?_getD, hp, hq]
theorem absI_bd {x : Int} (h : -12 ≤ x) (h' : x ≤ 12) : 0 ≤ absI x ∧ absI x ≤ 12 := by unfold absI; split <;> omega
theorem bdQ_bd {u o t u' o' t' : Int} {p q : Int × Int} (hp : rodIn u o t p) (hq : rodIn u' o' t' q) : 0 ≤ bdQ p q ∧ bdQ p q ≤ 24 := by
  unfold rodIn at hp hq
  have h1 := absI_bd (x := p.1 - q.1) (by omega) (by omega)
  have h2 := absI_bd (x := p.2 - q.2) (by omega) (by omega)
  unfold bdQ
  omega
theorem bdT_bd {u o t u' o' t' : Int} {xs ys : List (Int × Int)} (hx : okA u o t xs = true) (hy : okA u' o' t' ys = true) (hl : xs.length = ys.length) : ∀ k, k ≤ xs.length → 0 ≤ bdT xs ys k ∧ bdT xs ys k ≤ 24 * (k : Int)
  | 0, _ => by simp [bdT]
  | k + 1, h => by
    have ih := bdT_bd hx hy hl k (by omega)
    have e1 : xs[k]? = some (xs[k]'(by omega)) := List.getElem?_eq_getElem (by omega)
    have e2 : ys[k]? = some (ys[k]'(by omega)) := List.getElem?_eq_getElem (by omega)
    have := bdQ_bd (okA_rod hx e1) (okA_rod hy e2)
    rw [bdT_step e1 e2]
    omega
def twoB (u o t u' o' t' : Int) (xs ys : List (Int × Int)) : Bool := okA u o t xs && okA u' o' t' ys
def beB (u o t u' o' t' : Int) (xs ys : List (Int × Int)) : Bool := twoB u o t u' o' t' xs ys && sbB u o t u' o' t' xs.length ys.length
def beC (u o t u' o' t' : Int) (xs ys : List (Int × Int)) : Int := if twoB u o t u' o' t' xs ys then (if sbB u o t u' o' t' xs.length ys.length then 0 else 6) else 1
def beV (u o t u' o' t' : Int) (xs ys : List (Int × Int)) : Int := if beB u o t u' o' t' xs ys then bdT xs ys xs.length else 0
theorem be_no {u o t u' o' t' : Int} {xs ys : List (Int × Int)} (h : twoB u o t u' o' t' xs ys = false) : beV u o t u' o' t' xs ys = 0 ∧ beC u o t u' o' t' xs ys = 1 := by simp [beV, beC, beB, h]
theorem be_df {u o t u' o' t' : Int} {xs ys : List (Int × Int)} (h : twoB u o t u' o' t' xs ys = true) (h' : sbB u o t u' o' t' xs.length ys.length = false) : beV u o t u' o' t' xs ys = 0 ∧ beC u o t u' o' t' xs ys = 6 := by simp [beV, beC, beB, h, h']
theorem be_ok {u o t u' o' t' : Int} {xs ys : List (Int × Int)} (h : twoB u o t u' o' t' xs ys = true) (h' : sbB u o t u' o' t' xs.length ys.length = true) : beV u o t u' o' t' xs ys = bdT xs ys xs.length ∧ beC u o t u' o' t' xs ys = 0 := by simp [beV, beC, beB, h, h']

def mxI (a b : Int) : Int := if a < b then b else a
set_option maxHeartbeats 400000 in
theorem sMax (a b : Int) (w : World) : Calls Try.prog 84 #[.int .i64 a, .int .i64 b] w fun e w' => e = .returned (.int .i64 (mxI a b)) ∧ w = w' := by
  by_cases hab : b < a
  all_goals
    go_enter Try.func84, Try.ntmps84
    go_wp2
    go_ret
    exact ⟨ret_n (by unfold mxI; split <;> omega), rfl⟩
set_option maxHeartbeats 400000 in
theorem sSize (x : Int) (w : World) (h : -12 ≤ x) (h' : x ≤ 12) : Calls Try.prog 59 #[.int .i64 x] w fun e w' => e = .returned (.int .i64 (absI x)) ∧ w = w' := by
  go_enter Try.func59, Try.ntmps59
  go_wp2_with (first | (go_at_call 84; refine (sMax _ _ _).mono ?_; rintro e w' ⟨rfl, rfl⟩))
  go_ret
  exact ⟨ret_n (by unfold absI mxI; split <;> split <;> omega), rfl⟩
set_option maxHeartbeats 400000 in
theorem iAbs (x : Int) (w : World) (h : -12 ≤ x) (h' : x ≤ 12) : Calls Try.prog 60 #[.int .i64 x] w fun e w' => e = .returned (.int .i64 (absI x)) ∧ w = w' := by
  by_cases hx : x < 0
  all_goals
    go_enter Try.func60, Try.ntmps60
    go_wp2
    go_ret
    exact ⟨ret_n (by unfold absI; split <;> omega), rfl⟩

section
attribute [local irreducible] wpQuiet
set_option maxRecDepth 100000 in
set_option maxHeartbeats 3200000 in
theorem sBtwA {u o t u' o' t' : Int} {A A' : Option Addr} {n c n' c' : Nat} {xs ys : List (Int × Int)} (w : World) (h : Reads w w.heap.size 2 A n (flat encPair xs)) (h' : Reads w w.heap.size 2 A' n' (flat encPair ys)) (hl : xs.length = n) (hl' : ys.length = n') (hm : n ≤ maxLen) (hm' : n' ≤ maxLen) :
    Calls Try.prog 23 #[.agg #[.int .i64 u, .int .i64 o, .int .i64 t, .slice A n c], .agg #[.int .i64 u', .int .i64 o', .int .i64 t', .slice A' n' c']] w fun e w' => e = .returned (.tuple #[.int .i64 (beV u o t u' o' t' xs ys), .int .i64 (beC u o t u' o' t' xs ys)]) ∧ Below w.heap.size w w' := by
  have hm0 := Lib.hid hm; have hm0' := Lib.hid hm'
  unfold maxLen at hm hm'
  have HL := Lib.hid hl; have HL' := Lib.hid hl'
  cases hx : okA u o t xs
  · have HE := Lib.hid (be_no (u := u) (o := o) (t := t) (u' := u') (o' := o') (t' := t') (xs := xs) (ys := ys) (by simp [twoB, hx]))
    clear hl hl'
    go_enter Try.func23, Try.ntmps23
    go_wp2_with fail
    refine (sOkA _ (((h.alloc (Nat.le_refl _) _).alloc (by simp) _).more (by simp; omega)) HL.out hm0.out (by first | (simp; done) | (simp; rfl)) (by first | (simp; done) | (simp; rfl)) (by first | (simp; done) | (simp; rfl)) (by first | (simp; done) | (simp; rfl))).mono ?_
    rintro e w' ⟨rfl, k1, rfl⟩
    rw [hx]
    go_wp2
    go_ret2
    obtain ⟨e1, e2⟩ := HE.out
    rw [e1, e2]
    exact ⟨rfl, (by repeat' (first | assumption | exact Below.refl _ _ | refine Below.drew ?_ | refine belN ?_ _ | refine Below.alloc ?_ (by first | omega | (simp; done) | (simp; omega)) _ | refine Below.setCell ?_ (by first | omega | (simp; done) | (simp; omega)) _))⟩
  cases hy : okA u' o' t' ys
  · have HE := Lib.hid (be_no (u := u) (o := o) (t := t) (u' := u') (o' := o') (t' := t') (xs := xs) (ys := ys) (by simp [twoB, hy]))
    clear hl hl'
    go_enter Try.func23, Try.ntmps23
    go_wp2_with fail
    refine (sOkA _ (((h.alloc (Nat.le_refl _) _).alloc (by simp) _).more (by simp; omega)) HL.out hm0.out (by first | (simp; done) | (simp; rfl)) (by first | (simp; done) | (simp; rfl)) (by first | (simp; done) | (simp; rfl)) (by first | (simp; done) | (simp; rfl))).mono ?_
    rintro e w' ⟨rfl, k1, rfl⟩
    rw [hx]
    go_wp2_with fail
    refine (sOkA _ ((((h'.alloc (Nat.le_refl _) _).alloc (by simp) _).more (by simp; omega)).drewN _) HL'.out hm0'.out (by first | (simp; done) | (simp; rfl)) (by first | (simp; done) | (simp; rfl)) (by first | (simp; done) | (simp; rfl)) (by first | (simp; done) | (simp; rfl))).mono ?_
    rintro e w' ⟨rfl, k2, rfl⟩
    rw [hy]
    go_wp2
    go_ret2
    obtain ⟨e1, e2⟩ := HE.out
    rw [e1, e2]
    exact ⟨rfl, (by repeat' (first | assumption | exact Below.refl _ _ | refine Below.drew ?_ | refine belN ?_ _ | refine Below.alloc ?_ (by first | omega | (simp; done) | (simp; omega)) _ | refine Below.setCell ?_ (by first | omega | (simp; done) | (simp; omega)) _))⟩
  have h2 : twoB u o t u' o' t' xs ys = true := by simp [twoB, hx, hy]
  have HX := Lib.hid hx; have HY := Lib.hid hy
  by_cases e0 : u = u'
  rotate_left
  · have b0 : (u == u') = false := by simp [e0]
    have b1 : (u != u') = true := by simp [bne, b0]
    have HE := Lib.hid (be_df h2 (by simp [sbB, e0]))
    clear hl hl' hx hy h2
    go_enter Try.func23, Try.ntmps23
    go_wp2_with fail
    refine (sOkA _ (((h.alloc (Nat.le_refl _) _).alloc (by simp) _).more (by simp; omega)) HL.out hm0.out (by first | (simp; done) | (simp; rfl)) (by first | (simp; done) | (simp; rfl)) (by first | (simp; done) | (simp; rfl)) (by first | (simp; done) | (simp; rfl))).mono ?_
    rintro e w' ⟨rfl, k1, rfl⟩
    rw [HX.out]
    go_wp2_with fail
    refine (sOkA _ ((((h'.alloc (Nat.le_refl _) _).alloc (by simp) _).more (by simp; omega)).drewN _) HL'.out hm0'.out (by first | (simp; done) | (simp; rfl)) (by first | (simp; done) | (simp; rfl)) (by first | (simp; done) | (simp; rfl)) (by first | (simp; done) | (simp; rfl))).mono ?_
    rintro e w' ⟨rfl, k2, rfl⟩
    rw [HY.out]
    go_wp2
    go_ret2
    obtain ⟨e1, e2⟩ := HE.out
    rw [e1, e2]
    exact ⟨rfl, (by repeat' (first | assumption | exact Below.refl _ _ | refine Below.drew ?_ | refine belN ?_ _ | refine Below.alloc ?_ (by first | omega | (simp; done) | (simp; omega)) _ | refine Below.setCell ?_ (by first | omega | (simp; done) | (simp; omega)) _))⟩
  subst e0
  by_cases e0 : o = o'
  rotate_left
  · have b0 : (o == o') = false := by simp [e0]
    have b1 : (o != o') = true := by simp [bne, b0]
    have HE := Lib.hid (be_df h2 (by simp [sbB, e0]))
    clear hl hl' hx hy h2
    go_enter Try.func23, Try.ntmps23
    go_wp2_with fail
    refine (sOkA _ (((h.alloc (Nat.le_refl _) _).alloc (by simp) _).more (by simp; omega)) HL.out hm0.out (by first | (simp; done) | (simp; rfl)) (by first | (simp; done) | (simp; rfl)) (by first | (simp; done) | (simp; rfl)) (by first | (simp; done) | (simp; rfl))).mono ?_
    rintro e w' ⟨rfl, k1, rfl⟩
    rw [HX.out]
    go_wp2_with fail
    refine (sOkA _ ((((h'.alloc (Nat.le_refl _) _).alloc (by simp) _).more (by simp; omega)).drewN _) HL'.out hm0'.out (by first | (simp; done) | (simp; rfl)) (by first | (simp; done) | (simp; rfl)) (by first | (simp; done) | (simp; rfl)) (by first | (simp; done) | (simp; rfl))).mono ?_
    rintro e w' ⟨rfl, k2, rfl⟩
    rw [HY.out]
    go_wp2
    go_ret2
    obtain ⟨e1, e2⟩ := HE.out
    rw [e1, e2]
    exact ⟨rfl, (by repeat' (first | assumption | exact Below.refl _ _ | refine Below.drew ?_ | refine belN ?_ _ | refine Below.alloc ?_ (by first | omega | (simp; done) | (simp; omega)) _ | refine Below.setCell ?_ (by first | omega | (simp; done) | (simp; omega)) _))⟩
  subst e0
  by_cases e0 : t = t'
  rotate_left
  · have b0 : (t == t') = false := by simp [e0]
    have b1 : (t != t') = true := by simp [bne, b0]
    have HE := Lib.hid (be_df h2 (by simp [sbB, e0]))
    clear hl hl' hx hy h2
    go_enter Try.func23, Try.ntmps23
    go_wp2_with fail
    refine (sOkA _ (((h.alloc (Nat.le_refl _) _).alloc (by simp) _).more (by simp; omega)) HL.out hm0.out (by first | (simp; done) | (simp; rfl)) (by first | (simp; done) | (simp; rfl)) (by first | (simp; done) | (simp; rfl)) (by first | (simp; done) | (simp; rfl))).mono ?_
    rintro e w' ⟨rfl, k1, rfl⟩
    rw [HX.out]
    go_wp2_with fail
    refine (sOkA _ ((((h'.alloc (Nat.le_refl _) _).alloc (by simp) _).more (by simp; omega)).drewN _) HL'.out hm0'.out (by first | (simp; done) | (simp; rfl)) (by first | (simp; done) | (simp; rfl)) (by first | (simp; done) | (simp; rfl)) (by first | (simp; done) | (simp; rfl))).mono ?_
    rintro e w' ⟨rfl, k2, rfl⟩
    rw [HY.out]
    go_wp2
    go_ret2
    obtain ⟨e1, e2⟩ := HE.out
    rw [e1, e2]
    exact ⟨rfl, (by repeat' (first | assumption | exact Below.refl _ _ | refine Below.drew ?_ | refine belN ?_ _ | refine Below.alloc ?_ (by first | omega | (simp; done) | (simp; omega)) _ | refine Below.setCell ?_ (by first | omega | (simp; done) | (simp; omega)) _))⟩
  subst e0
  by_cases e0 : n = n'
  rotate_left
  · have b0 : ((n : Int) == (n' : Int)) = false := by simp; omega
    have b1 : ((n : Int) != (n' : Int)) = true := by simp [bne, b0]
    have HE := Lib.hid (be_df h2 (by simp [sbB, hl, hl', e0]))
    clear hl hl' hx hy h2
    go_enter Try.func23, Try.ntmps23
    go_wp2_with fail
    refine (sOkA _ (((h.alloc (Nat.le_refl _) _).alloc (by simp) _).more (by simp; omega)) HL.out hm0.out (by first | (simp; done) | (simp; rfl)) (by first | (simp; done) | (simp; rfl)) (by first | (simp; done) | (simp; rfl)) (by first | (simp; done) | (simp; rfl))).mono ?_
    rintro e w' ⟨rfl, k1, rfl⟩
    rw [HX.out]
    go_wp2_with fail
    refine (sOkA _ ((((h'.alloc (Nat.le_refl _) _).alloc (by simp) _).more (by simp; omega)).drewN _) HL'.out hm0'.out (by first | (simp; done) | (simp; rfl)) (by first | (simp; done) | (simp; rfl)) (by first | (simp; done) | (simp; rfl)) (by first | (simp; done) | (simp; rfl))).mono ?_
    rintro e w' ⟨rfl, k2, rfl⟩
    rw [HY.out]
    go_wp2
    go_ret2
    obtain ⟨e1, e2⟩ := HE.out
    rw [e1, e2]
    exact ⟨rfl, (by repeat' (first | assumption | exact Below.refl _ _ | refine Below.drew ?_ | refine belN ?_ _ | refine Below.alloc ?_ (by first | omega | (simp; done) | (simp; omega)) _ | refine Below.setCell ?_ (by first | omega | (simp; done) | (simp; omega)) _))⟩
  subst e0
  have HE := Lib.hid (be_ok h2 (by simp [sbB, hl, hl']))
  have HB := Lib.hid (fun k hk => bdT_bd hx hy (hl.trans hl'.symm) k (Nat.le_trans hk (Nat.le_of_eq hl.symm)))
  obtain ⟨_, _, n1⟩ := okA_parts hx
  rw [hl] at n1
  have HOX := HX; have HOY := HY
  clear hl hl' hx hy h2
  go_enter Try.func23, Try.ntmps23
  go_wp2_with fail
  refine absW ?_
  intro w0 hw
  have hb0 : Below w.heap.size w w0 := by rw [hw]; exact (by repeat' (first | assumption | exact Below.refl _ _ | refine Below.drew ?_ | refine belN ?_ _ | refine Below.alloc ?_ (by first | omega | (simp; done) | (simp; omega)) _ | refine Below.setCell ?_ (by first | omega | (simp; done) | (simp; omega)) _))
  have c0 : w0.cell? ⟨w.heap.size, 0, none⟩ = some (.int .i64 u) := by rw [hw]; simp
  have c1 : w0.cell? ⟨w.heap.size, 1, none⟩ = some (.int .i64 o) := by rw [hw]; simp
  have c2 : w0.cell? ⟨w.heap.size, 2, none⟩ = some (.int .i64 t) := by rw [hw]; simp
  have c3 : w0.cell? ⟨w.heap.size, 3, none⟩ = some (.slice A n c) := by rw [hw]; simp
  have d0 : w0.cell? ⟨w.heap.size + 1, 0, none⟩ = some (.int .i64 u) := by rw [hw]; simp
  have d1 : w0.cell? ⟨w.heap.size + 1, 1, none⟩ = some (.int .i64 o) := by rw [hw]; simp
  have d2 : w0.cell? ⟨w.heap.size + 1, 2, none⟩ = some (.int .i64 t) := by rw [hw]; simp
  have d3 : w0.cell? ⟨w.heap.size + 1, 3, none⟩ = some (.slice A' n c') := by rw [hw]; simp
  clear hw
  have g1 := rdB h hb0; have g2 := rdB h' hb0
  refine (sOkA _ g1 HL.out hm0.out c0 c1 c2 c3).mono ?_
  rintro e w' ⟨rfl, k1, rfl⟩
  rw [HX.out]
  go_wp2_with fail
  refine (sOkA _ (g2.drewN k1) HL'.out hm0'.out d0 d1 d2 d3).mono ?_
  rintro e w' ⟨rfl, k2, rfl⟩
  rw [HY.out]
  go_wp2
  go_loopw [6, 7] (fun s i wr => ∃ k m : Nat, k ≤ n ∧ i = .int .i64 k ∧ s = .int .i64 (bdT xs ys k) ∧ wr = w0.drewN m) (fun _ i _ => n - (intOf i).toNat)
  case atStart => exact ⟨0, _, Nat.zero_le _, rfl, rfl, by first | rfl | exact World.drewN_drewN _ _ _⟩
  case round =>
    obtain ⟨k, m, hk, rfl, rfl, rfl⟩ := hrel
    obtain ⟨v0, v1⟩ := HB.out k hk
    by_cases hlt : k < n
    · skip
      obtain ⟨b1, o1, p, rfl, _, hp, hc⟩ := g1.row_at encPair_length (by decide) HL.out hlt
      obtain ⟨b2, o2, q, rfl, _, hq, hd⟩ := g2.row_at encPair_length (by decide) HL'.out hlt
      have hrp := okA_rod HOX.out hp
      have hrq := okA_rod HOY.out hq
      have hQ := bdQ_bd hrp hrq
      obtain ⟨⟨p0, p1, p2⟩, ⟨p3, p4, p5⟩, _⟩ := hrp
      obtain ⟨⟨q0, q1, q2⟩, ⟨q3, q4, q5⟩, _⟩ := hrq
      have HS := Lib.hid (bdT_step hp hq)
      clear hp hq
      have s0 := hc 0 _ rfl; have s1 := hc 1 _ rfl
      have r0 := hd 0 _ rfl; have r1 := hd 1 _ rfl
      simp only [Nat.add_zero] at s0 r0
      clear hc hd
      have ki0 : (0 : Int) ≤ (k : Int) := Int.natCast_nonneg _
      have ki1 : (k : Int) < (n : Int) := by omega
      have A1 := absI_bd (x := p.1 - q.1) (by omega) (by omega)
      have A2 := absI_bd (x := p.2 - q.2) (by omega) (by omega)
      have HQ : Hid (bdQ p q = absI (p.1 - q.1) + absI (p.2 - q.2)) := rfl
      have CA := Lib.hid (fun W => sSize (p.1 - q.1) W (by omega) (by omega))
      have CB := Lib.hid (fun W => sSize (p.2 - q.2) W (by omega) (by omega))
      clear hQ
      have W1 : IntKind.i64.wrap (p.1 - q.1) = p.1 - q.1 := IntWalk.i64_in _ (by omega)
      have W2 : IntKind.i64.wrap (p.2 - q.2) = p.2 - q.2 := IntWalk.i64_in _ (by omega)
      have W3 : IntKind.i64.wrap (absI (p.1 - q.1) + absI (p.2 - q.2)) = absI (p.1 - q.1) + absI (p.2 - q.2) := IntWalk.i64_in _ (by omega)
      have W4 : IntKind.i64.wrap (bdT xs ys k + (absI (p.1 - q.1) + absI (p.2 - q.2))) = bdT xs ys k + (absI (p.1 - q.1) + absI (p.2 - q.2)) := IntWalk.i64_in _ (by omega)
      go_wp2_with fail
      go_quiet ((go_at_call 59; (first | refine quietD (CA.out _) ?_ | refine quietD (CB.out _) ?_); first | exact ⟨_, rfl⟩ | exact ⟨_, (World.drewN_drewN _ _ _).symm⟩))
      go_wp2
      go_roundw
      case rel => exact ⟨k + 1, _, by omega, by go_num, by rw [HS.out, HQ.out], by first | rfl | exact World.drewN_drewN _ _ _⟩
      case measure => simp [intOf]; omega
    · obtain rfl : k = n := by omega
      go_wp2
      go_ret2
      obtain ⟨e1, e2⟩ := HE.out
      rw [e1, e2, HL.out]
      exact ⟨rfl, (by repeat' (first | assumption | exact Below.refl _ _ | refine Below.drew ?_ | refine belN ?_ _ | refine Below.alloc ?_ (by first | omega | (simp; done) | (simp; omega)) _ | refine Below.setCell ?_ (by first | omega | (simp; done) | (simp; omega)) _))⟩

set_option maxRecDepth 100000 in
set_option maxHeartbeats 3200000 in
theorem iBtwA {u o t u' o' t' : Int} {A A' : Option Addr} {n c n' c' : Nat} {xs ys : List (Int × Int)} (w : World) (h : Reads w w.heap.size 2 A n (flat encPair xs)) (h' : Reads w w.heap.size 2 A' n' (flat encPair ys)) (hl : xs.length = n) (hl' : ys.length = n') (hm : n ≤ maxLen) (hm' : n' ≤ maxLen) :
    Calls Try.prog 24 #[.agg #[.int .i64 u, .int .i64 o, .int .i64 t, .slice A n c], .agg #[.int .i64 u', .int .i64 o', .int .i64 t', .slice A' n' c']] w fun e w' => e = .returned (.tuple #[.int .i64 (beV u o t u' o' t' xs ys), .int .i64 (beC u o t u' o' t' xs ys)]) ∧ Below w.heap.size w w' := by
  have hm0 := Lib.hid hm; have hm0' := Lib.hid hm'
  unfold maxLen at hm hm'
  have HL := Lib.hid hl; have HL' := Lib.hid hl'
  cases hx : okA u o t xs
  · have HE := Lib.hid (be_no (u := u) (o := o) (t := t) (u' := u') (o' := o') (t' := t') (xs := xs) (ys := ys) (by simp [twoB, hx]))
    clear hl hl'
    go_enter Try.func24, Try.ntmps24
    go_wp2_with fail
    refine absW ?_
    intro w0 hw
    have hb0 : Below w.heap.size w w0 := by rw [hw]; exact (by repeat' (first | assumption | exact Below.refl _ _ | refine Below.drew ?_ | refine belN ?_ _ | refine Below.alloc ?_ (by first | omega | (simp; done) | (simp; omega)) _ | refine Below.setCell ?_ (by first | omega | (simp; done) | (simp; omega)) _))
    have c0 : w0.cell? ⟨w.heap.size, 0, none⟩ = some (.int .i64 u) := by rw [hw]; simp
    have c1 : w0.cell? ⟨w.heap.size, 1, none⟩ = some (.int .i64 o) := by rw [hw]; simp
    have c2 : w0.cell? ⟨w.heap.size, 2, none⟩ = some (.int .i64 t) := by rw [hw]; simp
    have c3 : w0.cell? ⟨w.heap.size, 3, none⟩ = some (.slice A n c) := by rw [hw]; simp
    have d0 : w0.cell? ⟨w.heap.size + 1, 0, none⟩ = some (.int .i64 u') := by rw [hw]; simp
    have d1 : w0.cell? ⟨w.heap.size + 1, 1, none⟩ = some (.int .i64 o') := by rw [hw]; simp
    have d2 : w0.cell? ⟨w.heap.size + 1, 2, none⟩ = some (.int .i64 t') := by rw [hw]; simp
    have d3 : w0.cell? ⟨w.heap.size + 1, 3, none⟩ = some (.slice A' n' c') := by rw [hw]; simp
    clear hw
    refine (iValidAba _ (rdB h hb0) HL.out hm0.out).mono ?_
    rintro e w1 ⟨rfl, hb⟩
    rw [hx]
    go_wp2
    go_ret2
    obtain ⟨e1, e2⟩ := HE.out
    rw [e1, e2]
    exact ⟨rfl, bel2 hb0 hb⟩
  cases hy : okA u' o' t' ys
  · have HE := Lib.hid (be_no (u := u) (o := o) (t := t) (u' := u') (o' := o') (t' := t') (xs := xs) (ys := ys) (by simp [twoB, hy]))
    clear hl hl'
    go_enter Try.func24, Try.ntmps24
    go_wp2_with fail
    refine absW ?_
    intro w0 hw
    have hb0 : Below w.heap.size w w0 := by rw [hw]; exact (by repeat' (first | assumption | exact Below.refl _ _ | refine Below.drew ?_ | refine belN ?_ _ | refine Below.alloc ?_ (by first | omega | (simp; done) | (simp; omega)) _ | refine Below.setCell ?_ (by first | omega | (simp; done) | (simp; omega)) _))
    have c0 : w0.cell? ⟨w.heap.size, 0, none⟩ = some (.int .i64 u) := by rw [hw]; simp
    have c1 : w0.cell? ⟨w.heap.size, 1, none⟩ = some (.int .i64 o) := by rw [hw]; simp
    have c2 : w0.cell? ⟨w.heap.size, 2, none⟩ = some (.int .i64 t) := by rw [hw]; simp
    have c3 : w0.cell? ⟨w.heap.size, 3, none⟩ = some (.slice A n c) := by rw [hw]; simp
    have d0 : w0.cell? ⟨w.heap.size + 1, 0, none⟩ = some (.int .i64 u') := by rw [hw]; simp
    have d1 : w0.cell? ⟨w.heap.size + 1, 1, none⟩ = some (.int .i64 o') := by rw [hw]; simp
    have d2 : w0.cell? ⟨w.heap.size + 1, 2, none⟩ = some (.int .i64 t') := by rw [hw]; simp
    have d3 : w0.cell? ⟨w.heap.size + 1, 3, none⟩ = some (.slice A' n' c') := by rw [hw]; simp
    clear hw
    refine (iValidAba _ (rdB h hb0) HL.out hm0.out).mono ?_
    rintro e w1 ⟨rfl, hb⟩
    replace c0 := cellB c0 hb
    replace c1 := cellB c1 hb
    replace c2 := cellB c2 hb
    replace c3 := cellB c3 hb
    replace d0 := cellB d0 hb
    replace d1 := cellB d1 hb
    replace d2 := cellB d2 hb
    replace d3 := cellB d3 hb
    replace hb0 := bel2 hb0 hb
    clear hb
    rw [hx]
    go_wp2_with fail
    refine (iValidAba _ (rdB h' hb0) HL'.out hm0'.out).mono ?_
    rintro e w2 ⟨rfl, hb⟩
    rw [hy]
    go_wp2
    go_ret2
    obtain ⟨e1, e2⟩ := HE.out
    rw [e1, e2]
    exact ⟨rfl, bel2 hb0 hb⟩
  have h2 : twoB u o t u' o' t' xs ys = true := by simp [twoB, hx, hy]
  have HX := Lib.hid hx; have HY := Lib.hid hy
  cases hs : sbB u o t u' o' t' n n'
  · have HE := Lib.hid (be_df h2 (by rw [hl, hl']; exact hs))
    clear hl hl' hx hy h2
    go_enter Try.func24, Try.ntmps24
    go_wp2_with fail
    refine absW ?_
    intro w0 hw
    have hb0 : Below w.heap.size w w0 := by rw [hw]; exact (by repeat' (first | assumption | exact Below.refl _ _ | refine Below.drew ?_ | refine belN ?_ _ | refine Below.alloc ?_ (by first | omega | (simp; done) | (simp; omega)) _ | refine Below.setCell ?_ (by first | omega | (simp; done) | (simp; omega)) _))
    have c0 : w0.cell? ⟨w.heap.size, 0, none⟩ = some (.int .i64 u) := by rw [hw]; simp
    have c1 : w0.cell? ⟨w.heap.size, 1, none⟩ = some (.int .i64 o) := by rw [hw]; simp
    have c2 : w0.cell? ⟨w.heap.size, 2, none⟩ = some (.int .i64 t) := by rw [hw]; simp
    have c3 : w0.cell? ⟨w.heap.size, 3, none⟩ = some (.slice A n c) := by rw [hw]; simp
    have d0 : w0.cell? ⟨w.heap.size + 1, 0, none⟩ = some (.int .i64 u') := by rw [hw]; simp
    have d1 : w0.cell? ⟨w.heap.size + 1, 1, none⟩ = some (.int .i64 o') := by rw [hw]; simp
    have d2 : w0.cell? ⟨w.heap.size + 1, 2, none⟩ = some (.int .i64 t') := by rw [hw]; simp
    have d3 : w0.cell? ⟨w.heap.size + 1, 3, none⟩ = some (.slice A' n' c') := by rw [hw]; simp
    clear hw
    refine (iValidAba _ (rdB h hb0) HL.out hm0.out).mono ?_
    rintro e w1 ⟨rfl, hb⟩
    replace c0 := cellB c0 hb
    replace c1 := cellB c1 hb
    replace c2 := cellB c2 hb
    replace c3 := cellB c3 hb
    replace d0 := cellB d0 hb
    replace d1 := cellB d1 hb
    replace d2 := cellB d2 hb
    replace d3 := cellB d3 hb
    replace hb0 := bel2 hb0 hb
    clear hb
    rw [HX.out]
    go_wp2_with fail
    refine (iValidAba _ (rdB h' hb0) HL'.out hm0'.out).mono ?_
    rintro e w2 ⟨rfl, hb⟩
    replace c0 := cellB c0 hb
    replace c1 := cellB c1 hb
    replace c2 := cellB c2 hb
    replace c3 := cellB c3 hb
    replace d0 := cellB d0 hb
    replace d1 := cellB d1 hb
    replace d2 := cellB d2 hb
    replace d3 := cellB d3 hb
    replace hb0 := bel2 hb0 hb
    clear hb
    rw [HY.out]
    go_wp2_with fail
    refine (iBeads _ hm0.out hm0'.out).mono ?_
    rintro e w3 ⟨rfl, hb⟩
    rw [hs]
    go_wp2
    go_ret2
    obtain ⟨e1, e2⟩ := HE.out
    rw [e1, e2]
    exact ⟨rfl, bel2 hb0 hb⟩
  have HE := Lib.hid (be_ok h2 (by rw [hl, hl']; exact hs))
  have e0 : n = n' := by
    simp only [sbB, Bool.and_eq_true, decide_eq_true_eq] at hs
    exact hs.2
  subst e0
  have HB := Lib.hid (fun k hk => bdT_bd hx hy (hl.trans hl'.symm) k (Nat.le_trans hk (Nat.le_of_eq hl.symm)))
  obtain ⟨_, _, n1⟩ := okA_parts hx
  rw [hl] at n1
  have HOX := HX; have HOY := HY; have HSB := Lib.hid hs
  clear hl hl' hx hy h2 hs
  go_enter Try.func24, Try.ntmps24
  go_wp2_with fail
  refine absW ?_
  intro w0 hw
  have hb0 : Below w.heap.size w w0 := by rw [hw]; exact (by repeat' (first | assumption | exact Below.refl _ _ | refine Below.drew ?_ | refine belN ?_ _ | refine Below.alloc ?_ (by first | omega | (simp; done) | (simp; omega)) _ | refine Below.setCell ?_ (by first | omega | (simp; done) | (simp; omega)) _))
  have c0 : w0.cell? ⟨w.heap.size, 0, none⟩ = some (.int .i64 u) := by rw [hw]; simp
  have c1 : w0.cell? ⟨w.heap.size, 1, none⟩ = some (.int .i64 o) := by rw [hw]; simp
  have c2 : w0.cell? ⟨w.heap.size, 2, none⟩ = some (.int .i64 t) := by rw [hw]; simp
  have c3 : w0.cell? ⟨w.heap.size, 3, none⟩ = some (.slice A n c) := by rw [hw]; simp
  have d0 : w0.cell? ⟨w.heap.size + 1, 0, none⟩ = some (.int .i64 u') := by rw [hw]; simp
  have d1 : w0.cell? ⟨w.heap.size + 1, 1, none⟩ = some (.int .i64 o') := by rw [hw]; simp
  have d2 : w0.cell? ⟨w.heap.size + 1, 2, none⟩ = some (.int .i64 t') := by rw [hw]; simp
  have d3 : w0.cell? ⟨w.heap.size + 1, 3, none⟩ = some (.slice A' n c') := by rw [hw]; simp
  clear hw
  refine (iValidAba _ (rdB h hb0) HL.out hm0.out).mono ?_
  rintro e w1 ⟨rfl, hb⟩
  replace c0 := cellB c0 hb
  replace c1 := cellB c1 hb
  replace c2 := cellB c2 hb
  replace c3 := cellB c3 hb
  replace d0 := cellB d0 hb
  replace d1 := cellB d1 hb
  replace d2 := cellB d2 hb
  replace d3 := cellB d3 hb
  replace hb0 := bel2 hb0 hb
  clear hb
  rw [HX.out]
  go_wp2_with fail
  refine (iValidAba _ (rdB h' hb0) HL'.out hm0'.out).mono ?_
  rintro e w2 ⟨rfl, hb⟩
  replace c0 := cellB c0 hb
  replace c1 := cellB c1 hb
  replace c2 := cellB c2 hb
  replace c3 := cellB c3 hb
  replace d0 := cellB d0 hb
  replace d1 := cellB d1 hb
  replace d2 := cellB d2 hb
  replace d3 := cellB d3 hb
  replace hb0 := bel2 hb0 hb
  clear hb
  rw [HY.out]
  go_wp2_with fail
  refine (iBeads _ hm0.out hm0'.out).mono ?_
  rintro e w3 ⟨rfl, hb⟩
  replace c0 := cellB c0 hb
  replace c1 := cellB c1 hb
  replace c2 := cellB c2 hb
  replace c3 := cellB c3 hb
  replace d0 := cellB d0 hb
  replace d1 := cellB d1 hb
  replace d2 := cellB d2 hb
  replace d3 := cellB d3 hb
  replace hb0 := bel2 hb0 hb
  clear hb
  rw [HSB.out]
  go_wp2
  have g1 := rdB h hb0; have g2 := rdB h' hb0
  go_loopw [6, 23] (fun s i wr => ∃ k m : Nat, k ≤ n ∧ i = .int .i64 k ∧ s = .int .i64 (bdT xs ys k) ∧ wr = w3.drewN m) (fun _ i _ => n - (intOf i).toNat)
  case atStart => exact ⟨0, 0, Nat.zero_le _, rfl, rfl, rfl⟩
  case round =>
    obtain ⟨k, m, hk, rfl, rfl, rfl⟩ := hrel
    obtain ⟨v0, v1⟩ := HB.out k hk
    by_cases hlt : k < n
    · skip
      obtain ⟨b1, o1, p, rfl, _, hp, hc⟩ := g1.row_at encPair_length (by decide) HL.out hlt
      obtain ⟨b2, o2, q, rfl, _, hq, hd⟩ := g2.row_at encPair_length (by decide) HL'.out hlt
      have hrp := okA_rod HOX.out hp
      have hrq := okA_rod HOY.out hq
      have hQ := bdQ_bd hrp hrq
      obtain ⟨⟨p0, p1, p2⟩, ⟨p3, p4, p5⟩, _⟩ := hrp
      obtain ⟨⟨q0, q1, q2⟩, ⟨q3, q4, q5⟩, _⟩ := hrq
      have HS := Lib.hid (bdT_step hp hq)
      clear hp hq
      have s0 := hc 0 _ rfl; have s1 := hc 1 _ rfl
      have r0 := hd 0 _ rfl; have r1 := hd 1 _ rfl
      simp only [Nat.add_zero] at s0 r0
      clear hc hd
      have ki0 : (0 : Int) ≤ (k : Int) := Int.natCast_nonneg _
      have ki1 : (k : Int) < (n : Int) := by omega
      have A1 := absI_bd (x := p.1 - q.1) (by omega) (by omega)
      have A2 := absI_bd (x := p.2 - q.2) (by omega) (by omega)
      have HQ : Hid (bdQ p q = absI (p.1 - q.1) + absI (p.2 - q.2)) := rfl
      have CA := Lib.hid (fun W => iAbs (p.1 - q.1) W (by omega) (by omega))
      have CB := Lib.hid (fun W => iAbs (p.2 - q.2) W (by omega) (by omega))
      clear hQ
      have W1 : IntKind.i64.wrap (p.1 - q.1) = p.1 - q.1 := IntWalk.i64_in _ (by omega)
      have W2 : IntKind.i64.wrap (p.2 - q.2) = p.2 - q.2 := IntWalk.i64_in _ (by omega)
      have W3 : IntKind.i64.wrap (absI (p.1 - q.1) + absI (p.2 - q.2)) = absI (p.1 - q.1) + absI (p.2 - q.2) := IntWalk.i64_in _ (by omega)
      have W4 : IntKind.i64.wrap (bdT xs ys k + (absI (p.1 - q.1) + absI (p.2 - q.2))) = bdT xs ys k + (absI (p.1 - q.1) + absI (p.2 - q.2)) := IntWalk.i64_in _ (by omega)
      go_wp2_with fail
      go_quiet ((go_at_call 60; (first | refine quietD (CA.out _) ?_ | refine quietD (CB.out _) ?_); first | exact ⟨_, rfl⟩ | exact ⟨_, (World.drewN_drewN _ _ _).symm⟩))
      go_wp2
      go_roundw
      case rel => exact ⟨k + 1, _, by omega, by go_num, by rw [HS.out, HQ.out], by first | rfl | exact World.drewN_drewN _ _ _⟩
      case measure => simp [intOf]; omega
    · obtain rfl : k = n := by omega
      go_wp2
      go_ret2
      obtain ⟨e1, e2⟩ := HE.out
      rw [e1, e2, HL.out]
      exact ⟨rfl, bel2 hb0 (RetQ.bel _)⟩
end
end Go.Proofs.Ytpgifgdoikhpbaa
