/- Registers in text. No condition. -/
import Derived.Test.YtlnajkimlooapaaDoorValid
import Derived.Test.YtlnajkimlooapaaDoorEvt
namespace Go.Proofs.YtlnajkimlooapaaDoor
open Go.RowKit

def hx : ByteArray := ByteArray.mk #[48, 49, 50, 51, 52, 53, 54, 55, 56, 57, 97, 98, 99, 100, 101, 102]
/-- The character of a digit, as a text. -/
def hexC (d : Int) : ByteArray := hx.extract d.toNat (d.toNat + 1)
theorem hexC_size (d : Int) : (hexC d).size ≤ 1 := by
  rw [hexC, ByteArray.size_extract]
  omega
/-- The text of a register, of which j digits are written. -/
def tx (b : Int) (xs : List Int) : Nat → ByteArray
  | 0 => decS b ++ ByteArray.mk #[58]
  | j + 1 => tx b xs j ++ hexC (xs.getD (xs.length - 1 - j) 0)
theorem tx_zero (b : Int) (xs : List Int) : tx b xs 0 = decS b ++ ByteArray.mk #[58] := rfl
theorem tx_size {b : Int} (hb : inI b) (xs : List Int) : ∀ j, (tx b xs j).size ≤ 21 + j
  | 0 => by
    have := itoa_small hb
    rw [tx, ByteArray.size_append]
    have : (ByteArray.mk #[58]).size = 1 := rfl
    omega
  | j + 1 => by
    have := tx_size hb xs j
    have := hexC_size (xs.getD (xs.length - 1 - j) 0)
    rw [tx, ByteArray.size_append]
    omega
theorem tx_step {b x : Int} {xs : List Int} {n k : Nat} (hl : xs.length = n) (hk : k < n) (hx : xs[k]? = some x) : tx b xs (n - k) = tx b xs (n - (k + 1)) ++ hexC x := by
  rw [show n - k = (n - (k + 1)) + 1 by omega, tx, hl, show n - 1 - (n - (k + 1)) = k by omega, List.getD_eq_getElem?_getD, hx]
  rfl
def regT (b : Int) (xs : List Int) : ByteArray := if okR b xs then tx b xs xs.length else ByteArray.mk #[]
def RegTP (b : Int) (xs : List Int) (w : World) (e : Ending) (w' : World) : Prop := e = .returned (.string (regT b xs)) ∧ Below w.heap.size w w'
section
attribute [local irreducible] decS tx hexC wpQuiet

set_option maxRecDepth 100000 in
set_option maxHeartbeats 3200000 in
theorem sText {b : Int} {A : Option Addr} {n c : Nat} {xs : List Int} (w : World) (h : Reads w w.heap.size 1 A n (xs.map (Value.int .i64))) (hl : xs.length = n) {g : Nat} (c0 : w.cell? ⟨g, 0, none⟩ = some (.int .i64 b)) (c1 : w.cell? ⟨g, 1, none⟩ = some (.slice A n c)) (hok : okR b xs = true) :
    Calls Tryd.prog 30 #[.pointer (some ⟨g, 0, none⟩)] w fun e w' => e = .returned (.string (tx b xs n)) ∧ Below w.heap.size w w' := by
  obtain ⟨⟨b0, b1⟩, ⟨n0, n1⟩, hd, _⟩ := okR_parts hok
  rw [hl] at n0 n1
  have hb : inI b := by unfold inI; omega
  have HD := Lib.hid hd; have HL := Lib.hid hl
  have hts := Lib.hid (tx_size hb xs)
  have hds := itoa_small hb
  clear hd hl hok
  go_enter Tryd.func30, Tryd.ntmps30
  go_wp2_with fail
  refine (sDec _ hb).mono ?_
  rintro e w1 ⟨rfl, hb1⟩
  have e0 := cellB c0 hb1; have e1 := cellB c1 hb1
  have hr := rdB h hb1
  clear c0 c1 h
  go_wp2
  go_loopw [4, 5] (fun s i wr => ∃ k m : Nat, k ≤ n ∧ i = .int .i64 ((k : Int) - 1) ∧ s = .string (tx b xs (n - k)) ∧ wr = w1.drewN m) (fun _ i _ => (intOf i + 1).toNat)
  case atStart => exact ⟨n, 0, Nat.le_refl _, rfl, by rw [Nat.sub_self, tx_zero], rfl⟩
  case round =>
    obtain ⟨k, m, hk, hi, rfl, rfl⟩ := hrel
    rcases k with _ | j
    · subst hi
      go_wp2
      go_ret
      exact ⟨rfl, belN hb1 _⟩
    · rw [show (((j + 1 : Nat) : Int) - 1) = (j : Int) by omega] at hi
      subst hi
      obtain ⟨ad, x, rfl, _, hx, hc⟩ := hr.int_at (show j < n by omega)
      obtain ⟨x0, x1⟩ := dig_at HD.out hx
      have HS := Lib.hid (tx_step (b := b) HL.out (show j < n by omega) hx); clear hx
      have hz := hts.out (n - (j + 1))
      obtain ⟨q, rfl⟩ := Int.eq_ofNat_of_zero_le x0
      have HX : Hid (hexC q = hx.extract q (q + 1)) := by unfold Hid hexC; rfl
      have W1 : IntKind.i64.wrap ((q : Int) + 1) = (q : Int) + 1 := IntWalk.i64_in _ (by omega)
      have q16 : q ≤ 15 := by omega
      clear x0 x1
      go_wp2
      go_quiet (fail)
      go_wp2
      go_roundw
      case rel => exact ⟨j, m + nq, by omega, by go_num, by rw [HS.out, HX.out]; rfl, by first | rfl | exact World.drewN_drewN _ _ _⟩
      case measure => simp [intOf]

theorem regT_no {b : Int} {xs : List Int} (h : okR b xs = false) : regT b xs = ByteArray.mk #[] := by rw [regT, h]; rfl
theorem regT_yes {b : Int} {xs : List Int} (h : okR b xs = true) : regT b xs = tx b xs xs.length := by rw [regT, h]; rfl
set_option maxRecDepth 100000 in
set_option maxHeartbeats 3200000 in
theorem sRegText {b : Int} {A : Option Addr} {n c : Nat} {xs : List Int} (w : World) (h : Reads w w.heap.size 1 A n (xs.map (Value.int .i64))) (hl : xs.length = n) (hm : n ≤ maxLen) :
    Calls Tryd.prog 16 #[.agg #[.int .i64 b, .slice A n c]] w (RegTP b xs w) := by
  have HL := Lib.hid hl; clear hl
  go_enter Tryd.func16, Tryd.ntmps16
  go_wp2_with fail
  refine absW ?_
  intro w0 hw
  have hb0 : Below w.heap.size w w0 := by rw [hw]; exact (by repeat' (first | assumption | exact Below.refl _ _ | refine Below.drew ?_ | refine belN ?_ _ | refine Below.alloc ?_ (by first | omega | (simp; done) | (simp; omega)) _))
  have c0 : w0.cell? ⟨w.heap.size, 0, none⟩ = some (.int .i64 b) := by rw [hw]; simp
  have c1 : w0.cell? ⟨w.heap.size, 1, none⟩ = some (.slice A n c) := by rw [hw]; simp
  clear hw
  have hr := rdB h hb0
  clear h
  refine (sOkR _ hr HL.out hm c0 c1).mono ?_
  rintro e w1 ⟨rfl, m, rfl⟩
  cases hok : okR b xs
  · have HE := Lib.hid (regT_no hok)
    go_wp2
    go_ret
    exact ⟨ret_s HE.out.symm, belN hb0 _⟩
  · have HE := Lib.hid (regT_yes hok)
    have HC := Lib.hid (fun (W : World) (hW : Below w0.heap.size w0 W) => sText (b := b) (c := c) W (rdB hr hW) HL.out (cellB c0 hW) (cellB c1 hW) hok)
    clear hok
    go_wp2_with fail
    refine (HC.out _ (belN (Below.refl _ _) _)).mono ?_
    rintro e w2 ⟨rfl, hb⟩
    go_wp2
    go_ret
    exact ⟨ret_s (by rw [HE.out, HL.out]), bel2 hb0 (bel2 (belN (Below.refl _ _) _) hb)⟩

set_option maxRecDepth 100000 in
set_option maxHeartbeats 3200000 in
theorem iRegText {b : Int} {A : Option Addr} {n c : Nat} {xs : List Int} (w : World) (h : Reads w w.heap.size 1 A n (xs.map (Value.int .i64))) (hl : xs.length = n) (hm : n ≤ maxLen) (T : Tab w) :
    Calls Tryd.prog 18 #[.agg #[.int .i64 b, .slice A n c]] w (RegTP b xs w) := by
  have HL := Lib.hid hl; clear hl
  go_enter Tryd.func18, Tryd.ntmps18
  go_wp2_with fail
  refine absW ?_
  intro w0 hw
  have hb0 : Below w.heap.size w w0 := by rw [hw]; exact (by repeat' (first | assumption | exact Below.refl _ _ | refine Below.drew ?_ | refine belN ?_ _ | refine Below.alloc ?_ (by first | omega | (simp; done) | (simp; omega)) _))
  have c0 : w0.cell? ⟨w.heap.size, 0, none⟩ = some (.int .i64 b) := by rw [hw]; simp
  have c1 : w0.cell? ⟨w.heap.size, 1, none⟩ = some (.slice A n c) := by rw [hw]; simp
  clear hw
  have hr := rdB h hb0
  clear h
  refine (iValidReg _ hr HL.out hm).mono ?_
  rintro e w1 ⟨rfl, hb⟩
  replace c0 := cellB c0 hb; replace c1 := cellB c1 hb
  replace hr := rdB hr hb
  replace hb0 := bel2 hb0 hb
  clear hb
  cases hok : okR b xs
  · have HE := Lib.hid (regT_no hok)
    go_wp2
    go_ret
    exact ⟨ret_s HE.out.symm, hb0⟩
  · have HE := Lib.hid (regT_yes hok)
    obtain ⟨⟨b0, b1⟩, ⟨n0, n1⟩, hd, _⟩ := okR_parts hok
    rw [HL.out] at n0 n1
    have hb : inI b := by unfold inI; omega
    have HD := Lib.hid hd
    have hts := Lib.hid (tx_size hb xs)
    have hds := itoa_small hb
    have HT := Lib.hid (T.bel hb0)
    clear hd hok T hm
    go_wp2_with fail
    refine (iDec _ hb HT.out).mono ?_
    rintro e w2 ⟨rfl, hb1⟩
    replace hb0 := bel2 hb0 hb1
    have e0 := cellB c0 hb1; have e1 := cellB c1 hb1
    replace hr := rdB hr hb1
    clear c0 c1 hb1
    go_wp2
    go_loopw [3, 4] (fun s i wr => ∃ k m : Nat, k ≤ n ∧ i = .int .i64 ((k : Int) - 1) ∧ s = .string (tx b xs (n - k)) ∧ wr = w2.drewN m) (fun _ i _ => (intOf i + 1).toNat)
    case atStart => exact ⟨n, 0, Nat.le_refl _, rfl, by rw [Nat.sub_self, tx_zero], rfl⟩
    case round =>
      obtain ⟨k, m, hk, hi, rfl, rfl⟩ := hrel
      rcases k with _ | j
      · subst hi
        go_wp2
        go_ret
        exact ⟨ret_s (by rw [HE.out, HL.out]; rfl), belN hb0 _⟩
      · rw [show (((j + 1 : Nat) : Int) - 1) = (j : Int) by omega] at hi
        subst hi
        obtain ⟨ad, x, rfl, _, hx, hc⟩ := hr.int_at (show j < n by omega)
        obtain ⟨x0, x1⟩ := dig_at HD.out hx
        have HS := Lib.hid (tx_step (b := b) HL.out (show j < n by omega) hx); clear hx
        have hz := hts.out (n - (j + 1))
        obtain ⟨q, rfl⟩ := Int.eq_ofNat_of_zero_le x0
        have HX : Hid (hexC q = hx.extract q (q + 1)) := by unfold Hid hexC; rfl
        have W1 : IntKind.i64.wrap ((q : Int) + 1) = (q : Int) + 1 := IntWalk.i64_in _ (by omega)
        have q16 : q ≤ 15 := by omega
        clear x0 x1
        go_wp2
        go_quiet (fail)
        go_wp2
        go_roundw
        case rel => exact ⟨j, m + nq, by omega, by go_num, by rw [HS.out, HX.out]; rfl, by first | rfl | exact World.drewN_drewN _ _ _⟩
        case measure => simp [intOf]
end
end Go.Proofs.YtlnajkimlooapaaDoor
