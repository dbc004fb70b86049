/- Numbers read from decimal text. No condition. -/
import Derived.Test.YtlnajkimlooapaaDoorEvt
import Derived.BigQuiet
namespace Go.Proofs.YtlnajkimlooapaaDoor
open Go.RowKit

/-- The k-th byte. -/
def bt (s : ByteArray) (k : Nat) : Int := ((s.data.getD k 0).toNat : Int)
theorem bt_at {s : ByteArray} {k : Nat} (h : k < s.size) : bt s k = (s[k].toNat : Int) := by
  have h' : k < s.data.size := h
  unfold bt
  rw [Array.getD_eq_getD_getElem?, Array.getElem?_eq_getElem h']
  rfl
theorem rg_step {p : Nat → Bool} {k : Nat} (h : (List.range k).all p = true) (hk : p k = true) : (List.range (k + 1)).all p = true := by
  rw [List.range_succ, List.all_append, h]
  simp [hk]
theorem rg_no {p : Nat → Bool} {k n : Nat} (hk : k < n) (h : p k = false) : (List.range n).all p = false := by
  rw [List.all_eq_false]
  exact ⟨k, List.mem_range.2 hk, by simp [h]⟩
def dgB (t : ByteArray) (k : Nat) : Bool := betwB (bt t k) 48 57
def numT (t : ByteArray) : Nat → Int
  | 0 => 0
  | i + 1 => 10 * numT t i + (bt t i - 48)
def p10 : Nat → Int
  | 0 => 1
  | n + 1 => 10 * p10 n
theorem p10_mono : ∀ {m n : Nat}, m ≤ n → 1 ≤ p10 m ∧ p10 m ≤ p10 n
  | 0, 0, _ => by simp [p10]
  | 0, n + 1, _ => by have := p10_mono (Nat.zero_le n); simp only [p10] at this ⊢; omega
  | m + 1, n + 1, h => by have := p10_mono (show m ≤ n by omega); simp only [p10] at this ⊢; omega
theorem numT_p {t : ByteArray} : ∀ {k : Nat}, (List.range k).all (dgB t) = true → 0 ≤ numT t k ∧ numT t k + 1 ≤ p10 k
  | 0, _ => by simp [numT, p10]
  | k + 1, h => by
    rw [List.range_succ, List.all_append, Bool.and_eq_true] at h
    have ih := numT_p h.1
    have h2 : dgB t k = true := by simpa using h.2
    have := betw_iff.1 h2
    simp only [numT, p10]
    omega
theorem numT_bd {t : ByteArray} {k n : Nat} (h : (List.range k).all (dgB t) = true) (hn : k ≤ n) (h18 : n ≤ 18) : 0 ≤ numT t k ∧ numT t k ≤ 999999999999999999 := by
  have h1 := numT_p h
  have h2 := (p10_mono (show k ≤ 18 by omega)).2
  have h3 : p10 18 = 1000000000000000000 := rfl
  omega
theorem numT_lt {t : ByteArray} {k n : Nat} (h : (List.range k).all (dgB t) = true) (hn : k < n) (h18 : n ≤ 18) : 0 ≤ numT t k ∧ numT t k ≤ 99999999999999999 := by
  have h1 := numT_p h
  have h2 := (p10_mono (show k ≤ 17 by omega)).2
  have h3 : p10 17 = 100000000000000000 := rfl
  omega
def ngB (s : ByteArray) : Bool := decide (0 < s.size) && decide (bt s 0 = 45)
def tl (s : ByteArray) : ByteArray := if ngB s then s.extract 1 s.size else s
def sgn (s : ByteArray) (n : Int) : Int := if ngB s then -n else n
def rdV (s : ByteArray) : Int := sgn s (numT (tl s) (tl s).size)
def rdOK (s : ByteArray) : Bool := decide (1 ≤ (tl s).size ∧ (tl s).size ≤ 18) && ((List.range (tl s).size).all (dgB (tl s)) && decide (decS (rdV s) = s))
def rdN (s : ByteArray) : Int := if rdOK s then rdV s else 0
def RdPost (s : ByteArray) (w : World) (e : Ending) (w' : World) : Prop := e = .returned (.tuple #[.int .i64 (rdN s), .bool (rdOK s)]) ∧ Below w.heap.size w w'
theorem bytes_inj {x y : ByteArray} (h : x.toList = y.toList) : x = y := by
  rw [ByteArray.toList_eq, ByteArray.toList_eq] at h
  cases x; cases y
  congr
  exact Array.toList_inj.1 h
theorem bytes_beq_iff' (x y : ByteArray) : (x.toList == y.toList) = true ↔ x = y := by
  rw [beq_iff_eq]
  exact ⟨bytes_inj, fun h => by rw [h]⟩
theorem bytes_beq_false_iff' (x y : ByteArray) : (x.toList == y.toList) = false ↔ ¬ x = y := by
  rw [beq_eq_false_iff_ne]
  exact ⟨fun h e => h (by rw [e]), fun h e => h (bytes_inj e)⟩
theorem ne_tl {s : ByteArray} (h : 0 < s.size) : (!s.toList.isEmpty) = true := by
  rw [ByteArray.toList_eq]
  have h1 : 0 < s.data.size := h
  cases hs : s.data.toList with
  | nil => have : s.data.toList.length = 0 := by rw [hs]; rfl
           rw [Array.length_toList] at this; omega
  | cons a b => rfl
theorem rd_not {s : ByteArray} {w w' : World} (h : rdOK s = false) (hb : Below w.heap.size w w') : RdPost s w (.returned (.tuple #[.int .i64 0, .bool false])) w' := by
  refine ⟨?_, hb⟩
  rw [rdN, h]
  rfl
theorem rd_size {s t : ByteArray} (ht : tl s = t) (h : ¬ (1 ≤ t.size ∧ t.size ≤ 18)) : rdOK s = false := by simp [rdOK, ht, h]
theorem rd_dig {s t : ByteArray} (ht : tl s = t) {k : Nat} (hk : k < t.size) (h : dgB t k = false) : rdOK s = false := by
  simp only [rdOK, ht]
  rw [rg_no hk h]
  simp
theorem rd_ne {s t : ByteArray} (ht : tl s = t) {v : Int} (hv : sgn s (numT t t.size) = v) (h : ¬ decS v = s) : rdOK s = false := by
  have : rdV s = v := by rw [rdV, ht, hv]
  simp [rdOK, this, h]
theorem rd_yes {s t : ByteArray} (ht : tl s = t) {v : Int} {w w' : World} (hv : sgn s (numT t t.size) = v) (h0 : 1 ≤ t.size) (h1 : t.size ≤ 18) (h2 : (List.range t.size).all (dgB t) = true) (h : decS v = s) (hb : Below w.heap.size w w') :
    RdPost s w (.returned (.tuple #[.int .i64 v, .bool true])) w' := by
  have e1 : rdV s = v := by rw [rdV, ht, hv]
  have e2 : rdOK s = true := by simp only [rdOK, ht, e1, h2]; simp [h0, h1, h]
  refine ⟨?_, hb⟩
  rw [rdN, e2, e1]
  rfl

set_option maxHeartbeats 400000 in
theorem sDig (n : Int) (w : World) : Calls Tryd.prog 41 #[.int .u8 n] w fun e w' => e = .returned (.bool (betwB n 48 57)) ∧ w = w' := by
  by_cases h1 : 48 ≤ n <;> by_cases h2 : n ≤ 57
  all_goals
    go_enter Tryd.func41, Tryd.ntmps41
    go_wp2
    go_ret
    exact ⟨by simp [betwB, h1, h2], rfl⟩
set_option maxHeartbeats 400000 in
theorem iDig (n : Int) (w : World) : Calls Tryd.prog 27 #[.int .u8 n] w fun e w' => e = .returned (.bool (betwB n 48 57)) ∧ w = w' := by
  by_cases h1 : 48 ≤ n <;> by_cases h2 : n ≤ 57
  all_goals
    go_enter Tryd.func27, Tryd.ntmps27
    go_wp2
    go_ret
    exact ⟨by simp [betwB, h1, h2], rfl⟩
attribute [local irreducible] decS

set_option maxRecDepth 100000 in
set_option maxHeartbeats 3200000 in
theorem sNum {s : ByteArray} (w : World) (hs : s.size ≤ 1048576) : Calls Tryd.prog 26 #[.string s] w (RdPost s w) := by
  cases hn : ngB s
  · obtain ⟨t, ht⟩ : ∃ t, t = s := ⟨_, rfl⟩
    have HT : Hid (tl s = t) := by unfold Hid tl; rw [hn, ht]; rfl
    have HS : Hid (∀ n, sgn s n = n) := by intro n; unfold sgn; rw [hn]; rfl
    rcases Nat.eq_zero_or_pos s.size with h0 | h0
    · have hst : s = ByteArray.mk #[] := by have h1 : s.data.size = 0 := h0; cases s; simp at h1; rw [h1]
      have HF := Lib.hid (rd_size HT.out (by rw [ht]; omega))
      clear HT HS hn ht t
      subst hst
      go_enter Tryd.func26, Tryd.ntmps26
      go_wp2
      go_ret2
      exact rd_not HF.out (by repeat' (first | assumption | exact Below.refl _ _ | refine Below.drew ?_))
    · have hne : (!s.toList.isEmpty) = true := ne_tl h0
      have hb0 := bt_at h0
      have hb1 : ((s[0].toNat : Int) == 45) = false := by rw [← hb0]; simp [ngB, h0] at hn; simpa using hn
      clear hb0 hn
      subst ht
      by_cases h18 : 1 ≤ t.size ∧ t.size ≤ 18
      · obtain ⟨t0, t18⟩ := h18
        have c1 : ((t.size : Int) == 0) = false := by rw [beq_eq_false_iff_ne]; omega
        have c2 : decide (18 < (t.size : Int)) = false := by simp; omega
        have c3 : decide ((t.size : Int) < 1) = false := by simp; omega
        have c4 : decide ((t.size : Int) < (t.size : Int)) = false := by simp
        go_enter Tryd.func26, Tryd.ntmps26
        go_wp2
        go_loop [5, 6] (fun n i => ∃ k : Nat, k ≤ t.size ∧ i = .int .i64 k ∧ n = .int .i64 (numT t k) ∧ Hid ((List.range k).all (dgB t) = true)) (fun _ i => t.size - (intOf i).toNat)
        case atStart => exact ⟨0, Nat.zero_le _, rfl, rfl, rfl⟩
        case round =>
          obtain ⟨k, hk, rfl, rfl, HA⟩ := hrel
          obtain ⟨n0, n1⟩ := numT_bd HA.out hk t18
          by_cases hlt : k < t.size
          · clear n0 n1
            obtain ⟨n0, n1⟩ := numT_lt HA.out hlt t18
            have hb := bt_at hlt
            have hb2 : (t[k].toNat : Int) ≤ 255 := by have := t[k].toNat_lt; omega
            cases hd : dgB t k
            · have HF := Lib.hid (rd_dig HT.out hlt hd)
              have hd2 : betwB (t[k].toNat : Int) 48 57 = false := by rw [← hb]; exact hd
              clear hb hd HA
              go_wp2_with (go_at_call 41; refine (sDig _ _).mono ?_; rintro e w' ⟨rfl, rfl⟩; rw [hd2])
              go_ret2
              exact rd_not HF.out (by repeat' (first | assumption | exact Below.refl _ _ | refine Below.drew ?_))
            · have HA2 := Lib.hid (rg_step HA.out hd)
              have hd2 : betwB (t[k].toNat : Int) 48 57 = true := by rw [← hb]; exact hd
              obtain ⟨d0, d1⟩ := betw_iff.1 hd2
              have HN : Hid (numT t (k + 1) = 10 * numT t k + ((t[k].toNat : Int) - 48)) := by unfold Hid; rw [← hb]; rfl
              obtain ⟨v, hv⟩ : ∃ v, numT t k = v := ⟨_, rfl⟩
              obtain ⟨c, hc⟩ : ∃ c : Int, (t[k].toNat : Int) = c := ⟨_, rfl⟩
              rw [hv, hc] at HN; rw [hv] at n0 n1; rw [hc] at hd2 d0 d1
              have W1 : IntKind.i64.wrap (10 * v) = 10 * v := IntWalk.i64_in _ (by omega)
              have W2 : IntKind.u8.wrap (c - 48) = c - 48 := IntWalk.u8_in _ (by omega)
              have W3 : IntKind.i64.wrap (c - 48) = c - 48 := IntWalk.i64_in _ (by omega)
              have W4 : IntKind.i64.wrap (10 * v + (c - 48)) = 10 * v + (c - 48) := IntWalk.i64_in _ (by clear W1 W2 W3; omega)
              clear hb hd HA hb2
              rw [hv]
              go_wp2_with (go_at_call 41; refine (sDig _ _).mono ?_; rintro e w' ⟨rfl, rfl⟩; rw [hd2])
              go_round
              case rel => exact ⟨k + 1, by omega, by go_num, by rw [HN.out], HA2⟩
              case measure => simp [intOf]; omega
          · obtain rfl : k = t.size := by omega
            have HV : Hid (sgn t (numT t t.size) = numT t t.size) := HS.out _
            have hin : inI (numT t t.size) := by unfold inI; omega
            obtain ⟨v, hv⟩ : ∃ v, numT t t.size = v := ⟨_, rfl⟩
            rw [hv]
            have HVV : Hid (sgn t (numT t t.size) = v) := by unfold Hid; rw [HV.out, hv]
            rw [hv] at hin n0 n1
            clear hv HV
            go_wp2_with fail
            refine (sDec _ hin).mono ?_
            rintro e w1 ⟨rfl, hb⟩
            by_cases he : decS (v) = t
            · have b1 : ((decS (v)).toList == (t).toList) = true := (bytes_beq_iff' _ _).2 he
              have HY : Hid (RdPost t w (.returned (.tuple #[.int .i64 (v), .bool true])) w1) := rd_yes HT.out HVV.out t0 t18 HA.out he hb
              clear he HA
              go_wp2
              go_ret2
              exact HY.out
            · have b1 : ((decS (v)).toList == (t).toList) = false := (bytes_beq_false_iff' _ _).2 he
              have HY : Hid (RdPost t w (.returned (.tuple #[.int .i64 0, .bool false])) w1) := rd_not (rd_ne HT.out HVV.out he) hb
              clear he HA
              go_wp2
              go_ret2
              exact HY.out
      · have HF := Lib.hid (rd_size HT.out h18)
        have h19 : 18 < t.size := by omega
        clear h18
        · have c1 : ((t.size : Int) == 0) = false := by rw [beq_eq_false_iff_ne]; omega
          have c2 : decide (18 < (t.size : Int)) = true := by simp; omega
          have c3 : decide ((t.size : Int) < 1) = false := by simp; omega
          go_enter Tryd.func26, Tryd.ntmps26
          go_wp2
          go_ret2
          exact rd_not HF.out (by repeat' (first | assumption | exact Below.refl _ _ | refine Below.drew ?_))
  · obtain ⟨h0, h45⟩ : 0 < s.size ∧ bt s 0 = 45 := by simpa [ngB] using hn
    obtain ⟨t, ht⟩ : ∃ t, s.extract 1 s.size = t := ⟨_, rfl⟩
    have HT : Hid (tl s = t) := by unfold Hid tl; rw [hn, if_pos rfl, ht]
    have HS : Hid (∀ n, sgn s n = -n) := by intro n; unfold sgn; rw [hn]; rfl
    have htz : t.size + 1 = s.size := by rw [← ht, ByteArray.size_extract]; omega
    have hne : (!s.toList.isEmpty) = true := ne_tl h0
    have hb1 : ((s[0].toNat : Int) == 45) = true := by rw [← bt_at h0, h45]; rfl
    clear h45 hn
    by_cases h18 : 1 ≤ t.size ∧ t.size ≤ 18
    · obtain ⟨t0, t18⟩ := h18
      have c1 : ((t.size : Int) == 0) = false := by rw [beq_eq_false_iff_ne]; omega
      have c2 : decide (18 < (t.size : Int)) = false := by simp; omega
      have c3 : decide ((t.size : Int) < 1) = false := by simp; omega
      have c4 : decide ((t.size : Int) < (s.size : Int)) = true := by simp; omega
      go_enter Tryd.func26, Tryd.ntmps26
      go_wp2
      go_loop [5, 6] (fun n i => ∃ k : Nat, k ≤ t.size ∧ i = .int .i64 k ∧ n = .int .i64 (numT t k) ∧ Hid ((List.range k).all (dgB t) = true)) (fun _ i => t.size - (intOf i).toNat)
      case atStart => exact ⟨0, Nat.zero_le _, rfl, rfl, rfl⟩
      case round =>
        obtain ⟨k, hk, rfl, rfl, HA⟩ := hrel
        obtain ⟨n0, n1⟩ := numT_bd HA.out hk t18
        by_cases hlt : k < t.size
        · clear n0 n1
          obtain ⟨n0, n1⟩ := numT_lt HA.out hlt t18
          have hb := bt_at hlt
          have hb2 : (t[k].toNat : Int) ≤ 255 := by have := t[k].toNat_lt; omega
          cases hd : dgB t k
          · have HF := Lib.hid (rd_dig HT.out hlt hd)
            have hd2 : betwB (t[k].toNat : Int) 48 57 = false := by rw [← hb]; exact hd
            clear hb hd HA
            go_wp2_with (go_at_call 41; refine (sDig _ _).mono ?_; rintro e w' ⟨rfl, rfl⟩; rw [hd2])
            go_ret2
            exact rd_not HF.out (by repeat' (first | assumption | exact Below.refl _ _ | refine Below.drew ?_))
          · have HA2 := Lib.hid (rg_step HA.out hd)
            have hd2 : betwB (t[k].toNat : Int) 48 57 = true := by rw [← hb]; exact hd
            obtain ⟨d0, d1⟩ := betw_iff.1 hd2
            have HN : Hid (numT t (k + 1) = 10 * numT t k + ((t[k].toNat : Int) - 48)) := by unfold Hid; rw [← hb]; rfl
            obtain ⟨v, hv⟩ : ∃ v, numT t k = v := ⟨_, rfl⟩
            obtain ⟨c, hc⟩ : ∃ c : Int, (t[k].toNat : Int) = c := ⟨_, rfl⟩
            rw [hv, hc] at HN; rw [hv] at n0 n1; rw [hc] at hd2 d0 d1
            have W1 : IntKind.i64.wrap (10 * v) = 10 * v := IntWalk.i64_in _ (by omega)
            have W2 : IntKind.u8.wrap (c - 48) = c - 48 := IntWalk.u8_in _ (by omega)
            have W3 : IntKind.i64.wrap (c - 48) = c - 48 := IntWalk.i64_in _ (by omega)
            have W4 : IntKind.i64.wrap (10 * v + (c - 48)) = 10 * v + (c - 48) := IntWalk.i64_in _ (by clear W1 W2 W3; omega)
            clear hb hd HA hb2
            rw [hv]
            go_wp2_with (go_at_call 41; refine (sDig _ _).mono ?_; rintro e w' ⟨rfl, rfl⟩; rw [hd2])
            go_round
            case rel => exact ⟨k + 1, by omega, by go_num, by rw [HN.out], HA2⟩
            case measure => simp [intOf]; omega
        · obtain rfl : k = t.size := by omega
          have HV : Hid (sgn s (numT t t.size) = -(numT t t.size)) := HS.out _
          have hin : inI (-(numT t t.size)) := by unfold inI; omega
          obtain ⟨v, hv⟩ : ∃ v, numT t t.size = v := ⟨_, rfl⟩
          rw [hv]
          have HVV : Hid (sgn s (numT t t.size) = -v) := by unfold Hid; rw [HV.out, hv]
          rw [hv] at hin n0 n1
          clear hv HV
          have W1 : IntKind.i64.wrap (-v) = -v := IntWalk.i64_in _ (by omega)
          go_wp2_with fail
          refine (sDec _ hin).mono ?_
          rintro e w1 ⟨rfl, hb⟩
          by_cases he : decS (-v) = s
          · have b1 : ((decS (-v)).toList == (s).toList) = true := (bytes_beq_iff' _ _).2 he
            have HY : Hid (RdPost s w (.returned (.tuple #[.int .i64 (-v), .bool true])) w1) := rd_yes HT.out HVV.out t0 t18 HA.out he hb
            clear he HA
            go_wp2
            go_ret2
            exact HY.out
          · have b1 : ((decS (-v)).toList == (s).toList) = false := (bytes_beq_false_iff' _ _).2 he
            have HY : Hid (RdPost s w (.returned (.tuple #[.int .i64 0, .bool false])) w1) := rd_not (rd_ne HT.out HVV.out he) hb
            clear he HA
            go_wp2
            go_ret2
            exact HY.out
    · have HF := Lib.hid (rd_size HT.out h18)
      have h19 : t.size = 0 ∨ 18 < t.size := by omega
      clear h18
      rcases h19 with h19 | h19
      · have c1 : ((t.size : Int) == 0) = true := by rw [beq_iff_eq]; omega
        have c2 : decide (18 < (t.size : Int)) = false := by simp; omega
        have c3 : decide ((t.size : Int) < 1) = true := by simp; omega
        go_enter Tryd.func26, Tryd.ntmps26
        go_wp2
        go_ret2
        exact rd_not HF.out (by repeat' (first | assumption | exact Below.refl _ _ | refine Below.drew ?_))
      · have c1 : ((t.size : Int) == 0) = false := by rw [beq_eq_false_iff_ne]; omega
        have c2 : decide (18 < (t.size : Int)) = true := by simp; omega
        have c3 : decide ((t.size : Int) < 1) = false := by simp; omega
        go_enter Tryd.func26, Tryd.ntmps26
        go_wp2
        go_ret2
        exact rd_not HF.out (by repeat' (first | assumption | exact Below.refl _ _ | refine Below.drew ?_))
set_option maxRecDepth 100000 in
set_option maxHeartbeats 3200000 in
theorem iRd {s : ByteArray} (w : World) (hs : s.size ≤ 1048576) (T : Tab w) : Calls Tryd.prog 14 #[.string s] w (RdPost s w) := by
  cases hn : ngB s
  · obtain ⟨t, ht⟩ : ∃ t, t = s := ⟨_, rfl⟩
    have HT : Hid (tl s = t) := by unfold Hid tl; rw [hn, ht]; rfl
    have HS : Hid (∀ n, sgn s n = n) := by intro n; unfold sgn; rw [hn]; rfl
    rcases Nat.eq_zero_or_pos s.size with h0 | h0
    · have hst : s = ByteArray.mk #[] := by have h1 : s.data.size = 0 := h0; cases s; simp at h1; rw [h1]
      have HF := Lib.hid (rd_size HT.out (by rw [ht]; omega))
      clear HT HS hn ht t
      subst hst
      go_enter Tryd.func14, Tryd.ntmps14
      go_wp2
      go_ret2
      exact rd_not HF.out (by repeat' (first | assumption | exact Below.refl _ _ | refine Below.drew ?_))
    · have hne : (!s.toList.isEmpty) = true := ne_tl h0
      have hb0 := bt_at h0
      have hb1 : ((s[0].toNat : Int) == 45) = false := by rw [← hb0]; simp [ngB, h0] at hn; simpa using hn
      clear hb0 hn
      subst ht
      by_cases h18 : 1 ≤ t.size ∧ t.size ≤ 18
      · obtain ⟨t0, t18⟩ := h18
        have c1 : ((t.size : Int) == 0) = false := by rw [beq_eq_false_iff_ne]; omega
        have c2 : decide (18 < (t.size : Int)) = false := by simp; omega
        have c3 : decide ((t.size : Int) < 1) = false := by simp; omega
        have c4 : decide ((t.size : Int) < (t.size : Int)) = false := by simp
        go_enter Tryd.func14, Tryd.ntmps14
        go_wp2
        go_loop [5, 28] (fun n i => ∃ k : Nat, k ≤ t.size ∧ i = .int .i64 k ∧ n = .int .i64 (numT t k) ∧ Hid ((List.range k).all (dgB t) = true)) (fun _ i => t.size - (intOf i).toNat)
        case atStart => exact ⟨0, Nat.zero_le _, rfl, rfl, rfl⟩
        case round =>
          obtain ⟨k, hk, rfl, rfl, HA⟩ := hrel
          obtain ⟨n0, n1⟩ := numT_bd HA.out hk t18
          by_cases hlt : k < t.size
          · clear n0 n1
            obtain ⟨n0, n1⟩ := numT_lt HA.out hlt t18
            have hb := bt_at hlt
            have hb2 : (t[k].toNat : Int) ≤ 255 := by have := t[k].toNat_lt; omega
            cases hd : dgB t k
            · have HF := Lib.hid (rd_dig HT.out hlt hd)
              have hd2 : betwB (t[k].toNat : Int) 48 57 = false := by rw [← hb]; exact hd
              clear hb hd HA
              go_wp2_with (go_at_call 27; refine (iDig _ _).mono ?_; rintro e w' ⟨rfl, rfl⟩; rw [hd2])
              go_ret2
              exact rd_not HF.out (by repeat' (first | assumption | exact Below.refl _ _ | refine Below.drew ?_))
            · have HA2 := Lib.hid (rg_step HA.out hd)
              have hd2 : betwB (t[k].toNat : Int) 48 57 = true := by rw [← hb]; exact hd
              obtain ⟨d0, d1⟩ := betw_iff.1 hd2
              have HN : Hid (numT t (k + 1) = 10 * numT t k + ((t[k].toNat : Int) - 48)) := by unfold Hid; rw [← hb]; rfl
              obtain ⟨v, hv⟩ : ∃ v, numT t k = v := ⟨_, rfl⟩
              obtain ⟨c, hc⟩ : ∃ c : Int, (t[k].toNat : Int) = c := ⟨_, rfl⟩
              rw [hv, hc] at HN; rw [hv] at n0 n1; rw [hc] at hd2 d0 d1
              have W1 : IntKind.i64.wrap (10 * v) = 10 * v := IntWalk.i64_in _ (by omega)
              have W2 : IntKind.u8.wrap (c - 48) = c - 48 := IntWalk.u8_in _ (by omega)
              have W3 : IntKind.i64.wrap (c - 48) = c - 48 := IntWalk.i64_in _ (by omega)
              have W4 : IntKind.i64.wrap (10 * v + (c - 48)) = 10 * v + (c - 48) := IntWalk.i64_in _ (by clear W1 W2 W3; omega)
              clear hb hd HA hb2
              rw [hv]
              go_wp2_with (go_at_call 27; refine (iDig _ _).mono ?_; rintro e w' ⟨rfl, rfl⟩; rw [hd2])
              go_round
              case rel => exact ⟨k + 1, by omega, by go_num, by rw [HN.out], HA2⟩
              case measure => simp [intOf]; omega
          · obtain rfl : k = t.size := by omega
            have HV : Hid (sgn t (numT t t.size) = numT t t.size) := HS.out _
            have hin : inI (numT t t.size) := by unfold inI; omega
            obtain ⟨v, hv⟩ : ∃ v, numT t t.size = v := ⟨_, rfl⟩
            rw [hv]
            have HVV : Hid (sgn t (numT t t.size) = v) := by unfold Hid; rw [HV.out, hv]
            rw [hv] at hin n0 n1
            clear hv HV
            go_wp2_with fail
            refine (iDec _ hin T).mono ?_
            rintro e w1 ⟨rfl, hb⟩
            by_cases he : decS (v) = t
            · have b1 : ((decS (v)).toList == (t).toList) = true := (bytes_beq_iff' _ _).2 he
              have HY : Hid (RdPost t w (.returned (.tuple #[.int .i64 (v), .bool true])) w1) := rd_yes HT.out HVV.out t0 t18 HA.out he hb
              clear he HA
              go_wp2
              go_ret2
              exact HY.out
            · have b1 : ((decS (v)).toList == (t).toList) = false := (bytes_beq_false_iff' _ _).2 he
              have HY : Hid (RdPost t w (.returned (.tuple #[.int .i64 0, .bool false])) w1) := rd_not (rd_ne HT.out HVV.out he) hb
              clear he HA
              go_wp2
              go_ret2
              exact HY.out
      · have HF := Lib.hid (rd_size HT.out h18)
        have h19 : 18 < t.size := by omega
        clear h18
        · have c1 : ((t.size : Int) == 0) = false := by rw [beq_eq_false_iff_ne]; omega
          have c2 : decide (18 < (t.size : Int)) = true := by simp; omega
          have c3 : decide ((t.size : Int) < 1) = false := by simp; omega
          go_enter Tryd.func14, Tryd.ntmps14
          go_wp2
          go_ret2
          exact rd_not HF.out (by repeat' (first | assumption | exact Below.refl _ _ | refine Below.drew ?_))
  · obtain ⟨h0, h45⟩ : 0 < s.size ∧ bt s 0 = 45 := by simpa [ngB] using hn
    obtain ⟨t, ht⟩ : ∃ t, s.extract 1 s.size = t := ⟨_, rfl⟩
    have HT : Hid (tl s = t) := by unfold Hid tl; rw [hn, if_pos rfl, ht]
    have HS : Hid (∀ n, sgn s n = -n) := by intro n; unfold sgn; rw [hn]; rfl
    have htz : t.size + 1 = s.size := by rw [← ht, ByteArray.size_extract]; omega
    have hne : (!s.toList.isEmpty) = true := ne_tl h0
    have hb1 : ((s[0].toNat : Int) == 45) = true := by rw [← bt_at h0, h45]; rfl
    clear h45 hn
    by_cases h18 : 1 ≤ t.size ∧ t.size ≤ 18
    · obtain ⟨t0, t18⟩ := h18
      have c1 : ((t.size : Int) == 0) = false := by rw [beq_eq_false_iff_ne]; omega
      have c2 : decide (18 < (t.size : Int)) = false := by simp; omega
      have c3 : decide ((t.size : Int) < 1) = false := by simp; omega
      have c4 : decide ((t.size : Int) < (s.size : Int)) = true := by simp; omega
      go_enter Tryd.func14, Tryd.ntmps14
      go_wp2
      go_loop [5, 28] (fun n i => ∃ k : Nat, k ≤ t.size ∧ i = .int .i64 k ∧ n = .int .i64 (numT t k) ∧ Hid ((List.range k).all (dgB t) = true)) (fun _ i => t.size - (intOf i).toNat)
      case atStart => exact ⟨0, Nat.zero_le _, rfl, rfl, rfl⟩
      case round =>
        obtain ⟨k, hk, rfl, rfl, HA⟩ := hrel
        obtain ⟨n0, n1⟩ := numT_bd HA.out hk t18
        by_cases hlt : k < t.size
        · clear n0 n1
          obtain ⟨n0, n1⟩ := numT_lt HA.out hlt t18
          have hb := bt_at hlt
          have hb2 : (t[k].toNat : Int) ≤ 255 := by have := t[k].toNat_lt; omega
          cases hd : dgB t k
          · have HF := Lib.hid (rd_dig HT.out hlt hd)
            have hd2 : betwB (t[k].toNat : Int) 48 57 = false := by rw [← hb]; exact hd
            clear hb hd HA
            go_wp2_with (go_at_call 27; refine (iDig _ _).mono ?_; rintro e w' ⟨rfl, rfl⟩; rw [hd2])
            go_ret2
            exact rd_not HF.out (by repeat' (first | assumption | exact Below.refl _ _ | refine Below.drew ?_))
          · have HA2 := Lib.hid (rg_step HA.out hd)
            have hd2 : betwB (t[k].toNat : Int) 48 57 = true := by rw [← hb]; exact hd
            obtain ⟨d0, d1⟩ := betw_iff.1 hd2
            have HN : Hid (numT t (k + 1) = 10 * numT t k + ((t[k].toNat : Int) - 48)) := by unfold Hid; rw [← hb]; rfl
            obtain ⟨v, hv⟩ : ∃ v, numT t k = v := ⟨_, rfl⟩
            obtain ⟨c, hc⟩ : ∃ c : Int, (t[k].toNat : Int) = c := ⟨_, rfl⟩
            rw [hv, hc] at HN; rw [hv] at n0 n1; rw [hc] at hd2 d0 d1
            have W1 : IntKind.i64.wrap (10 * v) = 10 * v := IntWalk.i64_in _ (by omega)
            have W2 : IntKind.u8.wrap (c - 48) = c - 48 := IntWalk.u8_in _ (by omega)
            have W3 : IntKind.i64.wrap (c - 48) = c - 48 := IntWalk.i64_in _ (by omega)
            have W4 : IntKind.i64.wrap (10 * v + (c - 48)) = 10 * v + (c - 48) := IntWalk.i64_in _ (by clear W1 W2 W3; omega)
            clear hb hd HA hb2
            rw [hv]
            go_wp2_with (go_at_call 27; refine (iDig _ _).mono ?_; rintro e w' ⟨rfl, rfl⟩; rw [hd2])
            go_round
            case rel => exact ⟨k + 1, by omega, by go_num, by rw [HN.out], HA2⟩
            case measure => simp [intOf]; omega
        · obtain rfl : k = t.size := by omega
          have HV : Hid (sgn s (numT t t.size) = -(numT t t.size)) := HS.out _
          have hin : inI (-(numT t t.size)) := by unfold inI; omega
          obtain ⟨v, hv⟩ : ∃ v, numT t t.size = v := ⟨_, rfl⟩
          rw [hv]
          have HVV : Hid (sgn s (numT t t.size) = -v) := by unfold Hid; rw [HV.out, hv]
          rw [hv] at hin n0 n1
          clear hv HV
          have W1 : IntKind.i64.wrap (-v) = -v := IntWalk.i64_in _ (by omega)
          go_wp2_with fail
          refine (iDec _ hin T).mono ?_
          rintro e w1 ⟨rfl, hb⟩
          by_cases he : decS (-v) = s
          · have b1 : ((decS (-v)).toList == (s).toList) = true := (bytes_beq_iff' _ _).2 he
            have HY : Hid (RdPost s w (.returned (.tuple #[.int .i64 (-v), .bool true])) w1) := rd_yes HT.out HVV.out t0 t18 HA.out he hb
            clear he HA
            go_wp2
            go_ret2
            exact HY.out
          · have b1 : ((decS (-v)).toList == (s).toList) = false := (bytes_beq_false_iff' _ _).2 he
            have HY : Hid (RdPost s w (.returned (.tuple #[.int .i64 0, .bool false])) w1) := rd_not (rd_ne HT.out HVV.out he) hb
            clear he HA
            go_wp2
            go_ret2
            exact HY.out
    · have HF := Lib.hid (rd_size HT.out h18)
      have h19 : t.size = 0 ∨ 18 < t.size := by omega
      clear h18
      rcases h19 with h19 | h19
      · have c1 : ((t.size : Int) == 0) = true := by rw [beq_iff_eq]; omega
        have c2 : decide (18 < (t.size : Int)) = false := by simp; omega
        have c3 : decide ((t.size : Int) < 1) = true := by simp; omega
        go_enter Tryd.func14, Tryd.ntmps14
        go_wp2
        go_ret2
        exact rd_not HF.out (by repeat' (first | assumption | exact Below.refl _ _ | refine Below.drew ?_))
      · have c1 : ((t.size : Int) == 0) = false := by rw [beq_eq_false_iff_ne]; omega
        have c2 : decide (18 < (t.size : Int)) = true := by simp; omega
        have c3 : decide ((t.size : Int) < 1) = false := by simp; omega
        go_enter Tryd.func14, Tryd.ntmps14
        go_wp2
        go_ret2
        exact rd_not HF.out (by repeat' (first | assumption | exact Below.refl _ _ | refine Below.drew ?_))
theorem sRd {s : ByteArray} (w : World) (hs : s.size ≤ 1048576) : Calls Tryd.prog 13 #[.string s] w (RdPost s w) := by
  go_enter Tryd.func13, Tryd.ntmps13
  go_wp2_with fail
  refine (sNum _ hs).mono ?_
  rintro e w' ⟨rfl, hb⟩
  go_wp2
  go_ret2
  exact ⟨rfl, hb⟩
set_option maxHeartbeats 1600000 in
theorem lReadDecimal {a0 : ByteArray} (w : World) (wa0 : a0.size ≤ maxLen) (T : Tab w) :
    Calls Tryd.prog 5 #[.string a0] w fun e w' => e = .returned (.bool true) ∧ Below w.heap.size w w' := by
  by_cases hs : a0.size ≤ 1048576
  · have c1 : decide (1048576 < (a0.size : Int)) = false := by simp; omega
    go_enter Tryd.func5, Tryd.ntmps5
    go_wp2_with fail
    refine (sRd _ hs).mono ?_
    rintro e w1 ⟨rfl, hb⟩
    obtain ⟨n, hn⟩ : ∃ n, rdN a0 = n := ⟨_, rfl⟩
    obtain ⟨b, hbb⟩ : ∃ b, rdOK a0 = b := ⟨_, rfl⟩
    have HI : Hid (∀ (W : World), Tab W → Calls Tryd.prog 14 #[.string a0] W fun e w' => e = .returned (.tuple #[.int .i64 n, .bool b]) ∧ Below W.heap.size W w') := by
      intro W hW
      have := iRd (s := a0) W hs hW
      unfold RdPost at this
      rw [hn, hbb] at this
      exact this
    rw [hn, hbb]
    clear hn hbb
    go_wp2_with fail
    refine (HI.out _ (T.bel hb)).mono ?_
    rintro e w2 ⟨rfl, hb2⟩
    go_wp2
    go_ret
    exact ⟨rfl, bel2 hb hb2⟩
  · have c1 : decide (1048576 < (a0.size : Int)) = true := by simp; omega
    go_enter Tryd.func5, Tryd.ntmps5
    go_wp2
    go_ret
    exact ⟨rfl, Below.refl _ _⟩

end Go.Proofs.YtlnajkimlooapaaDoor
