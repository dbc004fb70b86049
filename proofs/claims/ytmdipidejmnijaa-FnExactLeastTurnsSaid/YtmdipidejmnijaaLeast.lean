/- The least turns of a train. No condition. -/
import Derived.Test.YtmdipidejmnijaaRatOf
namespace Go.Proofs.Ytmdipidejmnijaa
open Go.RowKit

def ltN (xs : List (Int × Int)) : Nat → Nat
  | 0 => 1
  | k + 1 => Nat.lcm (ltN xs k) (ratS (xs.take (k + 1))).2.natAbs
def prodQ (xs : List (Int × Int)) : Nat → Nat
  | 0 => 1
  | k + 1 => prodQ xs k * (xs.getD k (0, 0)).2.natAbs
theorem lowQ_dvd {a b : Int} : (lowQ a b).2.natAbs ∣ b.natAbs := by
  have hd : Nat.gcd a.natAbs b.natAbs ∣ b.natAbs := Nat.gcd_dvd_right _ _
  show (b.tdiv (gcdI a b)).natAbs ∣ b.natAbs
  rw [Int.natAbs_tdiv]
  unfold gcdI
  rw [Int.natAbs_natCast]
  exact Nat.div_dvd_of_dvd hd
theorem den_dvd {xs : List (Int × Int)} (h : okQ xs) (h6 : xs.length ≤ 6) : ∀ k, k ≤ xs.length → (ratS (xs.take k)).2.natAbs ∣ prodQ xs k
  | 0, _ => by simp [ratS, prodQ]
  | k + 1, hk => by
    have hq : xs[k]? = some (xs[k]'(by omega)) := List.getElem?_eq_getElem _
    have ih := den_dvd h h6 k (by omega)
    have hg : xs.getD k (0, 0) = xs[k]'(by omega) := by simp [List.getD_eq_getElem?_getD, hq]
    rw [ratS_step hq]
    refine Nat.dvd_trans lowQ_dvd ?_
    show _ ∣ prodQ xs k * (xs.getD k (0, 0)).2.natAbs
    rw [Int.natAbs_mul, hg]
    exact Nat.mul_dvd_mul ih (Nat.dvd_refl _)
theorem lt_dvd {xs : List (Int × Int)} (h : okQ xs) (h6 : xs.length ≤ 6) : ∀ k, k ≤ xs.length → ltN xs k ∣ prodQ xs k
  | 0, _ => Nat.dvd_refl _
  | k + 1, hk => Nat.lcm_dvd (Nat.dvd_trans (lt_dvd h h6 k (by omega)) (Nat.dvd_mul_right _ _)) (den_dvd h h6 (k + 1) hk)
theorem prod_bd {xs : List (Int × Int)} (h : okQ xs) : ∀ k, k ≤ xs.length → 1 ≤ prodQ xs k ∧ prodQ xs k ≤ 120 ^ k
  | 0, _ => by simp [prodQ]
  | k + 1, hk => by
    obtain ⟨i1, i2⟩ := prod_bd h k (by omega)
    have hq : xs[k]? = some (xs[k]'(by omega)) := List.getElem?_eq_getElem _
    have hg : xs.getD k (0, 0) = xs[k]'(by omega) := by simp [List.getD_eq_getElem?_getD, hq]
    have hv := (h _ (List.mem_of_getElem? hq)).2
    show 1 ≤ prodQ xs k * (xs.getD k (0, 0)).2.natAbs ∧ prodQ xs k * (xs.getD k (0, 0)).2.natAbs ≤ _
    rw [hg, Nat.pow_succ]
    exact ⟨Nat.mul_pos i1 (by omega), Nat.mul_le_mul i2 (by omega)⟩
theorem lt_bd {xs : List (Int × Int)} (h : okQ xs) (h6 : xs.length ≤ 6) {k : Nat} (hk : k ≤ xs.length) : 1 ≤ ltN xs k ∧ ltN xs k ≤ 2985984000000 := by
  obtain ⟨p1, p2⟩ := prod_bd h k hk
  have hd := lt_dvd h h6 k hk
  have h1 := Nat.le_of_dvd p1 hd
  have h0 := Nat.pos_of_dvd_of_pos hd p1
  have : 120 ^ k ≤ 120 ^ 6 := Nat.pow_le_pow_right (by omega) (by omega)
  omega
theorem lt_step {xs : List (Int × Int)} {k D : Nat} (hD : (ratS (xs.take (k + 1))).2 = (D : Int))  :
    ((ltN xs k : Int).tdiv (gcdI (ltN xs k : Int) (D : Int))) * (D : Int) = (ltN xs (k + 1) : Int) ∧ 0 ≤ (ltN xs k : Int).tdiv (gcdI (ltN xs k : Int) (D : Int)) ∧ (ltN xs k : Int).tdiv (gcdI (ltN xs k : Int) (D : Int)) ≤ (ltN xs k : Int) ∧ (ltN xs k : Int).tdiv (gcdI (ltN xs k : Int) (D : Int)) = (ltN xs k : Int) / gcdI (ltN xs k : Int) (D : Int) := by
  have hg : gcdI (ltN xs k : Int) (D : Int) = ((Nat.gcd (ltN xs k) D : Nat) : Int) := by simp [gcdI]
  have e : (ltN xs k : Int).tdiv (gcdI (ltN xs k : Int) (D : Int)) = ((ltN xs k / Nat.gcd (ltN xs k) D : Nat) : Int) := by
    rw [hg, Int.tdiv_eq_ediv_of_nonneg (by omega)]
    exact (Int.natCast_ediv _ _).symm
  refine ⟨?_, by rw [e]; exact Int.natCast_nonneg _, by rw [e]; have := Nat.div_le_self (ltN xs k) (Nat.gcd (ltN xs k) D); omega, by rw [hg, Int.tdiv_eq_ediv_of_nonneg (by omega)]⟩
  rw [e]
  show _ = ((Nat.lcm (ltN xs k) (ratS (xs.take (k + 1))).2.natAbs : Nat) : Int)
  rw [hD, Int.natAbs_natCast, ← Int.natCast_mul, Nat.div_mul_right_comm (Nat.gcd_dvd_left _ _)]
  rfl
theorem fieldFr (x y : Int) (w : World) : (Instr.field 37 (.agg #[.int .i64 x, .int .i64 y]) 1).run Try.prog w = .ok (.int .i64 y) w := by kernel_rfl
def ltVal (xs : List (Int × Int)) : Int := if trB xs then (ltN xs xs.length : Int) else 0
theorem lt_bad {xs : List (Int × Int)} (h : trB xs = false) : ltVal xs = 0 ∧ trCode xs = 1 := by simp [ltVal, trCode, h]
theorem lt_ok {xs : List (Int × Int)} (h : trB xs = true) : ltVal xs = (ltN xs xs.length : Int) ∧ trCode xs = 0 := by simp [ltVal, trCode, h]
theorem Reads.take_ {w : World} {B n k : Nat} {A : Option Addr} {xs : List (Int × Int)} (h : Reads w B 2 A n (flat encPair xs)) (hl : xs.length = n) (hk : k ≤ n) : Reads w B 2 A k (flat encPair (xs.take k)) := by
  refine ⟨by rw [flat_length encPair_length, List.length_take]; omega, fun h0 => ?_⟩
  obtain ⟨ad, e, hb, hc⟩ := h.2 (by omega)
  refine ⟨ad, e, hb, fun j u hu => hc j u ?_⟩
  have hs : flat encPair xs = flat encPair (xs.take k) ++ flat encPair (xs.drop k) := by rw [← flat_append, List.take_append_drop]
  have hj := (List.getElem?_eq_some_iff.1 hu).1
  rw [hs, List.getElem?_append_left hj, hu]

set_option maxHeartbeats 1600000 in
theorem sLeastTurns {A : Option Addr} {n c : Nat} {xs : List (Int × Int)} (w : World) (h : Reads w w.heap.size 2 A n (flat encPair xs)) (hl : xs.length = n) (hm : n ≤ maxLen) (hnc : n ≤ c) :
    Calls Try.prog 27 #[.slice A n c] w fun e w' => e = .returned (.tuple #[.int .i64 (ltVal xs), .int .i64 (trCode xs)]) ∧ Below w.heap.size w w' := by
  have hmm := hm
  unfold maxLen at hmm
  cases hk : trB xs
  · have HE := Lib.hid (lt_bad hk)
    go_enter Try.func27, Try.ntmps27
    go_wp2_with fail
    refine (sTrain _ h hl hm).mono ?_
    rintro e w1 ⟨rfl, hw1⟩
    have hb : Below w.heap.size w w1 := by rw [← hw1]; exact Below.refl _ _
    clear hw1
    go_wp2
    go_ret2
    obtain ⟨e1, e2⟩ := HE.out
    rw [e1, e2]
    exact ⟨rfl, hb⟩
  · have HE := Lib.hid (lt_ok hk)
    obtain ⟨hok, n1, n2⟩ := trB_parts hk
    have HK : Hid (okQ xs) := hok
    have HL := Lib.hid hl
    rw [hl] at n1 n2
    clear hok
    go_enter Try.func27, Try.ntmps27
    go_wp2_with fail
    refine (sTrain _ h hl hm).mono ?_
    rintro e w1 ⟨rfl, hw1⟩
    have hb : Below w.heap.size w w1 := by rw [← hw1]; exact Below.refl _ _
    clear hw1
    clear hl
    rw [hk]
    go_wp2
    clear hk
    go_loopw [4, 5] (fun t i wr => ∃ k : Nat, k ≤ n ∧ i = .int .i64 ((k + 1 : Nat) : Int) ∧ t = .int .i64 (ltN xs k : Int) ∧ Below w.heap.size w wr) (fun _ i _ => n + 1 - (intOf i).toNat)
    case atStart => exact ⟨0, Nat.zero_le _, rfl, rfl, hb⟩
    case round =>
      clear hb
      obtain ⟨k, hk, rfl, rfl, hB⟩ := hrel
      by_cases hlt : k < n
      · have hok := HK.out
        obtain ⟨u0, u1, u2⟩ := rat_use hok (show k + 1 ≤ xs.length by rw [HL.out]; omega) (by rw [HL.out]; exact n2)
        obtain ⟨l0, l1⟩ := lt_bd hok (by rw [HL.out]; exact n2) (show k ≤ xs.length by rw [HL.out]; omega)
        obtain ⟨l2, l3⟩ := lt_bd hok (by rw [HL.out]; exact n2) (show k + 1 ≤ xs.length by rw [HL.out]; omega)
        obtain ⟨D, hD⟩ : ∃ D : Nat, (ratS (xs.take (k + 1))).2 = (D : Int) := ⟨_, (Int.natAbs_of_nonneg (by omega)).symm⟩
        have hok1 : okQ (xs.take (k + 1)) := fun q hq => hok q (List.mem_of_mem_take hq)
        rw [hD] at u1 u2
        obtain ⟨s1, s2, s3, s4⟩ := lt_step hD
        have g0 := gcdI_pos (a := (ltN xs k : Int)) (b := (D : Int)) u1
        have S1 := Lib.hid s1; have HD := Lib.hid hD
        have b1 : 0 ≤ (ltN xs k : Int).tdiv (gcdI (ltN xs k : Int) (D : Int)) * (D : Int) := by omega
        have b2 : (ltN xs k : Int).tdiv (gcdI (ltN xs k : Int) (D : Int)) * (D : Int) ≤ 2985984000000 := by omega
        have S4 := Lib.hid s4
        clear s1 s4 hok hD
        have HK1 := Lib.hid hok1; clear hok1
        have gz : ¬ (gcdI (ltN xs k : Int) (D : Int) = 0) := by omega
        have ki0 : (0 : Int) ≤ (k : Int) := Int.natCast_nonneg _
        have fld := fieldFr
        go_wp2_with fail
        refine (sRatio _ ((rdB h hB).take_ HL.out (by omega)) (by rw [List.length_take, HL.out]; omega) (by omega) HK1.out (by omega)).mono ?_
        rintro e w2 ⟨rfl, hb2⟩
        replace hB := bel2 hB hb2
        clear hb2
        have HD2 := HD.out
        rw [HD2]
        clear HD2
        go_wp2_with fail
        refine (sGcd _ _ _ (by omega) (by omega) (by omega) (by omega)).mono ?_
        rintro e w3 ⟨rfl, rfl⟩
        go_wp2_with fail
        go_roundw
        case rel => exact ⟨k + 1, by omega, by go_num, by rw [← S4.out, IntWalk.wrap64_in ((ltN xs k : Int).tdiv (gcdI (ltN xs k : Int) (D : Int))) (by omega), IntWalk.wrap64_in _ (by omega), S1.out], hB⟩
        case measure => simp [intOf]; omega
      · obtain rfl : k = n := by omega
        go_wp2
        go_ret2
        obtain ⟨e1, e2⟩ := HE.out
        rw [e1, e2, HL.out]
        exact ⟨rfl, hB⟩

set_option maxHeartbeats 1600000 in
theorem iLeastTurns {A : Option Addr} {n c : Nat} {xs : List (Int × Int)} (w : World) (h : Reads w w.heap.size 2 A n (flat encPair xs)) (hl : xs.length = n) (hm : n ≤ maxLen) (hnc : n ≤ c) :
    Calls Try.prog 28 #[.slice A n c] w fun e w' => e = .returned (.tuple #[.int .i64 (ltVal xs), .int .i64 (trCode xs)]) ∧ Below w.heap.size w w' := by
  have hmm := hm
  unfold maxLen at hmm
  cases hk : trB xs
  · have HE := Lib.hid (lt_bad hk)
    go_enter Try.func28, Try.ntmps28
    go_wp2_with fail
    refine (iTrain _ h hl hm).mono ?_
    rintro e w1 ⟨rfl, hb⟩
    go_wp2
    go_ret2
    obtain ⟨e1, e2⟩ := HE.out
    rw [e1, e2]
    exact ⟨rfl, hb⟩
  · have HE := Lib.hid (lt_ok hk)
    obtain ⟨hok, n1, n2⟩ := trB_parts hk
    have HK : Hid (okQ xs) := hok
    have HL := Lib.hid hl
    rw [hl] at n1 n2
    clear hok
    go_enter Try.func28, Try.ntmps28
    go_wp2_with fail
    refine (iTrain _ h hl hm).mono ?_
    rintro e w1 ⟨rfl, hb⟩
    clear hl
    rw [hk]
    go_wp2
    clear hk
    go_loopw [4, 12] (fun t i wr => ∃ k : Nat, k ≤ n ∧ i = .int .i64 k ∧ t = .int .i64 (ltN xs k : Int) ∧ Below w.heap.size w wr) (fun _ i _ => n + 1 - (intOf i).toNat)
    case atStart => exact ⟨0, Nat.zero_le _, rfl, rfl, hb⟩
    case round =>
      clear hb
      obtain ⟨k, hk, rfl, rfl, hB⟩ := hrel
      by_cases hlt : k < n
      · have hok := HK.out
        obtain ⟨u0, u1, u2⟩ := rat_use hok (show k + 1 ≤ xs.length by rw [HL.out]; omega) (by rw [HL.out]; exact n2)
        obtain ⟨l0, l1⟩ := lt_bd hok (by rw [HL.out]; exact n2) (show k ≤ xs.length by rw [HL.out]; omega)
        obtain ⟨l2, l3⟩ := lt_bd hok (by rw [HL.out]; exact n2) (show k + 1 ≤ xs.length by rw [HL.out]; omega)
        obtain ⟨D, hD⟩ : ∃ D : Nat, (ratS (xs.take (k + 1))).2 = (D : Int) := ⟨_, (Int.natAbs_of_nonneg (by omega)).symm⟩
        have hok1 : okQ (xs.take (k + 1)) := fun q hq => hok q (List.mem_of_mem_take hq)
        rw [hD] at u1 u2
        obtain ⟨s1, s2, s3, s4⟩ := lt_step hD
        have g0 := gcdI_pos (a := (ltN xs k : Int)) (b := (D : Int)) u1
        have S1 := Lib.hid s1; have HD := Lib.hid hD
        have b1 : 0 ≤ (ltN xs k : Int).tdiv (gcdI (ltN xs k : Int) (D : Int)) * (D : Int) := by omega
        have b2 : (ltN xs k : Int).tdiv (gcdI (ltN xs k : Int) (D : Int)) * (D : Int) ≤ 2985984000000 := by omega
        have S4 := Lib.hid s4
        clear s1 s4 hok hD
        have HK1 := Lib.hid hok1; clear hok1
        have gz : ¬ (gcdI (ltN xs k : Int) (D : Int) = 0) := by omega
        have ki0 : (0 : Int) ≤ (k : Int) := Int.natCast_nonneg _
        have fld := fieldFr
        go_wp2_with fail
        refine (iRatio _ ((rdB h hB).take_ HL.out (by omega)) (by rw [List.length_take, HL.out]; omega) (by omega) HK1.out (by omega)).mono ?_
        rintro e w2 ⟨rfl, hb2⟩
        replace hB := bel2 hB hb2
        clear hb2
        have HD2 := HD.out
        rw [HD2]
        clear HD2
        go_wp2_with fail
        refine (iGcd _ _ _ (by omega) (by omega) (by omega) (by omega)).mono ?_
        rintro e w3 ⟨rfl, kk3, rfl⟩
        go_wp2_with fail
        go_roundw
        case rel => exact ⟨k + 1, by omega, by go_num, by rw [← S4.out, IntWalk.wrap64_in ((ltN xs k : Int).tdiv (gcdI (ltN xs k : Int) (D : Int))) (by omega), IntWalk.wrap64_in _ (by omega), S1.out], bel2 hB (RetQ.bel kk3)⟩
        case measure => simp [intOf]; omega
      · obtain rfl : k = n := by omega
        go_wp2
        go_ret2
        obtain ⟨e1, e2⟩ := HE.out
        rw [e1, e2, HL.out]
        exact ⟨rfl, hB⟩
end Go.Proofs.Ytmdipidejmnijaa
