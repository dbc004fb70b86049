/- Greatest common divisors, fractions in lowest terms, ratios of trains. No condition. -/
import Derived.Test.YtmdipidejmnijaaTrain
import Derived.Test.YtmdipidejmnijaaRg
import Derived.Deep.RegionLaw
namespace Go.Proofs.Ytmdipidejmnijaa
open Go.RowKit

/-- The greatest common divisor of a size and a number that is not negative. -/
def gcdI (a b : Int) : Int := (Nat.gcd a.natAbs b.natAbs : Int)
def lowQ (a b : Int) : Int × Int := (a.tdiv (gcdI a b), b.tdiv (gcdI a b))
theorem gcd_step (a b : Nat) : Nat.gcd a b = Nat.gcd b (a % b) := by rw [Nat.gcd_comm a b, Nat.gcd_rec b a, Nat.gcd_comm]
theorem gcdI_pos {a b : Int} (hb : 1 ≤ b) : 1 ≤ gcdI a b := by
  have : 0 < Nat.gcd a.natAbs b.natAbs := Nat.gcd_pos_of_pos_right _ (by omega)
  unfold gcdI
  omega
theorem gcdI_le {a b : Int} (hb : 1 ≤ b) : gcdI a b ≤ b := by
  have : Nat.gcd a.natAbs b.natAbs ≤ b.natAbs := Nat.gcd_le_right _ (by omega)
  unfold gcdI
  omega
theorem lowQ_bd {a b : Int} {B : Nat} (ha : a.natAbs ≤ B) (hb : 1 ≤ b) (hb' : b.natAbs ≤ B) : (lowQ a b).1.natAbs ≤ B ∧ 1 ≤ (lowQ a b).2 ∧ (lowQ a b).2.natAbs ≤ B := by
  have hg := gcdI_pos (a := a) hb
  have hd : gcdI a b ∣ b := Int.ofNat_dvd_left.2 (Nat.gcd_dvd_right _ _)
  refine ⟨Nat.le_trans (Int.natAbs_tdiv_le_natAbs _ _) ha, ?_, Nat.le_trans (Int.natAbs_tdiv_le_natAbs _ _) hb'⟩
  show 1 ≤ b.tdiv (gcdI a b)
  generalize gcdI a b = g at *
  obtain ⟨k, hk⟩ := hd
  rw [hk, Int.mul_tdiv_cancel_left _ (by omega)]
  by_cases h : k < 1
  · have : g * k ≤ 0 := Int.mul_nonpos_of_nonneg_of_nonpos (show 0 ≤ g by omega) (show k ≤ 0 by omega)
    omega
  · omega
theorem gcdI_abs (a b : Int) : gcdI (a.natAbs : Int) b = gcdI a b := by simp [gcdI]

set_option maxHeartbeats 800000 in
theorem sGcd (a b : Int) (w : World) (ha : 0 ≤ a) (hb : 0 ≤ b) (ha' : a ≤ 1000000000000000000) (hb' : b ≤ 1000000000000000000) :
    Calls Try.prog 41 #[.int .i64 a, .int .i64 b] w fun e w' => e = .returned (.int .i64 (gcdI a b)) ∧ w = w' := by
  go_enter Try.func41, Try.ntmps41
  go_wp2
  go_loop [0, 1] (fun x y => ∃ p q : Nat, x = .int .i64 p ∧ y = .int .i64 q ∧ p ≤ 1000000000000000000 ∧ q ≤ 1000000000000000000 ∧ Hid (Nat.gcd p q = Nat.gcd a.natAbs b.natAbs)) (fun _ y => (intOf y).toNat)
  case atStart => exact ⟨a.natAbs, b.natAbs, by rw [Int.natAbs_of_nonneg ha], by rw [Int.natAbs_of_nonneg hb], by omega, by omega, rfl⟩
  case round =>
    obtain ⟨p, q, rfl, rfl, hp, hq, hg⟩ := hrel
    by_cases h0 : q = 0
    · subst h0
      have hb0 : (((0 : Nat) : Int) != 0) = false := rfl
      go_wp2
      go_ret
      have hg' := hg.out
      rw [Nat.gcd_zero_right] at hg'
      exact ⟨ret_n (by unfold gcdI; rw [hg']), rfl⟩
    · have hb0 : ((q : Int) != 0) = true := by simp [h0]
      have hq0 : 1 ≤ (q : Int) := by omega
      have hm0 : 0 ≤ (p : Int) % (q : Int) := Int.emod_nonneg _ (by omega)
      have hm1 : (p : Int) % (q : Int) < (q : Int) := Int.emod_lt_of_pos _ (by omega)
      have hs := Lib.hid ((gcd_step p q).symm.trans hg.out)
      clear hg
      go_wp2
      go_round
      case rel => exact ⟨q, p % q, rfl, by simp, hq, by have := Nat.mod_lt p (show 0 < q by omega); omega, hs⟩
      case measure => simp [intOf]; omega
set_option maxHeartbeats 800000 in
theorem iGcd (a b : Int) (w : World) (ha : 0 ≤ a) (hb : 0 ≤ b) (ha' : a ≤ 1000000000000000000) (hb' : b ≤ 1000000000000000000) :
    Calls Try.prog 43 #[.int .i64 a, .int .i64 b] w (RetQ (.int .i64 (gcdI a b)) w) := by
  go_enter Try.func43, Try.ntmps43
  go_wp2
  go_loopw [0, 1] (fun x y wr => ∃ p q m : Nat, x = .int .i64 p ∧ y = .int .i64 q ∧ p ≤ 1000000000000000000 ∧ q ≤ 1000000000000000000 ∧ Hid (Nat.gcd p q = Nat.gcd a.natAbs b.natAbs) ∧ wr = w.drewN m) (fun _ y _ => (intOf y).toNat)
  case atStart => exact ⟨a.natAbs, b.natAbs, 0, by rw [Int.natAbs_of_nonneg ha], by rw [Int.natAbs_of_nonneg hb], by omega, by omega, rfl, rfl⟩
  case round =>
    obtain ⟨p, q, m, rfl, rfl, hp, hq, hg, rfl⟩ := hrel
    by_cases h0 : q = 0
    · subst h0
      have hb0 : (((0 : Nat) : Int) != 0) = false := rfl
      go_wp2
      go_ret
      have hg' := hg.out
      rw [Nat.gcd_zero_right] at hg'
      exact ⟨ret_n (by unfold gcdI; rw [hg']), m, rfl⟩
    · have hb0 : ((q : Int) != 0) = true := by simp [h0]
      have hq0 : 1 ≤ (q : Int) := by omega
      have hqz : ¬ ((q : Int) = 0) := by omega
      have hmod : (p : Int).tmod (q : Int) = (p : Int) % (q : Int) := Int.tmod_eq_emod_of_nonneg (by omega)
      have hs := Lib.hid ((gcd_step p q).symm.trans hg.out)
      clear hg
      go_wp2_with fail
      go_region
      all_goals
        go_wp2
        go_roundw
        case rel => exact ⟨q, p % q, m + 1, rfl, by simp, hq, by have := Nat.mod_lt p (show 0 < q by omega); omega, hs, by first | rfl | (simp [World.drewN, World.drew]; done) | (simp [World.drewN, World.drew]; omega)⟩
        case measure =>
          have hm1 : (p : Int) % (q : Int) < (q : Int) := Int.emod_lt_of_pos _ (by omega)
          simp [intOf]; omega

set_option maxHeartbeats 400000 in
theorem sAbs (a : Int) (w : World) (h : -1000000000000000000 ≤ a) : Calls Try.prog 50 #[.int .i64 a] w fun e w' => e = .returned (.int .i64 (a.natAbs : Int)) ∧ w = w' := by
  by_cases hc : a < 0
  all_goals
    go_enter Try.func50, Try.ntmps50
    go_wp2
    go_ret
    exact ⟨ret_n (by omega), rfl⟩

set_option maxHeartbeats 400000 in
theorem iAbs (a : Int) (w : World) (h : -1000000000000000000 ≤ a) : Calls Try.prog 51 #[.int .i64 a] w fun e w' => e = .returned (.int .i64 (a.natAbs : Int)) ∧ w = w' := by
  by_cases hc : a < 0
  all_goals
    go_enter Try.func51, Try.ntmps51
    go_wp2
    go_ret
    exact ⟨ret_n (by omega), rfl⟩

set_option maxHeartbeats 800000 in
theorem sLow {a b : Int} (w : World) (h0 : a.natAbs ≤ 1000000000000000000) (h1 : 1 ≤ b) (h2 : b ≤ 1000000000000000000) :
    Calls Try.prog 46 #[.int .i64 a, .int .i64 b] w fun e w' => e = .returned (.agg #[.int .i64 (lowQ a b).1, .int .i64 (lowQ a b).2]) ∧ Below w.heap.size w w' := by
  have hg := gcdI_pos (a := a) h1
  have hgz : ¬ (gcdI a b = 0) := by omega
  have d0 : (a.tdiv (gcdI a b)).natAbs ≤ a.natAbs := Int.natAbs_tdiv_le_natAbs _ _
  have d1 : (b.tdiv (gcdI a b)).natAbs ≤ b.natAbs := Int.natAbs_tdiv_le_natAbs _ _
  have W0 : IntKind.i64.wrap (a.tdiv (gcdI a b)) = a.tdiv (gcdI a b) := IntWalk.i64_in _ (by omega)
  have W1 : IntKind.i64.wrap (b.tdiv (gcdI a b)) = b.tdiv (gcdI a b) := IntWalk.i64_in _ (by omega)
  have HW0 := Lib.hid W0; have HW1 := Lib.hid W1; clear W0 W1
  go_enter Try.func46, Try.ntmps46
  go_wp2_with fail
  refine (sAbs a _ (by omega)).mono ?_
  rintro e w0 ⟨rfl, rfl⟩
  go_wp2_with fail
  refine (sGcd (a.natAbs : Int) b _ (by omega) (by omega) (by omega) (by omega)).mono ?_
  rintro e w1 ⟨rfl, rfl⟩
  rw [gcdI_abs]
  have W0 := HW0.out; have W1 := HW1.out
  go_wp2_with fail
  go_region
  all_goals
    go_wp2
    exact bodyPost_ret (v := .agg #[.int .i64 (a.tdiv (gcdI a b)), .int .i64 (b.tdiv (gcdI a b))]) (by simp [results, Try.results46, go_sem]) rfl ⟨rfl, (by repeat' (first | assumption | exact Below.refl _ _ | refine Below.drew ?_ | refine belN ?_ _ | refine Below.alloc ?_ (by first | omega | (simp; done) | (simp; omega)) _ | refine Below.setCell ?_ (by first | omega | (simp; done) | (simp; omega)) _))⟩

set_option maxHeartbeats 800000 in
theorem iLow {a b : Int} (w : World) (h0 : a.natAbs ≤ 1000000000000000000) (h1 : 1 ≤ b) (h2 : b ≤ 1000000000000000000) :
    Calls Try.prog 47 #[.int .i64 a, .int .i64 b] w fun e w' => e = .returned (.agg #[.int .i64 (lowQ a b).1, .int .i64 (lowQ a b).2]) ∧ Below w.heap.size w w' := by
  have hg := gcdI_pos (a := a) h1
  have hgz : ¬ (gcdI a b = 0) := by omega
  have d0 : (a.tdiv (gcdI a b)).natAbs ≤ a.natAbs := Int.natAbs_tdiv_le_natAbs _ _
  have d1 : (b.tdiv (gcdI a b)).natAbs ≤ b.natAbs := Int.natAbs_tdiv_le_natAbs _ _
  have W0 : IntKind.i64.wrap (a.tdiv (gcdI a b)) = a.tdiv (gcdI a b) := IntWalk.i64_in _ (by omega)
  have W1 : IntKind.i64.wrap (b.tdiv (gcdI a b)) = b.tdiv (gcdI a b) := IntWalk.i64_in _ (by omega)
  have HW0 := Lib.hid W0; have HW1 := Lib.hid W1; clear W0 W1
  go_enter Try.func47, Try.ntmps47
  go_wp2_with fail
  refine (iAbs a _ (by omega)).mono ?_
  rintro e w0 ⟨rfl, rfl⟩
  go_wp2_with fail
  refine (iGcd (a.natAbs : Int) b _ (by omega) (by omega) (by omega) (by omega)).mono ?_
  rintro e w1 ⟨rfl, kk, rfl⟩
  rw [gcdI_abs]
  have W0 := HW0.out; have W1 := HW1.out
  go_wp2_with fail
  go_region
  all_goals
    go_wp2
    exact bodyPost_ret (v := .agg #[.int .i64 (a.tdiv (gcdI a b)), .int .i64 (b.tdiv (gcdI a b))]) (by simp [results, Try.results47, go_sem]) rfl ⟨rfl, (by repeat' (first | assumption | exact Below.refl _ _ | refine Below.drew ?_ | refine belN ?_ _ | refine Below.alloc ?_ (by first | omega | (simp; done) | (simp; omega)) _ | refine Below.setCell ?_ (by first | omega | (simp; done) | (simp; omega)) _))⟩

def ratS (xs : List (Int × Int)) : Int × Int := xs.foldl (fun f q => lowQ (-f.1 * q.1) (f.2 * q.2)) (1, 1)
theorem ratS_step {xs : List (Int × Int)} {k : Nat} {q : Int × Int} (hq : xs[k]? = some q) : ratS (xs.take (k + 1)) = lowQ (-(ratS (xs.take k)).1 * q.1) ((ratS (xs.take k)).2 * q.2) := by
  rw [List.take_add_one, hq]
  simp [ratS, List.foldl_append]
theorem mul_nat {a b : Int} {B : Nat} (ha : a.natAbs ≤ B) (h0 : 0 ≤ b) (hb : b ≤ 120) : (a * b).natAbs ≤ B * 120 := by
  rw [Int.natAbs_mul]
  exact Nat.mul_le_mul ha (by omega)
theorem mul_pos1 {a b : Int} (ha : 1 ≤ a) (hb : 1 ≤ b) : 1 ≤ a * b := by
  have := Int.mul_le_mul ha hb (by omega) (by omega)
  omega
def okQ (xs : List (Int × Int)) : Prop := ∀ q ∈ xs, (2 ≤ q.1 ∧ q.1 ≤ 120) ∧ 2 ≤ q.2 ∧ q.2 ≤ 120
theorem rat_bd {xs : List (Int × Int)} (h : okQ xs) : ∀ k, k ≤ xs.length → (ratS (xs.take k)).1.natAbs ≤ 120 ^ k ∧ 1 ≤ (ratS (xs.take k)).2 ∧ (ratS (xs.take k)).2.natAbs ≤ 120 ^ k
  | 0, _ => by simp [ratS]
  | k + 1, hk => by
    obtain ⟨i1, i2, i3⟩ := rat_bd h k (by omega)
    have hq : xs[k]? = some (xs[k]'(by omega)) := List.getElem?_eq_getElem _
    have hv := h _ (List.mem_of_getElem? hq)
    rw [ratS_step hq, Nat.pow_succ]
    exact lowQ_bd (mul_nat (by rw [Int.natAbs_neg]; exact i1) (by omega) (by omega)) (mul_pos1 i2 (by omega)) (mul_nat i3 (by omega) (by omega))
theorem rat_use {xs : List (Int × Int)} (h : okQ xs) {k : Nat} (hk : k ≤ xs.length) (h6 : xs.length ≤ 6) : (ratS (xs.take k)).1.natAbs ≤ 2985984000000 ∧ 1 ≤ (ratS (xs.take k)).2 ∧ (ratS (xs.take k)).2.natAbs ≤ 2985984000000 := by
  obtain ⟨h1, h2, h3⟩ := rat_bd h k hk
  have : 120 ^ k ≤ 120 ^ 6 := Nat.pow_le_pow_right (by omega) (by omega)
  omega
theorem rat_mul {xs : List (Int × Int)} (h : okQ xs) {k : Nat} {q : Int × Int} (hq : xs[k]? = some q) (h6 : xs.length ≤ 6) : (-(ratS (xs.take k)).1 * q.1).natAbs ≤ 2985984000000 ∧ 1 ≤ (ratS (xs.take k)).2 * q.2 ∧ ((ratS (xs.take k)).2 * q.2).natAbs ≤ 2985984000000 := by
  have hk : k < xs.length := (List.getElem?_eq_some_iff.1 hq).1
  obtain ⟨i1, i2, i3⟩ := rat_bd h k (by omega)
  have hv := h _ (List.mem_of_getElem? hq)
  have h5 : 120 ^ k ≤ 120 ^ 5 := Nat.pow_le_pow_right (by omega) (by omega)
  have e1 := mul_nat (a := -(ratS (xs.take k)).1) (b := q.1) (by rw [Int.natAbs_neg]; exact i1) (by omega) (by omega)
  have e2 := mul_nat (a := (ratS (xs.take k)).2) (b := q.2) i3 (by omega) (by omega)
  have e3 := mul_pos1 i2 (show 1 ≤ q.2 by omega)
  omega

attribute [local irreducible] wpList Code.wp
set_option maxHeartbeats 3200000 in
theorem sRatio {A : Option Addr} {n c : Nat} {xs : List (Int × Int)} (w : World) (h : Reads w w.heap.size 2 A n (flat encPair xs)) (hl : xs.length = n) (hm : n ≤ maxLen) (hok : okQ xs) (h6 : n ≤ 6) :
    Calls Try.prog 44 #[.slice A n c] w fun e w' => e = .returned (.agg #[.int .i64 (ratS xs).1, .int .i64 (ratS xs).2]) ∧ Below w.heap.size w w' := by
  have HK := Lib.hid hok; clear hok
  have HL := Lib.hid hl; clear hl
  go_enter Try.func44, Try.ntmps44
  go_wp2
  go_loopw [4] (fun i wr => ∃ k : Nat, k ≤ n ∧ i = .int .i64 k ∧ Blk wr w.heap.size 37 #[.int .i64 0, .int .i64 0] ∧ Blk wr (w.heap.size + 1) 37 #[.int .i64 (ratS (xs.take k)).1, .int .i64 (ratS (xs.take k)).2] ∧ Below w.heap.size w wr) (fun i _ => n - (intOf i).toNat)
  case atStart => exact ⟨0, Nat.zero_le _, rfl, (Blk.new _ _ _).alloc _, by simpa [ratS] using Blk.new (w.alloc (.cells #[.int .i64 0, .int .i64 0] 37)) 37 #[.int .i64 1, .int .i64 1], (by repeat' (first | assumption | exact Below.refl _ _ | refine Below.drew ?_ | refine belN ?_ _ | refine Below.alloc ?_ (by first | omega | (simp; done) | (simp; omega)) _ | refine Below.setCell ?_ (by first | omega | (simp; done) | (simp; omega)) _))⟩
  case round =>
    obtain ⟨k, hk, rfl, hR, hF, hB⟩ := hrel
    have hz := hB.size
    have c0 := hF.cell 0; have c1 := hF.cell 1; have d0 := hR.cell 0; have d1 := hR.cell 1; have fF := hF.frozen; have fR := hR.frozen
    simp at c0 c1 d0 d1
    by_cases hlt : k < n
    · obtain ⟨b, off, q, rfl, hbb, hq, hc⟩ := (rdB h hB).row_at encPair_length (by decide) HL.out hlt
      obtain ⟨p0, p1, p2⟩ := rat_mul HK.out hq (by rw [HL.out]; exact h6)
      obtain ⟨u0, u1, u2⟩ := rat_use HK.out (show k ≤ xs.length by rw [HL.out]; exact hk) (by rw [HL.out]; exact h6)
      have HS := Lib.hid (ratS_step hq); clear hq
      have e0 := hc 0 _ rfl; have e1 := hc 1 _ rfl
      simp only [Nat.add_zero] at e0
      clear hc
      have g0 := fun X : Obj => cellA c0 X; have g1 := fun X : Obj => cellA c1 X
      have ki0 : (0 : Int) ≤ (k : Int) := Int.natCast_nonneg _
      have ki1 : (k : Int) < (n : Int) := by omega
      have W0 : IntKind.i64.wrap (-(ratS (xs.take k)).1) = -(ratS (xs.take k)).1 := IntWalk.i64_in _ (by omega)
      have W1 : IntKind.i64.wrap (-(ratS (xs.take k)).1 * q.1) = -(ratS (xs.take k)).1 * q.1 := IntWalk.i64_in _ (by omega)
      have W2 : IntKind.i64.wrap ((ratS (xs.take k)).2 * q.2) = (ratS (xs.take k)).2 * q.2 := IntWalk.i64_in _ (by omega)
      go_wp2_with fail
      go_region_with (go_at_call 46; refine (sLow _ (by omega) p1 (by omega)).mono ?_; rintro e w1 ⟨rfl, hb1⟩; have hF1 := (hF.bel ((Below.refl _ _).drew)).bel hb1; have hR1 := (hR.bel ((Below.refl _ _).drew)).bel hb1; have hB1 := bel2 hB.drew hb1; have f0 := hF1.cell 0; have f1 := hF1.cell 1; have fz := hF1.frozen; simp at f0 f1)
      all_goals
        go_wp2
        go_roundw
        case rel => exact ⟨k + 1, by omega, by go_num, (hR1.far (by first | omega | (simp; done) | (simp; omega)) _).far (by first | omega | (simp; done) | (simp; omega)) _, by rw [HS.out]; simpa using (hF1.set_ 0 _).set_ 1 _, (hB1.setCell (by first | omega | (simp; done) | (simp; omega)) _).setCell (by first | omega | (simp; done) | (simp; omega)) _⟩
        case measure => simp [intOf]; omega
    · obtain rfl : k = n := by omega
      rw [List.take_of_length_le (by rw [HL.out]; exact Nat.le_refl _)] at c0 c1
      clear hF
      go_wp2
      exact bodyPost_ret (v := .agg #[.int .i64 (ratS xs).1, .int .i64 (ratS xs).2]) (by simp [results, Try.results44, go_sem, d0, d1]) rfl ⟨rfl, (hB.setCell (Nat.le_refl _) _).setCell (Nat.le_refl _) _⟩

set_option maxHeartbeats 3200000 in
theorem iRatio {A : Option Addr} {n c : Nat} {xs : List (Int × Int)} (w : World) (h : Reads w w.heap.size 2 A n (flat encPair xs)) (hl : xs.length = n) (hm : n ≤ maxLen) (hok : okQ xs) (h6 : n ≤ 6) :
    Calls Try.prog 45 #[.slice A n c] w fun e w' => e = .returned (.agg #[.int .i64 (ratS xs).1, .int .i64 (ratS xs).2]) ∧ Below w.heap.size w w' := by
  have HK := Lib.hid hok; clear hok
  have HL := Lib.hid hl; clear hl
  go_enter Try.func45, Try.ntmps45
  go_wp2
  go_loopw [9] (fun i wr => ∃ k : Nat, k ≤ n ∧ i = .int .i64 k ∧ Blk wr w.heap.size 37 #[.int .i64 0, .int .i64 0] ∧ Blk wr (w.heap.size + 1) 37 #[.int .i64 (ratS (xs.take k)).1, .int .i64 (ratS (xs.take k)).2] ∧ Below w.heap.size w wr) (fun i _ => n - (intOf i).toNat)
  case atStart => exact ⟨0, Nat.zero_le _, rfl, (Blk.new _ _ _).alloc _, by simpa [ratS] using Blk.new (w.alloc (.cells #[.int .i64 0, .int .i64 0] 37)) 37 #[.int .i64 1, .int .i64 1], (by repeat' (first | assumption | exact Below.refl _ _ | refine Below.drew ?_ | refine belN ?_ _ | refine Below.alloc ?_ (by first | omega | (simp; done) | (simp; omega)) _ | refine Below.setCell ?_ (by first | omega | (simp; done) | (simp; omega)) _))⟩
  case round =>
    obtain ⟨k, hk, rfl, hR, hF, hB⟩ := hrel
    have hz := hB.size
    have c0 := hF.cell 0; have c1 := hF.cell 1; have d0 := hR.cell 0; have d1 := hR.cell 1; have fF := hF.frozen; have fR := hR.frozen
    simp at c0 c1 d0 d1
    by_cases hlt : k < n
    · obtain ⟨b, off, q, rfl, hbb, hq, hc⟩ := (rdB h hB).row_at encPair_length (by decide) HL.out hlt
      obtain ⟨p0, p1, p2⟩ := rat_mul HK.out hq (by rw [HL.out]; exact h6)
      obtain ⟨u0, u1, u2⟩ := rat_use HK.out (show k ≤ xs.length by rw [HL.out]; exact hk) (by rw [HL.out]; exact h6)
      have HS := Lib.hid (ratS_step hq); clear hq
      have e0 := hc 0 _ rfl; have e1 := hc 1 _ rfl
      simp only [Nat.add_zero] at e0
      clear hc
      have g0 := fun X : Obj => cellA c0 X; have g1 := fun X : Obj => cellA c1 X
      have ki0 : (0 : Int) ≤ (k : Int) := Int.natCast_nonneg _
      have ki1 : (k : Int) < (n : Int) := by omega
      go_wp2_with (first | (go_at_call 47; refine (iLow _ (by omega) p1 (by omega)).mono ?_; rintro e w1 ⟨rfl, hb1⟩; have hF1 := (hF.alloc _).bel hb1; have hR1 := (hR.alloc _).bel hb1; have hB1 := bel2 (hB.alloc (by omega) _) hb1; have f0 := hF1.cell 0; have f1 := hF1.cell 1; have fz := hF1.frozen; simp at f0 f1))
      go_roundw
      case rel => exact ⟨k + 1, by omega, by go_num, (hR1.far (by first | omega | (simp; done) | (simp; omega)) _).far (by first | omega | (simp; done) | (simp; omega)) _, by rw [HS.out]; simpa using (hF1.set_ 0 _).set_ 1 _, (hB1.setCell (by first | omega | (simp; done) | (simp; omega)) _).setCell (by first | omega | (simp; done) | (simp; omega)) _⟩
      case measure => simp [intOf]; omega
    · obtain rfl : k = n := by omega
      rw [List.take_of_length_le (by rw [HL.out]; exact Nat.le_refl _)] at c0 c1
      clear hF
      go_wp2
      exact bodyPost_ret (v := .agg #[.int .i64 (ratS xs).1, .int .i64 (ratS xs).2]) (by simp [results, Try.results45, go_sem, d0, d1]) rfl ⟨rfl, (hB.setCell (Nat.le_refl _) _).setCell (Nat.le_refl _) _⟩
end Go.Proofs.Ytmdipidejmnijaa
