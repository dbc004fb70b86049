/- A train with a ratio: the first fitting factors. No condition. -/
import Derived.Test.YtmdipidejmnijaaRatOf
namespace Go.Proofs.Ytmdipidejmnijaa
open Go.RowKit

def okF (n p : Nat) : Bool := decide (1 ≤ p) && decide (n % p = 0) && decide (n / p ≤ 60)
def ffP (n : Nat) : Option Nat := (List.range 61).find? (okF n)
theorem okF_le {n p : Nat} (h1 : 1 ≤ n) (h : okF n p = true) : 1 ≤ p ∧ p ≤ n ∧ n % p = 0 ∧ n / p ≤ 60 := by
  simp only [okF, Bool.and_eq_true, decide_eq_true_eq] at h
  exact ⟨h.1.1, Nat.le_of_dvd h1 (Nat.dvd_of_mod_eq_zero h.1.2), h.1.2, h.2⟩
theorem okF_no {n p : Nat} (h : ¬ (n % p = 0 ∧ n / p ≤ 60)) : okF n p = false := by
  cases hk : okF n p
  · rfl
  · simp only [okF, Bool.and_eq_true, decide_eq_true_eq] at hk
    exact absurd ⟨hk.1.2, hk.2⟩ h
theorem okF_yes {n p : Nat} (h1 : 1 ≤ p) (h2 : n % p = 0) (h3 : n / p ≤ 60) : okF n p = true := by simp [okF, h1, h2, h3]
theorem ffP_some {n p : Nat} (h : okF n p = true) (hp : p ≤ 60) (hf : ∀ j, j < p → okF n j = false) : ffP n = some p := by
  unfold ffP
  rw [List.find?_range_eq_some]
  exact ⟨h, List.mem_range.2 (by omega), fun j hj => by simp [hf j hj]⟩
theorem ffP_none {n p : Nat} (h1 : 1 ≤ n) (hp : ¬ (p ≤ n ∧ p ≤ 60)) (hf : ∀ j, j < p → okF n j = false) : ffP n = none := by
  unfold ffP
  rw [List.find?_range_eq_none]
  intro j hj
  have : okF n j = false := by
    by_cases hjp : j < p
    · exact hf j hjp
    · cases hk : okF n j
      · rfl
      · have := (okF_le h1 hk).2.1
        omega
  simp [this]
theorem ffP_not {n q : Nat} (h : ffP n = none) (hq : q ≤ 60) : okF n q = false := by
  unfold ffP at h
  rw [List.find?_range_eq_none] at h
  have := h q (by omega)
  simpa using this
/-- The first fitting factors of both, if there are such. -/
def ftQ (n d : Nat) : Option (Nat × Nat) := match ffP n, ffP d with
  | some p, some q => some (p, q)
  | _, _ => none
theorem ftQ_some {n d p q : Nat} (h1 : ffP n = some p) (h2 : ffP d = some q) : ftQ n d = some (p, q) := by simp [ftQ, h1, h2]
theorem ftQ_none {n d : Nat} (h : ffP n = none ∨ ffP d = none) : ftQ n d = none := by
  unfold ftQ
  rcases h with h | h <;> rw [h]
  cases ffP n <;> rfl
def ftL (n d : Nat) : List (Int × Int) := match ftQ n d with
  | some (p, q) => [(2 * (p : Int), 2 * (q : Int)), (2 * ((n : Int) / (p : Int)), 2 * ((d : Int) / (q : Int)))]
  | none => []
def ftOk (a b : Int) : Bool := betwB a 1 1000000 && betwB b 1 1000000
def ftA (a b : Int) : Nat := a.natAbs / Nat.gcd a.natAbs b.natAbs
def ftB (a b : Int) : Nat := b.natAbs / Nat.gcd a.natAbs b.natAbs
def ftXs (a b : Int) : List (Int × Int) := if ftOk a b then ftL (ftA a b) (ftB a b) else []
def ftN (a b : Int) : Nat := (ftXs a b).length
def ftCode (a b : Int) : Int := if ftOk a b then (if (ftQ (ftA a b) (ftB a b)).isSome then 0 else 3) else 2
theorem ftN_le (a b : Int) : ftN a b ≤ 1073741824 := by
  unfold ftN ftXs ftL
  split
  · split <;> simp
  · simp
theorem ft_far {a b : Int} (h : ftOk a b = false) : ftCode a b = 2 ∧ ftN a b = 0 ∧ ftXs a b = [] := by simp [ftCode, ftN, ftXs, h]
theorem ft_no {a b : Int} (h : ftOk a b = true) (h' : ftQ (ftA a b) (ftB a b) = none) : ftCode a b = 3 ∧ ftN a b = 0 ∧ ftXs a b = [] := by simp [ftCode, ftN, ftXs, ftL, h, h']
theorem ft_yes {a b : Int} {p q : Nat} (h : ftOk a b = true) (h' : ftQ (ftA a b) (ftB a b) = some (p, q)) : ftCode a b = 0 ∧ ftN a b = 2 ∧ ftXs a b = [(2 * (p : Int), 2 * (q : Int)), (2 * ((ftA a b : Int) / (p : Int)), 2 * ((ftB a b : Int) / (q : Int)))] := by simp [ftCode, ftN, ftXs, ftL, h, h']
/-- What the walks ask of two numbers in bounds. -/
theorem ft_open {a b : Int} (h : ftOk a b = true) : (1 ≤ a ∧ a ≤ 1000000) ∧ (1 ≤ b ∧ b ≤ 1000000) ∧ 1 ≤ gcdI a b ∧ gcdI a b ≤ 1000000 ∧ a.tdiv (gcdI a b) = (ftA a b : Int) ∧ b.tdiv (gcdI a b) = (ftB a b : Int) ∧ a / (gcdI a b) = (ftA a b : Int) ∧ b / (gcdI a b) = (ftB a b : Int) ∧ (1 ≤ ftA a b ∧ ftA a b ≤ 1000000) ∧ (1 ≤ ftB a b ∧ ftB a b ≤ 1000000) := by
  simp only [ftOk, Bool.and_eq_true, betw_iff] at h
  obtain ⟨⟨a1, a2⟩, b1, b2⟩ := h
  obtain ⟨n, rfl⟩ := Int.eq_ofNat_of_zero_le (show 0 ≤ a by omega)
  obtain ⟨d, rfl⟩ := Int.eq_ofNat_of_zero_le (show 0 ≤ b by omega)
  have hg : gcdI (n : Int) (d : Int) = ((Nat.gcd n d : Nat) : Int) := by simp [gcdI]
  have gp : 0 < Nat.gcd n d := Nat.gcd_pos_of_pos_left _ (by omega)
  have gl : Nat.gcd n d ≤ n := Nat.gcd_le_left _ (by omega)
  have gr : Nat.gcd n d ≤ d := Nat.gcd_le_right _ (by omega)
  have e1 : ftA (n : Int) (d : Int) = n / Nat.gcd n d := by simp [ftA]
  have e2 : ftB (n : Int) (d : Int) = d / Nat.gcd n d := by simp [ftB]
  have n1 : 1 ≤ n / Nat.gcd n d := Nat.div_pos gl gp
  have n2 : n / Nat.gcd n d ≤ n := Nat.div_le_self _ _
  have d1 : 1 ≤ d / Nat.gcd n d := Nat.div_pos gr gp
  have d2 : d / Nat.gcd n d ≤ d := Nat.div_le_self _ _
  rw [hg, e1, e2]
  refine ⟨⟨a1, a2⟩, ⟨b1, b2⟩, by omega, by omega, ?_, ?_, (Int.natCast_ediv _ _).symm, (Int.natCast_ediv _ _).symm, ⟨n1, by omega⟩, d1, by omega⟩
  · rw [Int.tdiv_eq_ediv_of_nonneg (by omega)]; exact (Int.natCast_ediv _ _).symm
  · rw [Int.tdiv_eq_ediv_of_nonneg (by omega)]; exact (Int.natCast_ediv _ _).symm

theorem tm_yes {n p : Nat} (h : n % p = 0) : ((n : Int) % (p : Int) == 0) = true := by
  rw [beq_iff_eq, ← Int.natCast_emod, h]; rfl
theorem tm_no {n p : Nat} (h : ¬ n % p = 0) : ((n : Int) % (p : Int) == 0) = false := by
  rw [beq_eq_false_iff_ne, ← Int.natCast_emod]; omega
theorem tn_yes {n p : Nat} (h : n % p = 0) : ((n : Int) % (p : Int) != 0) = false := by simp only [bne, tm_yes h, Bool.not_true]
theorem tn_no {n p : Nat} (h : ¬ n % p = 0) : ((n : Int) % (p : Int) != 0) = true := by simp only [bne, tm_no h, Bool.not_false]
theorem dv_le {n p : Nat} (h : n / p ≤ 60) : (n : Int) / (p : Int) ≤ 60 := by rw [← Int.natCast_ediv]; omega
theorem dv_gt {n p : Nat} (h : ¬ n / p ≤ 60) : ¬ ((n : Int) / (p : Int) ≤ 60) := by rw [← Int.natCast_ediv]; omega
theorem dv_bd {n p : Nat} (h : n ≤ 1000000) : 0 ≤ (n : Int) / (p : Int) ∧ (n : Int) / (p : Int) ≤ 1000000 := by
  rw [← Int.natCast_ediv]
  exact ⟨Int.natCast_nonneg _, Int.ofNat_le.2 (Nat.le_trans (Nat.div_le_self n p) h)⟩
theorem dv_t {n p : Nat} : (n : Int).tdiv (p : Int) = (n : Int) / (p : Int) := Int.tdiv_eq_ediv_of_nonneg (by omega)
theorem dm_t {n p : Nat} : (n : Int).tmod (p : Int) = (n : Int) % (p : Int) := Int.tmod_eq_emod_of_nonneg (by omega)

set_option maxHeartbeats 400000 in
theorem sFits {a b : Int} (w : World) (a0 : 0 ≤ a) (a1 : a ≤ 1000000) (b0 : 0 ≤ b) (b1 : b ≤ 1000000) : Calls Try.prog 42 #[.int .i64 a, .int .i64 b] w fun e w' => e = .returned (.bool (decide (a ≤ 60) && decide (b ≤ 60))) ∧ w = w' := by
  by_cases ha : a ≤ 60
  all_goals
    go_enter Try.func42, Try.ntmps42
    go_wp2
    go_ret
    exact ⟨ret_b (by rw [Bool.eq_iff_iff]; simp [ha] <;> omega), rfl⟩

set_option maxHeartbeats 6400000 in
theorem sFind {a b : Int} (w : World) (wa : inI a) (wb : inI b) :
    Calls Try.prog 16 #[.int .i64 a, .int .i64 b] w (RetSC w 51 2 (ftN a b) (flat encPair (ftXs a b)) (ftCode a b)) := by
  cases h1 : betwB a 1 1000000
  · have HE := Lib.hid (ft_far (show ftOk a b = false by simp [ftOk, h1]))
    go_enter Try.func16, Try.ntmps16
    go_wp2_with (first | (go_at_call 40; refine (l00In_any _ _ _ _).mono ?_; rintro e w' ⟨rfl, rfl⟩))
    go_ret2
    obtain ⟨e1, e2, e3⟩ := HE.out
    rw [e1, e2, e3]
    exact ⟨_, rfl, Own.nil _ _ _ _ _, Below.refl _ _⟩
  cases h2 : betwB b 1 1000000
  · have HE := Lib.hid (ft_far (show ftOk a b = false by simp [ftOk, h2]))
    go_enter Try.func16, Try.ntmps16
    go_wp2_with (first | (go_at_call 40; refine (l00In_any _ _ _ _).mono ?_; rintro e w' ⟨rfl, rfl⟩))
    go_ret2
    obtain ⟨e1, e2, e3⟩ := HE.out
    rw [e1, e2, e3]
    exact ⟨_, rfl, Own.nil _ _ _ _ _, Below.refl _ _⟩
  have hok : ftOk a b = true := by simp [ftOk, h1, h2]
  obtain ⟨⟨a1, a2⟩, ⟨b1, b2⟩, g1, g2, q1, q2, q3, q4, ⟨n1, n2⟩, d1, d2⟩ := ft_open hok
  obtain ⟨n, HA⟩ : ∃ n, Hid (ftA a b = n) := ⟨_, rfl⟩
  obtain ⟨d, HB⟩ : ∃ d, Hid (ftB a b = d) := ⟨_, rfl⟩
  rw [HA.out] at q1 q3 n1 n2
  rw [HB.out] at q2 q4 d1 d2
  have gz : ¬ gcdI a b = 0 := by omega
  go_enter Try.func16, Try.ntmps16
  go_wp2_with (first | (go_at_call 40; refine (l00In_any _ _ _ _).mono ?_; rintro e w' ⟨rfl, rfl⟩))
  refine (sGcd a b _ (by omega) (by omega) (by omega) (by omega)).mono ?_
  rintro e w1 ⟨rfl, hw1⟩
  have hb : Below w.heap.size w w1 := by rw [← hw1]; exact Below.refl _ _
  clear hw1
  go_wp2
  clear h1 h2 q1 q2 q3 q4 gz
  have HO := Lib.hid hok; clear hok
  have HZ : Hid (∀ j, j < 1 → okF n j = true → ffP d = none) := fun j hj hj' => by
    obtain rfl : j = 0 := by omega
    simp [okF] at hj'
  go_loop [9] (fun x => ∃ p : Nat, 1 ≤ p ∧ p ≤ 61 ∧ x = .int .i64 p ∧ Hid (∀ j, j < p → okF n j = true → ffP d = none)) (fun x => 62 - (intOf x).toNat)
  case atStart => exact ⟨1, by omega, by omega, rfl, HZ⟩
  case round =>
    obtain ⟨p, p1, p2, rfl, hN⟩ := hrel
    by_cases hp : p ≤ n ∧ p ≤ 60
    · obtain ⟨hpn, hp6⟩ := hp
      have pz : ¬ ((p : Int) = 0) := by omega
      have c1 : (p : Int) ≤ (n : Int) := by omega
      have c2 : (p : Int) ≤ 60 := by omega
      have c3 : 2 * (p : Int) ≤ 120 := by omega
      have c4 : (1 : Int) ≤ (d : Int) := by omega
      obtain ⟨v0, v1⟩ := dv_bd (p := p) n2
      have m0 : 0 ≤ (n : Int) % (p : Int) := Int.emod_nonneg _ pz
      cases HP : okF n p
      · have hN2 : Hid (∀ j, j < p + 1 → okF n j = true → ffP d = none) := fun j hj hj' => by
          by_cases hjp : j < p
          · exact hN.out j hjp hj'
          · obtain rfl : j = p := by omega
            rw [HP] at hj'; cases hj'
        clear hN
        by_cases hm : n % p = 0
        · have t1 := tm_yes hm
          have t2 := tn_yes hm
          have hq6 : ¬ n / p ≤ 60 := fun hq => by rw [okF_yes p1 hm hq] at HP; cases HP
          have t3 := dv_gt hq6
          clear hm hq6 HP
          go_wp2
          go_loop [10] (fun x => ∃ q : Nat, 1 ≤ q ∧ q ≤ 61 ∧ x = .int .i64 q) (fun x => 62 - (intOf x).toNat)
          case atStart => exact ⟨1, by omega, by omega, rfl⟩
          case round =>
            obtain ⟨q, q1, q2, rfl⟩ := hrel
            by_cases hq : q ≤ d ∧ q ≤ 60
            · obtain ⟨hqd, hq6⟩ := hq
              have qz : ¬ ((q : Int) = 0) := by omega
              have e1 : (q : Int) ≤ (d : Int) := by omega
              have e2 : (q : Int) ≤ 60 := by omega
              have e3 : 2 * (q : Int) ≤ 120 := by omega
              have y0 : 0 ≤ (d : Int) % (q : Int) := Int.emod_nonneg _ qz
              by_cases hm : d % q = 0
              · have s1 := tm_yes hm
                clear hm
                go_wp2_with (first | (go_at_call 42; refine (sFits _ (by omega) (by omega) (by omega) (by omega)).mono ?_; rintro e w' ⟨rfl, rfl⟩))
                go_round
                case rel => exact ⟨q + 1, by omega, by omega, by go_num⟩
                case measure => simp [intOf]; omega
              · have s1 := tm_no hm
                clear hm
                go_wp2_with (first | (go_at_call 42; refine (sFits _ (by omega) (by omega) (by omega) (by omega)).mono ?_; rintro e w' ⟨rfl, rfl⟩))
                go_round
                case rel => exact ⟨q + 1, by omega, by omega, by go_num⟩
                case measure => simp [intOf]; omega
            · by_cases hqd : (q : Int) ≤ (d : Int)
              · have e3 : ¬ (2 * (q : Int) ≤ 120) := by omega
                go_wp2_with (first | (go_at_call 42; refine (sFits _ (by omega) (by omega) (by omega) (by omega)).mono ?_; rintro e w' ⟨rfl, rfl⟩))
                go_round
                case rel => exact ⟨p + 1, by omega, by omega, by go_num, hN2⟩
                case measure => simp [intOf]; omega
              · go_wp2_with (first | (go_at_call 42; refine (sFits _ (by omega) (by omega) (by omega) (by omega)).mono ?_; rintro e w' ⟨rfl, rfl⟩))
                go_round
                case rel => exact ⟨p + 1, by omega, by omega, by go_num, hN2⟩
                case measure => simp [intOf]; omega
        · have t1 := tm_no hm
          have t2 := tn_no hm
          clear hm HP
          go_wp2
          go_loop [10] (fun x => x = .int .i64 1) (fun _ => 0)
          case atStart => exact rfl
          case round =>
            obtain rfl := hrel
            go_wp2
            go_round
            case rel => exact ⟨p + 1, by omega, by omega, by go_num, hN2⟩
            case measure => simp [intOf]; omega
      · obtain ⟨_, _, hm, hq6⟩ := okF_le (by omega) HP
        have t1 := tm_yes hm
        have t2 := tn_yes hm
        have t3 := dv_le hq6
        have HPH := Lib.hid HP
        clear hm hq6 HP
        go_wp2
        go_loop [10] (fun x => ∃ q : Nat, 1 ≤ q ∧ q ≤ 61 ∧ x = .int .i64 q ∧ Hid (∀ j, j < q → okF d j = false)) (fun x => 62 - (intOf x).toNat)
        case atStart => exact ⟨1, by omega, by omega, rfl, fun j hj => by
          obtain rfl : j = 0 := by omega
          simp [okF]⟩
        case round =>
          obtain ⟨q, q1, q2, rfl, hM⟩ := hrel
          by_cases hq : q ≤ d ∧ q ≤ 60
          · obtain ⟨hqd, hq6⟩ := hq
            have qz : ¬ ((q : Int) = 0) := by omega
            have e1 : (q : Int) ≤ (d : Int) := by omega
            have e2 : (q : Int) ≤ 60 := by omega
            have e3 : 2 * (q : Int) ≤ 120 := by omega
            obtain ⟨x0, x1⟩ := dv_bd (p := q) d2
            have y0 : 0 ≤ (d : Int) % (q : Int) := Int.emod_nonneg _ qz
            cases HQ : okF d q
            · have hM2 : Hid (∀ j, j < q + 1 → okF d j = false) := fun j hj => by
                by_cases hjq : j < q
                · exact hM.out j hjq
                · obtain rfl : j = q := by omega
                  exact HQ
              by_cases hm : d % q = 0
              · have s1 := tm_yes hm
                have hs6 : ¬ d / q ≤ 60 := fun hq => by rw [okF_yes q1 hm hq] at HQ; cases HQ
                have s3 := dv_gt hs6
                clear hm hs6 HQ hM
                go_wp2_with (first | (go_at_call 42; refine (sFits _ (by omega) (by omega) (by omega) (by omega)).mono ?_; rintro e w' ⟨rfl, rfl⟩))
                go_round
                case rel => exact ⟨q + 1, by omega, by omega, by go_num, hM2⟩
                case measure => simp [intOf]; omega
              · have s1 := tm_no hm
                clear hm HQ hM
                go_wp2_with (first | (go_at_call 42; refine (sFits _ (by omega) (by omega) (by omega) (by omega)).mono ?_; rintro e w' ⟨rfl, rfl⟩))
                go_round
                case rel => exact ⟨q + 1, by omega, by omega, by go_num, hM2⟩
                case measure => simp [intOf]; omega
            · obtain ⟨_, _, hm, hs6⟩ := okF_le (by omega) HQ
              have s1 := tm_yes hm
              have s3 := dv_le hs6
              have HE : Hid (ftCode a b = 0 ∧ ftN a b = 2 ∧ ftXs a b = [(2 * (p : Int), 2 * (q : Int)), (2 * ((n : Int) / (p : Int)), 2 * ((d : Int) / (q : Int)))]) := by
                have := ft_yes (p := p) (q := q) HO.out (by
                  rw [HA.out, HB.out]
                  refine ftQ_some (ffP_some HPH.out hp6 fun j hj => ?_) (ffP_some HQ hq6 fun j hj => hM.out j hj)
                  cases hj' : okF n j
                  · rfl
                  · have := ffP_not (hN.out j hj hj') hq6
                    rw [HQ] at this
                    cases this)
                rw [HA.out, HB.out] at this
                exact this
              clear hm hs6 HQ hM
              have T1 : (n : Int).tdiv (p : Int) = (n : Int) / (p : Int) := dv_t
              have T2 : (d : Int).tdiv (q : Int) = (d : Int) / (q : Int) := dv_t
              have W1 : IntKind.i64.wrap (2 * (p : Int)) = 2 * (p : Int) := IntWalk.i64_in _ (by omega)
              have W2 : IntKind.i64.wrap (2 * (q : Int)) = 2 * (q : Int) := IntWalk.i64_in _ (by omega)
              have W3 : IntKind.i64.wrap ((n : Int) / (p : Int)) = (n : Int) / (p : Int) := IntWalk.i64_in _ (by omega)
              have W4 : IntKind.i64.wrap ((d : Int) / (q : Int)) = (d : Int) / (q : Int) := IntWalk.i64_in _ (by omega)
              have W5 : IntKind.i64.wrap (2 * ((n : Int) / (p : Int))) = 2 * ((n : Int) / (p : Int)) := IntWalk.i64_in _ (by omega)
              have W6 : IntKind.i64.wrap (2 * ((d : Int) / (q : Int))) = 2 * ((d : Int) / (q : Int)) := IntWalk.i64_in _ (by omega)
              go_wp2_with (first | (go_at_call 42; refine (sFits _ (by omega) (by omega) (by omega) (by omega)).mono ?_; rintro e w' ⟨rfl, rfl⟩))
              go_region
              all_goals
                go_wp2
                go_ret2
                obtain ⟨f1, f2, f3⟩ := HE.out
                rw [f1, f2, f3]
                exact ⟨_, rfl, Own.drew (((Blk.new _ 51 #[.int .i64 (2 * (p : Int)), .int .i64 (2 * (q : Int)), .int .i64 (2 * ((n : Int) / (p : Int))), .int .i64 (2 * ((d : Int) / (q : Int)))]).own (n := 2) (size := 2) (by unfold maxLen; omega) rfl).more (by have := hb.size; omega) (by simp)), (hb.alloc hb.size _).drew⟩
          · have hX : Hid (∀ j, j < p + 1 → okF n j = true → ffP d = none) := fun j _ _ => ffP_none d1 hq hM.out
            clear hM hN
            by_cases hqd : (q : Int) ≤ (d : Int)
            · have e3 : ¬ (2 * (q : Int) ≤ 120) := by omega
              have e4 : ¬ ((q : Int) ≤ 60) := by omega
              go_wp2_with (first | (go_at_call 42; refine (sFits _ (by omega) (by omega) (by omega) (by omega)).mono ?_; rintro e w' ⟨rfl, rfl⟩))
              all_goals
                go_round
                case rel => exact ⟨p + 1, by omega, by omega, by go_num, hX⟩
                case measure => simp [intOf]; omega
            · go_wp2_with (first | (go_at_call 42; refine (sFits _ (by omega) (by omega) (by omega) (by omega)).mono ?_; rintro e w' ⟨rfl, rfl⟩))
              all_goals
                go_round
                case rel => exact ⟨p + 1, by omega, by omega, by go_num, hX⟩
                case measure => simp [intOf]; omega
    · have HE := Lib.hid (ft_no HO.out (by
        rw [HA.out, HB.out]
        refine ftQ_none ?_
        cases hx : ffP n with
        | none => exact Or.inl rfl
        | some p0 =>
          right
          have h3 := List.find?_range_eq_some.1 hx
          refine hN.out p0 ?_ h3.1
          have h4 := (okF_le n1 h3.1).2.1
          have h5 := List.mem_range.1 h3.2.1
          omega))
      clear hN
      by_cases hpn : (p : Int) ≤ (n : Int)
      · have e3 : ¬ (2 * (p : Int) ≤ 120) := by omega
        have e4 : ¬ ((p : Int) ≤ 60) := by omega
        go_wp2
        all_goals
          go_ret2
          obtain ⟨f1, f2, f3⟩ := HE.out
          rw [f1, f2, f3]
          exact ⟨_, rfl, Own.nil _ _ _ _ _, hb⟩
      · go_wp2
        all_goals
          go_ret2
          obtain ⟨f1, f2, f3⟩ := HE.out
          rw [f1, f2, f3]
          exact ⟨_, rfl, Own.nil _ _ _ _ _, hb⟩

set_option maxHeartbeats 6400000 in
theorem iFind {a b : Int} (w : World) (wa : inI a) (wb : inI b) :
    Calls Try.prog 17 #[.int .i64 a, .int .i64 b] w (RetSC w 51 2 (ftN a b) (flat encPair (ftXs a b)) (ftCode a b)) := by
  cases h1 : betwB a 1 1000000
  · have HE := Lib.hid (ft_far (show ftOk a b = false by simp [ftOk, h1]))
    go_enter Try.func17, Try.ntmps17
    go_wp2_with (first | (go_at_call 38; refine (between_any _ _ _ _).mono ?_; rintro e w' ⟨rfl, rfl⟩))
    go_ret2
    obtain ⟨e1, e2, e3⟩ := HE.out
    rw [e1, e2, e3]
    exact ⟨_, rfl, Own.nil _ _ _ _ _, Below.refl _ _⟩
  cases h2 : betwB b 1 1000000
  · have HE := Lib.hid (ft_far (show ftOk a b = false by simp [ftOk, h2]))
    go_enter Try.func17, Try.ntmps17
    go_wp2_with (first | (go_at_call 38; refine (between_any _ _ _ _).mono ?_; rintro e w' ⟨rfl, rfl⟩))
    go_ret2
    obtain ⟨e1, e2, e3⟩ := HE.out
    rw [e1, e2, e3]
    exact ⟨_, rfl, Own.nil _ _ _ _ _, Below.refl _ _⟩
  have hok : ftOk a b = true := by simp [ftOk, h1, h2]
  obtain ⟨⟨a1, a2⟩, ⟨b1, b2⟩, g1, g2, q1, q2, q3, q4, ⟨n1, n2⟩, d1, d2⟩ := ft_open hok
  obtain ⟨n, HA⟩ : ∃ n, Hid (ftA a b = n) := ⟨_, rfl⟩
  obtain ⟨d, HB⟩ : ∃ d, Hid (ftB a b = d) := ⟨_, rfl⟩
  rw [HA.out] at q1 q3 n1 n2
  rw [HB.out] at q2 q4 d1 d2
  have gz : ¬ gcdI a b = 0 := by omega
  go_enter Try.func17, Try.ntmps17
  go_wp2_with (first | (go_at_call 38; refine (between_any _ _ _ _).mono ?_; rintro e w' ⟨rfl, rfl⟩))
  refine (iGcd a b _ (by omega) (by omega) (by omega) (by omega)).mono ?_
  rintro e w1 ⟨rfl, kk, hw1⟩
  have hb : Below w.heap.size w w1 := by rw [hw1]; exact RetQ.bel kk
  clear hw1
  have q5 : IntKind.i64.wrap (n : Int) = (n : Int) := IntWalk.i64_in _ (by omega)
  have q6 : IntKind.i64.wrap (d : Int) = (d : Int) := IntWalk.i64_in _ (by omega)
  go_wp2_with fail
  go_region
  go_wp2_with fail
  refine absC ?_
  intro w2 hw2
  replace hb : Below w.heap.size w w2 := by rw [hw2]; exact hb.drew
  clear hw2
  rcases Classical.em ((n : Int) ≤ 60) with hmn | hmn <;> rcases Classical.em ((d : Int) ≤ 60) with hmd | hmd
  all_goals
    clear h1 h2 q1 q2 q3 q4 gz
    have HO := Lib.hid hok; clear hok
    have HZ : Hid (∀ j, j < 1 → okF n j = true → ffP d = none) := fun j hj hj' => by
      obtain rfl : j = 0 := by omega
      simp [okF] at hj'
    go_loop [7] (fun x => ∃ p : Nat, 1 ≤ p ∧ p ≤ 61 ∧ x = .int .i64 p ∧ Hid (∀ j, j < p → okF n j = true → ffP d = none)) (fun x => 62 - (intOf x).toNat)
    case atStart => exact ⟨1, by omega, by omega, rfl, HZ⟩
    case round =>
      obtain ⟨p, p1, p2, rfl, hN⟩ := hrel
      by_cases hp : p ≤ n ∧ p ≤ 60
      · obtain ⟨hpn, hp6⟩ := hp
        have pz : ¬ ((p : Int) = 0) := by omega
        have c1 : (p : Int) ≤ (n : Int) := by omega
        have c2 : (p : Int) ≤ 60 := by omega
        have c3 : 2 * (p : Int) ≤ 120 := by omega
        have c4 : (1 : Int) ≤ (d : Int) := by omega
        obtain ⟨v0, v1⟩ := dv_bd (p := p) n2
        have m0 : 0 ≤ (n : Int) % (p : Int) := Int.emod_nonneg _ pz
        cases HP : okF n p
        · have hN2 : Hid (∀ j, j < p + 1 → okF n j = true → ffP d = none) := fun j hj hj' => by
            by_cases hjp : j < p
            · exact hN.out j hjp hj'
            · obtain rfl : j = p := by omega
              rw [HP] at hj'; cases hj'
          clear hN
          by_cases hm : n % p = 0
          · have t1 := tm_yes hm
            have t2 := tn_yes hm
            have hq6 : ¬ n / p ≤ 60 := fun hq => by rw [okF_yes p1 hm hq] at HP; cases HP
            have t3 := dv_gt hq6
            clear hm hq6 HP
            go_wp2
            go_round
            case rel => exact ⟨p + 1, by omega, by omega, by go_num, hN2⟩
            case measure => simp [intOf]; omega
          · have t1 := tm_no hm
            have t2 := tn_no hm
            clear hm HP
            go_wp2
            go_round
            case rel => exact ⟨p + 1, by omega, by omega, by go_num, hN2⟩
            case measure => simp [intOf]; omega
        · obtain ⟨_, _, hm, hq6⟩ := okF_le (by omega) HP
          have t1 := tm_yes hm
          have t2 := tn_yes hm
          have t3 := dv_le hq6
          have HPH := Lib.hid HP
          clear hm hq6 HP
          go_wp2
          go_loop [8] (fun x => ∃ q : Nat, 1 ≤ q ∧ q ≤ 61 ∧ x = .int .i64 q ∧ Hid (∀ j, j < q → okF d j = false)) (fun x => 62 - (intOf x).toNat)
          case atStart => exact ⟨1, by omega, by omega, rfl, fun j hj => by
            obtain rfl : j = 0 := by omega
            simp [okF]⟩
          case round =>
            obtain ⟨q, q1, q2, rfl, hM⟩ := hrel
            by_cases hq : q ≤ d ∧ q ≤ 60
            · obtain ⟨hqd, hq6⟩ := hq
              have qz : ¬ ((q : Int) = 0) := by omega
              have e1 : (q : Int) ≤ (d : Int) := by omega
              have e2 : (q : Int) ≤ 60 := by omega
              have e3 : 2 * (q : Int) ≤ 120 := by omega
              obtain ⟨x0, x1⟩ := dv_bd (p := q) d2
              have y0 : 0 ≤ (d : Int) % (q : Int) := Int.emod_nonneg _ qz
              cases HQ : okF d q
              · have hM2 : Hid (∀ j, j < q + 1 → okF d j = false) := fun j hj => by
                  by_cases hjq : j < q
                  · exact hM.out j hjq
                  · obtain rfl : j = q := by omega
                    exact HQ
                by_cases hm : d % q = 0
                · have s1 := tm_yes hm
                  have hs6 : ¬ d / q ≤ 60 := fun hq => by rw [okF_yes q1 hm hq] at HQ; cases HQ
                  have s3 := dv_gt hs6
                  clear hm hs6 HQ hM
                  go_wp2
                  go_round
                  case rel => exact ⟨q + 1, by omega, by omega, by go_num, hM2⟩
                  case measure => simp [intOf]; omega
                · have s1 := tm_no hm
                  clear hm HQ hM
                  go_wp2
                  go_round
                  case rel => exact ⟨q + 1, by omega, by omega, by go_num, hM2⟩
                  case measure => simp [intOf]; omega
              · obtain ⟨_, _, hm, hs6⟩ := okF_le (by omega) HQ
                have s1 := tm_yes hm
                have s3 := dv_le hs6
                have HE : Hid (ftCode a b = 0 ∧ ftN a b = 2 ∧ ftXs a b = [(2 * (p : Int), 2 * (q : Int)), (2 * ((n : Int) / (p : Int)), 2 * ((d : Int) / (q : Int)))]) := by
                  have := ft_yes (p := p) (q := q) HO.out (by
                    rw [HA.out, HB.out]
                    refine ftQ_some (ffP_some HPH.out hp6 fun j hj => ?_) (ffP_some HQ hq6 fun j hj => hM.out j hj)
                    cases hj' : okF n j
                    · rfl
                    · have := ffP_not (hN.out j hj hj') hq6
                      rw [HQ] at this
                      cases this)
                  rw [HA.out, HB.out] at this
                  exact this
                clear hm hs6 HQ hM
                have T1 : (n : Int).tdiv (p : Int) = (n : Int) / (p : Int) := dv_t
                have T2 : (d : Int).tdiv (q : Int) = (d : Int) / (q : Int) := dv_t
                have W1 : IntKind.i64.wrap (2 * (p : Int)) = 2 * (p : Int) := IntWalk.i64_in _ (by omega)
                have W2 : IntKind.i64.wrap (2 * (q : Int)) = 2 * (q : Int) := IntWalk.i64_in _ (by omega)
                have W3 : IntKind.i64.wrap ((n : Int) / (p : Int)) = (n : Int) / (p : Int) := IntWalk.i64_in _ (by omega)
                have W4 : IntKind.i64.wrap ((d : Int) / (q : Int)) = (d : Int) / (q : Int) := IntWalk.i64_in _ (by omega)
                have W5 : IntKind.i64.wrap (2 * ((n : Int) / (p : Int))) = 2 * ((n : Int) / (p : Int)) := IntWalk.i64_in _ (by omega)
                have W6 : IntKind.i64.wrap (2 * ((d : Int) / (q : Int))) = 2 * ((d : Int) / (q : Int)) := IntWalk.i64_in _ (by omega)
                go_wp2_with fail
                go_region
                all_goals
                  go_wp2
                  go_ret2
                  obtain ⟨f1, f2, f3⟩ := HE.out
                  rw [f1, f2, f3]
                  exact ⟨_, rfl, Own.drew (((Blk.new _ 51 #[.int .i64 (2 * (p : Int)), .int .i64 (2 * (q : Int)), .int .i64 (2 * ((n : Int) / (p : Int))), .int .i64 (2 * ((d : Int) / (q : Int)))]).own (n := 2) (size := 2) (by unfold maxLen; omega) rfl).more (by have := hb.size; omega) (by simp)), (hb.alloc hb.size _).drew⟩
            · have hX : Hid (∀ j, j < p + 1 → okF n j = true → ffP d = none) := fun j _ _ => ffP_none d1 hq hM.out
              clear hM hN
              by_cases hqd : (q : Int) ≤ (d : Int)
              · have e3 : ¬ (2 * (q : Int) ≤ 120) := by omega
                have e4 : ¬ ((q : Int) ≤ 60) := by omega
                go_wp2
                all_goals
                  go_round
                  case rel => exact ⟨p + 1, by omega, by omega, by go_num, hX⟩
                  case measure => simp [intOf]; omega
              · go_wp2
                all_goals
                  go_round
                  case rel => exact ⟨p + 1, by omega, by omega, by go_num, hX⟩
                  case measure => simp [intOf]; omega
      · have HE := Lib.hid (ft_no HO.out (by
          rw [HA.out, HB.out]
          refine ftQ_none ?_
          cases hx : ffP n with
          | none => exact Or.inl rfl
          | some p0 =>
            right
            have h3 := List.find?_range_eq_some.1 hx
            refine hN.out p0 ?_ h3.1
            have h4 := (okF_le n1 h3.1).2.1
            have h5 := List.mem_range.1 h3.2.1
            omega))
        clear hN
        by_cases hpn : (p : Int) ≤ (n : Int)
        · have e3 : ¬ (2 * (p : Int) ≤ 120) := by omega
          have e4 : ¬ ((p : Int) ≤ 60) := by omega
          go_wp2
          all_goals
            go_ret2
            obtain ⟨f1, f2, f3⟩ := HE.out
            rw [f1, f2, f3]
            exact ⟨_, rfl, Own.nil _ _ _ _ _, hb⟩
        · go_wp2
          all_goals
            go_ret2
            obtain ⟨f1, f2, f3⟩ := HE.out
            rw [f1, f2, f3]
            exact ⟨_, rfl, Own.nil _ _ _ _ _, hb⟩
end Go.Proofs.Ytmdipidejmnijaa
