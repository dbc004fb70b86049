/- Lists of faults: valid or not. No condition. -/
import Derived.Test.YthpaampkpajdfaaFau
import Derived.Test.YthpaampkpajdfaaBetw
import Derived.BigQuiet
namespace Go.Proofs.Ythpaampkpajdfaa
open Go.RowKit
attribute [local irreducible] wpQuiet

def lvB (W : Int) (q : Int × Int) : Bool := betwB q.1 1 3 && betwB q.2 0 (W - 1)
def upB (xs : List (Int × Int)) (k : Nat) (q : Int × Int) : Bool := decide (k = 0) || decide ((xs.getD (k - 1) (0, 0)).2 < q.2)
def faAt (W : Int) (xs : List (Int × Int)) (k : Nat) : Bool := lvB W (xs.getD k (0, 0)) && upB xs k (xs.getD k (0, 0))
def faB (W : Int) (xs : List (Int × Int)) : Bool := betwB W 1 16 && (List.range xs.length).all (faAt W xs)
theorem faB_w {W : Int} {xs : List (Int × Int)} (h : betwB W 1 16 = false) : faB W xs = false := by simp [faB, h]
theorem getD_of {xs : List (Int × Int)} {k : Nat} {q : Int × Int} (h : xs[k]? = some q) : xs.getD k (0, 0) = q := by simp [List.getD_eq_getElem?_getD, h]
theorem faB_no {W : Int} {xs : List (Int × Int)} {k : Nat} (hk : k < xs.length) (h : faAt W xs k = false) : faB W xs = false := by
  unfold faB
  rw [show (List.range xs.length).all (faAt W xs) = false from List.all_eq_false.2 ⟨k, List.mem_range.2 hk, by simp [h]⟩]
  simp
theorem faB_yes {W : Int} {xs : List (Int × Int)} (hw : betwB W 1 16 = true) (h : ∀ j, j < xs.length → faAt W xs j = true) : faB W xs = true := by
  unfold faB
  rw [hw, List.all_eq_true.2 (fun j hj => h j (List.mem_range.1 hj))]
  rfl
theorem faAt_1 {W : Int} {xs : List (Int × Int)} {k : Nat} {q : Int × Int} (hq : xs[k]? = some q) (h : betwB q.1 1 3 = false) : faAt W xs k = false := by
  unfold faAt
  rw [getD_of hq]
  simp [lvB, h]
theorem faAt_2 {W : Int} {xs : List (Int × Int)} {k : Nat} {q : Int × Int} (hq : xs[k]? = some q) (h : betwB q.2 0 (W - 1) = false) : faAt W xs k = false := by
  unfold faAt
  rw [getD_of hq]
  simp [lvB, h]
theorem faAt_3 {W : Int} {xs : List (Int × Int)} {k : Nat} {q p : Int × Int} (hq : xs[k]? = some q) (hk : 0 < k) (hp : xs[k - 1]? = some p) (h : q.2 ≤ p.2) : faAt W xs k = false := by
  have : ¬ k = 0 := by omega
  unfold faAt upB
  rw [getD_of hq, getD_of hp]
  simp only [decide_eq_false this, decide_eq_false (show ¬ p.2 < q.2 by omega), Bool.or_self, Bool.and_false]
theorem faAt_0 {W : Int} {xs : List (Int × Int)} {q : Int × Int} (hq : xs[0]? = some q) (h1 : betwB q.1 1 3 = true) (h2 : betwB q.2 0 (W - 1) = true) : faAt W xs 0 = true := by
  unfold faAt upB
  rw [getD_of hq]
  simp [lvB, h1, h2]
theorem faAt_4 {W : Int} {xs : List (Int × Int)} {k : Nat} {q p : Int × Int} (hq : xs[k]? = some q) (h1 : betwB q.1 1 3 = true) (h2 : betwB q.2 0 (W - 1) = true) (hp : xs[k - 1]? = some p) (h : ¬ q.2 ≤ p.2) : faAt W xs k = true := by
  have : p.2 < q.2 := by omega
  unfold faAt upB
  rw [getD_of hq, getD_of hp]
  simp [lvB, h1, h2, this]

set_option maxHeartbeats 400000 in
theorem sWidth (x : Int) (w : World) : Calls Try.prog 79 #[.int .i64 x] w fun e w' => e = .returned (.bool (betwB x 1 16)) ∧ w = w' := by
  go_enter Try.func79, Try.ntmps79
  go_wp2_with (first | (go_at_call 65; refine (l00In_any _ _ _ _).mono ?_; rintro e w' ⟨rfl, rfl⟩))
  go_ret
  exact ⟨rfl, rfl⟩

set_option maxHeartbeats 400000 in
theorem iWidth (x : Int) (w : World) : Calls Try.prog 86 #[.int .i64 x] w fun e w' => e = .returned (.bool (betwB x 1 16)) ∧ w = w' := by
  go_enter Try.func86, Try.ntmps86
  go_wp2_with (first | (go_at_call 97; refine (between_any _ _ _ _).mono ?_; rintro e w' ⟨rfl, rfl⟩))
  go_ret
  exact ⟨rfl, rfl⟩

set_option maxHeartbeats 1000000 in
theorem iFault {W a b : Int} (w : World) : Calls Try.prog 90 #[.int .i64 W, .agg #[.int .i64 a, .int .i64 b]] w fun e w' => e = .returned (.bool (betwB a 1 3 && betwB b 0 (wrap64 (W - 1)))) ∧ Below w.heap.size w w' := by
  cases h1 : betwB a 1 3
  all_goals
    go_enter Try.func90, Try.ntmps90
    go_wp2_with (first | (go_at_call 97; refine (between_any _ _ _ _).mono ?_; rintro e w' ⟨rfl, rfl⟩))
    go_ret
    exact ⟨ret_b (by simp), (by repeat' (first | assumption | exact Below.refl _ _ | refine Below.drew ?_ | refine belN ?_ _ | refine Below.alloc ?_ (by first | omega | (simp; done) | (simp; omega)) _ | refine Below.setCell ?_ (by first | omega | (simp; done) | (simp; omega)) _))⟩

set_option maxHeartbeats 3200000 in
theorem sValidFaults0 {W : Int} {A : Option Addr} {n c : Nat} {xs : List (Int × Int)} (w : World) (hW : inI W) (h : Reads w w.heap.size 2 A n (flat encPair xs)) (hl : xs.length = n) (hm : n ≤ maxLen) :
    Calls Try.prog 88 #[.int .i64 W, .slice A n c] w fun e w' => e = .returned (.bool (faB W xs)) ∧ Below w.heap.size w w' := by
  unfold maxLen at hm
  have HL := Lib.hid hl; clear hl
  cases hw : betwB W 1 16
  · have HE := Lib.hid (faB_w (xs := xs) hw)
    go_enter Try.func88, Try.ntmps88
    go_wp2_with (first | (go_at_call 79; refine (sWidth _ _).mono ?_; rintro e w' ⟨rfl, rfl⟩))
    go_ret
    exact ⟨ret_b HE.out.symm, Below.refl _ _⟩
  · obtain ⟨w1, w2⟩ := betw_iff.1 hw
    have WW : IntKind.i64.wrap (W - 1) = W - 1 := IntWalk.i64_in _ (by omega)
    go_enter Try.func88, Try.ntmps88
    go_wp2_with (first | (go_at_call 79; refine (sWidth _ _).mono ?_; rintro e w' ⟨rfl, rfl⟩))
    go_loopw [5] (fun i wr => ∃ k : Nat, k ≤ n ∧ i = .int .i64 k ∧ Hid (∀ j, j < k → faAt W xs j = true) ∧ Below w.heap.size w wr) (fun i _ => n - (intOf i).toNat)
    case atStart => exact ⟨0, Nat.zero_le _, rfl, fun j hj => absurd hj (by omega), Below.refl _ _⟩
    case round =>
      obtain ⟨k, hk, rfl, hN, hB⟩ := hrel
      by_cases hlt : k < n
      · obtain ⟨b, off, q, rfl, _, hq, hc⟩ := (rdB h hB).row_at encPair_length (by decide) HL.out hlt
        have e0 := hc 0 _ rfl; have e1 := hc 1 _ rfl
        simp only [Nat.add_zero] at e0
        clear hc
        have HQ := Lib.hid hq; clear hq
        have ki0 : (0 : Int) ≤ (k : Int) := Int.natCast_nonneg _
        have ki1 : (k : Int) < (n : Int) := by omega
        cases h1 : betwB q.1 1 3
        · have HF := Lib.hid (faB_no (by rw [HL.out]; exact hlt) (faAt_1 (W := W) HQ.out h1))
          go_wp2_with fail
          go_quiet (first | (go_at_call 65; exact quietB (l00In_any _ _ _ _) h1))
          go_wp2
          go_ret
          exact ⟨ret_b HF.out.symm, bel2 hB (RetQ.bel _)⟩
        cases h2 : betwB q.2 0 (W - 1)
        · have HF := Lib.hid (faB_no (by rw [HL.out]; exact hlt) (faAt_2 (W := W) HQ.out h2))
          go_wp2_with fail
          go_quiet (first | (go_at_call 65; first | exact quietB (l00In_any _ _ _ _) h1 | exact quietB (l00In_any _ _ _ _) h2))
          go_wp2
          go_ret
          exact ⟨ret_b HF.out.symm, bel2 hB (RetQ.bel _)⟩
        rcases k with _ | k
        · simp only [Nat.zero_mul, Nat.add_zero] at e0 e1
          have ki2 : (0 : Int) < (n : Int) := by omega
          clear ki0 ki1
          have HS := Lib.hid (faAt_0 (W := W) HQ.out h1 h2)
          have HN : Hid (∀ j, j < 1 → faAt W xs j = true) := fun j hj => by
            obtain rfl : j = 0 := by omega
            exact HS.out
          go_wp2_with fail
          go_quiet (first | (go_at_call 65; first | exact quietB (l00In_any _ _ _ _) h1 | exact quietB (l00In_any _ _ _ _) h2))
          go_wp2
          go_roundw
          case rel => exact ⟨1, by omega, by go_num, HN, bel2 hB (RetQ.bel _)⟩
          case measure => simp [intOf]; omega
        · obtain ⟨b', off', p, hbo, _, hp, hc'⟩ := (rdB h hB).row_at encPair_length (by decide) HL.out (show k < n by omega)
          obtain ⟨rfl, rfl⟩ : b = b' ∧ off = off' := by injection hbo with hbo; injection hbo with h1 h2; exact ⟨h1, h2⟩
          have f1 := hc' 1 _ rfl
          clear hc' hbo
          have HP := Lib.hid hp; clear hp
          have kq0 : (0 : Int) < (k : Int) + 1 := by omega
          have kq1 : (0 : Int) ≤ (k : Int) + 1 := by omega
          have kq2 : (k : Int) + 1 < (n : Int) := by omega
          have kq3 : (k : Int) < (n : Int) := by omega
          have kq4 : (0 : Int) ≤ (k : Int) := by omega
          clear ki0 ki1
          have kw : IntKind.i64.wrap (k : Int) = (k : Int) := IntWalk.i64_in _ (by omega)
          by_cases h3 : q.2 ≤ p.2
          · have HF := Lib.hid (faB_no (by rw [HL.out]; exact hlt) (faAt_3 (W := W) HQ.out (by omega) HP.out h3))
            go_wp2_with fail
            go_quiet (first | (go_at_call 65; first | exact quietB (l00In_any _ _ _ _) h1 | exact quietB (l00In_any _ _ _ _) h2))
            go_wp2
            go_ret
            exact ⟨ret_b HF.out.symm, bel2 hB (RetQ.bel _)⟩
          · have HS := Lib.hid (faAt_4 (W := W) HQ.out h1 h2 HP.out h3)
            have HN2 : Hid (∀ j, j < k + 1 + 1 → faAt W xs j = true) := fun j hj => by
              by_cases hjk : j < k + 1
              · exact hN.out j hjk
              · obtain rfl : j = k + 1 := by omega
                exact HS.out
            go_wp2_with fail
            go_quiet (first | (go_at_call 65; first | exact quietB (l00In_any _ _ _ _) h1 | exact quietB (l00In_any _ _ _ _) h2))
            go_wp2
            go_roundw
            case rel => exact ⟨k + 1 + 1, by omega, by go_num, HN2, bel2 hB (RetQ.bel _)⟩
            case measure => simp [intOf]; omega
      · obtain rfl : k = n := by omega
        have HF := Lib.hid (faB_yes (xs := xs) hw (by rw [HL.out]; exact hN.out))
        go_wp2
        go_ret
        exact ⟨ret_b HF.out.symm, hB⟩

set_option maxHeartbeats 400000 in
theorem sValidFaults {W : Int} {A : Option Addr} {n c : Nat} {xs : List (Int × Int)} (w : World) (hW : inI W) (h : Reads w w.heap.size 2 A n (flat encPair xs)) (hl : xs.length = n) (hm : n ≤ maxLen) :
    Calls Try.prog 52 #[.int .i64 W, .slice A n c] w fun e w' => e = .returned (.bool (faB W xs)) ∧ Below w.heap.size w w' := by
  go_enter Try.func52, Try.ntmps52
  go_wp2_with fail
  refine (sValidFaults0 _ hW h hl hm).mono ?_
  rintro e w' ⟨rfl, hb⟩
  go_wp2
  go_ret
  exact ⟨rfl, hb⟩
end Go.Proofs.Ythpaampkpajdfaa
