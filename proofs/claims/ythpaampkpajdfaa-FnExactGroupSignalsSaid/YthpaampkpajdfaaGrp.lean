/- Signals of groups. No condition. -/
import Derived.Test.YthpaampkpajdfaaSig
namespace Go.Proofs.Ythpaampkpajdfaa
open Go.RowKit

def qAt (xs : List (Bool × Bool)) (k : Nat) : Bool × Bool := xs.getD k (false, false)
/-- The signal of t + 1 digits from a place on. -/
def jnQ (xs : List (Bool × Bool)) (a : Nat) : Nat → Bool × Bool
  | 0 => qAt xs a
  | t + 1 => joinQ (jnQ xs a t) (qAt xs (a + (t + 1)))
def grL (xs : List (Bool × Bool)) (z : Nat) : Nat → List (Bool × Bool)
  | 0 => []
  | k + 1 => if k % z = 0 then grL xs z k ++ [qAt xs k] else (grL xs z k).dropLast ++ [joinQ ((grL xs z k).getLastD (false, false)) (qAt xs k)]
theorem gr_new {xs : List (Bool × Bool)} {z k : Nat} (h : k % z = 0) : grL xs z (k + 1) = grL xs z k ++ [qAt xs k] := by rw [grL, if_pos h]
theorem gr_on {xs : List (Bool × Bool)} {z k : Nat} {G : List (Bool × Bool)} {J : Bool × Bool} (h : ¬ k % z = 0) (hG : grL xs z k = G ++ [J]) : grL xs z (k + 1) = G ++ [joinQ J (qAt xs k)] := by
  rw [grL, if_neg h, hG]
  simp
theorem gr_ne {xs : List (Bool × Bool)} {z k : Nat} : ∃ G J, grL xs z (k + 1) = G ++ [J] := by
  rw [grL]
  split
  · exact ⟨_, _, rfl⟩
  · exact ⟨_, _, rfl⟩
theorem gr_len (xs : List (Bool × Bool)) (z : Nat) : ∀ k, (grL xs z k).length ≤ k
  | 0 => by simp [grL]
  | k + 1 => by
    have := gr_len xs z k
    rw [grL]
    split <;> simp <;> omega
theorem gr_in {xs : List (Bool × Bool)} {z a : Nat} (ha : a % z = 0) : ∀ t, t < z → grL xs z (a + t + 1) = grL xs z a ++ [jnQ xs a t]
  | 0, _ => gr_new ha
  | t + 1, ht => by
    have hm : ¬ (a + (t + 1)) % z = 0 := by
      rw [Nat.add_mod, ha, Nat.zero_add, Nat.mod_mod, Nat.mod_eq_of_lt ht]
      omega
    exact gr_on hm (gr_in ha t (by omega))
theorem gr_len_mul {xs : List (Bool × Bool)} {z : Nat} (hz : 1 ≤ z) : ∀ j, (grL xs z (j * z)).length = j
  | 0 => by simp [grL]
  | j + 1 => by
    have h := gr_in (xs := xs) (Nat.mul_mod_left j z) (z - 1) (by omega)
    rw [show j * z + (z - 1) + 1 = (j + 1) * z by rw [Nat.succ_mul]; omega] at h
    rw [h]
    simp [gr_len_mul hz j]
theorem qAt_of {xs : List (Bool × Bool)} {k : Nat} {q : Bool × Bool} (h : xs[k]? = some q) : qAt xs k = q := getB_of h
def gsOk (xs : List (Bool × Bool)) (z : Int) : Bool := betwB xs.length 1 16 && betwB z 1 16
def gsXs (xs : List (Bool × Bool)) (z : Int) : List (Bool × Bool) := if gsOk xs z then grL xs z.toNat xs.length else []
def gsN (xs : List (Bool × Bool)) (z : Int) : Nat := (gsXs xs z).length
def gsCode (xs : List (Bool × Bool)) (z : Int) : Int := if gsOk xs z then 0 else 2
theorem gsN_le (xs : List (Bool × Bool)) (z : Int) : gsN xs z ≤ 1073741824 := by
  unfold gsN gsXs
  split
  · rename_i h
    simp only [gsOk, Bool.and_eq_true, betw_iff] at h
    have := gr_len xs z.toNat xs.length
    omega
  · simp
theorem gs_bad {xs : List (Bool × Bool)} {z : Int} (h : gsOk xs z = false) : gsCode xs z = 2 ∧ gsN xs z = 0 ∧ gsXs xs z = [] := by simp [gsCode, gsN, gsXs, h]
theorem gs_ok {xs : List (Bool × Bool)} {z : Nat} (h : gsOk xs (z : Int) = true) : gsCode xs z = 0 ∧ gsN xs z = (grL xs z xs.length).length ∧ gsXs xs z = grL xs z xs.length := by simp [gsCode, gsN, gsXs, h]
theorem flat_grow (G : List (Bool × Bool)) (q : Bool × Bool) : flat encSig (G ++ [q]) = flat encSig G ++ [.bool q.1, .bool q.2] := by rw [flat_append]; rfl

theorem set_two {F : List Value} {a b x y : Value} {m : Nat} (h : F.length = m) : ((F ++ [a, b]).set m x).set (m + 1) y = F ++ [x, y] := by
  subst h
  rw [List.set_append_right _ _ (Nat.le_refl _), Nat.sub_self, List.set_cons_zero, List.set_append_right _ _ (Nat.le_succ _)]
  simp

set_option maxRecDepth 100000 in
set_option maxHeartbeats 3200000 in
theorem sGroups {z : Nat} {A : Option Addr} {n c : Nat} {xs : List (Bool × Bool)} (w : World) (h : Reads w w.heap.size 2 A n (flat encSig xs)) (hl : xs.length = n) (hn : n ≤ 16) (hz : 1 ≤ z ∧ z ≤ 16) :
    Calls Try.prog 85 #[.slice A n c, .int .i64 (z : Int)] w (RetOwn w 98 2 (grL xs z n).length (flat encSig (grL xs z n))) := by
  have HL := Lib.hid hl; clear hl
  have zz : ¬ ((z : Int) = 0) := by omega
  have zn : ¬ z = 0 := by omega
  go_enter Try.func85, Try.ntmps85
  go_wp2
  go_loopw [5, 6] (fun o i wr => ∃ (k m : Nat) (A' : Option Addr) (c' : Nat), k ≤ n ∧ i = .int .i64 k ∧ o = .slice A' m c' ∧ m = (grL xs z k).length ∧ Own wr w.heap.size wr.heap.size 98 2 (.slice A' m c') m (flat encSig (grL xs z k)) ∧ w.heap.size ≤ wr.heap.size ∧ Below w.heap.size w wr) (fun _ i _ => n - (intOf i).toNat)
  case atStart => exact ⟨0, 0, some ⟨w.heap.size, 0, none⟩, 0, Nat.zero_le _, rfl, rfl, rfl, ((Blk.new w 98 #[]).own (n := 0) (size := 2) (Nat.zero_le _) rfl).more (Nat.le_refl _) (by simp), by simp, (by repeat' (first | assumption | exact Below.refl _ _ | refine Below.drew ?_ | refine belN ?_ _ | refine Below.alloc ?_ (by first | omega | (simp; done) | (simp; omega)) _ | refine Below.setCell ?_ (by first | omega | (simp; done) | (simp; omega)) _))⟩
  case round =>
    obtain ⟨k, m, A', c', hk, rfl, rfl, hm, ho, hs, hB⟩ := hrel
    have hmk : m ≤ k := by rw [hm]; exact gr_len xs z k
    have HM := Lib.hid hm; clear hm
    by_cases hlt : k < n
    · obtain ⟨b, off, q, rfl, _, hq, hc⟩ := (rdB h hB).row_at encSig_length (by decide) HL.out hlt
      have HQ := Lib.hid (qAt_of hq); clear hq
      have e0 := hc 0 _ rfl; have e1 := hc 1 _ rfl
      simp only [Nat.add_zero] at e0
      clear hc
      have ki0 : (0 : Int) ≤ (k : Int) := Int.natCast_nonneg _
      have ki1 : (k : Int) < (n : Int) := by omega
      have g0 : 0 ≤ (k : Int) % (z : Int) := Int.emod_nonneg _ zz
      by_cases hkz : k % z = 0
      · have t1 : ((k : Int) % (z : Int) == 0) = true := by rw [beq_iff_eq, ← Int.natCast_emod, hkz]; rfl
        have HS : Hid (grL xs z (k + 1) = grL xs z k ++ [q]) := by unfold Hid; rw [gr_new hkz, HQ.out]
        clear hkz
        go_wp2_with (first | (at_builtin; refine wpList_app1 rfl (.tmp 18) (.tmp 23) rfl eltSig rfl (ho.alloc _) rfl (Blk.new _ _ _) rfl (two_bools _ _) (by omega) (by first | omega | (simp; omega)) ?_; intro A2 c2 w2 ho2 ht2))
        have hz2 := ht2.size
        go_roundw
        case rel => exact ⟨k + 1, m + 1, A2, c2, by omega, by go_num, rfl, by rw [HS.out, List.length_append, ← HM.out]; rfl, by rw [HS.out, flat_grow]; exact ho2, by have := hz2; simp at this; omega, Touch.below (hB.alloc (by omega) _) ht2 (by first | omega | (simp; omega)) (Nat.le_refl _)⟩
        case measure => simp [intOf]; omega
      · have t1 : ((k : Int) % (z : Int) == 0) = false := by
          rw [beq_eq_false_iff_ne, ← Int.natCast_emod]; omega
        rcases k with _ | k
        · exact absurd (Nat.zero_mod z) hkz
        have t2 : (((k : Int) + 1) % (z : Int) == 0) = false := by exact_mod_cast t1
        have ki2 : (0 : Int) ≤ (k : Int) + 1 := by omega
        have ki3 : (k : Int) + 1 < (n : Int) := by omega
        clear t1 ki0 ki1 g0
        obtain ⟨G, J, hG⟩ := gr_ne (xs := xs) (z := z) (k := k)
        have HS : Hid (grL xs z (k + 1 + 1) = G ++ [joinQ J q]) := by unfold Hid; rw [gr_on hkz hG, HQ.out]
        clear hkz
        obtain ⟨p, hp⟩ : ∃ p, G.length = p := ⟨_, rfl⟩
        have hmp : m = p + 1 := by rw [HM.out, hG, List.length_append, hp]; rfl
        subst hmp
        rw [hG, flat_grow] at ho
        have hfl : (flat encSig G).length = p * 2 := by rw [flat_length encSig_length, hp]
        obtain ⟨g, rfl, hlo, hhi, hgs, hcell, hfz⟩ := ho.at_ (by omega)
        have d0 := hcell (p * 2) (by omega)
        have d1 := hcell (p * 2 + 1) (by omega)
        rw [List.getElem?_append_right (by omega), hfl] at d0 d1
        simp at d0 d1
        have HP := Lib.hid hp; have HG := Lib.hid hG; have HFL := Lib.hid hfl; clear hp hG hfl hcell hfz
        have kw : IntKind.i64.wrap (p : Int) = (p : Int) := IntWalk.i64_in _ (by omega)
        have p0 : (0 : Int) ≤ (p : Int) := Int.natCast_nonneg _
        have p1 : (p : Int) < (p : Int) + 1 := by omega
        have p2 : ¬ ((p : Int) + 1 ≤ (p : Int)) := by omega
        go_wp2_with fail
        go_region_law ((refine step_call (by rfl) 80 (by rfl) _ Try.func80 (by kernel_rfl) (by kernel_rfl) #[.agg #[.bool J.1, .bool J.2], .agg #[.bool q.1, .bool q.2]] (by simp [go_sem]) ?_; refine (sJoinSig _ _ _).mono ?_; rintro e w1 ⟨rfl, hb1⟩; refine ⟨_, rfl, ?_⟩; have ho1 := ho.drew.bel hb1; have d0' := cellB (show wr.drew.cell? _ = _ from d0) hb1; have d1' := cellB (show wr.drew.cell? _ = _ from d1) hb1; have fz' := fun j => ho1.row.frozenAt j))
        all_goals
          have hz1 := hb1.size
          have hB1 := bel2 hB.drew hb1
          have ho2 := (ho1.stored (p * 2) (.bool (joinQ J q).1)).stored (p * 2 + 1) (.bool (joinQ J q).2)
          rw [set_two HFL.out] at ho2
          have HO := Lib.hid (ho2.more (Nat.le_refl _) (show wr.heap.size ≤ ((w1.setCell ⟨g, p * 2, none⟩ (.bool (joinQ J q).1)).setCell ⟨g, p * 2 + 1, none⟩ (.bool (joinQ J q).2)).heap.size by simp at hz1 ⊢; omega))
          clear ho2 ho1 d0' d1' d0 d1 fz'
          go_wp2
          go_roundw
          case rel => exact ⟨k + 1 + 1, p + 1, _, c', by omega, by go_num, rfl, by rw [HS.out, List.length_append, HP.out]; rfl, by rw [HS.out, flat_grow]; exact HO.out, by simp at hz1 ⊢; omega, (hB1.setCell hlo _).setCell hlo _⟩
          case measure => simp [intOf]; omega
    · obtain rfl : k = n := by omega
      go_wp2
      go_ret
      exact ⟨_, rfl, by rw [← HM.out]; exact ho, hB⟩
end Go.Proofs.Ythpaampkpajdfaa
