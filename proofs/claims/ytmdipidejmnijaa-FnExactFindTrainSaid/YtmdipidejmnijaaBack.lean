/- The train that is driven from its end. No condition. -/
import Derived.Test.YtmdipidejmnijaaTrain
import Derived.Test.YtmdipidejmnijaaApp
namespace Go.Proofs.Ytmdipidejmnijaa
open Go.RowKit

theorem eltGear : Elt Try.prog 25 51 2 := by
  obtain ⟨i0, hi, hz0, hz1, hz2⟩ := info_parts infoGearPair
  exact ⟨i0, _, _, Try.underlying25, hi, hz0, hz1, hz2, rfl, by decide, by decide⟩
/-- A slice and a code. -/
def RetSC (w : World) (e : TypeId) (size n : Nat) (xs : List Value) (cd : Int) (x : Ending) (w' : World) : Prop := ∃ s, x = .returned (.tuple #[s, .int .i64 cd]) ∧ Own w' w.heap.size w'.heap.size e size s n xs ∧ Below w.heap.size w w'
def swapQ (q : Int × Int) : Int × Int := (q.2, q.1)
def bkXs (xs : List (Int × Int)) : List (Int × Int) := if trB xs then xs.reverse.map swapQ else []
def bkN (xs : List (Int × Int)) : Nat := if trB xs then xs.length else 0
def trCode (xs : List (Int × Int)) : Int := if trB xs then 0 else 1
theorem bkN_le (xs : List (Int × Int)) : bkN xs ≤ 1073741824 := by
  unfold bkN
  split
  · rename_i h
    have := (trB_parts h).2
    omega
  · omega
theorem bk_bad {xs : List (Int × Int)} (h : trB xs = false) : trCode xs = 1 ∧ bkN xs = 0 ∧ bkXs xs = [] := by simp [trCode, bkN, bkXs, h]
theorem bk_ok {xs : List (Int × Int)} (h : trB xs = true) : trCode xs = 0 ∧ bkN xs = xs.length ∧ bkXs xs = xs.reverse.map swapQ := by simp [trCode, bkN, bkXs, h]
theorem bk_step {xs : List (Int × Int)} {j : Nat} {q : Int × Int} (hq : xs[j]? = some q) : flat encPair ((xs.drop j).reverse.map swapQ) = flat encPair ((xs.drop (j + 1)).reverse.map swapQ) ++ [.int .i64 q.2, .int .i64 q.1] := by
  obtain ⟨hk, he⟩ := List.getElem?_eq_some_iff.1 hq
  rw [List.drop_eq_getElem_cons hk, he, List.reverse_cons, List.map_append, flat_append]
  rfl
theorem two_ints (x y : Int) : ∀ u ∈ (#[Value.int .i64 x, .int .i64 y] : Array Value).toList, u.oneCell' = true := by
  intro u hu
  simp at hu
  rcases hu with rfl | rfl <;> rfl

set_option maxHeartbeats 1600000 in
theorem sBack {A : Option Addr} {n c : Nat} {xs : List (Int × Int)} (w : World) (h : Reads w w.heap.size 2 A n (flat encPair xs)) (hl : xs.length = n) (hm : n ≤ maxLen) :
    Calls Try.prog 22 #[.slice A n c] w (RetSC w 51 2 (bkN xs) (flat encPair (bkXs xs)) (trCode xs)) := by
  cases hk : trB xs
  · have HE := Lib.hid (bk_bad hk)
    go_enter Try.func22, Try.ntmps22
    go_wp2_with fail
    refine (sTrain _ h hl hm).mono ?_
    rintro e w1 ⟨rfl, hw1⟩
    have hb : Below w.heap.size w w1 := by rw [← hw1]; exact Below.refl _ _
    clear hw1
    go_wp2
    go_ret2
    obtain ⟨e1, e2, e3⟩ := HE.out
    rw [e1, e2, e3]
    exact ⟨_, rfl, Own.nil _ _ _ _ _, hb⟩
  · have HE := Lib.hid (bk_ok hk)
    obtain ⟨_, n1, n2⟩ := trB_parts hk
    rw [hl] at n1 n2
    go_enter Try.func22, Try.ntmps22
    go_wp2_with fail
    refine (sTrain _ h hl hm).mono ?_
    rintro e w1 ⟨rfl, hw1⟩
    have hb : Below w.heap.size w w1 := by rw [← hw1]; exact Below.refl _ _
    clear hw1
    have HL := Lib.hid hl; clear hl
    have hm' := hm
    unfold maxLen at hm'
    have hzw : w.heap.size ≤ w1.heap.size := hb.size
    go_wp2
    clear hk
    go_loopw [4, 5] (fun o i wr => ∃ (k : Nat) (A' : Option Addr) (c' : Nat), k ≤ n ∧ i = .int .i64 ((k : Int) - 1) ∧ o = .slice A' (n - k) c' ∧ Own wr w1.heap.size wr.heap.size 51 2 (.slice A' (n - k) c') (n - k) (flat encPair ((xs.drop k).reverse.map swapQ)) ∧ w1.heap.size ≤ wr.heap.size ∧ Below w.heap.size w wr) (fun _ i _ => (intOf i + 1).toNat)
    case atStart => exact ⟨n, some ⟨w1.heap.size, 0, none⟩, 0, Nat.le_refl _, rfl, by rw [Nat.sub_self], by rw [Nat.sub_self, List.drop_of_length_le (by rw [HL.out]; exact Nat.le_refl _)]; exact ((Blk.new w1 51 #[]).own (n := 0) (Nat.zero_le _) rfl).more (Nat.le_refl _) (by simp), by simp, hb.alloc (hb.size) _⟩
    case round =>
      clear hb
      obtain ⟨k, A', c', hk, hi, rfl, ho, hs, hB⟩ := hrel
      rcases k with _ | j
      · subst hi
        go_wp2
        go_ret2
        obtain ⟨e1, e2, e3⟩ := HE.out
        rw [e1, e2, e3, HL.out]
        exact ⟨_, rfl, by simpa using ho.more (by have := hB.size; omega) (Nat.le_refl _), hB⟩
      · rw [show (((j + 1 : Nat) : Int) - 1) = (j : Int) by omega] at hi
        subst hi
        obtain ⟨b, off, q, rfl, _, hq, hc⟩ := (rdB h hB).row_at encPair_length (by decide) HL.out (show j < n by omega)
        have HS := Lib.hid (bk_step hq); clear hq
        have c0 := hc 0 _ rfl; have c1 := hc 1 _ rfl
        simp only [Nat.add_zero] at c0
        clear hc
        have ki0 : (0 : Int) ≤ (j : Int) := Int.natCast_nonneg _
        have ki1 : (j : Int) < (n : Int) := by omega
        go_wp2_with fail
        go_region_law ((refine step_app1 (by rfl) (.tmp 17) (.tmp 29) (by rfl) eltGear (by rfl) ((ho.alloc _).drew) (by rfl) (Blk.new _ _ _) (by rfl) (two_ints _ _) (by omega) (by simp; omega) ?_; intro A2 c2 w2 ho2 ht2))
        all_goals
          have hz2 := ht2.size
          have hs1 : n - (j + 1) + 1 = n - j := by omega
          rw [hs1] at ho2
          rw [hs1]
          clear hs1
          go_wp2
          go_roundw
          case rel => exact ⟨j, A2, c2, by omega, by go_num, rfl, by rw [HS.out]; exact ho2, by simp at hz2 ⊢; omega, (Touch.below ((hB.alloc (by have := hB.size; omega) _).drew) ht2 (by simp; have := hB.size; omega) (by have := hB.size; omega))⟩
          case measure => simp [intOf]

set_option maxHeartbeats 1600000 in
theorem iBack {A : Option Addr} {n c : Nat} {xs : List (Int × Int)} (w : World) (h : Reads w w.heap.size 2 A n (flat encPair xs)) (hl : xs.length = n) (hm : n ≤ maxLen) :
    Calls Try.prog 23 #[.slice A n c] w (RetSC w 51 2 (bkN xs) (flat encPair (bkXs xs)) (trCode xs)) := by
  cases hk : trB xs
  · have HE := Lib.hid (bk_bad hk)
    go_enter Try.func23, Try.ntmps23
    go_wp2_with fail
    refine (iTrain _ h hl hm).mono ?_
    rintro e w1 ⟨rfl, hb⟩
    go_wp2
    go_ret2
    obtain ⟨e1, e2, e3⟩ := HE.out
    rw [e1, e2, e3]
    exact ⟨_, rfl, Own.nil _ _ _ _ _, hb⟩
  · have HE := Lib.hid (bk_ok hk)
    obtain ⟨_, n1, n2⟩ := trB_parts hk
    rw [hl] at n1 n2
    go_enter Try.func23, Try.ntmps23
    go_wp2_with fail
    refine (iTrain _ h hl hm).mono ?_
    rintro e w1 ⟨rfl, hb⟩
    have HL := Lib.hid hl; clear hl
    have hm' := hm
    unfold maxLen at hm'
    have hzw : w.heap.size ≤ w1.heap.size := hb.size
    go_wp2
    clear hk
    go_loopw [4, 5] (fun o i wr => ∃ (k : Nat) (A' : Option Addr) (c' : Nat), k ≤ n ∧ i = .int .i64 ((k : Int) - 1) ∧ o = .slice A' (n - k) c' ∧ Own wr w1.heap.size wr.heap.size 51 2 (.slice A' (n - k) c') (n - k) (flat encPair ((xs.drop k).reverse.map swapQ)) ∧ w1.heap.size ≤ wr.heap.size ∧ Below w.heap.size w wr) (fun _ i _ => (intOf i + 1).toNat)
    case atStart => exact ⟨n, some ⟨w1.heap.size, 0, none⟩, 0, Nat.le_refl _, rfl, by rw [Nat.sub_self], by rw [Nat.sub_self, List.drop_of_length_le (by rw [HL.out]; exact Nat.le_refl _)]; exact ((Blk.new w1 51 #[]).own (n := 0) (Nat.zero_le _) rfl).more (Nat.le_refl _) (by simp), by simp, hb.alloc (hb.size) _⟩
    case round =>
      clear hb
      obtain ⟨k, A', c', hk, hi, rfl, ho, hs, hB⟩ := hrel
      rcases k with _ | j
      · subst hi
        go_wp2
        go_ret2
        obtain ⟨e1, e2, e3⟩ := HE.out
        rw [e1, e2, e3, HL.out]
        exact ⟨_, rfl, by simpa using ho.more (by have := hB.size; omega) (Nat.le_refl _), hB⟩
      · rw [show (((j + 1 : Nat) : Int) - 1) = (j : Int) by omega] at hi
        subst hi
        obtain ⟨b, off, q, rfl, _, hq, hc⟩ := (rdB h hB).row_at encPair_length (by decide) HL.out (show j < n by omega)
        have HS := Lib.hid (bk_step hq); clear hq
        have c0 := hc 0 _ rfl; have c1 := hc 1 _ rfl
        simp only [Nat.add_zero] at c0
        clear hc
        have ki0 : (0 : Int) ≤ (j : Int) := Int.natCast_nonneg _
        have ki1 : (j : Int) < (n : Int) := by omega
        go_wp2_with fail
        go_region_law ((refine step_app1 (by rfl) (.tmp 17) (.tmp 29) (by rfl) eltGear (by rfl) ((ho.alloc _).drew) (by rfl) (Blk.new _ _ _) (by rfl) (two_ints _ _) (by omega) (by simp; omega) ?_; intro A2 c2 w2 ho2 ht2))
        all_goals
          have hz2 := ht2.size
          have hs1 : n - (j + 1) + 1 = n - j := by omega
          rw [hs1] at ho2
          rw [hs1]
          clear hs1
          go_wp2
          go_roundw
          case rel => exact ⟨j, A2, c2, by omega, by go_num, rfl, by rw [HS.out]; exact ho2, by simp at hz2 ⊢; omega, (Touch.below ((hB.alloc (by have := hB.size; omega) _).drew) ht2 (by simp; have := hB.size; omega) (by have := hB.size; omega))⟩
          case measure => simp [intOf]
end Go.Proofs.Ytmdipidejmnijaa
