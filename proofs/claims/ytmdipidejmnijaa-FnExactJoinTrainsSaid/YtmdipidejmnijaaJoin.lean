/- Two trains joined. No condition. -/
import Derived.Test.YtmdipidejmnijaaBack
namespace Go.Proofs.Ytmdipidejmnijaa
open Go.RowKit

def jtB (xs ys : List (Int × Int)) : Bool := trB xs && trB ys
def jtOk (xs ys : List (Int × Int)) : Bool := jtB xs ys && decide (xs.length + ys.length ≤ 6)
def jtCode (xs ys : List (Int × Int)) : Int := if jtB xs ys then (if xs.length + ys.length ≤ 6 then 0 else 5) else 1
def jtXs (xs ys : List (Int × Int)) : List (Int × Int) := if jtOk xs ys then xs ++ ys else []
def jtN (xs ys : List (Int × Int)) : Nat := if jtOk xs ys then xs.length + ys.length else 0
theorem jtN_le (xs ys : List (Int × Int)) : jtN xs ys ≤ 1073741824 := by
  unfold jtN
  split
  · rename_i h
    simp only [jtOk, Bool.and_eq_true, decide_eq_true_eq] at h
    omega
  · omega
theorem jt_bad {xs ys : List (Int × Int)} (h : jtB xs ys = false) : jtCode xs ys = 1 ∧ jtN xs ys = 0 ∧ jtXs xs ys = [] := by simp [jtCode, jtN, jtXs, jtOk, h]
theorem jt_full {xs ys : List (Int × Int)} (h : jtB xs ys = true) (h' : ¬ xs.length + ys.length ≤ 6) : jtCode xs ys = 5 ∧ jtN xs ys = 0 ∧ jtXs xs ys = [] := by simp [jtCode, jtN, jtXs, jtOk, h, h']
theorem jt_ok {xs ys : List (Int × Int)} (h : jtB xs ys = true) (h' : xs.length + ys.length ≤ 6) : jtCode xs ys = 0 ∧ jtN xs ys = xs.length + ys.length ∧ jtXs xs ys = xs ++ ys := by simp [jtCode, jtN, jtXs, jtOk, h, h']

set_option maxHeartbeats 1600000 in
theorem sJoin {A A' : Option Addr} {n c n' c' : Nat} {xs ys : List (Int × Int)} (w : World) (h : Reads w w.heap.size 2 A n (flat encPair xs)) (h' : Reads w w.heap.size 2 A' n' (flat encPair ys)) (hl : xs.length = n) (hl' : ys.length = n') (hm : n ≤ maxLen) (hm' : n' ≤ maxLen) :
    Calls Try.prog 20 #[.slice A n c, .slice A' n' c'] w (RetSC w 51 2 (jtN xs ys) (flat encPair (jtXs xs ys)) (jtCode xs ys)) := by
  cases hk : trB xs
  · have HE := Lib.hid (jt_bad (show jtB xs ys = false by simp [jtB, hk]))
    go_enter Try.func20, Try.ntmps20
    go_wp2_with fail
    refine (sTrain _ h hl hm).mono ?_
    rintro e w1 ⟨rfl, hw1⟩
    have hb : Below w.heap.size w w1 := by rw [← hw1]; exact Below.refl _ _
    clear hw1
    go_wp2
    go_ret2
    obtain ⟨e1, e2, e3⟩ := HE.out
    rw [e1, e2, e3]
    exact ⟨_, rfl, Own.nil _ _ _ _ _, hb⟩
  cases hk' : trB ys
  · have HE := Lib.hid (jt_bad (show jtB xs ys = false by simp [jtB, hk']))
    go_enter Try.func20, Try.ntmps20
    go_wp2_with fail
    refine (sTrain _ h hl hm).mono ?_
    rintro e w1 ⟨rfl, hw1⟩
    have hb : Below w.heap.size w w1 := by rw [← hw1]; exact Below.refl _ _
    clear hw1
    go_wp2_with fail
    refine (sTrain _ (rdB h' hb) hl' hm').mono ?_
    rintro e w2 ⟨rfl, hw2⟩
    replace hb : Below w.heap.size w w2 := by rw [← hw2]; exact hb
    clear hw2
    go_wp2
    go_ret2
    obtain ⟨e1, e2, e3⟩ := HE.out
    rw [e1, e2, e3]
    exact ⟨_, rfl, Own.nil _ _ _ _ _, hb⟩
  have hj : jtB xs ys = true := by simp [jtB, hk, hk']
  obtain ⟨_, n1, n2⟩ := trB_parts hk
  obtain ⟨_, n1', n2'⟩ := trB_parts hk'
  rw [hl] at n1 n2
  rw [hl'] at n1' n2'
  by_cases h6 : xs.length + ys.length ≤ 6
  rotate_left
  · have HE := Lib.hid (jt_full hj h6)
    have h7 : 6 < (n : Int) + (n' : Int) := by omega
    clear hj
    go_enter Try.func20, Try.ntmps20
    go_wp2_with fail
    refine (sTrain _ h hl hm).mono ?_
    rintro e w1 ⟨rfl, hw1⟩
    have hb : Below w.heap.size w w1 := by rw [← hw1]; exact Below.refl _ _
    clear hw1
    go_wp2_with fail
    refine (sTrain _ (rdB h' hb) hl' hm').mono ?_
    rintro e w2 ⟨rfl, hw2⟩
    replace hb : Below w.heap.size w w2 := by rw [← hw2]; exact hb
    clear hw2
    go_wp2
    go_ret2
    obtain ⟨e1, e2, e3⟩ := HE.out
    rw [e1, e2, e3]
    exact ⟨_, rfl, Own.nil _ _ _ _ _, hb⟩
  · have HE := Lib.hid (jt_ok hj h6)
    have h7 : (n : Int) + (n' : Int) ≤ 6 := by omega
    clear hj
    go_enter Try.func20, Try.ntmps20
    go_wp2_with fail
    refine (sTrain _ h hl hm).mono ?_
    rintro e w1 ⟨rfl, hw1⟩
    have hb : Below w.heap.size w w1 := by rw [← hw1]; exact Below.refl _ _
    clear hw1
    go_wp2_with fail
    refine (sTrain _ (rdB h' hb) hl' hm').mono ?_
    rintro e w2 ⟨rfl, hw2⟩
    replace hb : Below w.heap.size w w2 := by rw [← hw2]; exact hb
    clear hw2
    have HL := Lib.hid hl; have HL' := Lib.hid hl'; clear hl hl' h6
    have r1 := rdB h hb; have r2 := rdB h' hb
    obtain ⟨b, off, rfl, hbb, hc⟩ := r1.lits (by decide) (by omega)
    obtain ⟨b', off', rfl, hbb', hc'⟩ := r2.lits (by decide) (by omega)
    have r1 := r1.1; have r2 := r2.1
    have hz := hb.size
    have o0 : Own (w2.alloc (.cells #[] 51)) w2.heap.size (w2.heap.size + 1) 51 2 (.slice (some ⟨w2.heap.size, 0, none⟩) 0 0) 0 [] := (Blk.new w2 51 #[]).own (n := 0) (Nat.zero_le _) rfl
    have hcX : ∀ (j : Nat) (u : Value), (flat encPair xs)[j]? = some u → (w2.alloc (.cells #[] 51)).cell? ((⟨b, off, none⟩ : Addr).add j) = some u := fun j u hu => by rw [Addr.add_lit]; exact cellA (hc j u hu) _
    have hcY : ∀ (j : Nat) (u : Value), (flat encPair ys)[j]? = some u → (w2.alloc (.cells #[] 51)).cell? ((⟨b', off', none⟩ : Addr).add j) = some u := fun j u hu => by rw [Addr.add_lit]; exact cellA (hc' j u hu) _
    have HO := Lib.hid o0; have HX := Lib.hid hcX; have HY := Lib.hid hcY
    clear o0 hcX hcY hc hc'
    go_wp2_with (first
      | (at_builtin
         refine wpList_appN rfl (.tmp 21) (.tmp 22) rfl eltGear rfl HO.out rfl r1 HX.out (flat_one encPair_one _) (by omega) (by omega) (by simp) ?_
         intro A3 c3 w3 ho3 ht3
         simp only [Nat.zero_add, List.nil_append] at ho3)
      | (at_builtin
         refine wpList_appN rfl (.tmp 24) (.tmp 25) rfl eltGear rfl ho3 rfl r2 (fun j u hu => (World.cell?_of_block (w := w2.alloc (.cells #[] 51)) (ht3.block _ (by rw [Addr.add_lit]; simp; omega) (.inl (by rw [Addr.add_lit]; exact hbb')))).trans (HY.out j u hu)) (flat_one encPair_one _) (by omega) (by omega) (by have := ht3.size; simp at this; omega) ?_
         intro A4 c4 w4 ho4 ht4))
    go_ret2
    obtain ⟨e1, e2, e3⟩ := HE.out
    rw [e1, e2, e3]
    rw [HL.out, HL'.out, flat_append]
    have hz3 := ht3.size
    simp at hz3
    exact ⟨_, rfl, ho4.more (by omega) (Nat.le_refl _), Touch.below (Touch.below (hb.alloc hz _) ht3 (by simp; omega) (by omega)) ht4 (by omega) (by omega)⟩

set_option maxHeartbeats 1600000 in
theorem iJoin {A A' : Option Addr} {n c n' c' : Nat} {xs ys : List (Int × Int)} (w : World) (h : Reads w w.heap.size 2 A n (flat encPair xs)) (h' : Reads w w.heap.size 2 A' n' (flat encPair ys)) (hl : xs.length = n) (hl' : ys.length = n') (hm : n ≤ maxLen) (hm' : n' ≤ maxLen) :
    Calls Try.prog 21 #[.slice A n c, .slice A' n' c'] w (RetSC w 51 2 (jtN xs ys) (flat encPair (jtXs xs ys)) (jtCode xs ys)) := by
  cases hk : trB xs
  · have HE := Lib.hid (jt_bad (show jtB xs ys = false by simp [jtB, hk]))
    go_enter Try.func21, Try.ntmps21
    go_wp2_with fail
    refine (iTrain _ h hl hm).mono ?_
    rintro e w1 ⟨rfl, hb⟩
    go_wp2
    go_ret2
    obtain ⟨e1, e2, e3⟩ := HE.out
    rw [e1, e2, e3]
    exact ⟨_, rfl, Own.nil _ _ _ _ _, hb⟩
  cases hk' : trB ys
  · have HE := Lib.hid (jt_bad (show jtB xs ys = false by simp [jtB, hk']))
    go_enter Try.func21, Try.ntmps21
    go_wp2_with fail
    refine (iTrain _ h hl hm).mono ?_
    rintro e w1 ⟨rfl, hb⟩
    go_wp2_with fail
    refine (iTrain _ (rdB h' hb) hl' hm').mono ?_
    rintro e w2 ⟨rfl, hb2⟩
    replace hb := bel2 hb hb2
    clear hb2
    go_wp2
    go_ret2
    obtain ⟨e1, e2, e3⟩ := HE.out
    rw [e1, e2, e3]
    exact ⟨_, rfl, Own.nil _ _ _ _ _, hb⟩
  have hj : jtB xs ys = true := by simp [jtB, hk, hk']
  obtain ⟨_, n1, n2⟩ := trB_parts hk
  obtain ⟨_, n1', n2'⟩ := trB_parts hk'
  rw [hl] at n1 n2
  rw [hl'] at n1' n2'
  by_cases h6 : xs.length + ys.length ≤ 6
  rotate_left
  · have HE := Lib.hid (jt_full hj h6)
    have h7 : 6 < (n : Int) + (n' : Int) := by omega
    clear hj
    go_enter Try.func21, Try.ntmps21
    go_wp2_with fail
    refine (iTrain _ h hl hm).mono ?_
    rintro e w1 ⟨rfl, hb⟩
    go_wp2_with fail
    refine (iTrain _ (rdB h' hb) hl' hm').mono ?_
    rintro e w2 ⟨rfl, hb2⟩
    replace hb := bel2 hb hb2
    clear hb2
    go_wp2
    go_ret2
    obtain ⟨e1, e2, e3⟩ := HE.out
    rw [e1, e2, e3]
    exact ⟨_, rfl, Own.nil _ _ _ _ _, hb⟩
  · have HE := Lib.hid (jt_ok hj h6)
    have h7 : (n : Int) + (n' : Int) ≤ 6 := by omega
    clear hj
    go_enter Try.func21, Try.ntmps21
    go_wp2_with fail
    refine (iTrain _ h hl hm).mono ?_
    rintro e w1 ⟨rfl, hb⟩
    go_wp2_with fail
    refine (iTrain _ (rdB h' hb) hl' hm').mono ?_
    rintro e w2 ⟨rfl, hb2⟩
    replace hb := bel2 hb hb2
    clear hb2
    have HL := Lib.hid hl; have HL' := Lib.hid hl'; clear hl hl' h6
    have r1 := rdB h hb; have r2 := rdB h' hb
    obtain ⟨b, off, rfl, hbb, hc⟩ := r1.lits (by decide) (by omega)
    obtain ⟨b', off', rfl, hbb', hc'⟩ := r2.lits (by decide) (by omega)
    have r1 := r1.1; have r2 := r2.1
    have hz := hb.size
    have o0 : Own (w2.alloc (.cells #[] 51)) w2.heap.size (w2.heap.size + 1) 51 2 (.slice (some ⟨w2.heap.size, 0, none⟩) 0 0) 0 [] := (Blk.new w2 51 #[]).own (n := 0) (Nat.zero_le _) rfl
    have hcX : ∀ (j : Nat) (u : Value), (flat encPair xs)[j]? = some u → (w2.alloc (.cells #[] 51)).cell? ((⟨b, off, none⟩ : Addr).add j) = some u := fun j u hu => by rw [Addr.add_lit]; exact cellA (hc j u hu) _
    have hcY : ∀ (j : Nat) (u : Value), (flat encPair ys)[j]? = some u → (w2.alloc (.cells #[] 51)).cell? ((⟨b', off', none⟩ : Addr).add j) = some u := fun j u hu => by rw [Addr.add_lit]; exact cellA (hc' j u hu) _
    have HO := Lib.hid o0; have HX := Lib.hid hcX; have HY := Lib.hid hcY
    clear o0 hcX hcY hc hc'
    go_wp2_with (first
      | (at_builtin
         refine wpList_appN rfl (.tmp 20) (.tmp 21) rfl eltGear rfl HO.out rfl r1 HX.out (flat_one encPair_one _) (by omega) (by omega) (by simp) ?_
         intro A3 c3 w3 ho3 ht3
         simp only [Nat.zero_add, List.nil_append] at ho3)
      | (at_builtin
         refine wpList_appN rfl (.tmp 22) (.tmp 23) rfl eltGear rfl ho3 rfl r2 (fun j u hu => (World.cell?_of_block (w := w2.alloc (.cells #[] 51)) (ht3.block _ (by rw [Addr.add_lit]; simp; omega) (.inl (by rw [Addr.add_lit]; exact hbb')))).trans (HY.out j u hu)) (flat_one encPair_one _) (by omega) (by omega) (by have := ht3.size; simp at this; omega) ?_
         intro A4 c4 w4 ho4 ht4))
    go_ret2
    obtain ⟨e1, e2, e3⟩ := HE.out
    rw [e1, e2, e3]
    rw [HL.out, HL'.out, flat_append]
    have hz3 := ht3.size
    simp at hz3
    exact ⟨_, rfl, ho4.more (by omega) (Nat.le_refl _), Touch.below (Touch.below (hb.alloc hz _) ht3 (by simp; omega) (by omega)) ht4 (by omega) (by omega)⟩
end Go.Proofs.Ytmdipidejmnijaa
