/- A text's parts without blanks. No condition. -/
import Derived.Test.YtmdipidejmnijaaStrs
namespace Go.Proofs.Ytmdipidejmnijaa
open Go.RowKit

/-- What stands ahead of the i-th byte, cut at blanks; and where the part that is open begins. -/
def spl (s : ByteArray) : Nat → List ByteArray × Nat
  | 0 => ([], 0)
  | i + 1 => if (s.data.getD i 0).toNat = 32 then ((spl s i).1 ++ [s.extract (spl s i).2 i], i + 1) else spl s i
def full (s : ByteArray) : List ByteArray := (spl s s.size).1 ++ [s.extract (spl s s.size).2 s.size]
def ne0 (b : ByteArray) : Bool := !b.toList.isEmpty
def wordsL (s : ByteArray) : List ByteArray := (full s).filter ne0
theorem spl_le (s : ByteArray) : ∀ i, (spl s i).2 ≤ i ∧ (spl s i).1.length ≤ i
  | 0 => by simp [spl]
  | i + 1 => by
    have := spl_le s i
    rw [spl]
    split
    · simp; omega
    · omega
theorem spl_yes {s : ByteArray} {i : Nat} (h : (s.data.getD i 0).toNat = 32) : spl s (i + 1) = ((spl s i).1 ++ [s.extract (spl s i).2 i], i + 1) := by rw [spl, if_pos h]
theorem spl_no {s : ByteArray} {i : Nat} (h : ¬ (s.data.getD i 0).toNat = 32) : spl s (i + 1) = spl s i := by rw [spl, if_neg h]
theorem get_at {s : ByteArray} {k : Nat} (h : k < s.size) : s.data.getD k 0 = s[k] := by
  have h' : k < s.data.size := h
  rw [Array.getD_eq_getD_getElem?, Array.getElem?_eq_getElem h']
  rfl
def wdN (s : ByteArray) : Nat := (wordsL s).length
theorem full_length (s : ByteArray) : (full s).length = (spl s s.size).1.length + 1 := by simp [full]
theorem wdN_le {s : ByteArray} (h : s.size ≤ 1048576) : wdN s ≤ 1073741824 := by
  have h1 : (wordsL s).length ≤ (full s).length := List.length_filter_le _ _
  have h2 := (spl_le s s.size).2
  rw [full_length] at h1
  unfold wdN
  omega

set_option maxHeartbeats 1600000 in
theorem sSplit0 {s : ByteArray} (w : World) (hs : s.size ≤ 1048576) :
    Calls Try.prog 48 #[.string s, .int .u8 32] w (RetOwn w 9 1 (full s).length ((full s).map Value.string)) := by
  go_enter Try.func48, Try.ntmps48
  go_wp2
  go_loopw [5, 6, 7] (fun o fr i wr => ∃ (k : Nat) (A' : Option Addr) (c' : Nat), k ≤ s.size ∧ i = .int .i64 k ∧ fr = .int .i64 ((spl s k).2 : Nat) ∧ o = .slice A' (spl s k).1.length c' ∧ Own wr w.heap.size wr.heap.size 9 1 (.slice A' (spl s k).1.length c') (spl s k).1.length ((spl s k).1.map Value.string) ∧ w.heap.size ≤ wr.heap.size ∧ Below w.heap.size w wr) (fun _ _ i _ => s.size - (intOf i).toNat)
  case atStart => exact ⟨0, some ⟨w.heap.size, 0, none⟩, 0, Nat.zero_le _, rfl, rfl, rfl, ((Blk.new w 9 #[]).own (n := 0) (Nat.zero_le _) rfl).more (Nat.le_refl _) (by simp), by simp, (by repeat' (first | assumption | exact Below.refl _ _ | refine Below.drew ?_ | refine belN ?_ _ | refine Below.alloc ?_ (by first | omega | (simp; done) | (simp; omega)) _ | refine Below.setCell ?_ (by first | omega | (simp; done) | (simp; omega)) _))⟩
  case round =>
    obtain ⟨k, A', c', hk, rfl, rfl, rfl, ho, hz, hB⟩ := hrel
    obtain ⟨l1, l2⟩ := spl_le s k
    obtain ⟨ws, fr, hp⟩ : ∃ ws fr, spl s k = (ws, fr) := ⟨_, _, rfl⟩
    rw [hp] at ho l1 l2 ⊢
    simp only at ho l1 l2 ⊢
    have HP := Lib.hid hp; clear hp
    have f1 : (fr : Int) ≤ (k : Int) := by omega
    have f2 : (0 : Int) ≤ (fr : Int) := by omega
    by_cases hlt : k < s.size
    · have f3 : (k : Int) ≤ (s.size : Int) := by omega
      by_cases hb : s[k].toNat = 32
      · have HS : Hid (spl s (k + 1) = (ws ++ [s.extract fr k], k + 1)) := by
          have := spl_yes (s := s) (i := k) (by rw [get_at hlt]; exact hb)
          rw [HP.out] at this
          exact this
        have hb1 : ((s[k].toNat : Int) == 32) = true := by simp [hb]
        clear hb
        go_wp2_with (first | (at_builtin; refine wpList_app1 rfl (.tmp 20) (.tmp 25) rfl eltS rfl (ho.alloc _) rfl (Blk.new_at (by simp)) rfl (one_str _) (by omega) (by first | omega | (simp; omega)) ?_; intro A2 c2 w2 ho2 ht2))
        have hz2 := ht2.size
        go_roundw
        case rel => exact ⟨k + 1, A2, c2, by omega, by go_num, by rw [HS.out]; go_num, by rw [HS.out]; simp, by rw [HS.out]; simpa using ho2, by have := hz2; simp at this; omega, Touch.below (hB.alloc (by omega) _) ht2 (by first | omega | (simp; omega)) (Nat.le_refl _)⟩
        case measure => simp [intOf]; omega
      · have HS : Hid (spl s (k + 1) = (ws, fr)) := by
          have := spl_no (s := s) (i := k) (by rw [get_at hlt]; exact hb)
          rw [HP.out] at this
          exact this
        have hb1 : ((s[k].toNat : Int) == 32) = false := by simp; omega
        clear hb
        go_wp2
        go_roundw
        case rel => exact ⟨k + 1, A', c', by omega, by go_num, by rw [HS.out], by rw [HS.out], by rw [HS.out]; exact ho, hz, hB⟩
        case measure => simp [intOf]; omega
    · obtain rfl : k = s.size := by omega
      have HF : Hid (full s = ws ++ [s.extract fr s.size]) := by unfold Hid full; rw [HP.out]
      go_wp2_with (first | (at_builtin; refine wpList_app1 rfl (.tmp 29) (.tmp 33) rfl eltS rfl (ho.alloc _) rfl (Blk.new_at (by simp)) rfl (one_str _) (by omega) (by first | omega | (simp; omega)) ?_; intro A2 c2 w2 ho2 ht2))
      have hz2 := ht2.size
      go_ret
      exact ⟨_, rfl, by rw [HF.out]; simpa using ho2, Touch.below (hB.alloc (by omega) _) ht2 (by first | omega | (simp; omega)) (Nat.le_refl _)⟩

theorem take_filter {p : ByteArray → Bool} {xs : List ByteArray} {k : Nat} {x : ByteArray} (hx : xs[k]? = some x) : (xs.take (k + 1)).filter p = (xs.take k).filter p ++ (if p x then [x] else []) := by
  rw [List.take_add_one, hx, List.filter_append]
  cases h : p x <;> simp [h]
theorem wordsL_eq (s : ByteArray) : wordsL s = (full s).filter ne0 := rfl

set_option maxHeartbeats 1600000 in
theorem sSplitWords {s : ByteArray} (w : World) (hs : s.size ≤ 1048576) :
    Calls Try.prog 31 #[.string s] w (RetOwn w 9 1 (wdN s) ((wordsL s).map Value.string)) := by
  have hfl : (full s).length ≤ 1048577 := by
    have := (spl_le s s.size).2
    rw [full_length]; omega
  go_enter Try.func31, Try.ntmps31
  go_wp2_with fail
  refine (sSplit0 _ hs).mono ?_
  rintro e w1 ⟨v, rfl, hx, hb⟩
  obtain ⟨A, c, rfl, hnc, _⟩ := hx.form
  have h := hx.reads
  have hz1 := hb.size
  clear hx
  obtain ⟨n, hn⟩ : ∃ n, (full s).length = n := ⟨_, rfl⟩
  rw [hn] at h hfl hnc ⊢
  have HL := Lib.hid hn; clear hn
  go_wp2
  go_loopw [4, 5] (fun o i wr => ∃ (k m : Nat) (A' : Option Addr) (c' : Nat), k ≤ n ∧ m ≤ k ∧ i = .int .i64 k ∧ o = .slice A' m c' ∧ Own wr w1.heap.size wr.heap.size 9 1 (.slice A' m c') m ((((full s).take k).filter ne0).map Value.string) ∧ w1.heap.size ≤ wr.heap.size ∧ Below w.heap.size w wr ∧ Below w1.heap.size w1 wr) (fun _ i _ => n - (intOf i).toNat)
  case atStart => exact ⟨0, 0, some ⟨w1.heap.size, 0, none⟩, 0, Nat.zero_le _, Nat.le_refl _, rfl, rfl, ((Blk.new w1 9 #[]).own (n := 0) (Nat.zero_le _) rfl).more (Nat.le_refl _) (by simp), by simp, hb.alloc hz1 _, (by repeat' (first | assumption | exact Below.refl _ _ | refine Below.drew ?_ | refine belN ?_ _ | refine Below.alloc ?_ (by first | omega | (simp; done) | (simp; omega)) _ | refine Below.setCell ?_ (by first | omega | (simp; done) | (simp; omega)) _))⟩
  case round =>
    obtain ⟨k, m, A', c', hk, hmk, rfl, rfl, ho, hz, hB, hB1⟩ := hrel
    by_cases hlt : k < n
    · obtain ⟨ad, x, rfl, _, hx, hc⟩ := (rdB h hB1).str_at hlt
      have HT := Lib.hid (take_filter (p := ne0) hx); clear hx
      cases hx0 : ne0 x
      · have HO : Hid (Own wr w1.heap.size wr.heap.size 9 1 (.slice A' m c') m ((((full s).take (k + 1)).filter ne0).map Value.string)) := by
          unfold Hid
          rw [HT.out, hx0]
          simpa using ho
        have hne : (!x.toList.isEmpty) = false := hx0
        clear ho hx0
        go_wp2
        go_roundw
        case rel => exact ⟨k + 1, m, A', c', by omega, by omega, by go_num, rfl, HO.out, hz, hB, hB1⟩
        case measure => simp [intOf]; omega
      · rw [hx0, if_pos rfl] at HT
        have hne : (!x.toList.isEmpty) = true := hx0
        clear hx0
        go_wp2_with (first | (at_builtin; refine wpList_app1 rfl (.tmp 20) (.tmp 25) rfl eltS rfl (ho.alloc _) rfl (Blk.new_at (by simp)) rfl (one_str _) (by omega) (by first | omega | (simp; omega)) ?_; intro A2 c2 w2 ho2 ht2))
        have hz2 := ht2.size
        go_roundw
        case rel => exact ⟨k + 1, m + 1, A2, c2, by omega, by omega, by go_num, rfl, by rw [HT.out]; simpa using ho2, by have := hz2; simp at this; omega, Touch.below (hB.alloc (by omega) _) ht2 (by first | omega | (simp; omega)) hz1, Touch.below (hB1.alloc (by omega) _) ht2 (by first | omega | (simp; omega)) (Nat.le_refl _)⟩
        case measure => simp [intOf]; omega
    · obtain rfl : k = n := by omega
      have hmw : m = wdN s := by
        have := ho.row.1
        rw [List.take_of_length_le (by rw [HL.out]; exact Nat.le_refl _)] at this
        unfold wdN
        rw [wordsL_eq]
        simpa using this.symm
      rw [List.take_of_length_le (by rw [HL.out]; exact Nat.le_refl _)] at ho
      have HO := Lib.hid ho; have HM := Lib.hid hmw; clear ho hmw
      go_wp2
      go_ret
      exact ⟨_, rfl, by rw [← HM.out]; exact HO.out.more hz1 (Nat.le_refl _), hB⟩

theorem ext_empty {s : ByteArray} {k : Nat} : ne0 (s.extract k k) = false := by
  unfold ne0
  rw [ByteArray.toList_eq]
  have : (s.extract k k).data = #[] := by
    rw [ByteArray.data_extract]
    simp
    omega
  rw [this]
  rfl
theorem ext_full {s : ByteArray} {a k : Nat} (h : a < k) (hk : k ≤ s.size) : ne0 (s.extract a k) = true := by
  unfold ne0
  rw [ByteArray.toList_eq]
  have h2 : k ≤ s.data.size := hk
  have : (s.extract a k).data.toList.length = k - a := by
    rw [ByteArray.data_extract]
    simp
    omega
  cases hl : (s.extract a k).data.toList with
  | nil => rw [hl] at this; simp at this; omega
  | cons x xs => rfl
/-- The word that is open, or none. -/
def opn (fr k : Nat) : Int := if fr = k then -1 else fr

set_option maxHeartbeats 3200000 in
theorem iSplitWords {s : ByteArray} (w : World) (hs : s.size ≤ 1048576) :
    Calls Try.prog 32 #[.string s] w (RetOwn w 9 1 (wdN s) ((wordsL s).map Value.string)) := by
  go_enter Try.func32, Try.ntmps32
  go_wp2
  go_loopw [3, 4, 9] (fun o st i wr => ∃ (k m : Nat) (A' : Option Addr) (c' : Nat), k ≤ s.size ∧ m ≤ k ∧ i = .int .i64 k ∧ st = .int .i64 (opn (spl s k).2 k) ∧ o = .slice A' m c' ∧ Own wr w.heap.size wr.heap.size 9 1 (.slice A' m c') m (((spl s k).1.filter ne0).map Value.string) ∧ w.heap.size ≤ wr.heap.size ∧ Below w.heap.size w wr) (fun _ _ i _ => s.size - (intOf i).toNat)
  case atStart => exact ⟨0, 0, some ⟨w.heap.size, 0, none⟩, 0, Nat.zero_le _, Nat.le_refl _, rfl, rfl, rfl, ((Blk.new w 9 #[]).own (n := 0) (Nat.zero_le _) rfl).more (Nat.le_refl _) (by simp), by simp, (by repeat' (first | assumption | exact Below.refl _ _ | refine Below.drew ?_ | refine belN ?_ _ | refine Below.alloc ?_ (by first | omega | (simp; done) | (simp; omega)) _ | refine Below.setCell ?_ (by first | omega | (simp; done) | (simp; omega)) _))⟩
  case round =>
    obtain ⟨k, m, A', c', hk, hmk, rfl, rfl, rfl, ho, hz, hB⟩ := hrel
    obtain ⟨l1, l2⟩ := spl_le s k
    obtain ⟨ws, fr, hp⟩ : ∃ ws fr, spl s k = (ws, fr) := ⟨_, _, rfl⟩
    rw [hp] at ho l1 l2 ⊢
    simp only at ho l1 l2 ⊢
    have HP := Lib.hid hp; clear hp
    have f1 : (fr : Int) ≤ (k : Int) := by omega
    have f2 : (0 : Int) ≤ (fr : Int) := by omega
    by_cases hlt : k < s.size
    · have f3 : (k : Int) ≤ (s.size : Int) := by omega
      by_cases hb : s[k].toNat = 32
      · have HS : Hid (spl s (k + 1) = (ws ++ [s.extract fr k], k + 1)) := by
          have := spl_yes (s := s) (i := k) (by rw [get_at hlt]; exact hb)
          rw [HP.out] at this
          exact this
        have hb1 : ((s[k].toNat : Int) == 32) = true := by simp [hb]
        have hb2 : ((s[k].toNat : Int) != 32) = false := by simp [hb]
        clear hb
        by_cases he : fr = k
        · subst he
          rw [show opn fr fr = -1 by simp [opn]]
          have HO : Hid (Own wr w.heap.size wr.heap.size 9 1 (.slice A' m c') m (((ws ++ [s.extract fr fr]).filter ne0).map Value.string)) := by
            unfold Hid
            rw [List.filter_append]
            simp only [List.filter_cons, ext_empty]
            simpa using ho
          clear ho
          go_wp2
          go_roundw
          case rel => exact ⟨fr + 1, m, A', c', by omega, by omega, by go_num, by rw [HS.out]; simp [opn], rfl, by rw [HS.out]; exact HO.out, hz, hB⟩
          case measure => simp [intOf]; omega
        · rw [show opn fr k = (fr : Int) by simp [opn, he]]
          have HX := Lib.hid (ext_full (s := s) (show fr < k by omega) (Nat.le_of_lt hlt))
          go_wp2_with (first | (at_builtin; refine wpList_app1 rfl (.tmp 21) (.tmp 26) rfl eltS rfl (ho.alloc _) rfl (Blk.new_at (by simp)) rfl (one_str _) (by omega) (by first | omega | (simp; omega)) ?_; intro A2 c2 w2 ho2 ht2))
          have hz2 := ht2.size
          have HO : Hid (Own w2 w.heap.size w2.heap.size 9 1 (.slice A2 (m + 1) c2) (m + 1) (((ws ++ [s.extract fr k]).filter ne0).map Value.string)) := by
            unfold Hid
            rw [List.filter_append]
            simp only [List.filter_cons, HX.out]
            simpa using ho2
          clear ho2
          go_roundw
          case rel => exact ⟨k + 1, m + 1, A2, c2, by omega, by omega, by go_num, by rw [HS.out]; simp [opn], rfl, by rw [HS.out]; exact HO.out, by have := hz2; simp at this; omega, Touch.below (hB.alloc (by omega) _) ht2 (by first | omega | (simp; omega)) (Nat.le_refl _)⟩
          case measure => simp [intOf]; omega
      · have HS : Hid (spl s (k + 1) = (ws, fr)) := by
          have := spl_no (s := s) (i := k) (by rw [get_at hlt]; exact hb)
          rw [HP.out] at this
          exact this
        have hb1 : ((s[k].toNat : Int) == 32) = false := by simp; omega
        have hb2 : ((s[k].toNat : Int) != 32) = true := by simp; omega
        clear hb
        have hfk : ¬ fr = k + 1 := by omega
        by_cases he : fr = k
        · subst he
          rw [show opn fr fr = -1 by simp [opn]]
          go_wp2
          go_roundw
          case rel => exact ⟨fr + 1, m, A', c', by omega, by omega, by go_num, by rw [HS.out]; simp [opn], rfl, by rw [HS.out]; exact ho, hz, hB⟩
          case measure => simp [intOf]; omega
        · rw [show opn fr k = (fr : Int) by simp [opn, he]]
          go_wp2
          go_roundw
          case rel => exact ⟨k + 1, m, A', c', by omega, by omega, by go_num, by rw [HS.out]; simp [opn, hfk], rfl, by rw [HS.out]; exact ho, hz, hB⟩
          case measure => simp [intOf]; omega
    · obtain rfl : k = s.size := by omega
      have HF : Hid (wordsL s = ws.filter ne0 ++ [s.extract fr s.size].filter ne0) := by
        unfold Hid
        rw [wordsL_eq, full, HP.out, List.filter_append]
      by_cases he : fr = s.size
      · rw [show opn fr s.size = -1 by simp [opn, he]]
        have HW : Hid (wordsL s = ws.filter ne0) := by
          unfold Hid
          rw [HF.out, he]
          simp only [List.filter_cons, ext_empty]
          simp
        have HM : Hid (m = wdN s) := by
          have := ho.row.1
          unfold Hid wdN
          rw [HW.out]
          simpa using this.symm
        go_wp2
        go_ret
        exact ⟨_, rfl, by rw [← HM.out, HW.out]; exact ho, hB⟩
      · rw [show opn fr s.size = (fr : Int) by simp [opn, he]]
        have HX := ext_full (s := s) (show fr < s.size by omega) (Nat.le_refl _)
        have HW : Hid (wordsL s = ws.filter ne0 ++ [s.extract fr s.size]) := by
          unfold Hid
          rw [HF.out]
          simp only [List.filter_cons, HX]
          simp
        have HM : Hid (m + 1 = wdN s) := by
          have := ho.row.1
          unfold Hid wdN
          rw [HW.out]
          simp at this ⊢
          omega
        clear HX
        go_wp2_with (first | (at_builtin; refine wpList_app1 rfl (.tmp 41) (.tmp 45) rfl eltS rfl (ho.alloc _) rfl (Blk.new_at (by simp)) rfl (one_str _) (by omega) (by first | omega | (simp; omega)) ?_; intro A2 c2 w2 ho2 ht2))
        have hz2 := ht2.size
        go_ret
        exact ⟨_, rfl, by rw [← HM.out, HW.out]; simpa using ho2, Touch.below (hB.alloc (by omega) _) ht2 (by first | omega | (simp; omega)) (Nat.le_refl _)⟩
end Go.Proofs.Ytmdipidejmnijaa
