/- A text cut at colons. No condition. -/
import Derived.Test.YtlnajkimlooapaaDoorRd
import Derived.Test.YtlnajkimlooapaaDoorApp
import Derived.Test.YtlnajkimlooapaaDoorBytes
namespace Go.Proofs.YtlnajkimlooapaaDoor
open Go.RowKit

theorem infoS : (Tryd.prog.info? 9).map (fun i => (i.zero, i.size, i.bytes)) = some (some (.string ByteArray.empty), 1, 16) := by kernel_rfl
theorem eltS : Elt Tryd.prog 54 9 1 := by
  obtain ⟨i0, hi, hz0, hz1, hz2⟩ := info_parts infoS
  exact ⟨i0, _, _, Tryd.underlying54, hi, hz0, hz1, hz2, rfl, by decide, by decide⟩
theorem Reads.str_at {w : World} {B n k : Nat} {A : Option Addr} {xs : List ByteArray} (h : Reads w B 1 A n (xs.map Value.string)) (hk : k < n) : ∃ (ad : Addr) (x : ByteArray), A = some ad ∧ ad.block < B ∧ xs[k]? = some x ∧ w.cell? (ad.add k) = some (.string x) := by
  obtain ⟨ad, u, e, hb, hu, hc⟩ := h.at_ hk
  rw [List.getElem?_map] at hu
  cases hx : xs[k]? with
  | none => rw [hx] at hu; cases hu
  | some x =>
    rw [hx] at hu
    simp at hu
    subst hu
    exact ⟨ad, x, e, hb, rfl, hc⟩
theorem strs_one (xs : List ByteArray) : ∀ u ∈ xs.map Value.string, u.oneCell' = true := by
  intro u hu
  simp at hu
  obtain ⟨x, _, rfl⟩ := hu
  rfl
theorem one_str (x : ByteArray) : ∀ u ∈ (#[Value.string x] : Array Value).toList, u.oneCell' = true := by intro u hu; simp at hu; subst hu; rfl

/-- What stands ahead of the i-th byte, cut at colons; and where the part that is open begins. -/
def spl (s : ByteArray) : Nat → List ByteArray × Nat
  | 0 => ([], 0)
  | i + 1 => if (s.data.getD i 0).toNat = 58 then ((spl s i).1 ++ [s.extract (spl s i).2 i], i + 1) else spl s i
def full (s : ByteArray) : List ByteArray := (spl s s.size).1 ++ [s.extract (spl s s.size).2 s.size]
theorem spl_le (s : ByteArray) : ∀ i, (spl s i).2 ≤ i ∧ (spl s i).1.length ≤ i
  | 0 => by simp [spl]
  | i + 1 => by
    have := spl_le s i
    rw [spl]
    split
    · simp; omega
    · omega
theorem spl_yes {s : ByteArray} {i : Nat} (h : (s.data.getD i 0).toNat = 58) : spl s (i + 1) = ((spl s i).1 ++ [s.extract (spl s i).2 i], i + 1) := by rw [spl, if_pos h]
theorem spl_no {s : ByteArray} {i : Nat} (h : ¬ (s.data.getD i 0).toNat = 58) : spl s (i + 1) = spl s i := by rw [spl, if_neg h]
theorem get_at {s : ByteArray} {k : Nat} (h : k < s.size) : s.data.getD k 0 = s[k] := by
  have h' : k < s.data.size := h
  rw [Array.getD_eq_getD_getElem?, Array.getElem?_eq_getElem h']
  rfl
theorem full_length (s : ByteArray) : (full s).length = (spl s s.size).1.length + 1 := by simp [full]
set_option maxHeartbeats 1600000 in
theorem sSplit0 {s : ByteArray} (w : World) (hs : s.size ≤ 1048576) :
    Calls Tryd.prog 34 #[.string s, .int .u8 58] w (RetOwn w 9 1 (full s).length ((full s).map Value.string)) := by
  go_enter Tryd.func34, Tryd.ntmps34
  go_wp2
  go_loopw [5, 6, 7] (fun o fr i wr => ∃ (k : Nat) (A' : Option Addr) (c' : Nat), k ≤ s.size ∧ i = .int .i64 k ∧ fr = .int .i64 ((spl s k).2 : Nat) ∧ o = .slice A' (spl s k).1.length c' ∧ Own wr w.heap.size wr.heap.size 9 1 (.slice A' (spl s k).1.length c') (spl s k).1.length ((spl s k).1.map Value.string) ∧ w.heap.size ≤ wr.heap.size ∧ Below w.heap.size w wr) (fun _ _ i _ => s.size - (intOf i).toNat)
  case atStart => exact ⟨0, some ⟨w.heap.size, 0, none⟩, 0, Nat.zero_le _, rfl, rfl, rfl, ((Blk.new w 9 #[]).own (n := 0) (Nat.zero_le _) rfl).more (Nat.le_refl _) (by simp), by simp, (by repeat' (first | assumption | exact Below.refl _ _ | refine Below.drew ?_ | refine belN ?_ _ | refine Below.alloc ?_ (by first | omega | (simp; done) | (simp; omega)) _ | refine Below.setCell ?_ (by first | omega | (simp; done) | (simp; omega)) _))⟩
  case round =>
    obtain ⟨k, A', c', hk, rfl, rfl, rfl, ho, hz, hB⟩ := hrel
    obtain ⟨l1, l2⟩ := spl_le s k
    obtain ⟨ws, fr, hp⟩ : ∃ ws fr, spl s k = (ws, fr) := ⟨_, _, rfl⟩
    rw [hp] at ho l1 l2 ⊢
    simp only at ho l1 l2 ⊢
    have HP := Lib.hid hp; clear hp
    have f1 : (fr : Int) ≤ (k : Int) := by omega
    have f2 : (0 : Int) ≤ (fr : Int) := by omega
    by_cases hlt : k < s.size
    · have f3 : (k : Int) ≤ (s.size : Int) := by omega
      by_cases hb : s[k].toNat = 58
      · have HS : Hid (spl s (k + 1) = (ws ++ [s.extract fr k], k + 1)) := by
          have := spl_yes (s := s) (i := k) (by rw [get_at hlt]; exact hb)
          rw [HP.out] at this
          exact this
        have hb1 : ((s[k].toNat : Int) == 58) = true := by simp [hb]
        clear hb
        go_wp2_with (first | (at_builtin; refine wpList_app1 rfl (.tmp 20) (.tmp 25) rfl eltS rfl (ho.alloc _) rfl (Blk.new_at (by simp)) rfl (one_str _) (by omega) (by first | omega | (simp; omega)) ?_; intro A2 c2 w2 ho2 ht2))
        have hz2 := ht2.size
        go_roundw
        case rel => exact ⟨k + 1, A2, c2, by omega, by go_num, by rw [HS.out]; go_num, by rw [HS.out]; simp, by rw [HS.out]; simpa using ho2, by have := hz2; simp at this; omega, Touch.below (hB.alloc (by omega) _) ht2 (by first | omega | (simp; omega)) (Nat.le_refl _)⟩
        case measure => simp [intOf]; omega
      · have HS : Hid (spl s (k + 1) = (ws, fr)) := by
          have := spl_no (s := s) (i := k) (by rw [get_at hlt]; exact hb)
          rw [HP.out] at this
          exact this
        have hb1 : ((s[k].toNat : Int) == 58) = false := by simp; omega
        clear hb
        go_wp2
        go_roundw
        case rel => exact ⟨k + 1, A', c', by omega, by go_num, by rw [HS.out], by rw [HS.out], by rw [HS.out]; exact ho, hz, hB⟩
        case measure => simp [intOf]; omega
    · obtain rfl : k = s.size := by omega
      have HF : Hid (full s = ws ++ [s.extract fr s.size]) := by unfold Hid full; rw [HP.out]
      go_wp2_with (first | (at_builtin; refine wpList_app1 rfl (.tmp 29) (.tmp 33) rfl eltS rfl (ho.alloc _) rfl (Blk.new_at (by simp)) rfl (one_str _) (by omega) (by first | omega | (simp; omega)) ?_; intro A2 c2 w2 ho2 ht2))
      have hz2 := ht2.size
      go_ret
      exact ⟨_, rfl, by rw [HF.out]; simpa using ho2, Touch.below (hB.alloc (by omega) _) ht2 (by first | omega | (simp; omega)) (Nat.le_refl _)⟩


/-! ### The first colon -/
def cFrom (s : ByteArray) : Nat → Nat → Nat
  | 0, i => i
  | f + 1, i => if bt s i = 58 then i else cFrom s f (i + 1)
def cI (s : ByteArray) : Nat := cFrom s s.size 0
theorem cFrom_at {s : ByteArray} {i : Nat} (h : bt s i = 58) : ∀ (f i0 : Nat), i0 ≤ i → i < i0 + f → (∀ k, i0 ≤ k → k < i → ¬ bt s k = 58) → cFrom s f i0 = i
  | 0, i0, h1, h2, _ => by omega
  | f + 1, i0, h1, h2, h3 => by
    rw [cFrom]
    by_cases he : i0 = i
    · subst he; rw [if_pos h]
    · rw [if_neg (h3 i0 (Nat.le_refl _) (by omega))]
      exact cFrom_at h f (i0 + 1) (by omega) (by omega) (fun k k1 k2 => h3 k (by omega) k2)
theorem cI_at {s : ByteArray} {i : Nat} (hi : i < s.size) (hno : ∀ k, k < i → ¬ bt s k = 58) (h : bt s i = 58) : cI s = i :=
  cFrom_at h _ _ (Nat.zero_le _) (by omega) (fun k _ hk => hno k hk)
theorem cFrom_none {s : ByteArray} : ∀ (f i0 : Nat), (∀ k, i0 ≤ k → k < i0 + f → ¬ bt s k = 58) → cFrom s f i0 = i0 + f
  | 0, i0, _ => rfl
  | f + 1, i0, h => by
    rw [cFrom, if_neg (h i0 (Nat.le_refl _) (by omega)), cFrom_none f (i0 + 1) (fun k k1 k2 => h k (by omega) (by omega))]
    omega
theorem cI_none {s : ByteArray} (hno : ∀ k, k < s.size → ¬ bt s k = 58) : cI s = s.size := by
  rw [cI, cFrom_none _ _ (fun k _ hk => hno k (by omega))]
  omega
theorem cI_cases (s : ByteArray) : (cI s = s.size ∧ ∀ k, k < s.size → ¬ bt s k = 58) ∨ (cI s < s.size ∧ bt s (cI s) = 58 ∧ ∀ k, k < cI s → ¬ bt s k = 58) := by
  by_cases hex : ∃ i, i < s.size ∧ bt s i = 58
  · right
    have key : ∀ n, ∀ i, i ≤ n → i < s.size → bt s i = 58 → ∃ j, j < s.size ∧ bt s j = 58 ∧ ∀ k, k < j → ¬ bt s k = 58 := by
      intro n
      induction n with
      | zero =>
        intro i hi h1 h2
        obtain rfl : i = 0 := by omega
        exact ⟨0, h1, h2, fun k hk => by omega⟩
      | succ n ih =>
        intro i hi h1 h2
        by_cases hb : ∃ k, k < i ∧ bt s k = 58
        · obtain ⟨k, hk, hk2⟩ := hb
          exact ih k (by omega) (by omega) hk2
        · exact ⟨i, h1, h2, fun k hk hk2 => hb ⟨k, hk, hk2⟩⟩
    obtain ⟨i, h1, h2⟩ := hex
    obtain ⟨j, j1, j2, j3⟩ := key i i (Nat.le_refl _) h1 h2
    rw [cI_at j1 j3 j2]
    exact ⟨j1, j2, j3⟩
  · left
    have hno : ∀ k, k < s.size → ¬ bt s k = 58 := fun k hk h => hex ⟨k, hk, h⟩
    exact ⟨cI_none hno, hno⟩
def cB (s : ByteArray) : ByteArray := s.extract 0 (cI s)
def cD (s : ByteArray) : ByteArray := s.extract (cI s + 1) s.size

/-! ### What the cut at all colons is -/
theorem bt_nat {s : ByteArray} {i : Nat} : bt s i = 58 ↔ (s.data.getD i 0).toNat = 58 := by unfold bt; omega
theorem spl_before {s : ByteArray} : ∀ i, (∀ k, k < i → ¬ bt s k = 58) → spl s i = ([], 0)
  | 0, _ => rfl
  | i + 1, h => by rw [spl_no (fun h1 => h i (by omega) (bt_nat.2 h1)), spl_before i (fun k hk => h k (by omega))]
theorem spl_after {s : ByteArray} (h0 : bt s (cI s) = 58) (hno : ∀ k, k < cI s → ¬ bt s k = 58) : ∀ j, 
    (spl s (cI s + 1 + j) = ([cB s], cI s + 1) ∧ ∀ k, cI s < k → k < cI s + 1 + j → ¬ bt s k = 58) ∨ (2 ≤ (spl s (cI s + 1 + j)).1.length ∧ ∃ k, cI s < k ∧ k < cI s + 1 + j ∧ bt s k = 58)
  | 0 => by
    left
    refine ⟨?_, fun k h1 h2 => by omega⟩
    rw [Nat.add_zero, spl_yes (bt_nat.1 h0), spl_before _ hno]
    rfl
  | j + 1 => by
    have ih := spl_after h0 hno j
    rw [show cI s + 1 + (j + 1) = (cI s + 1 + j) + 1 by omega]
    by_cases hb : bt s (cI s + 1 + j) = 58
    · right
      rw [spl_yes (bt_nat.1 hb)]
      refine ⟨?_, _, by omega, by omega, hb⟩
      rcases ih with ⟨h1, _⟩ | ⟨h1, _⟩
      · rw [h1]; simp
      · simp; omega
    · rw [spl_no (fun h1 => hb (bt_nat.2 h1))]
      rcases ih with ⟨h1, h2⟩ | ⟨h1, k, k1, k2, k3⟩
      · exact .inl ⟨h1, fun k k1 k2 => by
          by_cases he : k = cI s + 1 + j
          · subst he; exact hb
          · exact h2 k k1 (by omega)⟩
      · exact .inr ⟨h1, k, k1, by omega, k3⟩
/-- No colon; one; more. -/
theorem full_cases (s : ByteArray) : (cI s = s.size ∧ full s = [s]) ∨ (cI s < s.size ∧ full s = [cB s, cD s]) ∨ (cI s < s.size ∧ 3 ≤ (full s).length ∧ ∃ k, cI s < k ∧ k < s.size ∧ bt s k = 58) := by
  rcases cI_cases s with ⟨h1, h2⟩ | ⟨h1, h2, h3⟩
  · refine .inl ⟨h1, ?_⟩
    rw [full, spl_before _ h2]
    simp
  · have h := spl_after h2 h3 (s.size - (cI s + 1))
    rw [show cI s + 1 + (s.size - (cI s + 1)) = s.size by omega] at h
    rcases h with ⟨h4, _⟩ | ⟨h4, h5⟩
    · refine .inr (.inl ⟨h1, ?_⟩)
      rw [full, h4]
      rfl
    · refine .inr (.inr ⟨h1, ?_, h5⟩)
      rw [full_length]
      omega
end Go.Proofs.YtlnajkimlooapaaDoor
