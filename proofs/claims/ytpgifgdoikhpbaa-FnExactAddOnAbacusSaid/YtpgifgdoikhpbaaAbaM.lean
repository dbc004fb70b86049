/- Abaci in plain words: valid, value, plain setting. No condition. -/
import Derived.Test.YtpgifgdoikhpbaaWords
namespace Go.Proofs.Ytpgifgdoikhpbaa
open Go.RowKit

def kdB (u o t : Int) : Bool := betwB u 0 4 && betwB o 1 12 && betwB t 1 10 && decide (t - 1 ≤ o) && decide (9 ≤ u * t + o)
def rodB (u o : Int) (q : Int × Int) : Bool := betwB q.1 0 u && betwB q.2 0 o
def okA (u o t : Int) (xs : List (Int × Int)) : Bool := kdB u o t && (xs.all (rodB u o) && betwB xs.length 1 10)
def shw (t : Int) (q : Int × Int) : Int := q.1 * t + q.2
def valA (t : Int) : List (Int × Int) → Int
  | [] => 0
  | x :: xs => 10 * valA t xs + shw t x
def plD (u t d : Int) : Int × Int := (min u (d / t), d - min u (d / t) * t)
def plL (u t : Int) : Nat → Int → List (Int × Int)
  | 0, _ => []
  | n + 1, v => plD u t (v % 10) :: plL u t n (v / 10)
def rest10 : Nat → Int → Int
  | 0, v => v
  | n + 1, v => rest10 n (v / 10)

theorem kdB_parts {u o t : Int} (h : kdB u o t = true) : (0 ≤ u ∧ u ≤ 4) ∧ (1 ≤ o ∧ o ≤ 12) ∧ (1 ≤ t ∧ t ≤ 10) ∧ t - 1 ≤ o ∧ 9 ≤ u * t + o := by
  simp only [kdB, Bool.and_eq_true, betw_iff, decide_eq_true_eq] at h
  exact ⟨h.1.1.1.1, h.1.1.1.2, h.1.1.2, h.1.2, h.2⟩
theorem okA_parts {u o t : Int} {xs : List (Int × Int)} (h : okA u o t xs = true) : kdB u o t = true ∧ (∀ q ∈ xs, (0 ≤ q.1 ∧ q.1 ≤ u) ∧ 0 ≤ q.2 ∧ q.2 ≤ o) ∧ 1 ≤ xs.length ∧ xs.length ≤ 10 := by
  simp only [okA, Bool.and_eq_true, List.all_eq_true, rodB, betw_iff] at h
  exact ⟨h.1, fun q hq => h.2.1 q hq, by omega⟩
theorem mul_in {a t u : Int} (a0 : 0 ≤ a) (a1 : a ≤ u) (u1 : u ≤ 4) (t0 : 1 ≤ t) (t1 : t ≤ 10) : 0 ≤ a * t ∧ a * t ≤ 40 := by
  have h1 : 0 ≤ a * t := Int.mul_nonneg a0 (by omega)
  have h2 : a * t ≤ 4 * 10 := Int.mul_le_mul (by omega) t1 (by omega) (by omega)
  omega
/-- What a rod of a valid abacus is. -/
def rodIn (u o t : Int) (q : Int × Int) : Prop := (0 ≤ q.1 ∧ q.1 ≤ u ∧ u ≤ 4) ∧ (0 ≤ q.2 ∧ q.2 ≤ o ∧ o ≤ 12) ∧ (1 ≤ t ∧ t ≤ 10) ∧ 0 ≤ q.1 * t ∧ q.1 * t ≤ 40
theorem okA_rod {u o t : Int} {xs : List (Int × Int)} {k : Nat} {q : Int × Int} (h : okA u o t xs = true) (hq : xs[k]? = some q) : rodIn u o t q := by
  obtain ⟨hk, hr, _⟩ := okA_parts h
  obtain ⟨h1, h2, h3, _⟩ := kdB_parts hk
  have := hr q (List.mem_of_getElem? hq)
  have := mul_in this.1.1 this.1.2 h1.2 h3.1 h3.2
  exact ⟨⟨by omega, by omega, h1.2⟩, ⟨by omega, by omega, h2.2⟩, h3, this⟩
theorem shw_bd {u o t : Int} {q : Int × Int} (h : rodIn u o t q) : 0 ≤ shw t q ∧ shw t q ≤ 52 := by
  unfold rodIn at h
  unfold shw
  omega
def pow10 : Nat → Int
  | 0 => 1
  | n + 1 => 10 * pow10 n
theorem pow10_mono : ∀ {m n : Nat}, m ≤ n → 1 ≤ pow10 m ∧ pow10 m ≤ pow10 n
  | 0, 0, _ => by simp [pow10]
  | 0, n + 1, _ => by have := pow10_mono (Nat.zero_le n); simp only [pow10] at this ⊢; omega
  | m + 1, n + 1, h => by have := pow10_mono (show m ≤ n by omega); simp only [pow10] at this ⊢; omega
theorem valA_pow {t : Int} : ∀ {xs : List (Int × Int)}, (∀ q ∈ xs, 0 ≤ shw t q ∧ shw t q ≤ 52) → 0 ≤ valA t xs ∧ valA t xs ≤ 6 * (pow10 xs.length - 1)
  | [], _ => by simp [valA, pow10]
  | x :: xs, h => by
    have h0 := h x (by simp)
    have ih := valA_pow (xs := xs) (fun q hq => h q (by simp [hq]))
    simp only [valA, List.length_cons, pow10]
    omega
theorem okA_shw {u o t : Int} {xs : List (Int × Int)} (h : okA u o t xs = true) : ∀ q ∈ xs, 0 ≤ shw t q ∧ shw t q ≤ 52 := by
  intro q hq
  obtain ⟨k, hk, he⟩ := List.getElem_of_mem hq
  exact shw_bd (okA_rod (k := k) h (by rw [List.getElem?_eq_getElem hk, he]))
theorem valA_bd {u o t : Int} {xs : List (Int × Int)} (h : okA u o t xs = true) (k : Nat) : 0 ≤ valA t (xs.drop k) ∧ valA t (xs.drop k) ≤ 60000000000 := by
  have hs := okA_shw h
  have h1 := valA_pow (t := t) (xs := xs.drop k) (fun q hq => hs q (List.mem_of_mem_drop hq))
  have hl := (okA_parts h).2.2.2
  have h2 := (pow10_mono (show (xs.drop k).length ≤ 10 by simp; omega)).2
  have h3 : pow10 10 = 10000000000 := rfl
  omega
theorem valA_step {t : Int} {q : Int × Int} {xs : List (Int × Int)} {k : Nat} (hq : xs[k]? = some q) : valA t (xs.drop k) = 10 * valA t (xs.drop (k + 1)) + shw t q := by
  obtain ⟨hk, he⟩ := List.getElem?_eq_some_iff.1 hq
  rw [List.drop_eq_getElem_cons hk, valA, he]

theorem shw_plD (u t d : Int) : shw t (plD u t d) = d := by
  simp only [shw, plD]
  omega
theorem plL_length (u t : Int) : ∀ (n : Nat) (v : Int), (plL u t n v).length = n
  | 0, _ => rfl
  | n + 1, v => by simp [plL, plL_length u t n (v / 10)]
theorem rest10_succ : ∀ (n : Nat) (v : Int), rest10 (n + 1) v = rest10 n v / 10
  | 0, _ => rfl
  | n + 1, v => rest10_succ n (v / 10)
theorem rest10_bd : ∀ (n : Nat) (v : Int), 0 ≤ v → 0 ≤ rest10 n v ∧ rest10 n v ≤ v
  | 0, v, h => ⟨h, Int.le_refl _⟩
  | n + 1, v, h => by have := rest10_bd n (v / 10) (by omega); simp only [rest10]; omega
theorem plL_at (u t : Int) : ∀ (n k : Nat) (v : Int), k < n → (plL u t n v)[k]? = some (plD u t (rest10 k v % 10))
  | 0, _, _, h => absurd h (by omega)
  | n + 1, 0, v, _ => rfl
  | n + 1, k + 1, v, h => by
    simp only [plL, List.getElem?_cons_succ, rest10]
    exact plL_at u t n k (v / 10) (by omega)
/-- Each rod shows a digit in the plain way. -/
def plainB (u t : Int) (xs : List (Int × Int)) : Bool := xs.all fun q => decide (shw t q ≤ 9) && decide (q = plD u t (shw t q))
theorem plain_iff {u t : Int} : ∀ {xs : List (Int × Int)}, (∀ q ∈ xs, 0 ≤ shw t q) → ((rest10 xs.length (valA t xs) = 0 ∧ plL u t xs.length (valA t xs) = xs) ↔ plainB u t xs = true)
  | [], _ => by simp [plainB, valA, plL, rest10]
  | x :: xs, h => by
    have h0 := h x (by simp)
    have hv : 0 ≤ valA t xs := by
      have : ∀ ys : List (Int × Int), (∀ q ∈ ys, 0 ≤ shw t q) → 0 ≤ valA t ys := by
        intro ys
        induction ys with
        | nil => intro _; simp [valA]
        | cons y ys ih => intro hy; have := ih (fun q hq => hy q (by simp [hq])); have := hy y (by simp); simp only [valA]; omega
      exact this xs (fun q hq => h q (by simp [hq]))
    have ih := plain_iff (u := u) (t := t) (xs := xs) (fun q hq => h q (by simp [hq]))
    simp only [List.length_cons, valA, plL, rest10, List.cons.injEq, plainB, List.all_cons, Bool.and_eq_true, decide_eq_true_eq] at ih ⊢
    constructor
    · rintro ⟨hr, hx, hxs⟩
      have hs : shw t x = (10 * valA t xs + shw t x) % 10 := by
        have := shw_plD u t ((10 * valA t xs + shw t x) % 10)
        rw [hx] at this
        exact this
      have h9 : shw t x ≤ 9 := by omega
      rw [show (10 * valA t xs + shw t x) % 10 = shw t x by omega] at hx
      rw [show (10 * valA t xs + shw t x) / 10 = valA t xs by omega] at hr hxs
      exact ⟨⟨h9, hx.symm⟩, ih.1 ⟨hr, hxs⟩⟩
    · rintro ⟨⟨h9, hx⟩, hp⟩
      rw [show (10 * valA t xs + shw t x) % 10 = shw t x by omega, show (10 * valA t xs + shw t x) / 10 = valA t xs by omega]
      obtain ⟨h1, h2⟩ := ih.2 hp
      exact ⟨h1, hx.symm, h2⟩
end Go.Proofs.Ytpgifgdoikhpbaa
