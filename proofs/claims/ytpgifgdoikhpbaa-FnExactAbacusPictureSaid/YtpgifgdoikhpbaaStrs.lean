/- Slices of strings: equality, marks. No condition. -/
import Derived.Test.YtpgifgdoikhpbaaRows
import Derived.Test.YtpgifgdoikhpbaaWords
import Derived.Test.YtpgifgdoikhpbaaApp
import Derived.Test.YtpgifgdoikhpbaaBytes
import Derived.Test.YtpgifgdoikhpbaaBel
import Derived.BigQuiet
import Derived.StillTail
import Derived.Laws.BytesArg
import Derived.Laws.Concat
namespace Go.Proofs.Ytpgifgdoikhpbaa
open Go.RowKit

theorem infoS : (Try.prog.info? 9).map (fun i => (i.zero, i.size, i.bytes)) = some (some (.string ByteArray.empty), 1, 16) := by kernel_rfl
theorem eltS : Elt Try.prog 59 9 1 := by
  obtain ⟨i0, hi, hz0, hz1, hz2⟩ := info_parts infoS
  exact ⟨i0, _, _, Try.underlying59, hi, hz0, hz1, hz2, rfl, by decide, by decide⟩
theorem Reads.str_at {w : World} {B n k : Nat} {A : Option Addr} {xs : List ByteArray} (h : Reads w B 1 A n (xs.map Value.string)) (hk : k < n) : ∃ (ad : Addr) (x : ByteArray), A = some ad ∧ ad.block < B ∧ xs[k]? = some x ∧ w.cell? (ad.add k) = some (.string x) := by
  obtain ⟨ad, u, e, hb, hu, hc⟩ := h.at_ hk
  rw [List.getElem?_map] at hu
  cases hx : xs[k]? with
  | none => rw [hx] at hu; cases hu
  | some x =>
    rw [hx] at hu
    simp at hu
    subst hu
    exact ⟨ad, x, e, hb, rfl, hc⟩
theorem strs_one (xs : List ByteArray) : ∀ u ∈ xs.map Value.string, u.oneCell' = true := by
  intro u hu
  simp at hu
  obtain ⟨x, _, rfl⟩ := hu
  rfl
theorem one_str (x : ByteArray) : ∀ u ∈ (#[Value.string x] : Array Value).toList, u.oneCell' = true := by intro u hu; simp at hu; subst hu; rfl

set_option maxHeartbeats 1000000 in
theorem eqStringS {A A' : Option Addr} {n c c' : Nat} {xs : List ByteArray} (w : World) (h : Reads w w.heap.size 1 A n (xs.map Value.string)) (h' : Reads w w.heap.size 1 A' n (xs.map Value.string)) (hl : xs.length = n) (hm : n ≤ maxLen) :
    Calls Try.prog 47 #[.slice A n c, .slice A' n c'] w fun e w' => e = .returned (.bool true) ∧ Below w.heap.size w w' := by
  unfold maxLen at hm
  have HL := Lib.hid hl; clear hl
  go_enter Try.func47, Try.ntmps47
  go_wp2
  go_loopw [5] (fun i wr => ∃ k m : Nat, k ≤ n ∧ i = .int .i64 k ∧ wr = w.drewN m) (fun i _ => n - (intOf i).toNat)
  case atStart => exact ⟨0, 0, Nat.zero_le _, rfl, rfl⟩
  case round =>
    obtain ⟨k, m, hk, rfl, rfl⟩ := hrel
    by_cases hlt : k < n
    · obtain ⟨ad, x, rfl, _, hx, hc⟩ := h.str_at hlt
      obtain ⟨ad', y, rfl, _, hy, hc'⟩ := h'.str_at hlt
      rw [hx] at hy
      obtain rfl := Option.some.inj hy
      clear hx hy
      go_wp2
      go_quiet (fail)
      go_wp2
      go_roundw
      case rel => exact ⟨k + 1, _, by omega, by go_num, rfl⟩
      case measure => simp [intOf]; omega
    · obtain rfl : k = n := by omega
      go_wp2
      go_ret
      exact ⟨rfl, RetQ.bel m⟩

/-- The bytes of a number, ahead of others. -/
def mkD : Nat → Nat → ByteArray → ByteArray
  | 0, _, o => o
  | s + 1, k, o => if k = 0 then o else mkD s (k / 10) (strOfNums [((48 + k % 10 : Nat) : Int)] ++ o)
def mkT (k : Nat) : ByteArray := ⟨#[109]⟩ ++ mkD 64 k ByteArray.empty
theorem mkD_zero (s : Nat) (o : ByteArray) : mkD s 0 o = o := by cases s <;> simp [mkD]
theorem mkD_step {s k : Nat} {o : ByteArray} (h : 0 < k) : mkD (s + 1) k o = mkD s (k / 10) (strOfNums [((48 + k % 10 : Nat) : Int)] ++ o) := by
  rw [mkD, if_neg (by omega)]
theorem strOne (x : Int) : (strOfNums [x]).size = 1 := by rw [strOfNums_size]; rfl
set_option maxHeartbeats 1000000 in
theorem markText (k : Nat) (w : World) (h0 : 1 ≤ k) (h1 : k ≤ 1099511627776) :
    Calls Try.prog 79 #[.int .i64 (k : Int)] w fun e w' => e = .returned (.string (mkT k)) ∧ Below w.heap.size w w' := by
  have hk0 : ¬ k = 0 := by omega
  have hk1 : decide (k = 0) = false := by simp [hk0]
  go_enter Try.func79, Try.ntmps79
  go_wp2
  go_loopw [0, 3] (fun i o wr => ∃ (j s : Nat) (b : ByteArray), i = .int .i64 j ∧ o = .string b ∧ j < 2 ^ s ∧ j ≤ 1099511627776 ∧ s ≤ 64 ∧ b.size + s ≤ 64 ∧ Hid (mkD s j b = mkD 64 k ByteArray.empty) ∧ Below w.heap.size w wr) (fun i _ _ => (intOf i).toNat)
  case atStart => exact ⟨k, 64, ByteArray.empty, rfl, rfl, by omega, h1, by omega, by decide, rfl, Below.refl _ _⟩
  case round =>
    obtain ⟨j, s, b, rfl, rfl, hj, hj1, hs, hz, hd, hB⟩ := hrel
    by_cases hlt : 0 < j
    · have hcv := conv_own (n := 1) (bs := [48 + (j : Int) % 10]) (((Blk.new wr 5 #[.int .u8 (48 + (j : Int) % 10)]).own (n := 1) (size := 1) (by unfold maxLen; omega) rfl))
      have hu : IntKind.u8.wrap (48 + (j : Int) % 10) = 48 + (j : Int) % 10 := IntWalk.u8_in _ (by omega)
      have hsz := strOne (48 + (j : Int) % 10)
      have hsum : ¬ (9223372036854775807 < (strOfNums [48 + (j : Int) % 10]).size + b.size) := by omega
      rcases s with _ | r
      · simp at hj; omega
      have HS : Hid (mkD r (j / 10) (strOfNums [48 + (j : Int) % 10] ++ b) = mkD 64 k ByteArray.empty) := by
        rw [← hd.out, mkD_step hlt]
        unfold Hid
        congr 3
      have hsz2 : (strOfNums [48 + (j : Int) % 10] ++ b).size + r ≤ 64 := by rw [ByteArray.size_append, hsz]; omega
      have hj2 : j / 10 < 2 ^ r := by rw [Nat.pow_succ] at hj; omega
      have HZ := Lib.hid hsz2; have HJ := Lib.hid hj2
      clear hsz2 hj2 hd hsz hj
      go_wp2
      go_roundw
      case rel => exact ⟨j / 10, r, _, by go_num, rfl, HJ.out, by omega, by omega, HZ.out, HS, hB.alloc hB.size _⟩
      case measure => simp [intOf]; omega
    · obtain rfl : j = 0 := by omega
      have hsum : ¬ (9223372036854775807 < (ByteArray.mk #[109]).size + b.size) := by
        have : (ByteArray.mk #[109]).size = 1 := rfl
        omega
      have HE : Hid (mkT k = ByteArray.mk #[109] ++ b) := by
        unfold Hid mkT
        rw [← hd.out, mkD_zero]
      go_wp2
      go_ret
      exact ⟨by rw [HE.out]; rfl, hB⟩
def marksS (k n : Nat) : List ByteArray := (List.range n).map fun (i : Nat) => mkT (k + i)
theorem marksS_length (k n : Nat) : (marksS k n).length = n := by simp [marksS]
theorem marksS_succ (k n : Nat) : marksS k (n + 1) = marksS k n ++ [mkT (k + n)] := by simp [marksS, List.range_succ]
theorem marksS_at {k n i : Nat} (h : i < n) : (marksS k n)[i]? = some (mkT (k + i)) := by simp [marksS, h]
theorem marksS_step {k i : Nat} {xs : List Value} (hi : i < xs.length) : (((marksS k i).map Value.string) ++ xs.drop i).set i (.string (mkT (k + i))) = ((marksS k (i + 1)).map Value.string) ++ xs.drop (i + 1) := by
  rw [set_mid (by simp [marksS_length]) hi, marksS_succ]
  simp

set_option maxHeartbeats 1000000 in
theorem markStringS1 {A : Option Addr} {n c lo hi : Nat} {xs : List Value} (k : Nat) (w : World) (h : Own w lo hi 9 1 (.slice A n c) n xs) (hm : n ≤ 1073741824) (h0 : 1 ≤ k) (h1 : k ≤ 1000000000) :
    Calls Try.prog 48 #[.slice A n c, .int .i64 (k : Int)] w (Marked w lo hi 9 1 (.slice A n c) n ((marksS k n).map Value.string) ((k : Int) + n)) := by
  have HL : Hid (xs.length = n) := by have := h.row.1; unfold Hid; omega
  go_enter Try.func48, Try.ntmps48
  go_wp2
  go_loopw [1, 5] (fun m i wr => ∃ j : Nat, j ≤ n ∧ i = .int .i64 j ∧ m = .int .i64 (((k + j : Nat) : Int)) ∧ Own wr lo hi 9 1 (.slice A n c) n (((marksS k j).map Value.string) ++ xs.drop j) ∧ Touch lo hi w wr) (fun _ i _ => n - (intOf i).toNat)
  case atStart => exact ⟨0, Nat.zero_le _, rfl, rfl, by simpa [marksS] using h, Touch.of_below _ _ (Below.refl _ _)⟩
  case round =>
    obtain ⟨j, hj, rfl, rfl, ho, ht⟩ := hrel
    by_cases hlt : j < n
    · go_wp2_with fail
      refine (markText (k + j) _ (by omega) (by omega)).mono ?_
      rintro e w1 ⟨rfl, hb1⟩
      replace ho := ho.bel hb1
      replace ht := ht.trans (Touch.of_below lo hi hb1)
      clear hb1
      obtain ⟨g, rfl, hlo, hhi, hgs, hcell, hfz⟩ := ho.at_ (by omega)
      have hc := (hcell j (by omega)).trans (List.getElem?_eq_getElem (by simp [marksS_length, HL.out]; omega))
      obtain ⟨u0, hu0⟩ : ∃ u0, w1.cell? ⟨g, j, none⟩ = some u0 := ⟨_, hc⟩
      have hf := hfz j
      clear hc hcell hfz
      go_wp2
      go_roundw
      case rel => exact ⟨j + 1, by omega, by go_num, by go_num, by have := ho.stored j (.string (mkT (k + j))); rwa [marksS_step (by rw [HL.out]; exact hlt)] at this, ht.trans (ho.stored_touch j _)⟩
      case measure => simp [intOf]; omega
    · obtain rfl : j = n := by omega
      go_wp2
      go_ret
      exact ⟨by simp, by rwa [List.drop_of_length_le (by rw [HL.out]; exact Nat.le_refl _), List.append_nil] at ho, ht⟩

set_option maxHeartbeats 1000000 in
theorem heldStringS1 {A : Option Addr} {n c : Nat} (k : Nat) (w : World) (h : Reads w w.heap.size 1 A n ((marksS k n).map Value.string)) (hm : n ≤ 1073741824) (h0 : 1 ≤ k) (h1 : k ≤ 1000000000) :
    Calls Try.prog 49 #[.slice A n c, .int .i64 (k : Int)] w fun e w' => e = .returned (.int .i64 ((k : Int) + n)) ∧ Below w.heap.size w w' := by
  go_enter Try.func49, Try.ntmps49
  go_wp2
  go_loopw [1, 5] (fun m i wr => ∃ j : Nat, j ≤ n ∧ i = .int .i64 j ∧ m = .int .i64 (((k + j : Nat) : Int)) ∧ Below w.heap.size w wr) (fun _ i _ => n - (intOf i).toNat)
  case atStart => exact ⟨0, Nat.zero_le _, rfl, rfl, Below.refl _ _⟩
  case round =>
    obtain ⟨j, hj, rfl, rfl, hB⟩ := hrel
    by_cases hlt : j < n
    · obtain ⟨ad, x, rfl, hbl, hx, hc⟩ := (rdB h hB).str_at hlt
      rw [marksS_at hlt] at hx
      obtain rfl := Option.some.inj hx
      clear hx
      have hc' := fun x : BW wr => BW.cell hc x
      go_wp2_with fail
      refine wp_region_below (by kernel_rfl) (by kernel_rfl) ?_
      repeat (go_big_quiet_step ((go_at_call 79; exact BW.call (markText (k + j) _ (by omega) (by omega)))))
      refine wpQuiet_nil ?_
      rintro _ ⟨⟨w1, hb1⟩, rfl⟩
      have hB1 := bel2 hB hb1
      go_wp2
      go_roundw
      case rel => exact ⟨j + 1, by omega, by go_num, by go_num, hB1⟩
      case measure => simp [intOf]; omega
    · obtain rfl : j = n := by omega
      go_wp2
      go_ret
      exact ⟨by simp, hB⟩
theorem markStringS {A : Option Addr} {n c lo hi : Nat} {xs : List Value} (k : Int) (w : World) (h : Own w lo hi 9 1 (.slice A n c) n xs) (hm : n ≤ 1073741824) (h0 : 1 ≤ k) (h1 : k ≤ 1000000000) :
    Calls Try.prog 48 #[.slice A n c, .int .i64 k] w (Marked w lo hi 9 1 (.slice A n c) n ((marksS k.toNat n).map Value.string) (k + (n : Int))) := by
  obtain ⟨k, rfl⟩ := Int.eq_ofNat_of_zero_le (show 0 ≤ k by omega)
  exact markStringS1 k w h hm (by omega) (by omega)
theorem heldStringS {A : Option Addr} {n c : Nat} (k : Int) (w : World) (h : Reads w w.heap.size 1 A n ((marksS k.toNat n).map Value.string)) (hm : n ≤ 1073741824) (h0 : 1 ≤ k) (h1 : k ≤ 1000000000) :
    Calls Try.prog 49 #[.slice A n c, .int .i64 k] w fun e w' => e = .returned (.int .i64 (k + (n : Int))) ∧ Below w.heap.size w w' := by
  obtain ⟨k, rfl⟩ := Int.eq_ofNat_of_zero_le (show 0 ≤ k by omega)
  exact heldStringS1 k w h hm (by omega) (by omega)
end Go.Proofs.Ytpgifgdoikhpbaa
