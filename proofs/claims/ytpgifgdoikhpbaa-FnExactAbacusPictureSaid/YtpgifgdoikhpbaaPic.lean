/- The picture of an abacus. No condition. -/
import Derived.Test.YtpgifgdoikhpbaaSetI
import Derived.Test.YtpgifgdoikhpbaaStrs
import Derived.Lib.AppendStr
import Derived.Laws.IdiomStrings
namespace Go.Proofs.Ytpgifgdoikhpbaa
open Go.RowKit

/-- The character of a rod in row y. -/
def chP (u y : Int) (q : Int × Int) : Int := if y ≤ u then (if y = u - q.1 then 124 else 111) else if y = u + 1 then 61 else (if y - u - 2 = q.2 then 124 else 111)
/-- The first m characters of row y. -/
def lnP (u y : Int) (xs : List (Int × Int)) (m : Nat) : List Int := (List.range m).map fun j => chP u y (xs.getD (xs.length - 1 - j) (0, 0))
theorem lnP_length (u y : Int) (xs : List (Int × Int)) (m : Nat) : (lnP u y xs m).length = m := by simp [lnP]
theorem lnP_step {u y : Int} {xs : List (Int × Int)} {n k : Nat} {q : Int × Int} (hl : xs.length = n) (hk : k < n) (hq : xs[k]? = some q) : lnP u y xs (n - k) = lnP u y xs (n - (k + 1)) ++ [chP u y q] := by
  rw [show n - k = (n - (k + 1)) + 1 by omega, lnP, List.range_succ, List.map_append]
  rw [show ([n - (k + 1)].map fun j => chP u y (xs.getD (xs.length - 1 - j) (0, 0))) = [chP u y (xs.getD (xs.length - 1 - (n - (k + 1))) (0, 0))] from rfl, hl, show n - 1 - (n - (k + 1)) = k by omega, List.getD_eq_getElem?_getD, hq]
  rw [lnP, hl]
  rfl
theorem lnP_bar (u : Int) (xs : List (Int × Int)) (m : Nat) : lnP u (u + 1) xs m = List.replicate m 61 := by
  rw [lnP]
  apply List.ext_getElem?
  intro i
  by_cases h : i < m
  · simp [h, chP]
    omega
  · rw [List.getElem?_eq_none (by simp; omega), List.getElem?_eq_none (by simp; omega)]
def lineP (u : Int) (xs : List (Int × Int)) (y : Nat) : ByteArray := strOfNums (lnP u y xs xs.length)
def picT (u : Int) (xs : List (Int × Int)) (r : Nat) : List ByteArray := (List.range r).map (lineP u xs)
theorem picT_length (u : Int) (xs : List (Int × Int)) (r : Nat) : (picT u xs r).length = r := by simp [picT]
theorem picT_succ (u : Int) (xs : List (Int × Int)) (r : Nat) : (picT u xs (r + 1)).map Value.string = (picT u xs r).map Value.string ++ [.string (lineP u xs r)] := by simp [picT, List.range_succ]
def picN (u o t : Int) (xs : List (Int × Int)) : Nat := if okA u o t xs then (u + o + 3).toNat else 0
def picX (u o t : Int) (xs : List (Int × Int)) : List ByteArray := if okA u o t xs then picT u xs (u + o + 3).toNat else []
def picC (u o t : Int) (xs : List (Int × Int)) : Int := if okA u o t xs then 0 else 1
theorem picN_le (u o t : Int) (xs : List (Int × Int)) : picN u o t xs ≤ 1073741824 := by
  unfold picN
  split
  · rename_i h
    obtain ⟨hk, _⟩ := okA_parts h
    obtain ⟨h1, h2, _⟩ := kdB_parts hk
    omega
  · omega
def RetPic (u o t : Int) (xs : List (Int × Int)) (w : World) (x : Ending) (w' : World) : Prop := ∃ v, x = .returned (.tuple #[v, .int .i64 (picC u o t xs)]) ∧ Own w' w.heap.size w'.heap.size 9 1 v (picN u o t xs) ((picX u o t xs).map Value.string) ∧ Below w.heap.size w w'
theorem pic_no {u o t : Int} {xs : List (Int × Int)} {w w' : World} (h : okA u o t xs = false) (hb : Below w.heap.size w w') : RetPic u o t xs w (.returned (.tuple #[.slice none 0 0, .int .i64 1])) w' := by
  refine ⟨.slice none 0 0, ?_, ?_, hb⟩
  · simp [picC, h]
  · simp only [picN, picX, h]
    exact Own.nil _ _ _ _ _
theorem pic_yes {u o t : Int} {xs : List (Int × Int)} {w w' : World} {v : Value} {r : Nat} (h : okA u o t xs = true) (hr : (u + o + 3).toNat = r) (ho : Own w' w.heap.size w'.heap.size 9 1 v r ((picT u xs r).map Value.string)) (hb : Below w.heap.size w w') : RetPic u o t xs w (.returned (.tuple #[v, .int .i64 0])) w' := by
  refine ⟨v, ?_, ?_, hb⟩
  · simp [picC, h]
  · simp only [picN, picX, h, if_true, hr]
    exact ho
set_option maxHeartbeats 400000 in
theorem sSign (b : Bool) (w : World) : Calls Try.prog 74 #[.bool b] w fun e w' => e = .returned (.int .u8 (if b then 111 else 124)) ∧ w = w' := by
  cases b
  all_goals
    go_enter Try.func74, Try.ntmps74
    go_wp2
    go_ret
    exact ⟨rfl, rfl⟩


set_option maxRecDepth 100000 in
set_option maxHeartbeats 6400000 in
theorem sPic {u o t : Int} {A : Option Addr} {n c : Nat} {xs : List (Int × Int)} (w : World) (h : Reads w w.heap.size 2 A n (flat encPair xs)) (hl : xs.length = n) (hm : n ≤ maxLen) :
    Calls Try.prog 45 #[.agg #[.int .i64 u, .int .i64 o, .int .i64 t, .slice A n c]] w (RetPic u o t xs w) := by
  have HL := Lib.hid hl
  cases hk : okA u o t xs
  · have HE := Lib.hid hk
    clear hl
    go_enter Try.func45, Try.ntmps45
    go_wp2_with fail
    refine (sOkA _ ((h.alloc (Nat.le_refl _) _).more (by simp)) HL.out hm (by simp; rfl) (by simp; rfl) (by simp; rfl) (by simp; rfl)).mono ?_
    rintro e w' ⟨rfl, k, rfl⟩
    rw [hk]
    go_wp2
    go_ret2
    exact pic_no HE.out (by repeat' (first | assumption | exact Below.refl _ _ | refine Below.drew ?_ | refine belN ?_ _ | refine Below.alloc ?_ (by first | omega | (simp; done) | (simp; omega)) _ | refine Below.setCell ?_ (by first | omega | (simp; done) | (simp; omega)) _))
  have HK := Lib.hid hk
  obtain ⟨hkd, _, n0, n1⟩ := okA_parts hk
  obtain ⟨ku, ko, kt, _⟩ := kdB_parts hkd
  rw [hl] at n0 n1
  have W0 : IntKind.i64.wrap (u + o) = u + o := IntWalk.i64_in _ (by omega)
  obtain ⟨R, hR⟩ : ∃ R : Nat, (u + o + 3).toNat = R := ⟨_, rfl⟩
  have hRe : u + o + 3 = (R : Int) := by omega
  have W1 : IntKind.i64.wrap (u + o + 3) = (R : Int) := by rw [IntWalk.i64_in _ (by omega), hRe]
  have R1 : R ≤ 19 := by omega
  have HR := Lib.hid hR; have HRE := Lib.hid hRe
  clear hl hk hkd hR hRe
  go_enter Try.func45, Try.ntmps45
  go_wp2_with fail
  refine absW ?_
  intro w0 hw
  have hb0 : Below w.heap.size w w0 := by rw [hw]; exact (by repeat' (first | assumption | exact Below.refl _ _ | refine Below.drew ?_ | refine belN ?_ _ | refine Below.alloc ?_ (by first | omega | (simp; done) | (simp; omega)) _ | refine Below.setCell ?_ (by first | omega | (simp; done) | (simp; omega)) _))
  have c0 : w0.cell? ⟨w.heap.size, 0, none⟩ = some (.int .i64 u) := by rw [hw]; simp
  have c1 : w0.cell? ⟨w.heap.size, 1, none⟩ = some (.int .i64 o) := by rw [hw]; simp
  have c2 : w0.cell? ⟨w.heap.size, 2, none⟩ = some (.int .i64 t) := by rw [hw]; simp
  have c3 : w0.cell? ⟨w.heap.size, 3, none⟩ = some (.slice A n c) := by rw [hw]; simp
  clear hw
  have hr := rdB h hb0
  refine (sOkA _ hr HL.out hm c0 c1 c2 c3).mono ?_
  rintro e w1 ⟨rfl, nd, hw⟩
  have hb : Below w0.heap.size w0 w1 := by rw [hw]; exact belN (Below.refl _ _) _
  replace c0 := cellB c0 hb; replace c1 := cellB c1 hb; replace c2 := cellB c2 hb; replace c3 := cellB c3 hb
  replace hr := rdB hr hb; replace hb0 := bel2 hb0 hb
  clear hw hb h c2
  rw [HK.out]
  go_wp2
  go_loopw [5, 6] (fun p y wr => ∃ (r : Nat) (A' : Option Addr) (c' : Nat), r ≤ R ∧ y = .int .i64 r ∧ p = .slice A' r c' ∧ Own wr w1.heap.size wr.heap.size 9 1 (.slice A' r c') r ((picT u xs r).map Value.string) ∧ w1.heap.size ≤ wr.heap.size ∧ Below w1.heap.size w1 wr) (fun _ y _ => R - (intOf y).toNat)
  case atStart => exact ⟨0, some ⟨w1.heap.size, 0, none⟩, 0, Nat.zero_le _, rfl, rfl, ((Blk.new w1 9 #[]).own (n := 0) (Nat.zero_le _) rfl).more (Nat.le_refl _) (by simp), by simp, (by repeat' (first | assumption | exact Below.refl _ _ | refine Below.drew ?_ | refine belN ?_ _ | refine Below.alloc ?_ (by first | omega | (simp; done) | (simp; omega)) _ | refine Below.setCell ?_ (by first | omega | (simp; done) | (simp; omega)) _))⟩
  case round =>
    obtain ⟨r, A', c', hrR, rfl, rfl, ho, hz, hB⟩ := hrel
    have e0 := cellB c0 hB; have e3 := cellB c3 hB
    by_cases hlt : r < R
    rotate_left
    · obtain rfl : r = R := by omega
      go_wp2
      go_ret2
      exact pic_yes HK.out HR.out (ho.more hb0.size (Nat.le_refl _)) (bel2 hb0 hB)
    have hi0 : (r : Int) < (R : Int) := by omega
    have x0 := fun X : Obj => cellA e0 X; have x3 := fun X : Obj => cellA e3 X
    go_wp2
    clear x0 x3
    go_loopw [7, 8] (fun l i wi => ∃ (k m : Nat) (A2 : Option Addr) (c2 : Nat), k ≤ n ∧ Hid (m = n - k) ∧ i = .int .i64 ((k : Int) - 1) ∧ l = .slice A2 m c2 ∧ Own wi wr.heap.size wi.heap.size 5 1 (.slice A2 m c2) m ((lnP u r xs m).map (Value.int .u8)) ∧ Own wi w1.heap.size wr.heap.size 9 1 (.slice A' r c') r ((picT u xs r).map Value.string) ∧ wr.heap.size ≤ wi.heap.size ∧ Below wr.heap.size wr wi) (fun _ i _ => (intOf i + 1).toNat)
    case atStart => exact ⟨n, 0, some ⟨wr.heap.size, 0, none⟩, 0, Nat.le_refl _, by unfold Hid; omega, rfl, rfl, ((Blk.new wr 5 #[]).own (n := 0) (Nat.zero_le _) rfl).more (Nat.le_refl _) (by simp), ho.alloc _, by simp, (by repeat' (first | assumption | exact Below.refl _ _ | refine Below.drew ?_ | refine belN ?_ _ | refine Below.alloc ?_ (by first | omega | (simp; done) | (simp; omega)) _ | refine Below.setCell ?_ (by first | omega | (simp; done) | (simp; omega)) _))⟩
    case round =>
      obtain ⟨k, m, A2, c2, hk, HM, hi, rfl, hol, hoo, hz2, hB2⟩ := hrel
      have f0 := cellB e0 hB2; have f3 := cellB e3 hB2
      rcases k with _ | j
      · subst hi
        obtain rfl : m = n := by have := HM.out; omega
        have HLP : Hid (strOfNums (lnP u r xs m) = lineP u xs r) := by unfold Hid lineP; rw [HL.out]
        have hcv := conv_own hol
        rw [HLP.out] at hcv
        have hooL := Lib.hid (hoo.alloc (.cells #[.string (lineP u xs r)] 9))
        have HS := Lib.hid (picT_succ u xs r)
        go_wp2_with (first | (at_builtin; refine wpList_app1 rfl (.tmp 75) (.tmp 78) rfl eltS rfl hooL.out rfl (Blk.new_at (by simp)) rfl (one_str _) (by omega) (by first | omega | (simp; omega)) ?_; intro A3 c3' w4 ho4 ht4))
        have hz4 := ht4.size
        go_roundw
        case rel => exact ⟨r + 1, A3, c3', by omega, by go_num, by go_num, by rw [HS.out]; simpa using ho4, by simp at hz4; omega, Touch.below ((bel2 hB hB2).alloc (by first | omega | (simp; omega)) _) ht4 (by first | omega | (simp; omega)) (Nat.le_refl _)⟩
        case measure => simp [intOf]; omega
      · rw [show (((j + 1 : Nat) : Int) - 1) = (j : Int) by omega] at hi
        subst hi
        have hj : j < n := by omega
        obtain ⟨b1, o1, q, hA, hbb, hq, hc⟩ := ((rdB (rdB hr hB) hB2)).row_at encPair_length (by decide) HL.out hj
        subst hA
        have hrod := okA_rod HK.out hq
        obtain ⟨⟨q0, q1, q2⟩, ⟨q3, q4, q5⟩, _⟩ := hrod
        have r0 := hc 0 _ rfl; have r1 := hc 1 _ rfl
        simp only [Nat.add_zero] at r0
        clear hc
        have HST : Hid (lnP u r xs (m + 1) = lnP u r xs m ++ [chP u r q]) := by have := lnP_step (u := u) (y := r) HL.out hj hq; rw [show n - j = m + 1 by have := HM.out; omega, show n - (j + 1) = m by have := HM.out; omega] at this; exact this
        have hm20 : m ≤ 10 := by have := HM.out; omega
        clear hq
        have ki0 : (0 : Int) ≤ (j : Int) := Int.natCast_nonneg _
        have ki1 : (j : Int) < (n : Int) := by omega
        have y0 := fun X : Obj => cellA f0 X; have y3 := fun X : Obj => cellA f3 X; have s0 := fun X : Obj => cellA r0 X; have s1 := fun X : Obj => cellA r1 X
        have V0 : IntKind.i64.wrap (u - q.1) = u - q.1 := IntWalk.i64_in _ (by omega)
        have V1 : IntKind.i64.wrap (u + 1) = u + 1 := IntWalk.i64_in _ (by omega)
        have V2 : IntKind.i64.wrap ((r : Int) - u) = (r : Int) - u := IntWalk.i64_in _ (by omega)
        have V3 : IntKind.i64.wrap ((r : Int) - u - 2) = (r : Int) - u - 2 := IntWalk.i64_in _ (by omega)
        have hol2 := Lib.hid (hol.alloc (.cells #[.int .i64 q.1, .int .i64 q.2] 69))
        by_cases hy : (r : Int) ≤ u
        · have d1 : decide ((r : Int) ≤ u) = true := by simpa using hy
          by_cases hq : (r : Int) = u - q.1
          · have d2 : ((r : Int) != u - q.1) = false := by rw [hq]; simp
            have HC : Hid (chP u r q = 124) := by unfold Hid chP; rw [if_pos hy, if_pos hq]
            clear hq
            go_wp2_with (first | (go_at_call 74; refine (sSign _ _).mono ?_; rintro e w' ⟨rfl, rfl⟩) | (at_builtin; refine wpList_app1 rfl (.tmp 55) (.tmp 64) rfl eltU rfl (hol2.out.alloc _) rfl (Blk.new_at (by simp)) rfl (one_u8 _) (by omega) (by first | omega | (simp; omega)) ?_; intro A3 c3' w4 ho4 ht4))
            have hz4 := ht4.size
            go_roundw
            case rel => exact ⟨j, m + 1, A3, c3', by omega, by have := HM.out; unfold Hid; omega, by go_num, by go_num, by rw [HST.out, HC.out]; simpa using ho4, ((hoo.alloc _).alloc _).touch ht4 (.inl (Nat.le_refl _)), by simp at hz4; omega, Touch.below ((hB2.alloc (by omega) _).alloc (by first | omega | (simp; omega)) _) ht4 (by first | omega | (simp; omega)) (Nat.le_refl _)⟩
            case measure => simp [intOf]
          · have d2 : ((r : Int) != u - q.1) = true := by simpa using hq
            have HC : Hid (chP u r q = 111) := by unfold Hid chP; rw [if_pos hy, if_neg hq]
            clear hq
            go_wp2_with (first | (go_at_call 74; refine (sSign _ _).mono ?_; rintro e w' ⟨rfl, rfl⟩) | (at_builtin; refine wpList_app1 rfl (.tmp 55) (.tmp 64) rfl eltU rfl (hol2.out.alloc _) rfl (Blk.new_at (by simp)) rfl (one_u8 _) (by omega) (by first | omega | (simp; omega)) ?_; intro A3 c3' w4 ho4 ht4))
            have hz4 := ht4.size
            go_roundw
            case rel => exact ⟨j, m + 1, A3, c3', by omega, by have := HM.out; unfold Hid; omega, by go_num, by go_num, by rw [HST.out, HC.out]; simpa using ho4, ((hoo.alloc _).alloc _).touch ht4 (.inl (Nat.le_refl _)), by simp at hz4; omega, Touch.below ((hB2.alloc (by omega) _).alloc (by first | omega | (simp; omega)) _) ht4 (by first | omega | (simp; omega)) (Nat.le_refl _)⟩
            case measure => simp [intOf]
        · have d1 : decide ((r : Int) ≤ u) = false := by simpa using hy
          by_cases hy1 : (r : Int) = u + 1
          · have d2 : ((r : Int) == u + 1) = true := by simpa using hy1
            have HC : Hid (chP u r q = 61) := by unfold Hid chP; rw [if_neg hy, if_pos hy1]
            clear hy1
            go_wp2_with (first | (go_at_call 74; refine (sSign _ _).mono ?_; rintro e w' ⟨rfl, rfl⟩) | (at_builtin; refine wpList_app1 rfl (.tmp 72) (.tmp 73) rfl eltU rfl (hol2.out.alloc _) rfl (Blk.new_at (by simp)) rfl (one_u8 _) (by omega) (by first | omega | (simp; omega)) ?_; intro A3 c3' w4 ho4 ht4))
            have hz4 := ht4.size
            go_roundw
            case rel => exact ⟨j, m + 1, A3, c3', by omega, by have := HM.out; unfold Hid; omega, by go_num, by go_num, by rw [HST.out, HC.out]; simpa using ho4, ((hoo.alloc _).alloc _).touch ht4 (.inl (Nat.le_refl _)), by simp at hz4; omega, Touch.below ((hB2.alloc (by omega) _).alloc (by first | omega | (simp; omega)) _) ht4 (by first | omega | (simp; omega)) (Nat.le_refl _)⟩
            case measure => simp [intOf]
          · have d2 : ((r : Int) == u + 1) = false := by simpa using hy1
            by_cases hq : (r : Int) - u - 2 = q.2
            · have d3 : ((r : Int) - u - 2 != q.2) = false := by simpa using hq
              have HC : Hid (chP u r q = 124) := by unfold Hid chP; rw [if_neg hy, if_neg hy1, if_pos hq]
              clear hq
              go_wp2_with (first | (go_at_call 74; refine (sSign _ _).mono ?_; rintro e w' ⟨rfl, rfl⟩) | (at_builtin; refine wpList_app1 rfl (.tmp 38) (.tmp 48) rfl eltU rfl (hol2.out.alloc _) rfl (Blk.new_at (by simp)) rfl (one_u8 _) (by omega) (by first | omega | (simp; omega)) ?_; intro A3 c3' w4 ho4 ht4))
              have hz4 := ht4.size
              go_roundw
              case rel => exact ⟨j, m + 1, A3, c3', by omega, by have := HM.out; unfold Hid; omega, by go_num, by go_num, by rw [HST.out, HC.out]; simpa using ho4, ((hoo.alloc _).alloc _).touch ht4 (.inl (Nat.le_refl _)), by simp at hz4; omega, Touch.below ((hB2.alloc (by omega) _).alloc (by first | omega | (simp; omega)) _) ht4 (by first | omega | (simp; omega)) (Nat.le_refl _)⟩
              case measure => simp [intOf]
            · have d3 : ((r : Int) - u - 2 != q.2) = true := by simpa using hq
              have HC : Hid (chP u r q = 111) := by unfold Hid chP; rw [if_neg hy, if_neg hy1, if_neg hq]
              clear hq
              go_wp2_with (first | (go_at_call 74; refine (sSign _ _).mono ?_; rintro e w' ⟨rfl, rfl⟩) | (at_builtin; refine wpList_app1 rfl (.tmp 38) (.tmp 48) rfl eltU rfl (hol2.out.alloc _) rfl (Blk.new_at (by simp)) rfl (one_u8 _) (by omega) (by first | omega | (simp; omega)) ?_; intro A3 c3' w4 ho4 ht4))
              have hz4 := ht4.size
              go_roundw
              case rel => exact ⟨j, m + 1, A3, c3', by omega, by have := HM.out; unfold Hid; omega, by go_num, by go_num, by rw [HST.out, HC.out]; simpa using ho4, ((hoo.alloc _).alloc _).touch ht4 (.inl (Nat.le_refl _)), by simp at hz4; omega, Touch.below ((hB2.alloc (by omega) _).alloc (by first | omega | (simp; omega)) _) ht4 (by first | omega | (simp; omega)) (Nat.le_refl _)⟩
              case measure => simp [intOf]
set_option maxRecDepth 100000 in
set_option maxHeartbeats 1600000 in
theorem iRepeat (N : Nat) (w : World) (hN : N ≤ 60) : Calls Try.prog 77 #[.string ⟨#[61]⟩, .int .i64 (N : Int)] w fun e w' => e = .returned (.string (strOfNums (List.replicate N 61))) ∧ Below w.heap.size w w' := by
  obtain ⟨i0, hi, hz0, hz1, hz2⟩ := info_parts infoU
  have HI := Lib.hid hi; have HZ0 := Lib.hid hz0; have HZ1 := Lib.hid hz1; have HZ2 := Lib.hid hz2; clear hi hz0 hz1 hz2
  have n0 : (0 : Int) ≤ (N : Int) := Int.natCast_nonneg _
  go_enter Try.func77, Try.ntmps77
  go_wp2
  go_loopw [5, 9] (fun o i wr => ∃ (k : Nat) (A' : Option Addr) (c' : Nat), k ≤ N ∧ i = .int .i64 k ∧ o = .slice A' k c' ∧ Own wr w.heap.size wr.heap.size 5 1 (.slice A' k c') k ((List.replicate k (61 : Int)).map (Value.int .u8)) ∧ w.heap.size ≤ wr.heap.size ∧ Below w.heap.size w wr) (fun _ i _ => N - (intOf i).toNat)
  case atStart => exact ⟨0, some ⟨w.heap.size, 0, none⟩, 0, Nat.zero_le _, rfl, rfl, ((Blk.new w 5 #[]).own (n := 0) (Nat.zero_le _) rfl).more (Nat.le_refl _) (by simp), by simp, (by repeat' (first | assumption | exact Below.refl _ _ | refine Below.drew ?_ | refine belN ?_ _ | refine Below.alloc ?_ (by first | omega | (simp; done) | (simp; omega)) _ | refine Below.setCell ?_ (by first | omega | (simp; done) | (simp; omega)) _))⟩
  case round =>
    obtain ⟨k, A', c', hk, rfl, rfl, ho, hs, hB⟩ := hrel
    by_cases hlt : k < N
    · have ki : (k : Int) < (N : Int) := by omega
      go_wp2_with (first | (at_builtin; refine Lib.wpList_append_own_string _ rfl (.tmp 11) (.tmp 12) 92 9 rfl w.heap.size 5 i0 Try.underlying92 Try.underlying9 HI.out HZ0.out HZ1.out HZ2.out _ k _ rfl ho.row ⟨#[61]⟩ rfl (by show k + 1 ≤ maxLen; unfold maxLen; omega) (by show k + 1 ≤ _; omega) hs ?_; intro v2 w2 h2 hg _))
      have ht := Touch.of_grown (lo := w.heap.size) (hi := wr.heap.size) hg (fun k hk => ⟨(ho.row.lt k hk).1, ho.top k hk⟩)
      have ho2 := Own.of_row h2
      obtain ⟨A2, c2, rfl, _, _⟩ := ho2.form
      have hz2 := ht.size
      have HO : Hid (Own w2 w.heap.size w2.heap.size 5 1 (.slice A2 (k + 1) c2) (k + 1) ((List.replicate (k + 1) (61 : Int)).map (Value.int .u8))) := by
        unfold Hid
        rw [List.replicate_succ', List.map_append]
        exact ho2
      clear ho2 h2
      go_roundw
      case rel => exact ⟨k + 1, A2, c2, by omega, by go_num, rfl, HO.out, by omega, Touch.below hB ht (by omega) (Nat.le_refl _)⟩
      case measure => simp [intOf] <;> omega
    · obtain rfl : k = N := by omega
      have hcv := conv_own ho
      go_wp2
      go_ret
      exact ⟨rfl, hB⟩

theorem rep_eq (n : Nat) : strOfNums (List.replicate n 61) = strOfNums (List.replicate n 61) := rfl
set_option maxHeartbeats 800000 in
theorem iFree1 {y u p q : Int} {gi ga : Nat} (w : World) (hi : w.cell? ⟨gi, 0, none⟩ = some (.int .i64 y)) (ha : w.cell? ⟨ga, 0, none⟩ = some (.int .i64 u)) (hw : IntKind.i64.wrap (u - p) = u - p) :
    Calls Try.prog 76 #[.agg #[.int .i64 p, .int .i64 q], .pointer (some ⟨gi, 0, none⟩), .pointer (some ⟨ga, 0, none⟩)] w fun e w' => e = .returned (.bool (y == u - p)) ∧ Below w.heap.size w w' := by
  have x0 := fun X : Obj => cellA hi X; have x1 := fun X : Obj => cellA ha X
  go_enter Try.func76, Try.ntmps76
  go_wp2
  go_ret
  exact ⟨rfl, (by repeat' (first | assumption | exact Below.refl _ _ | refine Below.drew ?_ | refine belN ?_ _ | refine Below.alloc ?_ (by first | omega | (simp; done) | (simp; omega)) _ | refine Below.setCell ?_ (by first | omega | (simp; done) | (simp; omega)) _))⟩
set_option maxHeartbeats 800000 in
theorem iFree2 {y p q : Int} {gi : Nat} (w : World) (hi : w.cell? ⟨gi, 0, none⟩ = some (.int .i64 y)) :
    Calls Try.prog 78 #[.agg #[.int .i64 p, .int .i64 q], .pointer (some ⟨gi, 0, none⟩)] w fun e w' => e = .returned (.bool (y == q)) ∧ Below w.heap.size w w' := by
  have x0 := fun X : Obj => cellA hi X
  go_enter Try.func78, Try.ntmps78
  go_wp2
  go_ret
  exact ⟨rfl, (by repeat' (first | assumption | exact Below.refl _ _ | refine Below.drew ?_ | refine belN ?_ _ | refine Below.alloc ?_ (by first | omega | (simp; done) | (simp; omega)) _ | refine Below.setCell ?_ (by first | omega | (simp; done) | (simp; omega)) _))⟩

set_option maxRecDepth 100000 in
set_option maxHeartbeats 3200000 in
theorem iLine1 {u o t : Int} {A : Option Addr} {n c : Nat} {xs : List (Int × Int)} (w : World) (h : Reads w w.heap.size 2 A n (flat encPair xs)) (hl : xs.length = n) (hok : okA u o t xs = true) {r : Nat} (hr : (r : Int) ≤ u) {gi ga : Nat} (hgi : w.cell? ⟨gi, 0, none⟩ = some (.int .i64 r)) (hga : w.cell? ⟨ga, 0, none⟩ = some (.int .i64 u)) :
    Calls Try.prog 75 #[.agg #[.int .i64 u, .int .i64 o, .int .i64 t, .slice A n c], .func (.func 76) #[] #[.pointer (some ⟨gi, 0, none⟩), .pointer (some ⟨ga, 0, none⟩)]] w fun e w' => e = .returned (.string (lineP u xs r)) ∧ Below w.heap.size w w' := by
  have HL := Lib.hid hl; have HK := Lib.hid hok
  obtain ⟨hkd, _, n0, n1⟩ := okA_parts hok
  obtain ⟨ku, ko, kt, _⟩ := kdB_parts hkd
  rw [hl] at n0 n1
  clear hl hok hkd
  have HRR := Lib.hid hr; clear hr
  have HF := Lib.hid (fun (W : World) (p q : Int) (hW : Below w.heap.size w W) (hw : IntKind.i64.wrap (u - p) = u - p) => iFree1 (p := p) (q := q) W (cellB hgi hW) (cellB hga hW) hw)
  go_enter Try.func75, Try.ntmps75
  go_wp2
  go_loopw [5, 6] (fun l i wi => ∃ (k m : Nat) (A2 : Option Addr) (c2 : Nat), k ≤ n ∧ Hid (m = n - k) ∧ i = .int .i64 ((k : Int) - 1) ∧ l = .slice A2 m c2 ∧ Own wi (w.heap.size + 1) wi.heap.size 5 1 (.slice A2 m c2) m ((lnP u r xs m).map (Value.int .u8)) ∧ wi.cell? ⟨w.heap.size, 3, none⟩ = some (.slice A n c) ∧ w.heap.size + 1 ≤ wi.heap.size ∧ Below w.heap.size w wi) (fun _ i _ => (intOf i + 1).toNat)
  case atStart => exact ⟨n, 0, some ⟨w.heap.size + 1, 0, none⟩, 0, Nat.le_refl _, by unfold Hid; omega, rfl, rfl, ((Blk.new_at (g := w.heap.size + 1) (t := 5) (cs := #[]) (by simp)).own (n := 0) (Nat.zero_le _) rfl).more (Nat.le_refl _) (by simp), by simp, by simp, (by repeat' (first | assumption | exact Below.refl _ _ | refine Below.drew ?_ | refine belN ?_ _ | refine Below.alloc ?_ (by first | omega | (simp; done) | (simp; omega)) _ | refine Below.setCell ?_ (by first | omega | (simp; done) | (simp; omega)) _))⟩
  case round =>
    obtain ⟨k, m, A2, c2, hk, HM, hi, rfl, hol, e3, hz2, hB2⟩ := hrel
    rcases k with _ | j
    · subst hi
      obtain rfl : m = n := by have := HM.out; omega
      have HLP : Hid (strOfNums (lnP u r xs m) = lineP u xs r) := by unfold Hid lineP; rw [HL.out]
      have hcv := conv_own hol
      rw [HLP.out] at hcv
      go_wp2
      go_ret
      exact ⟨rfl, hB2⟩
    · rw [show (((j + 1 : Nat) : Int) - 1) = (j : Int) by omega] at hi
      subst hi
      have hj : j < n := by omega
      obtain ⟨b1, o1, q, hA, hbb, hq, hc⟩ := (rdB h hB2).row_at encPair_length (by decide) HL.out hj
      subst hA
      have hrod := okA_rod HK.out hq
      obtain ⟨⟨q0, q1, q2⟩, ⟨q3, q4, q5⟩, _⟩ := hrod
      have r0 := hc 0 _ rfl; have r1 := hc 1 _ rfl
      simp only [Nat.add_zero] at r0
      clear hc
      have HST : Hid (lnP u r xs (m + 1) = lnP u r xs m ++ [chP u r q]) := by have := lnP_step (u := u) (y := r) HL.out hj hq; rw [show n - j = m + 1 by have := HM.out; omega, show n - (j + 1) = m by have := HM.out; omega] at this; exact this
      have hm20 : m ≤ 10 := by have := HM.out; omega
      clear hq
      have ki0 : (0 : Int) ≤ (j : Int) := Int.natCast_nonneg _
      have ki1 : (j : Int) < (n : Int) := by omega
      have V0 : IntKind.i64.wrap (u - q.1) = u - q.1 := IntWalk.i64_in _ (by omega)
      by_cases hq : (r : Int) = u - q.1
      · have d2 : ((r : Int) == u - q.1) = true := by rw [beq_iff_eq]; exact hq
        have HC : Hid (chP u r q = 124) := by unfold Hid chP; have hr := HRR.out; rw [if_pos hr, if_pos hq]
        clear hq
        go_wp2_with fail
        refine (HF.out _ _ _ ((by repeat' (first | assumption | exact Below.refl _ _ | refine Below.drew ?_ | refine belN ?_ _ | refine Below.alloc ?_ (by first | omega | (simp; done) | (simp; omega)) _ | refine Below.setCell ?_ (by first | omega | (simp; done) | (simp; omega)) _))) V0).mono ?_
        rintro e w5 ⟨rfl, hb5⟩
        rw [d2]
        have hol5 := hol.bel hb5; have e35 := cellB e3 hb5; have hB5 := bel2 hB2 hb5; have hz5 := hb5.size
        go_wp2_with (first | (at_builtin; refine wpList_app1 rfl (.tmp 23) (.tmp 24) rfl eltU rfl (hol5.alloc _) rfl (Blk.new_at (by simp)) rfl (one_u8 _) (by omega) (by first | omega | (simp; omega)) ?_; intro A3 c3' w4 ho4 ht4))
        have hz4 := ht4.size
        go_roundw
        case rel => exact ⟨j, m + 1, A3, c3', by omega, by have := HM.out; unfold Hid; omega, by go_num, by go_num, by rw [HST.out, HC.out]; simpa using ho4, cellT (cellA e35 _) ht4 (.inl (by omega)), by simp at hz4; omega, Touch.below (hB5.alloc (by omega) _) ht4 (by first | omega | (simp; omega)) (by omega)⟩
        case measure => simp [intOf]
      · have d2 : ((r : Int) == u - q.1) = false := by rw [beq_eq_false_iff_ne]; exact hq
        have HC : Hid (chP u r q = 111) := by unfold Hid chP; have hr := HRR.out; rw [if_pos hr, if_neg hq]
        clear hq
        go_wp2_with fail
        refine (HF.out _ _ _ ((by repeat' (first | assumption | exact Below.refl _ _ | refine Below.drew ?_ | refine belN ?_ _ | refine Below.alloc ?_ (by first | omega | (simp; done) | (simp; omega)) _ | refine Below.setCell ?_ (by first | omega | (simp; done) | (simp; omega)) _))) V0).mono ?_
        rintro e w5 ⟨rfl, hb5⟩
        rw [d2]
        have hol5 := hol.bel hb5; have e35 := cellB e3 hb5; have hB5 := bel2 hB2 hb5; have hz5 := hb5.size
        go_wp2_with (first | (at_builtin; refine wpList_app1 rfl (.tmp 26) (.tmp 27) rfl eltU rfl (hol5.alloc _) rfl (Blk.new_at (by simp)) rfl (one_u8 _) (by omega) (by first | omega | (simp; omega)) ?_; intro A3 c3' w4 ho4 ht4))
        have hz4 := ht4.size
        go_roundw
        case rel => exact ⟨j, m + 1, A3, c3', by omega, by have := HM.out; unfold Hid; omega, by go_num, by go_num, by rw [HST.out, HC.out]; simpa using ho4, cellT (cellA e35 _) ht4 (.inl (by omega)), by simp at hz4; omega, Touch.below (hB5.alloc (by omega) _) ht4 (by first | omega | (simp; omega)) (by omega)⟩
        case measure => simp [intOf]
set_option maxRecDepth 100000 in
set_option maxHeartbeats 3200000 in
theorem iLine2 {u o t : Int} {A : Option Addr} {n c : Nat} {xs : List (Int × Int)} (w : World) (h : Reads w w.heap.size 2 A n (flat encPair xs)) (hl : xs.length = n) (hok : okA u o t xs = true) {r : Nat} {i : Int} (hr : (r : Int) = u + 2 + i) (hi0 : 0 ≤ i) {gi : Nat} (hgi : w.cell? ⟨gi, 0, none⟩ = some (.int .i64 i)) :
    Calls Try.prog 75 #[.agg #[.int .i64 u, .int .i64 o, .int .i64 t, .slice A n c], .func (.func 78) #[] #[.pointer (some ⟨gi, 0, none⟩)]] w fun e w' => e = .returned (.string (lineP u xs r)) ∧ Below w.heap.size w w' := by
  have HL := Lib.hid hl; have HK := Lib.hid hok
  obtain ⟨hkd, _, n0, n1⟩ := okA_parts hok
  obtain ⟨ku, ko, kt, _⟩ := kdB_parts hkd
  rw [hl] at n0 n1
  clear hl hok hkd
  have HRR := Lib.hid hr; clear hr
  have HF := Lib.hid (fun (W : World) (p q : Int) (hW : Below w.heap.size w W) => iFree2 (p := p) (q := q) W (cellB hgi hW))
  go_enter Try.func75, Try.ntmps75
  go_wp2
  go_loopw [5, 6] (fun l i wi => ∃ (k m : Nat) (A2 : Option Addr) (c2 : Nat), k ≤ n ∧ Hid (m = n - k) ∧ i = .int .i64 ((k : Int) - 1) ∧ l = .slice A2 m c2 ∧ Own wi (w.heap.size + 1) wi.heap.size 5 1 (.slice A2 m c2) m ((lnP u r xs m).map (Value.int .u8)) ∧ wi.cell? ⟨w.heap.size, 3, none⟩ = some (.slice A n c) ∧ w.heap.size + 1 ≤ wi.heap.size ∧ Below w.heap.size w wi) (fun _ i _ => (intOf i + 1).toNat)
  case atStart => exact ⟨n, 0, some ⟨w.heap.size + 1, 0, none⟩, 0, Nat.le_refl _, by unfold Hid; omega, rfl, rfl, ((Blk.new_at (g := w.heap.size + 1) (t := 5) (cs := #[]) (by simp)).own (n := 0) (Nat.zero_le _) rfl).more (Nat.le_refl _) (by simp), by simp, by simp, (by repeat' (first | assumption | exact Below.refl _ _ | refine Below.drew ?_ | refine belN ?_ _ | refine Below.alloc ?_ (by first | omega | (simp; done) | (simp; omega)) _ | refine Below.setCell ?_ (by first | omega | (simp; done) | (simp; omega)) _))⟩
  case round =>
    obtain ⟨k, m, A2, c2, hk, HM, hi, rfl, hol, e3, hz2, hB2⟩ := hrel
    rcases k with _ | j
    · subst hi
      obtain rfl : m = n := by have := HM.out; omega
      have HLP : Hid (strOfNums (lnP u r xs m) = lineP u xs r) := by unfold Hid lineP; rw [HL.out]
      have hcv := conv_own hol
      rw [HLP.out] at hcv
      go_wp2
      go_ret
      exact ⟨rfl, hB2⟩
    · rw [show (((j + 1 : Nat) : Int) - 1) = (j : Int) by omega] at hi
      subst hi
      have hj : j < n := by omega
      obtain ⟨b1, o1, q, hA, hbb, hq, hc⟩ := (rdB h hB2).row_at encPair_length (by decide) HL.out hj
      subst hA
      have hrod := okA_rod HK.out hq
      obtain ⟨⟨q0, q1, q2⟩, ⟨q3, q4, q5⟩, _⟩ := hrod
      have r0 := hc 0 _ rfl; have r1 := hc 1 _ rfl
      simp only [Nat.add_zero] at r0
      clear hc
      have HST : Hid (lnP u r xs (m + 1) = lnP u r xs m ++ [chP u r q]) := by have := lnP_step (u := u) (y := r) HL.out hj hq; rw [show n - j = m + 1 by have := HM.out; omega, show n - (j + 1) = m by have := HM.out; omega] at this; exact this
      have hm20 : m ≤ 10 := by have := HM.out; omega
      clear hq
      have ki0 : (0 : Int) ≤ (j : Int) := Int.natCast_nonneg _
      have ki1 : (j : Int) < (n : Int) := by omega
      by_cases hq : i = q.2
      · have d2 : (i == q.2) = true := by rw [beq_iff_eq]; exact hq
        have HC : Hid (chP u r q = 124) := by unfold Hid chP; have hr := HRR.out; rw [if_neg (by omega), if_neg (by omega), if_pos (by omega)]
        clear hq
        go_wp2_with fail
        refine (HF.out _ _ _ ((by repeat' (first | assumption | exact Below.refl _ _ | refine Below.drew ?_ | refine belN ?_ _ | refine Below.alloc ?_ (by first | omega | (simp; done) | (simp; omega)) _ | refine Below.setCell ?_ (by first | omega | (simp; done) | (simp; omega)) _)))).mono ?_
        rintro e w5 ⟨rfl, hb5⟩
        rw [d2]
        have hol5 := hol.bel hb5; have e35 := cellB e3 hb5; have hB5 := bel2 hB2 hb5; have hz5 := hb5.size
        go_wp2_with (first | (at_builtin; refine wpList_app1 rfl (.tmp 23) (.tmp 24) rfl eltU rfl (hol5.alloc _) rfl (Blk.new_at (by simp)) rfl (one_u8 _) (by omega) (by first | omega | (simp; omega)) ?_; intro A3 c3' w4 ho4 ht4))
        have hz4 := ht4.size
        go_roundw
        case rel => exact ⟨j, m + 1, A3, c3', by omega, by have := HM.out; unfold Hid; omega, by go_num, by go_num, by rw [HST.out, HC.out]; simpa using ho4, cellT (cellA e35 _) ht4 (.inl (by omega)), by simp at hz4; omega, Touch.below (hB5.alloc (by omega) _) ht4 (by first | omega | (simp; omega)) (by omega)⟩
        case measure => simp [intOf]
      · have d2 : (i == q.2) = false := by rw [beq_eq_false_iff_ne]; exact hq
        have HC : Hid (chP u r q = 111) := by unfold Hid chP; have hr := HRR.out; rw [if_neg (by omega), if_neg (by omega), if_neg (by omega)]
        clear hq
        go_wp2_with fail
        refine (HF.out _ _ _ ((by repeat' (first | assumption | exact Below.refl _ _ | refine Below.drew ?_ | refine belN ?_ _ | refine Below.alloc ?_ (by first | omega | (simp; done) | (simp; omega)) _ | refine Below.setCell ?_ (by first | omega | (simp; done) | (simp; omega)) _)))).mono ?_
        rintro e w5 ⟨rfl, hb5⟩
        rw [d2]
        have hol5 := hol.bel hb5; have e35 := cellB e3 hb5; have hB5 := bel2 hB2 hb5; have hz5 := hb5.size
        go_wp2_with (first | (at_builtin; refine wpList_app1 rfl (.tmp 26) (.tmp 27) rfl eltU rfl (hol5.alloc _) rfl (Blk.new_at (by simp)) rfl (one_u8 _) (by omega) (by first | omega | (simp; omega)) ?_; intro A3 c3' w4 ho4 ht4))
        have hz4 := ht4.size
        go_roundw
        case rel => exact ⟨j, m + 1, A3, c3', by omega, by have := HM.out; unfold Hid; omega, by go_num, by go_num, by rw [HST.out, HC.out]; simpa using ho4, cellT (cellA e35 _) ht4 (.inl (by omega)), by simp at hz4; omega, Touch.below (hB5.alloc (by omega) _) ht4 (by first | omega | (simp; omega)) (by omega)⟩
        case measure => simp [intOf]
end Go.Proofs.Ytpgifgdoikhpbaa
