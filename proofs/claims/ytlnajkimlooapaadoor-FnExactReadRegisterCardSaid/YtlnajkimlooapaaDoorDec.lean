/- Numbers in decimal: the reference's text of a number. No condition. -/
import Derived.Test.YtlnajkimlooapaaDoorBytes
import Derived.Deep.Upon
import Derived.Laws.Concat
import Derived.Lib.ItoaNum
namespace Go.Proofs.YtlnajkimlooapaaDoor
open Go.RowKit

/-- The digits of u as numbers of bytes; none for 0. -/
def dgs (u : Nat) : List Int := if h : u = 0 then [] else dgs (u / 10) ++ [48 + ((u % 10 : Nat) : Int)]
termination_by u
decreasing_by omega
theorem dgs_zero : dgs 0 = [] := by rw [dgs, dif_pos rfl]
theorem dgs_pos {u : Nat} (h : u ≠ 0) : dgs u = dgs (u / 10) ++ [48 + ((u % 10 : Nat) : Int)] := by rw [dgs, dif_neg h]
theorem dgs_dec (u : Nat) : u ≠ 0 → (dgs u).map (fun n : Int => UInt8.ofNat n.toNat) = Lib.decDigits u := by
  induction u using Nat.strongRecOn with
  | _ u ih =>
    intro h
    rw [dgs_pos h, List.map_append, Lib.decDigits]
    have e : ∀ k : Nat, (48 + (k : Int)).toNat = 48 + k := by intro k; omega
    by_cases h1 : u < 10
    · rw [dif_pos h1, show u / 10 = 0 by omega, dgs_zero]
      simp only [List.map_nil, List.nil_append, List.map_cons, e]
      rw [Nat.mod_eq_of_lt h1]
    · rw [dif_neg h1, ih _ (by omega) (by omega)]
      simp only [List.map_nil, List.map_cons, e]
theorem dgs_len : ∀ (k u : Nat), u < 10 ^ k → (dgs u).length ≤ k
  | 0, u, h => by
    obtain rfl : u = 0 := by simpa using h
    rw [dgs_zero]; exact Nat.le_refl _
  | k + 1, u, h => by
    by_cases h0 : u = 0
    · subst h0; rw [dgs_zero]; exact Nat.zero_le _
    · rw [dgs_pos h0, List.length_append]
      have := dgs_len k (u / 10) (by rw [Nat.pow_succ] at h; omega)
      simpa using this
theorem dgs_ne {u : Nat} (h : u ≠ 0) : 0 < (dgs u).length := by rw [dgs_pos h]; simp
/-- A number in decimal. -/
def decS (n : Int) : ByteArray := ⟨(Lib.itoa n).toArray⟩
theorem decS_zero : decS 0 = ⟨#[48]⟩ := by
  have : Lib.itoa 0 = [48] := by
    unfold Lib.itoa
    rw [if_neg (by omega)]
    show Lib.decDigits 0 = _
    rw [Lib.decDigits_one (by omega)]
    rfl
  rw [decS, this]
theorem decS_pos {n : Int} (h : 0 < n) : strOfNums (dgs n.natAbs) = decS n := by
  have : Lib.itoa n = Lib.decDigits n.natAbs := by
    unfold Lib.itoa
    rw [if_neg (by omega), show n.toNat = n.natAbs by omega]
  rw [decS, this, ← dgs_dec _ (by omega)]
  rfl
theorem decS_neg {n : Int} (h : n < 0) : (ByteArray.mk #[45]) ++ strOfNums (dgs n.natAbs) = decS n := by
  have : Lib.itoa n = [45] ++ Lib.decDigits n.natAbs := by
    unfold Lib.itoa
    rw [if_pos h]
    rfl
  rw [decS, this, ← dgs_dec _ (by omega), ← ByteArray.mk_append_mk]
  rfl

theorem wpList_app0 {P : Program} {w : World} {ops : Array Oper} {rest : List Oper} {o : Oper} {a : Act} {Q : Exit → Act → World → Prop} {t e : TypeId} {size n c k : Nat} {B A : Option Addr} (hgd : o.guard = none) (s x : Operand)
    (ho : o.op = .call { callee := .builtin .append, args := #[s, x], argTypes := #[t, t] }) (hE : Elt P t e size) (hs : a.eval s = .slice B n c) (hle : n ≤ c) (hx : a.eval x = .slice A 0 k)
    (h : wpList P ops Q rest (a.put o.dst (.slice B n c)) w) : wpList P ops Q (o :: rest) a w := by
  obtain ⟨i, z, bytes, ht, hi, hz, hsize, hby, hzs, hpos, h64⟩ := hE
  refine wpList_plain hgd fun K hK => ?_
  have hrun := run_append_nothing (P := P) w t t o.type e i ht hi B n c hle (.slice A 0 k) (by
    cases A with
    | none => exact Src.ofNil _ ht k
    | some ad => exact Src.ofSlice _ ht ad 0 k [] (by simp) (fun j u hu => by simp at hu) (fun u hu => by simp at hu))
  unfold Oper.wp
  simp [execOp, ho, resolve, invoke, builtin, hs, hx, hrun, Result.andThen]
  exact hK _ _ h

theorem ret_s {a b : ByteArray} (h : a = b) : Ending.returned (.string a) = .returned (.string b) := by rw [h]
theorem u8s_one (xs : List Int) : ∀ u ∈ xs.map (Value.int .u8), u.oneCell' = true := by
  intro u hu
  simp at hu
  obtain ⟨x, _, rfl⟩ := hu
  rfl
def DecPost (n : Int) (w : World) (e : Ending) (w' : World) : Prop := e = .returned (.string (decS n)) ∧ Below w.heap.size w w'
set_option maxRecDepth 100000 in
set_option maxHeartbeats 3200000 in
theorem sDec {n : Int} (w : World) (hn : inI n) : Calls Tryd.prog 24 #[.int .i64 n] w (DecPost n w) := by
  unfold inI at hn
  have hlen : Hid ((dgs n.natAbs).length ≤ 19) := dgs_len 19 _ (by omega)
  go_enter Tryd.func24, Tryd.ntmps24
  go_wp2
  go_loopw [3, 4] (fun o k wr => ∃ (c' j : Nat) (kk : Int) (A' : Option Addr) (acc : List Int), k = .int .i64 kk ∧ Hid (dgs kk.natAbs ++ acc = dgs n.natAbs) ∧ Hid (acc.length = j) ∧ kk.natAbs ≤ n.natAbs ∧ (n < 0 → kk ≤ 0) ∧ (0 ≤ n → 0 ≤ kk) ∧ o = .slice A' j c' ∧ Own wr w.heap.size wr.heap.size 5 1 (.slice A' j c') j (acc.map (Value.int .u8)) ∧ w.heap.size ≤ wr.heap.size ∧ Below w.heap.size w wr) (fun _ k _ => (intOf k).natAbs)
  case atStart => exact ⟨0, 0, n, some ⟨w.heap.size, 0, none⟩, [], rfl, by simp [Hid], rfl, Nat.le_refl _, fun h => by omega, fun h => h, rfl, ((Blk.new w 5 #[]).own (n := 0) (Nat.zero_le _) rfl).more (Nat.le_refl _) (by simp), by simp, (by repeat' (first | assumption | exact Below.refl _ _ | refine Below.drew ?_ | refine Below.alloc ?_ (by first | omega | (simp; done) | (simp; omega)) _))⟩
  case round =>
    obtain ⟨c', j, kk, A', acc, rfl, HD, HL, hkk, hneg, hpos, rfl, ho, hs, hB⟩ := hrel
    by_cases hz : kk = 0
    · subst hz
      have HA : Hid (acc = dgs n.natAbs) := by
        have := HD.out
        rw [show (0 : Int).natAbs = 0 by rfl, dgs_zero, List.nil_append] at this
        exact this
      have hcv := conv_own ho
      have hj : j ≤ 19 := by have := hlen.out; rw [← HA.out, HL.out] at this; exact this
      have hsz : (strOfNums acc).size = j := by rw [strOfNums_size, HL.out]
      rcases Int.lt_trichotomy n 0 with h | h | h
      · have hj0 : j ≠ 0 := by have := dgs_ne (u := n.natAbs) (by omega); rw [← HA.out, HL.out] at this; omega
        have b1 : ((j : Int) == 0) = false := by simp; omega
        have b2 : decide (n < 0) = true := by simpa using h
        have HR : Hid ((ByteArray.mk #[45]) ++ strOfNums acc = decS n) := by rw [HA.out]; exact decS_neg h
        clear hneg hpos hkk
        go_wp2
        go_ret
        exact ⟨ret_s HR.out, hB⟩
      · subst h
        obtain rfl : j = 0 := by rw [← HL.out, HA.out]; simp [dgs_zero]
        clear hneg hpos hkk
        go_wp2
        go_ret
        exact ⟨ret_s decS_zero.symm, hB⟩
      · have hj0 : j ≠ 0 := by have := dgs_ne (u := n.natAbs) (by omega); rw [← HA.out, HL.out] at this; omega
        have b1 : ((j : Int) == 0) = false := by simp; omega
        have b2 : decide (n < 0) = false := by simp; omega
        have HR : Hid (strOfNums acc = decS n) := by rw [HA.out]; exact decS_pos h
        clear hneg hpos hkk
        go_wp2
        go_ret
        exact ⟨ret_s HR.out, hB⟩
    · obtain ⟨m, hm⟩ : ∃ m, kk.natAbs = m := ⟨_, rfl⟩
      have hm0 : m ≠ 0 := by omega
      have b0 : (kk != 0) = true := by simpa using hz
      have HN : Hid (dgs (m / 10) ++ ((48 + ((m % 10 : Nat) : Int)) :: acc) = dgs n.natAbs) := by
        have := HD.out
        rw [hm, dgs_pos hm0, List.append_assoc] at this
        exact this
      have e48 : ((m % 10 : Nat) : Int) < 10 := by omega
      have hj : j ≤ 19 := by
        have := hlen.out
        rw [← HN.out, List.length_append, List.length_cons, HL.out] at this
        omega
      have hk1 : m ≤ n.natAbs := by omega
      obtain ⟨d, hd⟩ : ∃ d : Int, ((m % 10 : Nat) : Int) = d := ⟨_, rfl⟩
      have hmd := hd
      rw [hd] at HN e48
      have d0 : 0 ≤ d := by omega
      clear hd
      have W1 : IntKind.i64.wrap (48 + d) = 48 + d := IntWalk.i64_in _ (by omega)
      have W2 : IntKind.u8.wrap (48 + d) = 48 + d := IntWalk.u8_in _ (by omega)
      have W3 : IntKind.i64.wrap d = d := IntWalk.i64_in _ (by omega)
      have W5 : IntKind.i64.wrap (-d) = -d := IntWalk.i64_in _ (by omega)
      obtain ⟨q, hq⟩ : ∃ q : Nat, m / 10 = q := ⟨_, rfl⟩
      rw [hq] at HN
      have hqm : q < m := by omega
      by_cases h : n < 0
      · have k0 := hneg h
        have q1 : kk.tmod 10 = -d := by rw [show kk = -(m : Int) by omega, Int.neg_tmod, Int.tmod_eq_emod_of_nonneg (by omega)]; omega
        have q2 : kk.tdiv 10 = -(q : Int) := by rw [show kk = -(m : Int) by omega, Int.neg_tdiv, Int.tdiv_eq_ediv_of_nonneg (by omega)]; omega
        by_cases hd0 : d = 0
        · replace q1 : kk.tmod 10 = d := by omega
          have b1 : decide (d < 0) = false := by simp; omega
          clear hd0
          have q3 : (-(q : Int)).natAbs = q := by omega
          have W4 : IntKind.i64.wrap (-(q : Int)) = -(q : Int) := IntWalk.i64_in _ (by omega)
          have HO := ho; have HB := hB; clear ho hB hneg hpos hz hkk HD hmd
          rcases Nat.eq_zero_or_pos j with hj0 | hj0
          · subst hj0
            have HA : Hid (acc = []) := List.length_eq_zero_iff.1 HL.out
            have hcc : (0 : Nat) ≤ 1 := by omega
            go_wp2_with (first | (at_builtin; refine wpList_app0 rfl (.tmp 21) (.tmp 22) rfl eltU rfl (Nat.le_refl _) rfl ?_))
            go_roundw
            case rel => exact ⟨1, 1, -(q : Int), some ⟨wr.heap.size, 0, none⟩, (48 + d) :: acc, by go_num, by rw [q3]; exact HN, by rw [HA.out]; rfl, by omega, by intro h; omega, by intro h; omega, rfl, by rw [HA.out]; exact ((Blk.new wr 5 #[.int .u8 (48 + d)]).own (n := 1) (by decide) rfl).more hs (by simp), by simp; omega, HB.alloc hs _⟩
            case measure => simp [intOf]; omega
          · obtain ⟨ad, rfl, hab, hcell⟩ := (HO.alloc (.cells #[.int .u8 (48 + d)] 5)).reads.2 hj0
            go_wp2_with (first | (at_builtin; refine wpList_appN rfl (.tmp 21) (.tmp 22) rfl eltU rfl ((Blk.new wr 5 #[.int .u8 (48 + d)]).own (n := 1) (by decide) rfl) rfl (by simp [HL.out]) hcell (u8s_one _) hj0 (by omega) (by simp) ?_; intro A2 c2 w2 ho2 ht2))
            have hz2 := ht2.size
            simp at hz2
            go_roundw
            case rel => exact ⟨c2, 1 + j, -(q : Int), A2, (48 + d) :: acc, by go_num, by rw [q3]; exact HN, by simp [Hid, HL.out]; omega, by omega, by intro h; omega, by intro h; omega, by go_num, by simpa using ho2.more hs (Nat.le_refl _), by omega, Touch.below (HB.alloc hs _) ht2 (by simp; omega) hs⟩
            case measure => simp [intOf]; omega
        · have b1 : decide (-d < 0) = true := by simp; omega
          have q3 : (-(q : Int)).natAbs = q := by omega
          have W4 : IntKind.i64.wrap (-(q : Int)) = -(q : Int) := IntWalk.i64_in _ (by omega)
          have HO := ho; have HB := hB; clear ho hB hneg hpos hz hkk HD hmd
          rcases Nat.eq_zero_or_pos j with hj0 | hj0
          · subst hj0
            have HA : Hid (acc = []) := List.length_eq_zero_iff.1 HL.out
            have hcc : (0 : Nat) ≤ 1 := by omega
            go_wp2_with (first | (at_builtin; refine wpList_app0 rfl (.tmp 21) (.tmp 22) rfl eltU rfl (Nat.le_refl _) rfl ?_))
            go_roundw
            case rel => exact ⟨1, 1, -(q : Int), some ⟨wr.heap.size, 0, none⟩, (48 + d) :: acc, by go_num, by rw [q3]; exact HN, by rw [HA.out]; rfl, by omega, by intro h; omega, by intro h; omega, rfl, by rw [HA.out]; exact ((Blk.new wr 5 #[.int .u8 (48 + d)]).own (n := 1) (by decide) rfl).more hs (by simp), by simp; omega, HB.alloc hs _⟩
            case measure => simp [intOf]; omega
          · obtain ⟨ad, rfl, hab, hcell⟩ := (HO.alloc (.cells #[.int .u8 (48 + d)] 5)).reads.2 hj0
            go_wp2_with (first | (at_builtin; refine wpList_appN rfl (.tmp 21) (.tmp 22) rfl eltU rfl ((Blk.new wr 5 #[.int .u8 (48 + d)]).own (n := 1) (by decide) rfl) rfl (by simp [HL.out]) hcell (u8s_one _) hj0 (by omega) (by simp) ?_; intro A2 c2 w2 ho2 ht2))
            have hz2 := ht2.size
            simp at hz2
            go_roundw
            case rel => exact ⟨c2, 1 + j, -(q : Int), A2, (48 + d) :: acc, by go_num, by rw [q3]; exact HN, by simp [Hid, HL.out]; omega, by omega, by intro h; omega, by intro h; omega, by go_num, by simpa using ho2.more hs (Nat.le_refl _), by omega, Touch.below (HB.alloc hs _) ht2 (by simp; omega) hs⟩
            case measure => simp [intOf]; omega
      · have k0 := hpos (by omega)
        have q1 : kk.tmod 10 = d := by rw [show kk = (m : Int) by omega, Int.tmod_eq_emod_of_nonneg (by omega)]; omega
        have q2 : kk.tdiv 10 = (q : Int) := by rw [show kk = (m : Int) by omega, Int.tdiv_eq_ediv_of_nonneg (by omega)]; omega
        have b1 : decide (d < 0) = false := by simp; omega
        have q3 : ((q : Int)).natAbs = q := by omega
        have W4 : IntKind.i64.wrap ((q : Int)) = (q : Int) := IntWalk.i64_in _ (by omega)
        have HO := ho; have HB := hB; clear ho hB hneg hpos hz hkk HD hmd
        rcases Nat.eq_zero_or_pos j with hj0 | hj0
        · subst hj0
          have HA : Hid (acc = []) := List.length_eq_zero_iff.1 HL.out
          have hcc : (0 : Nat) ≤ 1 := by omega
          go_wp2_with (first | (at_builtin; refine wpList_app0 rfl (.tmp 21) (.tmp 22) rfl eltU rfl (Nat.le_refl _) rfl ?_))
          go_roundw
          case rel => exact ⟨1, 1, (q : Int), some ⟨wr.heap.size, 0, none⟩, (48 + d) :: acc, by go_num, by rw [q3]; exact HN, by rw [HA.out]; rfl, by omega, by intro h; omega, by intro h; omega, rfl, by rw [HA.out]; exact ((Blk.new wr 5 #[.int .u8 (48 + d)]).own (n := 1) (by decide) rfl).more hs (by simp), by simp; omega, HB.alloc hs _⟩
          case measure => simp [intOf]; omega
        · obtain ⟨ad, rfl, hab, hcell⟩ := (HO.alloc (.cells #[.int .u8 (48 + d)] 5)).reads.2 hj0
          go_wp2_with (first | (at_builtin; refine wpList_appN rfl (.tmp 21) (.tmp 22) rfl eltU rfl ((Blk.new wr 5 #[.int .u8 (48 + d)]).own (n := 1) (by decide) rfl) rfl (by simp [HL.out]) hcell (u8s_one _) hj0 (by omega) (by simp) ?_; intro A2 c2 w2 ho2 ht2))
          have hz2 := ht2.size
          simp at hz2
          go_roundw
          case rel => exact ⟨c2, 1 + j, (q : Int), A2, (48 + d) :: acc, by go_num, by rw [q3]; exact HN, by simp [Hid, HL.out]; omega, by omega, by intro h; omega, by intro h; omega, by go_num, by simpa using ho2.more hs (Nat.le_refl _), by omega, Touch.below (HB.alloc hs _) ht2 (by simp; omega) hs⟩
          case measure => simp [intOf]; omega
end Go.Proofs.YtlnajkimlooapaaDoor
