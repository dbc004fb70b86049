/- Abaci: valid or not. No condition. -/
import Derived.Test.YtpgifgdoikhpbaaAba
import Derived.Test.YtpgifgdoikhpbaaAbaM
import Derived.Test.YtpgifgdoikhpbaaBetw
import Derived.BigQuiet
import Derived.IntWalk
namespace Go.Proofs.Ytpgifgdoikhpbaa
open Go.RowKit

theorem kd_no0 {u o t : Int} (h : betwB u 0 4 = false) : kdB u o t = false := by simp [kdB, h]
theorem kd_no1 {u o t : Int} (h : betwB o 1 12 = false) : kdB u o t = false := by simp [kdB, h]
theorem kd_no2 {u o t : Int} (h : betwB t 1 10 = false) : kdB u o t = false := by simp [kdB, h]
theorem kd_no3 {u o t : Int} (h : ¬ t - 1 ≤ o) : kdB u o t = false := by simp [kdB, h]
theorem kd_no4 {u o t : Int} (h : ¬ 9 ≤ u * t + o) : kdB u o t = false := by simp [kdB, h]
theorem kd_yes {u o t : Int} (h0 : betwB u 0 4 = true) (h1 : betwB o 1 12 = true) (h2 : betwB t 1 10 = true) (h3 : t - 1 ≤ o) (h4 : 9 ≤ u * t + o) : kdB u o t = true := by simp [kdB, h0, h1, h2, h3, h4]

theorem quietC {P : Program} {f : FuncId} {args : Array Value} {W : World} {C : World → Prop} {b b' : Bool} (h : Calls P f args W fun e w' => e = .returned (.bool b) ∧ W = w') (hb : b = b') (hC : C W) : Calls P f args W fun e w'' => e = .returned (.bool b') ∧ C w'' := by
  subst hb
  exact h.mono fun _ _ ⟨he, hw⟩ => ⟨he, hw ▸ hC⟩
theorem quietD {P : Program} {f : FuncId} {args : Array Value} {W : World} {C : World → Prop} {v : Value} (h : Calls P f args W fun e w' => e = .returned v ∧ W = w') (hC : C W) : Calls P f args W fun e w'' => e = .returned v ∧ C w'' :=
  h.mono fun _ _ ⟨he, hw⟩ => ⟨he, hw ▸ hC⟩
section
attribute [local irreducible] wpQuiet
set_option maxHeartbeats 3200000 in
theorem sKind {u o t : Int} {g : Nat} (w : World) (c0 : w.cell? ⟨g, 0, none⟩ = some (.int .i64 u)) (c1 : w.cell? ⟨g, 1, none⟩ = some (.int .i64 o)) (c2 : w.cell? ⟨g, 2, none⟩ = some (.int .i64 t)) :
    Calls Try.prog 82 #[.pointer (some ⟨g, 0, none⟩)] w (RetQ (.bool (kdB u o t)) w) := by
  cases h0 : betwB u 0 4
  · have HN := Lib.hid (kd_no0 (u := u) (o := o) (t := t) h0)
    go_enter Try.func82, Try.ntmps82
    go_wp2_with (first | (go_at_call 69; refine (l00In_any _ _ _ _).mono ?_; rintro e w' ⟨rfl, rfl⟩))
    go_ret
    exact ⟨ret_b HN.out.symm, 0, rfl⟩
  cases h1 : betwB o 1 12
  · have HN := Lib.hid (kd_no1 (u := u) (o := o) (t := t) h1)
    go_enter Try.func82, Try.ntmps82
    go_wp2_with (first | (go_at_call 69; refine (l00In_any _ _ _ _).mono ?_; rintro e w' ⟨rfl, rfl⟩))
    go_ret
    exact ⟨ret_b HN.out.symm, 0, rfl⟩
  cases h2 : betwB t 1 10
  · have HN := Lib.hid (kd_no2 (u := u) (o := o) (t := t) h2)
    go_enter Try.func82, Try.ntmps82
    go_wp2_with (first | (go_at_call 69; refine (l00In_any _ _ _ _).mono ?_; rintro e w' ⟨rfl, rfl⟩))
    go_ret
    exact ⟨ret_b HN.out.symm, 0, rfl⟩
  obtain ⟨u0, u1⟩ := betw_iff.1 h0
  obtain ⟨o0, o1⟩ := betw_iff.1 h1
  obtain ⟨t0, t1⟩ := betw_iff.1 h2
  obtain ⟨m0, m1⟩ := mul_in u0 (Int.le_refl u) u1 t0 t1
  have W1 : IntKind.i64.wrap (t - 1) = t - 1 := IntWalk.i64_in _ (by omega)
  have W2 : IntKind.i64.wrap (u * t) = u * t := IntWalk.i64_in _ (by omega)
  have W3 : IntKind.i64.wrap (u * t + o) = u * t + o := IntWalk.i64_in _ (by omega)
  by_cases h3 : t - 1 ≤ o
  · have d3 : decide (t - 1 ≤ o) = true := by simpa using h3
    by_cases h4 : 9 ≤ u * t + o
    · have d4 : decide (9 ≤ u * t + o) = true := by simpa using h4
      have HN := Lib.hid (kd_yes h0 h1 h2 h3 h4)
      go_enter Try.func82, Try.ntmps82
      go_wp2_with (first | (go_at_call 69; refine (l00In_any _ _ _ _).mono ?_; rintro e w' ⟨rfl, rfl⟩))
      go_quiet (fail)
      go_wp2
      go_ret
      exact ⟨ret_b HN.out.symm, _, rfl⟩
    · have d4 : decide (9 ≤ u * t + o) = false := by simpa using h4
      have HN := Lib.hid (kd_no4 h4)
      go_enter Try.func82, Try.ntmps82
      go_wp2_with (first | (go_at_call 69; refine (l00In_any _ _ _ _).mono ?_; rintro e w' ⟨rfl, rfl⟩))
      go_quiet (fail)
      go_wp2
      go_ret
      exact ⟨ret_b HN.out.symm, _, rfl⟩
  · have d3 : decide (t - 1 ≤ o) = false := by simpa using h3
    have HN := Lib.hid (kd_no3 (u := u) h3)
    go_enter Try.func82, Try.ntmps82
    go_wp2_with (first | (go_at_call 69; refine (l00In_any _ _ _ _).mono ?_; rintro e w' ⟨rfl, rfl⟩))
    go_quiet (fail)
    go_wp2
    go_ret
    exact ⟨ret_b HN.out.symm, _, rfl⟩

theorem ok_kd {u o t : Int} {xs : List (Int × Int)} (h : kdB u o t = false) : okA u o t xs = false := by simp [okA, h]
theorem ok_len {u o t : Int} {xs : List (Int × Int)} (h : betwB xs.length 1 10 = false) : okA u o t xs = false := by simp [okA, h]
theorem ok_all {u o t : Int} {xs : List (Int × Int)} (h : xs.all (rodB u o) = false) : okA u o t xs = false := by simp [okA, h]
theorem ok_yes {u o t : Int} {xs : List (Int × Int)} (h : kdB u o t = true) (h1 : xs.all (rodB u o) = true) (h2 : betwB xs.length 1 10 = true) : okA u o t xs = true := by simp [okA, h, h1, h2]
theorem all_step {α : Type} {p : α → Bool} {xs : List α} {k : Nat} {q : α} (h : (xs.take k).all p = true) (hq : xs[k]? = some q) (hp : p q = true) : (xs.take (k + 1)).all p = true := by
  rw [List.take_add_one, hq]
  simp [h, hp]
theorem all_no {α : Type} {p : α → Bool} {xs : List α} {k : Nat} {q : α} (hq : xs[k]? = some q) (hp : p q = false) : xs.all p = false := by
  rw [List.all_eq_false]
  exact ⟨q, List.mem_of_getElem? hq, by simp [hp]⟩
theorem all_end {α : Type} {p : α → Bool} {xs : List α} {n : Nat} (h : (xs.take n).all p = true) (hl : xs.length = n) : xs.all p = true := by
  rwa [List.take_of_length_le (by omega)] at h

set_option maxHeartbeats 3200000 in
theorem sOkA {u o t : Int} {A : Option Addr} {n c : Nat} {xs : List (Int × Int)} {g : Nat} (w : World) (h : Reads w w.heap.size 2 A n (flat encPair xs)) (hl : xs.length = n) (hm : n ≤ maxLen) (c0 : w.cell? ⟨g, 0, none⟩ = some (.int .i64 u)) (c1 : w.cell? ⟨g, 1, none⟩ = some (.int .i64 o)) (c2 : w.cell? ⟨g, 2, none⟩ = some (.int .i64 t)) (c3 : w.cell? ⟨g, 3, none⟩ = some (.slice A n c)) :
    Calls Try.prog 55 #[.pointer (some ⟨g, 0, none⟩)] w (RetQ (.bool (okA u o t xs)) w) := by
  unfold maxLen at hm
  have HL := Lib.hid hl
  cases hk : kdB u o t
  · have HN := Lib.hid (ok_kd (xs := xs) hk)
    clear hl
    go_enter Try.func55, Try.ntmps55
    go_wp2_with (first | (go_at_call 82; refine (sKind _ c0 c1 c2).mono ?_; rintro e w' ⟨rfl, m, rfl⟩; rw [hk]) | (go_at_call 69; refine (l00In_any _ _ _ _).mono ?_; rintro e w' ⟨rfl, rfl⟩))
    go_ret
    exact ⟨ret_b HN.out.symm, _, rfl⟩
  cases h1 : betwB (n : Int) 1 10
  · have HN := Lib.hid (ok_len (u := u) (o := o) (t := t) (xs := xs) (by rw [hl]; exact h1))
    clear hl
    go_enter Try.func55, Try.ntmps55
    go_wp2_with (first | (go_at_call 82; refine (sKind _ c0 c1 c2).mono ?_; rintro e w' ⟨rfl, m, rfl⟩; rw [hk]) | (go_at_call 69; refine (l00In_any _ _ _ _).mono ?_; rintro e w' ⟨rfl, rfl⟩))
    go_ret
    exact ⟨ret_b HN.out.symm, _, rfl⟩
  obtain ⟨n0, n1⟩ := betw_iff.1 h1
  have HY := Lib.hid (fun hr => ok_yes (xs := xs) hk hr (by rw [hl]; exact h1))
  clear hl
  have HK := Lib.hid hk; clear hk
  go_enter Try.func55, Try.ntmps55
  go_wp2_with (first | (go_at_call 82; refine (sKind _ c0 c1 c2).mono ?_; rintro e w' ⟨rfl, m, rfl⟩; rw [HK.out]) | (go_at_call 69; refine (l00In_any _ _ _ _).mono ?_; rintro e w' ⟨rfl, rfl⟩))
  go_loopw [3] (fun i wr => ∃ k m : Nat, k ≤ n ∧ i = .int .i64 k ∧ Hid ((xs.take k).all (rodB u o) = true) ∧ wr = w.drewN m) (fun i _ => n - (intOf i).toNat)
  case atStart => exact ⟨0, _, Nat.zero_le _, rfl, by simp [Hid], rfl⟩
  case round =>
    obtain ⟨k, m, hk, rfl, hd, rfl⟩ := hrel
    by_cases hlt : k < n
    · obtain ⟨b1, o1, q, rfl, _, hq, hc⟩ := h.row_at encPair_length (by decide) HL.out hlt
      have HQ := Lib.hid hq
      clear hq
      have s0 := hc 0 _ rfl; have s1 := hc 1 _ rfl
      simp only [Nat.add_zero] at s0
      clear hc
      have ki0 : (0 : Int) ≤ (k : Int) := Int.natCast_nonneg _
      have ki1 : (k : Int) < (n : Int) := by omega
      cases e1 : betwB q.1 0 u
      · have HN := Lib.hid (ok_all (u := u) (o := o) (t := t) (xs := xs) (all_no (p := rodB u o) HQ.out (by simp [rodB, e1])))
        go_wp2_with fail
        go_quiet ((go_at_call 69; refine quietC (l00In_any _ _ _ _) e1 ?_; first | exact ⟨_, rfl⟩ | exact ⟨_, (World.drewN_drewN _ _ _).symm⟩))
        go_wp2
        go_ret
        exact ⟨ret_b HN.out.symm, _, by first | rfl | exact World.drewN_drewN _ _ _⟩
      cases e2 : betwB q.2 0 o
      · have HN := Lib.hid (ok_all (u := u) (o := o) (t := t) (xs := xs) (all_no (p := rodB u o) HQ.out (by simp [rodB, e2])))
        go_wp2_with fail
        go_quiet ((go_at_call 69; (first | refine quietC (l00In_any _ _ _ _) e1 ?_ | refine quietC (l00In_any _ _ _ _) e2 ?_); first | exact ⟨_, rfl⟩ | exact ⟨_, (World.drewN_drewN _ _ _).symm⟩))
        go_wp2
        go_ret
        exact ⟨ret_b HN.out.symm, _, by first | rfl | exact World.drewN_drewN _ _ _⟩
      have HS := Lib.hid (all_step (p := rodB u o) hd.out HQ.out (by simp [rodB, e1, e2]))
      go_wp2_with fail
      go_quiet ((go_at_call 69; (first | refine quietC (l00In_any _ _ _ _) e1 ?_ | refine quietC (l00In_any _ _ _ _) e2 ?_); first | exact ⟨_, rfl⟩ | exact ⟨_, (World.drewN_drewN _ _ _).symm⟩))
      go_wp2
      go_roundw
      case rel => exact ⟨k + 1, _, by omega, by go_num, HS, by first | rfl | exact World.drewN_drewN _ _ _⟩
      case measure => simp [intOf]; omega
    · obtain rfl : k = n := by omega
      have HA := Lib.hid (HY.out (all_end hd.out HL.out))
      go_wp2
      go_ret
      exact ⟨ret_b HA.out.symm, _, rfl⟩
end
set_option maxHeartbeats 800000 in
theorem sValidAba {u o t : Int} {A : Option Addr} {n c : Nat} {xs : List (Int × Int)} (w : World) (h : Reads w w.heap.size 2 A n (flat encPair xs)) (hl : xs.length = n) (hm : n ≤ maxLen) :
    Calls Try.prog 19 #[.agg #[.int .i64 u, .int .i64 o, .int .i64 t, .slice A n c]] w fun e w' => e = .returned (.bool (okA u o t xs)) ∧ Below w.heap.size w w' := by
  have HL := Lib.hid hl; clear hl
  go_enter Try.func19, Try.ntmps19
  go_wp2_with fail
  refine (sOkA _ ((h.alloc (Nat.le_refl _) _).more (by simp)) HL.out hm (by simp; rfl) (by simp; rfl) (by simp; rfl) (by simp; rfl)).mono ?_
  rintro e w' ⟨rfl, k, rfl⟩
  go_wp2
  go_ret
  exact ⟨rfl, bel2 (by repeat' (first | assumption | exact Below.refl _ _ | refine Below.drew ?_ | refine belN ?_ _ | refine Below.alloc ?_ (by first | omega | (simp; done) | (simp; omega)) _ | refine Below.setCell ?_ (by first | omega | (simp; done) | (simp; omega)) _)) (RetQ.bel k)⟩

set_option maxHeartbeats 3200000 in
theorem iValidAba {u o t : Int} {A : Option Addr} {n c : Nat} {xs : List (Int × Int)} (w : World) (h : Reads w w.heap.size 2 A n (flat encPair xs)) (hl : xs.length = n) (hm : n ≤ maxLen) :
    Calls Try.prog 20 #[.agg #[.int .i64 u, .int .i64 o, .int .i64 t, .slice A n c]] w fun e w' => e = .returned (.bool (okA u o t xs)) ∧ Below w.heap.size w w' := by
  unfold maxLen at hm
  have HL := Lib.hid hl; clear hl
  have BB := Lib.hid (Below.refl w.heap.size w)
  cases h0 : betwB u 0 4
  · have HN := Lib.hid (kd_no0 (u := u) (o := o) (t := t) h0)
    go_enter Try.func20, Try.ntmps20
    go_wp2_with (first | (go_at_call 56; refine (between_any _ _ _ _).mono ?_; rintro e w' ⟨rfl, rfl⟩))
    go_ret
    exact ⟨ret_b (ok_kd HN.out).symm, (by repeat' (first | assumption | exact Below.refl _ _ | refine Below.drew ?_ | refine belN ?_ _ | refine Below.alloc ?_ (by first | omega | (simp; done) | (simp; omega)) _ | refine Below.setCell ?_ (by first | omega | (simp; done) | (simp; omega)) _))⟩
  cases h1 : betwB o 1 12
  · have HN := Lib.hid (kd_no1 (u := u) (o := o) (t := t) h1)
    go_enter Try.func20, Try.ntmps20
    go_wp2_with (first | (go_at_call 56; refine (between_any _ _ _ _).mono ?_; rintro e w' ⟨rfl, rfl⟩))
    go_ret
    exact ⟨ret_b (ok_kd HN.out).symm, (by repeat' (first | assumption | exact Below.refl _ _ | refine Below.drew ?_ | refine belN ?_ _ | refine Below.alloc ?_ (by first | omega | (simp; done) | (simp; omega)) _ | refine Below.setCell ?_ (by first | omega | (simp; done) | (simp; omega)) _))⟩
  cases h2 : betwB t 1 10
  · have HN := Lib.hid (kd_no2 (u := u) (o := o) (t := t) h2)
    go_enter Try.func20, Try.ntmps20
    go_wp2_with (first | (go_at_call 56; refine (between_any _ _ _ _).mono ?_; rintro e w' ⟨rfl, rfl⟩))
    go_ret
    exact ⟨ret_b (ok_kd HN.out).symm, (by repeat' (first | assumption | exact Below.refl _ _ | refine Below.drew ?_ | refine belN ?_ _ | refine Below.alloc ?_ (by first | omega | (simp; done) | (simp; omega)) _ | refine Below.setCell ?_ (by first | omega | (simp; done) | (simp; omega)) _))⟩
  obtain ⟨u0, u1⟩ := betw_iff.1 h0
  obtain ⟨o0, o1⟩ := betw_iff.1 h1
  obtain ⟨t0, t1⟩ := betw_iff.1 h2
  obtain ⟨m0, m1⟩ := mul_in u0 (Int.le_refl u) u1 t0 t1
  by_cases h3 : t - 1 ≤ o
  rotate_left
  · have d3 : o < t - 1 := by omega
    have HN := Lib.hid (kd_no3 (u := u) h3)
    clear h3
    go_enter Try.func20, Try.ntmps20
    go_wp2_with (first | (go_at_call 56; refine (between_any _ _ _ _).mono ?_; rintro e w' ⟨rfl, rfl⟩))
    go_ret
    exact ⟨ret_b (ok_kd HN.out).symm, (by repeat' (first | assumption | exact Below.refl _ _ | refine Below.drew ?_ | refine belN ?_ _ | refine Below.alloc ?_ (by first | omega | (simp; done) | (simp; omega)) _ | refine Below.setCell ?_ (by first | omega | (simp; done) | (simp; omega)) _))⟩
  by_cases h4 : 9 ≤ u * t + o
  rotate_left
  · have d4 : u * t + o < 9 := by omega
    have HN := Lib.hid (kd_no4 h4)
    clear h4
    go_enter Try.func20, Try.ntmps20
    go_wp2_with (first | (go_at_call 56; refine (between_any _ _ _ _).mono ?_; rintro e w' ⟨rfl, rfl⟩))
    go_ret
    exact ⟨ret_b (ok_kd HN.out).symm, (by repeat' (first | assumption | exact Below.refl _ _ | refine Below.drew ?_ | refine belN ?_ _ | refine Below.alloc ?_ (by first | omega | (simp; done) | (simp; omega)) _ | refine Below.setCell ?_ (by first | omega | (simp; done) | (simp; omega)) _))⟩
  have HK := Lib.hid (kd_yes h0 h1 h2 h3 h4)
  go_enter Try.func20, Try.ntmps20
  have h1' := (h.alloc (Nat.le_refl _) (.cells #[.int .i64 u, .int .i64 o, .int .i64 t, .slice A n c] 29)).more (B' := w.heap.size + 1) (by omega)
  go_wp2_with (first | (go_at_call 56; refine (between_any _ _ _ _).mono ?_; rintro e w' ⟨rfl, rfl⟩))
  go_loopw [43] (fun i wr => ∃ k : Nat, k ≤ n ∧ i = .int .i64 k ∧ Hid ((xs.take k).all (rodB u o) = true) ∧ Below (w.heap.size + 1) (w.alloc (.cells #[.int .i64 u, .int .i64 o, .int .i64 t, .slice A n c] 29)) wr) (fun i _ => n - (intOf i).toNat)
  case atStart => exact ⟨0, Nat.zero_le _, rfl, by simp [Hid], Below.refl _ _⟩
  case round =>
    obtain ⟨k, hk, rfl, hd, hB⟩ := hrel
    have hsz : w.heap.size + 1 ≤ wr.heap.size := by have := hB.size; simp at this; omega
    have hB0 : Below w.heap.size w wr := ((Below.refl _ _).alloc (Nat.le_refl _) _).trans (hB.mono (by simp))
    have e0 : wr.cell? ⟨w.heap.size, 0, none⟩ = some (.int .i64 u) := (hB.cell (p := ⟨w.heap.size, 0, none⟩) (by simp)).trans (by simp)
    have e1 : wr.cell? ⟨w.heap.size, 1, none⟩ = some (.int .i64 o) := (hB.cell (p := ⟨w.heap.size, 1, none⟩) (by simp)).trans (by simp)
    have e3 : wr.cell? ⟨w.heap.size, 3, none⟩ = some (.slice A n c) := (hB.cell (p := ⟨w.heap.size, 3, none⟩) (by simp)).trans (by simp)
    by_cases hlt : k < n
    · obtain ⟨b1, o1, q, rfl, _, hq, hc⟩ := (h1'.below hB).row_at encPair_length (by decide) HL.out hlt
      have HQ := Lib.hid hq
      clear hq
      have s0 := hc 0 _ rfl; have s1 := hc 1 _ rfl
      simp only [Nat.add_zero] at s0
      clear hc
      have ki0 : (0 : Int) ≤ (k : Int) := Int.natCast_nonneg _
      have ki1 : (k : Int) < (n : Int) := by omega
      have hs2 : w.heap.size < wr.heap.size := by omega
      have x0 := fun X : Obj => cellA e0 X; have x1 := fun X : Obj => cellA e1 X
      cases f1 : betwB q.1 0 u
      · have HN := Lib.hid (ok_all (u := u) (o := o) (t := t) (xs := xs) (all_no (p := rodB u o) HQ.out (by simp [rodB, f1])))
        go_wp2_with (first | (go_at_call 56; refine (between_any _ _ _ _).mono ?_; rintro e w' ⟨rfl, rfl⟩))
        go_ret
        exact ⟨ret_b HN.out.symm, (by repeat' (first | assumption | exact Below.refl _ _ | refine Below.drew ?_ | refine belN ?_ _ | refine Below.alloc ?_ (by first | omega | (simp; done) | (simp; omega)) _ | refine Below.setCell ?_ (by first | omega | (simp; done) | (simp; omega)) _))⟩
      cases f2 : betwB q.2 0 o
      · have HN := Lib.hid (ok_all (u := u) (o := o) (t := t) (xs := xs) (all_no (p := rodB u o) HQ.out (by simp [rodB, f2])))
        go_wp2_with (first | (go_at_call 56; refine (between_any _ _ _ _).mono ?_; rintro e w' ⟨rfl, rfl⟩))
        go_ret
        exact ⟨ret_b HN.out.symm, (by repeat' (first | assumption | exact Below.refl _ _ | refine Below.drew ?_ | refine belN ?_ _ | refine Below.alloc ?_ (by first | omega | (simp; done) | (simp; omega)) _ | refine Below.setCell ?_ (by first | omega | (simp; done) | (simp; omega)) _))⟩
      have HS := Lib.hid (all_step (p := rodB u o) hd.out HQ.out (by simp [rodB, f1, f2]))
      go_wp2_with (first | (go_at_call 56; refine (between_any _ _ _ _).mono ?_; rintro e w' ⟨rfl, rfl⟩))
      go_roundw
      case rel => exact ⟨k + 1, by omega, by go_num, HS, (by repeat' (first | assumption | exact Below.refl _ _ | refine Below.drew ?_ | refine belN ?_ _ | refine Below.alloc ?_ (by first | omega | (simp; done) | (simp; omega)) _ | refine Below.setCell ?_ (by first | omega | (simp; done) | (simp; omega)) _))⟩
      case measure => simp [intOf]; omega
    · obtain rfl : k = n := by omega
      have HA := Lib.hid (all_end hd.out HL.out)
      cases f1 : betwB (k : Int) 1 10
      · have HN := Lib.hid (ok_len (u := u) (o := o) (t := t) (xs := xs) (by rw [HL.out]; exact f1))
        go_wp2_with (first | (go_at_call 56; refine (between_any _ _ _ _).mono ?_; rintro e w' ⟨rfl, rfl⟩))
        go_ret
        exact ⟨ret_b HN.out.symm, hB0⟩
      · have HN := Lib.hid (ok_yes HK.out HA.out (by rw [HL.out]; exact f1))
        go_wp2_with (first | (go_at_call 56; refine (between_any _ _ _ _).mono ?_; rintro e w' ⟨rfl, rfl⟩))
        go_ret
        exact ⟨ret_b HN.out.symm, hB0⟩
end Go.Proofs.Ytpgifgdoikhpbaa
