/- Chains: equality; valid or not. No condition. -/
import Derived.Test.YtndodfolpjkppaaChain
import Derived.Test.YtndodfolpjkppaaValid
import Derived.BigQuiet
import Derived.IntWalk
namespace Go.Proofs.Ytndodfolpjkppaa
open Go.RowKit

def scB (xs ys xs' ys' : List Int) : Bool := sameB xs xs' && sameB ys ys'

set_option maxHeartbeats 1600000 in
theorem sSameCh {A A' D D' : Option Addr} {n c n' c' d e d' e' : Nat} {xs ys xs' ys' : List Int} (w : World) (h : Reads w w.heap.size 1 A n (xs.map (Value.int .i64))) (h' : Reads w w.heap.size 1 A' n' (ys.map (Value.int .i64))) (k : Reads w w.heap.size 1 D d (xs'.map (Value.int .i64))) (k' : Reads w w.heap.size 1 D' d' (ys'.map (Value.int .i64)))
    (hl : xs.length = n) (hl' : ys.length = n') (kl : xs'.length = d) (kl' : ys'.length = d') (hm : n ≤ maxLen) (hm' : n' ≤ maxLen) (km : d ≤ maxLen) (km' : d' ≤ maxLen) :
    Calls Try.prog 20 #[.agg #[.slice A n c, .slice A' n' c'], .agg #[.slice D d e, .slice D' d' e']] w fun e w' => e = .returned (.bool (scB xs ys xs' ys')) ∧ Below w.heap.size w w' := by
  have HL := Lib.hid hl; have HL' := Lib.hid hl'; have KL := Lib.hid kl; have KL' := Lib.hid kl'; clear hl hl' kl kl'
  cases s1 : sameB xs xs'
  · have HE : Hid (scB xs ys xs' ys' = false) := by unfold Hid; simp [scB, s1]
    go_enter Try.func20, Try.ntmps20
    go_wp2_with fail
    refine (sSame _ (((h.alloc (Nat.le_refl _) _).alloc (by simp) _).more (by simp; omega)) (((k.alloc (Nat.le_refl _) _).alloc (by simp) _).more (by simp; omega)) HL.out KL.out hm km).mono ?_
    rintro e w' ⟨rfl, m, rfl⟩
    rw [s1]
    go_wp2
    go_ret
    exact ⟨ret_b HE.out.symm, (by repeat' (first | assumption | exact Below.refl _ _ | refine Below.drew ?_ | refine belN ?_ _ | refine Below.alloc ?_ (by first | omega | (simp; done) | (simp; omega)) _ | refine Below.setCell ?_ (by first | omega | (simp; done) | (simp; omega)) _))⟩
  · have HE : Hid (scB xs ys xs' ys' = sameB ys ys') := by unfold Hid; simp [scB, s1]
    go_enter Try.func20, Try.ntmps20
    go_wp2_with fail
    refine (sSame _ (((h.alloc (Nat.le_refl _) _).alloc (by simp) _).more (by simp; omega)) (((k.alloc (Nat.le_refl _) _).alloc (by simp) _).more (by simp; omega)) HL.out KL.out hm km).mono ?_
    rintro e w' ⟨rfl, m, rfl⟩
    rw [s1]
    go_wp2_with fail
    refine (sSame _ ((((h'.alloc (Nat.le_refl _) _).alloc (by simp) _).more (by simp; omega)).drewN _) ((((k'.alloc (Nat.le_refl _) _).alloc (by simp) _).more (by simp; omega)).drewN _) HL'.out KL'.out hm' km').mono ?_
    rintro e w' ⟨rfl, m2, rfl⟩
    go_wp2
    go_ret
    exact ⟨ret_b HE.out.symm, (by repeat' (first | assumption | exact Below.refl _ _ | refine Below.drew ?_ | refine belN ?_ _ | refine Below.alloc ?_ (by first | omega | (simp; done) | (simp; omega)) _ | refine Below.setCell ?_ (by first | omega | (simp; done) | (simp; omega)) _))⟩

set_option maxHeartbeats 1600000 in
theorem iSameCh {A A' D D' : Option Addr} {n c n' c' d e d' e' : Nat} {xs ys xs' ys' : List Int} (w : World) (h : Reads w w.heap.size 1 A n (xs.map (Value.int .i64))) (h' : Reads w w.heap.size 1 A' n' (ys.map (Value.int .i64))) (k : Reads w w.heap.size 1 D d (xs'.map (Value.int .i64))) (k' : Reads w w.heap.size 1 D' d' (ys'.map (Value.int .i64)))
    (hl : xs.length = n) (hl' : ys.length = n') (kl : xs'.length = d) (kl' : ys'.length = d') (hm : n ≤ maxLen) (hm' : n' ≤ maxLen) (km : d ≤ maxLen) (km' : d' ≤ maxLen) :
    Calls Try.prog 22 #[.agg #[.slice A n c, .slice A' n' c'], .agg #[.slice D d e, .slice D' d' e']] w fun e w' => e = .returned (.bool (scB xs ys xs' ys')) ∧ Below w.heap.size w w' := by
  have HL := Lib.hid hl; have HL' := Lib.hid hl'; have KL := Lib.hid kl; have KL' := Lib.hid kl'; clear hl hl' kl kl'
  cases s1 : sameB xs xs'
  · have HE : Hid (scB xs ys xs' ys' = false) := by unfold Hid; simp [scB, s1]
    go_enter Try.func22, Try.ntmps22
    go_wp2_with fail
    refine (iSame _ (((h.alloc (Nat.le_refl _) _).alloc (by simp) _).more (by simp; omega)) (((k.alloc (Nat.le_refl _) _).alloc (by simp) _).more (by simp; omega)) HL.out KL.out hm km).mono ?_
    rintro e w' ⟨rfl, m, rfl⟩
    rw [s1]
    go_wp2
    go_ret
    exact ⟨ret_b HE.out.symm, (by repeat' (first | assumption | exact Below.refl _ _ | refine Below.drew ?_ | refine belN ?_ _ | refine Below.alloc ?_ (by first | omega | (simp; done) | (simp; omega)) _ | refine Below.setCell ?_ (by first | omega | (simp; done) | (simp; omega)) _))⟩
  · have HE : Hid (scB xs ys xs' ys' = sameB ys ys') := by unfold Hid; simp [scB, s1]
    go_enter Try.func22, Try.ntmps22
    go_wp2_with fail
    refine (iSame _ (((h.alloc (Nat.le_refl _) _).alloc (by simp) _).more (by simp; omega)) (((k.alloc (Nat.le_refl _) _).alloc (by simp) _).more (by simp; omega)) HL.out KL.out hm km).mono ?_
    rintro e w' ⟨rfl, m, rfl⟩
    rw [s1]
    go_wp2_with fail
    refine (iSame _ ((((h'.alloc (Nat.le_refl _) _).alloc (by simp) _).more (by simp; omega)).drewN _) ((((k'.alloc (Nat.le_refl _) _).alloc (by simp) _).more (by simp; omega)).drewN _) HL'.out KL'.out hm' km').mono ?_
    rintro e w' ⟨rfl, m2, rfl⟩
    go_wp2
    go_ret
    exact ⟨ret_b HE.out.symm, (by repeat' (first | assumption | exact Below.refl _ _ | refine Below.drew ?_ | refine belN ?_ _ | refine Below.alloc ?_ (by first | omega | (simp; done) | (simp; omega)) _ | refine Below.setCell ?_ (by first | omega | (simp; done) | (simp; omega)) _))⟩

def absI (x : Int) : Int := if x < 0 then -x else x
def plB (x : Int) : Bool := betwB x (-1000000) 1000000
def lkB (p a b : Int) : Bool := betwB p 0 100 && decide (absI (a - b) ≤ p)
def lkS (ps qs : List Int) (j : Nat) : Bool := lkB (ps.getD j 0) (qs.getD j 0) (qs.getD (j + 1) 0)
def chB (ps qs : List Int) : Bool := betwB ps.length 1 10 && decide (qs.length = ps.length + 1) && (qs.all plB && (List.range ps.length).all (lkS ps qs))
theorem lkS_at {ps qs : List Int} {j : Nat} {p a b : Int} (hp : ps[j]? = some p) (ha : qs[j]? = some a) (hb : qs[j + 1]? = some b) : lkS ps qs j = lkB p a b := by
  simp [lkS, List.getD_eq_getElem?_getD, hp, ha, hb]
theorem rg_step {p : Nat → Bool} {k : Nat} (h : (List.range k).all p = true) (hk : p k = true) : (List.range (k + 1)).all p = true := by
  rw [List.range_succ, List.all_append, h]
  simp [hk]
theorem rg_no {p : Nat → Bool} {k n : Nat} (hk : k < n) (h : p k = false) : (List.range n).all p = false := by
  rw [List.all_eq_false]
  exact ⟨k, List.mem_range.2 hk, by simp [h]⟩
theorem ch_len {ps qs : List Int} (h : betwB ps.length 1 10 = false) : chB ps qs = false := by simp [chB, h]
theorem ch_len2 {ps qs : List Int} (h : ¬ qs.length = ps.length + 1) : chB ps qs = false := by simp [chB, h]
theorem ch_pl {ps qs : List Int} (h : qs.all plB = false) : chB ps qs = false := by simp [chB, h]
theorem ch_lk {ps qs : List Int} (h : (List.range ps.length).all (lkS ps qs) = false) : chB ps qs = false := by simp [chB, h]
theorem ch_yes {ps qs : List Int} (h0 : betwB ps.length 1 10 = true) (h1 : qs.length = ps.length + 1) (h2 : qs.all plB = true) (h3 : (List.range ps.length).all (lkS ps qs) = true) : chB ps qs = true := by simp [chB, h0, h1, h2, h3]
theorem ch_parts {ps qs : List Int} (h : chB ps qs = true) : (1 ≤ ps.length ∧ ps.length ≤ 10) ∧ qs.length = ps.length + 1 ∧ (∀ q ∈ qs, -1000000 ≤ q ∧ q ≤ 1000000) ∧ (∀ p ∈ ps, 0 ≤ p ∧ p ≤ 100) := by
  simp only [chB, Bool.and_eq_true, List.all_eq_true, betw_iff, decide_eq_true_eq, plB] at h
  refine ⟨by omega, h.1.2, h.2.1, fun p hp => ?_⟩
  obtain ⟨k, hk, he⟩ := List.getElem_of_mem hp
  have := h.2.2 k (List.mem_range.2 hk)
  simp only [lkS, lkB, Bool.and_eq_true, betw_iff, List.getD_eq_getElem?_getD] at this
  rw [List.getElem?_eq_getElem hk, he] at this
  exact this.1
theorem absI_sub (a b : Int) : absI (a - b) = absI (b - a) := by unfold absI; split <;> split <;> omega
theorem absI_bd {x : Int} (h : -2000000 ≤ x) (h' : x ≤ 2000000) : 0 ≤ absI x ∧ absI x ≤ 2000000 := by unfold absI; split <;> omega
theorem pl_at {qs : List Int} {k : Nat} {x : Int} (h : qs.all plB = true) (hx : qs[k]? = some x) : -1000000 ≤ x ∧ x ≤ 1000000 := by
  have := List.all_eq_true.1 h x (List.mem_of_getElem? hx)
  simpa [plB, betw_iff] using this
theorem all_step {α : Type} {p : α → Bool} {xs : List α} {k : Nat} {q : α} (h : (xs.take k).all p = true) (hq : xs[k]? = some q) (hp : p q = true) : (xs.take (k + 1)).all p = true := by
  rw [List.take_add_one, hq]
  simp [h, hp]
theorem all_no {α : Type} {p : α → Bool} {xs : List α} {k : Nat} {q : α} (hq : xs[k]? = some q) (hp : p q = false) : xs.all p = false := by
  rw [List.all_eq_false]
  exact ⟨q, List.mem_of_getElem? hq, by simp [hp]⟩
theorem all_end {α : Type} {p : α → Bool} {xs : List α} {n : Nat} (h : (xs.take n).all p = true) (hl : xs.length = n) : xs.all p = true := by
  rwa [List.take_of_length_le (by omega)] at h
theorem quietC {P : Program} {f : FuncId} {args : Array Value} {W : World} {C : World → Prop} {b b' : Bool} (h : Calls P f args W fun e w' => e = .returned (.bool b) ∧ W = w') (hb : b = b') (hC : C W) : Calls P f args W fun e w'' => e = .returned (.bool b') ∧ C w'' := by
  subst hb
  exact h.mono fun _ _ ⟨he, hw⟩ => ⟨he, hw ▸ hC⟩
theorem quietD {P : Program} {f : FuncId} {args : Array Value} {W : World} {C : World → Prop} {v : Value} (h : Calls P f args W fun e w' => e = .returned v ∧ W = w') (hC : C W) : Calls P f args W fun e w'' => e = .returned v ∧ C w'' :=
  h.mono fun _ _ ⟨he, hw⟩ => ⟨he, hw ▸ hC⟩

set_option maxHeartbeats 400000 in
theorem sPlace (n : Int) (w : World) : Calls Try.prog 69 #[.int .i64 n] w fun e w' => e = .returned (.bool (plB n)) ∧ w = w' := by
  go_enter Try.func69, Try.ntmps69
  go_wp2_with (first | (go_at_call 53; refine (l00In_any _ _ _ _).mono ?_; rintro e w' ⟨rfl, rfl⟩))
  go_ret
  exact ⟨rfl, rfl⟩
set_option maxHeartbeats 400000 in
theorem iPlace (n : Int) (w : World) : Calls Try.prog 64 #[.int .i64 n] w fun e w' => e = .returned (.bool (plB n)) ∧ w = w' := by
  go_enter Try.func64, Try.ntmps64
  go_wp2_with (first | (go_at_call 57; refine (between_any _ _ _ _).mono ?_; rintro e w' ⟨rfl, rfl⟩))
  go_ret
  exact ⟨rfl, rfl⟩
set_option maxHeartbeats 400000 in
theorem sSz (x : Int) (w : World) (h : -2000000 ≤ x) (h' : x ≤ 2000000) : Calls Try.prog 76 #[.int .i64 x] w fun e w' => e = .returned (.int .i64 (absI x)) ∧ w = w' := by
  by_cases hx : x < 0
  all_goals
    go_enter Try.func76, Try.ntmps76
    go_wp2
    go_ret
    exact ⟨ret_n (by unfold absI; split <;> omega), rfl⟩
set_option maxHeartbeats 400000 in
theorem iAbs (x : Int) (w : World) (h : -2000000 ≤ x) (h' : x ≤ 2000000) : Calls Try.prog 65 #[.int .i64 x] w fun e w' => e = .returned (.int .i64 (absI x)) ∧ w = w' := by
  by_cases hx : x < 0
  all_goals
    go_enter Try.func65, Try.ntmps65
    go_wp2
    go_ret
    exact ⟨ret_n (by unfold absI; split <;> omega), rfl⟩

section
attribute [local irreducible] wpQuiet
set_option maxRecDepth 100000 in
set_option maxHeartbeats 6400000 in
theorem sChainOk {A A' : Option Addr} {n c n' c' : Nat} {xs ys : List Int} {g : Nat} (w : World) (h : Reads w w.heap.size 1 A n (xs.map (Value.int .i64))) (h' : Reads w w.heap.size 1 A' n' (ys.map (Value.int .i64))) (hl : xs.length = n) (hl' : ys.length = n') (hm : n ≤ maxLen) (hm' : n' ≤ maxLen) (c0 : w.cell? ⟨g, 0, none⟩ = some (.slice A n c)) (c1 : w.cell? ⟨g, 1, none⟩ = some (.slice A' n' c')) :
    Calls Try.prog 63 #[.pointer (some ⟨g, 0, none⟩)] w (RetQ (.bool (chB xs ys)) w) := by
  unfold maxLen at hm hm'
  have HL := Lib.hid hl; have HL' := Lib.hid hl'
  have W0 : IntKind.i64.wrap ((n : Int) + 1) = (n : Int) + 1 ∨ (n : Int) = 9223372036854775807 := by
    by_cases hn : (n : Int) = 9223372036854775807
    · exact .inr hn
    · exact .inl (IntWalk.i64_in _ (by omega))
  cases h1 : betwB (n : Int) 1 10
  · have HN := Lib.hid (ch_len (ps := xs) (qs := ys) (by rw [hl]; exact h1))
    clear hl hl' W0
    go_enter Try.func63, Try.ntmps63
    go_wp2_with fail
    go_quiet ((go_at_call 53; refine quietC (l00In_any _ _ _ _) h1 ?_; first | exact ⟨_, rfl⟩ | exact ⟨_, (World.drewN_drewN _ _ _).symm⟩))
    go_wp2
    go_ret
    exact ⟨ret_b HN.out.symm, _, rfl⟩
  obtain ⟨n0, n1⟩ := betw_iff.1 h1
  clear W0
  have W0 : IntKind.i64.wrap ((n : Int) + 1) = (n : Int) + 1 := IntWalk.i64_in _ (by omega)
  by_cases hn : n' = n + 1
  rotate_left
  · have b0 : ((n' : Int) == (n : Int) + 1) = false := by simp; omega
    have b1 : ((n' : Int) != (n : Int) + 1) = true := by simp [bne, b0]
    have HN := Lib.hid (ch_len2 (ps := xs) (qs := ys) (by rw [hl, hl']; exact hn))
    clear hl hl'
    go_enter Try.func63, Try.ntmps63
    go_wp2_with fail
    go_quiet ((go_at_call 53; refine quietC (l00In_any _ _ _ _) h1 ?_; first | exact ⟨_, rfl⟩ | exact ⟨_, (World.drewN_drewN _ _ _).symm⟩))
    go_wp2
    go_ret
    exact ⟨ret_b HN.out.symm, _, rfl⟩
  have b0 : ((n' : Int) == (n : Int) + 1) = true := by simp; omega
  have b1 : ((n' : Int) != (n : Int) + 1) = false := by simp [bne, b0]
  have HNN := Lib.hid hn
  have H1 : Hid (betwB (xs.length : Int) 1 10 = true) := by unfold Hid; rw [hl]; exact h1
  have hi : n' ≤ n + 1 := by omega
  have hi2 : n + 1 ≤ n' := by omega
  clear hl hl' hn
  go_enter Try.func63, Try.ntmps63
  go_wp2_with fail
  go_quiet ((go_at_call 53; refine quietC (l00In_any _ _ _ _) h1 ?_; first | exact ⟨_, rfl⟩ | exact ⟨_, (World.drewN_drewN _ _ _).symm⟩))
  clear b0 b1 W0
  have g1 := h; have g2 := h'
  go_wp2
  go_loopw [3] (fun i wr => ∃ k m : Nat, k ≤ n' ∧ i = .int .i64 k ∧ Hid ((ys.take k).all plB = true) ∧ wr = w.drewN m) (fun i _ => n' - (intOf i).toNat)
  case atStart => exact ⟨0, _, Nat.zero_le _, rfl, by simp [Hid], by first | rfl | exact World.drewN_drewN _ _ _⟩
  case round =>
    obtain ⟨k, m, hk, rfl, hd, rfl⟩ := hrel
    by_cases hlt : k < n'
    · obtain ⟨ad, x, rfl, _, hx, hc⟩ := g2.int_at hlt
      have HX := Lib.hid hx; clear hx
      cases e1 : plB x
      · have HN := Lib.hid (ch_pl (ps := xs) (all_no (p := plB) HX.out e1))
        go_wp2_with (first | (go_at_call 69; refine (sPlace _ _).mono ?_; rintro e w' ⟨rfl, rfl⟩))
        go_ret
        exact ⟨ret_b HN.out.symm, m, rfl⟩
      · have HS := Lib.hid (all_step (p := plB) hd.out HX.out e1)
        go_wp2_with (first | (go_at_call 69; refine (sPlace _ _).mono ?_; rintro e w' ⟨rfl, rfl⟩))
        go_roundw
        case rel => exact ⟨k + 1, m, by omega, by go_num, HS, rfl⟩
        case measure => simp [intOf]; omega
    · obtain rfl : k = n' := by omega
      have HP := Lib.hid (all_end hd.out HL'.out)
      go_wp2
      go_loopw [4] (fun i wr => ∃ j m : Nat, j ≤ n ∧ i = .int .i64 j ∧ Hid ((List.range j).all (lkS xs ys) = true) ∧ wr = w.drewN m) (fun i _ => n - (intOf i).toNat)
      case atStart => exact ⟨0, _, Nat.zero_le _, rfl, by simp [Hid], by first | rfl | exact World.drewN_drewN _ _ _⟩
      case round =>
        obtain ⟨j, m2, hj, rfl, hd2, rfl⟩ := hrel
        by_cases hlt2 : j < n
        · obtain ⟨ad1, p, rfl, _, hp, hcp⟩ := g1.int_at hlt2
          obtain ⟨a, ha⟩ : ∃ a, ys[j]? = some a := ⟨_, List.getElem?_eq_getElem (by rw [HL'.out]; omega)⟩
          obtain ⟨b, hb'⟩ : ∃ b, ys[j + 1]? = some b := ⟨_, List.getElem?_eq_getElem (by rw [HL'.out]; omega)⟩
          obtain ⟨bk2, of2, rfl, _, hc2⟩ := g2.lits (by decide) (by omega)
          have hca := hc2 j (.int .i64 a) (by rw [List.getElem?_map, ha]; rfl)
          have hcb := hc2 (j + 1) (.int .i64 b) (by rw [List.getElem?_map, hb']; rfl)
          clear hc2
          obtain ⟨a0, a1⟩ := pl_at HP.out ha
          obtain ⟨b0, b1⟩ := pl_at HP.out hb'
          have HK := Lib.hid (lkS_at hp ha hb')
          clear hp ha hb'
          have ki0 : (0 : Int) ≤ (j : Int) := Int.natCast_nonneg _
          have ki1 : (j : Int) < (n : Int) := by omega
          have ki2 : (j : Int) < (k : Int) := by omega
          have ki3 : (j : Int) + 1 < (k : Int) := by omega
          have ki4 : (0 : Int) ≤ (j : Int) + 1 := by omega
          have AB := absI_bd (x := a - b) (by omega) (by omega)
          have HC := Lib.hid (fun W => sSz (a - b) W (by omega) (by omega))
          have W1 : IntKind.i64.wrap ((j : Int) + 1) = (j : Int) + 1 := IntWalk.i64_in _ (by omega)
          have W2 : IntKind.i64.wrap (a - b) = a - b := IntWalk.i64_in _ (by omega)
          have W3 : ((j : Int) + 1).toNat = j + 1 := by omega
          cases e1 : betwB p 0 100
          · have HN := Lib.hid (ch_lk (ps := xs) (qs := ys) (rg_no (k := j) (by rw [HL.out]; exact hlt2) (by rw [HK.out, lkB, e1]; rfl)))
            go_wp2_with fail
            go_quiet (((first | (go_at_call 53; refine quietC (l00In_any _ _ _ _) e1 ?_) | (go_at_call 76; refine quietD (HC.out _) ?_)); first | exact ⟨_, rfl⟩ | exact ⟨_, (World.drewN_drewN _ _ _).symm⟩))
            go_wp2
            go_ret
            exact ⟨ret_b HN.out.symm, _, by first | rfl | exact World.drewN_drewN _ _ _⟩
          by_cases h2 : absI (a - b) ≤ p
          · have d2 : decide (p < absI (a - b)) = false := by simpa using h2
            have HS := Lib.hid (rg_step hd2.out (by rw [HK.out, lkB, e1]; simpa using h2))
            go_wp2_with fail
            go_quiet (((first | (go_at_call 53; refine quietC (l00In_any _ _ _ _) e1 ?_) | (go_at_call 76; refine quietD (HC.out _) ?_)); first | exact ⟨_, rfl⟩ | exact ⟨_, (World.drewN_drewN _ _ _).symm⟩))
            clear W1 W2 W3
            go_wp2
            go_roundw
            case rel => exact ⟨j + 1, _, by omega, by go_num, HS, by first | rfl | exact World.drewN_drewN _ _ _⟩
            case measure => simp [intOf]; omega
          · have d2 : decide (p < absI (a - b)) = true := by simpa using h2
            have HN := Lib.hid (ch_lk (ps := xs) (qs := ys) (rg_no (k := j) (by rw [HL.out]; exact hlt2) (by rw [HK.out, lkB, e1]; simpa using h2)))
            go_wp2_with fail
            go_quiet (((first | (go_at_call 53; refine quietC (l00In_any _ _ _ _) e1 ?_) | (go_at_call 76; refine quietD (HC.out _) ?_)); first | exact ⟨_, rfl⟩ | exact ⟨_, (World.drewN_drewN _ _ _).symm⟩))
            go_wp2
            go_ret
            exact ⟨ret_b HN.out.symm, _, by first | rfl | exact World.drewN_drewN _ _ _⟩
        · obtain rfl : j = n := by omega
          have HN := Lib.hid (ch_yes H1.out (by rw [HL.out, HL'.out]; exact HNN.out) HP.out (by rw [HL.out]; exact hd2.out))
          go_wp2
          go_ret
          exact ⟨ret_b HN.out.symm, _, by first | rfl | exact World.drewN_drewN _ _ _⟩

set_option maxRecDepth 100000 in
set_option maxHeartbeats 6400000 in
theorem iValidCh {A A' : Option Addr} {n c n' c' : Nat} {xs ys : List Int} (w : World) (h : Reads w w.heap.size 1 A n (xs.map (Value.int .i64))) (h' : Reads w w.heap.size 1 A' n' (ys.map (Value.int .i64))) (hl : xs.length = n) (hl' : ys.length = n') (hm : n ≤ maxLen) (hm' : n' ≤ maxLen) :
    Calls Try.prog 31 #[.agg #[.slice A n c, .slice A' n' c']] w fun e w' => e = .returned (.bool (chB xs ys)) ∧ Below w.heap.size w w' := by
  unfold maxLen at hm hm'
  have HL := Lib.hid hl; have HL' := Lib.hid hl'
  cases h1 : betwB (n : Int) 1 10
  · have HN := Lib.hid (ch_len (ps := xs) (qs := ys) (by rw [hl]; exact h1))
    clear hl hl'
    go_enter Try.func31, Try.ntmps31
    go_wp2_with (first | (go_at_call 57; refine (between_any _ _ _ _).mono ?_; rintro e w' ⟨rfl, rfl⟩))
    go_ret
    exact ⟨ret_b HN.out.symm, (by repeat' (first | assumption | exact Below.refl _ _ | refine Below.drew ?_ | refine belN ?_ _ | refine Below.alloc ?_ (by first | omega | (simp; done) | (simp; omega)) _ | refine Below.setCell ?_ (by first | omega | (simp; done) | (simp; omega)) _))⟩
  obtain ⟨n0, n1⟩ := betw_iff.1 h1
  by_cases hn : n' = n + 1
  rotate_left
  · have b0 : ((n' : Int) == (n : Int) + 1) = false := by simp; omega
    have b1 : ((n' : Int) != (n : Int) + 1) = true := by simp [bne, b0]
    have HN := Lib.hid (ch_len2 (ps := xs) (qs := ys) (by rw [hl, hl']; exact hn))
    clear hl hl'
    go_enter Try.func31, Try.ntmps31
    go_wp2_with (first | (go_at_call 57; refine (between_any _ _ _ _).mono ?_; rintro e w' ⟨rfl, rfl⟩))
    go_ret
    exact ⟨ret_b HN.out.symm, (by repeat' (first | assumption | exact Below.refl _ _ | refine Below.drew ?_ | refine belN ?_ _ | refine Below.alloc ?_ (by first | omega | (simp; done) | (simp; omega)) _ | refine Below.setCell ?_ (by first | omega | (simp; done) | (simp; omega)) _))⟩
  have b0 : ((n' : Int) == (n : Int) + 1) = true := by simp; omega
  have b1 : ((n' : Int) != (n : Int) + 1) = false := by simp [bne, b0]
  have HNN := Lib.hid hn
  have H1 : Hid (betwB (xs.length : Int) 1 10 = true) := by unfold Hid; rw [hl]; exact h1
  have hi : n' ≤ n + 1 := by omega
  have hi2 : n + 1 ≤ n' := by omega
  clear hl hl' hn
  have g1 := (h.alloc (Nat.le_refl _) (.cells #[.slice A n c, .slice A' n' c'] 34)).more (B' := w.heap.size + 1) (by omega)
  have g2 := (h'.alloc (Nat.le_refl _) (.cells #[.slice A n c, .slice A' n' c'] 34)).more (B' := w.heap.size + 1) (by omega)
  clear h h'
  go_enter Try.func31, Try.ntmps31
  go_wp2_with (first | (go_at_call 57; refine (between_any _ _ _ _).mono ?_; rintro e w' ⟨rfl, rfl⟩))
  clear b0 b1
  go_loopw [25] (fun i wr => ∃ k m : Nat, k ≤ n' ∧ i = .int .i64 k ∧ Hid ((ys.take k).all plB = true) ∧ wr = (w.alloc (.cells #[.slice A n c, .slice A' n' c'] 34)).drewN m) (fun i _ => n' - (intOf i).toNat)
  case atStart => exact ⟨0, 0, Nat.zero_le _, rfl, by simp [Hid], by first | rfl | exact World.drewN_drewN _ _ _⟩
  case round =>
    obtain ⟨k, m, hk, rfl, hd, rfl⟩ := hrel
    by_cases hlt : k < n'
    · obtain ⟨ad, x, rfl, _, hx, hc⟩ := g2.int_at hlt
      have HX := Lib.hid hx; clear hx
      cases e1 : plB x
      · have HN := Lib.hid (ch_pl (ps := xs) (all_no (p := plB) HX.out e1))
        go_wp2_with (first | (go_at_call 64; refine (iPlace _ _).mono ?_; rintro e w' ⟨rfl, rfl⟩))
        go_ret
        exact ⟨ret_b HN.out.symm, (by repeat' (first | assumption | exact Below.refl _ _ | refine Below.drew ?_ | refine belN ?_ _ | refine Below.alloc ?_ (by first | omega | (simp; done) | (simp; omega)) _ | refine Below.setCell ?_ (by first | omega | (simp; done) | (simp; omega)) _))⟩
      · have HS := Lib.hid (all_step (p := plB) hd.out HX.out e1)
        go_wp2_with (first | (go_at_call 64; refine (iPlace _ _).mono ?_; rintro e w' ⟨rfl, rfl⟩))
        go_roundw
        case rel => exact ⟨k + 1, m, by omega, by go_num, HS, rfl⟩
        case measure => simp [intOf]; omega
    · obtain rfl : k = n' := by omega
      have HP := Lib.hid (all_end hd.out HL'.out)
      go_wp2
      go_loopw [36] (fun i wr => ∃ j m : Nat, j ≤ n ∧ i = .int .i64 j ∧ Hid ((List.range j).all (lkS xs ys) = true) ∧ wr = (w.alloc (.cells #[.slice A n c, .slice A' k c'] 34)).drewN m) (fun i _ => n - (intOf i).toNat)
      case atStart => exact ⟨0, _, Nat.zero_le _, rfl, by simp [Hid], by first | rfl | exact World.drewN_drewN _ _ _⟩
      case round =>
        obtain ⟨j, m2, hj, rfl, hd2, rfl⟩ := hrel
        by_cases hlt2 : j < n
        · obtain ⟨ad1, p, rfl, _, hp, hcp⟩ := g1.int_at hlt2
          obtain ⟨a, ha⟩ : ∃ a, ys[j]? = some a := ⟨_, List.getElem?_eq_getElem (by rw [HL'.out]; omega)⟩
          obtain ⟨b, hb'⟩ : ∃ b, ys[j + 1]? = some b := ⟨_, List.getElem?_eq_getElem (by rw [HL'.out]; omega)⟩
          obtain ⟨bk2, of2, rfl, _, hc2⟩ := g2.lits (by decide) (by omega)
          have hca := hc2 j (.int .i64 a) (by rw [List.getElem?_map, ha]; rfl)
          have hcb := hc2 (j + 1) (.int .i64 b) (by rw [List.getElem?_map, hb']; rfl)
          clear hc2
          obtain ⟨a0, a1⟩ := pl_at HP.out ha
          obtain ⟨b0, b1⟩ := pl_at HP.out hb'
          have HK := Lib.hid (lkS_at hp ha hb')
          clear hp ha hb'
          have ki0 : (0 : Int) ≤ (j : Int) := Int.natCast_nonneg _
          have ki1 : (j : Int) < (n : Int) := by omega
          have ki2 : (j : Int) < (k : Int) := by omega
          have ki3 : (j : Int) + 1 < (k : Int) := by omega
          have ki4 : (0 : Int) ≤ (j : Int) + 1 := by omega
          have AB := absI_bd (x := b - a) (by omega) (by omega)
          have HC := Lib.hid (fun W => iAbs (b - a) W (by omega) (by omega))
          have W1 : IntKind.i64.wrap ((j : Int) + 1) = (j : Int) + 1 := IntWalk.i64_in _ (by omega)
          have W2 : IntKind.i64.wrap (b - a) = b - a := IntWalk.i64_in _ (by omega)
          have W3 : ((j : Int) + 1).toNat = j + 1 := by omega
          cases e1 : betwB p 0 100
          · have HN := Lib.hid (ch_lk (ps := xs) (qs := ys) (rg_no (k := j) (by rw [HL.out]; exact hlt2) (by rw [HK.out, lkB, e1]; rfl)))
            go_wp2_with fail
            go_quiet (((first | (go_at_call 57; refine quietC (between_any _ _ _ _) e1 ?_) | (go_at_call 65; refine quietD (HC.out _) ?_)); first | exact ⟨_, rfl⟩ | exact ⟨_, (World.drewN_drewN _ _ _).symm⟩))
            go_wp2
            go_ret
            exact ⟨ret_b HN.out.symm, (by repeat' (first | assumption | exact Below.refl _ _ | refine Below.drew ?_ | refine belN ?_ _ | refine Below.alloc ?_ (by first | omega | (simp; done) | (simp; omega)) _ | refine Below.setCell ?_ (by first | omega | (simp; done) | (simp; omega)) _))⟩
          by_cases h2 : absI (b - a) ≤ p
          · have d2 : decide (p < absI (b - a)) = false := by simpa using h2
            have HS := Lib.hid (rg_step hd2.out (by rw [HK.out, lkB, e1]; rw [absI_sub]; simpa using h2))
            go_wp2_with fail
            go_quiet (((first | (go_at_call 57; refine quietC (between_any _ _ _ _) e1 ?_) | (go_at_call 65; refine quietD (HC.out _) ?_)); first | exact ⟨_, rfl⟩ | exact ⟨_, (World.drewN_drewN _ _ _).symm⟩))
            clear W1 W2 W3
            go_wp2
            go_roundw
            case rel => exact ⟨j + 1, _, by omega, by go_num, HS, by first | rfl | exact World.drewN_drewN _ _ _⟩
            case measure => simp [intOf]; omega
          · have d2 : decide (p < absI (b - a)) = true := by simpa using h2
            have HN := Lib.hid (ch_lk (ps := xs) (qs := ys) (rg_no (k := j) (by rw [HL.out]; exact hlt2) (by rw [HK.out, lkB, e1]; rw [absI_sub]; simpa using h2)))
            go_wp2_with fail
            go_quiet (((first | (go_at_call 57; refine quietC (between_any _ _ _ _) e1 ?_) | (go_at_call 65; refine quietD (HC.out _) ?_)); first | exact ⟨_, rfl⟩ | exact ⟨_, (World.drewN_drewN _ _ _).symm⟩))
            go_wp2
            go_ret
            exact ⟨ret_b HN.out.symm, (by repeat' (first | assumption | exact Below.refl _ _ | refine Below.drew ?_ | refine belN ?_ _ | refine Below.alloc ?_ (by first | omega | (simp; done) | (simp; omega)) _ | refine Below.setCell ?_ (by first | omega | (simp; done) | (simp; omega)) _))⟩
        · obtain rfl : j = n := by omega
          have HN := Lib.hid (ch_yes H1.out (by rw [HL.out, HL'.out]; exact HNN.out) HP.out (by rw [HL.out]; exact hd2.out))
          go_wp2
          go_ret
          exact ⟨ret_b HN.out.symm, (by repeat' (first | assumption | exact Below.refl _ _ | refine Below.drew ?_ | refine belN ?_ _ | refine Below.alloc ?_ (by first | omega | (simp; done) | (simp; omega)) _ | refine Below.setCell ?_ (by first | omega | (simp; done) | (simp; omega)) _))⟩

set_option maxHeartbeats 800000 in
theorem sValidCh {A A' : Option Addr} {n c n' c' : Nat} {xs ys : List Int} (w : World) (h : Reads w w.heap.size 1 A n (xs.map (Value.int .i64))) (h' : Reads w w.heap.size 1 A' n' (ys.map (Value.int .i64))) (hl : xs.length = n) (hl' : ys.length = n') (hm : n ≤ maxLen) (hm' : n' ≤ maxLen) :
    Calls Try.prog 30 #[.agg #[.slice A n c, .slice A' n' c']] w fun e w' => e = .returned (.bool (chB xs ys)) ∧ Below w.heap.size w w' := by
  have HL := Lib.hid hl; have HL' := Lib.hid hl'; clear hl hl'
  go_enter Try.func30, Try.ntmps30
  go_wp2_with fail
  refine (sChainOk _ ((h.alloc (Nat.le_refl _) _).more (by simp)) ((h'.alloc (Nat.le_refl _) _).more (by simp)) HL.out HL'.out hm hm' (by simp; rfl) (by simp; rfl)).mono ?_
  rintro e w' ⟨rfl, k, rfl⟩
  go_wp2
  go_ret
  exact ⟨rfl, (by repeat' (first | assumption | exact Below.refl _ _ | refine Below.drew ?_ | refine belN ?_ _ | refine Below.alloc ?_ (by first | omega | (simp; done) | (simp; omega)) _ | refine Below.setCell ?_ (by first | omega | (simp; done) | (simp; omega)) _))⟩
end
end Go.Proofs.Ytndodfolpjkppaa
