/- Chains: the sum of all plays; where the first place must go. No condition. -/
import Derived.Test.YtndodfolpjkppaaChainS
namespace Go.Proofs.Ytndodfolpjkppaa
open Go.RowKit

def totT (ps : List Int) : Nat → Int
  | 0 => 0
  | k + 1 => totT ps k + ps.getD k 0
theorem totT_step {ps : List Int} {k : Nat} {p : Int} (h : ps[k]? = some p) : totT ps (k + 1) = totT ps k + p := by simp [totT, List.getD_eq_getElem?_getD, h]
theorem totT_bd {ps qs : List Int} (h : chB ps qs = true) : ∀ k, k ≤ ps.length → 0 ≤ totT ps k ∧ totT ps k ≤ 100 * (k : Int)
  | 0, _ => by simp [totT]
  | k + 1, hk => by
    have ih := totT_bd h k (by omega)
    have e1 : ps[k]? = some (ps[k]'(by omega)) := List.getElem?_eq_getElem (by omega)
    have := (ch_parts h).2.2.2 _ (List.mem_of_getElem? e1)
    rw [totT_step e1]
    omega
theorem pl_in {ps qs : List Int} {k : Nat} {p : Int} (h : chB ps qs = true) (hp : ps[k]? = some p) : 0 ≤ p ∧ p ≤ 100 := (ch_parts h).2.2.2 _ (List.mem_of_getElem? hp)
theorem pc_in {ps qs : List Int} {k : Nat} {p : Int} (h : chB ps qs = true) (hp : qs[k]? = some p) : -1000000 ≤ p ∧ p ≤ 1000000 := (ch_parts h).2.2.1 _ (List.mem_of_getElem? hp)

set_option maxHeartbeats 1600000 in
theorem sTotal {A A' : Option Addr} {n c n' c' : Nat} {xs ys : List Int} {g : Nat} (w : World) (h : Reads w w.heap.size 1 A n (xs.map (Value.int .i64))) (h' : Reads w w.heap.size 1 A' n' (ys.map (Value.int .i64))) (hl : xs.length = n) (hl' : ys.length = n') (hm : n ≤ maxLen) (hm' : n' ≤ maxLen) (c0 : w.cell? ⟨g, 0, none⟩ = some (.slice A n c)) (c1 : w.cell? ⟨g, 1, none⟩ = some (.slice A' n' c')) (hok : chB xs ys = true) :
    Calls Try.prog 67 #[.pointer (some ⟨g, 0, none⟩)] w fun e w' => e = .returned (.int .i64 (totT xs n)) ∧ w = w' := by
  unfold maxLen at hm hm'
  have HL := Lib.hid hl; clear hl
  have HO := Lib.hid hok; clear hok
  go_enter Try.func67, Try.ntmps67
  go_wp2
  go_loop [3, 4] (fun s i => ∃ k : Nat, k ≤ n ∧ i = .int .i64 k ∧ s = .int .i64 (totT xs k)) (fun _ i => n - (intOf i).toNat)
  case atStart => exact ⟨0, Nat.zero_le _, rfl, rfl⟩
  case round =>
    obtain ⟨k, hk, rfl, rfl⟩ := hrel
    have tb := totT_bd HO.out k (by rw [HL.out]; exact hk)
    have kn : (k : Int) ≤ 10 := by have := (ch_parts HO.out).1; have := HL.out; omega
    by_cases hlt : k < n
    · obtain ⟨ad, p, rfl, _, hp, hc⟩ := h.int_at hlt
      have pb := pl_in HO.out hp
      have HS := Lib.hid (totT_step hp); clear hp
      go_wp2
      go_round
      case rel => exact ⟨k + 1, by omega, by go_num, by rw [HS.out]⟩
      case measure => simp [intOf]; omega
    · obtain rfl : k = n := by omega
      go_wp2
      go_ret
      exact ⟨rfl, rfl⟩
set_option maxHeartbeats 1600000 in
theorem iTotal {A A' : Option Addr} {n c n' c' : Nat} {xs ys : List Int} (w : World) (h : Reads w w.heap.size 1 A n (xs.map (Value.int .i64))) (h' : Reads w w.heap.size 1 A' n' (ys.map (Value.int .i64))) (hl : xs.length = n) (hl' : ys.length = n') (hm : n ≤ maxLen) (hm' : n' ≤ maxLen) (hok : chB xs ys = true) :
    Calls Try.prog 68 #[.agg #[.slice A n c, .slice A' n' c']] w fun e w' => e = .returned (.int .i64 (totT xs n)) ∧ Below w.heap.size w w' := by
  unfold maxLen at hm hm'
  have HL := Lib.hid hl; clear hl
  have HO := Lib.hid hok; clear hok
  have g1 := (h.alloc (Nat.le_refl _) (.cells #[.slice A n c, .slice A' n' c'] 34)).more (B' := w.heap.size + 1) (by omega)
  go_enter Try.func68, Try.ntmps68
  go_wp2
  go_loop [3, 9] (fun s i => ∃ k : Nat, k ≤ n ∧ i = .int .i64 k ∧ s = .int .i64 (totT xs k)) (fun _ i => n - (intOf i).toNat)
  case atStart => exact ⟨0, Nat.zero_le _, rfl, rfl⟩
  case round =>
    obtain ⟨k, hk, rfl, rfl⟩ := hrel
    have tb := totT_bd HO.out k (by rw [HL.out]; exact hk)
    have kn : (k : Int) ≤ 10 := by have := (ch_parts HO.out).1; have := HL.out; omega
    by_cases hlt : k < n
    · obtain ⟨ad, p, rfl, _, hp, hc⟩ := g1.int_at hlt
      have pb := pl_in HO.out hp
      have HS := Lib.hid (totT_step hp); clear hp
      go_wp2
      go_round
      case rel => exact ⟨k + 1, by omega, by go_num, by rw [HS.out]⟩
      case measure => simp [intOf]; omega
    · obtain rfl : k = n := by omega
      go_wp2
      go_ret
      exact ⟨rfl, (by repeat' (first | assumption | exact Below.refl _ _ | refine Below.drew ?_ | refine belN ?_ _ | refine Below.alloc ?_ (by first | omega | (simp; done) | (simp; omega)) _ | refine Below.setCell ?_ (by first | omega | (simp; done) | (simp; omega)) _))⟩
def tpV (xs ys : List Int) : Int := if chB xs ys then totT xs xs.length else 0
def tpC (xs ys : List Int) : Int := if chB xs ys then 0 else 1
theorem tp_no {xs ys : List Int} (h : chB xs ys = false) : tpV xs ys = 0 ∧ tpC xs ys = 1 := by simp [tpV, tpC, h]
theorem tp_ok {xs ys : List Int} (h : chB xs ys = true) : tpV xs ys = totT xs xs.length ∧ tpC xs ys = 0 := by simp [tpV, tpC, h]

set_option maxHeartbeats 1600000 in
theorem sTotalPlay {A A' : Option Addr} {n c n' c' : Nat} {xs ys : List Int} (w : World) (h : Reads w w.heap.size 1 A n (xs.map (Value.int .i64))) (h' : Reads w w.heap.size 1 A' n' (ys.map (Value.int .i64))) (hl : xs.length = n) (hl' : ys.length = n') (hm : n ≤ maxLen) (hm' : n' ≤ maxLen) :
    Calls Try.prog 34 #[.agg #[.slice A n c, .slice A' n' c']] w fun e w' => e = .returned (.tuple #[.int .i64 (tpV xs ys), .int .i64 (tpC xs ys)]) ∧ Below w.heap.size w w' := by
  have HL := Lib.hid hl; have HL' := Lib.hid hl'
  cases hk : chB xs ys
  · have HE := Lib.hid (tp_no hk)
    clear hl hl'
    go_enter Try.func34, Try.ntmps34
    go_wp2_with fail
    refine (sChainOk _ ((h.alloc (Nat.le_refl _) _).more (by simp)) ((h'.alloc (Nat.le_refl _) _).more (by simp)) HL.out HL'.out hm hm' (by first | (simp; done) | (simp; rfl)) (by first | (simp; done) | (simp; rfl))).mono ?_
    rintro e w' ⟨rfl, k1, rfl⟩
    rw [hk]
    go_wp2
    go_ret2
    obtain ⟨e1, e2⟩ := HE.out
    rw [e1, e2]
    exact ⟨rfl, (by repeat' (first | assumption | exact Below.refl _ _ | refine Below.drew ?_ | refine belN ?_ _ | refine Below.alloc ?_ (by first | omega | (simp; done) | (simp; omega)) _ | refine Below.setCell ?_ (by first | omega | (simp; done) | (simp; omega)) _))⟩
  · have HE := Lib.hid (tp_ok hk)
    have HK := Lib.hid hk
    clear hl hl' hk
    go_enter Try.func34, Try.ntmps34
    go_wp2_with fail
    refine (sChainOk _ ((h.alloc (Nat.le_refl _) _).more (by simp)) ((h'.alloc (Nat.le_refl _) _).more (by simp)) HL.out HL'.out hm hm' (by first | (simp; done) | (simp; rfl)) (by first | (simp; done) | (simp; rfl))).mono ?_
    rintro e w' ⟨rfl, k1, rfl⟩
    rw [HK.out]
    go_wp2_with fail
    refine (sTotal _ (((h.alloc (Nat.le_refl _) _).more (by simp)).drewN _) (((h'.alloc (Nat.le_refl _) _).more (by simp)).drewN _) HL.out HL'.out hm hm' (by first | (simp; done) | (simp; rfl)) (by first | (simp; done) | (simp; rfl)) HK.out).mono ?_
    rintro e w' ⟨rfl, rfl⟩
    go_wp2
    go_ret2
    obtain ⟨e1, e2⟩ := HE.out
    rw [e1, e2, HL.out]
    exact ⟨rfl, (by repeat' (first | assumption | exact Below.refl _ _ | refine Below.drew ?_ | refine belN ?_ _ | refine Below.alloc ?_ (by first | omega | (simp; done) | (simp; omega)) _ | refine Below.setCell ?_ (by first | omega | (simp; done) | (simp; omega)) _))⟩
set_option maxHeartbeats 1600000 in
theorem iTotalPlay {A A' : Option Addr} {n c n' c' : Nat} {xs ys : List Int} (w : World) (h : Reads w w.heap.size 1 A n (xs.map (Value.int .i64))) (h' : Reads w w.heap.size 1 A' n' (ys.map (Value.int .i64))) (hl : xs.length = n) (hl' : ys.length = n') (hm : n ≤ maxLen) (hm' : n' ≤ maxLen) :
    Calls Try.prog 35 #[.agg #[.slice A n c, .slice A' n' c']] w fun e w' => e = .returned (.tuple #[.int .i64 (tpV xs ys), .int .i64 (tpC xs ys)]) ∧ Below w.heap.size w w' := by
  have HL := Lib.hid hl; have HL' := Lib.hid hl'
  cases hk : chB xs ys
  · have HE := Lib.hid (tp_no hk)
    clear hl hl'
    go_enter Try.func35, Try.ntmps35
    go_wp2_with fail
    refine absW ?_
    intro w0 hw
    have hb0 : Below w.heap.size w w0 := by rw [hw]; exact (by repeat' (first | assumption | exact Below.refl _ _ | refine Below.drew ?_ | refine belN ?_ _ | refine Below.alloc ?_ (by first | omega | (simp; done) | (simp; omega)) _ | refine Below.setCell ?_ (by first | omega | (simp; done) | (simp; omega)) _))
    have c0 : w0.cell? ⟨w.heap.size, 0, none⟩ = some (.slice A n c) := by rw [hw]; simp
    have c1 : w0.cell? ⟨w.heap.size, 1, none⟩ = some (.slice A' n' c') := by rw [hw]; simp
    clear hw
    refine (iValidCh _ (rdB h hb0) (rdB h' hb0) HL.out HL'.out hm hm').mono ?_
    rintro e w1 ⟨rfl, hb⟩
    replace c0 := cellB c0 hb; replace c1 := cellB c1 hb
    replace hb0 := bel2 hb0 hb
    clear hb
    rw [hk]
    go_wp2
    go_ret2
    obtain ⟨e1, e2⟩ := HE.out
    rw [e1, e2]
    exact ⟨rfl, hb0⟩
  · have HE := Lib.hid (tp_ok hk)
    have HK := Lib.hid hk
    clear hl hl' hk
    go_enter Try.func35, Try.ntmps35
    go_wp2_with fail
    refine absW ?_
    intro w0 hw
    have hb0 : Below w.heap.size w w0 := by rw [hw]; exact (by repeat' (first | assumption | exact Below.refl _ _ | refine Below.drew ?_ | refine belN ?_ _ | refine Below.alloc ?_ (by first | omega | (simp; done) | (simp; omega)) _ | refine Below.setCell ?_ (by first | omega | (simp; done) | (simp; omega)) _))
    have c0 : w0.cell? ⟨w.heap.size, 0, none⟩ = some (.slice A n c) := by rw [hw]; simp
    have c1 : w0.cell? ⟨w.heap.size, 1, none⟩ = some (.slice A' n' c') := by rw [hw]; simp
    clear hw
    refine (iValidCh _ (rdB h hb0) (rdB h' hb0) HL.out HL'.out hm hm').mono ?_
    rintro e w1 ⟨rfl, hb⟩
    replace c0 := cellB c0 hb; replace c1 := cellB c1 hb
    replace hb0 := bel2 hb0 hb
    clear hb
    rw [HK.out]
    go_wp2_with fail
    refine (iTotal _ (rdB h hb0) (rdB h' hb0) HL.out HL'.out hm hm' HK.out).mono ?_
    rintro e w2 ⟨rfl, hb⟩
    go_wp2
    go_ret2
    obtain ⟨e1, e2⟩ := HE.out
    rw [e1, e2, HL.out]
    exact ⟨rfl, bel2 hb0 hb⟩

/-- Where the first place goes. -/
def mnO (xs ys : List Int) (g : Int) : Int := if ys.getD xs.length 0 < g then g + totT xs xs.length else if g < ys.getD xs.length 0 then g - totT xs xs.length else ys.getD 0 0
def mnP (xs ys : List Int) (g : Int) : Bool := chB xs ys && plB g && plB (mnO xs ys g)
def mnV (xs ys : List Int) (g : Int) : Int := if mnP xs ys g then mnO xs ys g else 0
def mnC (xs ys : List Int) (g : Int) : Int := if chB xs ys then (if plB g && plB (mnO xs ys g) then 0 else 2) else 1
theorem mn_1 {xs ys : List Int} {g : Int} (h : chB xs ys = false) : mnV xs ys g = 0 ∧ mnC xs ys g = 1 := by simp [mnV, mnC, mnP, h]
theorem mn_2 {xs ys : List Int} {g : Int} (h : chB xs ys = true) (h1 : plB g = false) : mnV xs ys g = 0 ∧ mnC xs ys g = 2 := by simp [mnV, mnC, mnP, h, h1]
theorem mn_3 {xs ys : List Int} {g : Int} (h : chB xs ys = true) (h1 : plB g = true) (h2 : plB (mnO xs ys g) = false) : mnV xs ys g = 0 ∧ mnC xs ys g = 2 := by simp [mnV, mnC, mnP, h, h1, h2]
theorem mn_0 {xs ys : List Int} {g : Int} (h : chB xs ys = true) (h1 : plB g = true) (h2 : plB (mnO xs ys g) = true) : mnV xs ys g = mnO xs ys g ∧ mnC xs ys g = 0 := by simp [mnV, mnC, mnP, h, h1, h2]

set_option maxRecDepth 100000 in
set_option maxHeartbeats 3200000 in
theorem sNeeded {A A' : Option Addr} {n c n' c' : Nat} {xs ys : List Int} {y : Int} (w : World) (h : Reads w w.heap.size 1 A n (xs.map (Value.int .i64))) (h' : Reads w w.heap.size 1 A' n' (ys.map (Value.int .i64))) (hl : xs.length = n) (hl' : ys.length = n') (hm : n ≤ maxLen) (hm' : n' ≤ maxLen) :
    Calls Try.prog 38 #[.agg #[.slice A n c, .slice A' n' c'], .int .i64 y] w fun e w' => e = .returned (.tuple #[.int .i64 (mnV xs ys y), .int .i64 (mnC xs ys y)]) ∧ Below w.heap.size w w' := by
  have HL := Lib.hid hl; have HL' := Lib.hid hl'
  cases hk : chB xs ys
  · have HE := Lib.hid (mn_1 (g := y) hk)
    clear hl hl'
    go_enter Try.func38, Try.ntmps38
    go_wp2_with fail
    refine (sChainOk _ ((h.alloc (Nat.le_refl _) _).more (by simp)) ((h'.alloc (Nat.le_refl _) _).more (by simp)) HL.out HL'.out hm hm' (by first | (simp; done) | (simp; rfl)) (by first | (simp; done) | (simp; rfl))).mono ?_
    rintro e w' ⟨rfl, k1, rfl⟩
    rw [hk]
    go_wp2
    go_ret2
    obtain ⟨e1, e2⟩ := HE.out
    rw [e1, e2]
    exact ⟨rfl, (by repeat' (first | assumption | exact Below.refl _ _ | refine Below.drew ?_ | refine belN ?_ _ | refine Below.alloc ?_ (by first | omega | (simp; done) | (simp; omega)) _ | refine Below.setCell ?_ (by first | omega | (simp; done) | (simp; omega)) _))⟩
  have HK := Lib.hid hk
  cases h1 : plB y
  · have HE := Lib.hid (mn_2 hk h1)
    clear hl hl' hk
    go_enter Try.func38, Try.ntmps38
    go_wp2_with fail
    refine (sChainOk _ ((h.alloc (Nat.le_refl _) _).more (by simp)) ((h'.alloc (Nat.le_refl _) _).more (by simp)) HL.out HL'.out hm hm' (by first | (simp; done) | (simp; rfl)) (by first | (simp; done) | (simp; rfl))).mono ?_
    rintro e w' ⟨rfl, k1, rfl⟩
    rw [HK.out]
    go_wp2_with (first | (go_at_call 69; refine (sPlace _ _).mono ?_; rintro e w' ⟨rfl, rfl⟩))
    go_ret2
    obtain ⟨e1, e2⟩ := HE.out
    rw [e1, e2]
    exact ⟨rfl, (by repeat' (first | assumption | exact Below.refl _ _ | refine Below.drew ?_ | refine belN ?_ _ | refine Below.alloc ?_ (by first | omega | (simp; done) | (simp; omega)) _ | refine Below.setCell ?_ (by first | omega | (simp; done) | (simp; omega)) _))⟩
  have y0 : -1000000 ≤ y ∧ y ≤ 1000000 := by simpa [plB, betw_iff] using h1
  obtain ⟨n0, nn, _, _⟩ := ch_parts hk
  have tb := totT_bd hk n (by omega)
  rw [hl] at nn n0
  rw [hl'] at nn
  subst nn
  obtain ⟨la, hla⟩ : ∃ x, ys[n]? = some x := ⟨_, List.getElem?_eq_getElem (by omega)⟩
  obtain ⟨fi, hfi⟩ : ∃ x, ys[0]? = some x := ⟨_, List.getElem?_eq_getElem (by omega)⟩
  have lb := pc_in hk hla
  have fb := pc_in hk hfi
  have eO : mnO xs ys y = if la < y then y + totT xs n else if y < la then y - totT xs n else fi := by
    simp [mnO, hl, List.getD_eq_getElem?_getD, hla, hfi]
  obtain ⟨bk, of, rfl, _, hc⟩ := h'.lits (by decide) (by omega)
  have hcl := hc n (.int .i64 la) (by rw [List.getElem?_map, hla]; rfl)
  have hcf := hc 0 (.int .i64 fi) (by rw [List.getElem?_map, hfi]; rfl)
  simp only [Nat.add_zero] at hcf
  have hcl' := fun X : Obj => cellA hcl X; have hcf' := fun X : Obj => cellA hcf X
  clear hc hla hfi
  have tz : 0 < n + 1 := by omega
  by_cases q0 : la < y
  · have q1 : ¬ y < la := by omega
    have e1 : mnO xs ys y = y + totT xs n := by rw [eO]; rw [if_pos q0]
    cases h2 : plB (y + totT xs n)
    · have HE := Lib.hid (mn_3 hk h1 (by rw [e1]; exact h2))
      clear eO e1 hl hl' hk
      go_enter Try.func38, Try.ntmps38
      go_wp2_with fail
      refine (sChainOk _ ((h.alloc (Nat.le_refl _) _).more (by simp)) ((h'.alloc (Nat.le_refl _) _).more (by simp)) HL.out HL'.out hm hm' (by first | (simp; done) | (simp; rfl)) (by first | (simp; done) | (simp; rfl))).mono ?_
      rintro e w' ⟨rfl, k1, rfl⟩
      rw [HK.out]

      go_wp2_with (first | (go_at_call 69; refine (sPlace _ _).mono ?_; rintro e w' ⟨rfl, rfl⟩) | (go_at_call 67; refine (sTotal _ (((h.alloc (Nat.le_refl _) _).more (by simp)).drewN _) (((h'.alloc (Nat.le_refl _) _).more (by simp)).drewN _) HL.out HL'.out hm hm' (by first | (simp; done) | (simp; rfl)) (by first | (simp; done) | (simp; rfl)) HK.out).mono ?_; rintro e w' ⟨rfl, rfl⟩))
      go_ret2
      obtain ⟨e1, e2⟩ := HE.out
      rw [e1, e2]
      exact ⟨rfl, (by repeat' (first | assumption | exact Below.refl _ _ | refine Below.drew ?_ | refine belN ?_ _ | refine Below.alloc ?_ (by first | omega | (simp; done) | (simp; omega)) _ | refine Below.setCell ?_ (by first | omega | (simp; done) | (simp; omega)) _))⟩
    · have HE := Lib.hid (mn_0 hk h1 (by rw [e1]; exact h2))
      have HO := Lib.hid e1
      clear eO e1 hl hl' hk
      go_enter Try.func38, Try.ntmps38
      go_wp2_with fail
      refine (sChainOk _ ((h.alloc (Nat.le_refl _) _).more (by simp)) ((h'.alloc (Nat.le_refl _) _).more (by simp)) HL.out HL'.out hm hm' (by first | (simp; done) | (simp; rfl)) (by first | (simp; done) | (simp; rfl))).mono ?_
      rintro e w' ⟨rfl, k1, rfl⟩
      rw [HK.out]

      go_wp2_with (first | (go_at_call 69; refine (sPlace _ _).mono ?_; rintro e w' ⟨rfl, rfl⟩) | (go_at_call 67; refine (sTotal _ (((h.alloc (Nat.le_refl _) _).more (by simp)).drewN _) (((h'.alloc (Nat.le_refl _) _).more (by simp)).drewN _) HL.out HL'.out hm hm' (by first | (simp; done) | (simp; rfl)) (by first | (simp; done) | (simp; rfl)) HK.out).mono ?_; rintro e w' ⟨rfl, rfl⟩))
      go_ret2
      obtain ⟨e1, e2⟩ := HE.out
      rw [e1, e2, HO.out]
      exact ⟨rfl, (by repeat' (first | assumption | exact Below.refl _ _ | refine Below.drew ?_ | refine belN ?_ _ | refine Below.alloc ?_ (by first | omega | (simp; done) | (simp; omega)) _ | refine Below.setCell ?_ (by first | omega | (simp; done) | (simp; omega)) _))⟩
  by_cases q0 : y < la
  · have q1 : ¬ la < y := by omega
    have e1 : mnO xs ys y = y - totT xs n := by rw [eO]; rw [if_neg q1, if_pos q0]
    cases h2 : plB (y - totT xs n)
    · have HE := Lib.hid (mn_3 hk h1 (by rw [e1]; exact h2))
      clear eO e1 hl hl' hk
      go_enter Try.func38, Try.ntmps38
      go_wp2_with fail
      refine (sChainOk _ ((h.alloc (Nat.le_refl _) _).more (by simp)) ((h'.alloc (Nat.le_refl _) _).more (by simp)) HL.out HL'.out hm hm' (by first | (simp; done) | (simp; rfl)) (by first | (simp; done) | (simp; rfl))).mono ?_
      rintro e w' ⟨rfl, k1, rfl⟩
      rw [HK.out]

      go_wp2_with (first | (go_at_call 69; refine (sPlace _ _).mono ?_; rintro e w' ⟨rfl, rfl⟩) | (go_at_call 67; refine (sTotal _ (((h.alloc (Nat.le_refl _) _).more (by simp)).drewN _) (((h'.alloc (Nat.le_refl _) _).more (by simp)).drewN _) HL.out HL'.out hm hm' (by first | (simp; done) | (simp; rfl)) (by first | (simp; done) | (simp; rfl)) HK.out).mono ?_; rintro e w' ⟨rfl, rfl⟩))
      go_ret2
      obtain ⟨e1, e2⟩ := HE.out
      rw [e1, e2]
      exact ⟨rfl, (by repeat' (first | assumption | exact Below.refl _ _ | refine Below.drew ?_ | refine belN ?_ _ | refine Below.alloc ?_ (by first | omega | (simp; done) | (simp; omega)) _ | refine Below.setCell ?_ (by first | omega | (simp; done) | (simp; omega)) _))⟩
    · have HE := Lib.hid (mn_0 hk h1 (by rw [e1]; exact h2))
      have HO := Lib.hid e1
      clear eO e1 hl hl' hk
      go_enter Try.func38, Try.ntmps38
      go_wp2_with fail
      refine (sChainOk _ ((h.alloc (Nat.le_refl _) _).more (by simp)) ((h'.alloc (Nat.le_refl _) _).more (by simp)) HL.out HL'.out hm hm' (by first | (simp; done) | (simp; rfl)) (by first | (simp; done) | (simp; rfl))).mono ?_
      rintro e w' ⟨rfl, k1, rfl⟩
      rw [HK.out]

      go_wp2_with (first | (go_at_call 69; refine (sPlace _ _).mono ?_; rintro e w' ⟨rfl, rfl⟩) | (go_at_call 67; refine (sTotal _ (((h.alloc (Nat.le_refl _) _).more (by simp)).drewN _) (((h'.alloc (Nat.le_refl _) _).more (by simp)).drewN _) HL.out HL'.out hm hm' (by first | (simp; done) | (simp; rfl)) (by first | (simp; done) | (simp; rfl)) HK.out).mono ?_; rintro e w' ⟨rfl, rfl⟩))
      go_ret2
      obtain ⟨e1, e2⟩ := HE.out
      rw [e1, e2, HO.out]
      exact ⟨rfl, (by repeat' (first | assumption | exact Below.refl _ _ | refine Below.drew ?_ | refine belN ?_ _ | refine Below.alloc ?_ (by first | omega | (simp; done) | (simp; omega)) _ | refine Below.setCell ?_ (by first | omega | (simp; done) | (simp; omega)) _))⟩
  by_cases q0 : la = y
  · have q1 : ¬ la < y := (by omega); have q2 : ¬ y < la := (by omega)
    have e1 : mnO xs ys y = fi := by rw [eO]; rw [if_neg q1, if_neg q2]
    cases h2 : plB (fi)
    · have HE := Lib.hid (mn_3 hk h1 (by rw [e1]; exact h2))
      clear eO e1 hl hl' hk q0
      go_enter Try.func38, Try.ntmps38
      go_wp2_with fail
      refine (sChainOk _ ((h.alloc (Nat.le_refl _) _).more (by simp)) ((h'.alloc (Nat.le_refl _) _).more (by simp)) HL.out HL'.out hm hm' (by first | (simp; done) | (simp; rfl)) (by first | (simp; done) | (simp; rfl))).mono ?_
      rintro e w' ⟨rfl, k1, rfl⟩
      rw [HK.out]

      go_wp2_with (first | (go_at_call 69; refine (sPlace _ _).mono ?_; rintro e w' ⟨rfl, rfl⟩) | (go_at_call 67; refine (sTotal _ (((h.alloc (Nat.le_refl _) _).more (by simp)).drewN _) (((h'.alloc (Nat.le_refl _) _).more (by simp)).drewN _) HL.out HL'.out hm hm' (by first | (simp; done) | (simp; rfl)) (by first | (simp; done) | (simp; rfl)) HK.out).mono ?_; rintro e w' ⟨rfl, rfl⟩))
      go_ret2
      obtain ⟨e1, e2⟩ := HE.out
      rw [e1, e2]
      exact ⟨rfl, (by repeat' (first | assumption | exact Below.refl _ _ | refine Below.drew ?_ | refine belN ?_ _ | refine Below.alloc ?_ (by first | omega | (simp; done) | (simp; omega)) _ | refine Below.setCell ?_ (by first | omega | (simp; done) | (simp; omega)) _))⟩
    · have HE := Lib.hid (mn_0 hk h1 (by rw [e1]; exact h2))
      have HO := Lib.hid e1
      clear eO e1 hl hl' hk q0
      go_enter Try.func38, Try.ntmps38
      go_wp2_with fail
      refine (sChainOk _ ((h.alloc (Nat.le_refl _) _).more (by simp)) ((h'.alloc (Nat.le_refl _) _).more (by simp)) HL.out HL'.out hm hm' (by first | (simp; done) | (simp; rfl)) (by first | (simp; done) | (simp; rfl))).mono ?_
      rintro e w' ⟨rfl, k1, rfl⟩
      rw [HK.out]

      go_wp2_with (first | (go_at_call 69; refine (sPlace _ _).mono ?_; rintro e w' ⟨rfl, rfl⟩) | (go_at_call 67; refine (sTotal _ (((h.alloc (Nat.le_refl _) _).more (by simp)).drewN _) (((h'.alloc (Nat.le_refl _) _).more (by simp)).drewN _) HL.out HL'.out hm hm' (by first | (simp; done) | (simp; rfl)) (by first | (simp; done) | (simp; rfl)) HK.out).mono ?_; rintro e w' ⟨rfl, rfl⟩))
      go_ret2
      obtain ⟨e1, e2⟩ := HE.out
      rw [e1, e2, HO.out]
      exact ⟨rfl, (by repeat' (first | assumption | exact Below.refl _ _ | refine Below.drew ?_ | refine belN ?_ _ | refine Below.alloc ?_ (by first | omega | (simp; done) | (simp; omega)) _ | refine Below.setCell ?_ (by first | omega | (simp; done) | (simp; omega)) _))⟩
  exact absurd (show la = y by omega) ‹_›

set_option maxRecDepth 100000 in
set_option maxHeartbeats 3200000 in
theorem iNeeded {A A' : Option Addr} {n c n' c' : Nat} {xs ys : List Int} {y : Int} (w : World) (h : Reads w w.heap.size 1 A n (xs.map (Value.int .i64))) (h' : Reads w w.heap.size 1 A' n' (ys.map (Value.int .i64))) (hl : xs.length = n) (hl' : ys.length = n') (hm : n ≤ maxLen) (hm' : n' ≤ maxLen) :
    Calls Try.prog 39 #[.agg #[.slice A n c, .slice A' n' c'], .int .i64 y] w fun e w' => e = .returned (.tuple #[.int .i64 (mnV xs ys y), .int .i64 (mnC xs ys y)]) ∧ Below w.heap.size w w' := by
  have HL := Lib.hid hl; have HL' := Lib.hid hl'
  cases hk : chB xs ys
  · have HE := Lib.hid (mn_1 (g := y) hk)
    clear hl hl'
    go_enter Try.func39, Try.ntmps39
    go_wp2_with fail
    refine absW ?_
    intro w0 hw
    have hb0 : Below w.heap.size w w0 := by rw [hw]; exact (by repeat' (first | assumption | exact Below.refl _ _ | refine Below.drew ?_ | refine belN ?_ _ | refine Below.alloc ?_ (by first | omega | (simp; done) | (simp; omega)) _ | refine Below.setCell ?_ (by first | omega | (simp; done) | (simp; omega)) _))
    have c0 : w0.cell? ⟨w.heap.size, 0, none⟩ = some (.slice A n c) := by rw [hw]; simp
    have c1 : w0.cell? ⟨w.heap.size, 1, none⟩ = some (.slice A' n' c') := by rw [hw]; simp
    clear hw
    refine (iValidCh _ (rdB h hb0) (rdB h' hb0) HL.out HL'.out hm hm').mono ?_
    rintro e w1 ⟨rfl, hb⟩
    replace c0 := cellB c0 hb; replace c1 := cellB c1 hb
    replace hb0 := bel2 hb0 hb
    clear hb
    rw [hk]
    go_wp2
    go_ret2
    obtain ⟨e1, e2⟩ := HE.out
    rw [e1, e2]
    exact ⟨rfl, hb0⟩
  have HK := Lib.hid hk
  cases h1 : plB y
  · have HE := Lib.hid (mn_2 hk h1)
    clear hl hl' hk
    go_enter Try.func39, Try.ntmps39
    go_wp2_with fail
    refine absW ?_
    intro w0 hw
    have hb0 : Below w.heap.size w w0 := by rw [hw]; exact (by repeat' (first | assumption | exact Below.refl _ _ | refine Below.drew ?_ | refine belN ?_ _ | refine Below.alloc ?_ (by first | omega | (simp; done) | (simp; omega)) _ | refine Below.setCell ?_ (by first | omega | (simp; done) | (simp; omega)) _))
    have c0 : w0.cell? ⟨w.heap.size, 0, none⟩ = some (.slice A n c) := by rw [hw]; simp
    have c1 : w0.cell? ⟨w.heap.size, 1, none⟩ = some (.slice A' n' c') := by rw [hw]; simp
    clear hw
    refine (iValidCh _ (rdB h hb0) (rdB h' hb0) HL.out HL'.out hm hm').mono ?_
    rintro e w1 ⟨rfl, hb⟩
    replace c0 := cellB c0 hb; replace c1 := cellB c1 hb
    replace hb0 := bel2 hb0 hb
    clear hb
    rw [HK.out]
    go_wp2_with (first | (go_at_call 64; refine (iPlace _ _).mono ?_; rintro e w' ⟨rfl, rfl⟩))
    go_ret2
    obtain ⟨e1, e2⟩ := HE.out
    rw [e1, e2]
    exact ⟨rfl, hb0⟩
  have y0 : -1000000 ≤ y ∧ y ≤ 1000000 := by simpa [plB, betw_iff] using h1
  obtain ⟨n0, nn, _, _⟩ := ch_parts hk
  have tb := totT_bd hk n (by omega)
  rw [hl] at nn n0
  rw [hl'] at nn
  subst nn
  obtain ⟨la, hla⟩ : ∃ x, ys[n]? = some x := ⟨_, List.getElem?_eq_getElem (by omega)⟩
  obtain ⟨fi, hfi⟩ : ∃ x, ys[0]? = some x := ⟨_, List.getElem?_eq_getElem (by omega)⟩
  have lb := pc_in hk hla
  have fb := pc_in hk hfi
  have eO : mnO xs ys y = if la < y then y + totT xs n else if y < la then y - totT xs n else fi := by
    simp [mnO, hl, List.getD_eq_getElem?_getD, hla, hfi]
  obtain ⟨bk, of, rfl, _, hc⟩ := h'.lits (by decide) (by omega)
  have hcl := hc n (.int .i64 la) (by rw [List.getElem?_map, hla]; rfl)
  have hcf := hc 0 (.int .i64 fi) (by rw [List.getElem?_map, hfi]; rfl)
  simp only [Nat.add_zero] at hcf
  have hcl' := fun X : Obj => cellA hcl X; have hcf' := fun X : Obj => cellA hcf X
  clear hc hla hfi
  have tz : 0 < n + 1 := by omega
  by_cases q0 : la < y
  · have q1 : ¬ y < la := by omega
    have e1 : mnO xs ys y = y + totT xs n := by rw [eO]; rw [if_pos q0]
    cases h2 : plB (y + totT xs n)
    · have HE := Lib.hid (mn_3 hk h1 (by rw [e1]; exact h2))
      clear eO e1 hl hl' hk
      go_enter Try.func39, Try.ntmps39
      go_wp2_with fail
      refine absW ?_
      intro w0 hw
      have hb0 : Below w.heap.size w w0 := by rw [hw]; exact (by repeat' (first | assumption | exact Below.refl _ _ | refine Below.drew ?_ | refine belN ?_ _ | refine Below.alloc ?_ (by first | omega | (simp; done) | (simp; omega)) _ | refine Below.setCell ?_ (by first | omega | (simp; done) | (simp; omega)) _))
      have c0 : w0.cell? ⟨w.heap.size, 0, none⟩ = some (.slice A n c) := by rw [hw]; simp
      have c1 : w0.cell? ⟨w.heap.size, 1, none⟩ = some (.slice (some ⟨bk, of, none⟩) (n + 1) c') := by rw [hw]; simp
      clear hw
      refine (iValidCh _ (rdB h hb0) (rdB h' hb0) HL.out HL'.out hm hm').mono ?_
      rintro e w1 ⟨rfl, hb⟩
      replace c0 := cellB c0 hb; replace c1 := cellB c1 hb
      replace hb0 := bel2 hb0 hb
      clear hb
      rw [HK.out]
      have xcl := cellB hcl hb0; have xcf := cellB hcf hb0
      go_wp2_with (first | (go_at_call 64; refine (iPlace _ _).mono ?_; rintro e w' ⟨rfl, rfl⟩) | (go_at_call 68; refine (iTotal _ (rdB h hb0) (rdB h' hb0) HL.out HL'.out hm hm' HK.out).mono ?_; rintro e w2 ⟨rfl, hb⟩; replace hb0 := bel2 hb0 hb))
      go_ret2
      obtain ⟨e1, e2⟩ := HE.out
      rw [e1, e2]
      exact ⟨rfl, hb0⟩
    · have HE := Lib.hid (mn_0 hk h1 (by rw [e1]; exact h2))
      have HO := Lib.hid e1
      clear eO e1 hl hl' hk
      go_enter Try.func39, Try.ntmps39
      go_wp2_with fail
      refine absW ?_
      intro w0 hw
      have hb0 : Below w.heap.size w w0 := by rw [hw]; exact (by repeat' (first | assumption | exact Below.refl _ _ | refine Below.drew ?_ | refine belN ?_ _ | refine Below.alloc ?_ (by first | omega | (simp; done) | (simp; omega)) _ | refine Below.setCell ?_ (by first | omega | (simp; done) | (simp; omega)) _))
      have c0 : w0.cell? ⟨w.heap.size, 0, none⟩ = some (.slice A n c) := by rw [hw]; simp
      have c1 : w0.cell? ⟨w.heap.size, 1, none⟩ = some (.slice (some ⟨bk, of, none⟩) (n + 1) c') := by rw [hw]; simp
      clear hw
      refine (iValidCh _ (rdB h hb0) (rdB h' hb0) HL.out HL'.out hm hm').mono ?_
      rintro e w1 ⟨rfl, hb⟩
      replace c0 := cellB c0 hb; replace c1 := cellB c1 hb
      replace hb0 := bel2 hb0 hb
      clear hb
      rw [HK.out]
      have xcl := cellB hcl hb0; have xcf := cellB hcf hb0
      go_wp2_with (first | (go_at_call 64; refine (iPlace _ _).mono ?_; rintro e w' ⟨rfl, rfl⟩) | (go_at_call 68; refine (iTotal _ (rdB h hb0) (rdB h' hb0) HL.out HL'.out hm hm' HK.out).mono ?_; rintro e w2 ⟨rfl, hb⟩; replace hb0 := bel2 hb0 hb))
      go_ret2
      obtain ⟨e1, e2⟩ := HE.out
      rw [e1, e2, HO.out]
      exact ⟨rfl, hb0⟩
  by_cases q0 : y < la
  · have q1 : ¬ la < y := by omega
    have e1 : mnO xs ys y = y - totT xs n := by rw [eO]; rw [if_neg q1, if_pos q0]
    cases h2 : plB (y - totT xs n)
    · have HE := Lib.hid (mn_3 hk h1 (by rw [e1]; exact h2))
      clear eO e1 hl hl' hk
      go_enter Try.func39, Try.ntmps39
      go_wp2_with fail
      refine absW ?_
      intro w0 hw
      have hb0 : Below w.heap.size w w0 := by rw [hw]; exact (by repeat' (first | assumption | exact Below.refl _ _ | refine Below.drew ?_ | refine belN ?_ _ | refine Below.alloc ?_ (by first | omega | (simp; done) | (simp; omega)) _ | refine Below.setCell ?_ (by first | omega | (simp; done) | (simp; omega)) _))
      have c0 : w0.cell? ⟨w.heap.size, 0, none⟩ = some (.slice A n c) := by rw [hw]; simp
      have c1 : w0.cell? ⟨w.heap.size, 1, none⟩ = some (.slice (some ⟨bk, of, none⟩) (n + 1) c') := by rw [hw]; simp
      clear hw
      refine (iValidCh _ (rdB h hb0) (rdB h' hb0) HL.out HL'.out hm hm').mono ?_
      rintro e w1 ⟨rfl, hb⟩
      replace c0 := cellB c0 hb; replace c1 := cellB c1 hb
      replace hb0 := bel2 hb0 hb
      clear hb
      rw [HK.out]
      have xcl := cellB hcl hb0; have xcf := cellB hcf hb0
      go_wp2_with (first | (go_at_call 64; refine (iPlace _ _).mono ?_; rintro e w' ⟨rfl, rfl⟩) | (go_at_call 68; refine (iTotal _ (rdB h hb0) (rdB h' hb0) HL.out HL'.out hm hm' HK.out).mono ?_; rintro e w2 ⟨rfl, hb⟩; replace hb0 := bel2 hb0 hb))
      go_ret2
      obtain ⟨e1, e2⟩ := HE.out
      rw [e1, e2]
      exact ⟨rfl, hb0⟩
    · have HE := Lib.hid (mn_0 hk h1 (by rw [e1]; exact h2))
      have HO := Lib.hid e1
      clear eO e1 hl hl' hk
      go_enter Try.func39, Try.ntmps39
      go_wp2_with fail
      refine absW ?_
      intro w0 hw
      have hb0 : Below w.heap.size w w0 := by rw [hw]; exact (by repeat' (first | assumption | exact Below.refl _ _ | refine Below.drew ?_ | refine belN ?_ _ | refine Below.alloc ?_ (by first | omega | (simp; done) | (simp; omega)) _ | refine Below.setCell ?_ (by first | omega | (simp; done) | (simp; omega)) _))
      have c0 : w0.cell? ⟨w.heap.size, 0, none⟩ = some (.slice A n c) := by rw [hw]; simp
      have c1 : w0.cell? ⟨w.heap.size, 1, none⟩ = some (.slice (some ⟨bk, of, none⟩) (n + 1) c') := by rw [hw]; simp
      clear hw
      refine (iValidCh _ (rdB h hb0) (rdB h' hb0) HL.out HL'.out hm hm').mono ?_
      rintro e w1 ⟨rfl, hb⟩
      replace c0 := cellB c0 hb; replace c1 := cellB c1 hb
      replace hb0 := bel2 hb0 hb
      clear hb
      rw [HK.out]
      have xcl := cellB hcl hb0; have xcf := cellB hcf hb0
      go_wp2_with (first | (go_at_call 64; refine (iPlace _ _).mono ?_; rintro e w' ⟨rfl, rfl⟩) | (go_at_call 68; refine (iTotal _ (rdB h hb0) (rdB h' hb0) HL.out HL'.out hm hm' HK.out).mono ?_; rintro e w2 ⟨rfl, hb⟩; replace hb0 := bel2 hb0 hb))
      go_ret2
      obtain ⟨e1, e2⟩ := HE.out
      rw [e1, e2, HO.out]
      exact ⟨rfl, hb0⟩
  by_cases q0 : la = y
  · have q1 : ¬ la < y := (by omega); have q2 : ¬ y < la := (by omega)
    have e1 : mnO xs ys y = fi := by rw [eO]; rw [if_neg q1, if_neg q2]
    cases h2 : plB (fi)
    · have HE := Lib.hid (mn_3 hk h1 (by rw [e1]; exact h2))
      clear eO e1 hl hl' hk q0
      go_enter Try.func39, Try.ntmps39
      go_wp2_with fail
      refine absW ?_
      intro w0 hw
      have hb0 : Below w.heap.size w w0 := by rw [hw]; exact (by repeat' (first | assumption | exact Below.refl _ _ | refine Below.drew ?_ | refine belN ?_ _ | refine Below.alloc ?_ (by first | omega | (simp; done) | (simp; omega)) _ | refine Below.setCell ?_ (by first | omega | (simp; done) | (simp; omega)) _))
      have c0 : w0.cell? ⟨w.heap.size, 0, none⟩ = some (.slice A n c) := by rw [hw]; simp
      have c1 : w0.cell? ⟨w.heap.size, 1, none⟩ = some (.slice (some ⟨bk, of, none⟩) (n + 1) c') := by rw [hw]; simp
      clear hw
      refine (iValidCh _ (rdB h hb0) (rdB h' hb0) HL.out HL'.out hm hm').mono ?_
      rintro e w1 ⟨rfl, hb⟩
      replace c0 := cellB c0 hb; replace c1 := cellB c1 hb
      replace hb0 := bel2 hb0 hb
      clear hb
      rw [HK.out]
      have xcl := cellB hcl hb0; have xcf := cellB hcf hb0
      go_wp2_with (first | (go_at_call 64; refine (iPlace _ _).mono ?_; rintro e w' ⟨rfl, rfl⟩) | (go_at_call 68; refine (iTotal _ (rdB h hb0) (rdB h' hb0) HL.out HL'.out hm hm' HK.out).mono ?_; rintro e w2 ⟨rfl, hb⟩; replace hb0 := bel2 hb0 hb))
      go_ret2
      obtain ⟨e1, e2⟩ := HE.out
      rw [e1, e2]
      exact ⟨rfl, hb0⟩
    · have HE := Lib.hid (mn_0 hk h1 (by rw [e1]; exact h2))
      have HO := Lib.hid e1
      clear eO e1 hl hl' hk q0
      go_enter Try.func39, Try.ntmps39
      go_wp2_with fail
      refine absW ?_
      intro w0 hw
      have hb0 : Below w.heap.size w w0 := by rw [hw]; exact (by repeat' (first | assumption | exact Below.refl _ _ | refine Below.drew ?_ | refine belN ?_ _ | refine Below.alloc ?_ (by first | omega | (simp; done) | (simp; omega)) _ | refine Below.setCell ?_ (by first | omega | (simp; done) | (simp; omega)) _))
      have c0 : w0.cell? ⟨w.heap.size, 0, none⟩ = some (.slice A n c) := by rw [hw]; simp
      have c1 : w0.cell? ⟨w.heap.size, 1, none⟩ = some (.slice (some ⟨bk, of, none⟩) (n + 1) c') := by rw [hw]; simp
      clear hw
      refine (iValidCh _ (rdB h hb0) (rdB h' hb0) HL.out HL'.out hm hm').mono ?_
      rintro e w1 ⟨rfl, hb⟩
      replace c0 := cellB c0 hb; replace c1 := cellB c1 hb
      replace hb0 := bel2 hb0 hb
      clear hb
      rw [HK.out]
      have xcl := cellB hcl hb0; have xcf := cellB hcf hb0
      go_wp2_with (first | (go_at_call 64; refine (iPlace _ _).mono ?_; rintro e w' ⟨rfl, rfl⟩) | (go_at_call 68; refine (iTotal _ (rdB h hb0) (rdB h' hb0) HL.out HL'.out hm hm' HK.out).mono ?_; rintro e w2 ⟨rfl, hb⟩; replace hb0 := bel2 hb0 hb))
      go_ret2
      obtain ⟨e1, e2⟩ := HE.out
      rw [e1, e2, HO.out]
      exact ⟨rfl, hb0⟩
  exact absurd (show la = y by omega) ‹_›
end Go.Proofs.Ytndodfolpjkppaa
