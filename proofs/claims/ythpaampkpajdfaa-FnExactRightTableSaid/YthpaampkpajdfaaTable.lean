/- The right table of a base. No condition. -/
import Derived.Test.YthpaampkpajdfaaAddRows
import Derived.Test.YthpaampkpajdfaaDrum
import Derived.Test.YthpaampkpajdfaaApp
import Derived.Test.YthpaampkpajdfaaCall
import Derived.Deep.RegionLaw
namespace Go.Proofs.Ythpaampkpajdfaa
open Go.RowKit

theorem eltRow : Elt Try.prog 74 114 5 := by
  obtain ⟨i0, hi, hz0, hz1, hz2⟩ := info_parts infoAddRow
  exact ⟨i0, _, _, Try.underlying74, hi, hz0, hz1, hz2, rfl, by decide, by decide⟩
/-- A slice and a code. -/
def RetSR (w : World) (e : TypeId) (size n : Nat) (xs : List Value) (cd : Int) (x : Ending) (w' : World) : Prop := ∃ s, x = .returned (.tuple #[s, .int .i64 cd]) ∧ Own w' w.heap.size w'.heap.size e size s n xs ∧ Below w.heap.size w w'
theorem five_ints (a b c d e : Int) : ∀ u ∈ (#[Value.int .i64 a, .int .i64 b, .int .i64 c, .int .i64 d, .int .i64 e] : Array Value).toList, u.oneCell' = true := by
  intro u hu
  simp at hu
  rcases hu with rfl | rfl | rfl | rfl | rfl <;> rfl
def rowI (B x y z : Int) : Int × Int × Int × Int × Int := (x, y, z, (x + y + z) % B, (x + y + z) / B)
def tabL (B k : Nat) : List (Int × Int × Int × Int × Int) := (List.range k).map fun (j : Nat) => rowI B ((j : Int) / (B : Int) / (B : Int)) ((j : Int) / (B : Int) % (B : Int)) ((j : Int) % (B : Int))
theorem tabL_succ (B k : Nat) : flat encQuin (tabL B (k + 1)) = flat encQuin (tabL B k) ++ encQuin (rowI B ((k : Int) / (B : Int) / (B : Int)) ((k : Int) / (B : Int) % (B : Int)) ((k : Int) % (B : Int))) := by
  unfold tabL
  rw [List.range_succ, List.map_append, flat_append]
  simp [flat]
theorem tab_at {B i a b : Nat} (ha : a < B) (hb : b < B) : (((i * B + a) * B + b : Nat) : Int) / (B : Int) / (B : Int) = i ∧ (((i * B + a) * B + b : Nat) : Int) / (B : Int) % (B : Int) = a ∧ (((i * B + a) * B + b : Nat) : Int) % (B : Int) = b := by
  have e1 : ((i * B + a) * B + b) / B = i * B + a := by
    rw [Nat.mul_comm (i * B + a) B, Nat.mul_add_div (by omega), Nat.div_eq_of_lt hb, Nat.add_zero]
  have e2 : (i * B + a) / B = i := by
    rw [Nat.mul_comm i B, Nat.mul_add_div (by omega), Nat.div_eq_of_lt ha, Nat.add_zero]
  have e3 : (i * B + a) % B = a := by
    rw [Nat.mul_comm i B, Nat.mul_add_mod, Nat.mod_eq_of_lt ha]
  have e4 : ((i * B + a) * B + b) % B = b := by
    rw [Nat.mul_comm (i * B + a) B, Nat.mul_add_mod, Nat.mod_eq_of_lt hb]
  rw [← Int.natCast_ediv, ← Int.natCast_ediv, ← Int.natCast_emod, ← Int.natCast_emod, e1, e2, e3, e4]
  exact ⟨rfl, rfl, rfl⟩
theorem tab_step {B i a b : Nat} (ha : a < B) (hb : b < B) : flat encQuin (tabL B ((i * B + a) * B + (b + 1))) = flat encQuin (tabL B ((i * B + a) * B + b)) ++ encQuin (rowI B i a b) := by
  obtain ⟨h1, h2, h3⟩ := tab_at (i := i) ha hb
  rw [← Nat.add_assoc, tabL_succ, h1, h2, h3]
def rbN (b : Int) : Nat := if betwB b 2 16 then 2 * b.toNat * b.toNat else 0
def rbXs (b : Int) : List (Int × Int × Int × Int × Int) := if betwB b 2 16 then tabL b.toNat (2 * b.toNat * b.toNat) else []
def rbCode (b : Int) : Int := if betwB b 2 16 then 0 else 2
theorem sq_le {B : Nat} (h : B ≤ 16) : 2 * B * B ≤ 512 := Nat.mul_le_mul (show 2 * B ≤ 32 by omega) h
theorem rbN_le (b : Int) : rbN b ≤ 1073741824 := by
  unfold rbN
  split
  · rename_i h
    have := betw_iff.1 h
    have := sq_le (B := b.toNat) (by omega)
    omega
  · omega
theorem rb_bad {b : Int} (h : betwB b 2 16 = false) : rbCode b = 2 ∧ rbN b = 0 ∧ rbXs b = [] := by simp [rbCode, rbN, rbXs, h]
theorem rb_ok {B : Nat} (h : betwB (B : Int) 2 16 = true) : rbCode B = 0 ∧ rbN B = 2 * B * B ∧ rbXs B = tabL B (2 * B * B) := by simp [rbCode, rbN, rbXs, h]

set_option maxHeartbeats 800000 in
theorem sRight {B : Nat} {x y z : Int} (w : World) (hB : 2 ≤ B ∧ B ≤ 16) (hx : 0 ≤ x ∧ x ≤ 1000) (hy : 0 ≤ y ∧ y ≤ 1000) (hz : 0 ≤ z ∧ z ≤ 1000) :
    Calls Try.prog 102 #[.int .i64 (B : Int), .int .i64 x, .int .i64 y, .int .i64 z] w fun e w' => e = .returned (.agg #[.int .i64 (rowI B x y z).1, .int .i64 (rowI B x y z).2.1, .int .i64 (rowI B x y z).2.2.1, .int .i64 (rowI B x y z).2.2.2.1, .int .i64 (rowI B x y z).2.2.2.2]) ∧ Below w.heap.size w w' := by
  have bz : ¬ ((B : Int) = 0) := by omega
  have bn : ¬ B = 0 := by omega
  have W0 : IntKind.i64.wrap (x + y) = x + y := IntWalk.i64_in _ (by omega)
  have W1 : IntKind.i64.wrap (x + y + z) = x + y + z := IntWalk.i64_in _ (by omega)
  have T1 : (x + y + z).tdiv (B : Int) = (x + y + z) / (B : Int) := Int.tdiv_eq_ediv_of_nonneg (by omega)
  have T2 : (x + y + z).tmod (B : Int) = (x + y + z) % (B : Int) := Int.tmod_eq_emod_of_nonneg (by omega)
  have q0 : 0 ≤ (x + y + z) / (B : Int) := Int.ediv_nonneg (by omega) (by omega)
  have q1 : (x + y + z) / (B : Int) ≤ x + y + z := Int.ediv_le_self _ (by omega)
  have W2 : IntKind.i64.wrap ((x + y + z) / (B : Int)) = (x + y + z) / (B : Int) := IntWalk.i64_in _ (by omega)
  go_enter Try.func102, Try.ntmps102
  go_wp2_with fail
  go_region
  all_goals
    go_wp2
    exact bodyPost_ret (v := .agg #[.int .i64 x, .int .i64 y, .int .i64 z, .int .i64 ((x + y + z) % (B : Int)), .int .i64 ((x + y + z) / (B : Int))]) (by simp [results, Try.results102, go_sem]) rfl ⟨rfl, (by repeat' (first | assumption | exact Below.refl _ _ | refine Below.drew ?_ | refine belN ?_ _ | refine Below.alloc ?_ (by first | omega | (simp; done) | (simp; omega)) _ | refine Below.setCell ?_ (by first | omega | (simp; done) | (simp; omega)) _))⟩

set_option maxRecDepth 100000 in
set_option maxHeartbeats 3200000 in
theorem sTab {B : Nat} (w : World) (hB : 2 ≤ B ∧ B ≤ 16) : Calls Try.prog 93 #[.int .i64 (B : Int)] w (RetOwn w 114 5 (2 * B * B) (flat encQuin (tabL B (2 * B * B)))) := by
  have hq := sq_le hB.2
  have hq' : 0 ≤ 2 * (B : Int) * (B : Int) := by exact_mod_cast Nat.zero_le (2 * B * B)
  have hq2 : 2 * (B : Int) * (B : Int) ≤ 512 := by exact_mod_cast hq
  have bz : ¬ ((B : Int) = 0) := by omega
  have bn : ¬ B = 0 := by omega
  go_enter Try.func93, Try.ntmps93
  go_wp2
  go_loopw [3, 4] (fun o i wr => ∃ (k : Nat) (A' : Option Addr) (c' : Nat), k ≤ 2 * B * B ∧ i = .int .i64 k ∧ o = .slice A' k c' ∧ Own wr w.heap.size wr.heap.size 114 5 (.slice A' k c') k (flat encQuin (tabL B k)) ∧ w.heap.size ≤ wr.heap.size ∧ Below w.heap.size w wr) (fun _ i _ => 2 * B * B - (intOf i).toNat)
  case atStart => exact ⟨0, some ⟨w.heap.size, 0, none⟩, 0, Nat.zero_le _, rfl, rfl, ((Blk.new w 114 #[]).own (n := 0) (Nat.zero_le _) rfl).more (Nat.le_refl _) (by simp), by simp, (by repeat' (first | assumption | exact Below.refl _ _ | refine Below.drew ?_ | refine belN ?_ _ | refine Below.alloc ?_ (by first | omega | (simp; done) | (simp; omega)) _ | refine Below.setCell ?_ (by first | omega | (simp; done) | (simp; omega)) _))⟩
  case round =>
    obtain ⟨k, A', c', hk, rfl, rfl, ho, hs, hb⟩ := hrel
    have hkc : ((k : Int) < 2 * (B : Int) * (B : Int)) ↔ k < 2 * B * B := by
      rw [show 2 * (B : Int) * (B : Int) = ((2 * B * B : Nat) : Int) by simp]
      omega
    have HKC := Lib.hid hkc; clear hkc
    by_cases hlt : k < 2 * B * B
    · have h1 := HKC.out.2 hlt
      have k0 : (0 : Int) ≤ (k : Int) := Int.natCast_nonneg _
      have d0 : 0 ≤ (k : Int) / (B : Int) := Int.ediv_nonneg k0 (by omega)
      have d1 : (k : Int) / (B : Int) ≤ (k : Int) := Int.ediv_le_self _ k0
      have e0 : 0 ≤ (k : Int) / (B : Int) / (B : Int) := Int.ediv_nonneg d0 (by omega)
      have e1 : (k : Int) / (B : Int) / (B : Int) ≤ (k : Int) / (B : Int) := Int.ediv_le_self _ d0
      have f0 : 0 ≤ (k : Int) / (B : Int) % (B : Int) := Int.emod_nonneg _ bz
      have f1 : (k : Int) / (B : Int) % (B : Int) < (B : Int) := Int.emod_lt_of_pos _ (by omega)
      have g0 : 0 ≤ (k : Int) % (B : Int) := Int.emod_nonneg _ bz
      have g1 : (k : Int) % (B : Int) < (B : Int) := Int.emod_lt_of_pos _ (by omega)
      have kk : k + 1 ≤ 2 * B * B := hlt
      have KK := Lib.hid kk; clear kk
      have k6 : k ≤ 512 := by omega
      have HT : Hid (flat encQuin (tabL B (k + 1)) = flat encQuin (tabL B k) ++ encQuin (rowI B ((k : Int) / (B : Int) / (B : Int)) ((k : Int) / (B : Int) % (B : Int)) ((k : Int) % (B : Int)))) := tabL_succ B k
      have T1 : (k : Int).tdiv (B : Int) = (k : Int) / (B : Int) := Int.tdiv_eq_ediv_of_nonneg k0
      have T2 : ((k : Int) / (B : Int)).tdiv (B : Int) = (k : Int) / (B : Int) / (B : Int) := Int.tdiv_eq_ediv_of_nonneg d0
      have T3 : ((k : Int) / (B : Int)).tmod (B : Int) = (k : Int) / (B : Int) % (B : Int) := Int.tmod_eq_emod_of_nonneg d0
      have T4 : (k : Int).tmod (B : Int) = (k : Int) % (B : Int) := Int.tmod_eq_emod_of_nonneg k0
      have k5 : (k : Int) ≤ 512 := by omega
      go_wp2_with fail
      generalize (k : Int) / (B : Int) / (B : Int) = e at *
      generalize (k : Int) / (B : Int) % (B : Int) = p at *
      generalize (k : Int) / (B : Int) = d at *
      generalize (k : Int) % (B : Int) = r at *
      have W1 : IntKind.i64.wrap d = d := IntWalk.i64_in _ (by omega)
      have W2 : IntKind.i64.wrap e = e := IntWalk.i64_in _ (by omega)
      have HR := Lib.hid (fun W : World => sRight (x := e) (y := p) (z := r) W hB ⟨e0, by omega⟩ ⟨f0, by omega⟩ ⟨g0, by omega⟩)
      clear h1 hq' hq2 hq hlt k5
      go_region_law (first | (refine step_call (by rfl) 102 (by rfl) _ Try.func102 (by kernel_rfl) (by kernel_rfl) #[.int .i64 (B : Int), .int .i64 e, .int .i64 p, .int .i64 r] (by simp [go_sem]) ?_; refine (HR.out _).mono ?_; rintro e w1 ⟨rfl, hb1⟩; refine ⟨_, rfl, ?_⟩; have ho1 := ho.drew.bel hb1) | (refine step_app1 (by rfl) (.tmp 14) (.tmp 30) (by rfl) eltRow (by simp [go_sem]) (ho1.alloc _) (by rfl) (Blk.new _ _ _) (by rfl) (five_ints _ _ _ _ _) (by omega) (by have := hb1.size; simp at this ⊢; omega) ?_; intro A2 c2 w2 ho2 ht2))
      all_goals
        have hz1 := hb1.size
        have hz2 := ht2.size
        have hB1 := bel2 hb.drew hb1
        have HO : Hid (Own w2 w.heap.size w2.heap.size 114 5 (.slice A2 (k + 1) c2) (k + 1) (flat encQuin (tabL B (k + 1)))) := by unfold Hid; rw [HT.out]; exact ho2
        clear ho2
        go_wp2
        go_roundw
        case rel => exact ⟨k + 1, A2, c2, KK.out, by go_num, rfl, HO.out, by simp at hz1 hz2 ⊢; omega, Touch.below (hB1.alloc (by simp at hz1 ⊢; omega) _) ht2 (by simp at hz1 ⊢; omega) (Nat.le_refl _)⟩
        case measure => have := KK.out; simp [intOf]; omega
    · obtain rfl : k = 2 * B * B := by omega
      have h1 : ¬ (((2 * B * B : Nat) : Int) < 2 * (B : Int) * (B : Int)) := by simp
      go_wp2
      go_ret
      exact ⟨_, rfl, ho, hb⟩

theorem tab_lt {B i a b : Nat} (hi : i < 2) (ha : a < B) (hb : b < B) : (i * B + a) * B + b < 2 * B * B := by
  have h0 : i * B ≤ 1 * B := Nat.mul_le_mul_right B (by omega)
  have h1 : i * B + a + 1 ≤ 2 * B := by omega
  have h2 := Nat.mul_le_mul_right B h1
  rw [Nat.succ_mul] at h2
  omega
theorem tab_e1 (B i a : Nat) : (i * B + a) * B + B = (i * B + (a + 1)) * B := by rw [← Nat.add_assoc, Nat.succ_mul]
theorem tab_e2 (B i : Nat) : (i * B + B) * B = (i + 1) * B * B := by rw [Nat.succ_mul i B]

set_option maxRecDepth 100000 in
set_option maxHeartbeats 3200000 in
theorem iTab {B : Nat} (w : World) (hB : 2 ≤ B ∧ B ≤ 16) : Calls Try.prog 95 #[.int .i64 (B : Int)] w (RetOwn w 114 5 (2 * B * B) (flat encQuin (tabL B (2 * B * B)))) := by
  obtain ⟨B1, B2⟩ := hB
  have hq := Lib.hid (sq_le B2)
  have bz : ¬ ((B : Int) = 0) := by omega
  have bn : ¬ B = 0 := by omega
  go_enter Try.func95, Try.ntmps95
  go_wp2
  go_loopw [3, 8] (fun o x wr => ∃ (i : Nat) (A' : Option Addr) (c' : Nat), i ≤ 2 ∧ x = .int .i64 i ∧ o = .slice A' (i * B * B) c' ∧ Own wr w.heap.size wr.heap.size 114 5 (.slice A' (i * B * B) c') (i * B * B) (flat encQuin (tabL B (i * B * B))) ∧ w.heap.size ≤ wr.heap.size ∧ Below w.heap.size w wr) (fun _ x _ => 2 - (intOf x).toNat)
  case atStart => exact ⟨0, some ⟨w.heap.size, 0, none⟩, 0, by omega, rfl, by simp, by simpa [tabL, flat] using ((Blk.new w 114 #[]).own (n := 0) (size := 5) (Nat.zero_le _) rfl).more (Nat.le_refl _) (by simp : w.heap.size + 1 ≤ (w.alloc (.cells #[] 114)).heap.size), by simp, (by repeat' (first | assumption | exact Below.refl _ _ | refine Below.drew ?_ | refine belN ?_ _ | refine Below.alloc ?_ (by first | omega | (simp; done) | (simp; omega)) _ | refine Below.setCell ?_ (by first | omega | (simp; done) | (simp; omega)) _))⟩
  case round =>
    obtain ⟨i, A1, c1, hi, rfl, rfl, ho, hs, hb⟩ := hrel
    obtain ⟨wo, rfl⟩ : ∃ wo : World, wo = wr := ⟨_, rfl⟩
    by_cases hi2 : i < 2
    · have hi3 : decide ((i : Int) < 2) = true := by simp; omega
      go_wp2
      go_loopw [3, 12] (fun o x wr => ∃ (a : Nat) (A' : Option Addr) (c' : Nat), a ≤ B ∧ x = .int .i64 a ∧ o = .slice A' ((i * B + a) * B) c' ∧ Own wr w.heap.size wr.heap.size 114 5 (.slice A' ((i * B + a) * B) c') ((i * B + a) * B) (flat encQuin (tabL B ((i * B + a) * B))) ∧ w.heap.size ≤ wr.heap.size ∧ Below w.heap.size w wr) (fun _ x _ => B - (intOf x).toNat)
      case atStart => exact ⟨0, A1, c1, by omega, rfl, by rw [Nat.add_zero], by rw [Nat.add_zero]; exact ho, hs, hb⟩
      case round =>
        clear ho hs hb
        obtain ⟨a, A2, c2, ha, rfl, rfl, ho, hs, hb⟩ := hrel
        obtain ⟨wm, rfl⟩ : ∃ wm : World, wm = wr := ⟨_, rfl⟩
        by_cases ha2 : a < B
        · go_wp2
          go_loopw [3, 16] (fun o x wr => ∃ (b : Nat) (A' : Option Addr) (c' : Nat), b ≤ B ∧ x = .int .i64 b ∧ o = .slice A' ((i * B + a) * B + b) c' ∧ Own wr w.heap.size wr.heap.size 114 5 (.slice A' ((i * B + a) * B + b) c') ((i * B + a) * B + b) (flat encQuin (tabL B ((i * B + a) * B + b))) ∧ w.heap.size ≤ wr.heap.size ∧ Below w.heap.size w wr) (fun _ x _ => B - (intOf x).toNat)
          case atStart => exact ⟨0, A2, c2, by omega, rfl, rfl, ho, hs, hb⟩
          case round =>
            clear ho hs hb
            obtain ⟨b, A3, c3, hbB, rfl, rfl, ho, hs, hb⟩ := hrel
            by_cases hb2 : b < B
            · have hlt := tab_lt hi2 ha2 hb2
              have HS := Lib.hid (tab_step (i := i) ha2 hb2)
              obtain ⟨N, hN⟩ : ∃ N, (i * B + a) * B + b = N := ⟨_, rfl⟩
              rw [← Nat.add_assoc, hN] at HS
              rw [hN] at ho hlt ⊢
              have hN5 : N ≤ 512 := by have := hq.out; omega
              have HN := Lib.hid hN; clear hN hlt
              obtain ⟨s, hsum⟩ : ∃ s : Int, (i : Int) + (a : Int) + (b : Int) = s := ⟨_, rfl⟩
              have s0 : 0 ≤ s := by omega
              have s1 : s ≤ 1000 := by omega
              have V0 : IntKind.i64.wrap ((i : Int) + (a : Int)) = (i : Int) + (a : Int) := IntWalk.i64_in _ (by omega)
              have V1 : IntKind.i64.wrap s = s := IntWalk.i64_in _ (by omega)
              have T1 : s.tdiv (B : Int) = s / (B : Int) := Int.tdiv_eq_ediv_of_nonneg s0
              have T2 : s.tmod (B : Int) = s % (B : Int) := Int.tmod_eq_emod_of_nonneg s0
              have q0 : 0 ≤ s / (B : Int) := Int.ediv_nonneg s0 (by omega)
              have q1 : s / (B : Int) ≤ s := Int.ediv_le_self _ s0
              have HE : Hid (encQuin (rowI B i a b) = [.int .i64 i, .int .i64 a, .int .i64 b, .int .i64 (s % (B : Int)), .int .i64 (s / (B : Int))]) := by unfold Hid; rw [← hsum]; rfl
              generalize s / (B : Int) = q at *
              generalize s % (B : Int) = r at *
              have V2 : IntKind.i64.wrap q = q := IntWalk.i64_in _ (by omega)
              go_wp2_with fail
              go_region_law ((refine step_app1 (by rfl) (.tmp 19) (.tmp 38) (by rfl) eltRow (by simp [go_sem]) ((ho.alloc _).drew) (by rfl) (Blk.new _ _ _) (by rfl) (five_ints _ _ _ _ _) (by omega) (by first | omega | (simp; omega)) ?_; intro A4 c4 w2 ho2 ht2))
              all_goals
                have hz2 := ht2.size
                have HO : Hid (Own w2 w.heap.size w2.heap.size 114 5 (.slice A4 (N + 1) c4) (N + 1) (flat encQuin (tabL B (N + 1)))) := by unfold Hid; rw [HS.out, HE.out]; exact ho2
                clear ho2
                go_wp2
                go_roundw
                case rel => exact ⟨b + 1, A4, c4, by omega, by go_num, by rw [← Nat.add_assoc, HN.out], by rw [← Nat.add_assoc, HN.out]; exact HO.out, by have := hz2; simp at this; omega, Touch.below ((hb.alloc (by omega) _).drew) ht2 (by first | omega | (simp; omega)) (Nat.le_refl _)⟩
                case measure => simp [intOf]; omega
            · obtain rfl : b = B := by omega
              go_wp2
              go_roundw
              case rel => exact ⟨a + 1, A3, c3, by omega, by go_num, by rw [tab_e1], by rw [← tab_e1]; exact ho, hs, hb⟩
              case measure => simp [intOf]; omega
        · obtain rfl : a = B := by omega
          go_wp2
          go_roundw
          case rel => exact ⟨i + 1, A2, c2, by omega, by go_num, by rw [tab_e2], by rw [← tab_e2]; exact ho, hs, hb⟩
          case measure => simp [intOf]; omega
    · obtain rfl : i = 2 := by omega
      go_wp2
      go_ret
      exact ⟨_, rfl, ho, hb⟩

set_option maxHeartbeats 800000 in
theorem sRightTable {b : Int} (w : World) :
    Calls Try.prog 56 #[.int .i64 b] w (RetSR w 114 5 (rbN b) (flat encQuin (rbXs b)) (rbCode b)) := by
  cases hk : betwB b 2 16
  · have HE := Lib.hid (rb_bad hk)
    go_enter Try.func56, Try.ntmps56
    go_wp2_with (first | (go_at_call 92; refine (sBase _ _).mono ?_; rintro e w' ⟨rfl, rfl⟩))
    go_ret2
    obtain ⟨e1, e2, e3⟩ := HE.out
    rw [e1, e2, e3]
    exact ⟨_, rfl, Own.nil _ _ _ _ _, Below.refl _ _⟩
  · obtain ⟨b1, b2⟩ := betw_iff.1 hk
    obtain ⟨B, rfl⟩ := Int.eq_ofNat_of_zero_le (show 0 ≤ b by omega)
    have HE := Lib.hid (rb_ok hk)
    go_enter Try.func56, Try.ntmps56
    go_wp2_with (first | (go_at_call 92; refine (sBase _ _).mono ?_; rintro e w' ⟨rfl, rfl⟩))
    refine (sTab _ ⟨by omega, by omega⟩).mono ?_
    rintro e w1 ⟨v, rfl, ho, hb⟩
    go_wp2
    go_ret2
    obtain ⟨e1, e2, e3⟩ := HE.out
    rw [e1, e2, e3]
    exact ⟨_, rfl, ho, hb⟩

set_option maxHeartbeats 800000 in
theorem iRightTable {b : Int} (w : World) :
    Calls Try.prog 57 #[.int .i64 b] w (RetSR w 114 5 (rbN b) (flat encQuin (rbXs b)) (rbCode b)) := by
  cases hk : betwB b 2 16
  · have HE := Lib.hid (rb_bad hk)
    go_enter Try.func57, Try.ntmps57
    go_wp2_with (first | (go_at_call 94; refine (iBase _ _).mono ?_; rintro e w' ⟨rfl, rfl⟩))
    go_ret2
    obtain ⟨e1, e2, e3⟩ := HE.out
    rw [e1, e2, e3]
    exact ⟨_, rfl, Own.nil _ _ _ _ _, Below.refl _ _⟩
  · obtain ⟨b1, b2⟩ := betw_iff.1 hk
    obtain ⟨B, rfl⟩ := Int.eq_ofNat_of_zero_le (show 0 ≤ b by omega)
    have HE := Lib.hid (rb_ok hk)
    go_enter Try.func57, Try.ntmps57
    go_wp2_with (first | (go_at_call 94; refine (iBase _ _).mono ?_; rintro e w' ⟨rfl, rfl⟩))
    refine (iTab _ ⟨by omega, by omega⟩).mono ?_
    rintro e w1 ⟨v, rfl, ho, hb⟩
    go_wp2
    go_ret2
    obtain ⟨e1, e2, e3⟩ := HE.out
    rw [e1, e2, e3]
    exact ⟨_, rfl, ho, hb⟩
end Go.Proofs.Ythpaampkpajdfaa
