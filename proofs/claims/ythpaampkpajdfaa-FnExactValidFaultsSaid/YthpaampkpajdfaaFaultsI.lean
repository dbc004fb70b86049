/- Lists of faults, on the side of the program. No condition. -/
import Derived.Test.YthpaampkpajdfaaFaults
import Derived.Test.YthpaampkpajdfaaBel
namespace Go.Proofs.Ythpaampkpajdfaa
open Go.RowKit
attribute [local irreducible] wpQuiet

theorem iFaultV {W a c : Int} {b : Bool} (w : World) (hb : (betwB a 1 3 && betwB c 0 (wrap64 (W - 1))) = b) : Calls Try.prog 90 #[.int .i64 W, .agg #[.int .i64 a, .int .i64 c]] w fun e w' => e = .returned (.bool b) ∧ Below w.heap.size w w' := by
  subst hb
  exact iFault w

set_option maxHeartbeats 3200000 in
theorem iValidFaults {W : Int} {A : Option Addr} {n c : Nat} {xs : List (Int × Int)} (w : World) (hW : inI W) (h : Reads w w.heap.size 2 A n (flat encPair xs)) (hl : xs.length = n) (hm : n ≤ maxLen) :
    Calls Try.prog 54 #[.int .i64 W, .slice A n c] w fun e w' => e = .returned (.bool (faB W xs)) ∧ Below w.heap.size w w' := by
  obtain ⟨W0, W1⟩ := hW
  unfold maxLen at hm
  have HL := Lib.hid hl; clear hl
  go_enter Try.func54, Try.ntmps54
  go_wp2
  go_loopw [9] (fun i wr => ∃ k : Nat, k ≤ n ∧ i = .int .i64 k ∧ Hid (betwB W 1 16 = true → ∀ j, j < k → faAt W xs j = true) ∧ Below w.heap.size w wr) (fun i _ => n - (intOf i).toNat)
  case atStart => exact ⟨0, Nat.zero_le _, rfl, fun _ j hj => absurd hj (by omega), Below.refl _ _⟩
  case round =>
    obtain ⟨k, hk, rfl, hN, hB⟩ := hrel
    by_cases hlt : k < n
    · obtain ⟨b, off, q, rfl, _, hq, hc⟩ := (rdB h hB).row_at encPair_length (by decide) HL.out hlt
      have e0 := hc 0 _ rfl; have e1 := hc 1 _ rfl
      simp only [Nat.add_zero] at e0
      clear hc
      have HQ := Lib.hid hq; clear hq
      have ki0 : (0 : Int) ≤ (k : Int) := Int.natCast_nonneg _
      have ki1 : (k : Int) < (n : Int) := by omega
      go_wp2_with fail
      refine absC ?_
      intro w0 hw
      have hb0 : Below wr.heap.size wr w0 := by rw [hw]; exact (by repeat' (first | assumption | exact Below.refl _ _ | refine Below.drew ?_ | refine belN ?_ _ | refine Below.alloc ?_ (by first | omega | (simp; done) | (simp; omega)) _ | refine Below.setCell ?_ (by first | omega | (simp; done) | (simp; omega)) _))
      have hF : Blk w0 wr.heap.size 106 #[.int .i64 q.1, .int .i64 q.2] := by rw [hw]; exact Blk.new _ _ _
      clear hw e0 e1
      replace hB := bel2 hB hb0
      have g0 := hF.cell 0; have g1 := hF.cell 1
      simp at g0 g1
      cases hf : (betwB q.1 1 3 && betwB q.2 0 (wrap64 (W - 1)))
      · have HF : Hid (faB W xs = false) := by
          cases hw : betwB W 1 16
          · exact faB_w hw
          · obtain ⟨w1, w2⟩ := betw_iff.1 hw
            rw [IntWalk.wrap64_in _ (by omega)] at hf
            refine faB_no (by rw [HL.out]; exact hlt) ?_
            unfold faAt
            rw [getD_of HQ.out]
            unfold lvB
            rw [hf]
            rfl
        have HFF := Lib.hid hf; clear hf
        have g1' := fun x : BW w0 => BW.cell g1 x; have g0' := fun x : BW w0 => BW.cell g0 x
        refine wp_region_below (by kernel_rfl) (by kernel_rfl) ?_
        repeat (go_big_quiet_step ((go_at_call 90; exact BW.call (iFaultV _ HFF.out))))
        refine wpQuiet_nil ?_
        rintro _ ⟨⟨w1, hb1⟩, rfl⟩
        have hB1 := bel2 hB hb1
        all_goals
          go_wp2
          go_ret
          exact ⟨ret_b HF.out.symm, hB1⟩
      · rcases k with _ | k
        · have HN : Hid (betwB W 1 16 = true → ∀ j, j < 0 + 1 → faAt W xs j = true) := fun hw j hj => by
            obtain ⟨w1, w2⟩ := betw_iff.1 hw
            rw [IntWalk.wrap64_in _ (by omega)] at hf
            obtain rfl : j = 0 := by omega
            simp only [Bool.and_eq_true] at hf
            exact faAt_0 HQ.out hf.1 hf.2
          have HFF := Lib.hid hf; clear hf
          have g1' := fun x : BW w0 => BW.cell g1 x; have g0' := fun x : BW w0 => BW.cell g0 x
          refine wp_region_below (by kernel_rfl) (by kernel_rfl) ?_
          repeat (go_big_quiet_step ((go_at_call 90; exact BW.call (iFaultV _ HFF.out))))
          refine wpQuiet_nil ?_
          rintro _ ⟨⟨w1, hb1⟩, rfl⟩
          have hB1 := bel2 hB hb1
          all_goals
            go_wp2
            go_roundw
            case rel => exact ⟨0 + 1, by omega, by go_num, HN, hB1⟩
            case measure => simp [intOf]; omega
        · obtain ⟨b', off', p, hbo, _, hp, hc'⟩ := (rdB h hB).row_at encPair_length (by decide) HL.out (show k < n by omega)
          obtain ⟨rfl, rfl⟩ : b = b' ∧ off = off' := by injection hbo with hbo; injection hbo with h1 h2; exact ⟨h1, h2⟩
          have f1 := hc' 1 _ rfl
          clear hc' hbo
          have HP := Lib.hid hp; clear hp
          have kq0 : (0 : Int) < (k : Int) + 1 := by omega
          have kq1 : (0 : Int) ≤ (k : Int) + 1 := by omega
          have kq2 : (k : Int) + 1 < (n : Int) := by omega
          have kq3 : (k : Int) < (n : Int) := by omega
          have kq4 : (0 : Int) ≤ (k : Int) := by omega
          clear ki0 ki1
          have kw : IntKind.i64.wrap (k : Int) = (k : Int) := IntWalk.i64_in _ (by omega)
          have f1' := fun x : BW w0 => BW.cell f1 x
          by_cases h3 : q.2 ≤ p.2
          · have HF : Hid (faB W xs = false) := by
              refine faB_no (by rw [HL.out]; exact hlt) (faAt_3 (W := W) HQ.out (by omega) HP.out h3)
            have HFF := Lib.hid hf; clear hf
            have g1' := fun x : BW w0 => BW.cell g1 x; have g0' := fun x : BW w0 => BW.cell g0 x
            refine wp_region_below (by kernel_rfl) (by kernel_rfl) ?_
            repeat (go_big_quiet_step ((go_at_call 90; exact BW.call (iFaultV _ HFF.out))))
            refine wpQuiet_nil ?_
            rintro _ ⟨⟨w1, hb1⟩, rfl⟩
            have hB1 := bel2 hB hb1
            all_goals
              go_wp2
              go_ret
              exact ⟨ret_b HF.out.symm, hB1⟩
          · have HN2 : Hid (betwB W 1 16 = true → ∀ j, j < k + 1 + 1 → faAt W xs j = true) := fun hw j hj => by
              obtain ⟨w1, w2⟩ := betw_iff.1 hw
              rw [IntWalk.wrap64_in _ (by omega)] at hf
              simp only [Bool.and_eq_true] at hf
              by_cases hjk : j < k + 1
              · exact hN.out hw j hjk
              · obtain rfl : j = k + 1 := by omega
                exact faAt_4 HQ.out hf.1 hf.2 HP.out h3
            have HFF := Lib.hid hf; clear hf
            have g1' := fun x : BW w0 => BW.cell g1 x; have g0' := fun x : BW w0 => BW.cell g0 x
            refine wp_region_below (by kernel_rfl) (by kernel_rfl) ?_
            repeat (go_big_quiet_step ((go_at_call 90; exact BW.call (iFaultV _ HFF.out))))
            refine wpQuiet_nil ?_
            rintro _ ⟨⟨w1, hb1⟩, rfl⟩
            have hB1 := bel2 hB hb1
            all_goals
              go_wp2
              go_roundw
              case rel => exact ⟨k + 1 + 1, by omega, by go_num, HN2, hB1⟩
              case measure => simp [intOf]; omega
    · obtain rfl : k = n := by omega
      have HF : Hid (faB W xs = betwB W 1 16) := by
        cases hw : betwB W 1 16
        · exact faB_w hw
        · exact faB_yes hw (by rw [HL.out]; exact hN.out hw)
      go_wp2_with (first | (go_at_call 86; refine (iWidth _ _).mono ?_; rintro e w' ⟨rfl, rfl⟩))
      go_ret
      exact ⟨ret_b HF.out.symm, hB⟩
end Go.Proofs.Ythpaampkpajdfaa
