/- The picture of an abacus, on the side of the program. No condition. -/
import Derived.Test.YtpgifgdoikhpbaaPic
namespace Go.Proofs.Ytpgifgdoikhpbaa
open Go.RowKit

set_option maxRecDepth 100000 in
set_option maxHeartbeats 6400000 in
theorem iPic {u o t : Int} {A : Option Addr} {n c : Nat} {xs : List (Int × Int)} (w : World) (h : Reads w w.heap.size 2 A n (flat encPair xs)) (hl : xs.length = n) (hm : n ≤ maxLen) :
    Calls Try.prog 46 #[.agg #[.int .i64 u, .int .i64 o, .int .i64 t, .slice A n c]] w (RetPic u o t xs w) := by
  have HL := Lib.hid hl
  cases hk : okA u o t xs
  · have HE := Lib.hid hk
    clear hl
    go_enter Try.func46, Try.ntmps46
    go_wp2_with fail
    refine (iValidAba _ ((h.alloc (Nat.le_refl _) _).more (by simp)) HL.out hm).mono ?_
    rintro e w1 ⟨rfl, hb⟩
    rw [hk]
    go_wp2
    go_ret2
    exact pic_no HE.out (bel2 (by repeat' (first | assumption | exact Below.refl _ _ | refine Below.drew ?_ | refine belN ?_ _ | refine Below.alloc ?_ (by first | omega | (simp; done) | (simp; omega)) _ | refine Below.setCell ?_ (by first | omega | (simp; done) | (simp; omega)) _)) hb)
  have HK := Lib.hid hk
  obtain ⟨hkd, _, n0, n1⟩ := okA_parts hk
  obtain ⟨ku, ko, kt, _⟩ := kdB_parts hkd
  rw [hl] at n0 n1
  have W0 : IntKind.i64.wrap (u + 1) = u + 1 := IntWalk.i64_in _ (by omega)
  have W1 : IntKind.i64.wrap (o + 1) = o + 1 := IntWalk.i64_in _ (by omega)
  obtain ⟨M, hM⟩ : ∃ M : Nat, u + 1 = (M : Int) := ⟨(u + 1).toNat, by omega⟩
  obtain ⟨N, hN⟩ : ∃ N : Nat, o + 1 = (N : Int) := ⟨(o + 1).toNat, by omega⟩
  have M1 : M ≤ 5 := by omega
  have N1 : N ≤ 13 := by omega
  have HR : Hid ((u + o + 3).toNat = M + 1 + N) := by unfold Hid; omega
  rw [hM] at W0; rw [hN] at W1
  have HM := Lib.hid hM; have HN := Lib.hid hN
  clear hl hk hkd
  go_enter Try.func46, Try.ntmps46
  go_wp2_with fail
  refine absW ?_
  intro w0 hw
  have hb0 : Below w.heap.size w w0 := by rw [hw]; exact (by repeat' (first | assumption | exact Below.refl _ _ | refine Below.drew ?_ | refine belN ?_ _ | refine Below.alloc ?_ (by first | omega | (simp; done) | (simp; omega)) _ | refine Below.setCell ?_ (by first | omega | (simp; done) | (simp; omega)) _))
  have c0 : w0.cell? ⟨w.heap.size, 0, none⟩ = some (.int .i64 u) := by rw [hw]; simp
  have c1 : w0.cell? ⟨w.heap.size, 1, none⟩ = some (.int .i64 o) := by rw [hw]; simp
  have c2 : w0.cell? ⟨w.heap.size, 2, none⟩ = some (.int .i64 t) := by rw [hw]; simp
  have c3 : w0.cell? ⟨w.heap.size, 3, none⟩ = some (.slice A n c) := by rw [hw]; simp
  clear hw
  have hr := rdB h hb0
  refine (iValidAba _ hr HL.out hm).mono ?_
  rintro e w1 ⟨rfl, hb⟩
  replace c0 := cellB c0 hb; replace c1 := cellB c1 hb; replace c2 := cellB c2 hb; replace c3 := cellB c3 hb
  replace hr := rdB hr hb; replace hb0 := bel2 hb0 hb
  have zb := World.block_lt_of_cell? _ _ c0
  clear hb h
  rw [HK.out]
  have x0 := fun X : Obj => cellA c0 X
  go_wp2
  clear x0
  go_loopw [4, 14] (fun p y wr => ∃ (r : Nat) (A' : Option Addr) (c' : Nat), r ≤ M ∧ y = .int .i64 r ∧ p = .slice A' r c' ∧ Own wr w1.heap.size wr.heap.size 9 1 (.slice A' r c') r ((picT u xs r).map Value.string) ∧ w1.heap.size ≤ wr.heap.size ∧ Below w1.heap.size w1 wr) (fun _ y _ => M - (intOf y).toNat)
  case atStart => exact ⟨0, some ⟨w1.heap.size, 0, none⟩, 0, Nat.zero_le _, rfl, rfl, ((Blk.new w1 9 #[]).own (n := 0) (Nat.zero_le _) rfl).more (Nat.le_refl _) (by simp), by simp, (by repeat' (first | assumption | exact Below.refl _ _ | refine Below.drew ?_ | refine belN ?_ _ | refine Below.alloc ?_ (by first | omega | (simp; done) | (simp; omega)) _ | refine Below.setCell ?_ (by first | omega | (simp; done) | (simp; omega)) _))⟩
  case round =>
    obtain ⟨r, A', c', hrR, rfl, rfl, ho, hz, hB⟩ := hrel
    have e0 := cellB c0 hB; have e1 := cellB c1 hB; have e2 := cellB c2 hB; have e3 := cellB c3 hB
    by_cases hlt : r < M
    · have hi0 : (r : Int) < (M : Int) := by omega
      have hru : (r : Int) ≤ u := by have := HM.out; omega
      have HRU := Lib.hid hru; clear hru
      have y0 := fun X : Obj => cellA e0 X; have y1 := fun X : Obj => cellA e1 X; have y2 := fun X : Obj => cellA e2 X; have y3 := fun X : Obj => cellA e3 X
      have HS := Lib.hid (picT_succ u xs (r))
      go_wp2_with fail
      refine absW ?_
      intro w4 hw
      have hb4 : Below wr.heap.size wr w4 := by rw [hw]; exact (by repeat' (first | assumption | exact Below.refl _ _ | refine Below.drew ?_ | refine belN ?_ _ | refine Below.alloc ?_ (by first | omega | (simp; done) | (simp; omega)) _ | refine Below.setCell ?_ (by first | omega | (simp; done) | (simp; omega)) _))
      have hgi : w4.cell? ⟨wr.heap.size, 0, none⟩ = some (.int .i64 r) := by rw [hw]; simp
      have f0 := cellB e0 hb4; have f1 := cellB e1 hb4; have f2 := cellB e2 hb4; have f3 := cellB e3 hb4
      have ho4 := ho.bel hb4; have hB4 := bel2 hB hb4; have hz4 := hb4.size
      clear hw
      refine (iLine1 (o := o) (t := t) (c := c) _ (rdB hr hB4) HL.out HK.out HRU.out hgi f0).mono ?_
      rintro e w5 ⟨rfl, hb5⟩
      have ho5 := ho4.bel hb5; have hB5 := bel2 hB4 hb5; have hz5 := hb5.size
      go_wp2_with (first | (at_builtin; refine wpList_app1 rfl (.tmp 17) (.tmp 21) rfl eltS rfl (ho5.alloc _) rfl (Blk.new_at (by simp)) rfl (one_str _) (by omega) (by first | omega | (simp; omega)) ?_; intro A3 c3' w6 ho6 ht6))
      have hz6 := ht6.size
      go_roundw
      case rel => exact ⟨r + 1, A3, c3', by omega, by go_num, by go_num, by rw [HS.out]; simpa using ho6, by simp at hz6; omega, Touch.below (hB5.alloc (by omega) _) ht6 (by first | omega | (simp; omega)) (Nat.le_refl _)⟩
      case measure => simp [intOf]; omega
    · obtain rfl : r = M := by omega
      obtain ⟨M0, hM0⟩ : ∃ M0, M0 = r := ⟨_, rfl⟩
      subst hM0
      have HS := Lib.hid (picT_succ u xs M0)
      have HBAR : Hid (strOfNums (List.replicate n 61) = lineP u xs M0) := by unfold Hid lineP; rw [← HM.out, lnP_bar, HL.out]
      go_wp2_with fail
      refine (iRepeat n _ (by omega)).mono ?_
      rintro e w5 ⟨rfl, hb5⟩
      rw [HBAR.out]
      have ho5 := ho.bel hb5; have hB5 := bel2 hB hb5; have hz5 := hb5.size
      have g0 := cellB e0 hb5; have g1 := cellB e1 hb5; have g2 := cellB e2 hb5; have g3 := cellB e3 hb5
      clear e0 e1 e2 e3
      have j1 := fun X : Obj => cellA g1 X
      go_wp2_with (first | (at_builtin; refine wpList_app1 rfl (.tmp 24) (.tmp 29) rfl eltS rfl (ho5.alloc _) rfl (Blk.new_at (by simp)) rfl (one_str _) (by omega) (by first | omega | (simp; omega)) ?_; intro A3 c3' w6 ho6 ht6; have k0 := cellT (cellA g0 _) ht6 (.inl (by omega)); have k1 := cellT (cellA g1 _) ht6 (.inl (by omega)); have k2 := cellT (cellA g2 _) ht6 (.inl (by omega)); have k3 := cellT (cellA g3 _) ht6 (.inl (by omega))))
      have hz6 := ht6.size
      have hB6 := Touch.below (hB5.alloc (by omega) _) ht6 (by first | omega | (simp; omega)) (Nat.le_refl _)
      have ho7 : Own w6 w1.heap.size w6.heap.size 9 1 (.slice A3 (M0 + 1) c3') (M0 + 1) ((picT u xs (M0 + 1)).map Value.string) := by rw [HS.out]; simpa using ho6
      simp at hz6
      clear j1 ho ho5 ho6 hB hB5 g0 g1 g2 g3 hz hlt hrR
      go_loopw [4, 34] (fun p y wr => ∃ (r : Nat) (A' : Option Addr) (c' : Nat), r ≤ N ∧ y = .int .i64 r ∧ p = .slice A' (M0 + 1 + r) c' ∧ Own wr w1.heap.size wr.heap.size 9 1 (.slice A' (M0 + 1 + r) c') (M0 + 1 + r) ((picT u xs (M0 + 1 + r)).map Value.string) ∧ w1.heap.size ≤ wr.heap.size ∧ Below w1.heap.size w1 wr) (fun _ y _ => N - (intOf y).toNat)
      case atStart => exact ⟨0, A3, c3', Nat.zero_le _, rfl, by simp, by simpa using ho7, hB6.size, hB6⟩
      case round =>
        clear hB6 ho7
        obtain ⟨r, A', c', hrR, rfl, rfl, ho, hz, hB⟩ := hrel
        have e0 := cellB c0 hB; have e1 := cellB c1 hB; have e2 := cellB c2 hB; have e3 := cellB c3 hB
        by_cases hlt : r < N
        · have hi0 : (r : Int) < (N : Int) := by omega
          have hrow : ((M0 + 1 + r : Nat) : Int) = u + 2 + (r : Int) := by have := HM.out; omega
          have HRW := Lib.hid hrow; clear hrow
          have y0 := fun X : Obj => cellA e0 X; have y1 := fun X : Obj => cellA e1 X; have y2 := fun X : Obj => cellA e2 X; have y3 := fun X : Obj => cellA e3 X
          have HS := Lib.hid (picT_succ u xs (M0 + 1 + r))
          go_wp2_with fail
          refine absW ?_
          intro w4 hw
          have hb4 : Below wr.heap.size wr w4 := by rw [hw]; exact (by repeat' (first | assumption | exact Below.refl _ _ | refine Below.drew ?_ | refine belN ?_ _ | refine Below.alloc ?_ (by first | omega | (simp; done) | (simp; omega)) _ | refine Below.setCell ?_ (by first | omega | (simp; done) | (simp; omega)) _))
          have hgi : w4.cell? ⟨wr.heap.size, 0, none⟩ = some (.int .i64 r) := by rw [hw]; simp
          have f0 := cellB e0 hb4; have f1 := cellB e1 hb4; have f2 := cellB e2 hb4; have f3 := cellB e3 hb4
          have ho4 := ho.bel hb4; have hB4 := bel2 hB hb4; have hz4 := hb4.size
          clear hw
          refine (iLine2 (o := o) (t := t) (c := c) _ (rdB hr hB4) HL.out HK.out HRW.out (Int.natCast_nonneg _) hgi).mono ?_
          rintro e w5 ⟨rfl, hb5⟩
          have ho5 := ho4.bel hb5; have hB5 := bel2 hB4 hb5; have hz5 := hb5.size
          go_wp2_with (first | (at_builtin; refine wpList_app1 rfl (.tmp 37) (.tmp 41) rfl eltS rfl (ho5.alloc _) rfl (Blk.new_at (by simp)) rfl (one_str _) (by omega) (by first | omega | (simp; omega)) ?_; intro A3 c3' w6 ho6 ht6))
          have hz6 := ht6.size
          go_roundw
          case rel => exact ⟨r + 1, A3, c3', by omega, by go_num, by go_num, by rw [show M0 + 1 + (r + 1) = (M0 + 1 + r) + 1 by omega, HS.out]; simpa using ho6, by simp at hz6; omega, Touch.below (hB5.alloc (by omega) _) ht6 (by first | omega | (simp; omega)) (Nat.le_refl _)⟩
          case measure => simp [intOf]; omega
        · obtain rfl : r = N := by omega
          go_wp2
          go_ret2
          exact pic_yes HK.out HR.out (ho.more hb0.size (Nat.le_refl _)) (bel2 hb0 hB)
end Go.Proofs.Ytpgifgdoikhpbaa
