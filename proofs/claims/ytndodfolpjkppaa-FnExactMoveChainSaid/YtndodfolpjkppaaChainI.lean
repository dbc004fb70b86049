/- Chains: the first place moved, the program's side. No condition. -/
import Derived.Test.YtndodfolpjkppaaChainM
import Derived.Test.YtndodfolpjkppaaRgL
import Derived.StillTailTactics
import Derived.Laws.Small
namespace Go.Proofs.Ytndodfolpjkppaa
open Go.RowKit
theorem u0_of {X : Value} {x : Value × Nat × Nat} {t : List (Value × Nat × Nat)} (h : ∃ y t', x :: t = y :: t' ∧ y.1 = X) : x.1 = X := by
  obtain ⟨y, t', h1, h2⟩ := h
  rw [(List.cons.inj h1).1]; exact h2
theorem mc_first {xs ys : List Int} {y q : Int} (h : ys[0]? = some q) : (ys.map (Value.int .i64)).set 0 (.int .i64 y) = (mcL xs ys y (0 + 1) ++ ys.drop (0 + 1)).map (Value.int .i64) := by
  cases ys with
  | nil => cases h
  | cons a t => simp [mcL, mcT]
theorem mc_next {xs ys : List Int} {y q v : Int} {k : Nat} (h : ys[k + 1]? = some q) (hv : mcT xs ys y (k + 1) = v) : ((mcL xs ys y (k + 1) ++ ys.drop (k + 1)).map (Value.int .i64)).set (k + 1) (.int .i64 v) = (mcL xs ys y (k + 1 + 1) ++ ys.drop (k + 1 + 1)).map (Value.int .i64) := by
  obtain ⟨hk, e⟩ := List.getElem?_eq_some_iff.1 h
  rw [List.drop_eq_getElem_cons hk, mcL_snoc xs ys y (k + 1), hv, e, List.map_append, List.map_append, List.map_append, List.map_cons]
  have hl : ((mcL xs ys y (k + 1)).map (Value.int .i64)).length = k + 1 := by rw [List.length_map, mcL_length]
  rw [List.set_append_right _ _ (by omega), hl, Nat.sub_self, List.set_cons_zero]
  simp
theorem mc_get1 {xs ys : List Int} {y q : Int} {k : Nat} (h : ys[k + 1]? = some q) : ((mcL xs ys y (k + 1) ++ ys.drop (k + 1)).map (Value.int .i64))[k + 1]? = some (.int .i64 q) := by
  rw [List.getElem?_map, List.getElem?_append_right (by rw [mcL_length]; omega), mcL_length, Nat.sub_self, List.getElem?_drop]
  simp [h]
theorem mc_get0 {xs ys : List Int} {y : Int} {k : Nat} : ((mcL xs ys y (k + 1) ++ ys.drop (k + 1)).map (Value.int .i64))[k]? = some (.int .i64 (mcT xs ys y k)) := by
  rw [List.getElem?_map, List.getElem?_append_left (by rw [mcL_length]; omega)]
  simp [mcL]

set_option maxRecDepth 100000 in
set_option maxHeartbeats 3200000 in
theorem iMoveC {A A' : Option Addr} {n c n' c' : Nat} {xs ys : List Int} {y : Int} (w : World) (h : Reads w w.heap.size 1 A n (xs.map (Value.int .i64))) (h' : Reads w w.heap.size 1 A' n' (ys.map (Value.int .i64))) (hl : xs.length = n) (hl' : ys.length = n') (hm : n ≤ maxLen) (hm' : n' ≤ maxLen) :
    Calls Try.prog 43 #[.agg #[.slice A n c, .slice A' n' c'], .int .i64 y] w (RetMC w xs ys y) := by
  have HL := Lib.hid hl; have HL' := Lib.hid hl'
  cases hk : chB xs ys
  · have HE := Lib.hid (mc_1 (tz := y) hk)
    clear hl hl'
    go_enter Try.func43, Try.ntmps43
    go_wp2_with fail
    refine absW ?_
    intro w0 hw
    have hb0 : Below w.heap.size w w0 := by rw [hw]; exact (by repeat' (first | assumption | exact Below.refl _ _ | refine Below.drew ?_ | refine belN ?_ _ | refine Below.alloc ?_ (by first | omega | (simp; done) | (simp; omega)) _ | refine Below.setCell ?_ (by first | omega | (simp; done) | (simp; omega)) _))
    have bA : Blk w0 w.heap.size 34 #[.slice A n c, .slice A' n' c'] := by rw [hw]; exact (Blk.new _ _ _).alloc _
    have bR : Blk w0 (w.heap.size + 1) 34 #[.slice none 0 0, .slice none 0 0] := by rw [hw]; exact blk_new (by simp)
    clear hw
    have zR0 := bR.lt; have zA0 := bA.lt
    have c0 := bA.cell 0; have c1 := bA.cell 1
    simp at c0 c1
    refine (iValidCh _ (rdB h hb0) (rdB h' hb0) HL.out HL'.out hm hm').mono ?_
    rintro e w1 ⟨rfl, hb⟩
    replace bA := bA.bel hb; replace bR := bR.bel hb
    replace c0 := cellB c0 hb; replace c1 := cellB c1 hb
    replace hb0 := bel2 hb0 hb
    clear hb
    have d0 := bR.cell 0; have d1 := bR.cell 1; have fR := bR.frozen
    simp at d0 d1
    rw [hk]
    go_wp2
    refine bodyPost_ret (v := .tuple #[.agg #[.slice none 0 0, .slice none 0 0], .int .i64 1]) (by simp [results, Try.results43, go_sem, d0, d1, zR0]) rfl (mc_z HE.out.1 HE.out.2 ?_)
    exact (hb0.setCell (by first | omega | (simp; done) | (simp; omega)) _).setCell (by first | omega | (simp; done) | (simp; omega)) _
  have HK := Lib.hid hk
  cases h1 : plB y
  · have HE := Lib.hid (mc_2 hk h1)
    clear hl hl' hk
    go_enter Try.func43, Try.ntmps43
    go_wp2_with fail
    refine absW ?_
    intro w0 hw
    have hb0 : Below w.heap.size w w0 := by rw [hw]; exact (by repeat' (first | assumption | exact Below.refl _ _ | refine Below.drew ?_ | refine belN ?_ _ | refine Below.alloc ?_ (by first | omega | (simp; done) | (simp; omega)) _ | refine Below.setCell ?_ (by first | omega | (simp; done) | (simp; omega)) _))
    have bA : Blk w0 w.heap.size 34 #[.slice A n c, .slice A' n' c'] := by rw [hw]; exact (Blk.new _ _ _).alloc _
    have bR : Blk w0 (w.heap.size + 1) 34 #[.slice none 0 0, .slice none 0 0] := by rw [hw]; exact blk_new (by simp)
    clear hw
    have zR0 := bR.lt; have zA0 := bA.lt
    have c0 := bA.cell 0; have c1 := bA.cell 1
    simp at c0 c1
    refine (iValidCh _ (rdB h hb0) (rdB h' hb0) HL.out HL'.out hm hm').mono ?_
    rintro e w1 ⟨rfl, hb⟩
    replace bA := bA.bel hb; replace bR := bR.bel hb
    replace c0 := cellB c0 hb; replace c1 := cellB c1 hb
    replace hb0 := bel2 hb0 hb
    clear hb
    have d0 := bR.cell 0; have d1 := bR.cell 1; have fR := bR.frozen
    simp at d0 d1
    rw [HK.out]
    go_wp2_with (first | (go_at_call 64; refine (iPlace _ _).mono ?_; rintro e w' ⟨rfl, rfl⟩))
    refine bodyPost_ret (v := .tuple #[.agg #[.slice none 0 0, .slice none 0 0], .int .i64 2]) (by simp [results, Try.results43, go_sem, d0, d1, zR0]) rfl (mc_z HE.out.1 HE.out.2 ?_)
    exact (hb0.setCell (by first | omega | (simp; done) | (simp; omega)) _).setCell (by first | omega | (simp; done) | (simp; omega)) _
  have y0 : -1000000 ≤ y ∧ y ≤ 1000000 := by simpa [plB, betw_iff] using h1
  have HKK : Hid (mcK xs ys y = true) := by unfold Hid; simp [mcK, hk, h1]
  obtain ⟨⟨n0, n1⟩, nn, _, _⟩ := ch_parts hk
  rw [hl] at nn n0 n1
  rw [hl'] at nn
  subst nn
  have HT := Lib.hid (fun k (hk' : k ≤ n) => mcT_bd hk y0 k (by omega))
  clear hl hl' hk
  go_enter Try.func43, Try.ntmps43
  go_wp2_with fail
  refine absW ?_
  intro w0 hw
  have hb0 : Below w.heap.size w w0 := by rw [hw]; exact (by repeat' (first | assumption | exact Below.refl _ _ | refine Below.drew ?_ | refine belN ?_ _ | refine Below.alloc ?_ (by first | omega | (simp; done) | (simp; omega)) _ | refine Below.setCell ?_ (by first | omega | (simp; done) | (simp; omega)) _))
  have bA : Blk w0 w.heap.size 34 #[.slice A n c, .slice A' (n + 1) c'] := by rw [hw]; exact (Blk.new _ _ _).alloc _
  have bR : Blk w0 (w.heap.size + 1) 34 #[.slice none 0 0, .slice none 0 0] := by rw [hw]; exact blk_new (by simp)
  clear hw
  have zR0 := bR.lt; have zA0 := bA.lt
  have c0 := bA.cell 0; have c1 := bA.cell 1
  simp at c0 c1
  refine (iValidCh _ (rdB h hb0) (rdB h' hb0) HL.out HL'.out hm hm').mono ?_
  rintro e w1 ⟨rfl, hb⟩
  replace bA := bA.bel hb; replace bR := bR.bel hb
  replace c0 := cellB c0 hb; replace c1 := cellB c1 hb
  replace hb0 := bel2 hb0 hb
  clear hb
  rw [HK.out]
  go_wp2_with (first | (go_at_call 64; refine (iPlace _ _).mono ?_; rintro e w' ⟨rfl, rfl⟩))
  have zz := bR.lt
  have d1 := bR.cell 0
  refine wp_region_rgl (fun i => match i with | 1 => [0] | 2 => [1] | 4 => [3] | 5 => [4, 2] | 6 => [2, 5] | _ => [])
    [fun T _ => ∃ x t, T = x :: t ∧ x.1 = .pointer (some ⟨w.heap.size, 0, none⟩),
     fun T _ => ∃ x t, T = x :: t ∧ x.1 = .slice A n c,
     fun T w' => ∃ x t A1 k, T = x :: t ∧ x.1 = .slice A1 n k ∧ Own w' x.2.1 x.2.2 2 1 (.slice A1 n k) n (xs.map (Value.int .i64)),
     fun T _ => ∃ x t, T = x :: t ∧ x.1 = .pointer (some ⟨w.heap.size, 1, none⟩),
     fun T _ => ∃ x t, T = x :: t ∧ x.1 = .slice A' (n + 1) c',
     fun T w' => ∃ x t A1 k, T = x :: t ∧ x.1 = .slice A1 (n + 1) k ∧ Own w' x.2.1 x.2.2 2 1 (.slice A1 (n + 1) k) (n + 1) (ys.map (Value.int .i64)),
     fun T _ => ∃ x y z t, T = x :: y :: z :: t ∧ x.1 = .agg #[y.1, z.1],
     fun T w' => ∃ x t, T = x :: t ∧ x.1 = .pointer (some ⟨x.2.1, 0, none⟩) ∧ Blk w' x.2.1 34 #[.slice none 0 0, .slice none 0 0]] (by kernel_rfl) (by kernel_rfl) (by kernel_rfl) ?_ ?_ ?_
  · refine And.intro ?_ (And.intro ?_ (And.intro ?_ (And.intro ?_ (And.intro ?_ (And.intro ?_ (And.intro ?_ (And.intro ?_ trivial)))))))
    all_goals (intro T w1 w2 hz hb ht h)
    · exact h
    · exact h
    · obtain ⟨x, t, A1, k, rfl, h1, h2⟩ := h
      exact ⟨x, t, A1, k, rfl, h1, h2.bel hb⟩
    · exact h
    · exact h
    · obtain ⟨x, t, A1, k, rfl, h1, h2⟩ := h
      exact ⟨x, t, A1, k, rfl, h1, h2.bel hb⟩
    · exact h
    · obtain ⟨x, t, rfl, h1, h2⟩ := h
      exact ⟨x, t, rfl, h1, h2.bel hb⟩
  · refine And.intro ?_ (And.intro ?_ (And.intro ?_ (And.intro ?_ (And.intro ?_ (And.intro ?_ (And.intro ?_ (And.intro ?_ trivial)))))))
    all_goals (intro A0 u s e w1 hat hoff hb hz hd hor K hK)
    · have e2 : A0.tmps[2]?.getD undef = .pointer (some ⟨w.heap.size, 0, none⟩) := rd_at (hoff 2 rfl)
      exact op_val (.pointer (some ⟨w.heap.size, 0, none⟩)) (by simp [execOp, go_sem, e2]) (hK _ _ ⟨_, _, rfl, rfl⟩ (Below.refl _ _))
    · obtain ⟨x, t, ht, h1⟩ := (hd 0 (by simp)).1
      obtain ⟨rfl, rfl⟩ := List.cons.inj ht
      have e2 : A0.tmps[17]?.getD undef = .pointer (some ⟨w.heap.size, 0, none⟩) := (rd_at (hat 17 0 rfl (Nat.le_of_ble_eq_true rfl))).trans h1
      have c0' := cellB c0 hb
      exact op_val (.slice A n c) (by simp [execOp, go_sem, e2, c0']) (hK _ _ ⟨_, _, rfl, rfl⟩ (Below.refl _ _))
    · obtain ⟨x, t, ht, h1⟩ := (hd 1 (by simp)).1
      obtain ⟨rfl, rfl⟩ := List.cons.inj ht
      have e2 : A0.tmps[18]?.getD undef = .slice A n c := (rd_at (hat 18 1 rfl (Nat.le_of_ble_eq_true rfl))).trans h1
      refine op_call 74 rfl _ Try.func74 (by kernel_rfl) (by kernel_rfl) #[.slice A n c] (by simp [go_sem, e2]) ?_
      refine (iCopy _ (rdB h (bel2 hb0 hb)) n0 (by omega)).mono ?_
      rintro x w2 ⟨v, rfl, ho, hb2⟩
      obtain ⟨A1, k, rfl, _, _⟩ := ho.form
      exact ⟨_, rfl, hK _ _ ⟨_, _, A1, k, rfl, rfl, ho⟩ hb2⟩
    · have e2 : A0.tmps[2]?.getD undef = .pointer (some ⟨w.heap.size, 0, none⟩) := rd_at (hoff 2 rfl)
      exact op_val (.pointer (some ⟨w.heap.size, 1, none⟩)) (by simp [execOp, go_sem, e2]) (hK _ _ ⟨_, _, rfl, rfl⟩ (Below.refl _ _))
    · obtain ⟨x, t, ht, h1⟩ := (hd 3 (by simp)).1
      obtain ⟨rfl, rfl⟩ := List.cons.inj ht
      have e2 : A0.tmps[20]?.getD undef = .pointer (some ⟨w.heap.size, 1, none⟩) := (rd_at (hat 20 3 rfl (Nat.le_of_ble_eq_true rfl))).trans h1
      have c1' := cellB c1 hb
      exact op_val (.slice A' (n + 1) c') (by simp [execOp, go_sem, e2, c1']) (hK _ _ ⟨_, _, rfl, rfl⟩ (Below.refl _ _))
    · obtain ⟨x, t, ht, h1⟩ := (hd 4 (by simp)).1
      obtain ⟨rfl, rfl⟩ := List.cons.inj ht
      have e2 : A0.tmps[21]?.getD undef = .slice A' (n + 1) c' := (rd_at (hat 21 4 rfl (Nat.le_of_ble_eq_true rfl))).trans h1
      refine op_call 74 rfl _ Try.func74 (by kernel_rfl) (by kernel_rfl) #[.slice A' (n + 1) c'] (by simp [go_sem, e2]) ?_
      refine (iCopy _ (rdB h' (bel2 hb0 hb)) (by omega) (by omega)).mono ?_
      rintro x w2 ⟨v, rfl, ho, hb2⟩
      obtain ⟨A1, k, rfl, _, _⟩ := ho.form
      exact ⟨_, rfl, hK _ _ ⟨_, _, A1, k, rfl, rfl, ho⟩ hb2⟩
    · obtain ⟨x, t, A1, k1, ht, h1, _⟩ := (hd 2 (by simp)).1
      obtain ⟨rfl, rfl⟩ := List.cons.inj ht
      obtain ⟨x, t, A2, k2, ht, h2, _⟩ := (hd 5 (by simp)).1
      obtain ⟨rfl, rfl⟩ := List.cons.inj ht
      have e1 : A0.tmps[19]?.getD undef = .slice A1 n k1 := (rd_at (hat 19 2 rfl (Nat.le_of_ble_eq_true rfl))).trans h1
      have e2 : A0.tmps[22]?.getD undef = .slice A2 (n + 1) k2 := (rd_at (hat 22 5 rfl (Nat.le_of_ble_eq_true rfl))).trans h2
      exact op_val (.agg #[.slice A1 n k1, .slice A2 (n + 1) k2]) (by simp [execOp, go_sem, e1, e2]) (hK _ _ ⟨_, _, _, _, rfl, by show _ = Value.agg #[u 2, u 5]; rw [show u 2 = _ from h1, show u 5 = _ from h2]⟩ (Below.refl _ _))
    · exact op_assign (.pointer (some ⟨w1.heap.size, 0, none⟩)) (w1.alloc (.cells #[.slice none 0 0, .slice none 0 0] 34)) (by simp [execOp, go_sem]) (hK _ _ ⟨_, _, rfl, rfl, Blk.new _ _ _⟩ ((Below.refl _ _).alloc (Nat.le_refl _) _))
  · intro u s e w1 hb hz hf hdis hor
    have H0 := u0_of (hf 0 (Nat.le_of_ble_eq_true rfl)).1
    have H1 := u0_of (hf 1 (Nat.le_of_ble_eq_true rfl)).1
    obtain ⟨x, t, A1, k1, ht, H2, ho⟩ := (hf 2 (Nat.le_of_ble_eq_true rfl)).1
    obtain ⟨rfl, rfl⟩ := List.cons.inj ht
    have H3 := u0_of (hf 3 (Nat.le_of_ble_eq_true rfl)).1
    have H4 := u0_of (hf 4 (Nat.le_of_ble_eq_true rfl)).1
    obtain ⟨x, t, A2, k2, ht, H5, ho'⟩ := (hf 5 (Nat.le_of_ble_eq_true rfl)).1
    obtain ⟨rfl, rfl⟩ := List.cons.inj ht
    obtain ⟨x, y', z, t, ht, H6⟩ := (hf 6 (Nat.le_of_ble_eq_true rfl)).1
    have q1 : (u 6, s 6, e 6) = x := (List.cons.inj ht).1
    have q2 : (u 2, s 2, e 2) = y' := (List.cons.inj (List.cons.inj ht).2).1
    have q3 : (u 5, s 5, e 5) = z := (List.cons.inj (List.cons.inj (List.cons.inj ht).2).2).1
    subst q1 q2 q3
    clear ht
    obtain ⟨x, t, ht, H7, hg⟩ := (hf 7 (Nat.le_of_ble_eq_true rfl)).1
    obtain ⟨rfl, rfl⟩ := List.cons.inj ht
    have b2 := (hf 2 (Nat.le_of_ble_eq_true rfl)).2
    have b5 := (hf 5 (Nat.le_of_ble_eq_true rfl)).2
    have b7 := (hf 7 (Nat.le_of_ble_eq_true rfl)).2
    have b25 : e 2 ≤ s 5 := hor 5 (Nat.le_of_ble_eq_true rfl) 2 (by simp)
    replace H2 : u 2 = .slice A1 n k1 := H2
    replace H5 : u 5 = .slice A2 (n + 1) k2 := H5
    replace H6 : u 6 = .agg #[.slice A1 n k1, .slice A2 (n + 1) k2] := by rw [← H2, ← H5]; exact H6
    replace H7 : u 7 = .pointer (some ⟨s 7, 0, none⟩) := H7
    simp only [List.length_cons, List.length_nil, Nat.zero_add, Nat.reduceAdd, List.drop_succ_cons, List.drop_zero, putAll, List.getElem?_cons_succ, List.getElem?_cons_zero, Option.bind_some, H0, H1, H2, H3, H4, H5, H6, H7]
    clear H0 H1 H2 H3 H4 H5 H6 H7 hf hdis hor
    simp only [] at hg ho ho' b2 b5 b7 b25
    replace bA := bA.bel hb; replace bR := bR.bel hb
    replace hb0 := bel2 hb0 hb
    clear c0 c1 d1
    obtain ⟨gx, hgx⟩ : ∃ gx, s 7 = gx := ⟨_, rfl⟩
    obtain ⟨pa, hpa⟩ : ∃ pa, s 2 = pa := ⟨_, rfl⟩
    obtain ⟨pb, hpb⟩ : ∃ pb, e 2 = pb := ⟨_, rfl⟩
    obtain ⟨pc, hpc⟩ : ∃ pc, s 5 = pc := ⟨_, rfl⟩
    obtain ⟨pd, hpd⟩ : ∃ pd, e 5 = pd := ⟨_, rfl⟩
    rw [hgx] at hg b7 ⊢
    rw [hpa, hpb] at ho b2
    rw [hpc, hpd] at ho' b5
    rw [hpb, hpc] at b25
    obtain ⟨g5, rfl, l5, r5, z5, hx5, hf5⟩ := ho'.at_ (by omega)
    obtain ⟨q0, hq0⟩ : ∃ q, ys[0]? = some q := ⟨_, List.getElem?_eq_getElem (by rw [HL'.out]; omega)⟩
    have y5 : w1.cell? ⟨g5, 0, none⟩ = some (.int .i64 q0) := (hx5 0 (by omega)).trans (by rw [List.getElem?_map, hq0]; rfl)
    have f5 := hf5 0
    clear hx5 hf5
    clear hgx hpa hpb hpc hpd
    have ng : g5 ≠ gx := fun hh => own_blk_ne ho'.row hg (by decide) (by rw [hh]; rfl)
    have ng' : ¬ gx = g5 := fun hh => ng hh.symm
    have hgf := hg.frozen
    have hc0 := hg.cell 0; have hc1 := hg.cell 1
    simp at hc0 hc1
    have hgl := hg.lt
    have c0 := bA.cell 0
    simp at c0
    have ne3 : ¬ g5 = w.heap.size := by omega
    have ne4 : ¬ w.heap.size = g5 := by omega
    have ne0 : ¬ gx = w.heap.size := by omega
    have ne1 : ¬ gx = w.heap.size + 1 := by omega
    have ne2 : ¬ w.heap.size = gx := by omega
    go_wp2
    refine absC ?_
    intro w2 hw2
    have hB : Below w.heap.size w w2 := by rw [hw2]; exact ((hb0.setCell (by first | omega | (simp; done) | (simp; omega)) _).setCell (by first | omega | (simp; done) | (simp; omega)) _).setCell (by first | omega | (simp; done) | (simp; omega)) _
    have hA : Blk w2 w.heap.size 34 #[.slice A n c, .slice A' (n + 1) c'] := by rw [hw2]; exact ((bA.far (by simpa using ne2) _).far (by simpa using ne2) _).far (by show w.heap.size ≠ g5; omega) _
    have hR : Blk w2 (w.heap.size + 1) 34 #[.slice none 0 0, .slice none 0 0] := by rw [hw2]; exact ((bR.far (by show w.heap.size + 1 ≠ gx; omega) _).far (by show w.heap.size + 1 ≠ gx; omega) _).far (by show w.heap.size + 1 ≠ g5; omega) _
    have hG : Blk w2 gx 34 #[.slice A1 n k1, .slice (some ⟨g5, 0, none⟩) (n + 1) k2] := by rw [hw2]; simpa using ((hg.set_ 0 (.slice A1 n k1)).set_ 1 (.slice (some ⟨g5, 0, none⟩) (n + 1) k2)).far (p := ⟨g5, 0, none⟩) (by show gx ≠ g5; omega) (.int .i64 y)
    have ho1 : Own w2 pa pb 2 1 (.slice A1 n k1) n (xs.map (Value.int .i64)) := by rw [hw2]; exact ((ho.setBox hg (by decide) _ _).setBox (hg.set_ 0 _) (by decide) _ _).setLow (.inr (by show pb ≤ g5; omega)) _
    have ho2 : Own w2 pc pd 2 1 (.slice (some ⟨g5, 0, none⟩) (n + 1) k2) (n + 1) ((mcL xs ys y (0 + 1) ++ ys.drop (0 + 1)).map (Value.int .i64)) := by
      rw [hw2]
      have h9 := ((ho'.setBox hg (by decide) 0 (.slice A1 n k1)).setBox (hg.set_ 0 _) (by decide) 1 (.slice (some ⟨g5, 0, none⟩) (n + 1) k2)).stored 0 (.int .i64 y)
      rwa [mc_first hq0] at h9
    have hz9 : w1.heap.size ≤ w2.heap.size := by rw [hw2]; simp
    clear hw2 ho ho' hg bA bR hb0 hc0 hc1 hgf y5 f5 hb hq0 c0
    go_loopw [31] (fun i wr => ∃ (k : Nat), k ≤ n ∧ i = .int .i64 k ∧ Blk wr w.heap.size 34 #[.slice A n c, .slice A' (n + 1) c'] ∧ Blk wr (w.heap.size + 1) 34 #[.slice none 0 0, .slice none 0 0] ∧ Blk wr gx 34 #[.slice A1 n k1, .slice (some ⟨g5, 0, none⟩) (n + 1) k2] ∧
      Own wr pa pb 2 1 (.slice A1 n k1) n (xs.map (Value.int .i64)) ∧ Own wr pc pd 2 1 (.slice (some ⟨g5, 0, none⟩) (n + 1) k2) (n + 1) ((mcL xs ys y (k + 1) ++ ys.drop (k + 1)).map (Value.int .i64)) ∧ wr.heap.size = w2.heap.size ∧ Below w.heap.size w wr) (fun i _ => n - (intOf i).toNat)
    case atStart => exact ⟨0, Nat.zero_le _, rfl, hA, hR, hG, ho1, ho2, rfl, hB⟩
    case round =>
      clear hA hR hG ho1 ho2 hB
      obtain ⟨k, hk, rfl, hA, hR, hG, ho1, ho2, hz2, hB⟩ := hrel
      have c0 := hA.cell 0; have c1 := hA.cell 1; have d0 := hR.cell 0; have d1 := hR.cell 1; have fR := hR.frozen; have o0 := hG.cell 0; have o1 := hG.cell 1
      simp at c0 c1 d0 d1 o0 o1
      have tb := HT.out k hk
      have kn : (k : Int) ≤ 10 := by omega
      by_cases hlt : k < n
      · obtain ⟨p, hp⟩ : ∃ p, xs[k]? = some p := ⟨_, List.getElem?_eq_getElem (by rw [HL.out]; omega)⟩
        obtain ⟨q, hq⟩ : ∃ q, ys[k + 1]? = some q := ⟨_, List.getElem?_eq_getElem (by rw [HL'.out]; omega)⟩
        have pb' := pl_in HK.out hp
        have qb := pc_in HK.out hq
        have HS := Lib.hid (mcT_step (tz := y) hp hq)
        obtain ⟨b1, o1', hA1, _, hc1⟩ := (rdB h hB).lits (by decide) (by omega)
        have p0 := hc1 k (.int .i64 p) (by rw [List.getElem?_map, hp]; rfl)
        obtain ⟨g', hg', -, -, -, hx, hf⟩ := ho2.at_ (by omega)
        obtain rfl : g5 = g' := by simpa using hg'
        have v0 := (hx k (by omega)).trans mc_get0
        have v1 := (hx (k + 1) (by omega)).trans (mc_get1 hq)
        have fk := hf (k + 1)
        have HQ := Lib.hid hq
        clear hc1 hp hx hf hg' hq
        subst hA1
        have ki0 : (0 : Int) ≤ (k : Int) := Int.natCast_nonneg _
        have ki1 : (k : Int) < (n : Int) := by omega
        have ki2 : (k : Int) + 1 < (n : Int) + 1 := by omega
        have ki4 : (k : Int) < (n : Int) + 1 := by omega
        have ki3 : (0 : Int) ≤ (k : Int) + 1 := by omega
        obtain ⟨t, ht⟩ : ∃ t, mcT xs ys y k = t := ⟨_, rfl⟩
        rw [ht] at tb v0
        have HS2 : Hid (mcT xs ys y (k + 1) = min (max q (t - p)) (t + p)) := by unfold Hid; rw [HS.out, ht]
        clear ht HS
        obtain ⟨r, hr⟩ : ∃ r, min (max q (t - p)) (t + p) = r := ⟨_, rfl⟩
        have HS3 : Hid (mcT xs ys y (k + 1) = r) := by unfold Hid; rw [HS2.out, hr]
        clear HS2
        have W1 : IntKind.i64.wrap ((k : Int) + 1) = (k : Int) + 1 := IntWalk.i64_in _ (by omega)
        have W2 : IntKind.i64.wrap (t - p) = t - p := IntWalk.i64_in _ (by omega)
        have W4 : IntKind.i64.wrap (t + p) = t + p := IntWalk.i64_in _ (by omega)
        have W3 : ((k : Int) + 1).toNat = k + 1 := by omega
        go_wp2_with fail
        go_still_tail 26, (by kernel_rfl)
        change wpList _ _ _ _ _ wr.drew
        clear W1 W2 W3 W4
        go_wp2
        have HV : (if t + p < if q < t - p then t - p else q then t + p else if q < t - p then t - p else q) = r := by
          by_cases a1 : q < t - p
          · simp only [if_pos a1]; by_cases a2 : t + p < t - p <;> simp only [a2, if_true, if_false] <;> omega
          · simp only [if_neg a1]; by_cases a2 : t + p < q <;> simp only [a2, if_true, if_false] <;> omega
        rw [HV]
        go_roundw
        case rel =>
          refine ⟨k + 1, by omega, by go_num, ?_, ?_, ?_, ?_, ?_, ?_, ?_⟩
          · exact hA.far (p := ⟨g5, k + 1, none⟩) (by show w.heap.size ≠ g5; omega) _
          · exact hR.far (p := ⟨g5, k + 1, none⟩) (by show w.heap.size + 1 ≠ g5; omega) _
          · exact hG.far (p := ⟨g5, k + 1, none⟩) (by show gx ≠ g5; omega) _
          · exact (ho1.setLow (p := ⟨g5, k + 1, none⟩) (.inr (by show pb ≤ g5; omega)) _).drew
          · have h9 := (ho2.stored (k + 1) (.int .i64 r)).drew
            rwa [mc_next HQ.out HS3.out] at h9
          · simpa using hz2
          · exact (hB.setCell (by first | omega | (simp; done) | (simp; omega)) _).drew
        case measure => simp [intOf]; omega
      · obtain rfl : k = n := by omega
        have hzz := hB.size
        go_wp2
        refine bodyPost_ret (v := .tuple #[.agg #[.slice A1 k k1, .slice (some ⟨g5, 0, none⟩) (k + 1) k2], .int .i64 0]) (by simp [results, Try.results43, go_sem, d0, d1]) rfl (mc_o HKK.out HL.out (mid := pb) ?_ ?_ ?_ ?_ ?_)
        · exact ((ho1.setLow (.inl (by first | omega | (simp; done) | (simp; omega))) _).setLow (.inl (by first | omega | (simp; done) | (simp; omega))) _).more (by first | omega | (simp; done) | (simp; omega)) (Nat.le_refl _)
        · have ho3 := ho2
          rw [List.drop_of_length_le (by rw [HL'.out]; exact Nat.le_refl _), List.append_nil] at ho3
          exact ((ho3.setLow (.inl (by first | omega | (simp; done) | (simp; omega))) _).setLow (.inl (by first | omega | (simp; done) | (simp; omega))) _).more (by first | omega | (simp; done) | (simp; omega)) (by first | omega | (simp; done) | (simp; omega))
        · omega
        · simp; omega
        · exact (hB.setCell (by first | omega | (simp; done) | (simp; omega)) _).setCell (by first | omega | (simp; done) | (simp; omega)) _
end Go.Proofs.Ytndodfolpjkppaa
