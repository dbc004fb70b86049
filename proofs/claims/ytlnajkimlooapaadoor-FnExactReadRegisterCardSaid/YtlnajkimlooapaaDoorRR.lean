/- Registers read from text. No condition. -/
import Derived.Test.YtlnajkimlooapaaDoorCut
import Derived.Test.YtlnajkimlooapaaDoorRegT
import Derived.Test.YtlnajkimlooapaaDoorCall
namespace Go.Proofs.YtlnajkimlooapaaDoor
open Go.RowKit

theorem eltI : Elt Tryd.prog 33 2 1 := by
  obtain ⟨i0, hi, hz0, hz1, hz2⟩ := info_parts infoI
  exact ⟨i0, _, _, Tryd.underlying33, hi, hz0, hz1, hz2, rfl, by decide, by decide⟩
/-- The digit of a character; -1 if there is none. -/
def dgv (c : Int) : Int := if 48 ≤ c ∧ c ≤ 57 then c - 48 else if 97 ≤ c ∧ c ≤ 102 then c - 87 else -1
theorem dgv_bd (c : Int) : -1 ≤ dgv c ∧ dgv c ≤ 15 := by
  unfold dgv
  split
  · omega
  · split <;> omega
/-- The last place of a character among the first j characters of digits; -1 if there is none. -/
def lk (c : Int) : Nat → Int
  | 0 => -1
  | j + 1 => if bt hx j = c then j else lk c j
theorem lk_all : ∀ c : Fin 256, lk ((c : Nat) : Int) 16 = dgv ((c : Nat) : Int) := by decide +kernel
theorem lk_byte (c : UInt8) : lk (c.toNat : Int) 16 = dgv (c.toNat : Int) := lk_all ⟨c.toNat, c.toNat_lt⟩
theorem lk_yes {c : Int} {j : Nat} (h : bt hx j = c) : lk c (j + 1) = j := by rw [lk, if_pos h]
theorem lk_no {c : Int} {j : Nat} (h : ¬ bt hx j = c) : lk c (j + 1) = lk c j := by rw [lk, if_neg h]
set_option maxHeartbeats 1600000 in
theorem sDigC (c : Int) (w : World) (h0 : 0 ≤ c) (h1 : c ≤ 255) : Calls Tryd.prog 35 #[.int .u8 c] w fun e w' => e = .returned (.int .i64 (dgv c)) ∧ w = w' := by
  by_cases a : 48 ≤ c ∧ c ≤ 57
  · have HE : Hid (dgv c = c - 48) := by unfold Hid dgv; rw [if_pos a]
    have a1 := a.1; have a2 := a.2
    have W1 : IntKind.u8.wrap (c - 48) = c - 48 := IntWalk.u8_in _ (by omega)
    have W2 : IntKind.i64.wrap (c - 48) = c - 48 := IntWalk.i64_in _ (by omega)
    clear a
    go_enter Tryd.func35, Tryd.ntmps35
    go_wp2
    go_ret
    exact ⟨ret_n HE.out.symm, rfl⟩
  · by_cases b : 97 ≤ c ∧ c ≤ 102
    · have HE : Hid (dgv c = c - 87) := by unfold Hid dgv; rw [if_neg a, if_pos b]
      have b1 := b.1; have b2 := b.2
      have W1 : IntKind.u8.wrap (c - 97) = c - 97 := IntWalk.u8_in _ (by omega)
      have W2 : IntKind.i64.wrap (c - 97) = c - 97 := IntWalk.i64_in _ (by omega)
      have W3 : IntKind.i64.wrap (c - 97 + 10) = c - 97 + 10 := IntWalk.i64_in _ (by omega)
      have d1 : decide (48 ≤ c) = true := by simp; omega
      have d2 : decide (c ≤ 57) = false := by simp; omega
      clear a b
      go_enter Tryd.func35, Tryd.ntmps35
      go_wp2
      go_ret
      exact ⟨ret_n (by rw [HE.out]; omega), rfl⟩
    · have HE : Hid (dgv c = -1) := by unfold Hid dgv; rw [if_neg a, if_neg b]
      by_cases a1 : 48 ≤ c <;> by_cases b1 : 97 ≤ c <;> by_cases a2 : c ≤ 57 <;> by_cases b2 : c ≤ 102
      all_goals first | (exfalso; omega) | skip
      all_goals
        clear a b
        go_enter Tryd.func35, Tryd.ntmps35
        go_wp2
        go_ret
        exact ⟨ret_n HE.out.symm, rfl⟩

/-- The digits of a text, the last one first. -/
def dlT (d : ByteArray) (m : Nat) : List Int := (List.range m).map fun j => dgv (bt d (d.size - 1 - j))
theorem dlT_length (d : ByteArray) (m : Nat) : (dlT d m).length = m := by simp [dlT]
theorem dlT_step {d : ByteArray} {k : Nat} (hk : k < d.size) : dlT d (d.size - k) = dlT d (d.size - (k + 1)) ++ [dgv (bt d k)] := by
  rw [show d.size - k = (d.size - (k + 1)) + 1 by omega, dlT, List.range_succ, List.map_append]
  rw [show ([d.size - (k + 1)].map fun j => dgv (bt d (d.size - 1 - j))) = [dgv (bt d (d.size - 1 - (d.size - (k + 1))))] from rfl, show d.size - 1 - (d.size - (k + 1)) = k by omega]
  rfl
def rrL (s : ByteArray) : List Int := dlT (cD s) (cD s).size
def rrOK (s : ByteArray) : Bool := decide (cI s < s.size) && (rdOK (cB s) && okR (rdN (cB s)) (rrL s))
def rrB (s : ByteArray) : Int := if rrOK s then rdN (cB s) else 0
def rrX (s : ByteArray) : List Int := if rrOK s then rrL s else []
def rrN (s : ByteArray) : Nat := if rrOK s then (cD s).size else 0
theorem rrN_le (s : ByteArray) : rrN s ≤ 1073741824 := by
  unfold rrN
  split
  · rename_i h
    simp only [rrOK, Bool.and_eq_true] at h
    have := (okR_parts h.2.2).2.1.2
    rw [rrL, dlT_length] at this
    omega
  · omega
def RetRR (s : ByteArray) (w : World) (x : Ending) (w' : World) : Prop := ∃ v, x = .returned (.tuple #[.agg #[.int .i64 (rrB s), v], .bool (rrOK s)]) ∧ Own w' w.heap.size w'.heap.size 2 1 v (rrN s) ((rrX s).map (Value.int .i64)) ∧ Below w.heap.size w w'
theorem rr_no {s : ByteArray} {w w' : World} (h : rrOK s = false) (hb : Below w.heap.size w w') : RetRR s w (.returned (.tuple #[.agg #[.int .i64 0, .slice none 0 0], .bool false])) w' := by
  refine ⟨.slice none 0 0, ?_, ?_, hb⟩
  · simp [rrB, h]
  · simp only [rrN, rrX, h]
    exact Own.nil _ _ _ _ _
theorem rr_yes {s : ByteArray} {w w' : World} {v : Value} {n : Int} {d : Nat} (h : rrOK s = true) (hn : rdN (cB s) = n) (hd : (cD s).size = d) (ho : Own w' w.heap.size w'.heap.size 2 1 v d ((rrL s).map (Value.int .i64))) (hb : Below w.heap.size w w') :
    RetRR s w (.returned (.tuple #[.agg #[.int .i64 n, v], .bool true])) w' := by
  refine ⟨v, ?_, ?_, hb⟩
  · simp [rrB, h, hn]
  · simp only [rrN, rrX, h, if_true, hd]
    exact ho
theorem rr_col {s : ByteArray} (h : cI s = s.size) : rrOK s = false := by simp [rrOK, h]
theorem rr_num {s : ByteArray} (h : rdOK (cB s) = false) : rrOK s = false := by simp [rrOK, h]
theorem rr_reg {s : ByteArray} {n : Int} {L : List Int} (hn : rdN (cB s) = n) (hL : rrL s = L) (h : okR n L = false) : rrOK s = false := by simp [rrOK, hn, hL, h]
theorem rr_base {s : ByteArray} {n : Int} (hn : rdN (cB s) = n) (h : betwB n 2 16 = false) : rrOK s = false := by simp [rrOK, hn, okR_base h]
theorem rr_all {s : ByteArray} {n : Int} {L : List Int} (h0 : cI s < s.size) (h1 : rdOK (cB s) = true) (hn : rdN (cB s) = n) (hL : rrL s = L) (h : okR n L = true) : rrOK s = true := by simp [rrOK, h0, h1, hn, hL, h]
theorem rr_wide {s : ByteArray} (h : 16 < (cD s).size) : rrOK s = false := by
  have hf : okR (rdN (cB s)) (rrL s) = false := by
    have hl : betwB (rrL s).length 1 16 = false := by
      rw [rrL, dlT_length]
      cases hb : betwB ((cD s).size : Int) 1 16
      · rfl
      · have := (betw_iff.1 hb).2; omega
    simp [okR, hl]
  simp [rrOK, hf]
theorem bt_ext {s : ByteArray} {a j : Nat} (h : a + j < s.size) : bt (s.extract a s.size) j = bt s (a + j) := by
  have h1 : j < (s.extract a s.size).size := by rw [ByteArray.size_extract]; omega
  rw [bt_at h1, bt_at h, ByteArray.getElem_extract]
theorem rr_more {s : ByteArray} (h : ∃ k, cI s < k ∧ k < s.size ∧ bt s k = 58) : rrOK s = false := by
  obtain ⟨k, h1, h2, h3⟩ := h
  have hz : (cD s).size = s.size - (cI s + 1) := by rw [cD, ByteArray.size_extract]; omega
  have hb : bt (cD s) (k - (cI s + 1)) = 58 := by rw [cD, bt_ext (by omega), show cI s + 1 + (k - (cI s + 1)) = k by omega, h3]
  have hm : (-1 : Int) ∈ rrL s := by
    rw [rrL, dlT, List.mem_map]
    refine ⟨(cD s).size - 1 - (k - (cI s + 1)), List.mem_range.2 (by omega), ?_⟩
    rw [show (cD s).size - 1 - ((cD s).size - 1 - (k - (cI s + 1))) = k - (cI s + 1) by omega, hb]
    rfl
  have hf : okR (rdN (cB s)) (rrL s) = false := by
    cases ho : okR (rdN (cB s)) (rrL s)
    · rfl
    · have hd := (okR_parts ho).2.2.1
      have := (of_decide_eq_true hd) _ hm
      omega
  simp [rrOK, hf]
theorem cB_size (s : ByteArray) : (cB s).size ≤ s.size := by rw [cB, ByteArray.size_extract]; omega
theorem cD_size (s : ByteArray) : (cD s).size ≤ s.size := by rw [cD, ByteArray.size_extract]; omega
section
attribute [local irreducible] wpQuiet dlT rdN rdOK okR

set_option maxRecDepth 100000 in
set_option maxHeartbeats 6400000 in
theorem sRR {s : ByteArray} (w : World) (hs : s.size ≤ 1048576) : Calls Tryd.prog 20 #[.string s] w (RetRR s w) := by
  have hcb := cB_size s; have hcd := cD_size s
  have hlen : Hid ((full s).length ≤ 1048577) := by unfold Hid; have := (spl_le s s.size).2; rw [full_length]; omega
  go_enter Tryd.func20, Tryd.ntmps20
  go_wp2_with fail
  refine absW ?_
  intro w0 hw
  have hb0 : Below w.heap.size w w0 := by rw [hw]; exact (by repeat' (first | assumption | exact Below.refl _ _ | refine Below.drew ?_ | refine belN ?_ _ | refine Below.alloc ?_ (by first | omega | (simp; done) | (simp; omega)) _ | refine Below.setCell ?_ (by first | omega | (simp; done) | (simp; omega)) _))
  have hR : Blk w0 w.heap.size 38 #[.int .i64 0, .slice none 0 0] := by rw [hw]; exact Blk.new _ _ _
  clear hw
  refine (sSplit0 _ hs).mono ?_
  rintro e w1 ⟨v, rfl, ho, hb⟩
  obtain ⟨A, c, rfl, hnc, hcm⟩ := ho.form
  replace hR := hR.bel hb
  replace hb0 := bel2 hb0 hb
  have hr := ho.reads
  clear ho hb
  have zR := hR.lt
  have d0 := hR.cell 0; have d1 := hR.cell 1; have fR := hR.frozen
  simp at d0 d1
  rcases full_cases s with ⟨k1, k2⟩ | ⟨k1, k2⟩ | ⟨k1, k2, k3⟩
  rotate_left
  rotate_left
  · have HE := Lib.hid (rr_more k3)
    obtain ⟨L, hL⟩ : ∃ L, (full s).length = L := ⟨_, rfl⟩
    rw [hL] at k2 ⊢
    have b1 : ((L : Int) != 2) = true := by rw [bne_iff_ne]; omega
    clear hr hL k3 hlen
    go_wp2
    refine bodyPost_ret (v := .tuple #[.agg #[.int .i64 0, .slice none 0 0], .bool false]) (by simp [results, Tryd.results20, go_sem, d0, d1]) rfl (rr_no HE.out ?_)
    exact (by repeat' (first | assumption | exact Below.refl _ _ | refine Below.drew ?_ | refine belN ?_ _ | refine Below.alloc ?_ (by first | omega | (simp; done) | (simp; omega)) _ | refine Below.setCell ?_ (by first | omega | (simp; done) | (simp; omega)) _))
  · have HE := Lib.hid (rr_col k1)
    have hL : (full s).length = 1 := by rw [k2]; rfl
    rw [hL]
    clear hr hL hlen k2 hnc
    go_wp2
    refine bodyPost_ret (v := .tuple #[.agg #[.int .i64 0, .slice none 0 0], .bool false]) (by simp [results, Tryd.results20, go_sem, d0, d1]) rfl (rr_no HE.out ?_)
    exact (by repeat' (first | assumption | exact Below.refl _ _ | refine Below.drew ?_ | refine belN ?_ _ | refine Below.alloc ?_ (by first | omega | (simp; done) | (simp; omega)) _ | refine Below.setCell ?_ (by first | omega | (simp; done) | (simp; omega)) _))
  · have hL : (full s).length = 2 := by rw [k2]; rfl
    rw [hL, k2] at hr
    rw [hL]; rw [hL] at hnc
    obtain ⟨bk, off, rfl, hbk, hcell⟩ := hr.lits (by decide) (by decide)
    have p0 : w1.cell? ⟨bk, off, none⟩ = some (.string (cB s)) := hcell 0 _ rfl
    have p1 : w1.cell? ⟨bk, off + 1, none⟩ = some (.string (cD s)) := hcell 1 _ rfl
    obtain ⟨d, hd⟩ : ∃ d, cD s = d := ⟨_, rfl⟩
    obtain ⟨b, hbb⟩ : ∃ b, cB s = b := ⟨_, rfl⟩
    rw [hbb] at p0 hcb; rw [hd] at p1 hcd
    have HDD := Lib.hid hd; have HBB := Lib.hid hbb
    clear hcell hr hL hlen k2 hnc hd hbb
    by_cases h16 : 16 < d.size
    · have HE := Lib.hid (rr_wide (s := s) (by rw [HDD.out]; exact h16))
      have b1 : decide (16 < (d.size : Int)) = true := by simp; omega
      clear h16
      go_wp2
      refine bodyPost_ret (v := .tuple #[.agg #[.int .i64 0, .slice none 0 0], .bool false]) (by simp [results, Tryd.results20, go_sem, d0, d1]) rfl (rr_no HE.out ?_)
      exact (by repeat' (first | assumption | exact Below.refl _ _ | refine Below.drew ?_ | refine belN ?_ _ | refine Below.alloc ?_ (by first | omega | (simp; done) | (simp; omega)) _ | refine Below.setCell ?_ (by first | omega | (simp; done) | (simp; omega)) _))
    · have b1 : decide (16 < (d.size : Int)) = false := by simp; omega
      go_wp2_with fail
      refine (sNum _ (by omega : b.size ≤ 1048576)).mono ?_
      rintro e w2 ⟨rfl, hb⟩
      replace p0 := cellB p0 hb; replace p1 := cellB p1 hb
      replace hR := hR.bel hb
      replace hb0 := bel2 hb0 hb
      clear d0 d1 fR zR hb
      have zR := hR.lt
      obtain ⟨n, hn⟩ : ∃ n, rdN b = n := ⟨_, rfl⟩
      obtain ⟨ok, hok⟩ : ∃ ok, rdOK b = ok := ⟨_, rfl⟩
      rw [hn, hok]
      have HN := Lib.hid hn; have HOK := Lib.hid hok
      clear hn hok
      have p1a := fun X : Obj => cellA p1 X
      go_wp2
      clear p1a
      go_loopw [8] (fun i wr => ∃ (k m : Nat) (A' : Option Addr) (c' : Nat), k ≤ d.size ∧ m = d.size - k ∧ i = .int .i64 ((k : Int) - 1) ∧ Blk wr w2.heap.size 38 #[.int .i64 n, .slice A' m c'] ∧ Blk wr w.heap.size 38 #[.int .i64 0, .slice none 0 0] ∧ Own wr (w2.heap.size + 1) wr.heap.size 2 1 (.slice A' m c') m ((dlT d m).map (Value.int .i64)) ∧ w2.heap.size + 1 ≤ wr.heap.size ∧ Below w2.heap.size w2 wr) (fun i _ => (intOf i + 1).toNat)
      case atStart => exact ⟨d.size, 0, none, 0, Nat.le_refl _, by omega, rfl, Blk.new _ _ _, hR.alloc _, by unfold dlT; exact Own.nil _ _ _ _ _, by simp, (by repeat' (first | assumption | exact Below.refl _ _ | refine Below.drew ?_ | refine belN ?_ _ | refine Below.alloc ?_ (by first | omega | (simp; done) | (simp; omega)) _ | refine Below.setCell ?_ (by first | omega | (simp; done) | (simp; omega)) _))⟩
      case round =>
        obtain ⟨k, m, A', c', hk, hm, hi, hG, hR2, ho, hz, hB⟩ := hrel
        have zRR := hR.lt; clear hR zR
        have zb := hb0.size
        have q0 := cellB p0 hB; have q1 := cellB p1 hB
        have zG := hG.lt; have zR := hR2.lt
        have c0 := hG.cell 0; have c1 := hG.cell 1; have fG := hG.frozen; have d0 := hR2.cell 0; have d1 := hR2.cell 1; have fR := hR2.frozen
        simp at c0 c1 d0 d1
        rcases k with _ | j
        · subst hi
          obtain rfl : m = d.size := by omega
          clear hm
          have HL : Hid (rrL s = dlT d d.size) := by unfold Hid rrL; rw [HDD.out]
          have HN2 : Hid (rdN (cB s) = n) := by unfold Hid; rw [HBB.out, HN.out]
          have HLL : Hid ((dlT d d.size).length = d.size) := dlT_length _ _
          cases ok
          · have HE := Lib.hid (rr_num (s := s) (by rw [HBB.out, HOK.out]))
            go_wp2
            refine bodyPost_ret (v := .tuple #[.agg #[.int .i64 0, .slice none 0 0], .bool false]) (by simp [results, Tryd.results20, go_sem, d0, d1]) rfl (rr_no HE.out ?_)
            exact ((bel2 hb0 hB).setCell (by first | omega | (simp; done) | (simp; omega)) _).setCell (by first | omega | (simp; done) | (simp; omega)) _
          · go_wp2_with fail
            refine (sOkR _ ho.reads HLL.out (by unfold maxLen; omega) c0 c1).mono ?_
            rintro e w3 ⟨rfl, nq, rfl⟩
            cases hreg : okR n (dlT d d.size)
            · have HE := Lib.hid (rr_reg HN2.out HL.out hreg)
              clear hreg
              go_wp2
              refine bodyPost_ret (v := .tuple #[.agg #[.int .i64 0, .slice none 0 0], .bool false]) (by simp [results, Tryd.results20, go_sem, d0, d1]) rfl (rr_no HE.out ?_)
              exact ((belN (bel2 hb0 hB) _).setCell (by first | omega | (simp; done) | (simp; omega)) _).setCell (by first | omega | (simp; done) | (simp; omega)) _
            · have HE := Lib.hid (rr_all k1 (by rw [HBB.out, HOK.out]) HN2.out HL.out hreg)
              clear hreg
              have hO : Own wr (w2.heap.size + 1) wr.heap.size 2 1 (.slice A' d.size c') d.size ((rrL s).map (Value.int .i64)) := by rw [HL.out]; exact ho
              go_wp2
              refine bodyPost_ret (v := .tuple #[.agg #[.int .i64 n, .slice A' d.size c'], .bool true]) (by simp [results, Tryd.results20, go_sem, d0, d1]) rfl (rr_yes HE.out HN2.out (by rw [HDD.out]) ?_ ?_)
              · exact (((hO.bel (belN (Below.refl _ _) _)).setLow (.inl (by first | omega | (simp; done) | (simp; omega))) _).setLow (.inl (by first | omega | (simp; done) | (simp; omega))) _).more (by first | omega | (simp; done) | (simp; omega)) (by first | omega | (simp; done) | (simp; omega))
              · exact ((belN (bel2 hb0 hB) _).setCell (by first | omega | (simp; done) | (simp; omega)) _).setCell (by first | omega | (simp; done) | (simp; omega)) _
        · rw [show (((j + 1 : Nat) : Int) - 1) = (j : Int) by omega] at hi
          subst hi
          have hlt : j < d.size := by omega
          have hbt := bt_at hlt
          have hb2 : (d[j].toNat : Int) ≤ 255 := by have := d[j].toNat_lt; omega
          have HS : Hid (dlT d (m + 1) = dlT d m ++ [dgv (d[j].toNat : Int)]) := by have := dlT_step hlt; rw [hbt, show d.size - j = m + 1 by omega, show d.size - (j + 1) = m by omega] at this; exact this
          obtain ⟨cc, hcc⟩ : ∃ cc : Int, (d[j].toNat : Int) = cc := ⟨_, rfl⟩
          rw [hcc] at HS hb2
          have hb3 : 0 ≤ cc := by omega
          obtain ⟨g, hg⟩ : ∃ g, dgv cc = g := ⟨_, rfl⟩
          have HDC := Lib.hid (fun (W : World) => sDigC cc W hb3 hb2)
          rw [hg] at HS HDC
          clear hbt hg
          have hm2 : m ≤ 16 := by omega
          have HM := Lib.hid hm; clear hm
          have q1a := fun X : Obj => cellA q1 X; have c1a := fun X : Obj => cellA c1 X
          go_wp2_with fail
          go_region_law (first | (refine step_call (by rfl) 35 (by rfl) _ Tryd.func35 (by kernel_rfl) (by kernel_rfl) #[.int .u8 cc] (by simp [go_sem]) ?_; refine (HDC.out _).mono ?_; rintro e w3 ⟨rfl, rfl⟩; refine ⟨_, rfl, ?_⟩) | (refine step_app1 (by rfl) (.tmp 41) (.tmp 48) (by rfl) eltI (by simp [go_sem]) ((ho.alloc _).drew) (by rfl) (Blk.new _ _ _) (by rfl) (one_int _) (by omega) (by simp; omega) ?_; intro A2 c2 w4 ho2 ht2; have hG2 := Blk.touch ((hG.alloc _).drew) ht2 (.inl (by omega)); have hR3 := Blk.touch ((hR2.alloc _).drew) ht2 (.inl (by omega)); have e0 := hG2.cell 0; have e1 := hG2.cell 1; have fG2 := hG2.frozen; simp at e0 e1))
          all_goals
            clear q1a c1a
            have hz1 := ht2.size
            go_wp2
            go_roundw
            case rel => exact ⟨j, m + 1, A2, c2, by omega, by have := HM.out; omega, by go_num, by simpa using hG2.set_ 1 (.slice A2 (m + 1) c2), hR3.far (by show w.heap.size ≠ w2.heap.size; omega) _, by rw [HS.out]; simpa using (ho2.setLow (p := ⟨w2.heap.size, 1, none⟩) (.inl (by simp)) _), by simp at hz1 ⊢; omega, (Touch.below ((hB.alloc (by omega) _).drew) ht2 (by simp; omega) (by omega)).setCell (by simp) _⟩
            case measure => simp [intOf]
set_option maxRecDepth 100000 in
set_option maxHeartbeats 6400000 in
theorem iRR {s : ByteArray} (w : World) (hs : s.size ≤ 1048576) (T : Tab w) : Calls Tryd.prog 21 #[.string s] w (RetRR s w) := by
  have hcb := cB_size s; have hcd := cD_size s
  go_enter Tryd.func21, Tryd.ntmps21
  go_wp2_with fail
  refine absW ?_
  intro w0 hw
  have hb0 : Below w.heap.size w w0 := by rw [hw]; exact (by repeat' (first | assumption | exact Below.refl _ _ | refine Below.drew ?_ | refine belN ?_ _ | refine Below.alloc ?_ (by first | omega | (simp; done) | (simp; omega)) _ | refine Below.setCell ?_ (by first | omega | (simp; done) | (simp; omega)) _))
  have hR : Blk w0 w.heap.size 38 #[.int .i64 0, .slice none 0 0] := by rw [hw]; exact Blk.new _ _ _
  clear hw
  refine (iCut _ hs).mono ?_
  rintro e w1 ⟨rfl, nd, hw⟩
  have hb : Below w0.heap.size w0 w1 := by rw [hw]; exact belN (Below.refl _ _) _
  replace hR := hR.bel hb
  replace hb0 := bel2 hb0 hb
  clear hw hb
  obtain ⟨d, hd⟩ : ∃ d, cD s = d := ⟨_, rfl⟩
  obtain ⟨b, hbb⟩ : ∃ b, cB s = b := ⟨_, rfl⟩
  obtain ⟨oc, hoc⟩ : ∃ oc, decide (cI s < s.size) = oc := ⟨_, rfl⟩
  rw [hd, hbb, hoc]
  rw [hbb] at hcb; rw [hd] at hcd
  have HDD := Lib.hid hd; have HBB := Lib.hid hbb; have HOC := Lib.hid hoc
  clear hd hbb hoc
  go_wp2_with fail
  refine (iRd _ (by omega : b.size ≤ 1048576) (T.bel hb0)).mono ?_
  rintro e w2 ⟨rfl, hb⟩
  replace hR := hR.bel hb
  replace hb0 := bel2 hb0 hb
  clear hb T
  obtain ⟨n, hn⟩ : ∃ n, rdN b = n := ⟨_, rfl⟩
  obtain ⟨ok, hok⟩ : ∃ ok, rdOK b = ok := ⟨_, rfl⟩
  rw [hn, hok]
  have HN := Lib.hid hn; have HOK := Lib.hid hok
  clear hn hok
  have zR := hR.lt
  have d0 := hR.cell 0; have d1 := hR.cell 1; have fR := hR.frozen
  simp at d0 d1
  have HN2 : Hid (rdN (cB s) = n) := by unfold Hid; rw [HBB.out, HN.out]
  have HOK2 : Hid (rdOK (cB s) = ok) := by unfold Hid; rw [HBB.out, HOK.out]
  cases oc
  · have HE : Hid (rrOK s = false) := by unfold Hid rrOK; rw [HOC.out]; rfl
    go_wp2
    refine bodyPost_ret (v := .tuple #[.agg #[.int .i64 0, .slice none 0 0], .bool false]) (by simp [results, Tryd.results21, go_sem, d0, d1]) rfl (rr_no HE.out ?_)
    exact (by repeat' (first | assumption | exact Below.refl _ _ | refine Below.drew ?_ | refine belN ?_ _ | refine Below.alloc ?_ (by first | omega | (simp; done) | (simp; omega)) _ | refine Below.setCell ?_ (by first | omega | (simp; done) | (simp; omega)) _))
  cases ok
  · have HE := Lib.hid (rr_num HOK2.out)
    go_wp2
    refine bodyPost_ret (v := .tuple #[.agg #[.int .i64 0, .slice none 0 0], .bool false]) (by simp [results, Tryd.results21, go_sem, d0, d1]) rfl (rr_no HE.out ?_)
    exact (by repeat' (first | assumption | exact Below.refl _ _ | refine Below.drew ?_ | refine belN ?_ _ | refine Below.alloc ?_ (by first | omega | (simp; done) | (simp; omega)) _ | refine Below.setCell ?_ (by first | omega | (simp; done) | (simp; omega)) _))
  have hcs : cI s < s.size := of_decide_eq_true HOC.out
  cases hbs : betwB n 2 16
  · have HE := Lib.hid (rr_base HN2.out hbs)
    have HC := Lib.hid (fun (W : World) => iBase n W)
    rw [hbs] at HC
    clear hbs
    go_wp2_with (go_at_call 37; refine (HC.out _).mono ?_; rintro e w' ⟨rfl, rfl⟩)
    refine bodyPost_ret (v := .tuple #[.agg #[.int .i64 0, .slice none 0 0], .bool false]) (by simp [results, Tryd.results21, go_sem, d0, d1]) rfl (rr_no HE.out ?_)
    exact (by repeat' (first | assumption | exact Below.refl _ _ | refine Below.drew ?_ | refine belN ?_ _ | refine Below.alloc ?_ (by first | omega | (simp; done) | (simp; omega)) _ | refine Below.setCell ?_ (by first | omega | (simp; done) | (simp; omega)) _))
  · have HC := Lib.hid (fun (W : World) => iBase n W)
    rw [hbs] at HC
    clear hbs d0 d1 fR zR
    go_wp2_with (go_at_call 37; refine (HC.out _).mono ?_; rintro e w' ⟨rfl, rfl⟩)
    go_loopw [10] (fun i wr => ∃ (k m : Nat) (A' : Option Addr) (c' : Nat), k ≤ d.size ∧ m = d.size - k ∧ i = .int .i64 ((k : Int) - 1) ∧ Blk wr w2.heap.size 38 #[.int .i64 n, .slice A' m c'] ∧ Blk wr w.heap.size 38 #[.int .i64 0, .slice none 0 0] ∧ Own wr (w2.heap.size + 1) wr.heap.size 2 1 (.slice A' m c') m ((dlT d m).map (Value.int .i64)) ∧ w2.heap.size + 1 ≤ wr.heap.size ∧ Below w2.heap.size w2 wr) (fun i _ => (intOf i + 1).toNat)
    case atStart => exact ⟨d.size, 0, none, 0, Nat.le_refl _, by omega, rfl, Blk.new _ _ _, hR.alloc _, by unfold dlT; exact Own.nil _ _ _ _ _, by simp, (by repeat' (first | assumption | exact Below.refl _ _ | refine Below.drew ?_ | refine belN ?_ _ | refine Below.alloc ?_ (by first | omega | (simp; done) | (simp; omega)) _ | refine Below.setCell ?_ (by first | omega | (simp; done) | (simp; omega)) _))⟩
    case round =>
      obtain ⟨k, m, A', c', hk, hm, hi, hG, hR2, ho, hz, hB⟩ := hrel
      have zRR := hR.lt; clear hR
      have zb := hb0.size
      have zG := hG.lt; have zR := hR2.lt
      have c0 := hG.cell 0; have c1 := hG.cell 1; have fG := hG.frozen; have d0 := hR2.cell 0; have d1 := hR2.cell 1; have fR := hR2.frozen
      simp at c0 c1 d0 d1
      rcases k with _ | j
      · subst hi
        obtain rfl : m = d.size := by omega
        clear hm
        have HL : Hid (rrL s = dlT d d.size) := by unfold Hid rrL; rw [HDD.out]
        have HLL : Hid ((dlT d d.size).length = d.size) := dlT_length _ _
        go_wp2_with fail
        refine (iValidReg _ ho.reads HLL.out (by unfold maxLen; omega)).mono ?_
        rintro e w3 ⟨rfl, hb3⟩
        have hG3 := hG.bel hb3; have hR3 := hR2.bel hb3; have ho3 := ho.bel hb3
        have zG3 := hG3.lt; have zR3 := hR3.lt; have z3 := hb3.size
        clear c0 c1 d0 d1 fG fR
        have c0 := hG3.cell 0; have c1 := hG3.cell 1; have fG := hG3.frozen; have d0 := hR3.cell 0; have d1 := hR3.cell 1; have fR := hR3.frozen
        simp at c0 c1 d0 d1
        cases hreg : okR n (dlT d d.size)
        · have HE := Lib.hid (rr_reg HN2.out HL.out hreg)
          clear hreg
          go_wp2
          refine bodyPost_ret (v := .tuple #[.agg #[.int .i64 0, .slice none 0 0], .bool false]) (by simp [results, Tryd.results21, go_sem, d0, d1]) rfl (rr_no HE.out ?_)
          exact ((bel2 (bel2 hb0 hB) hb3).setCell (by first | omega | (simp; done) | (simp; omega)) _).setCell (by first | omega | (simp; done) | (simp; omega)) _
        · have HE := Lib.hid (rr_all hcs HOK2.out HN2.out HL.out hreg)
          clear hreg
          have hO : Own w3 (w2.heap.size + 1) wr.heap.size 2 1 (.slice A' d.size c') d.size ((rrL s).map (Value.int .i64)) := by rw [HL.out]; exact ho3
          go_wp2
          refine bodyPost_ret (v := .tuple #[.agg #[.int .i64 n, .slice A' d.size c'], .bool true]) (by simp [results, Tryd.results21, go_sem, d0, d1]) rfl (rr_yes HE.out HN2.out (by rw [HDD.out]) ?_ ?_)
          · exact ((hO.setLow (.inl (by first | omega | (simp; done) | (simp; omega))) _).setLow (.inl (by first | omega | (simp; done) | (simp; omega))) _).more (by first | omega | (simp; done) | (simp; omega)) (by first | omega | (simp; done) | (simp; omega))
          · exact ((bel2 (bel2 hb0 hB) hb3).setCell (by first | omega | (simp; done) | (simp; omega)) _).setCell (by first | omega | (simp; done) | (simp; omega)) _
      · rw [show (((j + 1 : Nat) : Int) - 1) = (j : Int) by omega] at hi
        subst hi
        have hlt : j < d.size := by omega
        have hbt := bt_at hlt
        have HLK := Lib.hid (lk_byte d[j])
        have HS : Hid (dlT d (m + 1) = dlT d m ++ [dgv (d[j].toNat : Int)]) := by have := dlT_step hlt; rw [hbt, show d.size - j = m + 1 by omega, show d.size - (j + 1) = m by omega] at this; exact this
        obtain ⟨cc, hcc⟩ : ∃ cc : Int, (d[j].toNat : Int) = cc := ⟨_, rfl⟩
        rw [hcc] at HS HLK
        clear hbt
        have hm2 : m ≤ 1048576 := by omega
        have HM := Lib.hid hm; clear hm
        clear c0 c1 d0 d1 fG fR
        go_wp2
        go_loopw [11, 45] (fun dg jj wi => ∃ (q nd : Nat), q ≤ 16 ∧ jj = .int .i64 q ∧ dg = .int .i64 (lk cc q) ∧ wi = wr.drewN nd) (fun _ jj _ => 16 - (intOf jj).toNat)
        case atStart => exact ⟨0, 0, Nat.zero_le _, rfl, rfl, rfl⟩
        case round =>
          obtain ⟨q, nd2, hq, rfl, rfl, rfl⟩ := hrel
          by_cases hq16 : q < 16
          · have b1 : decide ((q : Int) < 16) = true := by simp; omega
            have qi0 : (0 : Int) ≤ (q : Int) := Int.natCast_nonneg _
            have qi1 : (q : Int) < 16 := by omega
            have hN0 : (0 : Int) ≤ (j : Int) := Int.natCast_nonneg _
            have hN1 : (j : Int) < (d.size : Int) := by omega
            have hqs : q < hx.size := hq16
            have hbq : (((({ data := #[48, 49, 50, 51, 52, 53, 54, 55, 56, 57, 97, 98, 99, 100, 101, 102] } : ByteArray)[q]'hqs).toNat : Nat) : Int) = bt hx q := (bt_at (s := hx) hqs).symm
            by_cases he : bt hx q = cc
            · have HLK2 := Lib.hid (lk_yes he)
              have b2 : (bt hx q == cc) = true := by rw [beq_iff_eq]; exact he
              clear he
              go_wp2
              go_quiet (fail)
              go_wp2
              go_roundw
              case rel => exact ⟨q + 1, nd2 + nq, by omega, by go_num, by rw [HLK2.out], by first | rfl | exact World.drewN_drewN _ _ _⟩
              case measure => simp [intOf]; omega
            · have HLK2 := Lib.hid (lk_no he)
              have b2 : (bt hx q == cc) = false := by rw [beq_eq_false_iff_ne]; exact he
              clear he
              go_wp2
              go_quiet (fail)
              go_wp2
              go_roundw
              case rel => exact ⟨q + 1, nd2 + nq, by omega, by go_num, by rw [HLK2.out], by first | rfl | exact World.drewN_drewN _ _ _⟩
              case measure => simp [intOf]; omega
          · obtain rfl : q = 16 := by omega
            obtain ⟨gg, hg⟩ : ∃ g, dgv cc = g := ⟨_, rfl⟩
            rw [HLK.out, hg]
            rw [hg] at HS
            clear hg hq hq16
            have hG3 := hG.drewN nd2; have hR3 := hR2.drewN nd2
            have ho3 : Own (wr.drewN nd2) (w2.heap.size + 1) (wr.drewN nd2).heap.size 2 1 (.slice A' m c') m ((dlT d m).map (Value.int .i64)) := ho.bel (belN (Below.refl _ _) _)
            have hB3 := belN hB nd2
            have hz3 : w2.heap.size + 1 ≤ (wr.drewN nd2).heap.size := hz
            obtain ⟨wq, hwq⟩ : ∃ wq, wr.drewN nd2 = wq := ⟨_, rfl⟩
            rw [hwq] at hG3 hR3 ho3 hB3 hz3 ⊢
            clear hwq hG hR2 ho hB hz zG zR
            have c0 := hG3.cell 0; have c1 := hG3.cell 1; have fG := hG3.frozen
            simp at c0 c1
            have zG := hG3.lt; have zR := hR3.lt
            go_wp2_with (first | (at_builtin; refine wpList_app1 rfl (.tmp 57) (.tmp 59) rfl eltI rfl (ho3.alloc _) rfl (Blk.new_at (by simp)) rfl (one_int _) (by omega) (by first | omega | (simp; omega)) ?_; intro A2 c2 w4 ho2 ht2; have hG4 := Blk.touch (hG3.alloc _) ht2 (.inl (by omega)); have hR4 := Blk.touch (hR3.alloc _) ht2 (.inl (by omega)); have e0 := hG4.cell 0; have e1 := hG4.cell 1; have fG2 := hG4.frozen; simp at e0 e1))
            have hz1 := ht2.size
            go_roundw
            case rel => exact ⟨j, m + 1, A2, c2, by omega, by have := HM.out; omega, by go_num, by simpa using hG4.set_ 1 (.slice A2 (m + 1) c2), hR4.far (by show w.heap.size ≠ w2.heap.size; omega) _, by rw [HS.out]; simpa using (ho2.setLow (p := ⟨w2.heap.size, 1, none⟩) (.inl (by simp)) _), by simp at hz1 ⊢; omega, (Touch.below (hB3.alloc (by omega) _) ht2 (by simp; omega) (by omega)).setCell (by simp) _⟩
            case measure => simp [intOf]
end
end Go.Proofs.YtlnajkimlooapaaDoor
