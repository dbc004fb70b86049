/- Chains: the first place moved. No condition. -/
import Derived.Test.YtndodfolpjkppaaChainT
import Derived.Test.YtndodfolpjkppaaNew
namespace Go.Proofs.Ytndodfolpjkppaa
open Go.RowKit

/-- append of one element, and which block has turned. -/
theorem wpList_app1g {P : Program} {t e : TypeId} {size lo hi n g c : Nat} {v : Value} {xs : List Value} {cs : Array Value} {w : World} {o : Oper} {a : Act} {Q : Exit → Act → World → Prop} {ops : Array Oper} {rest : List Oper} (hgd : o.guard = none) (s x : Operand) (ho : o.op = .call { callee := .builtin .append, args := #[s, x], argTypes := #[t, t] }) (hE : Elt P t e size)
    (hs : a.eval s = v) (hown : Own w lo hi e size v n xs) (hx : a.eval x = .slice (some ⟨g, 0, none⟩) 1 c) (hb : Blk w g e cs) (hcs : cs.size = size) (h1 : ∀ u ∈ cs.toList, u.oneCell' = true) (hn : n ≤ 1073741824) (hlo : lo ≤ w.heap.size)
    (h : ∀ (A : Option Addr) (c' : Nat) (w' : World), Own w' lo w'.heap.size e size (.slice A (n + 1) c') (n + 1) (xs ++ cs.toList) → Touch lo hi w w' → w.grownBy w' v.ownBlock → wpList P ops Q rest (a.put o.dst (.slice A (n + 1) c')) w') : wpList P ops Q (o :: rest) a w := by
  obtain ⟨i, z, bytes, ht, hi', hz, hsize, hby, hzs, hpos, h64⟩ := hE
  refine wpList_append_lies w hgd s x t ho lo e i z size bytes ht hi' hz hsize hby hzs hpos v n xs hs hown.row ⟨g, 0, none⟩ 1 c cs.toList hx (by simp [hcs]) (World.news_of_block hb) h1 (by omega) (by unfold maxLen; omega) ?_ hlo w.heap.size rfl ?_
  · have : (n + 1) * bytes ≤ 1073741825 * 64 := Nat.mul_le_mul (by omega) h64
    omega
  · intro g' cap w' hr hg _ hlt
    exact h _ _ _ ⟨hr, fun k hk => by simp [Value.ownBlock] at hk; omega⟩ (Touch.of_grown hg (fun k hk => ⟨(hown.row.lt k hk).1, hown.top k hk⟩)) hg
theorem Blk.grows {w w' : World} {g : Nat} {t e : TypeId} {cs : Array Value} {lo hi size n : Nat} {v : Value} {xs : List Value} (h : Blk w g t cs) (ho : Own w lo hi e size v n xs) (hne : e ≠ t) (hg : w.grownBy w' v.ownBlock) : Blk w' g t cs :=
  h.grown hg (fun e => own_blk_ne ho.row h hne e.symm)

theorem Own.setBox {w : World} {lo hi : Nat} {e : TypeId} {size n : Nat} {v : Value} {xs : List Value} {g : Nat} {t : TypeId} {cs : Array Value} (h : Own w lo hi e size v n xs) (hb : Blk w g t cs) (hne : e ≠ t) (j : Nat) (u : Value) : Own (w.setCell ⟨g, j, none⟩ u) lo hi e size v n xs := by
  refine ⟨⟨h.row.1, ?_⟩, h.top⟩
  rcases h.row.2 with hn | ⟨g', cap, cur, rfl, hb', hg, rest⟩
  · exact .inl hn
  · have hgg : g' ≠ g := by
      rintro rfl
      exact Blk.ne_ (t := e) hg hb hne rfl
    exact .inr ⟨g', cap, cur, rfl, hb', (Below.heap_setCell _ _ _ _ hgg).trans hg, rest⟩
/-- The places behind the first, one after the other. -/
def mcT (ps qs : List Int) (tz : Int) : Nat → Int
  | 0 => tz
  | k + 1 => min (max (qs.getD (k + 1) 0) (mcT ps qs tz k - ps.getD k 0)) (mcT ps qs tz k + ps.getD k 0)
def mcL (ps qs : List Int) (tz : Int) (m : Nat) : List Int := (List.range m).map (mcT ps qs tz)
theorem mcL_length (ps qs : List Int) (tz : Int) (m : Nat) : (mcL ps qs tz m).length = m := by simp [mcL]
theorem mcL_snoc (ps qs : List Int) (tz : Int) (m : Nat) : mcL ps qs tz (m + 1) = mcL ps qs tz m ++ [mcT ps qs tz m] := by simp [mcL, List.range_succ]
theorem mcT_step {ps qs : List Int} {tz p q : Int} {k : Nat} (hp : ps[k]? = some p) (hq : qs[k + 1]? = some q) : mcT ps qs tz (k + 1) = min (max q (mcT ps qs tz k - p)) (mcT ps qs tz k + p) := by
  simp [mcT, List.getD_eq_getElem?_getD, hp, hq]
theorem mcT_bd {ps qs : List Int} {tz : Int} (h : chB ps qs = true) (ht : -1000000 ≤ tz ∧ tz ≤ 1000000) : ∀ k, k ≤ ps.length → -1000000 - 100 * (k : Int) ≤ mcT ps qs tz k ∧ mcT ps qs tz k ≤ 1000000 + 100 * (k : Int)
  | 0, _ => by simp [mcT]; omega
  | k + 1, hk => by
    have ih := mcT_bd h ht k (by omega)
    have hl := (ch_parts h).2.1
    have e1 : ps[k]? = some (ps[k]'(by omega)) := List.getElem?_eq_getElem (by omega)
    have e2 : qs[k + 1]? = some (qs[k + 1]'(by omega)) := List.getElem?_eq_getElem (by omega)
    have := pl_in h e1
    rw [mcT_step e1 e2]
    omega
def mcK (ps qs : List Int) (tz : Int) : Bool := chB ps qs && plB tz
def mcC (ps qs : List Int) (tz : Int) : Int := if chB ps qs then (if plB tz then 0 else 2) else 1
def mcN (ps qs : List Int) (tz : Int) : Nat := if mcK ps qs tz then ps.length else 0
def mcN' (ps qs : List Int) (tz : Int) : Nat := if mcK ps qs tz then ps.length + 1 else 0
def mcX (ps qs : List Int) (tz : Int) : List Int := if mcK ps qs tz then ps else []
def mcY (ps qs : List Int) (tz : Int) : List Int := if mcK ps qs tz then mcL ps qs tz (ps.length + 1) else []
theorem mcN_le (ps qs : List Int) (tz : Int) : mcN ps qs tz ≤ 1073741824 := by
  unfold mcN
  split
  · rename_i h
    simp only [mcK, Bool.and_eq_true] at h
    have := (ch_parts h.1).1
    omega
  · omega
theorem mcN'_le (ps qs : List Int) (tz : Int) : mcN' ps qs tz ≤ 1073741824 := by
  unfold mcN'
  split
  · rename_i h
    simp only [mcK, Bool.and_eq_true] at h
    have := (ch_parts h.1).1
    omega
  · omega
def RetMC (w : World) (ps qs : List Int) (tz : Int) (x : Ending) (w' : World) : Prop :=
  ∃ v v' mid, x = .returned (.tuple #[.agg #[v, v'], .int .i64 (mcC ps qs tz)]) ∧ Own w' w.heap.size mid 2 1 v (mcN ps qs tz) ((mcX ps qs tz).map (Value.int .i64)) ∧ Own w' mid w'.heap.size 2 1 v' (mcN' ps qs tz) ((mcY ps qs tz).map (Value.int .i64)) ∧ w.heap.size ≤ mid ∧ mid ≤ w'.heap.size ∧ Below w.heap.size w w'
theorem mc_z {w w' : World} {ps qs : List Int} {tz k : Int} (hk : mcK ps qs tz = false) (hc : mcC ps qs tz = k) (hb : Below w.heap.size w w') : RetMC w ps qs tz (.returned (.tuple #[.agg #[.slice none 0 0, .slice none 0 0], .int .i64 k])) w' := by
  refine ⟨.slice none 0 0, .slice none 0 0, w'.heap.size, by rw [hc], ?_, ?_, hb.size, Nat.le_refl _, hb⟩
  · unfold mcN mcX; rw [hk]; exact Own.nil _ _ _ _ _
  · unfold mcN' mcY; rw [hk]; exact Own.nil _ _ _ _ _
theorem mc_o {w w' : World} {ps qs : List Int} {tz : Int} {n mid : Nat} {v v' : Value} (hk : mcK ps qs tz = true) (hl : ps.length = n) (h1 : Own w' w.heap.size mid 2 1 v n (ps.map (Value.int .i64))) (h2 : Own w' mid w'.heap.size 2 1 v' (n + 1) ((mcL ps qs tz (n + 1)).map (Value.int .i64))) (h3 : w.heap.size ≤ mid) (h4 : mid ≤ w'.heap.size) (hb : Below w.heap.size w w') :
    RetMC w ps qs tz (.returned (.tuple #[.agg #[v, v'], .int .i64 0])) w' := by
  have hc : mcC ps qs tz = 0 := by
    simp only [mcK, Bool.and_eq_true] at hk
    simp [mcC, hk]
  refine ⟨v, v', mid, by rw [hc], ?_, ?_, h3, h4, hb⟩
  · unfold mcN mcX; rw [hk, if_pos rfl, if_pos rfl, hl]; exact h1
  · unfold mcN' mcY; rw [hk, if_pos rfl, if_pos rfl, hl]; exact h2
theorem mc_1 {ps qs : List Int} {tz : Int} (h : chB ps qs = false) : mcK ps qs tz = false ∧ mcC ps qs tz = 1 := by simp [mcK, mcC, h]
theorem mc_2 {ps qs : List Int} {tz : Int} (h : chB ps qs = true) (h1 : plB tz = false) : mcK ps qs tz = false ∧ mcC ps qs tz = 2 := by simp [mcK, mcC, h, h1]

set_option maxHeartbeats 800000 in
theorem sOwnI {A : Option Addr} {n c : Nat} {xs : List Int} (w : World) (h : Reads w w.heap.size 1 A n (xs.map (Value.int .i64))) (hn : 1 ≤ n) (hn' : n ≤ 1000) :
    Calls Try.prog 71 #[.slice A n c] w (RetOwn w 2 1 n (xs.map (Value.int .i64))) := by
  obtain ⟨b, off, rfl, hbb, hc⟩ := h.lits (by decide) hn
  have r1 := h.1
  have HC := Lib.hid hc; clear hc
  have HR := Lib.hid r1; clear r1
  go_enter Try.func71, Try.ntmps71
  go_wp2_with (first
    | (at_builtin
       refine wpList_appN rfl (.tmp 3) (.tmp 4) rfl eltI rfl ((Blk.new _ _ #[]).own (n := 0) (Nat.zero_le _) rfl) rfl HR.out (fun j u hu => by rw [Addr.add_lit]; exact cellA (HC.out j u hu) _) (ints_one _) (by omega) (by omega) (by first | omega | (simp; done) | (simp; omega)) ?_
       intro A3 k3 w3 ho3 ht3
       try simp only [Nat.zero_add, List.nil_append] at ho3
       have HB : Hid (Below w.heap.size w w3) := Touch.below (by repeat' (first | assumption | exact Below.refl _ _ | refine Below.drew ?_ | refine belN ?_ _ | refine Below.alloc ?_ (by first | omega | (simp; done) | (simp; omega)) _ | refine Below.setCell ?_ (by first | omega | (simp; done) | (simp; omega)) _)) ht3 (by first | omega | (simp; done) | (simp; omega)) (by first | omega | (simp; done) | (simp; omega))))
  go_ret
  exact ⟨_, rfl, ho3.more (by first | omega | (simp; done) | (simp; omega)) (Nat.le_refl _), HB.out⟩

set_option maxHeartbeats 800000 in
theorem iCopy {A : Option Addr} {n c : Nat} {xs : List Int} (w : World) (h : Reads w w.heap.size 1 A n (xs.map (Value.int .i64))) (hn : 1 ≤ n) (hn' : n ≤ 1000) :
    Calls Try.prog 74 #[.slice A n c] w (RetOwn w 2 1 n (xs.map (Value.int .i64))) := by
  obtain ⟨b, off, rfl, hbb, hc⟩ := h.lits (by decide) hn
  have r1 := h.1
  have HC := Lib.hid hc; clear hc
  have HR := Lib.hid r1; clear r1
  go_enter Try.func74, Try.ntmps74
  go_wp2_with (first
    | (at_builtin
       refine wpList_appN rfl (.tmp 3) (.tmp 4) rfl eltI rfl ((Blk.new _ _ #[]).own (n := 0) (Nat.zero_le _) rfl) rfl HR.out (fun j u hu => by rw [Addr.add_lit]; exact cellA (HC.out j u hu) _) (ints_one _) (by omega) (by omega) (by first | omega | (simp; done) | (simp; omega)) ?_
       intro A3 k3 w3 ho3 ht3
       try simp only [Nat.zero_add, List.nil_append] at ho3
       have HB : Hid (Below w.heap.size w w3) := Touch.below (by repeat' (first | assumption | exact Below.refl _ _ | refine Below.drew ?_ | refine belN ?_ _ | refine Below.alloc ?_ (by first | omega | (simp; done) | (simp; omega)) _ | refine Below.setCell ?_ (by first | omega | (simp; done) | (simp; omega)) _)) ht3 (by first | omega | (simp; done) | (simp; omega)) (by first | omega | (simp; done) | (simp; omega))))
  go_ret
  exact ⟨_, rfl, ho3.more (by first | omega | (simp; done) | (simp; omega)) (Nat.le_refl _), HB.out⟩

set_option maxHeartbeats 400000 in
theorem sMaxI (a b : Int) (w : World) : Calls Try.prog 72 #[.int .i64 a, .int .i64 b] w fun e w' => e = .returned (.int .i64 (max a b)) ∧ w = w' := by
  obtain ⟨m, hm⟩ : ∃ m, max a b = m := ⟨_, rfl⟩
  rw [hm]
  have HM := Lib.hid hm; clear hm
  by_cases hab : b < a
  · go_enter Try.func72, Try.ntmps72
    go_wp2
    go_ret
    exact ⟨ret_n (by have := HM.out; omega), rfl⟩
  · by_cases hba : a < b
    all_goals
      go_enter Try.func72, Try.ntmps72
      go_wp2
      go_ret
      exact ⟨ret_n (by have := HM.out; omega), rfl⟩

set_option maxHeartbeats 400000 in
theorem sMinI (a b : Int) (w : World) : Calls Try.prog 73 #[.int .i64 a, .int .i64 b] w fun e w' => e = .returned (.int .i64 (min a b)) ∧ w = w' := by
  obtain ⟨m, hm⟩ : ∃ m, min a b = m := ⟨_, rfl⟩
  rw [hm]
  have HM := Lib.hid hm; clear hm
  by_cases hab : b < a
  · go_enter Try.func73, Try.ntmps73
    go_wp2
    go_ret
    exact ⟨ret_n (by have := HM.out; omega), rfl⟩
  · by_cases hba : a < b
    all_goals
      go_enter Try.func73, Try.ntmps73
      go_wp2
      go_ret
      exact ⟨ret_n (by have := HM.out; omega), rfl⟩

set_option maxRecDepth 100000 in
set_option maxHeartbeats 3200000 in
theorem sMoveC {A A' : Option Addr} {n c n' c' : Nat} {xs ys : List Int} {y : Int} (w : World) (h : Reads w w.heap.size 1 A n (xs.map (Value.int .i64))) (h' : Reads w w.heap.size 1 A' n' (ys.map (Value.int .i64))) (hl : xs.length = n) (hl' : ys.length = n') (hm : n ≤ maxLen) (hm' : n' ≤ maxLen) :
    Calls Try.prog 42 #[.agg #[.slice A n c, .slice A' n' c'], .int .i64 y] w (RetMC w xs ys y) := by
  have HL := Lib.hid hl; have HL' := Lib.hid hl'
  cases hk : chB xs ys
  · have HE := Lib.hid (mc_1 (tz := y) hk)
    clear hl hl'
    go_enter Try.func42, Try.ntmps42
    go_wp2_with fail
    refine absW ?_
    intro w0 hw
    have hb0 : Below w.heap.size w w0 := by rw [hw]; exact (by repeat' (first | assumption | exact Below.refl _ _ | refine Below.drew ?_ | refine belN ?_ _ | refine Below.alloc ?_ (by first | omega | (simp; done) | (simp; omega)) _ | refine Below.setCell ?_ (by first | omega | (simp; done) | (simp; omega)) _))
    have bA : Blk w0 w.heap.size 34 #[.slice A n c, .slice A' n' c'] := by rw [hw]; exact (Blk.new _ _ _).alloc _
    have bR : Blk w0 (w.heap.size + 1) 34 #[.slice none 0 0, .slice none 0 0] := by rw [hw]; exact blk_new (by simp)
    clear hw
    have zR0 := bR.lt; have zA0 := bA.lt
    have c0 := bA.cell 0; have c1 := bA.cell 1
    simp at c0 c1
    refine (sChainOk _ (rdB h hb0) (rdB h' hb0) HL.out HL'.out hm hm' c0 c1).mono ?_
    rintro e w' ⟨rfl, k1, rfl⟩
    have d0 := bR.cell 0; have d1 := bR.cell 1; have fR := bR.frozen
    simp at d0 d1
    rw [hk]
    go_wp2
    refine bodyPost_ret (v := .tuple #[.agg #[.slice none 0 0, .slice none 0 0], .int .i64 1]) (by simp [results, Try.results42, go_sem, d0, d1, zR0]) rfl (mc_z HE.out.1 HE.out.2 ?_)
    exact ((belN hb0 _).setCell (by first | omega | (simp; done) | (simp; omega)) _).setCell (by first | omega | (simp; done) | (simp; omega)) _
  have HK := Lib.hid hk
  cases h1 : plB y
  · have HE := Lib.hid (mc_2 hk h1)
    clear hl hl' hk
    go_enter Try.func42, Try.ntmps42
    go_wp2_with fail
    refine absW ?_
    intro w0 hw
    have hb0 : Below w.heap.size w w0 := by rw [hw]; exact (by repeat' (first | assumption | exact Below.refl _ _ | refine Below.drew ?_ | refine belN ?_ _ | refine Below.alloc ?_ (by first | omega | (simp; done) | (simp; omega)) _ | refine Below.setCell ?_ (by first | omega | (simp; done) | (simp; omega)) _))
    have bA : Blk w0 w.heap.size 34 #[.slice A n c, .slice A' n' c'] := by rw [hw]; exact (Blk.new _ _ _).alloc _
    have bR : Blk w0 (w.heap.size + 1) 34 #[.slice none 0 0, .slice none 0 0] := by rw [hw]; exact blk_new (by simp)
    clear hw
    have zR0 := bR.lt; have zA0 := bA.lt
    have c0 := bA.cell 0; have c1 := bA.cell 1
    simp at c0 c1
    refine (sChainOk _ (rdB h hb0) (rdB h' hb0) HL.out HL'.out hm hm' c0 c1).mono ?_
    rintro e w' ⟨rfl, k1, rfl⟩
    have d0 := bR.cell 0; have d1 := bR.cell 1; have fR := bR.frozen
    simp at d0 d1
    rw [HK.out]
    go_wp2_with (first | (go_at_call 69; refine (sPlace _ _).mono ?_; rintro e w' ⟨rfl, rfl⟩))
    refine bodyPost_ret (v := .tuple #[.agg #[.slice none 0 0, .slice none 0 0], .int .i64 2]) (by simp [results, Try.results42, go_sem, d0, d1, zR0]) rfl (mc_z HE.out.1 HE.out.2 ?_)
    exact ((belN hb0 _).setCell (by first | omega | (simp; done) | (simp; omega)) _).setCell (by first | omega | (simp; done) | (simp; omega)) _
  have y0 : -1000000 ≤ y ∧ y ≤ 1000000 := by simpa [plB, betw_iff] using h1
  have HKK : Hid (mcK xs ys y = true) := by unfold Hid; simp [mcK, hk, h1]
  obtain ⟨⟨n0, n1⟩, nn, _, _⟩ := ch_parts hk
  rw [hl] at nn n0 n1
  rw [hl'] at nn
  subst nn
  have HT := Lib.hid (fun k (hk' : k ≤ n) => mcT_bd hk y0 k (by omega))
  clear hl hl' hk
  go_enter Try.func42, Try.ntmps42
  go_wp2_with fail
  refine absW ?_
  intro w0 hw
  have hb0 : Below w.heap.size w w0 := by rw [hw]; exact (by repeat' (first | assumption | exact Below.refl _ _ | refine Below.drew ?_ | refine belN ?_ _ | refine Below.alloc ?_ (by first | omega | (simp; done) | (simp; omega)) _ | refine Below.setCell ?_ (by first | omega | (simp; done) | (simp; omega)) _))
  have bA : Blk w0 w.heap.size 34 #[.slice A n c, .slice A' (n + 1) c'] := by rw [hw]; exact (Blk.new _ _ _).alloc _
  have bR : Blk w0 (w.heap.size + 1) 34 #[.slice none 0 0, .slice none 0 0] := by rw [hw]; exact blk_new (by simp)
  clear hw
  have zR0 := bR.lt; have zA0 := bA.lt
  have c0 := bA.cell 0; have c1 := bA.cell 1
  simp at c0 c1
  refine (sChainOk _ (rdB h hb0) (rdB h' hb0) HL.out HL'.out hm hm' c0 c1).mono ?_
  rintro e w' ⟨rfl, k1, rfl⟩
  rw [HK.out]
  go_wp2_with (first | (go_at_call 69; refine (sPlace _ _).mono ?_; rintro e w' ⟨rfl, rfl⟩))
  refine (sOwnI _ ((rdB h hb0).drewN _) n0 (by omega)).mono ?_
  rintro e w1 ⟨s, rfl, ho, hb⟩
  obtain ⟨A1, k2, rfl, _, _⟩ := ho.form
  replace bA := (bA.drewN k1).bel hb; replace bR := (bR.drewN k1).bel hb
  replace hb0 := bel2 (belN hb0 k1) hb
  have z1 := hb.size
  have zz : w0.heap.size ≤ w1.heap.size := z1
  replace ho : Own w1 w0.heap.size w1.heap.size 2 1 (.slice A1 n k2) n (xs.map (Value.int .i64)) := ho
  clear hb z1 c0 c1
  have c0 := bA.cell 0; have c1 := bA.cell 1
  simp at c0 c1
  have e0 := fun X : Obj => cellA c0 X; have e1 := fun X : Obj => cellA c1 X
  have f0 := fun X Y : Obj => cellA (cellA c0 X) Y; have f1 := fun X Y : Obj => cellA (cellA c1 X) Y
  go_wp2
  go_loopw [1, 7] (fun tz i wr => ∃ (k : Nat) (A2 : Option Addr) (c2 : Nat), k ≤ n ∧ i = .int .i64 k ∧ tz = .int .i64 (mcT xs ys y k) ∧ Blk wr w.heap.size 34 #[.slice A n c, .slice A' (n + 1) c'] ∧ Blk wr (w.heap.size + 1) 34 #[.slice none 0 0, .slice none 0 0] ∧ Blk wr (w1.heap.size + 1) 34 #[.slice A1 n k2, .slice A2 (k + 1) c2] ∧
      Own wr w0.heap.size w1.heap.size 2 1 (.slice A1 n k2) n (xs.map (Value.int .i64)) ∧ Own wr w1.heap.size wr.heap.size 2 1 (.slice A2 (k + 1) c2) (k + 1) ((mcL xs ys y (k + 1)).map (Value.int .i64)) ∧ w1.heap.size + 1 < wr.heap.size ∧ Below w.heap.size w wr) (fun _ i _ => n - (intOf i).toNat)
  case atStart => exact ⟨0, some ⟨w1.heap.size, 0, none⟩, 1, Nat.zero_le _, rfl, rfl, (bA.alloc _).alloc _, (bR.alloc _).alloc _, blk_new (by simp), (ho.alloc _).alloc _, (((Blk.new w1 _ _).own (n := 1) (size := 1) (by decide) rfl).alloc _).more (Nat.le_refl _) (by first | omega | (simp; done) | (simp; omega)), (by first | omega | (simp; done) | (simp; omega)), (hb0.alloc (by omega) _).alloc (by first | omega | (simp; done) | (simp; omega)) _⟩
  case round =>
    clear e0 e1 f0 f1 c0 c1
    obtain ⟨k, A2, c2, hk, rfl, rfl, hA, hR, hO, ho1, ho2, zO, hB⟩ := hrel
    have c0 := hA.cell 0; have c1 := hA.cell 1; have d0 := hR.cell 0; have d1 := hR.cell 1; have fR := hR.frozen; have o0 := hO.cell 0; have o1 := hO.cell 1; have fO := hO.frozen
    simp at c0 c1 d0 d1 o0 o1
    have tb := HT.out k hk
    have kn : (k : Int) ≤ 10 := by omega
    by_cases hlt : k < n
    · obtain ⟨p, hp⟩ : ∃ p, xs[k]? = some p := ⟨_, List.getElem?_eq_getElem (by rw [HL.out]; omega)⟩
      obtain ⟨q, hq⟩ : ∃ q, ys[k + 1]? = some q := ⟨_, List.getElem?_eq_getElem (by rw [HL'.out]; omega)⟩
      have pb := pl_in HK.out hp
      have qb := pc_in HK.out hq
      have HS := Lib.hid (mcT_step (tz := y) hp hq)
      obtain ⟨b1, o1', hA1, _, hc1⟩ := (rdB h hB).lits (by decide) (by omega)
      obtain ⟨b2, o2', hA2, _, hc2⟩ := (rdB h' hB).lits (by decide) (by omega)
      have p0 := hc1 k (.int .i64 p) (by rw [List.getElem?_map, hp]; rfl)
      have p1 := hc2 (k + 1) (.int .i64 q) (by rw [List.getElem?_map, hq]; rfl)
      clear hc1 hc2 hp hq
      subst hA1 hA2
      have ki0 : (0 : Int) ≤ (k : Int) := Int.natCast_nonneg _
      have ki1 : (k : Int) < (n : Int) := by omega
      have ki2 : (k : Int) + 1 < (n : Int) + 1 := by omega
      have ki3 : (0 : Int) ≤ (k : Int) + 1 := by omega
      have MS := Lib.hid (mcL_snoc xs ys y (k + 1))
      obtain ⟨t, ht⟩ : ∃ t, mcT xs ys y k = t := ⟨_, rfl⟩
      have HTT := Lib.hid ht
      rw [ht] at tb ⊢
      have HS2 : Hid (mcT xs ys y (k + 1) = min (max q (t - p)) (t + p)) := by unfold Hid; rw [HS.out, ht]
      clear ht HS
      have W1 : IntKind.i64.wrap ((k : Int) + 1) = (k : Int) + 1 := IntWalk.i64_in _ (by omega)
      have W2 : IntKind.i64.wrap (t - p) = t - p := IntWalk.i64_in _ (by omega)
      have W3 : ((k : Int) + 1).toNat = k + 1 := by omega
      go_wp2_with fail
      go_quiet ((go_at_call 72; refine quietD (sMaxI _ _ _) ?_; first | exact ⟨_, rfl⟩ | exact ⟨_, (World.drewN_drewN _ _ _).symm⟩))
      obtain ⟨m, hmx⟩ : ∃ m, max q (t - p) = m := ⟨_, rfl⟩
      have HMX := Lib.hid hmx
      have mb : -2000000 ≤ m ∧ m ≤ 2000000 := by omega
      rw [hmx]
      have HS3 : Hid (mcT xs ys y (k + 1) = min m (t + p)) := by unfold Hid; rw [HS2.out, hmx]
      clear hmx HS2 W1 W2 W3
      go_wp2_with (first | (go_at_call 73; refine (sMinI _ _ _).mono ?_; rintro e w' ⟨rfl, rfl⟩) | (at_builtin; refine wpList_app1g rfl (.tmp 53) (.tmp 55) rfl eltI rfl ((ho2.bel (RetQ.bel _)).alloc _) rfl (Blk.new _ _ _) rfl (one_int _) (by omega) (by first | omega | (simp; done) | (simp; omega)) ?_; intro A4 c4 w4 ho4 ht4 hg4; have hO4 := Blk.grows ((hO.drewN _).alloc _) ((ho2.bel (RetQ.bel _)).alloc _) (by decide) hg4; have g0 := hO4.cell 0; have g1 := hO4.cell 1; have gf := hO4.frozen; simp at g0 g1))
      have zw := ht4.size
      go_roundw
      case rel =>
        refine ⟨k + 1, A4, c4, by omega, by go_num, by rw [HS3.out], ?_, ?_, ?_, ?_, ?_, ?_, ?_⟩
        · exact (((hA.drewN _).alloc _).touch ht4 (.inl (by first | omega | (simp; done) | (simp; omega)))).far (p := ⟨w1.heap.size + 1, 1, none⟩) (by show w.heap.size ≠ w1.heap.size + 1; omega) _
        · exact (((hR.drewN _).alloc _).touch ht4 (.inl (by first | omega | (simp; done) | (simp; omega)))).far (p := ⟨w1.heap.size + 1, 1, none⟩) (by show w.heap.size + 1 ≠ w1.heap.size + 1; omega) _
        · simpa using hO4.set_ 1 (.slice A4 (k + 1 + 1) c4)
        · exact (((ho1.bel (RetQ.bel _)).alloc _).touch ht4 (.inl (Nat.le_refl _))).setLow (p := ⟨w1.heap.size + 1, 1, none⟩) (.inr (by show w1.heap.size ≤ w1.heap.size + 1; omega)) _
        · rw [MS.out, List.map_append, HS3.out]
          simpa using ho4.setBox hO4 (by decide) 1 (.slice A4 (k + 1 + 1) c4)
        · simp at zw ⊢; omega
        · exact (Touch.below ((belN hB _).alloc (by first | omega | (simp; done) | (simp; omega)) _) ht4 (by first | omega | (simp; done) | (simp; omega)) (by first | omega | (simp; done) | (simp; omega))).setCell (by first | omega | (simp; done) | (simp; omega)) _
      case measure => simp [intOf]; omega
    · obtain rfl : k = n := by omega
      have hz := hB.size
      go_wp2
      refine bodyPost_ret (v := .tuple #[.agg #[.slice A1 k k2, .slice A2 (k + 1) c2], .int .i64 0]) (by simp [results, Try.results42, go_sem, d0, d1]) rfl (mc_o HKK.out HL.out (mid := w1.heap.size) ?_ ?_ ?_ ?_ ?_)
      · exact ((ho1.setLow (.inl (by first | omega | (simp; done) | (simp; omega))) _).setLow (.inl (by first | omega | (simp; done) | (simp; omega))) _).more (by first | omega | (simp; done) | (simp; omega)) (Nat.le_refl _)
      · exact ((ho2.setLow (.inl (by first | omega | (simp; done) | (simp; omega))) _).setLow (.inl (by first | omega | (simp; done) | (simp; omega))) _).more (Nat.le_refl _) (by first | omega | (simp; done) | (simp; omega))
      · omega
      · simp; omega
      · exact (hB.setCell (by first | omega | (simp; done) | (simp; omega)) _).setCell (by first | omega | (simp; done) | (simp; omega)) _
end Go.Proofs.Ytndodfolpjkppaa
