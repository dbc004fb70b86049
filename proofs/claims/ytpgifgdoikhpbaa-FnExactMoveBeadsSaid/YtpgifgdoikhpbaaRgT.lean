/- A drawn region as by wp_region_rgh, whose tail begins with a store, while one plain operation of the head may come behind that store. No condition. -/
import Derived.Test.YtpgifgdoikhpbaaRgL
namespace Go.Proofs.Ytpgifgdoikhpbaa
open Go.RowKit

def lateArr (n q m : Nat) : Array Bool := ((List.range m).map fun i => decide (i < n) && decide (i ≠ q)).toArray
/-- What is asked of the region, by the kernel. -/
def rgtB (ops : Array Oper) (n q : Nat) : Bool :=
  decide (n < ops.size) && decide (q < n) &&
  ((List.range n).all fun i => match ops[i]? with
    | some o => o.guard.isNone && o.after.all fun e => !Region.binds .any e || decide (e.on < i)
    | none => false) &&
  ((List.range n).all fun i => (List.range n).all fun j => decide (i = j) || (match (ops[i]?).bind (·.dst) with | some d => decide ((ops[j]?).bind (·.dst) ≠ some d) | none => true)) &&
  Region.seqB .any ops (ops.size - n) n (allDone n ops.size) &&
  ((List.range ops.size).all fun t => (List.range n).all fun i => decide (t < n) || decide (i = q) || reachB ops ops.size t i) &&
  ((Region.ready .any ops (lateArr n q ops.size)).all fun i => decide (i = q) || decide (i = n)) &&
  decide (Region.ready .any ops ((lateArr n q ops.size).setIfInBounds n true) = [q]) &&
  decide (((lateArr n q ops.size).setIfInBounds n true).setIfInBounds q true = allDone (n + 1) ops.size) &&
  Region.seqB .any ops (ops.size - (n + 1)) (n + 1) (allDone (n + 1) ops.size) &&
  (match ops[n]? with
    | some o => o.guard.isNone && o.dst.isNone && (match o.op with | .select _ _ => false | _ => true) && (match (ops[q]?).bind (·.dst) with | some d => !(o.looksAt ops).contains d | none => true)
    | none => false)
theorem wp_region_rgt {P : Program} {id : Nat} {a : Act} {w : World} {l : List Oper} {Q : Exit → Act → World → Prop} (n q : Nat) (ds : Nat → List Nat) (F : Nat → List (Value × Nat × Nat) → World → Prop) (hm : P.follows .mixedOrders = true) (hB : rgtB l.toArray n q = true) (hD : depB l.toArray n ds = true)
    (hst : ∀ i, i < n → ∀ T w1 w2, w.heap.size ≤ w1.heap.size → Below w1.heap.size w1 w2 → (∀ x ∈ T, x.2.2 ≤ w1.heap.size) → F i T w1 → F i T w2)
    (hs : ∀ i o, i < n → l[i]? = some o → rgStepH P l a ds F w n Q i o)
    (hq : ∀ o, l[q]? = some o → ∀ (u : Nat → Value) (s e : Nat → Nat) (w1 : World), (∀ k ∈ ds q, F k (trio ds u s e k) w1 ∧ w.heap.size ≤ s k ∧ s k ≤ e k ∧ e k ≤ w1.heap.size) →
      ∃ v, (∀ x y w2, F q ((v, x, y) :: (ds q).map fun k => (u k, s k, e k)) w2) ∧ ∀ A : Act, (∀ t j, dstIn l n t = some j → t < a.tmps.size → j ∈ ds q → A.eval (.tmp t) = u j) → ∀ w2, (execOp A.eval o).run P w2 = .ok (.value v) w2)
    (ht : ∀ (u : Nat → Value) (s e : Nat → Nat) (w1 : World), Below w.heap.size w w1 → w.heap.size ≤ w1.heap.size → (∀ i, i < n → F i (trio ds u s e i) w1 ∧ w.heap.size ≤ s i ∧ s i ≤ e i ∧ e i ≤ w1.heap.size) →
      (∀ j k, j < n → k < n → j ≠ k → e j ≤ s k ∨ e k ≤ s j) → (∀ k, k < n → ∀ j ∈ ds k, e j ≤ s k) → ∀ o, l[n]? = some o → ∃ w2, (execOp (putAll l a u n).eval o).run P w1 = .ok .skip w2 ∧ wpList P l.toArray Q (l.drop (n + 1)) (putAll l a u n) w2) :
    (Code.region id l.toArray true).wp P Q a w := by
  have hdb : ∀ i, i < n → ∀ k ∈ ds i, k < i ∧ reachB l.toArray n i k = true := by
    intro i hi k hk
    have h1 := List.all_eq_true.1 hD i (List.mem_range.2 hi)
    have h2 := List.all_eq_true.1 h1 k hk
    simpa using h2
  have hself : ∀ i, i < n → i ∉ ds i := fun i hi h => by have := (hdb i hi i h).1; omega
  simp only [rgtB, Bool.and_eq_true, decide_eq_true_eq] at hB
  obtain ⟨⟨⟨⟨⟨⟨⟨⟨⟨⟨hn', hqn⟩, hops⟩, hdst⟩, hseq⟩, hreach⟩, hlr⟩, hlq⟩, hld⟩, hseq2⟩, hst1⟩ := hB
  have hn : n ≤ l.toArray.size := Nat.le_of_lt hn'
  have hsz : l.toArray.size = l.length := by simp
  have hdst' : ∀ j k, j < n → k < n → j ≠ k → ∀ d, dstOf l j = some d → dstOf l k ≠ some d := by
    intro j k hj hk hjk d hd
    have h1 := List.all_eq_true.1 hdst j (List.mem_range.2 hj)
    have h2 := List.all_eq_true.1 h1 k (List.mem_range.2 hk)
    simp only [Bool.or_eq_true, decide_eq_true_eq] at h2
    rcases h2 with h2 | h2
    · exact absurd h2 hjk
    · have e1 : (l.toArray[j]?).bind (·.dst) = some d := by simpa [dstOf] using hd
      rw [e1] at h2
      have h3 : (l.toArray[k]?).bind (·.dst) ≠ some d := by simpa using h2
      simpa [dstOf] using h3
  have hop : ∀ i o, i < n → l.toArray[i]? = some o → o.guard = none ∧ ∀ e ∈ o.after, Region.binds .any e = true → e.on < i := by
    intro i o hi ho
    have h1 := List.all_eq_true.1 hops i (List.mem_range.2 hi)
    rw [ho] at h1
    simp only [Bool.and_eq_true] at h1
    refine ⟨by simpa using h1.1, fun e he hb => ?_⟩
    have h2 := (Array.all_eq_true' (as := o.after)).1 h1.2 e he
    simpa [hb] using h2
  have hon : l[n]? = some (l[n]'(by simpa using hn')) := List.getElem?_eq_getElem _
  have hona : l.toArray[n]? = some (l[n]'(by simpa using hn')) := by simp
  rw [hona] at hst1
  simp only [Bool.and_eq_true] at hst1
  obtain ⟨⟨⟨hg1, hd1⟩, hs1⟩, hl1⟩ := hst1
  have hd1' : (l[n]'(by simpa using hn')).dst = none := by simpa using hd1
  have hg1' : (l[n]'(by simpa using hn')).guard = none := by simpa using hg1
  have hcons : ∀ (A : Act) (w1 w2 : World), (execOp A.eval (l[n]'(by simpa using hn'))).run P w1 = .ok .skip w2 → wpList P l.toArray Q (l.drop (n + 1)) A w2 → wpList P l.toArray Q ((l[n]'(by simpa using hn')) :: l.drop (n + 1)) A w1 := by
    intro A w1 w2 hr hk
    unfold wpList
    rw [if_pos (by simp [Region.wanted, hg1'])]
    unfold Oper.wp
    rw [hr, Oper.upon_skip, hd1']
    exact .inl hk
  have key : ∀ (f : Nat) (listed : Array Bool) (u : Nat → Value) (s e : Nat → Nat) (w1 : World), cnt listed n = f → HeadInv .any l.toArray n listed → Below w.heap.size w w1 → w.heap.size ≤ w1.heap.size →
      (∀ j, j < n → listed.getD j false = true → F j (trio ds u s e j) w1 ∧ w.heap.size ≤ s j ∧ s j ≤ e j ∧ e j ≤ w1.heap.size) →
      (∀ j k, j < n → k < n → listed.getD j false = true → listed.getD k false = true → j ≠ k → e j ≤ s k ∨ e k ≤ s j) →
      (∀ k, k < n → listed.getD k false = true → ∀ j ∈ ds k, e j ≤ s k) → wpAny P .any l.toArray Q (f + (l.toArray.size - n)) listed (putAll l a u n) w1 := by
    intro f
    induction f with
    | zero =>
      intro listed u s e w1 hc inv hb hz hf hds hor
      have hall := cnt_zero n hc
      have hall' : ∀ j, j < n → listed.getD j false = true := fun j hj => by
        have := hall j hj
        have hjs : j < listed.size := by rw [inv.size]; omega
        simp [hjs] at this ⊢; exact this
      have hlist : listed = allDone n l.toArray.size := by
        apply Array.ext
        · simp [allDone, inv.size]
        · intro i h1 h2
          have hi : i < l.toArray.size := by rw [← inv.size]; exact h1
          by_cases hin : i < n
          · have := hall i hin
            simp [h1] at this
            simp [allDone, hin, this]
          · have := inv.tail i (by omega) hi
            simp [h1] at this
            simp [allDone, hin, this]
      rw [hlist, Nat.zero_add]
      have hdl : (l.drop n).length = l.toArray.size - n := by simp
      obtain ⟨w2, hr2, hk2⟩ := ht u s e w1 hb hz (fun i hi => hf i hi (hall' i hi)) (fun j k hj hk => hds j k hj hk (hall' j hj) (hall' k hk)) (fun k hk => hor k hk (hall' k hk)) _ hon
      have := wpAny_of_seq (P := P) (ops := l.toArray) (md := .any) (Q' := Q) (l.drop n) n (allDone n l.toArray.size) (putAll l a u n) w1 (fun j => by simp [List.getElem?_drop]) (by rw [hdl]; exact hseq) (by
        rw [List.drop_eq_getElem_cons (by simpa using hn')]
        exact hcons _ _ w2 hr2 hk2)
      rwa [hdl] at this
    | succ f ih =>
      intro listed u s e w1 hc inv hb hz hf hds hor
      obtain ⟨i0, hi0, hun0, hmin⟩ := cnt_pos n (by omega : 0 < cnt listed n)
      have hi0s : i0 < l.toArray.size := by omega
      have ho0 : l.toArray[i0]? = some (l.toArray[i0]'hi0s) := Array.getElem?_eq_getElem hi0s
      have hr0 : i0 ∈ Region.ready .any l.toArray listed := by
        refine mem_ready.2 ⟨hun0, _, ho0, fun e he hbd => ?_⟩
        have hlt := (hop i0 _ hi0 ho0).2 e he hbd
        have := hmin e.on hlt
        have hjs : e.on < listed.size := by rw [inv.size]; omega
        simp [hjs] at this ⊢; exact this
      have hrw : f + 1 + (l.toArray.size - n) = (f + (l.toArray.size - n)) + 1 := by omega
      rw [hrw]
      refine ⟨fun h => (by rw [h] at hr0; cases hr0), fun i hi => ?_⟩
      obtain ⟨hun, o, ho, hdeps⟩ := mem_ready.1 hi
      have his : i < l.toArray.size := (Array.getElem?_eq_some_iff.1 ho).1
      by_cases hin : i < n
      rotate_left
      · have hothers : ∀ k, k < n → k ≠ q → listed.getD k false = true := fun k hk hkq => by
          have h1 := List.all_eq_true.1 (List.all_eq_true.1 hreach i (List.mem_range.2 his)) k (List.mem_range.2 hk)
          simp only [Bool.or_eq_true, decide_eq_true_eq] at h1
          rcases h1 with (h1 | h1) | h1
          · exact absurd h1 hin
          · exact absurd h1 hkq
          · exact reach_ready inv ho hdeps _ h1
        have hi0q : i0 = q := by
          rcases Nat.decEq i0 q with h | h
          · have h2 := hothers i0 hi0 h
            rw [getD_both hun0] at h2
            cases h2
          · exact h
        subst hi0q
        have hlist : listed = lateArr n i0 l.toArray.size := by
          apply Array.ext
          · simp [lateArr, inv.size]
          · intro k h1 h2
            have hk : k < l.toArray.size := by rw [← inv.size]; exact h1
            by_cases hkn : k < n
            · by_cases hkq : k = i0
              · subst hkq
                simp [h1] at hun0
                simp [lateArr, hun0]
              · have := hothers k hkn hkq
                simp [h1] at this
                simp [lateArr, this, hkn, hkq]
            · have := inv.tail k (by omega) hk
              simp [h1] at this
              simp [lateArr, this, hkn]
        have hin' : i = n := by
          rw [hlist] at hi
          have h1 := List.all_eq_true.1 hlr i hi
          simp only [Bool.or_eq_true, decide_eq_true_eq] at h1
          omega
        subst hin'
        have hf0 : f = 0 := by
          have h1 := cnt_set hun0 i hi0
          rcases Nat.eq_zero_or_pos f with h | h
          · exact h
          · obtain ⟨j, hj, hju, _⟩ := cnt_pos i (by omega : 0 < cnt (listed.setIfInBounds i0 true) i)
            by_cases hji : j = i0
            · subst hji
              have h3 := getD_both hju
              simp [show j < listed.size by rw [inv.size]; omega] at h3
            · have h3 := getD_both hju
              rw [getD_set_ne false (Ne.symm hji)] at h3
              have h4 := hothers j hj hji
              rw [h3] at h4; cases h4
        subst hf0
        have hoq : l[i0]? = some (l.toArray[i0]'hi0s) := by simp
        have hready : ∀ k ∈ ds i0, k < i ∧ listed.getD k false = true := fun k hk => by
          have h1 := hdb i0 hi0 k hk
          exact ⟨by omega, hothers k (by omega) (by omega)⟩
        obtain ⟨v, hFv, hev⟩ := hq _ hoq u s e w1 (fun k hk => hf k (hready k hk).1 (hready k hk).2)
        have hqself := hself i0 hi0
        have hfacts : ∀ j, j < i → F j (trio ds (upd u i0 v) (updN s i0 w1.heap.size) (updN e i0 w1.heap.size) j) w1 ∧ w.heap.size ≤ updN s i0 w1.heap.size j ∧ updN s i0 w1.heap.size j ≤ updN e i0 w1.heap.size j ∧ updN e i0 w1.heap.size j ≤ w1.heap.size := by
          intro j hj
          by_cases hji : j = i0
          · subst hji
            rw [updN_eq, updN_eq, trio_self hqself]
            exact ⟨hFv _ _ _, hz, Nat.le_refl _, Nat.le_refl _⟩
          · have hlj := hothers j hj hji
            have hni : i0 ∉ ds j := fun h => by
              have h9 := reach_listed inv i j (hdb j hj i0 h).2 hlj
              rw [getD_both hun0] at h9; cases h9
            rw [updN_ne _ _ hji, updN_ne _ _ hji, trio_upd hji hni]
            exact hf j hj hlj
        obtain ⟨w2, hr2, hk2⟩ := ht (upd u i0 v) (updN s i0 w1.heap.size) (updN e i0 w1.heap.size) w1 hb hz hfacts (by
            intro j k hj hk hjk
            by_cases hji : j = i0
            · subst hji
              have hki : k ≠ j := Ne.symm hjk
              rw [updN_eq, updN_eq, updN_ne _ _ hki, updN_ne _ _ hki]
              exact .inr (hf k hk (hothers k hk hki)).2.2.2
            · by_cases hki : k = i0
              · subst hki
                rw [updN_eq, updN_eq, updN_ne _ _ hji, updN_ne _ _ hji]
                exact .inl (hf j hj (hothers j hj hji)).2.2.2
              · rw [updN_ne _ _ hji, updN_ne _ _ hji, updN_ne _ _ hki, updN_ne _ _ hki]
                exact hds j k hj hk (hothers j hj hji) (hothers k hk hki) hjk) (by
            intro k hk j hj
            by_cases hki : k = i0
            · subst hki
              have h6 : j ≠ k := by have := (hdb k hk j hj).1; omega
              rw [updN_eq, updN_ne _ _ h6]
              exact (hf j (hready j hj).1 (hready j hj).2).2.2.2
            · have h7 := hothers k hk hki
              have h8 := reach_listed inv i k (hdb k hk j hj).2 h7
              have h9 : j ≠ i0 := fun h => by rw [h, getD_both hun0] at h8; cases h8
              rw [updN_ne _ _ hki, updN_ne _ _ h9]
              exact hor k hk h7 j hj) _ hon
        have hput : (putAll l a u i).put (dstOf l i0) v = putAll l a (upd u i0 v) i := putAll_upd i hi0 hdst'
        have hsame : execOp (putAll l a (upd u i0 v) i).eval (l[i]'(by simpa using hn')) = execOp (putAll l a u i).eval (l[i]'(by simpa using hn')) := by
          rw [← hput]
          refine execOp_put (ops := l.toArray) _ ?_ _ _ _ ?_
          · intro cs b hsel
            rw [hsel] at hs1; cases hs1
          · intro d hd
            rw [show (l.toArray[i0]?).bind (·.dst) = some d by simpa [dstOf] using hd] at hl1
            simpa using hl1
        rw [hsame] at hr2
        unfold wpOp
        simp only [hona]
        rw [if_pos (by simp [Region.wanted, hg1'])]
        left
        unfold Oper.wp
        rw [hr2, Oper.upon_skip, hd1']
        show wpAny P .any l.toArray Q (0 + (l.toArray.size - i)) (listed.setIfInBounds i true) (putAll l a u i) w2
        rw [show 0 + (l.toArray.size - i) = (l.toArray.size - (i + 1)) + 1 by omega, hlist]
        refine ⟨fun h => (by rw [hlq] at h; cases h), fun j hj => ?_⟩
        rw [hlq] at hj
        obtain rfl := List.mem_singleton.1 hj
        unfold wpOp
        simp only [ho0]
        rw [if_pos (by unfold Region.wanted; rw [(hop j _ hi0 ho0).1])]
        left
        refine op_val v (hev _ ?_ _) ?_
        · intro t k hk htt _
          have h1 := List.find?_some hk
          have h2 := List.mem_of_find?_eq_some hk
          have h1' : dstOf l k = some t := by simpa using h1
          exact eval_at h1' htt _ (List.mem_range.1 h2) (fun k' hk' hkj => hdst' k k' (List.mem_range.1 h2) hk' (Ne.symm hkj) t h1')
        · have hdq : (l.toArray[j]'hi0s).dst = dstOf l j := by simp [dstOf, hoq]
          rw [hdq, hput, hld]
          have hdl : (l.drop (i + 1)).length = l.toArray.size - (i + 1) := by simp
          have := wpAny_of_seq (P := P) (ops := l.toArray) (md := .any) (Q' := Q) (l.drop (i + 1)) (i + 1) (allDone (i + 1) l.toArray.size) (putAll l a (upd u j v) i) w2 (fun k => by simp [List.getElem?_drop]) (by rw [hdl]; exact hseq2) hk2
          rwa [hdl] at this
      have ho' : l[i]? = some o := by simpa using ho
      unfold wpOp
      simp only [ho]
      have hg := (hop i o hin ho).1
      rw [if_pos (by simp [Region.wanted, hg])]
      left
      have hready : ∀ k ∈ ds i, k < n ∧ listed.getD k false = true := fun k hk => ⟨by have := (hdb i hin k hk).1; omega, reach_ready inv ho hdeps n (hdb i hin k hk).2⟩
      refine hs i o hin ho' u s e w1 hb hz (fun k hk => hf k (hready k hk).1 (hready k hk).2) (fun k hk => hor k (hready k hk).1 (hready k hk).2) _ (fun v w' hv hb1 => ?_)
      · have e1 : (putAll l a u n).put o.dst v = putAll l a (upd u i v) n := by
          have e2 : dstOf l i = o.dst := by simp [dstOf, ho']
          rw [← e2]
          exact putAll_upd n hin hdst'
        rw [e1]
        have hne : ∀ j, (listed.setIfInBounds i true).getD j false = true → j ≠ i → listed.getD j false = true := fun j hl hji => by
          rwa [getD_set_ne false (Ne.symm hji)] at hl
        have hlt : ∀ j, listed.getD j false = true → j ≠ i := fun j hl hji => by
          rw [hji, getD_both hun] at hl
          cases hl
        refine ih (listed.setIfInBounds i true) (upd u i v) (updN s i w1.heap.size) (updN e i w'.heap.size) w' ?_ (inv.set hi hin) (hb.trans (hb1.mono hz)) (Nat.le_trans hz hb1.size) ?_ ?_ ?_
        · have := cnt_set hun n hin
          omega
        · intro j hj hl
          by_cases hji : j = i
          · subst hji
            rw [updN_eq, updN_eq, trio_self (hself j hj)]
            exact ⟨hv, hz, hb1.size, Nat.le_refl _⟩
          · have hlj := hne j hl hji
            have hni : i ∉ ds j := fun h => by
              have h9 := reach_listed inv n j (hdb j hj i h).2 hlj
              exact hlt i h9 rfl
            rw [updN_ne _ _ hji, updN_ne _ _ hji, trio_upd hji hni]
            have h4 := hf j hj hlj
            refine ⟨hst j hj _ w1 w' hz hb1 ?_ h4.1, h4.2.1, h4.2.2.1, Nat.le_trans h4.2.2.2 hb1.size⟩
            intro x hx
            rcases List.mem_cons.1 hx with rfl | hx
            · exact h4.2.2.2
            · obtain ⟨k, hk, rfl⟩ := List.mem_map.1 hx
              have hkl := reach_listed inv n j (hdb j hj k hk).2 hlj
              exact (hf k (by have := (hdb j hj k hk).1; omega) hkl).2.2.2
        · intro j k hj hk hlj hlk hjk
          by_cases hji : j = i
          · subst hji
            have hki : k ≠ j := Ne.symm hjk
            rw [updN_eq, updN_eq, updN_ne _ _ hki, updN_ne _ _ hki]
            exact .inr (hf k hk (hne k hlk hki)).2.2.2
          · by_cases hki : k = i
            · subst hki
              rw [updN_eq, updN_eq, updN_ne _ _ hji, updN_ne _ _ hji]
              exact .inl (hf j hj (hne j hlj hji)).2.2.2
            · rw [updN_ne _ _ hji, updN_ne _ _ hji, updN_ne _ _ hki, updN_ne _ _ hki]
              exact hds j k hj hk (hne j hlj hji) (hne k hlk hki) hjk
        · intro k hk hlk j hj
          have hjk := (hdb k hk j hj).1
          by_cases hki : k = i
          · subst hki
            have h6 : j ≠ k := by omega
            rw [updN_eq, updN_ne _ _ h6]
            exact (hf j (hready j hj).1 (hready j hj).2).2.2.2
          · have h7 := hne k hlk hki
            have h8 := reach_listed inv n k (hdb k hk j hj).2 h7
            rw [updN_ne _ _ hki, updN_ne _ _ (hlt _ h8)]
            exact hor k hk h7 j hj
  refine wp_region_any hm ?_
  have inv0 : HeadInv .any l.toArray n (Array.replicate l.toArray.size false) :=
    ⟨by simp, fun j oj _ hl => (by rw [getD_replicate_false] at hl; cases hl), fun t _ ht => getD_in (by simpa using ht) (getD_replicate_false _ _)⟩
  have H := key n (Array.replicate l.toArray.size false) (fun i => match dstOf l i with | some d => a.tmps.getD d undef | none => undef) (fun _ => w.heap.size) (fun _ => w.heap.size) w.drew (cnt_all n hn) inv0 (Below.refl _ _).drew (Nat.le_refl _) (fun j _ hl => by rw [getD_replicate_false] at hl; cases hl) (fun j k _ _ hl => by rw [getD_replicate_false] at hl; cases hl) (fun k _ hl => by rw [getD_replicate_false] at hl; cases hl)
  have hself : putAll l a (fun i => match dstOf l i with | some d => a.tmps.getD d undef | none => undef) n = a := putAll_self n
  rw [hself, show n + (l.toArray.size - n) = l.toArray.size by omega] at H
  exact H
theorem wp_region_rgtl {P : Program} {id : Nat} {a : Act} {w : World} {l : List Oper} {Q : Exit → Act → World → Prop} (q : Nat) (ds : Nat → List Nat) (Fs : List GF) (hm : P.follows .mixedOrders = true) (hB : rgtB l.toArray Fs.length q = true) (hD : depB l.toArray Fs.length ds = true)
    (hst : GStables w Fs) (hs : HSteps P l a ds Fs w Q 0 l Fs)
    (hq : ∀ o, l[q]? = some o → ∀ (u : Nat → Value) (s e : Nat → Nat) (w1 : World), (∀ k ∈ ds q, (Fs.getD k GFnone) (trio ds u s e k) w1 ∧ w.heap.size ≤ s k ∧ s k ≤ e k ∧ e k ≤ w1.heap.size) →
      ∃ v, (∀ x y w2, (Fs.getD q GFnone) ((v, x, y) :: (ds q).map fun k => (u k, s k, e k)) w2) ∧ ∀ A : Act, (∀ t j, dstIn l Fs.length t = some j → t < a.tmps.size → j ∈ ds q → A.eval (.tmp t) = u j) → ∀ w2, (execOp A.eval o).run P w2 = .ok (.value v) w2)
    (ht : ∀ (u : Nat → Value) (s e : Nat → Nat) (w1 : World), Below w.heap.size w w1 → w.heap.size ≤ w1.heap.size → (∀ i, i < Fs.length → (Fs.getD i GFnone) (trio ds u s e i) w1 ∧ w.heap.size ≤ s i ∧ s i ≤ e i ∧ e i ≤ w1.heap.size) →
      (∀ j k, j < Fs.length → k < Fs.length → j ≠ k → e j ≤ s k ∨ e k ≤ s j) → (∀ k, k < Fs.length → ∀ j ∈ ds k, e j ≤ s k) → ∀ o, l[Fs.length]? = some o → ∃ w2, (execOp (putAll l a u Fs.length).eval o).run P w1 = .ok .skip w2 ∧ wpList P l.toArray Q (l.drop (Fs.length + 1)) (putAll l a u Fs.length) w2) :
    (Code.region id l.toArray true).wp P Q a w := by
  have hB' := hB
  simp only [rgtB, Bool.and_eq_true, decide_eq_true_eq] at hB'
  obtain ⟨⟨⟨⟨⟨⟨⟨⟨⟨⟨hn, _⟩, _⟩, hdst⟩, _⟩, _⟩, _⟩, _⟩, _⟩, _⟩, _⟩ := hB'
  have hdst' : ∀ j k, j < Fs.length → k < Fs.length → j ≠ k → ∀ d, dstOf l j = some d → dstOf l k ≠ some d := by
    intro j k hj hk hjk d hd
    have h1 := List.all_eq_true.1 hdst j (List.mem_range.2 hj)
    have h2 := List.all_eq_true.1 h1 k (List.mem_range.2 hk)
    simp only [Bool.or_eq_true, decide_eq_true_eq] at h2
    rcases h2 with h2 | h2
    · exact absurd h2 hjk
    · have e1 : (l.toArray[j]?).bind (·.dst) = some d := by simpa [dstOf] using hd
      rw [e1] at h2
      have h3 : (l.toArray[k]?).bind (·.dst) ≠ some d := by simpa using h2
      simpa [dstOf] using h3
  refine wp_region_rgt Fs.length q ds (fun i => Fs.getD i GFnone) hm hB hD (fun i hi => gstables_at i hi hst) ?_ hq ht
  intro i o hi ho u s e w1 hb hz hd hor K hK
  have h := hsteps_at 0 i o hi ho hs
  rw [Nat.zero_add] at h
  refine h (putAll l a u Fs.length) u s e w1 ?_ ?_ hb hz hd hor K hK
  · intro t j hj htt
    have h1 := List.find?_some hj
    have h2 := List.mem_of_find?_eq_some hj
    have h1' : dstOf l j = some t := by simpa using h1
    exact eval_at h1' htt _ (List.mem_range.1 h2) (fun k hk hkj => hdst' j k (List.mem_range.1 h2) hk (Ne.symm hkj) t h1')
  · intro t hj
    refine eval_off _ (fun k hk hkt => ?_)
    have := List.find?_eq_none.1 hj k (List.mem_range.2 hk)
    simp [hkt] at this
end Go.Proofs.Ytpgifgdoikhpbaa
