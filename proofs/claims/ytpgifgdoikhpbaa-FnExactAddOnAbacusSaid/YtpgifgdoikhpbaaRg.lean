/- A region that draws its order, walked operation by operation in whatever order, each operation from what its own predecessors left (rely and guarantee): one goal for each operation, one for what stands behind. No condition. -/
import Derived.WalkKit
import Derived.StillTail
namespace Go.Proofs.Ytpgifgdoikhpbaa
open Go.RowKit

def upd (u : Nat → Value) (i : Nat) (v : Value) : Nat → Value := fun j => if j = i then v else u j
/-- The frame with the value 'u i' in operation i's temporary, for the first n operations. -/
def putAll (l : List Oper) (a : Act) (u : Nat → Value) : Nat → Act
  | 0 => a
  | n + 1 => (putAll l a u n).put ((l[n]?).bind (·.dst)) (u n)

def dstOf (l : List Oper) (i : Nat) : Option Tmp := (l[i]?).bind (·.dst)

theorem putAll_congr {l : List Oper} {a : Act} {u u' : Nat → Value} : ∀ (n : Nat), (∀ i, i < n → u i = u' i) → putAll l a u n = putAll l a u' n
  | 0, _ => rfl
  | n + 1, h => by
    show (putAll l a u n).put _ _ = (putAll l a u' n).put _ _
    rw [putAll_congr n (fun i hi => h i (by omega)), h n (by omega)]

theorem put_put_same (a : Act) (d : Option Tmp) (v w : Value) : (a.put d v).put d w = a.put d w := by
  cases d with
  | none => rfl
  | some d => simp [Act.put]

theorem putAll_upd {l : List Oper} {a : Act} {u : Nat → Value} {i : Nat} {v : Value} : ∀ (n : Nat), i < n →
    (∀ j k, j < n → k < n → j ≠ k → ∀ d, dstOf l j = some d → dstOf l k ≠ some d) → (putAll l a u n).put (dstOf l i) v = putAll l a (upd u i v) n
  | 0, h, _ => absurd h (by omega)
  | n + 1, h, hd => by
    by_cases hin : i = n
    · subst hin
      show ((putAll l a u i).put (dstOf l i) (u i)).put (dstOf l i) v = (putAll l a (upd u i v) i).put (dstOf l i) (upd u i v i)
      rw [put_put_same, putAll_congr (u := upd u i v) (u' := u) i (fun j hj => by unfold upd; rw [if_neg (by omega)])]
      unfold upd
      rw [if_pos rfl]
    · show ((putAll l a u n).put (dstOf l n) (u n)).put (dstOf l i) v = (putAll l a (upd u i v) n).put (dstOf l n) (upd u i v n)
      rw [Act.put_comm _ _ _ (fun d hx => hd n i (by omega) (by omega) (by omega) d hx), putAll_upd n (by omega) (fun j k hj hk => hd j k (by omega) (by omega))]
      unfold upd
      rw [if_neg (by omega)]

theorem putAll_self {l : List Oper} {a : Act} : ∀ (n : Nat), putAll l a (fun i => match dstOf l i with | some d => a.tmps.getD d undef | none => undef) n = a
  | 0 => rfl
  | n + 1 => by
    show (putAll l a _ n).put (dstOf l n) _ = a
    rw [putAll_self n]
    dsimp only
    generalize dstOf l n = dd
    cases dd with
    | none => rfl
    | some d =>
      show ({ a with tmps := a.tmps.setIfInBounds d (a.tmps.getD d undef) } : Act) = a
      have : a.tmps.setIfInBounds d (a.tmps.getD d undef) = a.tmps := by
        apply Array.ext
        · simp
        · intro i h1 h2
          by_cases hid : d = i
          · subst hid; simp at h1; simp [h1]
          · rw [Array.getElem_setIfInBounds, if_neg hid]
      rw [this]

/-- How many of the first n are not yet listed. -/
def cnt (listed : Array Bool) : Nat → Nat
  | 0 => 0
  | n + 1 => cnt listed n + if listed.getD n true = true then 0 else 1

theorem cnt_set_ge {listed : Array Bool} {i : Nat} : ∀ (n : Nat), n ≤ i → cnt (listed.setIfInBounds i true) n = cnt listed n
  | 0, _ => rfl
  | n + 1, h => by
    unfold cnt
    rw [cnt_set_ge n (by omega), getD_set_ne true (by omega)]
theorem cnt_set {listed : Array Bool} {i : Nat} (hu : listed.getD i true = false) : ∀ (n : Nat), i < n → cnt listed n = cnt (listed.setIfInBounds i true) n + 1
  | 0, h => absurd h (by omega)
  | n + 1, h => by
    by_cases hin : i = n
    · subst hin
      have hl : i < listed.size := by
        rcases Nat.lt_or_ge i listed.size with h' | h'
        · exact h'
        · simp [Array.getElem?_eq_none h'] at hu
      have h1 : (listed.setIfInBounds i true).getD i true = true := by simp [hl]
      unfold cnt
      rw [cnt_set_ge i (Nat.le_refl _), h1, hu]
      simp
    · unfold cnt
      rw [cnt_set hu n (by omega), getD_set_ne true hin]
      omega
theorem cnt_zero {listed : Array Bool} : ∀ (n : Nat), cnt listed n = 0 → ∀ i, i < n → listed.getD i true = true
  | 0, _, i, hi => absurd hi (by omega)
  | n + 1, h, i, hi => by
    unfold cnt at h
    by_cases hin : i = n
    · subst hin
      by_cases hx : listed.getD i true = true
      · exact hx
      · rw [if_neg hx] at h; omega
    · exact cnt_zero n (by omega) i (by omega)
theorem cnt_pos {listed : Array Bool} : ∀ (n : Nat), 0 < cnt listed n → ∃ i, i < n ∧ listed.getD i true = false ∧ ∀ j, j < i → listed.getD j true = true
  | 0, h => absurd h (by simp [cnt])
  | n + 1, h => by
    by_cases hz : 0 < cnt listed n
    · obtain ⟨i, hi, h1, h2⟩ := cnt_pos n hz
      exact ⟨i, by omega, h1, h2⟩
    · have hz' : cnt listed n = 0 := by omega
      refine ⟨n, by omega, ?_, cnt_zero n hz'⟩
      unfold cnt at h
      rw [hz'] at h
      by_cases hx : listed.getD n true = true
      · rw [if_pos hx] at h; omega
      · simpa using hx
theorem cnt_all {m : Nat} : ∀ (n : Nat), n ≤ m → cnt (Array.replicate m false) n = n
  | 0, _ => rfl
  | n + 1, h => by
    unfold cnt
    rw [cnt_all n (by omega)]
    have : (Array.replicate m false).getD n true = false := by simp [show n < m by omega]
    rw [this]; simp

def allDone (n m : Nat) : Array Bool := ((List.range m).map fun i => decide (i < n)).toArray

/-- What is asked of the region, by the kernel. -/
def rgB (ops : Array Oper) (n : Nat) : Bool :=
  decide (n ≤ ops.size) &&
  ((List.range n).all fun i => match ops[i]? with
    | some o => o.guard.isNone && o.after.all fun e => !Region.binds .any e || decide (e.on < i)
    | none => false) &&
  ((List.range n).all fun i => (List.range n).all fun j => decide (i = j) || (match (ops[i]?).bind (·.dst) with | some d => decide ((ops[j]?).bind (·.dst) ≠ some d) | none => true)) &&
  (decide (n = ops.size) || (Region.sinkB .any ops n && Region.chainB .any ops n)) &&
  Region.seqB .any ops (ops.size - n) n (allDone n ops.size)

/-- One operation: from what its own predecessors left it goes on to a value with its own fact, in a world that has at most new blocks. -/
def rgStep (P : Program) (l : List Oper) (a : Act) (Φ : Nat → Value → World → Prop) (w0 : World) (n : Nat) (Q : Exit → Act → World → Prop) (i : Nat) (o : Oper) : Prop :=
  ∀ (u : Nat → Value) (w1 : World), Below w0.heap.size w0 w1 → w0.heap.size ≤ w1.heap.size → (∀ e ∈ o.after, Region.binds .any e = true → Φ e.on (u e.on) w1) →
    ∀ K : Act → World → Prop, (∀ v w', Φ i v w' → Below w1.heap.size w1 w' → K ((putAll l a u n).put o.dst v) w') → o.wp P (putAll l a u n) w1 K Q

theorem wp_region_rg {P : Program} {id : Nat} {a : Act} {w : World} {l : List Oper} {Q : Exit → Act → World → Prop} (n : Nat) (Φ : Nat → Value → World → Prop) (hm : P.follows .mixedOrders = true) (hB : rgB l.toArray n = true)
    (hst : ∀ i, i < n → ∀ v w1 w2, w.heap.size ≤ w1.heap.size → Below w1.heap.size w1 w2 → Φ i v w1 → Φ i v w2)
    (hs : ∀ i o, i < n → l[i]? = some o → rgStep P l a Φ w n Q i o)
    (ht : ∀ (u : Nat → Value) (w1 : World), Below w.heap.size w w1 → w.heap.size ≤ w1.heap.size → (∀ i, i < n → Φ i (u i) w1) → wpList P l.toArray Q (l.drop n) (putAll l a u n) w1) :
    (Code.region id l.toArray true).wp P Q a w := by
  simp only [rgB, Bool.and_eq_true, decide_eq_true_eq] at hB
  obtain ⟨⟨⟨⟨hn, hops⟩, hdst⟩, htail⟩, hseq⟩ := hB
  have hsz : l.toArray.size = l.length := by simp
  have hdst' : ∀ j k, j < n → k < n → j ≠ k → ∀ d, dstOf l j = some d → dstOf l k ≠ some d := by
    intro j k hj hk hjk d hd
    have h1 := List.all_eq_true.1 hdst j (List.mem_range.2 hj)
    have h2 := List.all_eq_true.1 h1 k (List.mem_range.2 hk)
    simp only [Bool.or_eq_true, decide_eq_true_eq] at h2
    rcases h2 with h2 | h2
    · exact absurd h2 hjk
    · have e1 : (l.toArray[j]?).bind (·.dst) = some d := by simpa [dstOf] using hd
      rw [e1] at h2
      have h3 : (l.toArray[k]?).bind (·.dst) ≠ some d := by simpa using h2
      simpa [dstOf] using h3
  have hop : ∀ i o, i < n → l.toArray[i]? = some o → o.guard = none ∧ ∀ e ∈ o.after, Region.binds .any e = true → e.on < i := by
    intro i o hi ho
    have h1 := List.all_eq_true.1 hops i (List.mem_range.2 hi)
    rw [ho] at h1
    simp only [Bool.and_eq_true] at h1
    refine ⟨by simpa using h1.1, fun e he hb => ?_⟩
    have h2 := (Array.all_eq_true' (as := o.after)).1 h1.2 e he
    simpa [hb] using h2
  have key : ∀ (f : Nat) (listed : Array Bool) (u : Nat → Value) (w1 : World), cnt listed n = f → HeadInv .any l.toArray n listed → Below w.heap.size w w1 → w.heap.size ≤ w1.heap.size →
      (∀ j, j < n → listed.getD j false = true → Φ j (u j) w1) → wpAny P .any l.toArray Q (f + (l.toArray.size - n)) listed (putAll l a u n) w1 := by
    intro f
    induction f with
    | zero =>
      intro listed u w1 hc inv hb hz hf
      have hall := cnt_zero n hc
      have hall' : ∀ j, j < n → listed.getD j false = true := fun j hj => by
        have := hall j hj
        have hjs : j < listed.size := by rw [inv.size]; omega
        simp [hjs] at this ⊢; exact this
      have hlist : listed = allDone n l.toArray.size := by
        apply Array.ext
        · simp [allDone, inv.size]
        · intro i h1 h2
          have hi : i < l.toArray.size := by rw [← inv.size]; exact h1
          by_cases hin : i < n
          · have := hall i hin
            simp [h1] at this
            simp [allDone, hin, this]
          · have := inv.tail i (by omega) hi
            simp [h1] at this
            simp [allDone, hin, this]
      rw [hlist, Nat.zero_add]
      have hdl : (l.drop n).length = l.toArray.size - n := by simp
      have := wpAny_of_seq (md := .any) (Q' := Q) (l.drop n) n (allDone n l.toArray.size) (putAll l a u n) w1 (fun j => by simp [List.getElem?_drop]) (by rw [hdl]; exact hseq) (ht u w1 hb hz (fun i hi => hf i hi (hall' i hi)))
      rwa [hdl] at this
    | succ f ih =>
      intro listed u w1 hc inv hb hz hf
      obtain ⟨i0, hi0, hun0, hmin⟩ := cnt_pos n (by omega : 0 < cnt listed n)
      have hi0s : i0 < l.toArray.size := by omega
      have ho0 : l.toArray[i0]? = some (l.toArray[i0]'hi0s) := Array.getElem?_eq_getElem hi0s
      have hr0 : i0 ∈ Region.ready .any l.toArray listed := by
        refine mem_ready.2 ⟨hun0, _, ho0, fun e he hbd => ?_⟩
        have hlt := (hop i0 _ hi0 ho0).2 e he hbd
        have := hmin e.on hlt
        have hjs : e.on < listed.size := by rw [inv.size]; omega
        simp [hjs] at this ⊢; exact this
      have hrw : f + 1 + (l.toArray.size - n) = (f + (l.toArray.size - n)) + 1 := by omega
      rw [hrw]
      refine ⟨fun h => (by rw [h] at hr0; cases hr0), fun i hi => ?_⟩
      obtain ⟨hun, o, ho, hdeps⟩ := mem_ready.1 hi
      have his : i < l.toArray.size := (Array.getElem?_eq_some_iff.1 ho).1
      have hin : i < n := by
        rcases Nat.lt_or_ge i n with h | h
        · exact h
        · rcases (by simpa using htail : n = l.toArray.size ∨ _) with h' | h'
          · omega
          · exact absurd hi (tail_waits h'.1 h'.2 (by omega) inv _ i0 rfl hi0 hun0 i h)
      have ho' : l[i]? = some o := by simpa using ho
      unfold wpOp
      simp only [ho]
      have hg := (hop i o hin ho).1
      rw [if_pos (by simp [Region.wanted, hg])]
      left
      refine hs i o hin ho' u w1 hb hz (fun e he hbd => ?_) _ (fun v w' hv hb1 => ?_)
      · exact hf e.on (by have := (hop i o hin ho).2 e he hbd; omega) (hdeps e he hbd)
      · have e1 : (putAll l a u n).put o.dst v = putAll l a (upd u i v) n := by
          have e2 : dstOf l i = o.dst := by simp [dstOf, ho']
          rw [← e2]
          exact putAll_upd n hin hdst'
        rw [e1]
        refine ih (listed.setIfInBounds i true) (upd u i v) w' ?_ (inv.set hi hin) (hb.trans (hb1.mono hz)) (Nat.le_trans hz hb1.size) ?_
        · have := cnt_set hun n hin
          omega
        · intro j hj hl
          by_cases hji : j = i
          · subst hji; unfold upd; rw [if_pos rfl]; exact hv
          · unfold upd
            rw [if_neg hji]
            rw [getD_set_ne false (Ne.symm hji)] at hl
            exact hst j hj _ w1 w' hz hb1 (hf j hj hl)
  refine wp_region_any hm ?_
  have inv0 : HeadInv .any l.toArray n (Array.replicate l.toArray.size false) :=
    ⟨by simp, fun j oj _ hl => (by rw [getD_replicate_false] at hl; cases hl), fun t _ ht => getD_in (by simpa using ht) (getD_replicate_false _ _)⟩
  have H := key n (Array.replicate l.toArray.size false) (fun i => match dstOf l i with | some d => a.tmps.getD d undef | none => undef) w.drew (cnt_all n hn) inv0 (Below.refl _ _).drew (Nat.le_refl _) (fun j _ hl => by rw [getD_replicate_false] at hl; cases hl)
  rw [putAll_self n, show n + (l.toArray.size - n) = l.toArray.size by omega] at H
  exact H
end Go.Proofs.Ytpgifgdoikhpbaa
