/- A region that draws its order, walked operation by operation in whatever order, where each operation's fact also names the span of memory that it made (spans of two operations lie apart, and in the order that the region forces). No condition. -/
import Derived.Test.YtpgifgdoikhpbaaRg
namespace Go.Proofs.Ytpgifgdoikhpbaa
open Go.RowKit

def updN (u : Nat → Nat) (i : Nat) (v : Nat) : Nat → Nat := fun j => if j = i then v else u j
theorem updN_eq (u : Nat → Nat) (i v : Nat) : updN u i v i = v := by unfold updN; rw [if_pos rfl]
theorem updN_ne (u : Nat → Nat) {i j : Nat} (v : Nat) (h : j ≠ i) : updN u i v j = u j := by unfold updN; rw [if_neg h]

/-- Operation k stands before operation i, through the region's own ties. -/
def reachB (ops : Array Oper) : Nat → Nat → Nat → Bool
  | 0, _, _ => false
  | f + 1, i, k => match ops[i]? with
    | some o => o.after.any fun d => Region.binds .any d && (d.on == k || reachB ops f d.on k)
    | none => false
theorem reach_listed {ops : Array Oper} {n k : Nat} {listed : Array Bool} (inv : HeadInv .any ops n listed) : ∀ (f i : Nat), reachB ops f i k = true → listed.getD i false = true → listed.getD k false = true
  | 0, _, h, _ => by cases h
  | f + 1, i, h, hl => by
    unfold reachB at h
    cases ho : ops[i]? with
    | none => rw [ho] at h; cases h
    | some o =>
      rw [ho] at h
      obtain ⟨d, hd, hb⟩ := Array.any_eq_true'.1 h
      simp only [Bool.and_eq_true, Bool.or_eq_true, beq_iff_eq] at hb
      have h1 := inv.closed i o ho hl d hd hb.1
      rcases hb.2 with h2 | h2
      · rw [← h2]; exact h1
      · exact reach_listed inv f d.on h2 h1
theorem reach_ready {ops : Array Oper} {n k : Nat} {listed : Array Bool} (inv : HeadInv .any ops n listed) {i : Nat} {o : Oper} (ho : ops[i]? = some o) (hd : ∀ e ∈ o.after, Region.binds .any e = true → listed.getD e.on false = true) : ∀ (f : Nat), reachB ops f i k = true → listed.getD k false = true
  | 0, h => by cases h
  | f + 1, h => by
    unfold reachB at h
    rw [ho] at h
    obtain ⟨d, hdm, hb⟩ := Array.any_eq_true'.1 h
    simp only [Bool.and_eq_true, Bool.or_eq_true, beq_iff_eq] at hb
    have h1 := hd d hdm hb.1
    rcases hb.2 with h2 | h2
    · rw [← h2]; exact h1
    · exact reach_listed inv f d.on h2 h1
def depB (ops : Array Oper) (n : Nat) (ds : Nat → List Nat) : Bool :=
  (List.range n).all fun i => (ds i).all fun k => decide (k < i) && reachB ops n i k
/-- What is known of operation i and of those that its fact names: value, beginning and end of the span of memory. -/
def trio (ds : Nat → List Nat) (u : Nat → Value) (s e : Nat → Nat) (i : Nat) : List (Value × Nat × Nat) := (u i, s i, e i) :: (ds i).map fun k => (u k, s k, e k)
theorem trio_upd {ds : Nat → List Nat} {u : Nat → Value} {s e : Nat → Nat} {i j : Nat} {v : Value} {x y : Nat} (hj : j ≠ i) (hd : i ∉ ds j) : trio ds (upd u i v) (updN s i x) (updN e i y) j = trio ds u s e j := by
  unfold trio
  rw [updN_ne _ _ hj, updN_ne _ _ hj]
  have h1 : upd u i v j = u j := by unfold upd; rw [if_neg hj]
  rw [h1]
  congr 1
  apply List.map_congr_left
  intro k hk
  have hk' : k ≠ i := by rintro rfl; exact hd hk
  rw [updN_ne _ _ hk', updN_ne _ _ hk']
  have h2 : upd u i v k = u k := by unfold upd; rw [if_neg hk']
  rw [h2]
theorem trio_self {ds : Nat → List Nat} {u : Nat → Value} {s e : Nat → Nat} {i : Nat} {v : Value} {x y : Nat} (hd : i ∉ ds i) : trio ds (upd u i v) (updN s i x) (updN e i y) i = (v, x, y) :: (ds i).map fun k => (u k, s k, e k) := by
  unfold trio
  rw [updN_eq, updN_eq]
  have h1 : upd u i v i = v := by unfold upd; rw [if_pos rfl]
  rw [h1]
  congr 1
  apply List.map_congr_left
  intro k hk
  have hk' : k ≠ i := by rintro rfl; exact hd hk
  rw [updN_ne _ _ hk', updN_ne _ _ hk']
  have h2 : upd u i v k = u k := by unfold upd; rw [if_neg hk']
  rw [h2]

/-- One operation: from what those that stand before it left it goes on to a value with its own fact, in a world that has at most new blocks. -/
def rgStepH (P : Program) (l : List Oper) (a : Act) (ds : Nat → List Nat) (F : Nat → List (Value × Nat × Nat) → World → Prop) (w0 : World) (n : Nat) (Q : Exit → Act → World → Prop) (i : Nat) (o : Oper) : Prop :=
  ∀ (u : Nat → Value) (s e : Nat → Nat) (w1 : World), Below w0.heap.size w0 w1 → w0.heap.size ≤ w1.heap.size →
    (∀ k ∈ ds i, F k (trio ds u s e k) w1 ∧ w0.heap.size ≤ s k ∧ s k ≤ e k ∧ e k ≤ w1.heap.size) → (∀ k ∈ ds i, ∀ j ∈ ds k, e j ≤ s k) →
    ∀ K : Act → World → Prop, (∀ v w', F i ((v, w1.heap.size, w'.heap.size) :: (ds i).map fun k => (u k, s k, e k)) w' → Below w1.heap.size w1 w' → K ((putAll l a u n).put o.dst v) w') → o.wp P (putAll l a u n) w1 K Q

theorem wp_region_rgh {P : Program} {id : Nat} {a : Act} {w : World} {l : List Oper} {Q : Exit → Act → World → Prop} (n : Nat) (ds : Nat → List Nat) (F : Nat → List (Value × Nat × Nat) → World → Prop) (hm : P.follows .mixedOrders = true) (hB : rgB l.toArray n = true) (hD : depB l.toArray n ds = true)
    (hst : ∀ i, i < n → ∀ T w1 w2, w.heap.size ≤ w1.heap.size → Below w1.heap.size w1 w2 → (∀ x ∈ T, x.2.2 ≤ w1.heap.size) → F i T w1 → F i T w2)
    (hs : ∀ i o, i < n → l[i]? = some o → rgStepH P l a ds F w n Q i o)
    (ht : ∀ (u : Nat → Value) (s e : Nat → Nat) (w1 : World), Below w.heap.size w w1 → w.heap.size ≤ w1.heap.size → (∀ i, i < n → F i (trio ds u s e i) w1 ∧ w.heap.size ≤ s i ∧ s i ≤ e i ∧ e i ≤ w1.heap.size) →
      (∀ j k, j < n → k < n → j ≠ k → e j ≤ s k ∨ e k ≤ s j) → (∀ k, k < n → ∀ j ∈ ds k, e j ≤ s k) → wpList P l.toArray Q (l.drop n) (putAll l a u n) w1) :
    (Code.region id l.toArray true).wp P Q a w := by
  have hdb : ∀ i, i < n → ∀ k ∈ ds i, k < i ∧ reachB l.toArray n i k = true := by
    intro i hi k hk
    have h1 := List.all_eq_true.1 hD i (List.mem_range.2 hi)
    have h2 := List.all_eq_true.1 h1 k hk
    simpa using h2
  have hself : ∀ i, i < n → i ∉ ds i := fun i hi h => by have := (hdb i hi i h).1; omega
  simp only [rgB, Bool.and_eq_true, decide_eq_true_eq] at hB
  obtain ⟨⟨⟨⟨hn, hops⟩, hdst⟩, htail⟩, hseq⟩ := hB
  have hsz : l.toArray.size = l.length := by simp
  have hdst' : ∀ j k, j < n → k < n → j ≠ k → ∀ d, dstOf l j = some d → dstOf l k ≠ some d := by
    intro j k hj hk hjk d hd
    have h1 := List.all_eq_true.1 hdst j (List.mem_range.2 hj)
    have h2 := List.all_eq_true.1 h1 k (List.mem_range.2 hk)
    simp only [Bool.or_eq_true, decide_eq_true_eq] at h2
    rcases h2 with h2 | h2
    · exact absurd h2 hjk
    · have e1 : (l.toArray[j]?).bind (·.dst) = some d := by simpa [dstOf] using hd
      rw [e1] at h2
      have h3 : (l.toArray[k]?).bind (·.dst) ≠ some d := by simpa using h2
      simpa [dstOf] using h3
  have hop : ∀ i o, i < n → l.toArray[i]? = some o → o.guard = none ∧ ∀ e ∈ o.after, Region.binds .any e = true → e.on < i := by
    intro i o hi ho
    have h1 := List.all_eq_true.1 hops i (List.mem_range.2 hi)
    rw [ho] at h1
    simp only [Bool.and_eq_true] at h1
    refine ⟨by simpa using h1.1, fun e he hb => ?_⟩
    have h2 := (Array.all_eq_true' (as := o.after)).1 h1.2 e he
    simpa [hb] using h2
  have key : ∀ (f : Nat) (listed : Array Bool) (u : Nat → Value) (s e : Nat → Nat) (w1 : World), cnt listed n = f → HeadInv .any l.toArray n listed → Below w.heap.size w w1 → w.heap.size ≤ w1.heap.size →
      (∀ j, j < n → listed.getD j false = true → F j (trio ds u s e j) w1 ∧ w.heap.size ≤ s j ∧ s j ≤ e j ∧ e j ≤ w1.heap.size) →
      (∀ j k, j < n → k < n → listed.getD j false = true → listed.getD k false = true → j ≠ k → e j ≤ s k ∨ e k ≤ s j) →
      (∀ k, k < n → listed.getD k false = true → ∀ j ∈ ds k, e j ≤ s k) → wpAny P .any l.toArray Q (f + (l.toArray.size - n)) listed (putAll l a u n) w1 := by
    intro f
    induction f with
    | zero =>
      intro listed u s e w1 hc inv hb hz hf hds hor
      have hall := cnt_zero n hc
      have hall' : ∀ j, j < n → listed.getD j false = true := fun j hj => by
        have := hall j hj
        have hjs : j < listed.size := by rw [inv.size]; omega
        simp [hjs] at this ⊢; exact this
      have hlist : listed = allDone n l.toArray.size := by
        apply Array.ext
        · simp [allDone, inv.size]
        · intro i h1 h2
          have hi : i < l.toArray.size := by rw [← inv.size]; exact h1
          by_cases hin : i < n
          · have := hall i hin
            simp [h1] at this
            simp [allDone, hin, this]
          · have := inv.tail i (by omega) hi
            simp [h1] at this
            simp [allDone, hin, this]
      rw [hlist, Nat.zero_add]
      have hdl : (l.drop n).length = l.toArray.size - n := by simp
      have := wpAny_of_seq (md := .any) (Q' := Q) (l.drop n) n (allDone n l.toArray.size) (putAll l a u n) w1 (fun j => by simp [List.getElem?_drop]) (by rw [hdl]; exact hseq) (ht u s e w1 hb hz (fun i hi => hf i hi (hall' i hi)) (fun j k hj hk => hds j k hj hk (hall' j hj) (hall' k hk)) (fun k hk => hor k hk (hall' k hk)))
      rwa [hdl] at this
    | succ f ih =>
      intro listed u s e w1 hc inv hb hz hf hds hor
      obtain ⟨i0, hi0, hun0, hmin⟩ := cnt_pos n (by omega : 0 < cnt listed n)
      have hi0s : i0 < l.toArray.size := by omega
      have ho0 : l.toArray[i0]? = some (l.toArray[i0]'hi0s) := Array.getElem?_eq_getElem hi0s
      have hr0 : i0 ∈ Region.ready .any l.toArray listed := by
        refine mem_ready.2 ⟨hun0, _, ho0, fun e he hbd => ?_⟩
        have hlt := (hop i0 _ hi0 ho0).2 e he hbd
        have := hmin e.on hlt
        have hjs : e.on < listed.size := by rw [inv.size]; omega
        simp [hjs] at this ⊢; exact this
      have hrw : f + 1 + (l.toArray.size - n) = (f + (l.toArray.size - n)) + 1 := by omega
      rw [hrw]
      refine ⟨fun h => (by rw [h] at hr0; cases hr0), fun i hi => ?_⟩
      obtain ⟨hun, o, ho, hdeps⟩ := mem_ready.1 hi
      have his : i < l.toArray.size := (Array.getElem?_eq_some_iff.1 ho).1
      have hin : i < n := by
        rcases Nat.lt_or_ge i n with h | h
        · exact h
        · rcases (by simpa using htail : n = l.toArray.size ∨ _) with h' | h'
          · omega
          · exact absurd hi (tail_waits h'.1 h'.2 (by omega) inv _ i0 rfl hi0 hun0 i h)
      have ho' : l[i]? = some o := by simpa using ho
      unfold wpOp
      simp only [ho]
      have hg := (hop i o hin ho).1
      rw [if_pos (by simp [Region.wanted, hg])]
      left
      have hready : ∀ k ∈ ds i, k < n ∧ listed.getD k false = true := fun k hk => ⟨by have := (hdb i hin k hk).1; omega, reach_ready inv ho hdeps n (hdb i hin k hk).2⟩
      refine hs i o hin ho' u s e w1 hb hz (fun k hk => hf k (hready k hk).1 (hready k hk).2) (fun k hk => hor k (hready k hk).1 (hready k hk).2) _ (fun v w' hv hb1 => ?_)
      · have e1 : (putAll l a u n).put o.dst v = putAll l a (upd u i v) n := by
          have e2 : dstOf l i = o.dst := by simp [dstOf, ho']
          rw [← e2]
          exact putAll_upd n hin hdst'
        rw [e1]
        have hne : ∀ j, (listed.setIfInBounds i true).getD j false = true → j ≠ i → listed.getD j false = true := fun j hl hji => by
          rwa [getD_set_ne false (Ne.symm hji)] at hl
        have hlt : ∀ j, listed.getD j false = true → j ≠ i := fun j hl hji => by
          rw [hji, getD_both hun] at hl
          cases hl
        refine ih (listed.setIfInBounds i true) (upd u i v) (updN s i w1.heap.size) (updN e i w'.heap.size) w' ?_ (inv.set hi hin) (hb.trans (hb1.mono hz)) (Nat.le_trans hz hb1.size) ?_ ?_ ?_
        · have := cnt_set hun n hin
          omega
        · intro j hj hl
          by_cases hji : j = i
          · subst hji
            rw [updN_eq, updN_eq, trio_self (hself j hj)]
            exact ⟨hv, hz, hb1.size, Nat.le_refl _⟩
          · have hlj := hne j hl hji
            have hni : i ∉ ds j := fun h => by
              have h9 := reach_listed inv n j (hdb j hj i h).2 hlj
              exact hlt i h9 rfl
            rw [updN_ne _ _ hji, updN_ne _ _ hji, trio_upd hji hni]
            have h4 := hf j hj hlj
            refine ⟨hst j hj _ w1 w' hz hb1 ?_ h4.1, h4.2.1, h4.2.2.1, Nat.le_trans h4.2.2.2 hb1.size⟩
            intro x hx
            rcases List.mem_cons.1 hx with rfl | hx
            · exact h4.2.2.2
            · obtain ⟨k, hk, rfl⟩ := List.mem_map.1 hx
              have hkl := reach_listed inv n j (hdb j hj k hk).2 hlj
              exact (hf k (by have := (hdb j hj k hk).1; omega) hkl).2.2.2
        · intro j k hj hk hlj hlk hjk
          by_cases hji : j = i
          · subst hji
            have hki : k ≠ j := Ne.symm hjk
            rw [updN_eq, updN_eq, updN_ne _ _ hki, updN_ne _ _ hki]
            exact .inr (hf k hk (hne k hlk hki)).2.2.2
          · by_cases hki : k = i
            · subst hki
              rw [updN_eq, updN_eq, updN_ne _ _ hji, updN_ne _ _ hji]
              exact .inl (hf j hj (hne j hlj hji)).2.2.2
            · rw [updN_ne _ _ hji, updN_ne _ _ hji, updN_ne _ _ hki, updN_ne _ _ hki]
              exact hds j k hj hk (hne j hlj hji) (hne k hlk hki) hjk
        · intro k hk hlk j hj
          have hjk := (hdb k hk j hj).1
          by_cases hki : k = i
          · subst hki
            have h6 : j ≠ k := by omega
            rw [updN_eq, updN_ne _ _ h6]
            exact (hf j (hready j hj).1 (hready j hj).2).2.2.2
          · have h7 := hne k hlk hki
            have h8 := reach_listed inv n k (hdb k hk j hj).2 h7
            rw [updN_ne _ _ hki, updN_ne _ _ (hlt _ h8)]
            exact hor k hk h7 j hj
  refine wp_region_any hm ?_
  have inv0 : HeadInv .any l.toArray n (Array.replicate l.toArray.size false) :=
    ⟨by simp, fun j oj _ hl => (by rw [getD_replicate_false] at hl; cases hl), fun t _ ht => getD_in (by simpa using ht) (getD_replicate_false _ _)⟩
  have H := key n (Array.replicate l.toArray.size false) (fun i => match dstOf l i with | some d => a.tmps.getD d undef | none => undef) (fun _ => w.heap.size) (fun _ => w.heap.size) w.drew (cnt_all n hn) inv0 (Below.refl _ _).drew (Nat.le_refl _) (fun j _ hl => by rw [getD_replicate_false] at hl; cases hl) (fun j k _ _ hl => by rw [getD_replicate_false] at hl; cases hl) (fun k _ hl => by rw [getD_replicate_false] at hl; cases hl)
  have hself : putAll l a (fun i => match dstOf l i with | some d => a.tmps.getD d undef | none => undef) n = a := putAll_self n
  rw [hself, show n + (l.toArray.size - n) = l.toArray.size by omega] at H
  exact H
end Go.Proofs.Ytpgifgdoikhpbaa
