/- A region that draws its order: reads, and three operations in a forced order (a new block, a step upon it, a last one): the reads walked once in the order of the text, then the three. No condition. -/
import Derived.Test.YtpgifgdoikhpbaaRgQ
import Derived.Test.YtpgifgdoikhpbaaRgH
import Derived.Test.YtpgifgdoikhpbaaApp
namespace Go.Proofs.Ytpgifgdoikhpbaa
open Go.RowKit

def wpV (P : Program) (o : Oper) (a : Act) (w : World) (N : Value → World → Prop) : Prop :=
  match (execOp a.eval o).run P w with
  | .ok (.value v) w' => N v w'
  | .ok .skip w' => N undef w'
  | _ => False
theorem wpV_wp {P : Program} {o : Oper} {a b : Act} {w : World} {N : Value → World → Prop} {K : Act → World → Prop} {Q : Exit → Act → World → Prop} (h : wpV P o a w N) (he : execOp b.eval o = execOp a.eval o) (hk : ∀ v w', N v w' → K (b.put o.dst v) w') : o.wp P b w K Q := by
  unfold Oper.wp
  rw [he]
  unfold wpV at h
  generalize (execOp a.eval o).run P w = r at *
  cases r with
  | ok nx w' => cases nx <;> first | exact hk _ _ h | exact h.elim
  | halt x w' => exact h.elim
def plainC : Op → Bool
  | .nilCheck _ => true
  | o => plainOp o
theorem ne_bind {P : Program} {α : Type} {m : Sem α} {k : α → Sem Next} {f : FuncId} {args : Array Value} (h : ∀ x w w', (k x).run P w ≠ .ok (.enter f args) w') : ∀ w w', (m >>= k).run P w ≠ .ok (.enter f args) w' := by
  intro w w'
  rw [Sem.run_bind]
  cases m.run P w with
  | ok x w1 => exact h x w1 w'
  | halt x w1 => intro e; cases e
theorem ne_map {P : Program} {α : Type} {m : Sem α} {g : α → Value} {f : FuncId} {args : Array Value} : ∀ w w', (do pure (Next.value (g (← m))) : Sem Next).run P w ≠ .ok (.enter f args) w' :=
  ne_bind fun x w w' e => by simp [Sem.run_pure] at e
theorem nilCheck_enter {P : Program} {ρ : Operand → Value} {o : Oper} {x : Operand} (ho : o.op = .nilCheck x) {f : FuncId} {args : Array Value} : ∀ w w', (execOp ρ o).run P w ≠ .ok (.enter f args) w' := by
  unfold execOp
  rw [ho]
  intro w w' e
  dsimp only at e
  split at e
  all_goals first
    | (simp [runtimePanic, go_sem] at e; done)
    | skip
  all_goals
    split at e
    all_goals first
      | (simp [runtimePanic, go_sem] at e; done)
      | (refine absurd e (ne_bind (fun _ => ne_bind (fun _ w1 w2 => ?_)) _ _); split <;> intro e2 <;> first | (simp [go_sem] at e2; done) | (rw [Sem.run_bind] at e2; simp [unsupported] at e2; done))
theorem plainC_select {o : Oper} (h : plainC o.op = true) : ∀ cs b, o.op ≠ .select cs b := by
  intro cs b e
  rw [e] at h
  cases h
theorem plainC_enter {P : Program} {ρ : Operand → Value} {o : Oper} {w w' : World} {f : FuncId} {args : Array Value} (h : plainC o.op = true) : (execOp ρ o).run P w ≠ .ok (.enter f args) w' := by
  by_cases hp : plainOp o.op = true
  · exact plain_enter hp
  · have : ∃ x, o.op = .nilCheck x := by
      cases ho : o.op <;> rw [ho] at h hp <;> first | exact ⟨_, rfl⟩ | (exact absurd h hp)
    obtain ⟨x, hx⟩ := this
    exact nilCheck_enter hx _ _
def notSel : Op → Bool
  | .select _ _ => false
  | _ => true
theorem notSel_ne {o : Oper} (h : notSel o.op = true) : ∀ cs b, o.op ≠ .select cs b := by
  intro cs b e
  rw [e] at h
  cases h
def chB (ops : Array Oper) (n0 : Nat) : Bool :=
  decide (n0 + 2 < ops.size) &&
  ((List.range ops.size).all fun i => match ops[i]? with
    | some o => notSel o.op && (o.guard.isNone && (((List.range (ops.size - 1)).all fun k => match (ops[k]?).bind (·.dst) with
        | some d => !(o.looksAt ops).contains d || o.after.any fun e => Region.binds .any e && e.on == k
        | none => true) && (decide (i = n0) || (decide (i = n0 + 1) || (decide (i = ops.size - 1) || (plainC o.op && [n0, n0 + 1].all fun k => match (ops[k]?).bind (·.dst) with | some d => !(o.looksAt ops).contains d | none => true))))))
    | none => false) &&
  (reachB ops ops.size (n0 + 1) n0 && (List.range (ops.size - 1)).all fun i => reachB ops ops.size (ops.size - 1) i)

theorem exec_agree {l : List Oper} {a : Act} {n : Nat} {o : Oper} (hsel : ∀ cs b, o.op ≠ .select cs b) (hdst : ∀ j k, j < n → k < n → j ≠ k → ∀ d, dstOf l j = some d → dstOf l k ≠ some d) {u u' : Nat → Value}
    (h : ∀ k, k < n → u k = u' k ∨ ∀ d, dstOf l k = some d → d ∉ o.looksAt l.toArray) : execOp (putAll l a u n).eval o = execOp (putAll l a u' n).eval o := by
  have c : ∀ m, m ≤ n → execOp (putAll l a (mixV u u' m) n).eval o = execOp (putAll l a u n).eval o := by
    intro m
    induction m with
    | zero => intro _; rfl
    | succ m ih =>
      intro hm
      rw [← ih (by omega)]
      rcases h m (by omega) with he | hn
      · have : mixV u u' (m + 1) = mixV u u' m := by
          funext k
          show upd (mixV u u' m) m (u' m) k = _
          unfold upd
          split
          · rename_i hk
            rw [hk, mixV_ge m m (Nat.le_refl _), he]
          · rfl
        rw [this]
      · show execOp (putAll l a (upd (mixV u u' m) m (u' m)) n).eval o = _
        rw [← putAll_upd n (by omega) hdst]
        exact execOp_put (ops := l.toArray) o hsel _ _ _ hn
  rw [← c n (Nat.le_refl _), putAll_congr n (fun k hk => mixV_lt n k hk)]

section
variable {P : Program} {l : List Oper} {C : World → Prop} {Q : Exit → Act → World → Prop}
def ch3 (P : Program) (Q : Exit → Act → World → Prop) (o1 o2 o3 : Oper) (a2 : Act) (v1 v2 : Value) (w : World) : Prop := wpV P o3 ((a2.put o1.dst v1).put o2.dst v2) w fun v3 w3 => Q .normal (((a2.put o1.dst v1).put o2.dst v2).put o3.dst v3) w3
def ch2 (P : Program) (C : World → Prop) (Q : Exit → Act → World → Prop) (o1 o2 o3 : Oper) (a2 : Act) (v1 : Value) (w : World) : Prop := wpV P o2 (a2.put o1.dst v1) w fun v2 w2 => C w2 ∧ ch3 P Q o1 o2 o3 a2 v1 v2 w2
def ch1 (P : Program) (C : World → Prop) (Q : Exit → Act → World → Prop) (o1 o2 o3 : Oper) (a2 : Act) (w : World) : Prop := wpV P o1 a2 w fun v1 w1 => C w1 ∧ ch2 P C Q o1 o2 o3 a2 v1 w1

theorem wp_region_ch {id : Nat} {a : Act} {w : World} (n0 : Nat) (o1 o2 o3 : Oper) (hm : P.follows .mixedOrders = true) (hB : rgB l.toArray l.length = true) (hA : chB l.toArray n0 = true)
    (ho1 : l[n0]? = some o1) (ho2 : l[n0 + 1]? = some o2) (ho3 : l[l.length - 1]? = some o3) (hC : C w.drew)
    (h : wpQuiet P l.toArray C (fun a1 => wpQuiet P l.toArray C (fun a2 => ch1 P C Q o1 o2 o3 a2 w.drew) ((l.take (l.length - 1)).drop (n0 + 2)) ((a1.put o1.dst undef).put o2.dst undef)) (l.take n0) a) :
    (Code.region id l.toArray true).wp P Q a w := by
  simp only [rgB, Bool.and_eq_true, decide_eq_true_eq] at hB
  obtain ⟨⟨⟨⟨_, hops⟩, hdst⟩, _⟩, _⟩ := hB
  have hsz : l.toArray.size = l.length := by simp
  simp only [chB, Bool.and_eq_true, decide_eq_true_eq, hsz] at hA
  obtain ⟨⟨hn0, hall⟩, hr21, hr3⟩ := hA
  obtain ⟨n, hn⟩ : ∃ n, l.length = n + 1 := ⟨l.length - 1, by omega⟩
  rw [hn] at hops hdst hall hr21 hr3 ho3 h hn0
  simp only [Nat.add_sub_cancel] at hall hr3 ho3 h
  have hdst' : ∀ j k, j < n + 1 → k < n + 1 → j ≠ k → ∀ d, dstOf l j = some d → dstOf l k ≠ some d := by
    intro j k hj hk hjk d hd
    have h1 := List.all_eq_true.1 hdst j (List.mem_range.2 hj)
    have h2 := List.all_eq_true.1 h1 k (List.mem_range.2 hk)
    simp only [Bool.or_eq_true, decide_eq_true_eq] at h2
    rcases h2 with h2 | h2
    · exact absurd h2 hjk
    · have e1 : (l.toArray[j]?).bind (·.dst) = some d := by simpa [dstOf] using hd
      rw [e1] at h2
      have h3 : (l.toArray[k]?).bind (·.dst) ≠ some d := by simpa using h2
      simpa [dstOf] using h3
  have hpre : ∀ i o, i < n + 1 → l[i]? = some o → ∀ e ∈ o.after, Region.binds .any e = true → e.on < i := by
    intro i o hi ho e he hb
    have h1 := List.all_eq_true.1 hops i (List.mem_range.2 hi)
    rw [show l.toArray[i]? = some o by simpa using ho] at h1
    simp only [Bool.and_eq_true] at h1
    have h2 := (Array.all_eq_true' (as := o.after)).1 h1.2 e he
    simpa [hb] using h2
  have hq : ∀ i o, i < n + 1 → l[i]? = some o → (∀ cs b, o.op ≠ .select cs b) ∧ o.guard = none ∧ (∀ k, k < n → (∀ e ∈ o.after, Region.binds .any e = true → e.on ≠ k) → ∀ d, dstOf l k = some d → d ∉ o.looksAt l.toArray) ∧
      (i ≠ n0 → i ≠ n0 + 1 → i ≠ n → plainC o.op = true ∧ ∀ k, k = n0 ∨ k = n0 + 1 → ∀ d, dstOf l k = some d → d ∉ o.looksAt l.toArray) := by
    intro i o hi ho
    have h1 := List.all_eq_true.1 hall i (List.mem_range.2 hi)
    rw [show l.toArray[i]? = some o by simpa using ho] at h1
    simp only [Bool.and_eq_true] at h1
    obtain ⟨a1, a2, a3, a4⟩ := h1
    refine ⟨notSel_ne a1, by simpa using a2, fun k hk hno d hd => ?_, fun e1 e2 e3 => ?_⟩
    · have h2 := List.all_eq_true.1 a3 k (List.mem_range.2 hk)
      rw [show (l.toArray[k]?).bind (·.dst) = some d by simpa [dstOf] using hd] at h2
      simp only [Bool.or_eq_true] at h2
      rcases h2 with h2 | h2
      · simpa using h2
      · obtain ⟨e, he, hb⟩ := Array.any_eq_true'.1 h2
        simp only [Bool.and_eq_true, beq_iff_eq] at hb
        exact absurd hb.2 (hno e he hb.1)
    · simp only [Bool.or_eq_true, decide_eq_true_eq, e1, e2, e3, false_or, Bool.and_eq_true] at a4
      refine ⟨a4.1, fun k hk d hd => ?_⟩
      have h2 := List.all_eq_true.1 a4.2 k (by rcases hk with rfl | rfl <;> simp)
      rw [show (l.toArray[k]?).bind (·.dst) = some d by simpa [dstOf] using hd] at h2
      simpa using h2
  have hdst'' : ∀ j k, j < n → k < n → j ≠ k → ∀ d, dstOf l j = some d → dstOf l k ≠ some d := fun j k hj hk => hdst' j k (by omega) (by omega)
  have hd1 : dstOf l n0 = o1.dst := by simp [dstOf, ho1]
  have hd2 : dstOf l (n0 + 1) = o2.dst := by simp [dstOf, ho2]
  have hd3 : dstOf l n = o3.dst := by simp [dstOf, ho3]
  -- the reads' values
  obtain ⟨V1, _, hV1, hQ1⟩ := quiet_vals (P := P) (l := l) (a := a) (l.take n0) 0 (fun _ => undef) (fun j o hj => by
    have hjn : j < n0 := by have := (List.getElem?_eq_some_iff.1 hj).1; simp at this; omega
    have e : l[j]? = some o := by rw [List.getElem?_take_of_lt hjn] at hj; exact hj
    rw [Nat.zero_add]
    exact ⟨e, (hq j o (by omega) e).2.1⟩) (show wpQuiet P l.toArray _ _ (l.take n0) (putAll l a _ 0) from h)
  have hlen1 : (l.take n0).length = n0 := by simp; omega
  rw [Nat.zero_add, hlen1] at hQ1
  have e2 : ((putAll l a V1 n0).put o1.dst undef).put o2.dst undef = putAll l a (upd (upd V1 n0 undef) (n0 + 1) undef) (n0 + 2) := by
    show _ = ((putAll l a (upd (upd V1 n0 undef) (n0 + 1) undef) n0).put (dstOf l n0) (upd (upd V1 n0 undef) (n0 + 1) undef n0)).put (dstOf l (n0 + 1)) (upd (upd V1 n0 undef) (n0 + 1) undef (n0 + 1))
    rw [putAll_congr (u := upd (upd V1 n0 undef) (n0 + 1) undef) (u' := V1) n0 (fun i hi => by unfold upd; rw [if_neg (by omega), if_neg (by omega)]), hd1, hd2]
    unfold upd
    rw [if_neg (by omega), if_pos rfl, if_pos rfl]
  rw [e2] at hQ1
  have hget : ∀ j o, ((l.take n).drop (n0 + 2))[j]? = some o → n0 + 2 + j < n ∧ l[n0 + 2 + j]? = some o := by
    intro j o hj
    rw [List.getElem?_drop] at hj
    have hjn : n0 + 2 + j < n := by have := (List.getElem?_eq_some_iff.1 hj).1; simp at this; omega
    rw [List.getElem?_take_of_lt hjn] at hj
    exact ⟨hjn, hj⟩
  obtain ⟨V, hVlow, hV2, hQ2⟩ := quiet_vals (P := P) (l := l) (a := a) ((l.take n).drop (n0 + 2)) (n0 + 2) (upd (upd V1 n0 undef) (n0 + 1) undef) (fun j o hj => ⟨(hget j o hj).2, (hq _ o (by have := (hget j o hj).1; omega) (hget j o hj).2).2.1⟩) hQ1
  have hlen2 : n0 + 2 + ((l.take n).drop (n0 + 2)).length = n := by simp; omega
  rw [hlen2] at hQ2
  have hVV : ∀ i o, i < n → i ≠ n0 → i ≠ n0 + 1 → l[i]? = some o → ∀ w', C w' → o.quietAt P (putAll l a V i) C w' (V i) := by
    intro i o hi h1 h2 ho w' hw'
    rcases Nat.lt_or_ge i n0 with hlt | hge
    · have h3 := hV1 i (by rw [hlen1]; exact hlt) o (by rw [Nat.zero_add]; exact ho) w' hw'
      rw [Nat.zero_add] at h3
      have h4 : ∀ k, k < n0 → V k = V1 k := fun k hk => by rw [hVlow k (by omega)]; unfold upd; rw [if_neg (by omega), if_neg (by omega)]
      rw [putAll_congr (u := V) (u' := V1) i (fun k hk => h4 k (by omega)), h4 i hlt]
      exact h3
    · have h3 := hV2 (i - (n0 + 2)) (by simp; omega) o (by rw [show n0 + 2 + (i - (n0 + 2)) = i by omega]; exact ho) w' hw'
      rw [show n0 + 2 + (i - (n0 + 2)) = i by omega] at h3
      exact h3
  -- the three, at the frame as it stands
  have g1 : ∀ (u : Nat → Value) (listed : Array Bool), (∀ e ∈ o1.after, Region.binds .any e = true → listed.getD e.on false = true) → (∀ j, j < n → j ≠ n0 → j ≠ n0 + 1 → listed.getD j false = true → u j = V j) →
      execOp (putAll l a u n).eval o1 = execOp (putAll l a V n).eval o1 := by
    intro u listed hdeps hf
    obtain ⟨hsel, _, hap, _⟩ := hq n0 o1 (by omega) ho1
    exact exec_agree hsel hdst'' fun k hk => by
      by_cases hp : ∃ e ∈ o1.after, Region.binds .any e = true ∧ e.on = k
      · obtain ⟨e, he, hb, rfl⟩ := hp
        have := hpre n0 o1 (by omega) ho1 e he hb
        exact .inl (hf e.on (by omega) (by omega) (by omega) (hdeps e he hb))
      · exact .inr (hap k hk (fun e he hb hon => hp ⟨e, he, hb, hon⟩))
  have g2 : ∀ (u : Nat → Value) (listed : Array Bool), (∀ e ∈ o2.after, Region.binds .any e = true → listed.getD e.on false = true) → (∀ j, j < n → j ≠ n0 → j ≠ n0 + 1 → listed.getD j false = true → u j = V j) →
      execOp (putAll l a u n).eval o2 = execOp ((putAll l a V n).put o1.dst (u n0)).eval o2 := by
    intro u listed hdeps hf
    obtain ⟨hsel, _, hap, _⟩ := hq (n0 + 1) o2 (by omega) ho2
    have s1 : execOp (putAll l a u n).eval o2 = execOp (putAll l a (upd V n0 (u n0)) n).eval o2 := exec_agree hsel hdst'' fun k hk => by
      by_cases hp : ∃ e ∈ o2.after, Region.binds .any e = true ∧ e.on = k
      · obtain ⟨e, he, hb, rfl⟩ := hp
        have := hpre (n0 + 1) o2 (by omega) ho2 e he hb
        left
        unfold upd
        by_cases hk0 : e.on = n0
        · rw [if_pos hk0, hk0]
        · rw [if_neg hk0]
          exact hf e.on (by omega) hk0 (by omega) (hdeps e he hb)
      · exact .inr (hap k hk (fun e he hb hon => hp ⟨e, he, hb, hon⟩))
    rw [s1, ← hd1, putAll_upd n (by omega) hdst'']
  have g3 : ∀ (u : Nat → Value), (∀ j, j < n → j ≠ n0 → j ≠ n0 + 1 → u j = V j) → putAll l a u n = ((putAll l a V n).put o1.dst (u n0)).put o2.dst (u (n0 + 1)) := by
    intro u hf
    rw [← hd1, putAll_upd n (by omega) (fun j k hj hk => hdst' j k (by omega) (by omega)), ← hd2, putAll_upd n (by omega) (fun j k hj hk => hdst' j k (by omega) (by omega))]
    refine putAll_congr n fun k hk => ?_
    unfold upd
    by_cases h1 : k = n0 + 1
    · rw [if_pos h1, h1]
    · rw [if_neg h1]
      by_cases h2 : k = n0
      · rw [if_pos h2, h2]
      · rw [if_neg h2]
        exact hf k hk h2 h1
  have key : ∀ (f : Nat) (listed : Array Bool) (u : Nat → Value) (w1 : World), cnt listed (n + 1) = f → HeadInv .any l.toArray (n + 1) listed → C w1 → listed.getD n true = false →
      (∀ j, j < n → j ≠ n0 → j ≠ n0 + 1 → listed.getD j false = true → u j = V j) →
      ((listed.getD n0 true = false ∧ ch1 P C Q o1 o2 o3 (putAll l a V n) w1) ∨ (listed.getD n0 false = true ∧ listed.getD (n0 + 1) true = false ∧ ch2 P C Q o1 o2 o3 (putAll l a V n) (u n0) w1) ∨
        (listed.getD n0 false = true ∧ listed.getD (n0 + 1) false = true ∧ ch3 P Q o1 o2 o3 (putAll l a V n) (u n0) (u (n0 + 1)) w1)) →
      wpAny P .any l.toArray Q f listed (putAll l a u n) w1 := by
    intro f
    induction f with
    | zero =>
      intro listed u w1 hc inv _ hun _ _
      have := cnt_zero (n + 1) hc n (by omega)
      rw [hun] at this
      cases this
    | succ f ih =>
      intro listed u w1 hc inv hCw hunn hf hph
      obtain ⟨i0, hi0, hun0, hmin⟩ := cnt_pos (n + 1) (by omega : 0 < cnt listed (n + 1))
      have hi0s : i0 < l.toArray.size := by omega
      have ho0 : l.toArray[i0]? = some (l.toArray[i0]'hi0s) := Array.getElem?_eq_getElem hi0s
      have hr0 : i0 ∈ Region.ready .any l.toArray listed := by
        refine mem_ready.2 ⟨hun0, _, ho0, fun e he hbd => ?_⟩
        have hlt := hpre i0 _ hi0 (by simp) e he hbd
        have := hmin e.on hlt
        have hjs : e.on < listed.size := by rw [inv.size]; omega
        simp [hjs] at this ⊢; exact this
      refine ⟨fun h => (by rw [h] at hr0; cases hr0), fun i hi => ?_⟩
      obtain ⟨hun, o, ho, hdeps⟩ := mem_ready.1 hi
      have his : i < l.toArray.size := (Array.getElem?_eq_some_iff.1 ho).1
      have hin : i < n + 1 := by omega
      have ho' : l[i]? = some o := by simpa using ho
      obtain ⟨hsel, hg, hap, hpl⟩ := hq i o hin ho'
      unfold wpOp
      simp only [ho]
      rw [if_pos (by simp [Region.wanted, hg])]
      left
      have eput : i < n → ∀ v, (putAll l a u n).put o.dst v = putAll l a (upd u i v) n := by
        intro hlt v
        have : dstOf l i = o.dst := by simp [dstOf, ho']
        rw [← this]
        exact putAll_upd n hlt hdst''
      have hcnt : cnt (listed.setIfInBounds i true) (n + 1) = f := by have := cnt_set hun (n + 1) hin; omega
      have hset : ∀ j, j ≠ i → ∀ b, (listed.setIfInBounds i true).getD j b = listed.getD j b := fun j hj b => getD_set_ne b (Ne.symm hj)
      have hseti : (listed.setIfInBounds i true).getD i false = true := by
        have : i < listed.size := by rw [inv.size]; omega
        simp [this]
      by_cases hi3 : i = n
      · subst hi3
        rw [ho3] at ho'
        obtain rfl := Option.some.inj ho'
        have hlist : ∀ j, j < i → listed.getD j false = true := fun j hj => reach_ready inv ho hdeps (i + 1) (by
          have := List.all_eq_true.1 hr3 j (List.mem_range.2 hj)
          exact this)
        have l1 := hlist n0 (by omega)
        have l2 := hlist (n0 + 1) (by omega)
        have hch : ch3 P Q o1 o2 o3 (putAll l a V i) (u n0) (u (n0 + 1)) w1 := by
          have x1 : listed.getD n0 true = true := by
            have hs1 : n0 < listed.size := by rw [inv.size]; omega
            simp [hs1] at l1 ⊢; exact l1
          have x2 : listed.getD (n0 + 1) true = true := by
            have hs1 : n0 + 1 < listed.size := by rw [inv.size]; omega
            simp [hs1] at l2 ⊢; exact l2
          rcases hph with ⟨h1, _⟩ | ⟨_, h1, _⟩ | ⟨_, _, h1⟩
          · rw [x1] at h1; cases h1
          · rw [x2] at h1; cases h1
          · exact h1
        have hua := g3 u (fun j hj h1 h2 => hf j hj h1 h2 (hlist j hj))
        unfold ch3 at hch
        rw [← hua] at hch
        refine wpV_wp hch ?_ (fun v w' hN => ?_)
        · rfl
        · have hf0 : f = 0 := by
            have hz : ∀ (m : Nat), m ≤ i → cnt (listed.setIfInBounds i true) m = 0 := by
              intro m
              induction m with
              | zero => intro _; rfl
              | succ m ihm =>
                intro hm'
                unfold cnt
                rw [ihm (by omega), hset m (by omega)]
                have := hlist m (by omega)
                have hs1 : m < listed.size := by rw [inv.size]; omega
                simp [hs1] at this
                simp [hs1, this]
            have hs1 : i < listed.size := by rw [inv.size]; omega
            have : cnt (listed.setIfInBounds i true) (i + 1) = 0 := by
              unfold cnt
              rw [hz i (Nat.le_refl _)]
              simp [hs1]
            omega
          subst hf0
          refine ⟨?_, ?_⟩
          · rw [List.eq_nil_iff_forall_not_mem]
            intro j hj
            obtain ⟨hju, oj, hoj, _⟩ := mem_ready.1 hj
            have hjs : j < l.toArray.size := (Array.getElem?_eq_some_iff.1 hoj).1
            have := cnt_zero (i + 1) hcnt j (by omega)
            rw [this] at hju
            cases hju
          · exact hN
      · have hinn : i < n := by omega
        have hn' : (listed.setIfInBounds i true).getD n true = false := by rw [hset n (Ne.symm hi3)]; exact hunn
        by_cases hi1 : i = n0
        · subst hi1
          rw [ho1] at ho'
          obtain rfl := Option.some.inj ho'
          have hch : ch1 P C Q o1 o2 o3 (putAll l a V n) w1 := by
            have x1 : listed.getD i false = false := getD_both hun
            rcases hph with ⟨_, h1⟩ | ⟨h1, _⟩ | ⟨h1, _⟩
            · exact h1
            · rw [x1] at h1; cases h1
            · rw [x1] at h1; cases h1
          unfold ch1 at hch
          refine wpV_wp hch (g1 u listed hdeps hf) (fun v w' hN => ?_)
          rw [eput hinn]
          refine ih _ _ w' hcnt (inv.set hi hin) hN.1 hn' (fun j hj h1 h2 hl => ?_) (.inr (.inl ⟨hseti, ?_, ?_⟩))
          · unfold upd
            rw [if_neg h1]
            exact hf j hj h1 h2 (by rw [← hset j h1]; exact hl)
          · rw [hset (i + 1) (by omega)]
            rcases Bool.eq_false_or_eq_true (listed.getD (i + 1) true) with h1 | h1
            · exfalso
              have hs1 : i + 1 < listed.size := by rw [inv.size]; omega
              have h2 : listed.getD (i + 1) false = true := by simp [hs1] at h1 ⊢; exact h1
              have := reach_listed inv (n + 1) (i + 1) hr21 h2
              rw [getD_both hun] at this
              cases this
            · exact h1
          · have : upd u i v i = v := by unfold upd; rw [if_pos rfl]
            rw [this]
            exact hN.2
        · by_cases hi2 : i = n0 + 1
          · subst hi2
            rw [ho2] at ho'
            obtain rfl := Option.some.inj ho'
            have l1 := reach_ready inv ho hdeps (n + 1) hr21
            have hch : ch2 P C Q o1 o2 o3 (putAll l a V n) (u n0) w1 := by
              have x1 : listed.getD n0 true = true := by
                have hs1 : n0 < listed.size := by rw [inv.size]; omega
                simp [hs1] at l1 ⊢; exact l1
              have x2 : listed.getD (n0 + 1) false = false := getD_both hun
              rcases hph with ⟨h1, _⟩ | ⟨_, _, h1⟩ | ⟨_, h1, _⟩
              · rw [x1] at h1; cases h1
              · exact h1
              · rw [x2] at h1; cases h1
            unfold ch2 at hch
            refine wpV_wp hch (g2 u listed hdeps hf) (fun v w' hN => ?_)
            rw [eput hinn]
            have u0 : upd u (n0 + 1) v n0 = u n0 := by unfold upd; rw [if_neg (by omega)]
            have u1 : upd u (n0 + 1) v (n0 + 1) = v := by unfold upd; rw [if_pos rfl]
            refine ih _ _ w' hcnt (inv.set hi hin) hN.1 hn' (fun j hj h1 h2 hl => ?_) (.inr (.inr ⟨?_, hseti, ?_⟩))
            · unfold upd
              rw [if_neg h2]
              exact hf j hj h1 h2 (by rw [← hset j h2]; exact hl)
            · rw [hset n0 (by omega)]; exact l1
            · rw [u0, u1]
              exact hN.2
          · obtain ⟨hpc, hde⟩ := hpl hi1 hi2 hi3
            have c1 : execOp (putAll l a u n).eval o = execOp (putAll l a V n).eval o := exec_agree hsel hdst'' fun k hk => by
              by_cases hk0 : k = n0 ∨ k = n0 + 1
              · exact .inr (hde k hk0)
              · by_cases hp : ∃ e ∈ o.after, Region.binds .any e = true ∧ e.on = k
                · obtain ⟨e, he, hb, rfl⟩ := hp
                  have h1 := hpre i o hin ho' e he hb
                  exact .inl (hf e.on (by omega) (fun h => hk0 (.inl h)) (fun h => hk0 (.inr h)) (hdeps e he hb))
                · exact .inr (hap k hk (fun e he hb hon => hp ⟨e, he, hb, hon⟩))
            have c2 : ∀ m, i ≤ m → m ≤ n → execOp (putAll l a V m).eval o = execOp (putAll l a V i).eval o := by
              intro m
              induction m with
              | zero =>
                intro h1 _
                obtain rfl : i = 0 := by omega
                rfl
              | succ m ihm =>
                intro h1 h2
                by_cases him : i = m + 1
                · rw [him]
                · rw [← ihm (by omega) (by omega)]
                  show execOp ((putAll l a V m).put (dstOf l m) (V m)).eval o = _
                  exact execOp_put (ops := l.toArray) o hsel _ _ _ (hap m (by omega) (fun e he hbd hon => by have := hpre i o hin ho' e he hbd; omega))
            have c3 := c1.trans (c2 n (by omega) (Nat.le_refl _))
            have hqq := hVV i o hinn hi1 hi2 ho' w1 hCw
            unfold Oper.quietAt at hqq
            rw [← c3] at hqq
            have hne := fun f args w' => plainC_enter (P := P) (ρ := (putAll l a u n).eval) (w := w1) (w' := w') (f := f) (args := args) hpc
            have hgo : wpAny P .any l.toArray Q f (listed.setIfInBounds i true) ((putAll l a u n).put o.dst (V i)) w1 := by
              rw [eput hinn]
              refine ih _ _ w1 hcnt (inv.set hi hin) hCw hn' (fun j hj h1 h2 hl => ?_) ?_
              · unfold upd
                by_cases hji : j = i
                · rw [if_pos hji, hji]
                · rw [if_neg hji]
                  exact hf j hj h1 h2 (by rw [← hset j hji]; exact hl)
              · have u0 : upd u i (V i) n0 = u n0 := by unfold upd; rw [if_neg (Ne.symm hi1)]
                have u1 : upd u i (V i) (n0 + 1) = u (n0 + 1) := by unfold upd; rw [if_neg (Ne.symm hi2)]
                rw [u0, u1, hset n0 (Ne.symm hi1), hset (n0 + 1) (Ne.symm hi2), hset n0 (Ne.symm hi1), hset (n0 + 1) (Ne.symm hi2)]
                exact hph
            unfold Oper.wp
            generalize (execOp (putAll l a u n).eval o).run P w1 = r at *
            cases r with
            | ok nx w' =>
              cases nx <;> simp only [Oper.quietUpon] at hqq <;> simp only [Oper.upon]
              case value x =>
                obtain ⟨e1, e2⟩ := hqq
                rw [e1, e2]
                exact hgo
              case skip =>
                obtain ⟨e1, e2⟩ := hqq
                rw [e1, ← e2]
                exact hgo
              case enter f args => exact absurd rfl (hne f args w')
            | halt x w' => simp only [Oper.quietUpon] at hqq
  refine wp_region_any hm ?_
  have inv0 : HeadInv .any l.toArray (n + 1) (Array.replicate l.toArray.size false) :=
    ⟨by simp, fun j oj _ hl => (by rw [getD_replicate_false] at hl; cases hl), fun t _ ht => getD_in (by simpa using ht) (getD_replicate_false _ _)⟩
  obtain ⟨u0, hu0⟩ : ∃ u0, putAll l a u0 n = a := ⟨_, putAll_self n⟩
  have H := key (n + 1) (Array.replicate l.toArray.size false) u0 w.drew (cnt_all (n + 1) (by omega)) inv0 hC (getD_in (by simp; omega) (getD_replicate_false _ _)) (fun j _ _ _ hl => by rw [getD_replicate_false] at hl; cases hl)
    (.inl ⟨getD_in (by simp; omega) (getD_replicate_false _ _), hQ2⟩)
  rw [hu0] at H
  rw [show l.toArray.size = n + 1 by omega] at H ⊢
  exact H
end
structure CW (S : World → Prop) where
  w : World
  h : S w
section
variable {P : Program} {o : Oper} {a : Act} {w : World} {N : Value → World → Prop}
theorem wpV_mk1 {t e : TypeId} {x : Operand} {v : Value} {cs : Array Value} (ho : o.op = .buildSlice t 1 #[(0, x)]) (hx : a.eval x = v) (hrun : ∀ w, (Instr.buildSlice t 1 #[(0, v)]).run P w = .ok (.slice (some ⟨w.heap.size, 0, none⟩) 1 1) (w.alloc (.cells cs e)))
    (h : N (.slice (some ⟨w.heap.size, 0, none⟩) 1 1) (w.alloc (.cells cs e))) : wpV P o a w N := by
  unfold wpV execOp
  simp only [ho, List.map_toArray, List.map_cons, List.map_nil, hx, Sem.run_bind, hrun, Sem.run_pure, Result.andThen_ok]
  exact h
theorem wpV_store {t : TypeId} {d x : Operand} {u v : Value} {w' : World} (ho : o.op = .store t d x) (hd : a.eval d = u) (hx : a.eval x = v) (hrun : (Instr.storeAt t u v).run P w = .ok () w') (h : N undef w') : wpV P o a w N := by
  unfold wpV execOp
  simp only [ho, hd, hx, Sem.run_bind, hrun, Sem.run_pure, Result.andThen_ok]
  exact h
theorem wpV_assign {x : Operand} {v : Value} (ho : o.op = .assign x) (hx : a.eval x = v) (h : N v w) : wpV P o a w N := by
  unfold wpV execOp
  simp only [ho, hx, Sem.run_pure]
  exact h
theorem wpV_app1g {t e : TypeId} {size lo hi n g c : Nat} {v : Value} {xs : List Value} {cs : Array Value} (s x : Operand) (ho : o.op = .call { callee := .builtin .append, args := #[s, x], argTypes := #[t, t] }) (hE : Elt P t e size)
    (hs : a.eval s = v) (hown : Own w lo hi e size v n xs) (hx : a.eval x = .slice (some ⟨g, 0, none⟩) 1 c) (hb : Blk w g e cs) (hcs : cs.size = size) (h1 : ∀ u ∈ cs.toList, u.oneCell' = true) (hn : n ≤ 1073741824) (hlo : lo ≤ w.heap.size)
    (h : ∀ (A : Option Addr) (c' : Nat) (w' : World), Own w' lo w'.heap.size e size (.slice A (n + 1) c') (n + 1) (xs ++ cs.toList) → Touch lo hi w w' → w.grownBy w' v.ownBlock → N (.slice A (n + 1) c') w') : wpV P o a w N := by
  obtain ⟨i, z, bytes, ht, hi', hz, hsize, hby, hzs, hpos, h64⟩ := hE
  obtain ⟨g', cap, w', hr, h2, h3, h4, h5⟩ := run_append_lies (P := P) w t o.type lo e i z size bytes ht hi' hz hsize hby hzs hpos v n xs hown.row ⟨g, 0, none⟩ 1 c cs.toList (by simp [hcs]) (World.news_of_block hb) h1 (by omega) (by unfold maxLen; omega) (by
    have : (n + 1) * bytes ≤ 1073741825 * 64 := Nat.mul_le_mul (by omega) h64
    omega) hlo w.heap.size rfl
  unfold wpV execOp
  simp only [ho, resolve, invoke, builtin, Sem.run_bind, Sem.run_pure, Result.andThen_ok, List.map_toArray, List.map_cons, List.map_nil, hs, hx, hr]
  exact h _ _ _ ⟨h2, fun k hk => by simp [Value.ownBlock] at hk; omega⟩ (Touch.of_grown h3 (fun k hk => ⟨(hown.row.lt k hk).1, hown.top k hk⟩)) h3
end
end Go.Proofs.Ytpgifgdoikhpbaa
