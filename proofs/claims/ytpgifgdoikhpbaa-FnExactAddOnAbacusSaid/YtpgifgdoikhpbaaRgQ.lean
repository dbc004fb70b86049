/- A region that draws its order, reads, makes one variable at any time and goes on in a fixed order behind (a store into it): one walk of the reads in the order of the text. No condition. -/
import Derived.Test.YtpgifgdoikhpbaaRg
import Derived.Test.YtpgifgdoikhpbaaBel
namespace Go.Proofs.Ytpgifgdoikhpbaa
open Go.RowKit

def plainOp : Op → Bool
  | .move _ => true
  | .assign _ => true
  | .load _ _ => true
  | .binOp _ _ _ _ _ => true
  | .unOp _ _ _ => true
  | .fieldAddr _ _ _ => true
  | .indexAddr _ _ _ => true
  | .build _ _ => true
  | .pick _ _ _ => true
  | _ => false
theorem sem_value {P : Program} {s : Sem Value} {w w' : World} {f : FuncId} {args : Array Value} : (do pure (Next.value (← s)) : Sem Next).run P w ≠ .ok (.enter f args) w' := by
  simp only [Sem.run_bind, Sem.run_pure]
  cases (s.run P w) <;> simp [Result.andThen]
theorem plain_select {o : Oper} (h : plainOp o.op = true) : ∀ cs b, o.op ≠ .select cs b := by
  intro cs b e
  rw [e] at h
  cases h
theorem plain_enter {P : Program} {ρ : Operand → Value} {o : Oper} {w w' : World} {f : FuncId} {args : Array Value} (h : plainOp o.op = true) : (execOp ρ o).run P w ≠ .ok (.enter f args) w' := by
  unfold execOp
  cases ho : o.op <;> rw [ho] at h <;> (first | (cases h; done) | skip)
  all_goals
    first
      | exact sem_value
      | (simp [Sem.run_pure]; done)
      | (simp only [Sem.run_bind, Sem.run_pure]; cases (asBool _).run P w <;> simp [Result.andThen]; done)


def qaB (ops : Array Oper) (n : Nat) : Bool :=
  (List.range n).all fun i => match ops[i]? with
    | some o => plainOp o.op && o.guard.isNone && (List.range (n + 1)).all fun k => match (ops[k]?).bind (·.dst) with
      | some d => !(o.looksAt ops).contains d || o.after.any fun e => Region.binds .any e && e.on == k
      | none => true
    | none => false

theorem quiet_vals {P : Program} {l : List Oper} {ops : Array Oper} {a : Act} {C : World → Prop} {Qf : Act → Prop} : ∀ (L : List Oper) (i0 : Nat) (V0 : Nat → Value),
    (∀ j o, L[j]? = some o → l[i0 + j]? = some o ∧ o.guard = none) → wpQuiet P ops C Qf L (putAll l a V0 i0) →
    ∃ V : Nat → Value, (∀ i, i < i0 → V i = V0 i) ∧ (∀ j, j < L.length → ∀ o, l[i0 + j]? = some o → ∀ w', C w' → o.quietAt P (putAll l a V (i0 + j)) C w' (V (i0 + j))) ∧ Qf (putAll l a V (i0 + L.length))
  | [], i0, V0, _, h => ⟨V0, fun _ _ => rfl, fun j hj => absurd hj (by simp), h⟩
  | o :: rest, i0, V0, hl, h => by
    obtain ⟨ho, hg⟩ := hl 0 o rfl
    have hw : Region.wanted o (yielded ops (putAll l a V0 i0).tmps) = true := by simp [Region.wanted, hg]
    unfold wpQuiet at h
    rw [if_pos hw] at h
    obtain ⟨v, hv, hn⟩ := h
    have e1 : (putAll l a V0 i0).put o.dst v = putAll l a (upd V0 i0 v) (i0 + 1) := by
      show _ = (putAll l a (upd V0 i0 v) i0).put ((l[i0]?).bind (·.dst)) (upd V0 i0 v i0)
      rw [putAll_congr (u := upd V0 i0 v) (u' := V0) i0 (fun i hi => by unfold upd; rw [if_neg (by omega)])]
      have : l[i0]? = some o := by simpa using ho
      rw [this]
      unfold upd
      rw [if_pos rfl]
      rfl
    rw [e1] at hn
    obtain ⟨V, h1, h2, h3⟩ := quiet_vals rest (i0 + 1) (upd V0 i0 v) (fun j o' hj => by
      have := hl (j + 1) o' (by simpa using hj)
      rwa [show i0 + (j + 1) = i0 + 1 + j by omega] at this) hn
    have hVi : V i0 = v := by rw [h1 i0 (by omega)]; unfold upd; rw [if_pos rfl]
    have hVl : ∀ i, i < i0 → V i = V0 i := fun i hi => by rw [h1 i (by omega)]; unfold upd; rw [if_neg (by omega)]
    refine ⟨V, hVl, fun j hj o' ho' w' hw' => ?_, by rw [show i0 + (o :: rest).length = i0 + 1 + rest.length by simp; omega]; exact h3⟩
    cases j with
    | zero =>
      have : o' = o := by
        have e : l[i0 + 0]? = some o := ho
        rw [e] at ho'
        exact (Option.some.inj ho').symm
      subst this
      rw [Nat.add_zero, hVi, putAll_congr (u := V) (u' := V0) i0 hVl]
      exact hv w' hw'
    | succ j =>
      rw [show i0 + (j + 1) = i0 + 1 + j by omega] at ho' ⊢
      exact h2 j (by simpa using hj) o' ho' w' hw'

def mixV (u V : Nat → Value) : Nat → Nat → Value
  | 0 => u
  | m + 1 => upd (mixV u V m) m (V m)
theorem mixV_ge {u V : Nat → Value} : ∀ (m k : Nat), m ≤ k → mixV u V m k = u k
  | 0, _, _ => rfl
  | m + 1, k, h => by
    unfold mixV upd
    rw [if_neg (by omega)]
    exact mixV_ge m k (by omega)
theorem mixV_lt {u V : Nat → Value} : ∀ (m k : Nat), k < m → mixV u V m k = V k
  | 0, _, h => absurd h (by omega)
  | m + 1, k, h => by
    unfold mixV upd
    by_cases hk : k = m
    · rw [if_pos hk, hk]
    · rw [if_neg hk]
      exact mixV_lt m k (by omega)

theorem wp_region_qa {P : Program} {id : Nat} {a : Act} {w : World} {l : List Oper} {Q : Exit → Act → World → Prop} (n : Nat) (d0 : Tmp) (t : TypeId) (cs : Array Value) (o0 : Oper) (hm : P.follows .mixedOrders = true) (hB : rgB l.toArray (n + 1) = true) (hA : qaB l.toArray n = true)
    (ho0 : l[n]? = some o0) (hop : o0.op = .alloc t) (hd0 : o0.dst = some d0) (hrun : ∀ w, (Instr.alloc t true (.tuple #[])).run P w = .ok (.pointer (some ⟨w.heap.size, 0, none⟩)) (w.alloc (.cells cs t)))
    (h : wpQuiet P l.toArray (fun w' => ∃ x : BW w, w' = x.w) (fun a' => ∀ (g : Nat) (w1 : World), Below w.heap.size w w1 → Blk w1 g t cs → w.heap.size ≤ g → wpList P l.toArray Q (l.drop (n + 1)) (a'.put (some d0) (.pointer (some ⟨g, 0, none⟩))) w1) (l.take n) a) :
    (Code.region id l.toArray true).wp P Q a w := by
  have hB' := hB
  simp only [rgB, Bool.and_eq_true, decide_eq_true_eq] at hB'
  obtain ⟨⟨⟨⟨hn, hops⟩, hdst⟩, _⟩, _⟩ := hB'
  have hsz : l.toArray.size = l.length := by simp
  have hlen : (l.take n).length = n := by simp; omega
  have hdst' : ∀ j k, j < n + 1 → k < n + 1 → j ≠ k → ∀ d, dstOf l j = some d → dstOf l k ≠ some d := by
    intro j k hj hk hjk d hd
    have h1 := List.all_eq_true.1 hdst j (List.mem_range.2 hj)
    have h2 := List.all_eq_true.1 h1 k (List.mem_range.2 hk)
    simp only [Bool.or_eq_true, decide_eq_true_eq] at h2
    rcases h2 with h2 | h2
    · exact absurd h2 hjk
    · have e1 : (l.toArray[j]?).bind (·.dst) = some d := by simpa [dstOf] using hd
      rw [e1] at h2
      have h3 : (l.toArray[k]?).bind (·.dst) ≠ some d := by simpa using h2
      simpa [dstOf] using h3
  have hpre : ∀ i o, i < n + 1 → l[i]? = some o → ∀ e ∈ o.after, Region.binds .any e = true → e.on < i := by
    intro i o hi ho e he hb
    have h1 := List.all_eq_true.1 hops i (List.mem_range.2 hi)
    rw [show l.toArray[i]? = some o by simpa using ho] at h1
    simp only [Bool.and_eq_true] at h1
    have h2 := (Array.all_eq_true' (as := o.after)).1 h1.2 e he
    simpa [hb] using h2
  have hq : ∀ i o, i < n → l[i]? = some o → plainOp o.op = true ∧ o.guard = none ∧ ∀ k, k < n + 1 → (∀ e ∈ o.after, Region.binds .any e = true → e.on ≠ k) → ∀ d, dstOf l k = some d → d ∉ o.looksAt l.toArray := by
    intro i o hi ho
    have h1 := List.all_eq_true.1 hA i (List.mem_range.2 hi)
    rw [show l.toArray[i]? = some o by simpa using ho] at h1
    simp only [Bool.and_eq_true] at h1
    refine ⟨h1.1.1, by simpa using h1.1.2, fun k hk hno d hd => ?_⟩
    have h2 := List.all_eq_true.1 h1.2 k (List.mem_range.2 hk)
    rw [show (l.toArray[k]?).bind (·.dst) = some d by simpa [dstOf] using hd] at h2
    simp only [Bool.or_eq_true] at h2
    rcases h2 with h2 | h2
    · simpa using h2
    · obtain ⟨e, he, hb⟩ := Array.any_eq_true'.1 h2
      simp only [Bool.and_eq_true, beq_iff_eq] at hb
      exact absurd hb.2 (hno e he hb.1)
  obtain ⟨V, _, hV, hQ⟩ := quiet_vals (P := P) (l := l) (a := a) (l.take n) 0 (fun _ => undef) (fun j o hj => by
    have hjn : j < n := by have := (List.getElem?_eq_some_iff.1 hj).1; omega
    have e : l[j]? = some o := by rw [List.getElem?_take_of_lt hjn] at hj; exact hj
    rw [Nat.zero_add]
    exact ⟨e, (hq j o hjn e).2.1⟩) (show wpQuiet P l.toArray _ _ (l.take n) (putAll l a _ 0) from h)
  rw [Nat.zero_add, hlen] at hQ
  refine wp_region_rg (n + 1) (fun i v w1 => if i = n then ∃ g, v = .pointer (some ⟨g, 0, none⟩) ∧ Blk w1 g t cs ∧ w.heap.size ≤ g else v = V i) hm hB ?_ ?_ ?_
  · intro i hi v w1 w2 hz hb hf
    split at hf
    · rename_i he
      obtain ⟨g, rfl, hg, hgz⟩ := hf
      rw [if_pos he]
      exact ⟨g, rfl, hg.bel hb, hgz⟩
    · rename_i he
      rw [if_neg he]
      exact hf
  · intro i o hi ho u w1 hb hz hp K hK
    by_cases hin : i = n
    · subst hin
      rw [ho0] at ho
      obtain rfl := Option.some.inj ho
      unfold Oper.wp execOp
      rw [hop]
      simp only [Sem.run_bind, hrun, Result.andThen_ok, Sem.run_pure]
      exact hK _ _ (by simp only [if_pos]; exact ⟨_, rfl, Blk.new _ _ _, hz⟩) ((Below.refl _ _).alloc (Nat.le_refl _) _)
    · have hil : i < n := by omega
      obtain ⟨hpl, hgd, hap⟩ := hq i o hil ho
      have hsel := plain_select hpl
      have c1 : ∀ m, m ≤ n + 1 → execOp (putAll l a (mixV u V m) (n + 1)).eval o = execOp (putAll l a u (n + 1)).eval o := by
        intro m
        induction m with
        | zero => intro _; rfl
        | succ m ih =>
          intro hm1
          rw [← ih (by omega)]
          by_cases hpm : ∃ e ∈ o.after, Region.binds .any e = true ∧ e.on = m
          · obtain ⟨e, he, hbd, hon⟩ := hpm
            have h1 := hp e he hbd
            have h2 := hpre i o hi ho e he hbd
            replace h1 : u e.on = V e.on := by
              have h3 : e.on ≠ n := by omega
              simpa [h3] using h1
            have : mixV u V (m + 1) = mixV u V m := by
              funext k
              show upd (mixV u V m) m (V m) k = _
              unfold upd
              split
              · rename_i hk
                rw [hk, mixV_ge m m (Nat.le_refl _), ← hon, h1]
              · rfl
            rw [this]
          · show execOp (putAll l a (upd (mixV u V m) m (V m)) (n + 1)).eval o = _
            rw [← putAll_upd (n + 1) (by omega) hdst']
            exact execOp_put (ops := l.toArray) o hsel _ _ _ (hap m (by omega) (fun e he hbd hon => hpm ⟨e, he, hbd, hon⟩))
      have c2 : ∀ m, i ≤ m → m ≤ n + 1 → execOp (putAll l a V m).eval o = execOp (putAll l a V i).eval o := by
        intro m
        induction m with
        | zero =>
          intro h1 _
          obtain rfl : i = 0 := by omega
          rfl
        | succ m ih =>
          intro h1 h2
          by_cases him : i = m + 1
          · rw [him]
          · rw [← ih (by omega) (by omega)]
            show execOp ((putAll l a V m).put (dstOf l m) (V m)).eval o = _
            exact execOp_put (ops := l.toArray) o hsel _ _ _ (hap m (by omega) (fun e he hbd hon => by have := hpre i o hi ho e he hbd; omega))
      have c3 : execOp (putAll l a u (n + 1)).eval o = execOp (putAll l a V i).eval o := by
        rw [← c2 (n + 1) (by omega) (Nat.le_refl _), ← c1 (n + 1) (Nat.le_refl _)]
        rw [putAll_congr (n + 1) (fun k hk => mixV_lt (n + 1) k hk)]
      have hqq := hV i (by omega) o (by rw [Nat.zero_add]; exact ho) w1 ⟨⟨w1, hb⟩, rfl⟩
      rw [Nat.zero_add] at hqq
      unfold Oper.quietAt at hqq
      rw [← c3] at hqq
      have hne := fun f args w' => plain_enter (P := P) (ρ := (putAll l a u (n + 1)).eval) (w := w1) (w' := w') (f := f) (args := args) hpl
      unfold Oper.wp
      generalize (execOp (putAll l a u (n + 1)).eval o).run P w1 = r at *
      cases r with
      | ok nx w' =>
        cases nx <;> simp only [Oper.quietUpon] at hqq <;> simp only [Oper.upon]
        case value x =>
          obtain ⟨e1, e2⟩ := hqq
          rw [e1, e2]
          exact hK _ _ (by simp [hin]) (Below.refl _ _)
        case skip =>
          obtain ⟨e1, e2⟩ := hqq
          rw [e1, ← e2]
          exact hK _ _ (by simp [hin]) (Below.refl _ _)
        case enter f args => exact absurd rfl (hne f args w')
      | halt x w' => simp only [Oper.quietUpon] at hqq
  · intro u w1 hb hz hf
    have h1 : ∃ g, u n = .pointer (some ⟨g, 0, none⟩) ∧ Blk w1 g t cs ∧ w.heap.size ≤ g := by simpa using hf n (by omega)
    obtain ⟨g, hg, hblk, hgz⟩ := h1
    have e1 : putAll l a u (n + 1) = (putAll l a V n).put (some d0) (.pointer (some ⟨g, 0, none⟩)) := by
      show (putAll l a u n).put ((l[n]?).bind (·.dst)) (u n) = _
      have h4 : ∀ k, k < n → u k = V k := by
        intro k hk
        have h3 : k ≠ n := by omega
        simpa [h3] using hf k (by omega)
      rw [putAll_congr (u := u) (u' := V) n h4, ho0, hg]
      show (putAll l a V n).put o0.dst _ = _
      rw [hd0]
    rw [e1]
    exact hQ g w1 hb hblk hgz
end Go.Proofs.Ytpgifgdoikhpbaa
