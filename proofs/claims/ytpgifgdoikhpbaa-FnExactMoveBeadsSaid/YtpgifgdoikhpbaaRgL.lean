/- wp_region_rgh with the operations and their facts as two lists: one goal for each operation, over a frame of which only its reads are known. No condition. -/
import Derived.Test.YtpgifgdoikhpbaaRgH
namespace Go.Proofs.Ytpgifgdoikhpbaa
open Go.RowKit

theorem put_tmps_size (a : Act) (d : Option Tmp) (v : Value) : (a.put d v).tmps.size = a.tmps.size := by
  cases d <;> simp [Act.put]
theorem putAll_size {l : List Oper} {a : Act} {u : Nat → Value} : ∀ n, (putAll l a u n).tmps.size = a.tmps.size
  | 0 => rfl
  | n + 1 => by unfold putAll; rw [put_tmps_size, putAll_size n]
theorem put_eval_ne {a : Act} {d : Option Tmp} {v : Value} {t : Tmp} (h : d ≠ some t) : (a.put d v).eval (.tmp t) = a.eval (.tmp t) := by
  cases d with
  | none => rfl
  | some d =>
    have h' : d ≠ t := fun e => h (by rw [e])
    simp [Act.put, Act.eval, Array.getD_eq_getD_getElem?, Array.getElem?_setIfInBounds, h']
theorem put_eval_eq {a : Act} {v : Value} {t : Tmp} (h : t < a.tmps.size) : (a.put (some t) v).eval (.tmp t) = v := by
  simp [Act.put, Act.eval, Array.getD_eq_getD_getElem?, Array.getElem?_setIfInBounds, h]
theorem eval_off {l : List Oper} {a : Act} {u : Nat → Value} {t : Tmp} : ∀ n, (∀ k, k < n → dstOf l k ≠ some t) → (putAll l a u n).eval (.tmp t) = a.eval (.tmp t)
  | 0, _ => rfl
  | n + 1, h => by
    show ((putAll l a u n).put (dstOf l n) (u n)).eval (.tmp t) = _
    rw [put_eval_ne (h n (by omega)), eval_off n (fun k hk => h k (by omega))]
theorem eval_at {l : List Oper} {a : Act} {u : Nat → Value} {t : Tmp} {j : Nat} (hj : dstOf l j = some t) (ht : t < a.tmps.size) : ∀ n, j < n → (∀ k, k < n → k ≠ j → dstOf l k ≠ some t) → (putAll l a u n).eval (.tmp t) = u j
  | 0, h, _ => by omega
  | n + 1, h, hd => by
    show ((putAll l a u n).put (dstOf l n) (u n)).eval (.tmp t) = _
    by_cases hn : n = j
    · subst hn
      rw [hj, put_eval_eq (by rw [putAll_size]; exact ht)]
    · rw [put_eval_ne (hd n (by omega) hn), eval_at hj ht n (by omega) (fun k hk => hd k (by omega))]
/-- Which of the first n operations yields temporary t. -/
def dstIn (l : List Oper) (n : Nat) (t : Tmp) : Option Nat := (List.range n).find? fun j => decide (dstOf l j = some t)
abbrev GF := List (Value × Nat × Nat) → World → Prop
def GFnone : GF := fun _ _ => False
def HStep (P : Program) (l : List Oper) (a : Act) (ds : Nat → List Nat) (Fs : List GF) (w0 : World) (Q : Exit → Act → World → Prop) (i : Nat) (o : Oper) (G : GF) : Prop :=
  ∀ (A : Act) (u : Nat → Value) (s e : Nat → Nat) (w1 : World), (∀ t j, dstIn l Fs.length t = some j → t < a.tmps.size → A.eval (.tmp t) = u j) → (∀ t, dstIn l Fs.length t = none → A.eval (.tmp t) = a.eval (.tmp t)) →
    Below w0.heap.size w0 w1 → w0.heap.size ≤ w1.heap.size →
    (∀ k ∈ ds i, (Fs.getD k GFnone) (trio ds u s e k) w1 ∧ w0.heap.size ≤ s k ∧ s k ≤ e k ∧ e k ≤ w1.heap.size) → (∀ k ∈ ds i, ∀ j ∈ ds k, e j ≤ s k) →
    ∀ K : Act → World → Prop, (∀ v w', G ((v, w1.heap.size, w'.heap.size) :: (ds i).map fun k => (u k, s k, e k)) w' → Below w1.heap.size w1 w' → K (A.put o.dst v) w') → o.wp P A w1 K Q
def HSteps (P : Program) (l : List Oper) (a : Act) (ds : Nat → List Nat) (Fs : List GF) (w0 : World) (Q : Exit → Act → World → Prop) : Nat → List Oper → List GF → Prop
  | i, o :: os, G :: Gs => HStep P l a ds Fs w0 Q i o G ∧ HSteps P l a ds Fs w0 Q (i + 1) os Gs
  | _, _, [] => True
  | _, [], _ :: _ => False
def GStable (w0 : World) (G : GF) : Prop := ∀ T w1 w2, w0.heap.size ≤ w1.heap.size → Below w1.heap.size w1 w2 → (∀ x ∈ T, x.2.2 ≤ w1.heap.size) → G T w1 → G T w2
def GStables (w0 : World) : List GF → Prop
  | [] => True
  | G :: Gs => GStable w0 G ∧ GStables w0 Gs
theorem gstables_at {w0 : World} : ∀ {Gs : List GF} (i : Nat), i < Gs.length → GStables w0 Gs → GStable w0 (Gs.getD i GFnone)
  | [], _, h, _ => by cases h
  | G :: Gs, 0, _, h => h.1
  | G :: Gs, i + 1, hi, h => gstables_at (Gs := Gs) i (by simpa using hi) h.2
theorem hsteps_at {P : Program} {l : List Oper} {a : Act} {ds : Nat → List Nat} {Fs : List GF} {w0 : World} {Q : Exit → Act → World → Prop} : ∀ {Gs : List GF} {os : List Oper} (k i : Nat) (o : Oper), i < Gs.length → os[i]? = some o → HSteps P l a ds Fs w0 Q k os Gs → HStep P l a ds Fs w0 Q (k + i) o (Gs.getD i GFnone)
  | [], _, _, _, _, h, _, _ => by cases h
  | G :: Gs, [], _, _, _, _, h, _ => by cases h
  | G :: Gs, o' :: os, k, 0, o, _, ho, h => by
    obtain rfl := Option.some.inj ho
    exact h.1
  | G :: Gs, o' :: os, k, i + 1, o, hi, ho, h => by
    have := hsteps_at (Gs := Gs) (os := os) (k + 1) i o (by simpa using hi) (by simpa using ho) h.2
    rwa [show k + 1 + i = k + (i + 1) by omega] at this
theorem wp_region_rgl {P : Program} {id : Nat} {a : Act} {w : World} {l : List Oper} {Q : Exit → Act → World → Prop} (ds : Nat → List Nat) (Fs : List GF) (hm : P.follows .mixedOrders = true) (hB : rgB l.toArray Fs.length = true) (hD : depB l.toArray Fs.length ds = true)
    (hst : GStables w Fs) (hs : HSteps P l a ds Fs w Q 0 l Fs)
    (ht : ∀ (u : Nat → Value) (s e : Nat → Nat) (w1 : World), Below w.heap.size w w1 → w.heap.size ≤ w1.heap.size → (∀ i, i < Fs.length → (Fs.getD i GFnone) (trio ds u s e i) w1 ∧ w.heap.size ≤ s i ∧ s i ≤ e i ∧ e i ≤ w1.heap.size) →
      (∀ j k, j < Fs.length → k < Fs.length → j ≠ k → e j ≤ s k ∨ e k ≤ s j) → (∀ k, k < Fs.length → ∀ j ∈ ds k, e j ≤ s k) → wpList P l.toArray Q (l.drop Fs.length) (putAll l a u Fs.length) w1) :
    (Code.region id l.toArray true).wp P Q a w := by
  have hB' := hB
  simp only [rgB, Bool.and_eq_true, decide_eq_true_eq] at hB'
  obtain ⟨⟨⟨⟨hn, _⟩, hdst⟩, _⟩, _⟩ := hB'
  have hdst' : ∀ j k, j < Fs.length → k < Fs.length → j ≠ k → ∀ d, dstOf l j = some d → dstOf l k ≠ some d := by
    intro j k hj hk hjk d hd
    have h1 := List.all_eq_true.1 hdst j (List.mem_range.2 hj)
    have h2 := List.all_eq_true.1 h1 k (List.mem_range.2 hk)
    simp only [Bool.or_eq_true, decide_eq_true_eq] at h2
    rcases h2 with h2 | h2
    · exact absurd h2 hjk
    · have e1 : (l.toArray[j]?).bind (·.dst) = some d := by simpa [dstOf] using hd
      rw [e1] at h2
      have h3 : (l.toArray[k]?).bind (·.dst) ≠ some d := by simpa using h2
      simpa [dstOf] using h3
  refine wp_region_rgh Fs.length ds (fun i => Fs.getD i GFnone) hm hB hD (fun i hi => gstables_at i hi hst) ?_ ht
  intro i o hi ho u s e w1 hb hz hd hor K hK
  have h := hsteps_at 0 i o hi ho hs
  rw [Nat.zero_add] at h
  refine h (putAll l a u Fs.length) u s e w1 ?_ ?_ hb hz hd hor K hK
  · intro t j hj htt
    have h1 := List.find?_some hj
    have h2 := List.mem_of_find?_eq_some hj
    have h1' : dstOf l j = some t := by simpa using h1
    exact eval_at h1' htt _ (List.mem_range.1 h2) (fun k hk hkj => hdst' j k (List.mem_range.1 h2) hk (Ne.symm hkj) t h1')
  · intro t hj
    refine eval_off _ (fun k hk hkt => ?_)
    have := List.find?_eq_none.1 hj k (List.mem_range.2 hk)
    simp [hkt] at this

theorem rd_at {A : Act} {t : Tmp} {v : Value} (h : A.eval (.tmp t) = v) : A.tmps[t]?.getD undef = v := by
  simpa [Act.eval] using h
/-- One component of a tuple. -/
def tupAt (v : Value) (i : Nat) : Value := match v with | .tuple cs => cs.getD i undef | _ => undef
/-- A cell of another block stays at a store. -/
theorem cellS {w : World} {b o g j : Nat} {v x : Value} (h : w.cell? ⟨b, o, none⟩ = some v) (hn : b ≠ g) : (w.setCell ⟨g, j, none⟩ x).cell? ⟨b, o, none⟩ = some v := by
  have h1 := Below.heap_setCell w ⟨g, j, none⟩ x b hn
  unfold World.cell? at h ⊢
  rw [h1]; exact h
/-- An operation that yields a value and turns nothing. -/
theorem op_val {P : Program} {o : Oper} {A : Act} {w : World} {K : Act → World → Prop} {Q : Exit → Act → World → Prop} (v : Value) (hr : (execOp A.eval o).run P w = .ok (.value v) w) (hk : K (A.put o.dst v) w) : o.wp P A w K Q := by
  unfold Oper.wp
  rw [hr]
  exact hk
theorem op_assign {P : Program} {o : Oper} {A : Act} {w : World} {K : Act → World → Prop} {Q : Exit → Act → World → Prop} (v : Value) (w' : World) (hr : (execOp A.eval o).run P w = .ok (.value v) w') (hk : K (A.put o.dst v) w') : o.wp P A w K Q := by
  unfold Oper.wp
  rw [hr]
  exact hk
theorem op_call {P : Program} {o : Oper} {A : Act} {w : World} {K : Act → World → Prop} {Q : Exit → Act → World → Prop} {tys : Array TypeId} {xs : Array Operand}
    (f : FuncId) (hop : o.op = Op.call { callee := Callee.value (Operand.func f), args := xs, argTypes := tys }) (fn : Func) (hf : P.funcs[f]? = some fn) (hn : (fn.name == "runtime.NumGoroutine") = false) (hb : fn.body.isNone = false) (args : Array Value) (ha' : xs.toList.map A.eval = args.toList)
    (h : Calls P f args w fun e w' => ∃ v, e = .returned v ∧ K (A.put o.dst v) w') : o.wp P A w K Q := by
  have ha : xs.map A.eval = args := by
    apply Array.ext'
    rw [Array.toList_map]
    exact ha'
  have hr : (execOp A.eval o).run P w = .ok (.enter f args) w := by
    have hn' : ¬ fn.name = "runtime.NumGoroutine" := by simpa using hn
    have hb' : ¬ fn.body = none := by intro h; rw [h] at hb; cases hb
    unfold execOp
    simp [go_sem, hop, ha, callFunc, hf, hn', hb']
  unfold Oper.wp
  rw [hr, Oper.upon_enter]
  refine h.mono ?_
  rintro e w' ⟨v, rfl, hk⟩
  exact hk
end Go.Proofs.Ytpgifgdoikhpbaa
