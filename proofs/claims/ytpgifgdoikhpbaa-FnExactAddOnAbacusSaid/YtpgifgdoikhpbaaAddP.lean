/- Adding on an abacus, in plain words; what a step may turn, told by the tags of blocks. No condition. -/
import Derived.Test.YtpgifgdoikhpbaaIsPl
import Derived.Test.YtpgifgdoikhpbaaMoves
import Derived.Test.YtpgifgdoikhpbaaApp
namespace Go.Proofs.Ytpgifgdoikhpbaa
open Go.RowKit

/-- The rod behind adding d to it; the move. -/
def toD (u t : Int) (q : Int × Int) (d : Int) : Int × Int := plD u t ((shw t q + d) % 10)
def mvD (u t : Int) (k : Nat) (q : Int × Int) (d : Int) : Int × Int × Int := ((k : Int), (toD u t q d).1 - q.1, (toD u t q d).2 - q.2)
/-- d is added at rod k, f rods being left from there on. -/
def addR (u t : Int) : Nat → List (Int × Int) → List (Int × Int × Int) → Nat → Int → Bool × List (Int × Int) × List (Int × Int × Int)
  | 0, xs, ms, _, d => (decide (d = 0), xs, ms)
  | f + 1, xs, ms, k, d => if d = 0 then (true, xs, ms) else addR u t f (xs.set k (toD u t (xs.getD k (0, 0)) d)) (ms ++ [mvD u t k (xs.getD k (0, 0)) d]) (k + 1) ((shw t (xs.getD k (0, 0)) + d) / 10)
theorem addR_zero (u t : Int) (f : Nat) (xs : List (Int × Int)) (ms : List (Int × Int × Int)) (k : Nat) : addR u t f xs ms k 0 = (true, xs, ms) := by cases f <;> simp [addR]
theorem addR_end {u t d : Int} (xs : List (Int × Int)) (ms : List (Int × Int × Int)) (k : Nat) (h : ¬ d = 0) : addR u t 0 xs ms k d = (false, xs, ms) := by simp [addR, h]
theorem addR_step {u t d : Int} {f k : Nat} {xs : List (Int × Int)} {ms : List (Int × Int × Int)} {q : Int × Int} (h : ¬ d = 0) (hq : xs[k]? = some q) :
    addR u t (f + 1) xs ms k d = addR u t f (xs.set k (toD u t q d)) (ms ++ [mvD u t k q d]) (k + 1) ((shw t q + d) / 10) := by
  simp [addR, h, List.getD_eq_getElem?_getD, hq]
theorem addR_len (u t : Int) : ∀ (f : Nat) (xs : List (Int × Int)) (ms : List (Int × Int × Int)) (k : Nat) (d : Int), (addR u t f xs ms k d).2.1.length = xs.length ∧ (addR u t f xs ms k d).2.2.length ≤ ms.length + f
  | 0, xs, ms, k, d => by simp [addR]
  | f + 1, xs, ms, k, d => by
    rw [addR]
    split
    · simp
    · have := addR_len u t f (xs.set k (toD u t (xs.getD k (0, 0)) d)) (ms ++ [mvD u t k (xs.getD k (0, 0)) d]) (k + 1) ((shw t (xs.getD k (0, 0)) + d) / 10)
      have h1 := this.1
      have h2 := this.2
      rw [List.length_set] at h1
      rw [List.length_append, List.length_singleton] at h2
      exact ⟨h1, by omega⟩
theorem pl_in {u o t d : Int} (h : kdB u o t = true) (d0 : 0 ≤ d) (d9 : d ≤ 9) : rodB u o (plD u t d) = true ∧ plnB u t (plD u t d) = true := by
  obtain ⟨⟨u0, u1⟩, ⟨o0, o1⟩, ⟨t0, t1⟩, h4, h5⟩ := kdB_parts h
  have e1 : t * (d / t) + d % t = d := Int.mul_ediv_add_emod d t
  have e2 : 0 ≤ d % t := Int.emod_nonneg _ (by omega)
  have e3 : d % t < t := Int.emod_lt_of_pos _ (by omega)
  have e4 : 0 ≤ d / t := Int.ediv_nonneg d0 (by omega)
  constructor
  · simp only [rodB, Bool.and_eq_true, betw_iff, plD]
    by_cases hc : d / t ≤ u
    · rw [Int.min_eq_right hc, Int.mul_comm (d / t) t]
      omega
    · rw [Int.min_eq_left (by omega)]
      have h6 : u * t ≤ (d / t) * t := Int.mul_le_mul_of_nonneg_right (by omega) (by omega)
      rw [Int.mul_comm (d / t) t] at h6
      omega
  · simp only [plnB, shw_plD]
    simp [d9]
theorem all_set {α : Type} {p : α → Bool} {xs : List α} {k : Nat} {q : α} (h : xs.all p = true) (hp : p q = true) : (xs.set k q).all p = true := by
  rw [List.all_eq_true] at h ⊢
  intro x hx
  rcases List.mem_or_eq_of_mem_set hx with hx | rfl
  · exact h x hx
  · exact hp
/-- Each rod of a valid abacus shows a digit in the plain way. -/
def goodA (u o t : Int) (xs : List (Int × Int)) : Prop := okA u o t xs = true ∧ plainB u t xs = true
theorem good_set {u o t d : Int} {xs : List (Int × Int)} (k : Nat) (h : goodA u o t xs) (d0 : 0 ≤ d) (d9 : d ≤ 9) : goodA u o t (xs.set k (plD u t d)) := by
  obtain ⟨hk, hr, hl⟩ := okA_parts h.1
  have hp := pl_in (o := o) hk d0 d9
  refine ⟨ok_yes hk (all_set ?_ hp.1) (by simp; exact betw_iff.2 (by omega)), ?_⟩
  · rw [List.all_eq_true]
    intro q hq
    have := hr q hq
    simp only [rodB, Bool.and_eq_true, betw_iff]
    exact this
  · rw [plain_def]
    exact all_set (by rw [← plain_def]; exact h.2) hp.2
theorem good_shw {u o t : Int} {xs : List (Int × Int)} {k : Nat} {q : Int × Int} (h : goodA u o t xs) (hq : xs[k]? = some q) : 0 ≤ shw t q ∧ shw t q ≤ 9 := by
  refine ⟨(shw_bd (okA_rod h.1 hq)).1, ?_⟩
  have := h.2
  rw [plain_def, List.all_eq_true] at this
  have := this q (List.mem_of_getElem? hq)
  simp only [plnB, Bool.and_eq_true, decide_eq_true_eq] at this
  exact this.1
/-- A rod behind adding a digit is in bounds. -/
theorem toD_in {u o t d : Int} {xs : List (Int × Int)} {k : Nat} {q : Int × Int} (h : goodA u o t xs) (hq : xs[k]? = some q) (hk : k < xs.length) : rodIn u o t (toD u t q d) := by
  have hg := good_set (d := (shw t q + d) % 10) k h (by omega) (by omega)
  refine okA_rod hg.1 (k := k) ?_
  rw [List.getElem?_set]
  simp [hk]
  rfl

/-- The decimal digits of a number, the lowest one first. -/
def dL (v : Nat) : List Int := if h : v = 0 then [] else ((v % 10 : Nat) : Int) :: dL (v / 10)
termination_by v
decreasing_by omega
theorem dL_zero : dL 0 = [] := by rw [dL, dif_pos rfl]
theorem dL_pos {v : Nat} (h : v ≠ 0) : dL v = ((v % 10 : Nat) : Int) :: dL (v / 10) := by rw [dL, dif_neg h]
theorem dL_len : ∀ (k v : Nat), v < 10 ^ k → (dL v).length ≤ k
  | 0, v, h => by
    obtain rfl : v = 0 := by simpa using h
    rw [dL_zero]; exact Nat.le_refl _
  | k + 1, v, h => by
    by_cases h0 : v = 0
    · subst h0; rw [dL_zero]; exact Nat.zero_le _
    · rw [dL_pos h0, List.length_cons]
      have := dL_len k (v / 10) (by rw [Nat.pow_succ] at h; omega)
      omega
theorem dL_bd (v : Nat) : ∀ x ∈ dL v, 0 ≤ x ∧ x ≤ 9 := by
  induction v using Nat.strongRecOn with
  | _ v ih =>
    by_cases h0 : v = 0
    · subst h0; rw [dL_zero]; intro x hx; simp at hx
    · rw [dL_pos h0]
      intro x hx
      rcases List.mem_cons.1 hx with rfl | hx
      · omega
      · exact ih (v / 10) (by omega) x hx
/-- The digits from place k - 1 down are added. -/
def addTo (u t : Int) (n : Nat) (ds : List Int) : Nat → List (Int × Int) → List (Int × Int × Int) → Bool × List (Int × Int) × List (Int × Int × Int)
  | 0, xs, ms => (true, xs, ms)
  | k + 1, xs, ms => if (addR u t (n - k) xs ms k (ds.getD k 0)).1 = true then addTo u t n ds k (addR u t (n - k) xs ms k (ds.getD k 0)).2.1 (addR u t (n - k) xs ms k (ds.getD k 0)).2.2 else addR u t (n - k) xs ms k (ds.getD k 0)
theorem addTo_yes {u t d : Int} {n k : Nat} {ds : List Int} {xs : List (Int × Int)} {ms : List (Int × Int × Int)} {r : Bool × List (Int × Int) × List (Int × Int × Int)} (hd : ds[k]? = some d) (hr : addR u t (n - k) xs ms k d = r) (h : r.1 = true) :
    addTo u t n ds (k + 1) xs ms = addTo u t n ds k r.2.1 r.2.2 := by
  have e : ds.getD k 0 = d := by rw [List.getD_eq_getElem?_getD, hd]; rfl
  rw [addTo, e, hr, if_pos h]
theorem addTo_no {u t d : Int} {n k : Nat} {ds : List Int} {xs : List (Int × Int)} {ms : List (Int × Int × Int)} {r : Bool × List (Int × Int) × List (Int × Int × Int)} (hd : ds[k]? = some d) (hr : addR u t (n - k) xs ms k d = r) (h : r.1 = false) :
    (addTo u t n ds (k + 1) xs ms).1 = false := by
  have e : ds.getD k 0 = d := by rw [List.getD_eq_getElem?_getD, hd]; rfl
  rw [addTo, e, hr, if_neg (by simp [h])]
  exact h
theorem addTo_len (u t : Int) (n : Nat) (ds : List Int) : ∀ (k : Nat) (xs : List (Int × Int)) (ms : List (Int × Int × Int)), (addTo u t n ds k xs ms).2.1.length = xs.length ∧ (addTo u t n ds k xs ms).2.2.length ≤ ms.length + n * k
  | 0, xs, ms => by simp [addTo]
  | k + 1, xs, ms => by
    rw [addTo]
    have h1 := addR_len u t (n - k) xs ms k (ds.getD k 0)
    have h3 : n * (k + 1) = n * k + n := by rw [Nat.mul_add, Nat.mul_one]
    split
    · have h2 := addTo_len u t n ds k (addR u t (n - k) xs ms k (ds.getD k 0)).2.1 (addR u t (n - k) xs ms k (ds.getD k 0)).2.2
      exact ⟨by rw [h2.1, h1.1], by omega⟩
    · exact ⟨h1.1, by omega⟩
def adR (u t : Int) (xs : List (Int × Int)) (v : Int) : Bool × List (Int × Int) × List (Int × Int × Int) := addTo u t xs.length (dL v.toNat) (dL v.toNat).length xs []
def adK (u o t : Int) (xs : List (Int × Int)) (v : Int) : Bool := okA u o t xs && (betwB v 0 1000000000000 && (ipB u o t xs && (adR u t xs v).1))
def adC (u o t : Int) (xs : List (Int × Int)) (v : Int) : Int := if okA u o t xs then (if betwB v 0 1000000000000 then (if ipB u o t xs then (if (adR u t xs v).1 then 0 else 5) else 6) else 2) else 1
def adX (u o t : Int) (xs : List (Int × Int)) (v : Int) : List (Int × Int) := if adK u o t xs v then (adR u t xs v).2.1 else []
def adN (u o t : Int) (xs : List (Int × Int)) (v : Int) : Nat := if adK u o t xs v then xs.length else 0
def adM (u o t : Int) (xs : List (Int × Int)) (v : Int) : List (Int × Int × Int) := if adK u o t xs v then (adR u t xs v).2.2 else []
def adMN (u o t : Int) (xs : List (Int × Int)) (v : Int) : Nat := if adK u o t xs v then (adR u t xs v).2.2.length else 0
theorem adN_le (u o t : Int) (xs : List (Int × Int)) (v : Int) : adN u o t xs v ≤ 1073741824 := by
  unfold adN
  split
  · rename_i h
    simp only [adK, Bool.and_eq_true] at h
    have := (okA_parts h.1).2.2.2
    omega
  · omega
theorem adMN_le (u o t : Int) (xs : List (Int × Int)) (v : Int) : adMN u o t xs v ≤ 1073741824 := by
  unfold adMN
  split
  · rename_i h
    simp only [adK, Bool.and_eq_true, betw_iff] at h
    have h1 := (okA_parts h.1).2.2.2
    have h2 := (addTo_len u t xs.length (dL v.toNat) (dL v.toNat).length xs []).2
    have h3 := dL_len 13 v.toNat (by have := h.2.1.2; omega)
    have h4 : xs.length * (dL v.toNat).length ≤ 10 * 13 := Nat.mul_le_mul h1 h3
    unfold adR
    simp at h2
    omega
  · omega
def RetAdd (w : World) (u o t : Int) (xs : List (Int × Int)) (v : Int) (x : Ending) (w' : World) : Prop :=
  ∃ s s' mid, x = .returned (.tuple #[.agg #[.int .i64 (pkI (adK u o t xs v) u), .int .i64 (pkI (adK u o t xs v) o), .int .i64 (pkI (adK u o t xs v) t), s], s', .int .i64 (adC u o t xs v)]) ∧
    Own w' w.heap.size mid 69 2 s (adN u o t xs v) (flat encPair (adX u o t xs v)) ∧ Own w' mid w'.heap.size 41 3 s' (adMN u o t xs v) (flat encTrip (adM u o t xs v)) ∧ w.heap.size ≤ mid ∧ mid ≤ w'.heap.size ∧ Below w.heap.size w w'
theorem add_no {w w' : World} {u o t v c : Int} {xs : List (Int × Int)} (hk : adK u o t xs v = false) (hc : adC u o t xs v = c) (hb : Below w.heap.size w w') :
    RetAdd w u o t xs v (.returned (.tuple #[.agg #[.int .i64 0, .int .i64 0, .int .i64 0, .slice none 0 0], .slice none 0 0, .int .i64 c])) w' := by
  refine ⟨.slice none 0 0, .slice none 0 0, w.heap.size, ?_, ?_, ?_, Nat.le_refl _, hb.size, hb⟩
  · simp [pkI, hk, hc]
  · simp only [adN, adX, hk]
    exact Own.nil _ _ _ _ _
  · simp only [adMN, adM, hk]
    exact Own.nil _ _ _ _ _
theorem add_yes {w w' : World} {u o t v : Int} {xs ys : List (Int × Int)} {ms : List (Int × Int × Int)} {s s' : Value} {n m mid : Nat} (h1 : okA u o t xs = true) (h2 : betwB v 0 1000000000000 = true) (h3 : ipB u o t xs = true) (hl : xs.length = n) (hm : ms.length = m) (hr : adR u t xs v = (true, ys, ms))
    (ho : Own w' w.heap.size mid 69 2 s n (flat encPair ys)) (hp : Own w' mid w'.heap.size 41 3 s' m (flat encTrip ms)) (a : w.heap.size ≤ mid) (b : mid ≤ w'.heap.size) (hb : Below w.heap.size w w') :
    RetAdd w u o t xs v (.returned (.tuple #[.agg #[.int .i64 u, .int .i64 o, .int .i64 t, s], s', .int .i64 0])) w' := by
  have hk : adK u o t xs v = true := by simp [adK, h1, h2, h3, hr]
  refine ⟨s, s', mid, ?_, ?_, ?_, a, b, hb⟩
  · simp [pkI, hk, adC, h1, h2, h3, hr]
  · simp only [adN, adX, hk, if_true, hr, hl]
    exact ho
  · simp only [adMN, adM, hk, if_true, hr, hm]
    exact hp
theorem ad_1 {u o t v : Int} {xs : List (Int × Int)} (h : okA u o t xs = false) : adK u o t xs v = false ∧ adC u o t xs v = 1 := by simp [adK, adC, h]
theorem ad_2 {u o t v : Int} {xs : List (Int × Int)} (h : okA u o t xs = true) (h2 : betwB v 0 1000000000000 = false) : adK u o t xs v = false ∧ adC u o t xs v = 2 := by simp [adK, adC, h, h2]
theorem ad_6 {u o t v : Int} {xs : List (Int × Int)} (h : okA u o t xs = true) (h2 : betwB v 0 1000000000000 = true) (h3 : ipB u o t xs = false) : adK u o t xs v = false ∧ adC u o t xs v = 6 := by simp [adK, adC, h, h2, h3]
theorem ad_5 {u o t v : Int} {xs : List (Int × Int)} (h : okA u o t xs = true) (h2 : betwB v 0 1000000000000 = true) (h3 : ipB u o t xs = true) (h4 : (adR u t xs v).1 = false) : adK u o t xs v = false ∧ adC u o t xs v = 5 := by simp [adK, adC, h, h2, h3, h4]

/-! ### What a step may turn, told by tags -/
def tg (T : TypeId) : Prop := T = 69 ∨ T = 41 ∨ T = 89
def Keep (w w' : World) : Prop := ∀ (b : Nat) (X : Array Value) (T : TypeId) (fz : Nat × Nat), w.heap[b]? = some (Obj.cells X T fz) → ¬ tg T → w'.heap[b]? = some (Obj.cells X T fz)
theorem Keep.refl (w : World) : Keep w w := fun _ _ _ _ h _ => h
theorem Keep.trans {a b c : World} (h : Keep a b) (k : Keep b c) : Keep a c := fun i X T fz h1 h2 => k i X T fz (h i X T fz h1 h2) h2
theorem Keep.bel {w w' : World} (hb : Below w.heap.size w w') : Keep w w' := fun b X T fz h _ => (hb.block b (Array.getElem?_eq_some_iff.1 h).1).trans h
theorem Keep.set_ {w : World} {g : Nat} {T : TypeId} {cs : Array Value} (hB : Blk w g T cs) (hT : tg T) (i : Nat) (u : Value) : Keep w (w.setCell ⟨g, i, none⟩ u) := by
  intro b X T' fz h hn
  refine (Below.heap_setCell w ⟨g, i, none⟩ u b ?_).trans h
  rintro rfl
  unfold Blk at hB
  rw [hB] at h
  injection h with h
  injection h with _ h
  subst h
  exact hn hT
theorem Keep.grown {w w' : World} {lo size n : Nat} {e : TypeId} {v : Value} {xs : List Value} (ho : w.ownsRow lo e size v n xs) (hg : w.grownBy w' v.ownBlock) (he : tg e) : Keep w w' := by
  intro b X T' fz h hn
  refine (hg.block b (Array.getElem?_eq_some_iff.1 h).1 ?_).trans h
  intro hb
  rcases ho.2 with ⟨rfl, _⟩ | ⟨g, cap, cur, rfl, _, hh, _⟩
  · simp [Value.ownBlock] at hb
  · have : g = b := by simpa [Value.ownBlock] using hb.symm
    subst this
    rw [hh] at h
    injection h with h
    injection h with _ h
    subst h
    exact hn he
theorem Keep.stored {w : World} {lo hi size n g c : Nat} {e : TypeId} {xs : List Value} (ho : Own w lo hi e size (.slice (some ⟨g, 0, none⟩) n c) n xs) (he : tg e) (j : Nat) (u : Value) : Keep w (w.setCell ⟨g, j, none⟩ u) :=
  Keep.grown ho.row (by simpa [Value.ownBlock] using (ho.row.stored j u).2) he
theorem Own.keep {w w' : World} {lo hi size n : Nat} {e : TypeId} {v : Value} {xs : List Value} (ho : Own w lo hi e size v n xs) (hk : Keep w w') (he : ¬ tg e) : Own w' lo hi e size v n xs := by
  refine ⟨⟨ho.row.1, ?_⟩, ho.top⟩
  rcases ho.row.2 with hn | ⟨g, cap, cur, rfl, hb, hg, rest⟩
  · exact .inl hn
  · exact .inr ⟨g, cap, cur, rfl, hb, hk g _ _ _ hg he, rest⟩
section
variable {P : Program} {t e : TypeId} {size lo hi n g c : Nat} {v : Value} {xs : List Value} {cs : Array Value} {w : World} {o : Oper} {a : Act} {Q : Exit → Act → World → Prop}
theorem wp_app1g {K : Act → World → Prop} (s x : Operand) (ho : o.op = .call { callee := .builtin .append, args := #[s, x], argTypes := #[t, t] }) (hE : Elt P t e size)
    (hs : a.eval s = v) (hown : Own w lo hi e size v n xs) (hx : a.eval x = .slice (some ⟨g, 0, none⟩) 1 c) (hb : Blk w g e cs) (hcs : cs.size = size) (h1 : ∀ u ∈ cs.toList, u.oneCell' = true) (hn : n ≤ 1073741824) (hlo : lo ≤ w.heap.size)
    (h : ∀ (A : Option Addr) (c' : Nat) (w' : World), Own w' lo w'.heap.size e size (.slice A (n + 1) c') (n + 1) (xs ++ cs.toList) → Touch lo hi w w' → w.grownBy w' v.ownBlock → K (a.put o.dst (.slice A (n + 1) c')) w') : o.wp P a w K Q := by
  obtain ⟨i, z, bytes, ht, hi', hz, hsize, hby, hzs, hpos, h64⟩ := hE
  refine wp_append_lies w s x t ho lo e i z size bytes ht hi' hz hsize hby hzs hpos v n xs hs hown.row ⟨g, 0, none⟩ 1 c cs.toList hx (by simp [hcs]) (World.news_of_block hb) h1 (by omega) (by unfold maxLen; omega) ?_ hlo w.heap.size rfl ?_
  · have : (n + 1) * bytes ≤ 1073741825 * 64 := Nat.mul_le_mul (by omega) h64
    omega
  · intro g' cap w' hr hg _ hlt
    exact h _ _ _ ⟨hr, fun k hk => by simp [Value.ownBlock] at hk; omega⟩ (Touch.of_grown hg (fun k hk => ⟨(hown.row.lt k hk).1, hown.top k hk⟩)) hg
theorem step_app1g {ops : Array Oper} {K : Act → World → Prop} {E : Prop} (hgd : o.guard = none) (s x : Operand) (ho : o.op = .call { callee := .builtin .append, args := #[s, x], argTypes := #[t, t] }) (hE : Elt P t e size)
    (hs : a.eval s = v) (hown : Own w lo hi e size v n xs) (hx : a.eval x = .slice (some ⟨g, 0, none⟩) 1 c) (hb : Blk w g e cs) (hcs : cs.size = size) (h1 : ∀ u ∈ cs.toList, u.oneCell' = true) (hn : n ≤ 1073741824) (hlo : lo ≤ w.heap.size)
    (h : ∀ (A : Option Addr) (c' : Nat) (w' : World), Own w' lo w'.heap.size e size (.slice A (n + 1) c') (n + 1) (xs ++ cs.toList) → Touch lo hi w w' → w.grownBy w' v.ownBlock → K (a.put o.dst (.slice A (n + 1) c')) w') :
    if Region.wanted o (yielded ops a.tmps) = true then Oper.wp P o a w K Q else E := by
  have hw : Region.wanted o (yielded ops a.tmps) = true := by simp [Region.wanted, hgd]
  rw [if_pos hw]
  exact wp_app1g s x ho hE hs hown hx hb hcs h1 hn hlo h
end
theorem eltMv : Elt Try.prog 52 41 3 := by
  obtain ⟨i0, hi, hz0, hz1, hz2⟩ := info_parts infoBeadMove
  exact ⟨i0, _, _, Try.underlying52, hi, hz0, hz1, hz2, rfl, by decide, by decide⟩
theorem three_ints (a b c : Int) : ∀ u ∈ (#[Value.int .i64 a, .int .i64 b, .int .i64 c] : Array Value).toList, u.oneCell' = true := by intro u hu; simp at hu; rcases hu with rfl | rfl | rfl <;> rfl
end Go.Proofs.Ytpgifgdoikhpbaa
