/- Words for memory: a slice that reads as a list, a block known whole, what the call made. No condition. -/
import Derived.WalkKit
import Derived.WalkSpells
import Derived.WalkLawsBesides
import Derived.Deep.RegionHeld3
import Derived.Deep.AppendLies
import Derived.Deep.Draws
import Derived.Deep.QuietTactic
import Derived.Deep.DeepCutAuto
import Derived.Deep.LoopGhost
import Derived.Lib.Hide
import Derived.Laws.OwnMore
import Derived.Laws.Rows
import Derived.Laws.MakeOwn
namespace Go.Proofs.Ytpgifgdoikhpbaa
open Go.RowKit

theorem block_of_add (a : Addr) (n : Nat) : (a.add n).block = a.block := by unfold Addr.add; split <;> rfl
theorem add_of_add (a : Addr) (i j : Nat) : (a.add i).add j = a.add (i + j) := by
  unfold Addr.add
  by_cases hi : i = 0 <;> by_cases hj : j = 0 <;> simp [hi, hj, Nat.add_assoc]

def Reads (w : World) (B size : Nat) (A : Option Addr) (n : Nat) (xs : List Value) : Prop :=
  xs.length = n * size ∧ (0 < n → ∃ ad, A = some ad ∧ ad.block < B ∧ ∀ j u, xs[j]? = some u → w.cell? (ad.add j) = some u)

section
variable {w w' : World} {B B' size n : Nat} {A : Option Addr} {xs : List Value}
theorem Reads.none_ : Reads w B size A 0 [] := ⟨by simp, fun h => absurd h (by omega)⟩
theorem Reads.at_ {k : Nat} (h : Reads w B 1 A n xs) (hk : k < n) : ∃ ad u, A = some ad ∧ ad.block < B ∧ xs[k]? = some u ∧ w.cell? (ad.add k) = some u := by
  obtain ⟨ad, e, hb, hc⟩ := h.2 (by omega)
  have hl : k < xs.length := by have := h.1; omega
  exact ⟨ad, xs[k], e, hb, List.getElem?_eq_getElem hl, hc k _ (List.getElem?_eq_getElem hl)⟩
theorem Reads.keep (h : Reads w B size A n xs) (hk : ∀ p : Addr, p.block < B → w'.cell? p = w.cell? p) : Reads w' B size A n xs :=
  ⟨h.1, fun hn => by
    obtain ⟨ad, e, hb, hc⟩ := h.2 hn
    exact ⟨ad, e, hb, fun j u hu => (hk _ (by rw [block_of_add]; exact hb)).trans (hc j u hu)⟩⟩
theorem Reads.more (h : Reads w B size A n xs) (hB : B ≤ B') : Reads w B' size A n xs :=
  ⟨h.1, fun hn => by
    obtain ⟨ad, e, hb, hc⟩ := h.2 hn
    exact ⟨ad, e, by omega, hc⟩⟩
theorem Reads.below (h : Reads w B size A n xs) (hb : Below B w w') : Reads w' B size A n xs := h.keep fun _ hp => hb.cell hp
theorem Reads.drew (h : Reads w B size A n xs) : Reads w.drew B size A n xs := h
theorem Reads.drewN (h : Reads w B size A n xs) (k : Nat) : Reads (w.drewN k) B size A n xs := h
theorem Reads.alloc (h : Reads w B size A n xs) (hB : B ≤ w.heap.size) (o : Obj) : Reads (w.alloc o) B size A n xs := h.keep fun p hp => World.cell?_alloc_lt w o p (by omega)
theorem Reads.setCell (h : Reads w B size A n xs) {p : Addr} (hB : B ≤ p.block) (u : Value) : Reads (w.setCell p u) B size A n xs :=
  h.keep fun q hq => World.cell?_setCell_other w p q u (fun e => by subst e; omega)
theorem Reads.grown (h : Reads w B size A n xs) {row : Option Nat} (hg : w.grownBy w' row) (hB : B ≤ w.heap.size) (hr : ∀ g, row = some g → B ≤ g) : Reads w' B size A n xs :=
  h.keep fun p hp => World.cell?_of_block (hg.block p.block (by omega) (fun e => by have := hr _ e.symm; omega))
theorem Reads.cut (h : Reads w B size A n xs) {k cap : Nat} (hk : k ≤ n) (hc : n ≤ cap) :
    Reads w B size (if cap = k then A else A.map (·.add (k * size))) (n - k) (xs.drop (k * size)) := by
  refine ⟨by rw [List.length_drop, h.1, Nat.sub_mul], fun hn => ?_⟩
  obtain ⟨ad, rfl, hb, hcell⟩ := h.2 (by omega)
  rw [if_neg (by omega)]
  refine ⟨ad.add (k * size), rfl, by rw [block_of_add]; exact hb, fun j u hu => ?_⟩
  rw [add_of_add]
  exact hcell _ u (by rw [← hu, List.getElem?_drop])
theorem Reads.of_own {base : Nat} {e : TypeId} {c : Nat} (h : w.ownsRow base e size (.slice A n c) n xs) : Reads w w.heap.size size A n xs := by
  refine ⟨h.1, fun hn => ?_⟩
  obtain ⟨g, cap, hv, _, hlt⟩ := h.form hn
  have hA : A = some ⟨g, 0, none⟩ := by injection hv
  subst hA
  exact ⟨_, rfl, hlt, h.cells (g := g) rfl⟩
end

def Blk (w : World) (g : Nat) (t : TypeId) (cs : Array Value) : Prop := w.heap[g]? = some (.cells cs t (0, 0))

section
variable {w w' : World} {g : Nat} {t : TypeId} {cs : Array Value}
theorem Blk.lt (h : Blk w g t cs) : g < w.heap.size := by
  rcases Nat.lt_or_ge g w.heap.size with hlt | hge
  · exact hlt
  · unfold Blk at h; rw [Array.getElem?_eq_none hge] at h; cases h
theorem Blk.cell (h : Blk w g t cs) (i : Nat) : w.cell? ⟨g, i, none⟩ = cs[i]? := cell_of_row w g i cs t (0, 0) h
theorem Blk.frozen (h : Blk w g t cs) (i : Nat) : w.frozen? ⟨g, i, none⟩ = false := by
  unfold Blk at h
  simp [World.frozen?, h]
theorem Blk.new (w : World) (t : TypeId) (cs : Array Value) : Blk (w.alloc (.cells cs t)) w.heap.size t cs := heap_alloc_new w _
theorem Blk.drew (h : Blk w g t cs) : Blk w.drew g t cs := h
theorem Blk.drewN (h : Blk w g t cs) (n : Nat) : Blk (w.drewN n) g t cs := h
theorem Blk.alloc (h : Blk w g t cs) (o : Obj) : Blk (w.alloc o) g t cs := (Below.heap_alloc w o g h.lt).trans h
theorem Blk.set_ (h : Blk w g t cs) (i : Nat) (u : Value) : Blk (w.setCell ⟨g, i, none⟩ u) g t (cs.setIfInBounds i u) := by
  unfold Blk at h ⊢
  simp [World.setCell, Array.getElem?_modify, h]
theorem Blk.far (h : Blk w g t cs) {p : Addr} (hp : g ≠ p.block) (u : Value) : Blk (w.setCell p u) g t cs := (Below.heap_setCell w p u g hp).trans h
theorem Blk.below {B : Nat} (h : Blk w g t cs) (hb : Below B w w') (hg : g < B) : Blk w' g t cs := (hb.block g hg).trans h
theorem Blk.grown {row : Option Nat} (h : Blk w g t cs) (hb : w.grownBy w' row) (hg : some g ≠ row) : Blk w' g t cs := (hb.block g h.lt hg).trans h
theorem Blk.ne_ {g' : Nat} {t' : TypeId} {cs' : Array Value} (h : Blk w g t cs) (h' : Blk w g' t' cs') (hne : t ≠ t') : g ≠ g' := by
  rintro rfl
  unfold Blk at h h'
  rw [h] at h'
  injection h' with h'
  injection h' with _ ht
  exact hne ht
theorem own_blk_ne {base : Nat} {e : TypeId} {size n : Nat} {v : Value} {xs : List Value} (h : w.ownsRow base e size v n xs) (hg : Blk w g t cs) (hne : e ≠ t) : v.ownBlock ≠ some g := by
  rcases h.2 with ⟨rfl, _⟩ | ⟨g', cap, cur, rfl, _, hh, _⟩
  · simp [Value.ownBlock]
  · intro he
    have : g' = g := by simpa [Value.ownBlock] using he
    subst this
    exact Blk.ne_ (t := e) hh hg hne rfl
end

theorem run_make_rowN {P : Program} (t e : TypeId) (i : TypeInfo) (z : Value) (ht : P.underlying t = some (.slice e)) (hi : P.info? e = some i) (hz : i.zero = some z)
    (kl kc : IntKind) (n c : Nat) (hnc : n ≤ c) (hbytes : i.bytes * c ≤ 281474976710656) (h63 : c ≤ 9223372036854775807) (w : World) :
    (Instr.makeSlice t (.int kl (n : Int)) (.int kc (c : Int))).run P w = .ok (.slice (some ⟨w.heap.size, 0, none⟩) n c) (w.alloc (.cells (madeCells z.cells (c * i.size)) e)) := by
  have hb : (i.bytes : Int) * (c : Int) ≤ 281474976710656 := by
    have h : ((i.bytes * c : Nat) : Int) ≤ 281474976710656 := by omega
    rwa [Int.natCast_mul] at h
  have hr := run_make (P := P) w t e i z ht hi hz kl kc n c (by omega) (by omega) hb (by omega)
  simp only [Int.toNat_natCast] at hr
  exact hr

/-! ### Worlds -/
theorem bcell {W w1 : World} (hb : Below W.heap.size W w1) : (∀ b o, b < W.heap.size → w1.cell? ⟨b, o, none⟩ = W.cell? ⟨b, o, none⟩) ∧ (∀ b o, b < W.heap.size → w1.frozen? ⟨b, o, none⟩ = W.frozen? ⟨b, o, none⟩) :=
  ⟨fun b o h => hb.cell (p := ⟨b, o, none⟩) h, fun b o h => hb.frozen (p := ⟨b, o, none⟩) h⟩

theorem cellB {W W' : World} {a : Addr} {v : Value} (c : W.cell? a = some v) (hb : Below W.heap.size W W') : W'.cell? a = some v :=
  (hb.cell (p := a) (World.block_lt_of_cell? W _ c)).trans c
theorem cellA {W : World} {a : Addr} {v : Value} (c : W.cell? a = some v) (X : Obj) : (W.alloc X).cell? a = some v :=
  cellB c ((Below.refl _ _).alloc (Nat.le_refl _) X)
/-- For a call in a region that draws its order: a contract that leaves the world alone, its value spelled as it is known. -/
theorem quietB {P : Program} {f : FuncId} {args : Array Value} {w : World} {n : Nat} {b b' : Bool} (h : Calls P f args (w.drewN n) fun e w' => e = .returned (.bool b) ∧ w.drewN n = w') (hb : b = b') :
    Calls P f args (w.drewN n) fun e w'' => e = .returned (.bool b') ∧ ∃ m, w'' = w.drewN m := h.mono fun _ _ ⟨he, hw⟩ => ⟨by rw [he, hb], n, hw.symm⟩
theorem quietI {P : Program} {f : FuncId} {args : Array Value} {w : World} {n : Nat} {b b' : Int} (h : Calls P f args (w.drewN n) fun e w' => e = .returned (.int .i64 b) ∧ w.drewN n = w') (hb : b = b') :
    Calls P f args (w.drewN n) fun e w'' => e = .returned (.int .i64 b') ∧ ∃ m, w'' = w.drewN m := h.mono fun _ _ ⟨he, hw⟩ => ⟨by rw [he, hb], n, hw.symm⟩
theorem belN {B : Nat} {a w : World} (h : Below B a w) (n : Nat) : Below B a (w.drewN n) := ⟨h.os, h.tape, h.output, h.size, h.block⟩
/-- Two steps, each with at most new blocks. -/
theorem bel2 {a b c : World} (h : Below a.heap.size a b) (k : Below b.heap.size b c) : Below a.heap.size a c := h.trans (k.mono h.size)


/-! ### What the call made: between two block numbers; what a step may turn -/
/-- From w to w' only blocks from lo to hi, and new ones, have turned. -/
structure Touch (lo hi : Nat) (w w' : World) : Prop where
  os : w'.os = w.os
  tape : w'.tape = w.tape
  output : w'.output = w.output
  size : w.heap.size ≤ w'.heap.size
  block : ∀ k, k < w.heap.size → (k < lo ∨ hi ≤ k) → w'.heap[k]? = w.heap[k]?

theorem Touch.of_below {w w' : World} (lo hi : Nat) (h : Below w.heap.size w w') : Touch lo hi w w' := ⟨h.os, h.tape, h.output, h.size, fun k hk _ => h.block k hk⟩
theorem Touch.of_grown {lo hi : Nat} {w w' : World} {row : Option Nat} (h : w.grownBy w' row) (hr : ∀ k, row = some k → lo ≤ k ∧ k < hi) : Touch lo hi w w' :=
  ⟨h.os, h.tape, h.output, h.size, fun k hk hd => h.block k hk (fun e => by have := hr k e.symm; omega)⟩
theorem Touch.below {lo hi B : Nat} {a w w' : World} (h : Below B a w) (t : Touch lo hi w w') (hB : B ≤ w.heap.size) (hlo : B ≤ lo) : Below B a w' :=
  h.trans ⟨t.os, t.tape, t.output, t.size, fun k hk => t.block k (by omega) (.inl (by omega))⟩
theorem Touch.trans {lo hi : Nat} {a b c : World} (h : Touch lo hi a b) (k : Touch lo hi b c) : Touch lo hi a c :=
  ⟨k.os.trans h.os, k.tape.trans h.tape, k.output.trans h.output, Nat.le_trans h.size k.size, fun i hi hd => (k.block i (Nat.lt_of_lt_of_le hi h.size) hd).trans (h.block i hi hd)⟩

theorem cellT {W W' : World} {g o lo hi : Nat} {v : Value} (c : W.cell? ⟨g, o, none⟩ = some v) (t : Touch lo hi W W') (hd : g < lo ∨ hi ≤ g) : W'.cell? ⟨g, o, none⟩ = some v :=
  (World.cell?_of_block (w := W) (w' := W') (a := ⟨g, o, none⟩) (t.block g (World.block_lt_of_cell? W _ c) hd)).trans c
/-- A world is given a name ahead of a call. -/
theorem absW {P : Program} {f : FuncId} {args : Array Value} {W : World} {Q : Ending → World → Prop} (h : ∀ W', W' = W → Calls P f args W' Q) : Calls P f args W Q := h W rfl
theorem absC {P : Program} {c : Code} {Q : Exit → Act → World → Prop} {a : Act} {W : World} (h : ∀ W', W' = W → Code.wp P c Q a W') : Code.wp P c Q a W := h W rfl
theorem rdB {w w' : World} {size n : Nat} {A : Option Addr} {xs : List Value} (r : Reads w w.heap.size size A n xs) (hb : Below w.heap.size w w') : Reads w' w'.heap.size size A n xs := (r.below hb).more hb.size
/-- The slice value v, of n elements, holds the cells xs, in a block from lo to hi (or is nil). -/
structure Own (w : World) (lo hi : Nat) (e : TypeId) (size : Nat) (v : Value) (n : Nat) (xs : List Value) : Prop where
  row : w.ownsRow lo e size v n xs
  top : ∀ k, v.ownBlock = some k → k < hi

section
variable {w w' : World} {lo hi lo' hi' : Nat} {e : TypeId} {size n : Nat} {v : Value} {xs : List Value}
theorem Own.of_row (h : w.ownsRow lo e size v n xs) : Own w lo w.heap.size e size v n xs := ⟨h, fun k hk => (h.lt k hk).2⟩
theorem Own.touch (h : Own w lo hi e size v n xs) (t : Touch lo' hi' w w') (hd : hi ≤ lo' ∨ hi' ≤ lo) : Own w' lo hi e size v n xs := by
  refine ⟨⟨h.row.1, ?_⟩, h.top⟩
  rcases h.row.2 with hn | ⟨g, cap, cur, rfl, hb, hg, rest⟩
  · exact .inl hn
  · have hlt := (Array.getElem?_eq_some_iff.1 hg).1
    have htop := h.top g rfl
    exact .inr ⟨g, cap, cur, rfl, hb, (t.block g hlt (by omega)).trans hg, rest⟩
theorem Own.bel (h : Own w lo hi e size v n xs) (hb : Below w.heap.size w w') : Own w' lo hi e size v n xs :=
  h.touch (Touch.of_below hi hi hb) (.inl (Nat.le_refl _))
theorem Own.reads {A : Option Addr} {c : Nat} (h : Own w lo hi e size (.slice A n c) n xs) : Reads w w.heap.size size A n xs := Reads.of_own h.row
theorem Own.more (h : Own w lo hi e size v n xs) (h1 : lo' ≤ lo) (h2 : hi ≤ hi') : Own w lo' hi' e size v n xs :=
  ⟨⟨h.row.1, h.row.2.imp id (fun ⟨g, cap, cur, a, b, r⟩ => ⟨g, cap, cur, a, by omega, r⟩)⟩, fun k hk => by have := h.top k hk; omega⟩
/-- The shape of the value. -/
theorem Own.form (h : Own w lo hi e size v n xs) : ∃ (A : Option Addr) (c : Nat), v = .slice A n c ∧ n ≤ c ∧ c ≤ maxLen := by
  rcases h.row.2 with ⟨rfl, rfl⟩ | ⟨g, cap, cur, rfl, _, _, h1, h2, _⟩
  · exact ⟨none, 0, rfl, Nat.le_refl _, Nat.zero_le _⟩
  · exact ⟨_, cap, rfl, h1, h2⟩
/-- An element's cell, and that it may be written. -/
theorem Own.at_ {A : Option Addr} {c : Nat} (h : Own w lo hi e size (.slice A n c) n xs) (hn : 0 < n) : ∃ g, A = some ⟨g, 0, none⟩ ∧ lo ≤ g ∧ g < hi ∧ g < w.heap.size ∧ (∀ j, j < n * size → w.cell? ⟨g, j, none⟩ = xs[j]?) ∧ (∀ j, w.frozen? ⟨g, j, none⟩ = false) := by
  rcases h.row.2 with ⟨hv, h0⟩ | ⟨g, cap, cur, hv, hb, hg, r⟩
  · omega
  · injection hv with hA _ hc
    subst hA hc
    exact ⟨g, rfl, hb, h.top g rfl, (Array.getElem?_eq_some_iff.1 hg).1, fun j hj => h.row.cellAt j hj, fun j => h.row.frozenAt j⟩
theorem Own.stored {g c : Nat} (h : Own w lo hi e size (.slice (some ⟨g, 0, none⟩) n c) n xs) (j : Nat) (u : Value) : Own (w.setCell ⟨g, j, none⟩ u) lo hi e size (.slice (some ⟨g, 0, none⟩) n c) n (xs.set j u) :=
  ⟨(h.row.stored j u).1, h.top⟩
theorem Own.stored_touch {g c : Nat} (h : Own w lo hi e size (.slice (some ⟨g, 0, none⟩) n c) n xs) (j : Nat) (u : Value) : Touch lo hi w (w.setCell ⟨g, j, none⟩ u) :=
  Touch.of_grown (h.row.stored j u).2 (fun k hk => by injection hk with hk; subst hk; exact ⟨(h.row.lt g rfl).1, h.top g rfl⟩)
theorem Touch.setCell (w : World) (p : Addr) (u : Value) : Touch p.block (p.block + 1) w (w.setCell p u) :=
  ⟨rfl, rfl, rfl, by simp [World.setCell], fun k _ hd => Below.heap_setCell _ _ _ _ (by omega)⟩
theorem Own.setLow (h : Own w lo hi e size v n xs) {p : Addr} (hp : p.block < lo ∨ hi ≤ p.block) (u : Value) : Own (w.setCell p u) lo hi e size v n xs :=
  h.touch (Touch.setCell w p u) (by omega)
theorem Own.alloc (h : Own w lo hi e size v n xs) (o : Obj) : Own (w.alloc o) lo hi e size v n xs := h.bel ((Below.refl _ _).alloc (Nat.le_refl _) o)
theorem Own.drew (h : Own w lo hi e size v n xs) : Own w.drew lo hi e size v n xs := h.bel (Below.refl _ _).drew
theorem Blk.touch {g : Nat} {t : TypeId} {cs : Array Value} (h : Blk w g t cs) (k : Touch lo hi w w') (hd : g < lo ∨ hi ≤ g) : Blk w' g t cs := (k.block g h.lt hd).trans h
theorem Blk.bel {g : Nat} {t : TypeId} {cs : Array Value} (h : Blk w g t cs) (hb : Below w.heap.size w w') : Blk w' g t cs := h.below hb h.lt
theorem Blk.own {g n : Nat} {t : TypeId} {cs : Array Value} (h : Blk w g t cs) (hm : n ≤ maxLen) (hs : cs.size = n * size) : Own w g (g + 1) t size (.slice (some ⟨g, 0, none⟩) n n) n cs.toList :=
  ⟨⟨by simpa using hs, .inr ⟨g, n, cs, rfl, Nat.le_refl _, h, Nat.le_refl _, hm, hs, by rw [← hs, List.take_of_length_le (by simp)]⟩⟩, fun k hk => by simp [Value.ownBlock] at hk; omega⟩
end

/-! ### A block that is filled from its head -/
/-- Block g is N cells of type t, of which the first m are those of xs. -/
def Fill (w : World) (g : Nat) (t : TypeId) (N : Nat) (xs : List Value) (m : Nat) : Prop := ∃ cs : Array Value, Blk w g t cs ∧ cs.size = N ∧ xs.length = N ∧ ∀ j, j < m → cs[j]? = xs[j]?
section
variable {w w' : World} {g N m : Nat} {t : TypeId} {xs : List Value}
theorem Fill.new {cs : Array Value} (hs : cs.size = N) (hx : xs.length = N) : Fill (w.alloc (.cells cs t)) w.heap.size t N xs 0 := ⟨cs, Blk.new _ _ _, hs, hx, fun _ h => absurd h (by omega)⟩
theorem Fill.bel (h : Fill w g t N xs m) (hb : Below w.heap.size w w') : Fill w' g t N xs m := let ⟨cs, h1, h2⟩ := h; ⟨cs, h1.bel hb, h2⟩
theorem Fill.drew (h : Fill w g t N xs m) : Fill w.drew g t N xs m := h
theorem Fill.alloc (h : Fill w g t N xs m) (o : Obj) : Fill (w.alloc o) g t N xs m := let ⟨cs, h1, h2⟩ := h; ⟨cs, h1.alloc o, h2⟩
theorem Fill.lt (h : Fill w g t N xs m) : g < w.heap.size := let ⟨_, h1, _⟩ := h; h1.lt
theorem Fill.cell (h : Fill w g t N xs m) {j : Nat} (hj : j < N) : ∃ u, w.cell? ⟨g, j, none⟩ = some u := by
  obtain ⟨cs, h1, h2, _⟩ := h
  exact ⟨cs[j]'(by omega), by rw [h1.cell]; exact Array.getElem?_eq_getElem (by omega)⟩
theorem Fill.frozen (h : Fill w g t N xs m) (j : Nat) : w.frozen? ⟨g, j, none⟩ = false := let ⟨_, h1, _⟩ := h; h1.frozen j
theorem Fill.set_ (h : Fill w g t N xs m) {u : Value} (hu : xs[m]? = some u) : Fill (w.setCell ⟨g, m, none⟩ u) g t N xs (m + 1) := by
  obtain ⟨cs, h1, h2, h3, h4⟩ := h
  refine ⟨_, h1.set_ m u, by simpa using h2, h3, fun j hj => ?_⟩
  have hm : m < xs.length := (List.getElem?_eq_some_iff.1 hu).1
  by_cases hjm : j = m
  · subst hjm
    rw [hu]
    simp [show j < cs.size by omega]
  · rw [← h4 j (by omega)]
    simp [Ne.symm hjm]
theorem Fill.done {n size : Nat} (h : Fill w g t (n * size) xs (n * size)) (hm : n ≤ maxLen) : Own w g (g + 1) t size (.slice (some ⟨g, 0, none⟩) n n) n xs := by
  obtain ⟨cs, h1, h2, h3, h4⟩ := h
  have : cs.toList = xs := by
    apply List.ext_getElem?
    intro j
    by_cases hj : j < n * size
    · rw [← h4 j hj]; simp
    · rw [List.getElem?_eq_none (by simp; omega), List.getElem?_eq_none (by omega)]
  rw [← this]
  exact h1.own hm h2
end
/-- What a function that makes a slice hands back. -/
def RetOwn (w : World) (e : TypeId) (size n : Nat) (xs : List Value) (x : Ending) (w' : World) : Prop := ∃ v, x = .returned v ∧ Own w' w.heap.size w'.heap.size e size v n xs ∧ Below w.heap.size w w'

/-! ### Lists of elements of several cells -/
def flat {α : Type} (enc : α → List Value) (zs : List α) : List Value := zs.flatMap enc
theorem flat_length {α : Type} {enc : α → List Value} {k : Nat} (he : ∀ a, (enc a).length = k) : ∀ zs : List α, (flat enc zs).length = zs.length * k
  | [] => by simp [flat]
  | z :: zs => by
    have := flat_length he zs
    simp only [flat, List.flatMap_cons, List.length_append, List.length_cons, he] at this ⊢
    rw [this, Nat.add_mul]; omega
theorem flat_get {α : Type} {enc : α → List Value} {k : Nat} (he : ∀ a, (enc a).length = k) : ∀ (zs : List α) (i j : Nat), j < k → (flat enc zs)[i * k + j]? = (zs[i]?).bind fun a => (enc a)[j]?
  | [], i, j, _ => by simp [flat]
  | z :: zs, 0, j, hj => by
    simp only [flat, List.flatMap_cons, Nat.zero_mul, Nat.zero_add]
    rw [List.getElem?_append_left (by rw [he]; exact hj)]
    simp
  | z :: zs, i + 1, j, hj => by
    have := flat_get he zs i j hj
    simp only [flat, List.flatMap_cons] at this ⊢
    rw [List.getElem?_append_right (by rw [he]; rw [Nat.add_mul]; omega), he]
    rw [show (i + 1) * k + j - k = i * k + j by rw [Nat.add_mul]; omega, this]
    simp
theorem flat_append {α : Type} {enc : α → List Value} (xs ys : List α) : flat enc (xs ++ ys) = flat enc xs ++ flat enc ys := by simp [flat]

def encInt (a : Int) : List Value := [.int .i64 a]
def encPair (q : Int × Int) : List Value := [.int .i64 q.1, .int .i64 q.2]
def encTrip (q : Int × Int × Int) : List Value := [.int .i64 q.1, .int .i64 q.2.1, .int .i64 q.2.2]
def encSig (q : Bool × Bool) : List Value := [.bool q.1, .bool q.2]
theorem encPair_length (q : Int × Int) : (encPair q).length = 2 := rfl
theorem encTrip_length (q : Int × Int × Int) : (encTrip q).length = 3 := rfl
theorem encSig_length (q : Bool × Bool) : (encSig q).length = 2 := rfl

theorem Reads.int_at {w : World} {B n k : Nat} {A : Option Addr} {xs : List Int} (h : Reads w B 1 A n (xs.map (Value.int .i64))) (hk : k < n) : ∃ (ad : Addr) (x : Int), A = some ad ∧ ad.block < B ∧ xs[k]? = some x ∧ w.cell? (ad.add k) = some (.int .i64 x) := by
  obtain ⟨ad, u, e, hb, hu, hc⟩ := h.at_ hk
  rw [List.getElem?_map] at hu
  cases hx : xs[k]? with
  | none => rw [hx] at hu; cases hu
  | some x =>
    rw [hx] at hu
    simp at hu
    subst hu
    exact ⟨ad, x, e, hb, rfl, hc⟩
theorem take_snoc_some {α : Type} {xs ys : List α} {k : Nat} {x : α} (hx : xs[k]? = some x) (hy : ys[k]? = some x) (h : xs.take k = ys.take k) : xs.take (k + 1) = ys.take (k + 1) := by
  rw [List.take_add_one, List.take_add_one, h, hx, hy]
theorem ne_of_at {α : Type} {xs ys : List α} {k : Nat} {x y : α} (hx : xs[k]? = some x) (hy : ys[k]? = some y) (h : x ≠ y) : xs ≠ ys := by
  rintro rfl
  rw [hx] at hy
  exact h (Option.some.inj hy)
theorem Reads.row_at {α : Type} {enc : α → List Value} {sz : Nat} (he : ∀ a, (enc a).length = sz) (hsz : 0 < sz) {w : World} {B n k : Nat} {A : Option Addr} {zs : List α} (h : Reads w B sz A n (flat enc zs)) (hl : zs.length = n) (hk : k < n) :
    ∃ (b off : Nat) (q : α), A = some ⟨b, off, none⟩ ∧ b < B ∧ zs[k]? = some q ∧ ∀ j u, (enc q)[j]? = some u → w.cell? ⟨b, off + k * sz + j, none⟩ = some u := by
  obtain ⟨ad, e, hb, hc⟩ := h.2 (by omega)
  have hlen := flat_length he zs
  have hn0 : 0 < n * sz := Nat.mul_pos (by omega) hsz
  have h0 := hc 0 _ (List.getElem?_eq_getElem (by rw [hlen, hl]; exact hn0))
  obtain ⟨b, off, spot⟩ := ad
  have hs : spot = none := by simpa [Addr.add] using World.cell?_spot h0
  subst hs
  refine ⟨b, off, zs[k]'(by omega), e, hb, List.getElem?_eq_getElem _, fun j u hu => ?_⟩
  have hj : j < sz := by rw [← he (zs[k]'(by omega))]; exact (List.getElem?_eq_some_iff.1 hu).1
  have := hc (k * sz + j) u (by rw [flat_get he _ _ _ hj, List.getElem?_eq_getElem (by omega)]; exact hu)
  rw [Addr.add_lit] at this
  rw [Nat.add_assoc]
  exact this
theorem Reads.lits {sz : Nat} (hsz : 0 < sz) {w : World} {B n : Nat} {A : Option Addr} {xs : List Value} (h : Reads w B sz A n xs) (hn : 0 < n) :
    ∃ (b off : Nat), A = some ⟨b, off, none⟩ ∧ b < B ∧ ∀ i u, xs[i]? = some u → w.cell? ⟨b, off + i, none⟩ = some u := by
  obtain ⟨ad, e, hb, hc⟩ := h.2 hn
  have hn0 : 0 < n * sz := Nat.mul_pos hn hsz
  have h0 := hc 0 _ (List.getElem?_eq_getElem (by rw [h.1]; exact hn0))
  obtain ⟨b, off, spot⟩ := ad
  have hs : spot = none := by simpa [Addr.add] using World.cell?_spot h0
  subst hs
  refine ⟨b, off, e, hb, fun i u hu => ?_⟩
  have := hc i u hu
  rwa [Addr.add_lit] at this
def inI (x : Int) : Prop := -9223372036854775808 ≤ x ∧ x ≤ 9223372036854775807

/-- What a walk is told of a slice that came in. -/
structure IntRow (w : World) (A : Option Addr) (n c : Nat) (zs : List Int) : Prop where
  len : zs.length = n
  nc : n ≤ c
  cm : c ≤ maxLen
  reads : Reads w w.heap.size 1 A n (zs.map (Value.int .i64))
  wf : ∀ x ∈ zs, inI x
structure PairRow (w : World) (A : Option Addr) (n c : Nat) (zs : List (Int × Int)) : Prop where
  len : zs.length = n
  nc : n ≤ c
  cm : c ≤ maxLen
  reads : Reads w w.heap.size 2 A n (flat encPair zs)
  wf : ∀ x ∈ zs, inI x.1 ∧ inI x.2
structure TripRow (w : World) (A : Option Addr) (n c : Nat) (zs : List (Int × Int × Int)) : Prop where
  len : zs.length = n
  nc : n ≤ c
  cm : c ≤ maxLen
  reads : Reads w w.heap.size 3 A n (flat encTrip zs)
  wf : ∀ x ∈ zs, inI x.1 ∧ inI x.2.1 ∧ inI x.2.2
structure SigRow (w : World) (A : Option Addr) (n c : Nat) (zs : List (Bool × Bool)) : Prop where
  len : zs.length = n
  nc : n ≤ c
  cm : c ≤ maxLen
  reads : Reads w w.heap.size 2 A n (flat encSig zs)

/-! ### Small words of the laws -/
def szI (n : Nat) (l : Int) : Int := if (n : Int) ≤ l then l - n else -1
def szII (n n' : Nat) (l : Int) : Int := if (n : Int) + (n' : Int) ≤ l then l - n - n' else -1
def sameB {α : Type} [DecidableEq α] (xs ys : List α) : Bool := decide (xs = ys)
/-- It hands back v and only draws. -/
def RetQ (v : Value) (w : World) (e : Ending) (w' : World) : Prop := e = .returned v ∧ ∃ k, w' = w.drewN k
theorem RetQ.bel {w : World} (k : Nat) : Below w.heap.size w (w.drewN k) := ⟨rfl, rfl, rfl, Nat.le_refl _, fun _ _ => rfl⟩
theorem ret_b {a b : Bool} (h : a = b) : Ending.returned (.bool a) = .returned (.bool b) := by rw [h]
theorem ret_n {a b : Int} (h : a = b) : Ending.returned (.int .i64 a) = .returned (.int .i64 b) := by rw [h]
def betwB (n lo hi : Int) : Bool := decide (lo ≤ n ∧ n ≤ hi)
theorem betw_iff {n lo hi : Int} : betwB n lo hi = true ↔ lo ≤ n ∧ n ≤ hi := by simp [betwB]

def marksI (k : Int) (n : Nat) : List Int := (List.range n).map fun (i : Nat) => k + (i : Int)
theorem marksI_length (k : Int) (n : Nat) : (marksI k n).length = n := by simp [marksI]
theorem marksI_succ (k : Int) (n : Nat) : marksI k (n + 1) = marksI k n ++ [k + n] := by simp [marksI, List.range_succ]
theorem marksI_at {k : Int} {n i : Nat} (h : i < n) : (marksI k n)[i]? = some (k + i) := by simp [marksI, h]
/-- Behind marks: the number that follows; the cells; what has turned. -/
def Marked (w : World) (lo hi : Nat) (e : TypeId) (size : Nat) (v : Value) (n : Nat) (xs : List Value) (r : Int) (x : Ending) (w' : World) : Prop :=
  x = .returned (.int .i64 r) ∧ Own w' lo hi e size v n xs ∧ Touch lo hi w w'
theorem set_mid {α : Type} {L xs : List α} {u : α} {i : Nat} (hL : L.length = i) (hi : i < xs.length) : (L ++ xs.drop i).set i u = (L ++ [u]) ++ xs.drop (i + 1) := by
  subst hL
  rw [List.set_append_right _ _ (Nat.le_refl _), Nat.sub_self]
  have hd := List.drop_eq_getElem_cons hi
  rw [hd, List.set_cons_zero, List.append_assoc]
  rfl
end Go.Proofs.Ytpgifgdoikhpbaa
