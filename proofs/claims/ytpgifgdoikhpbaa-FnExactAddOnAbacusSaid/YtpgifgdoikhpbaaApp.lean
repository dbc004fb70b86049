/- append of one element to a slice of the call's own, in the words of Own and Touch. No condition. -/
import Derived.Test.YtpgifgdoikhpbaaWords
import Derived.Deep.RegionLaw
import Derived.Deep.AppendLies
namespace Go.Proofs.Ytpgifgdoikhpbaa
open Go.RowKit

/-- The row of an element's type in the program's table. -/
def Elt (P : Program) (t e : TypeId) (size : Nat) : Prop := ∃ (i : TypeInfo) (z : Value) (bytes : Nat), P.underlying t = some (.slice e) ∧ P.info? e = some i ∧ i.zero = some z ∧ i.size = size ∧ i.bytes = bytes ∧ z.cells.size = size ∧ 0 < size ∧ bytes ≤ 64

section
variable {P : Program} {t e : TypeId} {size lo hi n g c : Nat} {v : Value} {xs : List Value} {cs : Array Value} {w : World} {o : Oper} {a : Act} {Q : Exit → Act → World → Prop}
theorem wp_app1 {K : Act → World → Prop} (s x : Operand) (ho : o.op = .call { callee := .builtin .append, args := #[s, x], argTypes := #[t, t] }) (hE : Elt P t e size)
    (hs : a.eval s = v) (hown : Own w lo hi e size v n xs) (hx : a.eval x = .slice (some ⟨g, 0, none⟩) 1 c) (hb : Blk w g e cs) (hcs : cs.size = size) (h1 : ∀ u ∈ cs.toList, u.oneCell' = true) (hn : n ≤ 1073741824) (hlo : lo ≤ w.heap.size)
    (h : ∀ (A : Option Addr) (c' : Nat) (w' : World), Own w' lo w'.heap.size e size (.slice A (n + 1) c') (n + 1) (xs ++ cs.toList) → Touch lo hi w w' → K (a.put o.dst (.slice A (n + 1) c')) w') : o.wp P a w K Q := by
  obtain ⟨i, z, bytes, ht, hi', hz, hsize, hby, hzs, hpos, h64⟩ := hE
  refine wp_append_lies w s x t ho lo e i z size bytes ht hi' hz hsize hby hzs hpos v n xs hs hown.row ⟨g, 0, none⟩ 1 c cs.toList hx (by simp [hcs]) (World.news_of_block hb) h1 (by omega) (by unfold maxLen; omega) ?_ hlo w.heap.size rfl ?_
  · have : (n + 1) * bytes ≤ 1073741825 * 64 := Nat.mul_le_mul (by omega) h64
    omega
  · intro g' cap w' hr hg _ hlt
    exact h _ _ _ ⟨hr, fun k hk => by simp [Value.ownBlock] at hk; omega⟩ (Touch.of_grown hg (fun k hk => ⟨(hown.row.lt k hk).1, hown.top k hk⟩))
theorem wpList_app1 {ops : Array Oper} {rest : List Oper} (hgd : o.guard = none) (s x : Operand) (ho : o.op = .call { callee := .builtin .append, args := #[s, x], argTypes := #[t, t] }) (hE : Elt P t e size)
    (hs : a.eval s = v) (hown : Own w lo hi e size v n xs) (hx : a.eval x = .slice (some ⟨g, 0, none⟩) 1 c) (hb : Blk w g e cs) (hcs : cs.size = size) (h1 : ∀ u ∈ cs.toList, u.oneCell' = true) (hn : n ≤ 1073741824) (hlo : lo ≤ w.heap.size)
    (h : ∀ (A : Option Addr) (c' : Nat) (w' : World), Own w' lo w'.heap.size e size (.slice A (n + 1) c') (n + 1) (xs ++ cs.toList) → Touch lo hi w w' → wpList P ops Q rest (a.put o.dst (.slice A (n + 1) c')) w') : wpList P ops Q (o :: rest) a w :=
  wpList_plain hgd fun _ hK => wp_app1 s x ho hE hs hown hx hb hcs h1 hn hlo fun A c' w' h2 h3 => hK _ _ (h A c' w' h2 h3)
theorem wpList_appN {ops : Array Oper} {rest : List Oper} {m : Nat} {ad : Addr} {news : List Value} (hgd : o.guard = none) (s x : Operand) (ho : o.op = .call { callee := .builtin .append, args := #[s, x], argTypes := #[t, t] }) (hE : Elt P t e size)
    (hs : a.eval s = v) (hown : Own w lo hi e size v n xs) (hx : a.eval x = .slice (some ad) m c) (hl : news.length = m * size) (hnews : ∀ j u, news[j]? = some u → w.cell? (ad.add j) = some u) (h1 : ∀ u ∈ news, u.oneCell' = true) (hm : 0 < m) (hn : n + m ≤ 1073741824) (hlo : lo ≤ w.heap.size)
    (h : ∀ (A : Option Addr) (c' : Nat) (w' : World), Own w' lo w'.heap.size e size (.slice A (n + m) c') (n + m) (xs ++ news) → Touch lo hi w w' → wpList P ops Q rest (a.put o.dst (.slice A (n + m) c')) w') : wpList P ops Q (o :: rest) a w := by
  obtain ⟨i, z, bytes, ht, hi', hz, hsize, hby, hzs, hpos, h64⟩ := hE
  refine wpList_append_lies w hgd s x t ho lo e i z size bytes ht hi' hz hsize hby hzs hpos v n xs hs hown.row ad m c news hx hl hnews h1 hm (by unfold maxLen; omega) ?_ hlo w.heap.size rfl ?_
  · have : (n + m) * bytes ≤ 1073741824 * 64 := Nat.mul_le_mul (by omega) h64
    omega
  · intro g' cap w' hr hg _ hlt
    exact h _ _ _ ⟨hr, fun k hk => by simp [Value.ownBlock] at hk; omega⟩ (Touch.of_grown hg (fun k hk => ⟨(hown.row.lt k hk).1, hown.top k hk⟩))
theorem step_app1 {ops : Array Oper} {K : Act → World → Prop} {E : Prop} (hgd : o.guard = none) (s x : Operand) (ho : o.op = .call { callee := .builtin .append, args := #[s, x], argTypes := #[t, t] }) (hE : Elt P t e size)
    (hs : a.eval s = v) (hown : Own w lo hi e size v n xs) (hx : a.eval x = .slice (some ⟨g, 0, none⟩) 1 c) (hb : Blk w g e cs) (hcs : cs.size = size) (h1 : ∀ u ∈ cs.toList, u.oneCell' = true) (hn : n ≤ 1073741824) (hlo : lo ≤ w.heap.size)
    (h : ∀ (A : Option Addr) (c' : Nat) (w' : World), Own w' lo w'.heap.size e size (.slice A (n + 1) c') (n + 1) (xs ++ cs.toList) → Touch lo hi w w' → K (a.put o.dst (.slice A (n + 1) c')) w') :
    if Region.wanted o (yielded ops a.tmps) = true then Oper.wp P o a w K Q else E := by
  have hw : Region.wanted o (yielded ops a.tmps) = true := by simp [Region.wanted, hgd]
  rw [if_pos hw]
  exact wp_app1 s x ho hE hs hown hx hb hcs h1 hn hlo h
end
theorem flat_one {α : Type} {enc : α → List Value} (he : ∀ a, ∀ u ∈ enc a, u.oneCell' = true) (zs : List α) : ∀ u ∈ flat enc zs, u.oneCell' = true := by
  intro u hu
  simp only [flat, List.mem_flatMap] at hu
  obtain ⟨a, _, h⟩ := hu
  exact he a u h
theorem encPair_one (q : Int × Int) : ∀ u ∈ encPair q, u.oneCell' = true := by
  intro u hu
  simp [encPair] at hu
  rcases hu with rfl | rfl <;> rfl
theorem ints_one (xs : List Int) : ∀ u ∈ xs.map (Value.int .i64), u.oneCell' = true := by
  intro u hu
  simp at hu
  obtain ⟨x, _, rfl⟩ := hu
  rfl
theorem one_int (x : Int) : ∀ u ∈ (#[Value.int .i64 x] : Array Value).toList, u.oneCell' = true := by intro u hu; simp at hu; subst hu; rfl
theorem Own.nil (w : World) (lo hi : Nat) (e : TypeId) (size : Nat) : Own w lo hi e size (.slice none 0 0) 0 [] := ⟨World.ownsRow_nil _ _ _ _, fun k hk => by simp [Value.ownBlock] at hk⟩
end Go.Proofs.Ytpgifgdoikhpbaa
