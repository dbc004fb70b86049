/- Byte slices of the call's own, and the string that is made of one. No condition. -/
import Derived.Test.YtpgifgdoikhpbaaRows
import Derived.Test.YtpgifgdoikhpbaaWords
import Derived.Test.YtpgifgdoikhpbaaApp
import Derived.Laws.BytesArg
namespace Go.Proofs.Ytpgifgdoikhpbaa
open Go.RowKit

theorem infoU : (Try.prog.info? 5).map (fun i => (i.zero, i.size, i.bytes)) = some (some (.int .u8 0), 1, 1) := by kernel_rfl
theorem eltU : Elt Try.prog 92 5 1 := by
  obtain ⟨i0, hi, hz0, hz1, hz2⟩ := info_parts infoU
  exact ⟨i0, _, _, Try.underlying92, hi, hz0, hz1, hz2, rfl, by decide, by decide⟩
theorem Blk.new_at {w : World} {t : TypeId} {cs : Array Value} {g : Nat} (hg : g = w.heap.size) : Blk (w.alloc (.cells cs t)) g t cs := by subst hg; exact Blk.new _ _ _
theorem one_u8 (x : Int) : ∀ u ∈ (#[Value.int .u8 x] : Array Value).toList, u.oneCell' = true := by intro u hu; simp at hu; subst hu; rfl
set_option maxRecDepth 100000 in
/-- The string of a byte slice of the call's own. -/
theorem conv_own {w : World} {lo hi n c : Nat} {A : Option Addr} {bs : List Int} (ho : Own w lo hi 5 1 (.slice A n c) n (bs.map (Value.int .u8))) :
    (convert 92 9 (.slice A n c)).run Try.prog w = .ok (.string (strOfNums bs)) w := by
  have hl : bs.length = n := by have := ho.row.1; simpa using this
  rcases ho.row.2 with ⟨hv, h0⟩ | ⟨g, cap, cur, hv, _⟩
  · injection hv with hA hn hc
    subst hA
    have : bs = [] := List.length_eq_zero_iff.1 (by omega)
    subst this
    exact run_convert_bytes_nil (P := Try.prog) w 92 5 Try.underlying92 Try.underlying5 n c 9 Try.underlying9
  · injection hv with hA hn hc
    subst hA
    refine run_convert_bytes_arg (P := Try.prog) w 92 5 Try.underlying92 Try.underlying5 g 0 n c bs hl (fun i hi => ?_) 9 Try.underlying9
    have := ho.row.cellAt i (by omega)
    rw [Nat.zero_add, this, List.getElem?_map, List.getElem?_eq_getElem (by omega)]
    simp [List.getD_eq_getElem?_getD, hl, hi]
end Go.Proofs.Ytpgifgdoikhpbaa
