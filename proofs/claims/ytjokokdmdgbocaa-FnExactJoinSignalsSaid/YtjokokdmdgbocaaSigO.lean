/- One signal: a copy, equality. No condition. -/
import Derived.Test.YtjokokdmdgbocaaRows
import Derived.Test.YtjokokdmdgbocaaWords
namespace Go.Proofs.Ytjokokdmdgbocaa
open Go.RowKit

set_option maxHeartbeats 400000 in
theorem toSignal {a0 : Bool} {a1 : Bool} (w : World) :
    Calls Try.prog 17 #[.agg #[.bool a0, .bool a1]] w fun e w' => e = .returned (.agg #[.bool a0, .bool a1]) ∧ Below w.heap.size w w' := by
  go_enter Try.func17, Try.ntmps17
  go_wp2
  exact bodyPost_ret (v := .agg #[.bool a0, .bool a1]) (by simp [results, Try.results17, go_sem]) rfl ⟨rfl, (by repeat' (first | assumption | exact Below.refl _ _ | refine Below.drew ?_ | refine Below.alloc ?_ (by first | omega | (simp; done) | (simp; omega)) _ | refine Below.setCell ?_ (by first | omega | (simp; done) | (simp; omega)) _))⟩

set_option maxHeartbeats 400000 in
theorem eqSignal {a0 : Bool} {a1 : Bool} (w : World) :
    Calls Try.prog 19 #[.agg #[.bool a0, .bool a1], .agg #[.bool a0, .bool a1]] w fun e w' => e = .returned (.bool true) ∧ Below w.heap.size w w' := by
  go_enter Try.func19, Try.ntmps19
  go_wp2
  go_ret
  exact ⟨rfl, (by repeat' (first | assumption | exact Below.refl _ _ | refine Below.drew ?_ | refine Below.alloc ?_ (by first | omega | (simp; done) | (simp; omega)) _ | refine Below.setCell ?_ (by first | omega | (simp; done) | (simp; omega)) _))⟩

end Go.Proofs.Ytjokokdmdgbocaa
