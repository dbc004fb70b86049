/- Signals joined. No condition. -/
import Derived.Test.YtjokokdmdgbocaaRows
import Derived.Test.YtjokokdmdgbocaaWords
namespace Go.Proofs.Ytjokokdmdgbocaa
open Go.RowKit

def joinQ (lo hi : Bool × Bool) : Bool × Bool := (hi.1 || (hi.2 && lo.1), lo.2 && hi.2)


set_option maxHeartbeats 3200000 in
theorem sJoinSig (p q : Bool × Bool) (w : World) :
    Calls Try.prog 16 #[.agg #[.bool p.1, .bool p.2], .agg #[.bool q.1, .bool q.2]] w fun e w' => e = .returned (.agg #[.bool (joinQ p q).1, .bool (joinQ p q).2]) ∧ Below w.heap.size w w' := by
  obtain ⟨a, b⟩ := p
  obtain ⟨c, d⟩ := q
  cases a <;> cases b <;> cases c <;> cases d
  all_goals
    go_enter Try.func16, Try.ntmps16
    go_wp2
    exact bodyPost_ret (v := .agg #[.bool (joinQ _ _).1, .bool (joinQ _ _).2]) (by simp [results, Try.results16, go_sem, joinQ]) rfl ⟨rfl, (by repeat' (first | assumption | exact Below.refl _ _ | refine Below.drew ?_ | refine belN ?_ _ | refine Below.alloc ?_ (by first | omega | (simp; done) | (simp; omega)) _ | refine Below.setCell ?_ (by first | omega | (simp; done) | (simp; omega)) _))⟩

set_option maxHeartbeats 3200000 in
theorem iJoinSig (p q : Bool × Bool) (w : World) :
    Calls Try.prog 18 #[.agg #[.bool p.1, .bool p.2], .agg #[.bool q.1, .bool q.2]] w fun e w' => e = .returned (.agg #[.bool (joinQ p q).1, .bool (joinQ p q).2]) ∧ Below w.heap.size w w' := by
  obtain ⟨a, b⟩ := p
  obtain ⟨c, d⟩ := q
  cases a <;> cases b <;> cases c <;> cases d
  all_goals
    go_enter Try.func18, Try.ntmps18
    go_wp2
    exact bodyPost_ret (v := .agg #[.bool (joinQ _ _).1, .bool (joinQ _ _).2]) (by simp [results, Try.results18, go_sem, joinQ]) rfl ⟨rfl, (by repeat' (first | assumption | exact Below.refl _ _ | refine Below.drew ?_ | refine belN ?_ _ | refine Below.alloc ?_ (by first | omega | (simp; done) | (simp; omega)) _ | refine Below.setCell ?_ (by first | omega | (simp; done) | (simp; omega)) _))⟩

end Go.Proofs.Ytjokokdmdgbocaa
