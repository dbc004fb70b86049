/- A call of a function as one step of a region that draws its order. No condition. -/
import Derived.WalkKit
import Derived.Deep.RegionLaw
namespace Go.Proofs.Ytpgifgdoikhpbaa
open Go.RowKit

theorem run_enter {P : Program} {f : FuncId} {fn : Func} {args : Array Value} {w : World} (hf : P.funcs[f]? = some fn) (hn : (fn.name == "runtime.NumGoroutine") = false) (hb : fn.body.isNone = false) :
    (callFunc f args).run P w = .ok (.enter f args) w := by
  have hn' : ¬ fn.name = "runtime.NumGoroutine" := by simpa using hn
  have hb' : ¬ fn.body = none := by intro h; rw [h] at hb; cases hb
  simp [callFunc, go_sem, hf, hn', hb']
/-- A call of a Go function, as one step of a region that draws: what the callee hands back and leaves is what follows. -/
theorem step_call {P : Program} {ops : Array Oper} {o : Oper} {a : Act} {w : World} {K : Act → World → Prop} {Q : Exit → Act → World → Prop} {E : Prop} {tys : Array TypeId} {xs : Array Operand}
    (hg : o.guard = none) (f : FuncId) (hop : o.op = Op.call { callee := Callee.value (Operand.func f), args := xs, argTypes := tys }) (fn : Func) (hf : P.funcs[f]? = some fn) (hn : (fn.name == "runtime.NumGoroutine") = false) (hb : fn.body.isNone = false) (args : Array Value) (ha' : xs.toList.map a.eval = args.toList)
    (h : Calls P f args w fun e w' => ∃ v, e = .returned v ∧ K (a.put o.dst v) w') :
    if Region.wanted o (yielded ops a.tmps) = true then Oper.wp P o a w K Q else E := by
  have ha : xs.map a.eval = args := by
    apply Array.ext'
    rw [Array.toList_map]
    exact ha'
  have hw : Region.wanted o (yielded ops a.tmps) = true := by simp [Region.wanted, hg]
  rw [if_pos hw]
  unfold Oper.wp
  simp [go_sem, hop, ha]
  rw [run_enter hf hn hb, Oper.upon_enter]
  refine h.mono ?_
  rintro e w' ⟨v, rfl, hk⟩
  exact hk
end Go.Proofs.Ytpgifgdoikhpbaa
