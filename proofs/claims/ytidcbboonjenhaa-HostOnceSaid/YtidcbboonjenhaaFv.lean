/- A call of a function's value that lies in a slot: one law in place of the unfolding. -/
import Derived.Test.YtidcbboonjenhaaAny
namespace Go.Proofs.Ytidcbboonjenhaa.Kt
open Go.RowKit
theorem execOp_fv {ev : Operand → Value} {o : Oper} {x : Operand} {f : FuncId} {caps : Array Value} {xs : Array Operand} {ats : Array TypeId} (ho : o.op = .call { callee := .value x, args := xs, argTypes := ats }) (hx : ev x = .func (.func f) #[] caps) :
    execOp ev o = callFunc f (#[] ++ xs.map ev ++ caps) := by
  obtain ⟨dst, op, ty, pos, after, guard⟩ := o
  dsimp only at ho
  subst ho
  unfold execOp
  dsimp only
  unfold resolve
  dsimp only
  rw [hx]
  rfl
theorem wp_fv {P : Program} {o : Oper} {a : Act} {w : World} {next : Act → World → Prop} {Q : Exit → Act → World → Prop} (x : Operand) (f : FuncId) (caps : Array Value) (xs : Array Operand) (ats : Array TypeId) (vl : List Value)
    (ho : o.op = .call { callee := .value x, args := xs, argTypes := ats }) (hx : a.eval x = .func (.func f) #[] caps) (hv : xs.toList.map a.eval ++ caps.toList = vl) (he : ∀ args w, (callFunc f args).run P w = .ok (.enter f args) w)
    (h : Calls P f vl.toArray w fun
      | .returned v, w'' => next (a.put o.dst v) w''
      | .panicked chain, w'' => Q (.panic chain) a w''
      | .outgrown, _ => LetsOut Q) : o.wp P a w next Q := by
  unfold Oper.wp
  have e : #[] ++ xs.map a.eval ++ caps = vl.toArray := by
    rw [← hv]
    simp
  rw [execOp_fv ho hx, e, he]
  exact h
/-- an operation whose run is known -/
theorem wp_run {P : Program} {o : Oper} {a : Act} {w : World} {next : Act → World → Prop} {Q : Exit → Act → World → Prop} (v : Value) (w' : World)
    (h : (execOp a.eval o).run P w = .ok (.value v) w') (hk : next (a.put o.dst v) w') : o.wp P a w next Q := by
  unfold Oper.wp
  rw [h]
  exact hk
end Go.Proofs.Ytidcbboonjenhaa.Kt
