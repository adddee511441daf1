/- Steps of a region that draws its order: a call, an append. -/
import Derived.Test.YtnppgidbfmbdgaaDoorNew
import Derived.Deep.RegionLaw
namespace Go.Proofs.YtnppgidbfmbdgaaDoor
open Go.RowKit

section
variable {α : Type} {enc : α → List Value} {k : Nat} {P : Program}
theorem stepAppend {ops : Array Oper} {o : Oper} {a : Act} {K : Act → World → Prop} {Q : Exit → Act → World → Prop} {E : Prop} (hgd : o.guard = none) (s x : Operand) {t T : TypeId} (ho : o.op = .call { callee := .builtin .append, args := #[s, x], argTypes := #[t, t] })
    {bytes : Nat} (E1 : Elem P t T enc k bytes) {W w : World} (hW : Own [] W w) {v sv : Value} {l l2 : List α} (hs : a.eval s = v) (hv : Sl T enc k W.heap.size w v l) (hx : a.eval x = sv) (hsv : Reads enc w sv l2)
    (hlen : (l.length + l2.length) * bytes ≤ 140737488355328) (hmax : l.length + l2.length ≤ maxLen)
    (h : ∀ v' w', Sl T enc k W.heap.size w' v' (l ++ l2) → Own [] W w' → (∀ g, v'.ownBlock = some g → v.ownBlock = some g ∨ w.heap.size ≤ g) → Own v.ownBlock.toList w w' → K (a.put o.dst v') w') :
    if Region.wanted o (yielded ops a.tmps) = true then Oper.wp P o a w K Q else E := by
  have hw : Region.wanted o (yielded ops a.tmps) = true := by simp [Region.wanted, hgd]
  rw [if_pos hw]
  obtain ⟨v', w', hr, h2, h3, h4, h5, h6⟩ := run_append_new2 (P := P) E1 o.type hW hv hsv hlen hmax
  unfold Oper.wp execOp
  simp only [ho, resolve, invoke, builtin, Sem.run_bind, Sem.run_pure, Result.andThen_ok, List.map_toArray, List.map_cons, List.map_nil, hs, hx, hr]
  exact h v' w' h2 h3 h5 h6
theorem stepCall {ops : Array Oper} {o : Oper} {a : Act} {w : World} {K : Act → World → Prop} {Q : Exit → Act → World → Prop} {E : Prop} (hgd : o.guard = none) (f : FuncId) (args : Array Operand) (tys : Array TypeId) (ho : o.op = .call { callee := .value (.func f), args := args, argTypes := tys })
    {vs : Array Value} (hvs : args.map a.eval = vs) (hent : ∀ args w, (callFunc f args).run P w = .ok (.enter f args) w) {R : Value → World → Prop} (hC : Calls P f vs w fun e w' => ∃ v, e = .returned v ∧ R v w') (h : ∀ v w', R v w' → K (a.put o.dst v) w') :
    if Region.wanted o (yielded ops a.tmps) = true then Oper.wp P o a w K Q else E := by
  have hw : Region.wanted o (yielded ops a.tmps) = true := by simp [Region.wanted, hgd]
  rw [if_pos hw]
  have hr : (execOp a.eval o).run P w = .ok (.enter f vs) w := by
    unfold execOp
    simp [ho, resolve, invoke, Act.eval, hent, Deferred.ofValue]
    exact hvs
  unfold Oper.wp
  rw [hr, Oper.upon_enter]
  refine hC.mono ?_
  rintro e w' ⟨v, rfl, hR⟩
  exact h v w' hR
end
end Go.Proofs.YtnppgidbfmbdgaaDoor
