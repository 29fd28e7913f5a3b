/- Steps through a statement whose order is open, where loads of the call's own boxes stand beside calls that make memory. No program. -/
import Derived.Test.YtkdfkhjoijfcdaaDoorMem
import Derived.OrdersHeld
import Derived.KernelRfl
namespace Go.Proofs.YtkdfkhjoijfcdaaDoor
open Go.RowKit
section
variable {P : Program} {ops : Array Oper} {Q : Exit → Act → World → Prop} {md : Region.Mode} {S : World → Prop}
/-- One operation alone may come up. -/
theorem wpAnyH_one {i : Nat} {o : Oper} {fuel : Nat} {listed : Array Bool} {a : Act} {w : World} (hr : Region.ready md ops listed = [i]) (hi : ops[i]? = some o) (hw : Region.wanted o (yielded ops a.tmps) = true)
    (h : o.wp P a w (fun a' w' => S w' ∧ wpAnyH P md ops Q S fuel (listed.setIfInBounds i true) a' w') Q) : wpAnyH P md ops Q S (fuel + 1) listed a w :=
  wpAnyH_all hr (by simp) fun j hj => by
    obtain rfl := List.mem_singleton.1 hj
    simp only [wpOp, hi, hw, if_true]
    exact .inl h
theorem yieldsIf_move {o : Oper} {a : Act} {x : Operand} (ho : o.op = .move x) (hg : o.guard = none) : YieldsIf P ops S o (a.eval x) a :=
  .inl ⟨by simp [Region.wanted, hg], fun w _ => by unfold execOp; simp [ho]⟩
theorem yieldsIf_assign {o : Oper} {a : Act} {x : Operand} (ho : o.op = .assign x) (hg : o.guard = none) : YieldsIf P ops S o (a.eval x) a :=
  .inl ⟨by simp [Region.wanted, hg], fun w _ => by unfold execOp; simp [ho]⟩
theorem yieldsIf_extract {o : Oper} {a : Act} {x : Operand} {i : Nat} {vs : Array Value} {v : Value} (ho : o.op = .extract x i) (hg : o.guard = none) (hx : a.eval x = .tuple vs) (hv : vs[i]? = some v) : YieldsIf P ops S o v a :=
  .inl ⟨by simp [Region.wanted, hg], fun w _ => by unfold execOp; simp [ho, hx, hv, Instr.extract]⟩
theorem yieldsIf_load {o : Oper} {a : Act} {x : Operand} {t : TypeId} {ad : Addr} {v : Value} (ho : o.op = .load t x) (hg : o.guard = none) (hx : a.eval x = .pointer (some ad)) (h : ∀ w, S w → (loadVar t ad).run P w = .ok v w) : YieldsIf P ops S o v a :=
  .inl ⟨by simp [Region.wanted, hg], fun w hw => by
    unfold execOp
    simp only [ho, hx, Instr.loadAt, Instr.sureAddr, Sem.run_bind, Sem.run_pure, Result.andThen_ok, h w hw]⟩
end
end Go.Proofs.YtkdfkhjoijfcdaaDoor
