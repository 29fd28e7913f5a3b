/- Steps through a statement whose order is open, where loads of the call's own boxes stand beside calls that make memory. No program. -/
import Derived.Test.YtejnejplofddnaaGreatDoorMem
import Derived.OrdersHeld
import Derived.KernelRfl
import Derived.Laws.AppendOwn
namespace Go.Proofs.YtejnejplofddnaaGreatDoor
open Go.RowKit
section
variable {P : Program} {ops : Array Oper} {Q : Exit → Act → World → Prop} {md : Region.Mode} {S : World → Prop}
/-- One operation alone may come up. -/
theorem wpAnyH_one {i : Nat} {o : Oper} {fuel : Nat} {listed : Array Bool} {a : Act} {w : World} (hr : Region.ready md ops listed = [i]) (hi : ops[i]? = some o) (hw : Region.wanted o (yielded ops a.tmps) = true)
    (h : o.wp P a w (fun a' w' => S w' ∧ wpAnyH P md ops Q S fuel (listed.setIfInBounds i true) a' w') Q) : wpAnyH P md ops Q S (fuel + 1) listed a w :=
  wpAnyH_all hr (by simp) fun j hj => by
    obtain rfl := List.mem_singleton.1 hj
    simp only [wpOp, hi, hw, if_true]
    exact .inl h
theorem yieldsIf_move {o : Oper} {a : Act} {x : Operand} (ho : o.op = .move x) (hg : o.guard = none) : YieldsIf P ops S o (a.eval x) a :=
  .inl ⟨by simp [Region.wanted, hg], fun w _ => by unfold execOp; simp [ho]⟩
theorem yieldsIf_assign {o : Oper} {a : Act} {x : Operand} (ho : o.op = .assign x) (hg : o.guard = none) : YieldsIf P ops S o (a.eval x) a :=
  .inl ⟨by simp [Region.wanted, hg], fun w _ => by unfold execOp; simp [ho]⟩
theorem yieldsIf_extract {o : Oper} {a : Act} {x : Operand} {i : Nat} {vs : Array Value} {v : Value} (ho : o.op = .extract x i) (hg : o.guard = none) (hx : a.eval x = .tuple vs) (hv : vs[i]? = some v) : YieldsIf P ops S o v a :=
  .inl ⟨by simp [Region.wanted, hg], fun w _ => by unfold execOp; simp [ho, hx, hv, Instr.extract]⟩
theorem yieldsIf_load {o : Oper} {a : Act} {x : Operand} {t : TypeId} {ad : Addr} {v : Value} (ho : o.op = .load t x) (hg : o.guard = none) (hx : a.eval x = .pointer (some ad)) (h : ∀ w, S w → (loadVar t ad).run P w = .ok v w) : YieldsIf P ops S o v a :=
  .inl ⟨by simp [Region.wanted, hg], fun w hw => by
    unfold execOp
    simp only [ho, hx, Instr.loadAt, Instr.sureAddr, Sem.run_bind, Sem.run_pure, Result.andThen_ok, h w hw]⟩
end
section
variable {P : Program} {md : Region.Mode} {ops : Array Oper} {Q : Exit → Act → World → Prop} {S : World → Prop}
theorem wpAnyH_two {i j : Nat} {oi oj : Oper} {fuel : Nat} {listed : Array Bool} {a : Act} {w : World} (hr : Region.ready md ops listed = [i, j]) (hi : ops[i]? = some oi) (hj : ops[j]? = some oj)
    (wi : Region.wanted oi (yielded ops a.tmps) = true) (wj : Region.wanted oj (yielded ops a.tmps) = true)
    (h1 : oi.wp P a w (fun a' w' => S w' ∧ wpAnyH P md ops Q S fuel (listed.setIfInBounds i true) a' w') Q)
    (h2 : oj.wp P a w (fun a' w' => S w' ∧ wpAnyH P md ops Q S fuel (listed.setIfInBounds j true) a' w') Q) : wpAnyH P md ops Q S (fuel + 1) listed a w :=
  wpAnyH_all hr (by simp) fun k hk => by
    rcases List.mem_cons.1 hk with rfl | hk
    · simp only [wpOp, hi, wi, if_true]
      exact .inl h1
    · obtain rfl := List.mem_singleton.1 hk
      simp only [wpOp, hj, wj, if_true]
      exact .inl h2
theorem oper_hid {o : Oper} {a : Act} {w : World} {R : Act → World → Prop} (h : ∀ R' : Act → World → Prop, (∀ a w, R a w → R' a w) → o.wp P a w R' Q) : o.wp P a w R Q := h R (fun _ _ h => h)
end
section
variable {P : Program} {ops : Array Oper}
/-- One append to a row of one's own, met among operations in any order. -/
theorem wp_append_own {o : Oper} {a : Act} {w : World} {R : Act → World → Prop} {Q : Exit → Act → World → Prop} (s x : Operand) (t : TypeId)
    (ho : o.op = .call { callee := .builtin .append, args := #[s, x], argTypes := #[t, t] })
    (base : Nat) (e : TypeId) (i : TypeInfo) (z : Value) (size bytes : Nat) (ht : P.underlying t = some (.slice e)) (hi : P.info? e = some i) (hz : i.zero = some z)
    (hsize : i.size = size) (hby : i.bytes = bytes) (hzs : z.cells.size = size) (hsz : 0 < size)
    (v : Value) (n : Nat) (xs : List Value) (hs : a.eval s = v) (hown : w.ownsRow base e size v n xs)
    (ad : Addr) (m c : Nat) (news : List Value) (hx : a.eval x = .slice (some ad) m c) (hl : news.length = m * size) (hnews : ∀ j u, news[j]? = some u → w.cell? (ad.add j) = some u) (h1 : ∀ u ∈ news, u.oneCell' = true)
    (h63 : n + m ≤ maxLen) (hbytes : (n + m) * bytes ≤ 140737488355328) (hbase : base ≤ w.heap.size)
    (h : ∀ v' w', w'.ownsRow base e size v' (n + m) (xs ++ news) → w.grownBy w' v.ownBlock → R (a.put o.dst v') w') : o.wp P a w R Q := by
  obtain ⟨v', w', hr, h2, h3, -⟩ := run_append_own (P := P) (w := w) base t o.type e i z size bytes ht hi hz hsize hby hzs hsz v n xs hown ad m c news hl hnews h1 h63 hbytes hbase
  unfold Oper.wp execOp
  simp only [ho, resolve, invoke, builtin, Sem.run_bind, Sem.run_pure, Result.andThen_ok, List.map_toArray, List.map_cons, List.map_nil, hs, hx, hr]
  exact h v' w' h2 h3
theorem oper_hide {o : Oper} {a : Act} {w : World} {R : Act → World → Prop} {Q : Exit → Act → World → Prop} (h : ∀ R' : Act → World → Prop, (∀ a w, R a w → R' a w) → o.wp P a w R' Q) : o.wp P a w R Q := h R (fun _ _ h => h)
end
end Go.Proofs.YtejnejplofddnaaGreatDoor
