/- Regions that draw their order, a step at a time. -/
import Derived.Test.YtbojokjommmebaaMoMem
namespace Go.Proofs.Ytbojokjommmebaa.MoReg
set_option linter.unusedSimpArgs false
set_option linter.unusedVariables false
open Go.RowKit
/-- Operation i. -/
def opr (ops : Array Oper) (i : Nat) : Oper := ops.getD i { dst := none, op := .move (.tmp 0), type := 0, pos := "", after := #[], guard := none }
theorem opr_is {ops : Array Oper} {i : Nat} (h : i < ops.size) : ops[i]? = some (opr ops i) := by
  unfold opr
  rw [Array.getElem?_eq_getElem h, Array.getD, dif_pos h]; rfl
section
variable {P : Program} {md : Region.Mode} {ops : Array Oper} {Q : Exit → Act → World → Prop} {S : World → Prop} {fuel : Nat} {listed : Array Bool} {a : Act} {w w' : World}
/-- A call comes up. -/
theorem all_call (i : Nat) (d : Tmp) (f : Nat) (args : Array Value) {rs : List Nat} (hi : decide (i < ops.size) = true) (hd : (opr ops i).dst = some d) (hc : Region.wanted (opr ops i) (yielded ops a.tmps) = true)
    (he : (execOp a.eval (opr ops i)).run P w = .ok (.enter f args) w)
    (hp : Calls P f args w (fun e w' => ∃ v, e = .returned v ∧ S w' ∧ wpAnyH P md ops Q S fuel (listed.setIfInBounds i true) (a.put (some d) v) w')) (hs : AllReadyH P md ops Q S fuel listed a w rs) : AllReadyH P md ops Q S fuel listed a w (i :: rs) := by
  refine AllReadyH.cons (opr_is (of_decide_eq_true hi)) (fun K hK => ?_) hs
  rw [if_pos hc]
  unfold Oper.wp
  rw [he]
  refine hp.mono ?_
  rintro e w' ⟨v, rfl, h1, h2⟩
  refine hK.out _ _ h1 (fun _ => ?_)
  rw [hd]; exact h2
/-- An operation yields its value. -/
theorem all_step (i : Nat) (d : Tmp) (v : Value) {rs : List Nat} (hi : decide (i < ops.size) = true) (hd : (opr ops i).dst = some d) (hc : Region.wanted (opr ops i) (yielded ops a.tmps) = true)
    (he : (execOp a.eval (opr ops i)).run P w = .ok (.value v) w') (hS : S w')
    (hp : wpAnyH P md ops Q S fuel (listed.setIfInBounds i true) (a.put (some d) v) w') (hs : AllReadyH P md ops Q S fuel listed a w rs) : AllReadyH P md ops Q S fuel listed a w (i :: rs) := by
  refine AllReadyH.cons (opr_is (of_decide_eq_true hi)) (fun K hK => ?_) hs
  rw [if_pos hc]
  unfold Oper.wp
  rw [he]
  refine hK.out _ _ hS (fun _ => ?_)
  rw [hd]; exact hp
theorem any_call (i : Nat) (d : Tmp) (f : Nat) (args : Array Value) (hr : Region.ready md ops listed = [i]) (hi : decide (i < ops.size) = true) (hd : (opr ops i).dst = some d) (hc : Region.wanted (opr ops i) (yielded ops a.tmps) = true)
    (he : (execOp a.eval (opr ops i)).run P w = .ok (.enter f args) w)
    (hp : Calls P f args w (fun e w' => ∃ v, e = .returned v ∧ S w' ∧ wpAnyH P md ops Q S fuel (listed.setIfInBounds i true) (a.put (some d) v) w')) : wpAnyH P md ops Q S (fuel + 1) listed a w :=
  wpAnyH_ready hr (by simp) (all_call i d f args hi hd hc he hp AllReadyH.nil)
theorem any_step (i : Nat) (d : Tmp) (v : Value) (hr : Region.ready md ops listed = [i]) (hi : decide (i < ops.size) = true) (hd : (opr ops i).dst = some d) (hc : Region.wanted (opr ops i) (yielded ops a.tmps) = true)
    (he : (execOp a.eval (opr ops i)).run P w = .ok (.value v) w') (hS : S w')
    (hp : wpAnyH P md ops Q S fuel (listed.setIfInBounds i true) (a.put (some d) v) w') : wpAnyH P md ops Q S (fuel + 1) listed a w :=
  wpAnyH_ready hr (by simp) (all_step i d v hi hd hc he hS hp AllReadyH.nil)
/-- Taken first: it yields its value in every world that meets S. -/
theorem take (i : Nat) (d : Tmp) (v : Value) (hi : decide (i < ops.size) = true) (hd : (opr ops i).dst = some d) (hs : Region.noSelect ops = true) (hf : Region.free md ops listed i = true) (hr : (Region.ready md ops listed).contains i = true)
    (hQ : ∀ c a w, Q (.panic c) (a.put (some d) v) w → Q (.panic c) a w) (hc : Region.wanted (opr ops i) (yielded ops a.tmps) = true) (hy : ∀ w, S w → (execOp a.eval (opr ops i)).run P w = .ok (.value v) w) (hS : S w)
    (h : wpAnyH P md ops Q S fuel (listed.setIfInBounds i true) (a.put (some d) v) w) : wpAnyH P md ops Q S (fuel + 1) listed a w :=
  wpAnyH_take (opr_is (of_decide_eq_true hi)) hs hf hr (by rw [hd]; exact hQ) (.inl ⟨hc, hy⟩) hS (by rw [hd]; exact h)
/-- Taken first: its guard is off. -/
theorem off (i : Nat) (d : Tmp) (hi : decide (i < ops.size) = true) (hd : (opr ops i).dst = some d) (hs : Region.noSelect ops = true) (hf : Region.free md ops listed i = true) (hr : (Region.ready md ops listed).contains i = true)
    (hQ : ∀ c a w, Q (.panic c) (a.put (some d) undef) w → Q (.panic c) a w) (hc : Region.wanted (opr ops i) (yielded ops a.tmps) = false) (hS : S w)
    (h : wpAnyH P md ops Q S fuel (listed.setIfInBounds i true) (a.put (some d) undef) w) : wpAnyH P md ops Q S (fuel + 1) listed a w :=
  wpAnyH_take (opr_is (of_decide_eq_true hi)) hs hf hr (by rw [hd]; exact hQ) (.inr ⟨hc, rfl⟩) hS (by rw [hd]; exact h)
theorem exec_convert {ev : Operand → Value} {o : Oper} (src dst : TypeId) (x : Operand) (u : Value) {v : Value} (ho : o.op = .convert src dst x) (hx : ev x = u) (h : (convert src dst u).run P w = .ok v w) : (execOp ev o).run P w = .ok (.value v) w := by
  unfold execOp
  simp only [ho, hx, Sem.run_bind, Sem.run_pure, Result.andThen_ok, h]
theorem exec_streq {ev : Operand → Value} {o : Oper} (t ty : TypeId) (x y : Operand) (b c : ByteArray) (ho : o.op = .binOp .eql t x y ty) (hx : ev x = .string b) (hy : ev y = .string c) (r : Bool) (hr : (b.toList == c.toList) = r) :
    (execOp ev o).run P w = .ok (.value (.bool r)) w := by
  unfold execOp
  simp [ho, hx, hy, eqGuard, go_sem, hr]
end
end Go.Proofs.Ytbojokjommmebaa.MoReg
