/- Guarded operations: values under a condition. Generic but for the calls of closures. -/
import Derived.Test.YtcbimfaneinpkaaSeqReg
import Derived.Test.YtcbimfaneinpkaaHitFns
set_option linter.unusedVariables false
set_option linter.unusedSimpArgs false
namespace Go.Proofs.Ytcbimfaneinpkaa.RG
open Go Go.RowKit Go.Sort

def cv (c : Bool) (x : Value) : Value := bif c then x else undef
section
variable {P : Program} {ops : Array Oper} {G : Prom} {dr : Drop} {a0 : Act} {w0 : World}
theorem cv_wanted {o : Oper} {g tg : Nat} {want Cg Bg C : Bool} {a : Act} (hg : o.guard = some (g, want)) (htg : (ops[g]?).bind (·.dst) = some tg) (hC : C = (Cg && (Bg == want))) (hr : a.tmps.getD tg undef = cv Cg (.bool Bg)) :
    Region.wanted o (yielded ops a.tmps) = C := by
  unfold Region.wanted
  rw [hg]
  simp only
  rw [yielded_getD, htg]
  simp only
  rw [hr, hC]
  cases Cg <;> cases Bg <;> cases want <;> rfl
theorem st_cv {i : Nat} {o : Oper} {g tg : Nat} {want Cg Bg C : Bool} {X : Value} (hg : o.guard = some (g, want)) (htg : (ops[g]?).bind (·.dst) = some tg) (hC : C = (Cg && (Bg == want)))
    (hr : ∀ a w, ReadsOk ops G a0 i o a w → a.tmps.getD tg undef = cv Cg (.bool Bg)) (hG : ∀ v w, v = cv C X → G i v w) (hstab : ∀ j v w w', G j v w → Ext w w' → G j v w')
    (h : C = true → ∀ a w, Ext w0 w → ReadsOk ops G a0 i o a w → (execOp a.eval o).run P w = .ok (.value X) w) : Step P ops G dr a0 w0 i o := by
  intro a w Q hw hrd
  rw [cv_wanted hg htg hC (hr a w hrd)]
  cases hc : C with
  | true =>
    rw [if_pos rfl]
    unfold Oper.wp
    rw [h hc a w hw hrd]
    exact ⟨X, rfl, hw, fun j v _ _ _ h => h, hG _ _ (by rw [hc]; rfl)⟩
  | false =>
    rw [if_neg (by simp)]
    exact hG _ _ (by rw [hc]; rfl)
theorem st_cv_call {i : Nat} {o : Oper} {g tg : Nat} {want Cg Bg C : Bool} {X : Value} (hg : o.guard = some (g, want)) (htg : (ops[g]?).bind (·.dst) = some tg) (hC : C = (Cg && (Bg == want)))
    (hr : ∀ a w, ReadsOk ops G a0 i o a w → a.tmps.getD tg undef = cv Cg (.bool Bg)) (hG : ∀ v w, v = cv C X → G i v w) (hstab : ∀ j v w w', G j v w → Ext w w' → G j v w') {f : FuncId} {args : Array Value}
    (h : C = true → ∀ a w, Ext w0 w → ReadsOk ops G a0 i o a w → (execOp a.eval o).run P w = .ok (.enter f args) w) (hcall : ∀ w, Ext w0 w → Calls P f args w fun e w' => e = .returned X ∧ Ext w w') : Step P ops G dr a0 w0 i o := by
  intro a w Q hw hrd
  rw [cv_wanted hg htg hC (hr a w hrd)]
  cases hc : C with
  | true =>
    rw [if_pos rfl]
    unfold Oper.wp
    rw [h hc a w hw hrd, Oper.upon_enter]
    refine (hcall w hw).mono ?_
    rintro e w' ⟨rfl, h2⟩
    exact ⟨X, rfl, hw.trans h2, fun j v _ _ _ h => hstab j v _ _ h h2, hG _ _ (by rw [hc]; rfl)⟩
  | false =>
    rw [if_neg (by simp)]
    exact hG _ _ (by rw [hc]; rfl)
theorem st_closure {i : Nat} {o : Oper} {X : Value} (hg : o.guard = none) (hG : ∀ w, G i X w) (hstab : ∀ j v w w', G j v w → Ext w w' → G j v w') {f : FuncId} {args : Array Value}
    (h : ∀ a w, Ext w0 w → ReadsOk ops G a0 i o a w → (execOp a.eval o).run P w = .ok (.enter f args) w) (hcall : ∀ w, Ext w0 w → Calls P f args w fun e w' => e = .returned X ∧ Ext w w') : Step P ops G dr a0 w0 i o := by
  intro a w Q hw hrd
  rw [if_pos (by simp [Region.wanted, hg])]
  unfold Oper.wp
  rw [h a w hw hrd, Oper.upon_enter]
  refine (hcall w hw).mono ?_
  rintro e w' ⟨rfl, h2⟩
  exact ⟨X, rfl, hw.trans h2, fun j v _ _ _ h => hstab j v _ _ h h2, hG _⟩
end
abbrev vals (Xs : List Value) : List (Value → World → Prop) := Xs.map fun X v _ => v = X
theorem stab_vals (Xs : List Value) : ∀ j v w w', G_of (vals Xs) j v w → Ext w w' → G_of (vals Xs) j v w' := by
  intro j v w w' h _
  unfold G_of vals at *
  rw [List.getD_eq_getElem?_getD, List.getElem?_map] at h ⊢
  cases hx : Xs[j]? with
  | none => trivial
  | some X =>
    rw [hx] at h
    exact (show v = X from h)
theorem vals_at {Xs : List Value} {i : Nat} {X : Value} {w : World} (h : Xs[i]? = some X) : G_of (vals Xs) i X w := by
  unfold G_of vals
  rw [List.getD_eq_getElem?_getD, List.getElem?_map, h]
  rfl
theorem run_closure {P : Program} {o : Oper} {a : Act} {w : World} {f : FuncId} {fn : Func} {p : Value} {t : Nat} {x : Operand} {ats : Array TypeId} (ho : o.op = .call { callee := .value (.tmp t), args := #[x], argTypes := ats })
    (ht : a.tmps.getD t undef = .func (.func f) #[] #[p]) (hf : P.funcs[f]? = some fn) (hn : (fn.name == "runtime.NumGoroutine") = false) (hb : fn.body.isNone = false) : (execOp a.eval o).run P w = .ok (.enter f #[a.eval x, p]) w := by
  have e : execOp a.eval o = callFunc f (#[] ++ #[a.eval x] ++ #[p]) := by
    have e0 : a.eval (.tmp t) = .func (.func f) #[] #[p] := ht
    unfold execOp
    rw [ho]
    simp [resolve, e0, invoke]
    rfl
  rw [e, run_callFunc_go hf hn hb]
  rfl
end Go.Proofs.Ytcbimfaneinpkaa.RG
