/- 'ExactFracs' returns true for every input. No condition. -/
import Derived.Test.YtodoimeiklilhaaFracsLaw
import Derived.Test.YtodoimeiklilhaaPlainOpen
set_option linter.unusedVariables false
set_option linter.unusedSimpArgs false
namespace Go.Proofs.Ytodoimeiklilhaa
open Go.RowKit Go.Sort Go.ChangeShapes Go.WideShapes Go.ChangeAt

theorem fracs_law_true (num : Int) (w_num : InI64 num) (den : Int) (w_den : InI64 den) (a : Frac) (w_a : a.wide) (b : Frac) (w_b : b.wide) (w : World) :
    Calls Try.prog 3 #[.int .i64 num, .int .i64 den, fracV a, fracV b] w fun e w' => e = .returned (.bool true) ∧ Ext w w' := by
  obtain ⟨a1, a2⟩ := a
  obtain ⟨b1, b2⟩ := b
  exact fracs_walk num den a1 a2 b1 b2 _ _ _ _ _ _ _ _ _ _ _ _ _ _ _ _ _ _ w (c_Make _ _ w_num w_den) (r_Make _ _ w_num w_den) (c_Check _ w_a) (r_Check _ w_a) (c_Compare _ _ w_a w_b) (r_Compare _ _ w_a w_b) (c_Add _ _ w_a w_b) (r_Add _ _ w_a w_b) (c_Sub _ _ w_a w_b) (r_Sub _ _ w_a w_b) (c_Mul _ _ w_a w_b) (r_Mul _ _ w_a w_b) (c_Div _ _ w_a w_b) (r_Div _ _ w_a w_b)
set_option maxRecDepth 100000 in
theorem fracs_lifted (os : Os) (started : os.Started) (H : Type) (enc : TypeId × Value → H) :
    ReturnsInHanded {} Try.checked os 3 .any (Rows.exactFracsSpec.pre6 enc Try.prog Try.f3 Rows.exactFracsRow.domain false) (Rows.exactFracsSpec.post enc Try.prog Try.f3 false true false false) := by
  refine law_returns (C := Try.checked) started own laidOut (by kernel_rfl) Try.func3 rfl Try.underlying4 rfl ?_ (of_decide_eq_true (by kernel_rfl))
    (ChangeSpec.witness6 (enc := enc) (C := Try.checked) false ⟨#[], #[.int .i64 0, .int .i64 0, .agg #[.int .i64 0, .int .i64 0], .agg #[.int .i64 0, .int .i64 0]], []⟩ 8 (by kernel_rfl) (by kernel_rfl) (by kernel_rfl) (by kernel_rfl)) ?_
  · intro ds hds
    rw [Try.params3] at hds
    match ds, hds with
    | [d1, d2, d3, d4], _ => exact ⟨rfl, rfl, rfl⟩
  · intro W base args ds p hval0 hA0
    have hval : ∀ (j : Nat) t v, Try.f3.params[j]? = some t → args[j]? = some v → Value.okWide Try.prog W .any base t v := hval0
    have hA : DataW.TrodAll enc Try.prog W 0 (fun _ => true) true Try.f3.params.toList args.toList ds p := hA0
    rw [Try.params3] at hA hval
    obtain ⟨v0, v1, v2, v3, d0, d1, d2, d3, p0, p1, p2, p3, rfl, rfl, rfl, h0, h1, h2, h3⟩ := trodAll_four hA
    obtain ⟨num, rfl, rfl, rfl, w0⟩ := open_int Try.underlying3 (hval 0 3 v0 rfl rfl) h0
    obtain ⟨den, rfl, rfl, rfl, w1⟩ := open_int Try.underlying3 (hval 1 3 v1 rfl rfl) h1
    obtain ⟨a, rfl, w2⟩ := open_frac (hval 2 23 v2 rfl rfl) h2
    obtain ⟨b, rfl, w3⟩ := open_frac (hval 3 23 v3 rfl rfl) h3
    exact fracs_law_true num (wf_in w0) den (wf_in w1) a w2 b w3 W
theorem fracs_hold : Rows.ExactFracsSaid :=
  OpenClaim.holds_of_wide 3 Try.f3 rfl rfl rfl rfl rfl rfl rfl ⟨rfl, rfl, rfl, rfl, rfl⟩ rfl rfl rfl rfl rfl (by kernel_rfl) Try.func3 (by kernel_rfl)
    (of_decide_eq_true (by kernel_rfl)) (by unfold Func.isWrapper; rw [if_neg (of_decide_eq_false (by kernel_rfl))]; exact ⟨rfl, rfl⟩)
    (fun os started H enc _ => fracs_lifted os started H enc)
#print axioms fracs_hold
end Go.Proofs.Ytodoimeiklilhaa
