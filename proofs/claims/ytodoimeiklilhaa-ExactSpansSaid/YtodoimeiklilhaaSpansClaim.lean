/- 'ExactSpans' returns true for every input. No condition. -/
import Derived.Test.YtodoimeiklilhaaSpansLaw
import Derived.Test.YtodoimeiklilhaaPlainOpen
set_option linter.unusedVariables false
set_option linter.unusedSimpArgs false
namespace Go.Proofs.Ytodoimeiklilhaa
open Go.RowKit Go.Sort Go.ChangeShapes Go.WideShapes Go.ChangeAt

theorem spans_law_true (a : Span) (w_a : a.wide) (b : Span) (w_b : b.wide) (x : Frac) (w_x : x.wide) (w : World) :
    Calls Try.prog 4 #[fspanV a, fspanV b, fracV x] w fun e w' => e = .returned (.bool true) ∧ Ext w w' := by
  obtain ⟨⟨a1, a2⟩, ⟨a3, a4⟩⟩ := a
  obtain ⟨⟨b1, b2⟩, ⟨b3, b4⟩⟩ := b
  obtain ⟨x1, x2⟩ := x
  have k0 := fun w => c_AddSpans _ _ w_a w_b w
  have r0 := fun w => r_AddSpans _ _ w_a w_b w
  have k1 := fun w => c_SubSpans _ _ w_a w_b w
  have r1 := fun w => r_SubSpans _ _ w_a w_b w
  have k2 := fun w => c_MulSpans _ _ w_a w_b w
  have r2 := fun w => r_MulSpans _ _ w_a w_b w
  have k3 := fun w => c_DivSpans _ _ w_a w_b w
  have r3 := fun w => r_DivSpans _ _ w_a w_b w
  have k4 := fun w => c_Meet _ _ w_a w_b w
  have r4 := fun w => r_Meet _ _ w_a w_b w
  have k5 := fun w => c_Join _ _ w_a w_b w
  have r5 := fun w => r_Join _ _ w_a w_b w
  simp only [sansV, boxV_F] at k0 k1 k2 k3 k4 k5 r0 r1 r2 r3 r4 r5
  exact spans_walk a1 a2 a3 a4 b1 b2 b3 b4 x1 x2 _ _ _ _ _ _ _ _ _ _ _ _ _ _ _ _ _ _ _ _ _ _ _ _ _ _ _ _ _ _ _ _ _ w (c_In _ _ w_a w_x) (r_In _ _ w_a w_x) (c_CheckSpan _ w_a) (r_CheckSpan _ w_a) k0 r0 k1 r1 k2 r2 k3 r3 k4 r4 k5 r5
set_option maxRecDepth 100000 in
theorem spans_lifted (os : Os) (started : os.Started) (H : Type) (enc : TypeId × Value → H) :
    ReturnsInHanded {} Try.checked os 4 .any (Rows.exactSpansSpec.pre6 enc Try.prog Try.f4 Rows.exactSpansRow.domain false) (Rows.exactSpansSpec.post enc Try.prog Try.f4 false true false false) := by
  refine law_returns (C := Try.checked) started own laidOut (by kernel_rfl) Try.func4 rfl Try.underlying4 rfl ?_ (of_decide_eq_true (by kernel_rfl))
    (ChangeSpec.witness6 (enc := enc) (C := Try.checked) false ⟨#[], #[.agg #[.int .i64 0, .int .i64 0, .int .i64 0, .int .i64 0], .agg #[.int .i64 0, .int .i64 0, .int .i64 0, .int .i64 0], .agg #[.int .i64 0, .int .i64 0]], []⟩ 8 (by kernel_rfl) (by kernel_rfl) (by kernel_rfl) (by kernel_rfl)) ?_
  · intro ds hds
    rw [Try.params4] at hds
    match ds, hds with
    | [d1, d2, d3], _ => exact ⟨rfl, rfl, rfl⟩
  · intro W base args ds p hval0 hA0
    have hval : ∀ (j : Nat) t v, Try.f4.params[j]? = some t → args[j]? = some v → Value.okWide Try.prog W .any base t v := hval0
    have hA : DataW.TrodAll enc Try.prog W 0 (fun _ => true) true Try.f4.params.toList args.toList ds p := hA0
    rw [Try.params4] at hA hval
    obtain ⟨v0, v1, v2, d0, d1, d2, p0, p1, p2, rfl, rfl, rfl, h0, h1, h2⟩ := trodAll_three hA
    obtain ⟨a, rfl, w0⟩ := open_span (hval 0 39 v0 rfl rfl) h0
    obtain ⟨b, rfl, w1⟩ := open_span (hval 1 39 v1 rfl rfl) h1
    obtain ⟨x, rfl, w2⟩ := open_frac (hval 2 23 v2 rfl rfl) h2
    exact spans_law_true a w0 b w1 x w2 W
theorem spans_hold : Rows.ExactSpansSaid :=
  OpenClaim.holds_of_wide 4 Try.f4 rfl rfl rfl rfl rfl rfl rfl ⟨rfl, rfl, rfl, rfl, rfl⟩ rfl rfl rfl rfl rfl (by kernel_rfl) Try.func4 (by kernel_rfl)
    (of_decide_eq_true (by kernel_rfl)) (by unfold Func.isWrapper; rw [if_neg (of_decide_eq_false (by kernel_rfl))]; exact ⟨rfl, rfl⟩)
    (fun os started H enc _ => spans_lifted os started H enc)
#print axioms spans_hold
end Go.Proofs.Ytodoimeiklilhaa
