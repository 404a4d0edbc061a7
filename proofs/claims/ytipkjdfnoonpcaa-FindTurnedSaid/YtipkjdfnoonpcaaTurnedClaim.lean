/- FindTurned: whatever the input, true; the input reads as it did. No condition. -/
import Derived.Test.YtipkjdfnoonpcaaTurnedLaw
import Derived.Test.YtipkjdfnoonpcaaFindArgs2
import Derived.Test.YtipkjdfnoonpcaaFindArgs
set_option linter.unusedVariables false
set_option linter.unusedSimpArgs false
namespace Go.Proofs.Ytipkjdfnoonpcaa
open Go.RowKit Go.Sort Go.ChangeShapes Go.WideShapes Go.ChangeAt

set_option maxRecDepth 100000 in
theorem findTurned_holds_lifted (os : Os) (started : os.Started) (H : Type) (enc : TypeId × Value → H) :
    ReturnsInHanded {} Try.checked os 17 .any (Rows.findTurnedSpec.pre6 enc Try.prog Try.f17 Rows.findTurnedRow.domain false) (Rows.findTurnedSpec.post enc Try.prog Try.f17 false true false false) := by
  refine law_returns started (by kernel_rfl) Try.func17 rfl Try.underlying4 rfl ?_ (of_decide_eq_true (by kernel_rfl))
    (ChangeSpec.witness6 (enc := enc) (C := Try.checked) false ⟨#[], #[.agg #[.int .i64 0, .int .i64 0, .slice none 0 0], .agg #[.int .i64 0, .int .i64 0, .int .i64 0], .int .i64 0], []⟩ 8 (by kernel_rfl) (by kernel_rfl) (by kernel_rfl) (by kernel_rfl)) ?_
  · intro ds hds
    rw [Try.params17] at hds
    match ds, hds with
    | [d1, d2, d3], _ => exact ⟨rfl, rfl, rfl⟩
  · intro W base args ds p hval0 hA0 hsz0
    have hval : ∀ (j : Nat) t v, Try.f17.params[j]? = some t → args[j]? = some v → Value.okWide Try.prog W .any base t v := hval0
    have hA : DataW.TrodAll enc Try.prog W 0 (fun _ => true) true Try.f17.params.toList args.toList ds p := hA0
    have hsz : (DataW.weightsEach Try.prog (Try.f17.params.toList ++ []) (ds ++ [])).all (· ≤ reachBytes) = true := hsz0
    rw [Try.params17] at hA hval hsz
    obtain ⟨v0, v1, v2, d0, d1, d2, p0, p1, p2, rfl, rfl, rfl, h0, h1, h2⟩ := trodAll_three hA
    obtain ⟨m0, u0, rfl, y0, l0, s0, x0⟩ := read_img 24 (.inl rfl) (hval 0 24 v0 rfl rfl) h0
    obtain ⟨t1, rfl⟩ := read_tool (hval 1 26 v1 rfl rfl) h1
    obtain ⟨a2, rfl, rfl, rfl, w2⟩ := open_int Try.underlying3 (hval 2 3 v2 rfl rfl) h2
    exact g17 m0 u0 t1 a2 W y0 (by rcases s0 with h9 | ⟨e0, e1, es, sp, rfl, h9⟩; rw [h9]; simp; rw [← h9]; exact img_size hsz (j := 0) (t := 24) (.inl rfl) rfl rfl) w2

theorem findTurned_holds : Rows.FindTurnedSaid :=
  OpenClaim.holds_of_wide 17 Try.f17 rfl rfl rfl rfl rfl rfl rfl ⟨rfl, rfl, rfl, rfl, rfl⟩ rfl rfl rfl rfl rfl (by kernel_rfl) Try.func17 (by kernel_rfl)
    (of_decide_eq_true (by kernel_rfl)) (by unfold Func.isWrapper; rw [if_neg (of_decide_eq_false (by kernel_rfl))]; exact ⟨rfl, rfl⟩)
    (fun os started H enc _ => findTurned_holds_lifted os started H enc)
#print axioms findTurned_holds
end Go.Proofs.Ytipkjdfnoonpcaa
