/- FindExamples: no input; true. No condition. -/
import Derived.Test.YtipkjdfnoonpcaaExLaw
import Derived.Test.YtipkjdfnoonpcaaFindArgs2
import Derived.Test.YtipkjdfnoonpcaaFindArgs
set_option linter.unusedVariables false
set_option linter.unusedSimpArgs false
namespace Go.Proofs.Ytipkjdfnoonpcaa
open Go.RowKit Go.Sort Go.ChangeShapes Go.WideShapes Go.ChangeAt

set_option maxRecDepth 100000 in
theorem findExamples_holds_lifted (os : Os) (started : os.Started) (H : Type) (enc : TypeId × Value → H) :
    ReturnsInHanded {} Try.checked os 7 .any (Rows.findExamplesSpec.pre6 enc Try.prog Try.f7 Rows.findExamplesRow.domain false) (Rows.findExamplesSpec.post enc Try.prog Try.f7 false true false false) := by
  refine law_returns started (by kernel_rfl) Try.func7 rfl Try.underlying4 rfl ?_ (of_decide_eq_true (by kernel_rfl))
    (ChangeSpec.witness6 (enc := enc) (C := Try.checked) false ⟨#[], #[], []⟩ 8 (by kernel_rfl) (by kernel_rfl) (by kernel_rfl) (by kernel_rfl)) ?_
  · intro ds hds
    rw [Try.params7] at hds
    match ds, hds with
    | [], _ => exact ⟨rfl, rfl, rfl⟩
  · intro W base args ds p hval0 hA0 hsz0
    have hval : ∀ (j : Nat) t v, Try.f7.params[j]? = some t → args[j]? = some v → Value.okWide Try.prog W .any base t v := hval0
    have hA : DataW.TrodAll enc Try.prog W 0 (fun _ => true) true Try.f7.params.toList args.toList ds p := hA0
    have hsz : (DataW.weightsEach Try.prog (Try.f7.params.toList ++ []) (ds ++ [])).all (· ≤ reachBytes) = true := hsz0
    rw [Try.params7] at hA hval hsz
    obtain ⟨e0, rfl, rfl⟩ := trodAll_nil hA
    obtain rfl : args = #[] := Array.toList_inj.1 e0
    
    exact g7  W 

theorem findExamples_holds : Rows.FindExamplesSaid :=
  OpenClaim.holds_of_wide 7 Try.f7 rfl rfl rfl rfl rfl rfl rfl ⟨rfl, rfl, rfl, rfl, rfl⟩ rfl rfl rfl rfl rfl (by kernel_rfl) Try.func7 (by kernel_rfl)
    (of_decide_eq_true (by kernel_rfl)) (by unfold Func.isWrapper; rw [if_neg (of_decide_eq_false (by kernel_rfl))]; exact ⟨rfl, rfl⟩)
    (fun os started H enc _ => findExamples_holds_lifted os started H enc)
#print axioms findExamples_holds
end Go.Proofs.Ytipkjdfnoonpcaa
