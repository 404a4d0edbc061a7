/- The examples of the belt all hold. No condition. -/
import Derived.Test.YtcbimfaneinpkaaExB
import Derived.Test.YtcbimfaneinpkaaOpen
set_option linter.unusedVariables false
set_option linter.unusedSimpArgs false
namespace Go.Proofs.Ytcbimfaneinpkaa
open Go.RowKit Go.Sort Go.ChangeShapes Go.WideShapes Go.ChangeAt

set_option maxRecDepth 100000 in
theorem examples_hold_lifted (os : Os) (started : os.Started) (H : Type) (enc : TypeId × Value → H) :
    ReturnsInHanded {} Try.checked os 14 .any (Rows.beltExamplesSpec.pre6 enc Try.prog Try.f14 Rows.beltExamplesRow.domain false) (Rows.beltExamplesSpec.post enc Try.prog Try.f14 false true false false) := by
  refine law_returns (C := Try.checked) started own laidOut (by kernel_rfl) Try.func14 rfl Try.underlying4 rfl ?_ (of_decide_eq_true (by kernel_rfl))
    (ChangeSpec.witness6 (enc := enc) (C := Try.checked) false ⟨#[], #[], []⟩ 8 (by kernel_rfl) (by kernel_rfl) (by kernel_rfl) (by kernel_rfl)) ?_
  · intro ds hds
    rw [Try.params14] at hds
    match ds, hds with
    | [], _ => exact ⟨rfl, rfl, rfl⟩
  · intro W base args ds p hval0 hA0
    have hval : ∀ (j : Nat) t v, Try.f14.params[j]? = some t → args[j]? = some v → Value.okWide Try.prog W .any base t v := hval0
    have hA : DataW.TrodAll enc Try.prog W 0 (fun _ => true) true Try.f14.params.toList args.toList ds p := hA0
    rw [Try.params14] at hA hval
    obtain ⟨e0, rfl, rfl⟩ := trodAll_nil hA
    obtain rfl : args = #[] := Array.toList_inj.1 e0
    
    exact w14  W 

theorem examples_hold : Rows.BeltExamplesSaid :=
  OpenClaim.holds_of_wide 14 Try.f14 rfl rfl rfl rfl rfl rfl rfl ⟨rfl, rfl, rfl, rfl, rfl⟩ rfl rfl rfl rfl rfl (by kernel_rfl) Try.func14 (by kernel_rfl)
    (of_decide_eq_true (by kernel_rfl)) (by unfold Func.isWrapper; rw [if_neg (of_decide_eq_false (by kernel_rfl))]; exact ⟨rfl, rfl⟩)
    (fun os started H enc _ => examples_hold_lifted os started H enc)
#print axioms examples_hold
end Go.Proofs.Ytcbimfaneinpkaa
