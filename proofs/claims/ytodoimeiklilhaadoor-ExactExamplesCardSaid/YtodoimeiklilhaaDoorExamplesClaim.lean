/- 'ExactExamples' returns true for every input. The listed tables and the two errors of strconv read as the program's text lays them. -/
import Derived.Test.YtodoimeiklilhaaDoorExamplesLaw
import Derived.Test.YtodoimeiklilhaaDoorGAlive
import Derived.Test.YtodoimeiklilhaaDoorLawFrame2
import Derived.Test.YtodoimeiklilhaaDoorTie
import Derived.Test.YtodoimeiklilhaaDoorCards
import Derived.SevenTiedAt
set_option linter.unusedVariables false
set_option linter.unusedSimpArgs false
namespace Go.Proofs.YtodoimeiklilhaaDoor
open Go.RowKit Go.Sort Go.ChangeShapes Go.WideShapes Go.ChangeAt


set_option maxRecDepth 100000 in
theorem examples_lifted (os : Os) (started : os.Started) (H : Type) (enc : TypeId × Value → H) :
    ReturnsInHanded {} Tryd.checked os 4 .any (fun w args => (Rows.exactExamplesSpec.pre enc Tryd.prog Tryd.f4 [] false w args ∧ laidMetH Tryd.prog laidP w) ∧ sizedMet enc Tryd.prog Tryd.f4 (OpenSpec.ofChange Rows.exactExamplesSpec) false w args)
      (Rows.exactExamplesSpec.post enc Tryd.prog Tryd.f4 false true false false) := by
  refine law_returns5 started laidP (by kernel_rfl) Tryd.func4 rfl Tryd.underlying4 rfl ?_ (of_decide_eq_true (by kernel_rfl))
    (ChangeSpec.witness_shaped (enc := enc) (C := Tryd.checked) (os := os) (X := fun w _ => laidMetH Tryd.prog laidP w) false (World.laidAll Tryd.prog os laidP) #[] 8 (World.laidAll_os _ _ _)
      (World.shaped_of_ZipB (by kernel_rfl) (by kernel_rfl)) (by kernel_rfl) (by kernel_rfl) (by kernel_rfl) (met5 os _)) ?_
  · intro ds hds
    rw [Tryd.params4] at hds
    match ds, hds with
    | [], _ => exact ⟨rfl, rfl, rfl⟩
  · intro W base args ds p hval0 hA0 hL hSh
    have hval : ∀ (j : Nat) t v, Tryd.f4.params[j]? = some t → args[j]? = some v → Value.okWide Tryd.prog W .any base t v := hval0
    have hA : DataW.TrodAll enc Tryd.prog W 0 (fun _ => true) true Tryd.f4.params.toList args.toList ds p := hA0
    rw [Tryd.params4] at hA hval
    obtain ⟨e0, rfl, rfl⟩ := trodAll_nil hA
    obtain rfl : args = #[] := Array.toList_inj.1 e0

    exact examples_law_true  W (pow_of5 hL) (libV_of hL hSh)
theorem examples_holds : Rows.ExactExamplesSaid :=
  OpenClaim.holds_of_wide 4 Tryd.f4 rfl rfl rfl rfl rfl rfl rfl ⟨rfl, rfl, rfl, rfl, rfl⟩ rfl rfl rfl rfl rfl (by kernel_rfl) Tryd.func4 (by kernel_rfl)
    (of_decide_eq_true (by kernel_rfl)) (by unfold Func.isWrapper; rw [if_neg (of_decide_eq_false (by kernel_rfl))]; exact ⟨rfl, rfl⟩)
    (fun os started H enc _ => examples_lifted os started H enc)
theorem examples_card_holds : Rows.ExactExamplesCardSaid :=
  Claim7.holds_tied_plain_at .later [] [.data, .data, .data, .sentinel, .sentinel] true (true, "73743f9602a8d5b2498bc42576e978659e5ec542a0c108d2da9e79b7b063b3cf") true
    examples_holds (fun _ h => by cases h) (by kernel_rfl) (fun _ h => by cases h) exactExamples_row_tie rfl ⟨rfl, rfl⟩ (by kernel_rfl) rfl
    (fun f fn hf hfn => by
      obtain rfl : f = 4 := Option.some.inj ((show Tryd.prog.funcNamed "sightbench/sightbenchlaw01.ExactExamples" = some 4 by kernel_rfl).symm.trans hf) |>.symm
      obtain rfl : fn = Tryd.f4 := (Option.some.inj (Tryd.func4.symm.trans hfn)).symm
      exact ⟨by kernel_rfl, fun j t ht => by
        rw [Tryd.params4] at ht
        simp at ht⟩)
    (by kernel_rfl)
#print axioms examples_card_holds
end Go.Proofs.YtodoimeiklilhaaDoor
