/- 'ExactMeets' returns true for every input. The three listed tables read as the program's text lays them. -/
import Derived.Test.YtodoimeiklilhaaDoorMeetsLaw
import Derived.Test.YtodoimeiklilhaaDoorGLaws
import Derived.Test.YtodoimeiklilhaaDoorGAlive
import Derived.Test.YtodoimeiklilhaaDoorTie
import Derived.Test.YtodoimeiklilhaaDoorCards
import Derived.SevenTiedAt
set_option linter.unusedVariables false
set_option linter.unusedSimpArgs false
namespace Go.Proofs.YtodoimeiklilhaaDoor
open Go.RowKit Go.Sort Go.ChangeShapes Go.WideShapes Go.ChangeAt

theorem meets_law_true (a : Span) (w_a : a.wide) (b : Span) (w_b : b.wide) (x : Frac) (w_x : x.wide) (w : World) (hP : Pow w) :
    Calls Tryd.prog 11 #[fspanV a, fspanV b, fracV x] w fun e w' => e = .returned (.bool true) ∧ Ext w w' := by
  obtain ⟨⟨a1, a2⟩, ⟨a3, a4⟩⟩ := a
  obtain ⟨⟨b1, b2⟩, ⟨b3, b4⟩⟩ := b
  obtain ⟨x1, x2⟩ := x
  have km := fun w => c_Meet _ _ w_a w_b w
  have kj := fun w => c_Join _ _ w_a w_b w
  simp only [sansV, boxV_span] at km kj
  exact meets_walk a1 a2 a3 a4 b1 b2 b3 b4 x1 x2 _ _ _ _ _ _ _ _ _ _ _ _ _ _ w hP (c_In _ _ w_a w_x) (c_In _ _ w_b w_x) km kj (c_In _ _ (boxSpan_wide (joinR_fits _ _)) w_x) (c_within _ _ w_a (boxSpan_wide (joinR_fits _ _))) (c_within _ _ w_b (boxSpan_wide (joinR_fits _ _)))
    (c_In _ _ (boxSpan_wide (meetR_fits _ _)) w_x) (meets_law _ _ _)
set_option maxRecDepth 100000 in
theorem meets_lifted (os : Os) (started : os.Started) (H : Type) (enc : TypeId × Value → H) :
    ReturnsInHanded {} Tryd.checked os 11 .any (fun w args => (Rows.exactMeetsSpec.pre enc Tryd.prog Tryd.f11 [] false w args ∧ laidMetH Tryd.prog laidB w) ∧ sizedMet enc Tryd.prog Tryd.f11 (OpenSpec.ofChange Rows.exactMeetsSpec) false w args)
      (Rows.exactMeetsSpec.post enc Tryd.prog Tryd.f11 false true false false) := by
  refine law_returns started laidB (by kernel_rfl) Tryd.func11 rfl Tryd.underlying4 rfl ?_ (of_decide_eq_true (by kernel_rfl))
    (ChangeSpec.witness_shaped (enc := enc) (C := Tryd.checked) (os := os) (X := fun w _ => laidMetH Tryd.prog laidB w) false (World.laidAll Tryd.prog os laidB) #[.agg #[.int .i64 0, .int .i64 0, .int .i64 0, .int .i64 0], .agg #[.int .i64 0, .int .i64 0, .int .i64 0, .int .i64 0], .agg #[.int .i64 0, .int .i64 0]] 8 (World.laidAll_os _ _ _)
      (World.shaped_of_ZipB (by kernel_rfl) (by kernel_rfl)) (by kernel_rfl) (by kernel_rfl) (by kernel_rfl) (met0 os _)) ?_
  · intro ds hds
    rw [Tryd.params11] at hds
    match ds, hds with
    | [d1, d2, d3], _ => exact ⟨rfl, rfl, rfl⟩
  · intro W base args ds p hval0 hA0 hL
    have hval : ∀ (j : Nat) t v, Tryd.f11.params[j]? = some t → args[j]? = some v → Value.okWide Tryd.prog W .any base t v := hval0
    have hA : DataW.TrodAll enc Tryd.prog W 0 (fun _ => true) true Tryd.f11.params.toList args.toList ds p := hA0
    rw [Tryd.params11] at hA hval
    obtain ⟨v0, v1, v2, d0, d1, d2, p0, p1, p2, rfl, rfl, rfl, h0, h1, h2⟩ := trodAll_three hA
    obtain ⟨a, rfl, w0⟩ := open_span (hval 0 41 v0 rfl rfl) h0
    obtain ⟨b, rfl, w1⟩ := open_span (hval 1 41 v1 rfl rfl) h1
    obtain ⟨x, rfl, w2⟩ := open_frac (hval 2 23 v2 rfl rfl) h2
    exact meets_law_true a w0 b w1 x w2 W (pow_ofH hL)
theorem meets_holds : Rows.ExactMeetsSaid :=
  OpenClaim.holds_of_wide 11 Tryd.f11 rfl rfl rfl rfl rfl rfl rfl ⟨rfl, rfl, rfl, rfl, rfl⟩ rfl rfl rfl rfl rfl (by kernel_rfl) Tryd.func11 (by kernel_rfl)
    (of_decide_eq_true (by kernel_rfl)) (by unfold Func.isWrapper; rw [if_neg (of_decide_eq_false (by kernel_rfl))]; exact ⟨rfl, rfl⟩)
    (fun os started H enc _ => meets_lifted os started H enc)
theorem meets_card_holds : Rows.ExactMeetsCardSaid :=
  Claim7.holds_tied_plain_at .later [] [.data, .data, .data] true (true, "73743f9602a8d5b2498bc42576e978659e5ec542a0c108d2da9e79b7b063b3cf") true
    meets_holds (fun _ h => by cases h) (by kernel_rfl) (fun _ h => by cases h) exactMeets_row_tie rfl ⟨rfl, rfl⟩ (by kernel_rfl) rfl
    (fun f fn hf hfn => by
      obtain rfl : f = 11 := Option.some.inj ((show Tryd.prog.funcNamed "sightbench/sightbenchlaw01.ExactMeets" = some 11 by kernel_rfl).symm.trans hf) |>.symm
      obtain rfl : fn = Tryd.f11 := (Option.some.inj (Tryd.func11.symm.trans hfn)).symm
      exact ⟨by kernel_rfl, fun j t ht => by
        rw [Tryd.params11] at ht
        have hm : t ∈ [41, 41, 23] := by simpa using Array.mem_of_getElem? ht
        have hall : ([41, 41, 23].all fun u => !Tryd.prog.wantsStandIn u) = true := by kernel_rfl
        exact (show Tryd.prog.wantsStandIn t = false by simpa using List.all_eq_true.1 hall t hm)⟩)
    (by kernel_rfl)
#print axioms meets_card_holds
end Go.Proofs.YtodoimeiklilhaaDoor
