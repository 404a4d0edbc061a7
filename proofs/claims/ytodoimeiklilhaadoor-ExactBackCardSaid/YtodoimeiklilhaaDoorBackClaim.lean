/- 'ExactBack' returns true for every input. The three listed tables read as the program's text lays them. -/
import Derived.Test.YtodoimeiklilhaaDoorBackLaw
import Derived.Test.YtodoimeiklilhaaDoorFracLaws
import Derived.Test.YtodoimeiklilhaaDoorGAlive
import Derived.Test.YtodoimeiklilhaaDoorTie
import Derived.Test.YtodoimeiklilhaaDoorCards
import Derived.SevenTiedAt
set_option linter.unusedVariables false
set_option linter.unusedSimpArgs false
namespace Go.Proofs.YtodoimeiklilhaaDoor
open Go.RowKit Go.Sort Go.ChangeShapes Go.WideShapes Go.ChangeAt

theorem back_law_true (a : Frac) (w_a : a.wide) (b : Frac) (w_b : b.wide) (w : World) (hP : Pow w) :
    Calls Tryd.prog 6 #[fracV a, fracV b] w fun e w' => e = .returned (.bool true) ∧ Ext w w' := by
  obtain ⟨a1, a2⟩ := a
  obtain ⟨b1, b2⟩ := b
  have k2 : ∀ x : Frac, x.wide → ∀ w, _ := fun x hx w => c_Sub x ⟨b1, b2⟩ hx w_b w
  have k4 : ∀ x : Frac, x.wide → ∀ w, _ := fun x hx w => c_Div x ⟨b1, b2⟩ hx w_b w
  by_cases hn : InI64 (-b1)
  · exact back_walk a1 a2 b1 b2 _ _ _ _ _ _ _ _ _ _ _ _ _ _ _ _ _ _ _ w hP (l_valid2 _ _ w_a w_b) (c_Add _ _ w_a w_b) (k2 _ (opR_wide _ (fun _ _ => answer_wide _) _ _)) (c_Mul _ _ w_a w_b) (k4 _ (opR_wide _ (fun _ _ => answer_wide _) _ _)) (c_Sub _ _ w_a w_b) (c_Add _ _ w_a ⟨hn, w_b.2⟩) (back_law _ _)
  · have hno : decide (Frac.ok ⟨a1, a2⟩ ∧ Frac.ok ⟨b1, b2⟩) = false := decide_eq_false (fun h => hn (by
      have := h.2.2.2
      unfold maxP at this
      simp only at this
      unfold InI64
      omega))
    have kv := fun k w h => l_valid2 ⟨a1, a2⟩ ⟨b1, b2⟩ w_a w_b k w h
    rw [hno] at kv
    exact back_no a1 a2 b1 b2 w hP kv
set_option maxRecDepth 100000 in
theorem back_lifted (os : Os) (started : os.Started) (H : Type) (enc : TypeId × Value → H) :
    ReturnsInHanded {} Tryd.checked os 6 .any (fun w args => (Rows.exactBackSpec.pre enc Tryd.prog Tryd.f6 [] false w args ∧ laidMetH Tryd.prog laidB w) ∧ sizedMet enc Tryd.prog Tryd.f6 (OpenSpec.ofChange Rows.exactBackSpec) false w args)
      (Rows.exactBackSpec.post enc Tryd.prog Tryd.f6 false true false false) := by
  refine law_returns started laidB (by kernel_rfl) Tryd.func6 rfl Tryd.underlying4 rfl ?_ (of_decide_eq_true (by kernel_rfl))
    (ChangeSpec.witness_shaped (enc := enc) (C := Tryd.checked) (os := os) (X := fun w _ => laidMetH Tryd.prog laidB w) false (World.laidAll Tryd.prog os laidB) #[.agg #[.int .i64 0, .int .i64 0], .agg #[.int .i64 0, .int .i64 0]] 8 (World.laidAll_os _ _ _)
      (World.shaped_of_ZipB (by kernel_rfl) (by kernel_rfl)) (by kernel_rfl) (by kernel_rfl) (by kernel_rfl) (met0 os _)) ?_
  · intro ds hds
    rw [Tryd.params6] at hds
    match ds, hds with
    | [d1, d2], _ => exact ⟨rfl, rfl, rfl⟩
  · intro W base args ds p hval0 hA0 hL
    have hval : ∀ (j : Nat) t v, Tryd.f6.params[j]? = some t → args[j]? = some v → Value.okWide Tryd.prog W .any base t v := hval0
    have hA : DataW.TrodAll enc Tryd.prog W 0 (fun _ => true) true Tryd.f6.params.toList args.toList ds p := hA0
    rw [Tryd.params6] at hA hval
    obtain ⟨v0, v1, d0, d1, p0, p1, rfl, rfl, rfl, h0, h1⟩ := trodAll_two hA
    obtain ⟨a, rfl, w0⟩ := open_frac (hval 0 23 v0 rfl rfl) h0
    obtain ⟨b, rfl, w1⟩ := open_frac (hval 1 23 v1 rfl rfl) h1
    exact back_law_true a w0 b w1 W (pow_ofH hL)
theorem back_holds : Rows.ExactBackSaid :=
  OpenClaim.holds_of_wide 6 Tryd.f6 rfl rfl rfl rfl rfl rfl rfl ⟨rfl, rfl, rfl, rfl, rfl⟩ rfl rfl rfl rfl rfl (by kernel_rfl) Tryd.func6 (by kernel_rfl)
    (of_decide_eq_true (by kernel_rfl)) (by unfold Func.isWrapper; rw [if_neg (of_decide_eq_false (by kernel_rfl))]; exact ⟨rfl, rfl⟩)
    (fun os started H enc _ => back_lifted os started H enc)
theorem back_card_holds : Rows.ExactBackCardSaid :=
  Claim7.holds_tied_plain_at .later [] [.data, .data, .data] true (true, "73743f9602a8d5b2498bc42576e978659e5ec542a0c108d2da9e79b7b063b3cf") true
    back_holds (fun _ h => by cases h) (by kernel_rfl) (fun _ h => by cases h) exactBack_row_tie rfl ⟨rfl, rfl⟩ (by kernel_rfl) rfl
    (fun f fn hf hfn => by
      obtain rfl : f = 6 := Option.some.inj ((show Tryd.prog.funcNamed "sightbench/sightbenchlaw01.ExactBack" = some 6 by kernel_rfl).symm.trans hf) |>.symm
      obtain rfl : fn = Tryd.f6 := (Option.some.inj (Tryd.func6.symm.trans hfn)).symm
      exact ⟨by kernel_rfl, fun j t ht => by
        rw [Tryd.params6] at ht
        have hm : t ∈ [23, 23] := by simpa using Array.mem_of_getElem? ht
        have hall : ([23, 23].all fun u => !Tryd.prog.wantsStandIn u) = true := by kernel_rfl
        exact (show Tryd.prog.wantsStandIn t = false by simpa using List.all_eq_true.1 hall t hm)⟩)
    (by kernel_rfl)
#print axioms back_card_holds
end Go.Proofs.YtodoimeiklilhaaDoor
