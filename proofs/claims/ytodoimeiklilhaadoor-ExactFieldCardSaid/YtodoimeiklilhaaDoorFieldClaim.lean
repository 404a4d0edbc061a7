/- 'ExactField' returns true for every input. The three listed tables read as the program's text lays them. -/
import Derived.Test.YtodoimeiklilhaaDoorFieldLaw
import Derived.Test.YtodoimeiklilhaaDoorFieldMath
import Derived.Test.YtodoimeiklilhaaDoorGAlive
import Derived.Test.YtodoimeiklilhaaDoorTie
import Derived.Test.YtodoimeiklilhaaDoorCards
import Derived.SevenTiedAt
set_option linter.unusedVariables false
set_option linter.unusedSimpArgs false
namespace Go.Proofs.YtodoimeiklilhaaDoor
open Go.RowKit Go.Sort Go.ChangeShapes Go.WideShapes Go.ChangeAt

theorem field_law_true (a : Frac) (w_a : a.wide) (b : Frac) (w_b : b.wide) (c : Frac) (w_c : c.wide) (w : World) (hP : Pow w) :
    Calls Tryd.prog 5 #[fracV a, fracV b, fracV c] w fun e w' => e = .returned (.bool true) ∧ Ext w w' := by
  obtain ⟨a1, a2⟩ := a
  obtain ⟨b1, b2⟩ := b
  obtain ⟨c1, c2⟩ := c
  by_cases hok : Frac.ok ⟨a1, a2⟩ ∧ Frac.ok ⟨b1, b2⟩ ∧ Frac.ok ⟨c1, c2⟩
  · have k2 := c_Add ⟨b1, b2⟩ ⟨a1, a2⟩ w_b w_a
    have k4 := c_Mul ⟨b1, b2⟩ ⟨a1, a2⟩ w_b w_a
    have k5 := c_Add ⟨a1, a2⟩ ⟨0, 1⟩ w_a ⟨zero_in, one_in⟩
    have k6 := c_Mul ⟨a1, a2⟩ ⟨1, 1⟩ w_a ⟨one_in, one_in⟩
    rw [show opR (fun p q => answer (p + q)) (⟨b1, b2⟩ : Frac) ⟨a1, a2⟩ = opR (fun p q => answer (p + q)) ⟨a1, a2⟩ ⟨b1, b2⟩ from add_comm_law _ _] at k2
    rw [show opR (fun p q => answer (p * q)) (⟨b1, b2⟩ : Frac) ⟨a1, a2⟩ = opR (fun p q => answer (p * q)) ⟨a1, a2⟩ ⟨b1, b2⟩ from mul_comm_law _ _] at k4
    rw [show opR (fun p q => answer (p + q)) (⟨a1, a2⟩ : Frac) ⟨0, 1⟩ = (⟨a1, a2⟩, 0) from (zero_one_law _ hok.1).1] at k5
    rw [show opR (fun p q => answer (p * q)) (⟨a1, a2⟩ : Frac) ⟨1, 1⟩ = (⟨a1, a2⟩, 0) from (zero_one_law _ hok.1).2] at k6
    exact field_walk a1 a2 b1 b2 c1 c2 _ _ _ _ _ _ _ _ _ _ _ _ _ _ _ _ _ _ _ _ _ _ _ _ _ _ _ _ _ _ _ _ _ _ _ _ _ _ _ _ w hP (l_valid3 _ _ _ w_a w_b w_c) (c_Add _ _ w_a w_b) k2 (c_Mul _ _ w_a w_b) k4 k5 k6
      (c_Add _ _ (opR_wide _ (fun _ _ => answer_wide _) _ _) w_c) (c_Add _ _ w_b w_c) (c_Add _ _ w_a (opR_wide _ (fun _ _ => answer_wide _) _ _)) (l_valid2 _ _ (opR_wide _ (fun _ _ => answer_wide _) _ _) (opR_wide _ (fun _ _ => answer_wide _) _ _))
      (c_Mul _ _ (opR_wide _ (fun _ _ => answer_wide _) _ _) w_c) (c_Mul _ _ w_b w_c) (c_Mul _ _ w_a (opR_wide _ (fun _ _ => answer_wide _) _ _)) (l_valid2 _ _ (opR_wide _ (fun _ _ => answer_wide _) _ _) (opR_wide _ (fun _ _ => answer_wide _) _ _))
      (c_Mul _ _ (opR_wide _ (fun _ _ => answer_wide _) _ _) w_c) (c_Mul _ _ w_a w_c) (c_Mul _ _ w_b w_c) (l_valid1 _ (opR_wide _ (fun _ _ => answer_wide _) _ _)) (c_Add _ _ (opR_wide _ (fun _ _ => answer_wide _) _ _) (opR_wide _ (fun _ _ => answer_wide _) _ _)) (field_law _ _ _)
  · have kv := fun k w h => l_valid3 ⟨a1, a2⟩ ⟨b1, b2⟩ ⟨c1, c2⟩ w_a w_b w_c k w h
    rw [decide_eq_false hok] at kv
    exact field_no a1 a2 b1 b2 c1 c2 w hP kv
set_option maxRecDepth 100000 in
theorem field_lifted (os : Os) (started : os.Started) (H : Type) (enc : TypeId × Value → H) :
    ReturnsInHanded {} Tryd.checked os 5 .any (fun w args => (Rows.exactFieldSpec.pre enc Tryd.prog Tryd.f5 [] false w args ∧ laidMetH Tryd.prog laidB w) ∧ sizedMet enc Tryd.prog Tryd.f5 (OpenSpec.ofChange Rows.exactFieldSpec) false w args)
      (Rows.exactFieldSpec.post enc Tryd.prog Tryd.f5 false true false false) := by
  refine law_returns started laidB (by kernel_rfl) Tryd.func5 rfl Tryd.underlying4 rfl ?_ (of_decide_eq_true (by kernel_rfl))
    (ChangeSpec.witness_shaped (enc := enc) (C := Tryd.checked) (os := os) (X := fun w _ => laidMetH Tryd.prog laidB w) false (World.laidAll Tryd.prog os laidB) #[.agg #[.int .i64 0, .int .i64 0], .agg #[.int .i64 0, .int .i64 0], .agg #[.int .i64 0, .int .i64 0]] 8 (World.laidAll_os _ _ _)
      (World.shaped_of_ZipB (by kernel_rfl) (by kernel_rfl)) (by kernel_rfl) (by kernel_rfl) (by kernel_rfl) (met0 os _)) ?_
  · intro ds hds
    rw [Tryd.params5] at hds
    match ds, hds with
    | [d1, d2, d3], _ => exact ⟨rfl, rfl, rfl⟩
  · intro W base args ds p hval0 hA0 hL
    have hval : ∀ (j : Nat) t v, Tryd.f5.params[j]? = some t → args[j]? = some v → Value.okWide Tryd.prog W .any base t v := hval0
    have hA : DataW.TrodAll enc Tryd.prog W 0 (fun _ => true) true Tryd.f5.params.toList args.toList ds p := hA0
    rw [Tryd.params5] at hA hval
    obtain ⟨v0, v1, v2, d0, d1, d2, p0, p1, p2, rfl, rfl, rfl, h0, h1, h2⟩ := trodAll_three hA
    obtain ⟨a, rfl, w0⟩ := open_frac (hval 0 23 v0 rfl rfl) h0
    obtain ⟨b, rfl, w1⟩ := open_frac (hval 1 23 v1 rfl rfl) h1
    obtain ⟨c, rfl, w2⟩ := open_frac (hval 2 23 v2 rfl rfl) h2
    exact field_law_true a w0 b w1 c w2 W (pow_ofH hL)
theorem field_holds : Rows.ExactFieldSaid :=
  OpenClaim.holds_of_wide 5 Tryd.f5 rfl rfl rfl rfl rfl rfl rfl ⟨rfl, rfl, rfl, rfl, rfl⟩ rfl rfl rfl rfl rfl (by kernel_rfl) Tryd.func5 (by kernel_rfl)
    (of_decide_eq_true (by kernel_rfl)) (by unfold Func.isWrapper; rw [if_neg (of_decide_eq_false (by kernel_rfl))]; exact ⟨rfl, rfl⟩)
    (fun os started H enc _ => field_lifted os started H enc)
theorem field_card_holds : Rows.ExactFieldCardSaid :=
  Claim7.holds_tied_plain_at .later [] [.data, .data, .data] true (true, "73743f9602a8d5b2498bc42576e978659e5ec542a0c108d2da9e79b7b063b3cf") true
    field_holds (fun _ h => by cases h) (by kernel_rfl) (fun _ h => by cases h) exactField_row_tie rfl ⟨rfl, rfl⟩ (by kernel_rfl) rfl
    (fun f fn hf hfn => by
      obtain rfl : f = 5 := Option.some.inj ((show Tryd.prog.funcNamed "sightbench/sightbenchlaw01.ExactField" = some 5 by kernel_rfl).symm.trans hf) |>.symm
      obtain rfl : fn = Tryd.f5 := (Option.some.inj (Tryd.func5.symm.trans hfn)).symm
      exact ⟨by kernel_rfl, fun j t ht => by
        rw [Tryd.params5] at ht
        have hm : t ∈ [23, 23, 23] := by simpa using Array.mem_of_getElem? ht
        have hall : ([23, 23, 23].all fun u => !Tryd.prog.wantsStandIn u) = true := by kernel_rfl
        exact (show Tryd.prog.wantsStandIn t = false by simpa using List.all_eq_true.1 hall t hm)⟩)
    (by kernel_rfl)
#print axioms field_card_holds
end Go.Proofs.YtodoimeiklilhaaDoor
