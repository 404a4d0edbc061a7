/- 'ExactRoots' returns true for every input. The three listed tables read as the program's text lays them. -/
import Derived.Test.YtodoimeiklilhaaDoorRootsLaw
import Derived.Test.YtodoimeiklilhaaDoorRootsMath
import Derived.Test.YtodoimeiklilhaaDoorGAlive
import Derived.Test.YtodoimeiklilhaaDoorTie
import Derived.Test.YtodoimeiklilhaaDoorCards
import Derived.SevenTiedAt
set_option linter.unusedVariables false
set_option linter.unusedSimpArgs false
namespace Go.Proofs.YtodoimeiklilhaaDoor
open Go.RowKit Go.Sort Go.ChangeShapes Go.WideShapes Go.ChangeAt

theorem roots_law_true (a : Frac) (w_a : a.wide) (c : Int) (w_c : InI64 c) (w : World) (hP : Pow w) :
    Calls Tryd.prog 10 #[fracV a, .int .i64 c] w fun e w' => e = .returned (.bool true) ∧ Ext w w' := by
  obtain ⟨a1, a2⟩ := a
  have kr := fun w => c_Root ⟨a1, a2⟩ c w_a w_c w
  have hw := boxSpan_wide (rootAll_fits ⟨a1, a2⟩ c)
  have hl := roots_law ⟨a1, a2⟩ c w_c
  simp only [sansV, boxV_span] at kr
  unfold RootSays at hl
  generalize boxSpan (rootAll ⟨a1, a2⟩ c).1 = s at *
  obtain ⟨⟨s1, s2⟩, ⟨s3, s4⟩⟩ := s
  exact roots_walk a1 a2 c s1 s2 s3 s4 _ _ _ _ _ _ _ _ _ _ _ _ _ _ _ _ _ _ _ w hP (l_valid1 _ w_a) kr (c_CheckSpan _ hw) (c_Mul _ _ hw.1 hw.1) (c_Mul _ _ hw.2 hw.2) (c_Compare _ _ (opR_wide _ (fun _ _ => answer_wide _) _ _) w_a) (c_Compare _ _ (opR_wide _ (fun _ _ => answer_wide _) _ _) w_a) (c_Sub _ _ hw.2 hw.1) (c_Make 1 c one_in w_c)
    ⟨hl.1, fun h1 h2 h3 h4 => ⟨(hl.2 h1 h2 h3 h4).1, fun b1 b2 => by
      obtain ⟨r0, r1, r2, r3, r4, r5, r6, r7, r8, r9, r10⟩ := (hl.2 h1 h2 h3 h4).2 b1 b2
      exact ⟨r0, r1, r2, r3, r4, r5, r6, r7, r8, r9, r10⟩⟩⟩
set_option maxRecDepth 100000 in
theorem roots_lifted (os : Os) (started : os.Started) (H : Type) (enc : TypeId × Value → H) :
    ReturnsInHanded {} Tryd.checked os 10 .any (fun w args => (Rows.exactRootsSpec.pre enc Tryd.prog Tryd.f10 [] false w args ∧ laidMetH Tryd.prog laidB w) ∧ sizedMet enc Tryd.prog Tryd.f10 (OpenSpec.ofChange Rows.exactRootsSpec) false w args)
      (Rows.exactRootsSpec.post enc Tryd.prog Tryd.f10 false true false false) := by
  refine law_returns started laidB (by kernel_rfl) Tryd.func10 rfl Tryd.underlying4 rfl ?_ (of_decide_eq_true (by kernel_rfl))
    (ChangeSpec.witness_shaped (enc := enc) (C := Tryd.checked) (os := os) (X := fun w _ => laidMetH Tryd.prog laidB w) false (World.laidAll Tryd.prog os laidB) #[.agg #[.int .i64 0, .int .i64 0], .int .i64 0] 8 (World.laidAll_os _ _ _)
      (World.shaped_of_ZipB (by kernel_rfl) (by kernel_rfl)) (by kernel_rfl) (by kernel_rfl) (by kernel_rfl) (met0 os _)) ?_
  · intro ds hds
    rw [Tryd.params10] at hds
    match ds, hds with
    | [d1, d2], _ => exact ⟨rfl, rfl, rfl⟩
  · intro W base args ds p hval0 hA0 hL
    have hval : ∀ (j : Nat) t v, Tryd.f10.params[j]? = some t → args[j]? = some v → Value.okWide Tryd.prog W .any base t v := hval0
    have hA : DataW.TrodAll enc Tryd.prog W 0 (fun _ => true) true Tryd.f10.params.toList args.toList ds p := hA0
    rw [Tryd.params10] at hA hval
    obtain ⟨v0, v1, d0, d1, p0, p1, rfl, rfl, rfl, h0, h1⟩ := trodAll_two hA
    obtain ⟨a, rfl, w0⟩ := open_frac (hval 0 23 v0 rfl rfl) h0
    obtain ⟨c, rfl, rfl, rfl, w1⟩ := open_int Tryd.underlying3 (hval 1 3 v1 rfl rfl) h1
    exact roots_law_true a w0 c (wf_in w1) W (pow_ofH hL)
theorem roots_holds : Rows.ExactRootsSaid :=
  OpenClaim.holds_of_wide 10 Tryd.f10 rfl rfl rfl rfl rfl rfl rfl ⟨rfl, rfl, rfl, rfl, rfl⟩ rfl rfl rfl rfl rfl (by kernel_rfl) Tryd.func10 (by kernel_rfl)
    (of_decide_eq_true (by kernel_rfl)) (by unfold Func.isWrapper; rw [if_neg (of_decide_eq_false (by kernel_rfl))]; exact ⟨rfl, rfl⟩)
    (fun os started H enc _ => roots_lifted os started H enc)
theorem roots_card_holds : Rows.ExactRootsCardSaid :=
  Claim7.holds_tied_plain_at .later [] [.data, .data, .data] true (true, "73743f9602a8d5b2498bc42576e978659e5ec542a0c108d2da9e79b7b063b3cf") true
    roots_holds (fun _ h => by cases h) (by kernel_rfl) (fun _ h => by cases h) exactRoots_row_tie rfl ⟨rfl, rfl⟩ (by kernel_rfl) rfl
    (fun f fn hf hfn => by
      obtain rfl : f = 10 := Option.some.inj ((show Tryd.prog.funcNamed "sightbench/sightbenchlaw01.ExactRoots" = some 10 by kernel_rfl).symm.trans hf) |>.symm
      obtain rfl : fn = Tryd.f10 := (Option.some.inj (Tryd.func10.symm.trans hfn)).symm
      exact ⟨by kernel_rfl, fun j t ht => by
        rw [Tryd.params10] at ht
        have hm : t ∈ [23, 3] := by simpa using Array.mem_of_getElem? ht
        have hall : ([23, 3].all fun u => !Tryd.prog.wantsStandIn u) = true := by kernel_rfl
        exact (show Tryd.prog.wantsStandIn t = false by simpa using List.all_eq_true.1 hall t hm)⟩)
    (by kernel_rfl)
#print axioms roots_card_holds
end Go.Proofs.YtodoimeiklilhaaDoor
