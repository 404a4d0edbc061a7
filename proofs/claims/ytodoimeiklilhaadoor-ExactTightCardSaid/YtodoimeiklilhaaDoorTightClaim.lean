/- 'ExactTight' returns true for every input. The three listed tables read as the program's text lays them. -/
import Derived.Test.YtodoimeiklilhaaDoorTightLaw
import Derived.Test.YtodoimeiklilhaaDoorTightMath
import Derived.Test.YtodoimeiklilhaaDoorGAlive
import Derived.Test.YtodoimeiklilhaaDoorTie
import Derived.Test.YtodoimeiklilhaaDoorCards
import Derived.SevenTiedAt
set_option linter.unusedVariables false
set_option linter.unusedSimpArgs false
namespace Go.Proofs.YtodoimeiklilhaaDoor
open Go.RowKit Go.Sort Go.ChangeShapes Go.WideShapes Go.ChangeAt

theorem tight_law_true (how : Int) (l_how : 0 ≤ how) (u_how : how < 256) (a : Span) (w_a : a.wide) (b : Span) (w_b : b.wide) (w : World) (hP : Pow w) :
    Calls Tryd.prog 12 #[.int .u8 how, fspanV a, fspanV b] w fun e w' => e = .returned (.bool true) ∧ Ext w w' := by
  obtain ⟨⟨a1, a2⟩, ⟨a3, a4⟩⟩ := a
  obtain ⟨⟨b1, b2⟩, ⟨b3, b4⟩⟩ := b
  have hl := tight_law how ⟨⟨a1, a2⟩, ⟨a3, a4⟩⟩ ⟨⟨b1, b2⟩, ⟨b3, b4⟩⟩
  have c0 := fun w => c_results how _ _ _ _ w_a.1 w_b.1 w_a w_b l_how u_how w
  have c1 := fun w => c_results how _ _ _ _ w_a.2 w_b.1 w_a w_b l_how u_how w
  have c2 := fun w => c_results how _ _ _ _ w_a.1 w_b.2 w_a w_b l_how u_how w
  have c3 := fun w => c_results how _ _ _ _ w_a.2 w_b.2 w_a w_b l_how u_how w
  exact tight_walk how a1 a2 a3 a4 b1 b2 b3 b4 _ _ _ _ _ _ _ _ _ _ _ _ _ _ _ _ _ _ _ _ _ _ _ w hP c0 c1 c2 c3 hl
set_option maxRecDepth 100000 in
theorem tight_lifted (os : Os) (started : os.Started) (H : Type) (enc : TypeId × Value → H) :
    ReturnsInHanded {} Tryd.checked os 12 .any (fun w args => (Rows.exactTightSpec.pre enc Tryd.prog Tryd.f12 [] false w args ∧ laidMetH Tryd.prog laidB w) ∧ sizedMet enc Tryd.prog Tryd.f12 (OpenSpec.ofChange Rows.exactTightSpec) false w args)
      (Rows.exactTightSpec.post enc Tryd.prog Tryd.f12 false true false false) := by
  refine law_returns started laidB (by kernel_rfl) Tryd.func12 rfl Tryd.underlying4 rfl ?_ (of_decide_eq_true (by kernel_rfl))
    (ChangeSpec.witness_shaped (enc := enc) (C := Tryd.checked) (os := os) (X := fun w _ => laidMetH Tryd.prog laidB w) false (World.laidAll Tryd.prog os laidB) #[.int .u8 0, .agg #[.int .i64 0, .int .i64 0, .int .i64 0, .int .i64 0], .agg #[.int .i64 0, .int .i64 0, .int .i64 0, .int .i64 0]] 8 (World.laidAll_os _ _ _)
      (World.shaped_of_ZipB (by kernel_rfl) (by kernel_rfl)) (by kernel_rfl) (by kernel_rfl) (by kernel_rfl) (met0 os _)) ?_
  · intro ds hds
    rw [Tryd.params12] at hds
    match ds, hds with
    | [d1, d2, d3], _ => exact ⟨rfl, rfl, rfl⟩
  · intro W base args ds p hval0 hA0 hL
    have hval : ∀ (j : Nat) t v, Tryd.f12.params[j]? = some t → args[j]? = some v → Value.okWide Tryd.prog W .any base t v := hval0
    have hA : DataW.TrodAll enc Tryd.prog W 0 (fun _ => true) true Tryd.f12.params.toList args.toList ds p := hA0
    rw [Tryd.params12] at hA hval
    obtain ⟨v0, v1, v2, d0, d1, d2, p0, p1, p2, rfl, rfl, rfl, h0, h1, h2⟩ := trodAll_three hA
    obtain ⟨how, rfl, rfl, rfl, w0⟩ := open_int Tryd.underlying5 (hval 0 5 v0 rfl rfl) h0
    obtain ⟨a, rfl, w1⟩ := open_span (hval 1 41 v1 rfl rfl) h1
    obtain ⟨b, rfl, w2⟩ := open_span (hval 2 41 v2 rfl rfl) h2
    exact tight_law_true how (wf_u8 w0).1 (wf_u8 w0).2 a w1 b w2 W (pow_ofH hL)
theorem tight_holds : Rows.ExactTightSaid :=
  OpenClaim.holds_of_wide 12 Tryd.f12 rfl rfl rfl rfl rfl rfl rfl ⟨rfl, rfl, rfl, rfl, rfl⟩ rfl rfl rfl rfl rfl (by kernel_rfl) Tryd.func12 (by kernel_rfl)
    (of_decide_eq_true (by kernel_rfl)) (by unfold Func.isWrapper; rw [if_neg (of_decide_eq_false (by kernel_rfl))]; exact ⟨rfl, rfl⟩)
    (fun os started H enc _ => tight_lifted os started H enc)
theorem tight_card_holds : Rows.ExactTightCardSaid :=
  Claim7.holds_tied_plain_at .later [] [.data, .data, .data] true (true, "73743f9602a8d5b2498bc42576e978659e5ec542a0c108d2da9e79b7b063b3cf") true
    tight_holds (fun _ h => by cases h) (by kernel_rfl) (fun _ h => by cases h) exactTight_row_tie rfl ⟨rfl, rfl⟩ (by kernel_rfl) rfl
    (fun f fn hf hfn => by
      obtain rfl : f = 12 := Option.some.inj ((show Tryd.prog.funcNamed "sightbench/sightbenchlaw01.ExactTight" = some 12 by kernel_rfl).symm.trans hf) |>.symm
      obtain rfl : fn = Tryd.f12 := (Option.some.inj (Tryd.func12.symm.trans hfn)).symm
      exact ⟨by kernel_rfl, fun j t ht => by
        rw [Tryd.params12] at ht
        have hm : t ∈ [5, 41, 41] := by simpa using Array.mem_of_getElem? ht
        have hall : ([5, 41, 41].all fun u => !Tryd.prog.wantsStandIn u) = true := by kernel_rfl
        exact (show Tryd.prog.wantsStandIn t = false by simpa using List.all_eq_true.1 hall t hm)⟩)
    (by kernel_rfl)
#print axioms tight_card_holds
end Go.Proofs.YtodoimeiklilhaaDoor
