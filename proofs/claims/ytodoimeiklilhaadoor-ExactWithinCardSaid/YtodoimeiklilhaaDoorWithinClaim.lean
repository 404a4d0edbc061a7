/- 'ExactWithin' returns true for every input. The three listed tables read as the program's text lays them. -/
import Derived.Test.YtodoimeiklilhaaDoorWithinLaw
import Derived.Test.YtodoimeiklilhaaDoorGLaws
import Derived.Test.YtodoimeiklilhaaDoorGAlive
import Derived.Test.YtodoimeiklilhaaDoorTie
import Derived.Test.YtodoimeiklilhaaDoorCards
import Derived.SevenTiedAt
set_option linter.unusedVariables false
set_option linter.unusedSimpArgs false
namespace Go.Proofs.YtodoimeiklilhaaDoor
open Go.RowKit Go.Sort Go.ChangeShapes Go.WideShapes Go.ChangeAt

theorem within_law_true (how : Int) (l_how : 0 ≤ how) (u_how : how < 256) (a : Span) (w_a : a.wide) (b : Span) (w_b : b.wide) (c : Span) (w_c : c.wide) (d : Span) (w_d : d.wide) (w : World) (hP : Pow w) :
    Calls Tryd.prog 14 #[.int .u8 how, fspanV a, fspanV b, fspanV c, fspanV d] w fun e w' => e = .returned (.bool true) ∧ Ext w w' := by
  obtain ⟨⟨a1, a2⟩, ⟨a3, a4⟩⟩ := a
  obtain ⟨⟨b1, b2⟩, ⟨b3, b4⟩⟩ := b
  obtain ⟨⟨c1, c2⟩, ⟨c3, c4⟩⟩ := c
  obtain ⟨⟨d1, d2⟩, ⟨d3, d4⟩⟩ := d
  exact within_walk how a1 a2 a3 a4 b1 b2 b3 b4 c1 c2 c3 c4 d1 d2 d3 d4 _ _ _ _ _ _ _ _ _ w hP (c_within _ _ w_c w_a) (c_within _ _ w_d w_b) (c_results how _ _ _ _ w_a.1 w_b.1 w_a w_b l_how u_how) (c_results how _ _ _ _ w_c.1 w_d.1 w_c w_d l_how u_how)
    (c_within _ _ (boxSpan_wide (sR_fits _ _ _)) (boxSpan_wide (sR_fits _ _ _))) (within_law how _ _ _ _)
set_option maxRecDepth 100000 in
theorem within_lifted (os : Os) (started : os.Started) (H : Type) (enc : TypeId × Value → H) :
    ReturnsInHanded {} Tryd.checked os 14 .any (fun w args => (Rows.exactWithinSpec.pre enc Tryd.prog Tryd.f14 [] false w args ∧ laidMetH Tryd.prog laidB w) ∧ sizedMet enc Tryd.prog Tryd.f14 (OpenSpec.ofChange Rows.exactWithinSpec) false w args)
      (Rows.exactWithinSpec.post enc Tryd.prog Tryd.f14 false true false false) := by
  refine law_returns started laidB (by kernel_rfl) Tryd.func14 rfl Tryd.underlying4 rfl ?_ (of_decide_eq_true (by kernel_rfl))
    (ChangeSpec.witness_shaped (enc := enc) (C := Tryd.checked) (os := os) (X := fun w _ => laidMetH Tryd.prog laidB w) false (World.laidAll Tryd.prog os laidB) #[.int .u8 0, .agg #[.int .i64 0, .int .i64 0, .int .i64 0, .int .i64 0], .agg #[.int .i64 0, .int .i64 0, .int .i64 0, .int .i64 0], .agg #[.int .i64 0, .int .i64 0, .int .i64 0, .int .i64 0], .agg #[.int .i64 0, .int .i64 0, .int .i64 0, .int .i64 0]] 8 (World.laidAll_os _ _ _)
      (World.shaped_of_ZipB (by kernel_rfl) (by kernel_rfl)) (by kernel_rfl) (by kernel_rfl) (by kernel_rfl) (met0 os _)) ?_
  · intro ds hds
    rw [Tryd.params14] at hds
    match ds, hds with
    | [d1, d2, d3, d4, d5], _ => exact ⟨rfl, rfl, rfl⟩
  · intro W base args ds p hval0 hA0 hL
    have hval : ∀ (j : Nat) t v, Tryd.f14.params[j]? = some t → args[j]? = some v → Value.okWide Tryd.prog W .any base t v := hval0
    have hA : DataW.TrodAll enc Tryd.prog W 0 (fun _ => true) true Tryd.f14.params.toList args.toList ds p := hA0
    rw [Tryd.params14] at hA hval
    obtain ⟨v0, v1, v2, v3, v4, d0, d1, d2, d3, d4, p0, p1, p2, p3, p4, rfl, rfl, rfl, h0, h1, h2, h3, h4⟩ := trodAll_five hA
    obtain ⟨how, rfl, rfl, rfl, w0⟩ := open_int Tryd.underlying5 (hval 0 5 v0 rfl rfl) h0
    obtain ⟨a, rfl, w1⟩ := open_span (hval 1 41 v1 rfl rfl) h1
    obtain ⟨b, rfl, w2⟩ := open_span (hval 2 41 v2 rfl rfl) h2
    obtain ⟨c, rfl, w3⟩ := open_span (hval 3 41 v3 rfl rfl) h3
    obtain ⟨d, rfl, w4⟩ := open_span (hval 4 41 v4 rfl rfl) h4
    exact within_law_true how (wf_u8 w0).1 (wf_u8 w0).2 a w1 b w2 c w3 d w4 W (pow_ofH hL)
theorem within_holds : Rows.ExactWithinSaid :=
  OpenClaim.holds_of_wide 14 Tryd.f14 rfl rfl rfl rfl rfl rfl rfl ⟨rfl, rfl, rfl, rfl, rfl⟩ rfl rfl rfl rfl rfl (by kernel_rfl) Tryd.func14 (by kernel_rfl)
    (of_decide_eq_true (by kernel_rfl)) (by unfold Func.isWrapper; rw [if_neg (of_decide_eq_false (by kernel_rfl))]; exact ⟨rfl, rfl⟩)
    (fun os started H enc _ => within_lifted os started H enc)
theorem within_card_holds : Rows.ExactWithinCardSaid :=
  Claim7.holds_tied_plain_at .later [] [.data, .data, .data] true (true, "73743f9602a8d5b2498bc42576e978659e5ec542a0c108d2da9e79b7b063b3cf") true
    within_holds (fun _ h => by cases h) (by kernel_rfl) (fun _ h => by cases h) exactWithin_row_tie rfl ⟨rfl, rfl⟩ (by kernel_rfl) rfl
    (fun f fn hf hfn => by
      obtain rfl : f = 14 := Option.some.inj ((show Tryd.prog.funcNamed "sightbench/sightbenchlaw01.ExactWithin" = some 14 by kernel_rfl).symm.trans hf) |>.symm
      obtain rfl : fn = Tryd.f14 := (Option.some.inj (Tryd.func14.symm.trans hfn)).symm
      exact ⟨by kernel_rfl, fun j t ht => by
        rw [Tryd.params14] at ht
        have hm : t ∈ [5, 41, 41, 41, 41] := by simpa using Array.mem_of_getElem? ht
        have hall : ([5, 41, 41, 41, 41].all fun u => !Tryd.prog.wantsStandIn u) = true := by kernel_rfl
        exact (show Tryd.prog.wantsStandIn t = false by simpa using List.all_eq_true.1 hall t hm)⟩)
    (by kernel_rfl)
#print axioms within_card_holds
end Go.Proofs.YtodoimeiklilhaaDoor
