/- 'ExactEncloses' returns true for every input. The three listed tables read as the program's text lays them. -/
import Derived.Test.YtodoimeiklilhaaDoorEnclosesLaw
import Derived.Test.YtodoimeiklilhaaDoorGLaws
import Derived.Test.YtodoimeiklilhaaDoorGAlive
import Derived.Test.YtodoimeiklilhaaDoorTie
import Derived.Test.YtodoimeiklilhaaDoorCards
import Derived.SevenTiedAt
set_option linter.unusedVariables false
set_option linter.unusedSimpArgs false
namespace Go.Proofs.YtodoimeiklilhaaDoor
open Go.RowKit Go.Sort Go.ChangeShapes Go.WideShapes Go.ChangeAt

theorem encloses_law_true (how : Int) (l_how : 0 ≤ how) (u_how : how < 256) (a : Span) (w_a : a.wide) (b : Span) (w_b : b.wide) (x : Frac) (w_x : x.wide) (y : Frac) (w_y : y.wide) (w : World) (hP : Pow w) :
    Calls Tryd.prog 13 #[.int .u8 how, fspanV a, fspanV b, fracV x, fracV y] w fun e w' => e = .returned (.bool true) ∧ Ext w w' := by
  obtain ⟨⟨a1, a2⟩, ⟨a3, a4⟩⟩ := a
  obtain ⟨⟨b1, b2⟩, ⟨b3, b4⟩⟩ := b
  obtain ⟨x1, x2⟩ := x
  obtain ⟨y1, y2⟩ := y
  exact encloses_walk how a1 a2 a3 a4 b1 b2 b3 b4 x1 x2 y1 y2 _ _ _ _ _ _ _ _ _ _ _ _ l_how u_how w hP (c_In _ _ w_a w_x) (c_In _ _ w_b w_y) (c_results how _ _ _ _ w_x w_y w_a w_b l_how u_how)
    (c_CheckSpan _ (boxSpan_wide (sR_fits _ _ _))) (c_In _ _ (boxSpan_wide (sR_fits _ _ _)) (zR_wide _ _ _)) (encloses_law how _ _ _ _)
set_option maxRecDepth 100000 in
theorem encloses_lifted (os : Os) (started : os.Started) (H : Type) (enc : TypeId × Value → H) :
    ReturnsInHanded {} Tryd.checked os 13 .any (fun w args => (Rows.exactEnclosesSpec.pre enc Tryd.prog Tryd.f13 [] false w args ∧ laidMetH Tryd.prog laidB w) ∧ sizedMet enc Tryd.prog Tryd.f13 (OpenSpec.ofChange Rows.exactEnclosesSpec) false w args)
      (Rows.exactEnclosesSpec.post enc Tryd.prog Tryd.f13 false true false false) := by
  refine law_returns started laidB (by kernel_rfl) Tryd.func13 rfl Tryd.underlying4 rfl ?_ (of_decide_eq_true (by kernel_rfl))
    (ChangeSpec.witness_shaped (enc := enc) (C := Tryd.checked) (os := os) (X := fun w _ => laidMetH Tryd.prog laidB w) false (World.laidAll Tryd.prog os laidB) #[.int .u8 0, .agg #[.int .i64 0, .int .i64 0, .int .i64 0, .int .i64 0], .agg #[.int .i64 0, .int .i64 0, .int .i64 0, .int .i64 0], .agg #[.int .i64 0, .int .i64 0], .agg #[.int .i64 0, .int .i64 0]] 8 (World.laidAll_os _ _ _)
      (World.shaped_of_ZipB (by kernel_rfl) (by kernel_rfl)) (by kernel_rfl) (by kernel_rfl) (by kernel_rfl) (met0 os _)) ?_
  · intro ds hds
    rw [Tryd.params13] at hds
    match ds, hds with
    | [d1, d2, d3, d4, d5], _ => exact ⟨rfl, rfl, rfl⟩
  · intro W base args ds p hval0 hA0 hL
    have hval : ∀ (j : Nat) t v, Tryd.f13.params[j]? = some t → args[j]? = some v → Value.okWide Tryd.prog W .any base t v := hval0
    have hA : DataW.TrodAll enc Tryd.prog W 0 (fun _ => true) true Tryd.f13.params.toList args.toList ds p := hA0
    rw [Tryd.params13] at hA hval
    obtain ⟨v0, v1, v2, v3, v4, d0, d1, d2, d3, d4, p0, p1, p2, p3, p4, rfl, rfl, rfl, h0, h1, h2, h3, h4⟩ := trodAll_five hA
    obtain ⟨how, rfl, rfl, rfl, w0⟩ := open_int Tryd.underlying5 (hval 0 5 v0 rfl rfl) h0
    obtain ⟨a, rfl, w1⟩ := open_span (hval 1 41 v1 rfl rfl) h1
    obtain ⟨b, rfl, w2⟩ := open_span (hval 2 41 v2 rfl rfl) h2
    obtain ⟨x, rfl, w3⟩ := open_frac (hval 3 23 v3 rfl rfl) h3
    obtain ⟨y, rfl, w4⟩ := open_frac (hval 4 23 v4 rfl rfl) h4
    exact encloses_law_true how (wf_u8 w0).1 (wf_u8 w0).2 a w1 b w2 x w3 y w4 W (pow_ofH hL)
theorem encloses_holds : Rows.ExactEnclosesSaid :=
  OpenClaim.holds_of_wide 13 Tryd.f13 rfl rfl rfl rfl rfl rfl rfl ⟨rfl, rfl, rfl, rfl, rfl⟩ rfl rfl rfl rfl rfl (by kernel_rfl) Tryd.func13 (by kernel_rfl)
    (of_decide_eq_true (by kernel_rfl)) (by unfold Func.isWrapper; rw [if_neg (of_decide_eq_false (by kernel_rfl))]; exact ⟨rfl, rfl⟩)
    (fun os started H enc _ => encloses_lifted os started H enc)
theorem encloses_card_holds : Rows.ExactEnclosesCardSaid :=
  Claim7.holds_tied_plain_at .later [] [.data, .data, .data] true (true, "73743f9602a8d5b2498bc42576e978659e5ec542a0c108d2da9e79b7b063b3cf") true
    encloses_holds (fun _ h => by cases h) (by kernel_rfl) (fun _ h => by cases h) exactEncloses_row_tie rfl ⟨rfl, rfl⟩ (by kernel_rfl) rfl
    (fun f fn hf hfn => by
      obtain rfl : f = 13 := Option.some.inj ((show Tryd.prog.funcNamed "sightbench/sightbenchlaw01.ExactEncloses" = some 13 by kernel_rfl).symm.trans hf) |>.symm
      obtain rfl : fn = Tryd.f13 := (Option.some.inj (Tryd.func13.symm.trans hfn)).symm
      exact ⟨by kernel_rfl, fun j t ht => by
        rw [Tryd.params13] at ht
        have hm : t ∈ [5, 41, 41, 23, 23] := by simpa using Array.mem_of_getElem? ht
        have hall : ([5, 41, 41, 23, 23].all fun u => !Tryd.prog.wantsStandIn u) = true := by kernel_rfl
        exact (show Tryd.prog.wantsStandIn t = false by simpa using List.all_eq_true.1 hall t hm)⟩)
    (by kernel_rfl)
#print axioms encloses_card_holds
end Go.Proofs.YtodoimeiklilhaaDoor
