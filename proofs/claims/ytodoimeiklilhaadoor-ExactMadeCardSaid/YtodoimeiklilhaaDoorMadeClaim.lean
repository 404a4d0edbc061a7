/- 'ExactMade' returns true for every input: what Make answers is a valid fraction with the given value, and two of them are equal exactly if their cross products are. The three listed tables read as the program's text lays them. -/
import Derived.Test.YtodoimeiklilhaaDoorMadeLaw
import Derived.Test.YtodoimeiklilhaaDoorLawFrame
import Derived.Test.YtodoimeiklilhaaDoorTie
import Derived.Test.YtodoimeiklilhaaDoorCards
import Derived.SevenTiedAt
set_option linter.unusedVariables false
set_option linter.unusedSimpArgs false
namespace Go.Proofs.YtodoimeiklilhaaDoor
open Go.RowKit Go.Sort Go.ChangeShapes Go.WideShapes Go.ChangeAt

theorem made_true (num den n d : Int) (hi : InI64 num) (hj : InI64 den) (w : World) (hP : Pow w) :
    Calls Tryd.prog 7 #[.int .i64 num, .int .i64 den, .int .i64 n, .int .i64 d] w fun e w' => e = .returned (.bool true) ∧ Ext w w' := by
  by_cases h0 : den = 0
  · exact made_zero num den n d w hP hi hj h0
  by_cases hf : Fits (Rat.divInt num den)
  · by_cases g0 : num < -1073741824
    · exact made_out0a num den n d w hP hi hj h0 g0 hf
    by_cases g1 : 1073741824 < num
    · exact made_out1a num den n d w hP hi hj h0 g0 g1 hf
    by_cases g2 : den < -1073741824
    · exact made_out2a num den n d w hP hi hj h0 g0 g1 g2 hf
    by_cases g3 : 1073741824 < den
    · exact made_out3a num den n d w hP hi hj h0 g0 g1 g2 g3 hf
    by_cases g4 : n < -1073741824
    · exact made_out4a num den n d w hP hi hj h0 g0 g1 g2 g3 g4 hf
    by_cases g5 : 1073741824 < n
    · exact made_out5a num den n d w hP hi hj h0 g0 g1 g2 g3 g4 g5 hf
    by_cases g6 : d < -1073741824
    · exact made_out6a num den n d w hP hi hj h0 g0 g1 g2 g3 g4 g5 g6 hf
    by_cases g7 : 1073741824 < d
    · exact made_out7a num den n d w hP hi hj h0 g0 g1 g2 g3 g4 g5 g6 g7 hf
    by_cases g8 : d = 0
    · exact made_out8a num den n d w hP hi hj h0 g0 g1 g2 g3 g4 g5 g6 g7 g8 hf
    exact made_in num den n d w hP hi hj h0 g0 g1 g2 g3 g4 g5 g6 g7 g8
  · by_cases g0 : num < -1073741824
    · exact made_out0b num den n d w hP hi hj h0 g0 hf
    by_cases g1 : 1073741824 < num
    · exact made_out1b num den n d w hP hi hj h0 g0 g1 hf
    by_cases g2 : den < -1073741824
    · exact made_out2b num den n d w hP hi hj h0 g0 g1 g2 hf
    by_cases g3 : 1073741824 < den
    · exact made_out3b num den n d w hP hi hj h0 g0 g1 g2 g3 hf
    exact absurd (fits_divInt (by omega) (by omega) (by omega) (by omega)) hf
set_option maxRecDepth 100000 in
theorem made_lifted (os : Os) (started : os.Started) (H : Type) (enc : TypeId × Value → H) :
    ReturnsInHanded {} Tryd.checked os 7 .any (fun w args => (Rows.exactMadeSpec.pre enc Tryd.prog Tryd.f7 [] false w args ∧ laidMetH Tryd.prog laidB w) ∧ sizedMet enc Tryd.prog Tryd.f7 (OpenSpec.ofChange Rows.exactMadeSpec) false w args)
      (Rows.exactMadeSpec.post enc Tryd.prog Tryd.f7 false true false false) := by
  refine law_returns started laidB (by kernel_rfl) Tryd.func7 rfl Tryd.underlying4 rfl ?_ (of_decide_eq_true (by kernel_rfl))
    (ChangeSpec.witness_shaped (enc := enc) (C := Tryd.checked) (os := os) (X := fun w _ => laidMetH Tryd.prog laidB w) false (World.laidAll Tryd.prog os laidB) #[.int .i64 0, .int .i64 0, .int .i64 0, .int .i64 0] 8 (World.laidAll_os _ _ _)
      (World.shaped_of_ZipB (by kernel_rfl) (by kernel_rfl)) (by kernel_rfl) (by kernel_rfl) (by kernel_rfl) (met0 os _)) ?_
  · intro ds hds
    rw [Tryd.params7] at hds
    match ds, hds with
    | [d1, d2, d3, d4], _ => exact ⟨rfl, rfl, rfl⟩
  · intro W base args ds p hval0 hA0 hL
    have hval : ∀ (j : Nat) t v, Tryd.f7.params[j]? = some t → args[j]? = some v → Value.okWide Tryd.prog W .any base t v := hval0
    have hA : DataW.TrodAll enc Tryd.prog W 0 (fun _ => true) true Tryd.f7.params.toList args.toList ds p := hA0
    rw [Tryd.params7] at hA hval
    obtain ⟨v0, v1, v2, v3, d0, d1, d2, d3, p0, p1, p2, p3, rfl, rfl, rfl, h0, h1, h2, h3⟩ := trodAll_four hA
    obtain ⟨a0, rfl, rfl, rfl, w0⟩ := open_int Tryd.underlying3 (hval 0 3 v0 rfl rfl) h0
    obtain ⟨a1, rfl, rfl, rfl, w1⟩ := open_int Tryd.underlying3 (hval 1 3 v1 rfl rfl) h1
    obtain ⟨a2, rfl, rfl, rfl, w2⟩ := open_int Tryd.underlying3 (hval 2 3 v2 rfl rfl) h2
    obtain ⟨a3, rfl, rfl, rfl, w3⟩ := open_int Tryd.underlying3 (hval 3 3 v3 rfl rfl) h3
    have i0 : InI64 a0 := by simpa [Lit.wf, IntKind.min, IntKind.max, IntKind.signed, IntKind.bits, InI64] using w0
    have i1 : InI64 a1 := by simpa [Lit.wf, IntKind.min, IntKind.max, IntKind.signed, IntKind.bits, InI64] using w1
    exact made_true a0 a1 a2 a3 i0 i1 W (pow_ofH hL)
theorem made_holds : Rows.ExactMadeSaid :=
  OpenClaim.holds_of_wide 7 Tryd.f7 rfl rfl rfl rfl rfl rfl rfl ⟨rfl, rfl, rfl, rfl, rfl⟩ rfl rfl rfl rfl rfl (by kernel_rfl) Tryd.func7 (by kernel_rfl)
    (of_decide_eq_true (by kernel_rfl)) (by unfold Func.isWrapper; rw [if_neg (of_decide_eq_false (by kernel_rfl))]; exact ⟨rfl, rfl⟩)
    (fun os started H enc _ => made_lifted os started H enc)
theorem made_card_holds : Rows.ExactMadeCardSaid :=
  Claim7.holds_tied_plain_at .later [] [.data, .data, .data] true (true, "73743f9602a8d5b2498bc42576e978659e5ec542a0c108d2da9e79b7b063b3cf") true
    made_holds (fun _ h => by cases h) (by kernel_rfl) (fun _ h => by cases h) exactMade_row_tie rfl ⟨rfl, rfl⟩ (by kernel_rfl) rfl
    (fun f fn hf hfn => by
      obtain rfl : f = 7 := Option.some.inj ((show Tryd.prog.funcNamed "sightbench/sightbenchlaw01.ExactMade" = some 7 by kernel_rfl).symm.trans hf) |>.symm
      obtain rfl : fn = Tryd.f7 := (Option.some.inj (Tryd.func7.symm.trans hfn)).symm
      exact ⟨by kernel_rfl, fun j t ht => by
        rw [Tryd.params7] at ht
        have hm : t ∈ [3, 3, 3, 3] := by simpa using Array.mem_of_getElem? ht
        have hall : ([3, 3, 3, 3].all fun u => !Tryd.prog.wantsStandIn u) = true := by kernel_rfl
        exact (show Tryd.prog.wantsStandIn t = false by simpa using List.all_eq_true.1 hall t hm)⟩)
    (by kernel_rfl)
#print axioms made_card_holds
end Go.Proofs.YtodoimeiklilhaaDoor
