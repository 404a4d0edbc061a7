/- 'MarkDraws' returns true for every input. The four listed tables read as the program's text lays them. -/
import Derived.Test.YtlnofbdhamingaaDoorDrawsLaw
import Derived.Test.YtlnofbdhamingaaDoorArgsM
import Derived.Test.YtlnofbdhamingaaDoorGFrame
import Derived.Test.YtlnofbdhamingaaDoorByteArgs
import Derived.Test.YtlnofbdhamingaaDoorTie
import Derived.Test.YtlnofbdhamingaaDoorCards
import Derived.SevenTiedAt
set_option linter.unusedVariables false
set_option linter.unusedSimpArgs false
namespace Go.Proofs.YtlnofbdhamingaaDoor
open Go.RowKit Go.Sort Go.ChangeShapes Go.WideShapes Go.ChangeAt

set_option maxRecDepth 100000 in
theorem draws_holds_lifted (os : Os) (started : os.Started) (H : Type) (enc : TypeId × Value → H) :
    ReturnsInHanded {} Tryd.checked os 6 .any (fun w args => (Rows.markDrawsSpec.pre enc Tryd.prog Tryd.f6 [] false w args ∧ laidMetH Tryd.prog laidF w) ∧ sizedMet enc Tryd.prog Tryd.f6 (OpenSpec.ofChange Rows.markDrawsSpec) false w args)
      (Rows.markDrawsSpec.post enc Tryd.prog Tryd.f6 false true false false) := by
  refine law_returns started laidF (by kernel_rfl) Tryd.func6 rfl Tryd.underlying4 rfl ?_ (of_decide_eq_true (by kernel_rfl))
    (ChangeSpec.witness_shaped (enc := enc) (C := Tryd.checked) (os := os) (X := fun w _ => laidMetH Tryd.prog laidF w) false (World.laidAll Tryd.prog os laidF) #[.slice none 0 0, .string ⟨#[]⟩, .int .i64 0, .int .i64 0, .int .i64 0] 8 (World.laidAll_os _ _ _)
      (World.shaped_of_ZipB (by kernel_rfl) (by kernel_rfl)) (by kernel_rfl) (by kernel_rfl) (by kernel_rfl) (metF os _)) ?_
  · intro ds hds
    rw [Tryd.params6] at hds
    match ds, hds with
    | [d1, d2, d3, d4, d5], _ => exact ⟨rfl, rfl, rfl⟩
  · intro W base args ds p hval0 hA0 hL hsz0
    have hval : ∀ (j : Nat) t v, Tryd.f6.params[j]? = some t → args[j]? = some v → Value.okWide Tryd.prog W .any base t v := hval0
    have hA : DataW.TrodAll enc Tryd.prog W 0 (fun _ => true) true Tryd.f6.params.toList args.toList ds p := hA0
    have hsz : (DataW.weightsEach Tryd.prog (Tryd.f6.params.toList ++ []) (ds ++ [])).all (· ≤ reachBytes) = true := hsz0
    rw [Tryd.params6] at hA hval hsz
    obtain ⟨v0, vs0, d0, ds0, p0, q0, hargs, rfl, rfl, h0, r0⟩ := trodAll_cons hA
    obtain ⟨v1, vs1, d1, ds1, p1, q1, rfl, rfl, rfl, h1, r1⟩ := trodAll_cons r0
    obtain ⟨v2, vs2, d2, ds2, p2, q2, rfl, rfl, rfl, h2, r2⟩ := trodAll_cons r1
    obtain ⟨v3, vs3, d3, ds3, p3, q3, rfl, rfl, rfl, h3, r3⟩ := trodAll_cons r2
    obtain ⟨v4, vs4, d4, ds4, p4, q4, rfl, rfl, rfl, h4, r4⟩ := trodAll_cons r3
    obtain ⟨rfl, rfl, rfl⟩ := trodAll_nil r4
    obtain rfl : args = #[v0, v1, v2, v3, v4] := by rw [← Array.toList_inj]; exact hargs
    obtain ⟨l0, hl0, -, -, hd0⟩ := bytes_of_arg Tryd.underlying22 Tryd.underlying5 (by kernel_rfl) (hval 0 22 v0 rfl rfl) h0
    have hn0 : l0.length ≤ 140737488351232 := by
      rcases hd0 with rfl | ⟨es, sp, rfl, he⟩
      · simp
      · have := sized_slice hsz (j := 0) (t := 22) (e := 5) rfl rfl Tryd.underlying22
        rw [show Tryd.prog.bytesOf 5 = 1 by kernel_rfl] at this
        simp only [reachBytes] at this
        omega
    obtain ⟨s1, rfl, -, -, hn1⟩ := Go.ChangeMaps.open_string Tryd.underlying9 (hval 1 9 v1 rfl rfl) h1
    obtain ⟨a2, rfl, rfl, rfl, w2⟩ := open_int Tryd.underlying3 (hval 2 3 v2 rfl rfl) h2
    obtain ⟨a3, rfl, rfl, rfl, w3⟩ := open_int Tryd.underlying3 (hval 3 3 v3 rfl rfl) h3
    obtain ⟨a4, rfl, rfl, rfl, w4⟩ := open_int Tryd.underlying3 (hval 4 3 v4 rfl rfl) h4
    exact draws_walk v0 l0 s1 a2 a3 a4 W (pow_ofF hL) hl0 hn0 hn1
set_option maxHeartbeats 4000000 in
theorem draws_holds_closed : joinedFacts Tryd.prog 6 Tryd.f6 Rows.markDrawsSpec Rows.markDrawsRow = true := by
  have e1 : (Rows.markDrawsRow.lifted == Tryd.prog.liftsFinal) = true := liftsF
  have e2 : (Tryd.prog.make == some Rows.markDrawsRow.make) = true := makeF
  have e3 := enterF
  unfold joinedFacts
  repeat' with_reducible apply and_t
  all_goals first | with_reducible exact e3 | with_reducible exact e1 | with_reducible exact e2 | (as_aux_lemma => kernel_rfl)
theorem draws_holds : Rows.MarkDrawsSaid :=
  OpenClaim.holds_of_wide 6 Tryd.f6 rfl rfl rfl rfl rfl rfl rfl ⟨rfl, rfl, rfl, rfl, rfl⟩ rfl rfl rfl rfl rfl (by kernel_rfl) Tryd.func6 draws_holds_closed
    (of_decide_eq_true (by kernel_rfl)) (by unfold Func.isWrapper; rw [if_neg (of_decide_eq_false (by kernel_rfl))]; exact ⟨rfl, rfl⟩)
    (fun os started H enc _ => draws_holds_lifted os started H enc)
theorem draws_card_holds : Rows.MarkDrawsCardSaid :=
  Claim7.holds_tied_plain_at .later [] [.data, .data, .data, .pinned] true (true, "77e809affb4fd19b4b66d45cb4e990bb930714b87f1c58a7808240162d94acbc") false
    draws_holds (fun _ h => by cases h) (by kernel_rfl) (fun _ h => by cases h) markDraws_row_tie rfl ⟨rfl, rfl⟩ (by kernel_rfl) rfl
    (fun f fn hf hfn => by
      obtain rfl : f = 6 := Option.some.inj ((show Tryd.prog.funcNamed "sightbench/sightbenchlaw06.MarkDraws" = some 6 by kernel_rfl).symm.trans hf) |>.symm
      obtain rfl : fn = Tryd.f6 := (Option.some.inj (Tryd.func6.symm.trans hfn)).symm
      exact ⟨by kernel_rfl, fun j t ht => by
        rw [Tryd.params6] at ht
        have hm : t ∈ [22, 9, 3, 3, 3] := by simpa using Array.mem_of_getElem? ht
        have hall : ([22, 9, 3, 3, 3].all fun u => !Tryd.prog.wantsStandIn u) = true := by kernel_rfl
        exact (show Tryd.prog.wantsStandIn t = false by simpa using List.all_eq_true.1 hall t hm)⟩)
    (by kernel_rfl)
#print axioms draws_card_holds
end Go.Proofs.YtlnofbdhamingaaDoor
