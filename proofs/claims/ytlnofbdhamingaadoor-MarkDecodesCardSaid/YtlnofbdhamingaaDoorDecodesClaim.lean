/- 'MarkDecodes' returns true for every input. The two listed tables read as the program's text lays them. -/
import Derived.Test.YtlnofbdhamingaaDoorDecodesLaw
import Derived.Test.YtlnofbdhamingaaDoorArgsM
import Derived.Test.YtlnofbdhamingaaDoorGFrame
import Derived.Test.YtlnofbdhamingaaDoorByteArgs
import Derived.Test.YtlnofbdhamingaaDoorTie
import Derived.Test.YtlnofbdhamingaaDoorCards
import Derived.SevenTiedAt
set_option linter.unusedVariables false
set_option linter.unusedSimpArgs false
namespace Go.Proofs.YtlnofbdhamingaaDoor
open Go.RowKit Go.Sort Go.ChangeShapes Go.WideShapes Go.ChangeAt

set_option maxRecDepth 100000 in
theorem decodes_holds_lifted (os : Os) (started : os.Started) (H : Type) (enc : TypeId × Value → H) :
    ReturnsInHanded {} Tryd.checked os 4 .any (fun w args => (Rows.markDecodesSpec.pre enc Tryd.prog Tryd.f4 [] false w args ∧ laidMetH Tryd.prog laidB w) ∧ sizedMet enc Tryd.prog Tryd.f4 (OpenSpec.ofChange Rows.markDecodesSpec) false w args)
      (Rows.markDecodesSpec.post enc Tryd.prog Tryd.f4 false true false false) := by
  refine law_returns started laidB (by kernel_rfl) Tryd.func4 rfl Tryd.underlying4 rfl ?_ (of_decide_eq_true (by kernel_rfl))
    (ChangeSpec.witness_shaped (enc := enc) (C := Tryd.checked) (os := os) (X := fun w _ => laidMetH Tryd.prog laidB w) false (World.laidAll Tryd.prog os laidB) #[.slice none 0 0, .slice none 0 0, .int .i64 0] 8 (World.laidAll_os _ _ _)
      (World.shaped_of_ZipB (by kernel_rfl) (by kernel_rfl)) (by kernel_rfl) (by kernel_rfl) (by kernel_rfl) (met0 os _)) ?_
  · intro ds hds
    rw [Tryd.params4] at hds
    match ds, hds with
    | [d1, d2, d3], _ => exact ⟨rfl, rfl, rfl⟩
  · intro W base args ds p hval0 hA0 hL hsz0
    have hval : ∀ (j : Nat) t v, Tryd.f4.params[j]? = some t → args[j]? = some v → Value.okWide Tryd.prog W .any base t v := hval0
    have hA : DataW.TrodAll enc Tryd.prog W 0 (fun _ => true) true Tryd.f4.params.toList args.toList ds p := hA0
    have hsz : (DataW.weightsEach Tryd.prog (Tryd.f4.params.toList ++ []) (ds ++ [])).all (· ≤ reachBytes) = true := hsz0
    rw [Tryd.params4] at hA hval hsz
    obtain ⟨v0, v1, v2, d0, d1, d2, p0, p1, p2, rfl, rfl, rfl, h0, h1, h2⟩ := trodAll_three hA
    obtain ⟨l0, hl0, -, -, hd0⟩ := bytes_of_arg Tryd.underlying22 Tryd.underlying5 (by kernel_rfl) (hval 0 22 v0 rfl rfl) h0
    have hn0 : l0.length ≤ 140737488351232 := by
      rcases hd0 with rfl | ⟨es, sp, rfl, he⟩
      · simp
      · have := sized_slice hsz (j := 0) (t := 22) (e := 5) rfl rfl Tryd.underlying22
        rw [show Tryd.prog.bytesOf 5 = 1 by kernel_rfl] at this
        simp only [reachBytes] at this
        omega
    obtain ⟨l1, hl1, hn1⟩ := read_bools (hval 1 36 v1 rfl rfl) h1
    obtain ⟨a2, rfl, rfl, rfl, w2⟩ := open_int Tryd.underlying3 (hval 2 3 v2 rfl rfl) h2
    exact decodes_walk v0 l0 v1 l1 a2 W (pow_ofH hL) hl0 hn0 hl1 hn1
set_option maxHeartbeats 4000000 in
theorem decodes_holds_closed : joinedFacts Tryd.prog 4 Tryd.f4 Rows.markDecodesSpec Rows.markDecodesRow = true := by
  have e1 : (Rows.markDecodesRow.lifted == Tryd.prog.liftsFinal) = true := liftsF
  have e2 : (Tryd.prog.make == some Rows.markDecodesRow.make) = true := makeF
  have e3 := enterF
  unfold joinedFacts
  repeat' with_reducible apply and_t
  all_goals first | with_reducible exact e3 | with_reducible exact e1 | with_reducible exact e2 | (as_aux_lemma => kernel_rfl)
theorem decodes_holds : Rows.MarkDecodesSaid :=
  OpenClaim.holds_of_wide 4 Tryd.f4 rfl rfl rfl rfl rfl rfl rfl ⟨rfl, rfl, rfl, rfl, rfl⟩ rfl rfl rfl rfl rfl (by kernel_rfl) Tryd.func4 decodes_holds_closed
    (of_decide_eq_true (by kernel_rfl)) (by unfold Func.isWrapper; rw [if_neg (of_decide_eq_false (by kernel_rfl))]; exact ⟨rfl, rfl⟩)
    (fun os started H enc _ => decodes_holds_lifted os started H enc)
theorem decodes_card_holds : Rows.MarkDecodesCardSaid :=
  Claim7.holds_tied_plain_at .later [] [.data, .data] true (true, "77e809affb4fd19b4b66d45cb4e990bb930714b87f1c58a7808240162d94acbc") false
    decodes_holds (fun _ h => by cases h) (by kernel_rfl) (fun _ h => by cases h) markDecodes_row_tie rfl ⟨rfl, rfl⟩ (by kernel_rfl) rfl
    (fun f fn hf hfn => by
      obtain rfl : f = 4 := Option.some.inj ((show Tryd.prog.funcNamed "sightbench/sightbenchlaw06.MarkDecodes" = some 4 by kernel_rfl).symm.trans hf) |>.symm
      obtain rfl : fn = Tryd.f4 := (Option.some.inj (Tryd.func4.symm.trans hfn)).symm
      exact ⟨by kernel_rfl, fun j t ht => by
        rw [Tryd.params4] at ht
        have hm : t ∈ [22, 36, 3] := by simpa using Array.mem_of_getElem? ht
        have hall : ([22, 36, 3].all fun u => !Tryd.prog.wantsStandIn u) = true := by kernel_rfl
        exact (show Tryd.prog.wantsStandIn t = false by simpa using List.all_eq_true.1 hall t hm)⟩)
    (by kernel_rfl)
#print axioms decodes_card_holds
end Go.Proofs.YtlnofbdhamingaaDoor
