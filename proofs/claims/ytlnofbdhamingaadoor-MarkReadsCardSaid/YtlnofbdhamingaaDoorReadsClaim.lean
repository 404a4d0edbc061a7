/- 'MarkReads' returns true for any image, size of modules, contrast and number of symbols. The two listed tables read as the program's text lays them. -/
import Derived.Test.YtlnofbdhamingaaDoorReadsLaw
import Derived.Test.YtlnofbdhamingaaDoorArgsM
import Derived.Test.YtlnofbdhamingaaDoorArgsI
import Derived.Test.YtlnofbdhamingaaDoorGFrame
import Derived.Test.YtlnofbdhamingaaDoorByteArgs
import Derived.Test.YtlnofbdhamingaaDoorTie
import Derived.Test.YtlnofbdhamingaaDoorCards
import Derived.SevenTiedAt
set_option linter.unusedVariables false
set_option linter.unusedSimpArgs false
namespace Go.Proofs.YtlnofbdhamingaaDoor
open Go.RowKit Go.Sort Go.ChangeShapes Go.WideShapes Go.ChangeAt

set_option maxRecDepth 100000 in
theorem reads_holds_lifted (os : Os) (started : os.Started) (H : Type) (enc : TypeId × Value → H) :
    ReturnsInHanded {} Tryd.checked os 5 .any (fun w args => (Rows.markReadsSpec.pre enc Tryd.prog Tryd.f5 [] false w args ∧ laidMetH Tryd.prog laidB w) ∧ sizedMet enc Tryd.prog Tryd.f5 (OpenSpec.ofChange Rows.markReadsSpec) false w args)
      (Rows.markReadsSpec.post enc Tryd.prog Tryd.f5 false true false false) := by
  refine law_returns started laidB (by kernel_rfl) Tryd.func5 rfl Tryd.underlying4 rfl ?_ (of_decide_eq_true (by kernel_rfl))
    (ChangeSpec.witness_shaped (enc := enc) (C := Tryd.checked) (os := os) (X := fun w _ => laidMetH Tryd.prog laidB w) false (World.laidAll Tryd.prog os laidB) #[.agg #[.int .i64 0, .int .i64 0, .slice none 0 0], .int .i64 0, .agg #[.int .i64 0, .int .i64 0], .int .i64 0] 8 (World.laidAll_os _ _ _)
      (World.shaped_of_ZipB (by kernel_rfl) (by kernel_rfl)) (by kernel_rfl) (by kernel_rfl) (by kernel_rfl) (met0 os _)) ?_
  · intro ds hds
    rw [Tryd.params5] at hds
    match ds, hds with
    | [d1, d2, d3, d4], _ => exact ⟨rfl, rfl, rfl⟩
  · intro W base args ds p hval0 hA0 hL hsz0
    have hval : ∀ (j : Nat) t v, Tryd.f5.params[j]? = some t → args[j]? = some v → Value.okWide Tryd.prog W .any base t v := hval0
    have hA : DataW.TrodAll enc Tryd.prog W 0 (fun _ => true) true Tryd.f5.params.toList args.toList ds p := hA0
    have hsz : (DataW.weightsEach Tryd.prog (Tryd.f5.params.toList ++ []) (ds ++ [])).all (· ≤ reachBytes) = true := hsz0
    rw [Tryd.params5] at hA hval hsz
    obtain ⟨v0, v1, v2, v3, d0, d1, d2, d3, p0, p1, p2, p3, rfl, rfl, rfl, h0, h1, h2, h3⟩ := trodAll_four hA
    obtain ⟨m0, u0, rfl, hu0, hs0⟩ := read_imgs (hval 0 44 v0 rfl rfl) h0
    have hn0 : m0.pix.length ≤ 17592186044000 := by
      rcases hs0 with h9 | ⟨e0, e1, es, sp, rfl, he⟩
      · rw [h9]; simp
      · have := imgs_size hsz (j := 0) rfl rfl
        omega
    obtain ⟨a1, rfl, rfl, rfl, w1⟩ := open_int Tryd.underlying3 (hval 1 3 v1 rfl rfl) h1
    obtain ⟨c2, rfl⟩ := read_con (hval 2 46 v2 rfl rfl) h2
    obtain ⟨a3, rfl, rfl, rfl, w3⟩ := open_int Tryd.underlying3 (hval 3 3 v3 rfl rfl) h3
    exact reads_walk m0 u0 a1 c2 a3 W (pow_ofH hL) hu0 hn0
set_option maxHeartbeats 4000000 in
theorem reads_holds_closed : joinedFacts Tryd.prog 5 Tryd.f5 Rows.markReadsSpec Rows.markReadsRow = true := by
  have e1 : (Rows.markReadsRow.lifted == Tryd.prog.liftsFinal) = true := liftsF
  have e2 : (Tryd.prog.make == some Rows.markReadsRow.make) = true := makeF
  have e3 := enterF
  unfold joinedFacts
  repeat' with_reducible apply and_t
  all_goals first | with_reducible exact e3 | with_reducible exact e1 | with_reducible exact e2 | (as_aux_lemma => kernel_rfl)
theorem reads_holds : Rows.MarkReadsSaid :=
  OpenClaim.holds_of_wide 5 Tryd.f5 rfl rfl rfl rfl rfl rfl rfl ⟨rfl, rfl, rfl, rfl, rfl⟩ rfl rfl rfl rfl rfl (by kernel_rfl) Tryd.func5 reads_holds_closed
    (of_decide_eq_true (by kernel_rfl)) (by unfold Func.isWrapper; rw [if_neg (of_decide_eq_false (by kernel_rfl))]; exact ⟨rfl, rfl⟩)
    (fun os started H enc _ => reads_holds_lifted os started H enc)
theorem reads_card_holds : Rows.MarkReadsCardSaid :=
  Claim7.holds_tied_plain_at .later [] [.data, .data] true (true, "77e809affb4fd19b4b66d45cb4e990bb930714b87f1c58a7808240162d94acbc") false
    reads_holds (fun _ h => by cases h) (by kernel_rfl) (fun _ h => by cases h) markReads_row_tie rfl ⟨rfl, rfl⟩ (by kernel_rfl) rfl
    (fun f fn hf hfn => by
      obtain rfl : f = 5 := Option.some.inj ((show Tryd.prog.funcNamed "sightbench/sightbenchlaw06.MarkReads" = some 5 by kernel_rfl).symm.trans hf) |>.symm
      obtain rfl : fn = Tryd.f5 := (Option.some.inj (Tryd.func5.symm.trans hfn)).symm
      exact ⟨by kernel_rfl, fun j t ht => by
        rw [Tryd.params5] at ht
        have hm : t ∈ [44, 3, 46, 3] := by simpa using Array.mem_of_getElem? ht
        have hall : ([44, 3, 46, 3].all fun u => !Tryd.prog.wantsStandIn u) = true := by kernel_rfl
        exact (show Tryd.prog.wantsStandIn t = false by simpa using List.all_eq_true.1 hall t hm)⟩)
    (by kernel_rfl)
#print axioms reads_card_holds
end Go.Proofs.YtlnofbdhamingaaDoor
