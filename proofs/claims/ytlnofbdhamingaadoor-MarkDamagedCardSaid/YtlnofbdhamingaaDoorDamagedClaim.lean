/- 'MarkDamaged' returns true for every input. The four listed tables read as the program's text lays them. -/
import Derived.Test.YtlnofbdhamingaaDoorDamagedLaw
import Derived.Test.YtlnofbdhamingaaDoorGFrame
import Derived.Test.YtlnofbdhamingaaDoorByteArgs
import Derived.Test.YtlnofbdhamingaaDoorTie
import Derived.Test.YtlnofbdhamingaaDoorCards
import Derived.SevenTiedAt
set_option linter.unusedVariables false
set_option linter.unusedSimpArgs false
namespace Go.Proofs.YtlnofbdhamingaaDoor
open Go.RowKit Go.Sort Go.ChangeShapes Go.WideShapes Go.ChangeAt

set_option maxRecDepth 100000 in
theorem damaged_holds_lifted (os : Os) (started : os.Started) (H : Type) (enc : TypeId × Value → H) :
    ReturnsInHanded {} Tryd.checked os 12 .any (fun w args => (Rows.markDamagedSpec.pre enc Tryd.prog Tryd.f12 [] false w args ∧ laidMetH Tryd.prog laidF w) ∧ sizedMet enc Tryd.prog Tryd.f12 (OpenSpec.ofChange Rows.markDamagedSpec) false w args)
      (Rows.markDamagedSpec.post enc Tryd.prog Tryd.f12 false true false false) := by
  refine law_returns started laidF (by kernel_rfl) Tryd.func12 rfl Tryd.underlying4 rfl ?_ (of_decide_eq_true (by kernel_rfl))
    (ChangeSpec.witness_shaped (enc := enc) (C := Tryd.checked) (os := os) (X := fun w _ => laidMetH Tryd.prog laidF w) false (World.laidAll Tryd.prog os laidF) #[.slice none 0 0, .slice none 0 0, .int .u8 0] 8 (World.laidAll_os _ _ _)
      (World.shaped_of_ZipB (by kernel_rfl) (by kernel_rfl)) (by kernel_rfl) (by kernel_rfl) (by kernel_rfl) (metF os _)) ?_
  · intro ds hds
    rw [Tryd.params12] at hds
    match ds, hds with
    | [d1, d2, d3], _ => exact ⟨rfl, rfl, rfl⟩
  · intro W base args ds p hval0 hA0 hL hsz0
    have hval : ∀ (j : Nat) t v, Tryd.f12.params[j]? = some t → args[j]? = some v → Value.okWide Tryd.prog W .any base t v := hval0
    have hA : DataW.TrodAll enc Tryd.prog W 0 (fun _ => true) true Tryd.f12.params.toList args.toList ds p := hA0
    have hsz : (DataW.weightsEach Tryd.prog (Tryd.f12.params.toList ++ []) (ds ++ [])).all (· ≤ reachBytes) = true := hsz0
    rw [Tryd.params12] at hA hval hsz
    obtain ⟨v0, v1, v2, d0, d1, d2, p0, p1, p2, rfl, rfl, rfl, h0, h1, h2⟩ := trodAll_three hA
    obtain ⟨l0, hl0, -, -, hd0⟩ := bytes_of_arg Tryd.underlying22 Tryd.underlying5 (by kernel_rfl) (hval 0 22 v0 rfl rfl) h0
    have hn0 : l0.length ≤ 140737488351232 := by
      rcases hd0 with rfl | ⟨es, sp, rfl, he⟩
      · simp
      · have := sized_slice hsz (j := 0) (t := 22) (e := 5) rfl rfl Tryd.underlying22
        rw [show Tryd.prog.bytesOf 5 = 1 by kernel_rfl] at this
        simp only [reachBytes] at this
        omega
    obtain ⟨l1, hl1, -, -, hd1⟩ := bytes_of_arg Tryd.underlying22 Tryd.underlying5 (by kernel_rfl) (hval 1 22 v1 rfl rfl) h1
    have hn1 : l1.length ≤ 140737488351232 := by
      rcases hd1 with rfl | ⟨es, sp, rfl, he⟩
      · simp
      · have := sized_slice hsz (j := 1) (t := 22) (e := 5) rfl rfl Tryd.underlying22
        rw [show Tryd.prog.bytesOf 5 = 1 by kernel_rfl] at this
        simp only [reachBytes] at this
        omega
    obtain ⟨a2, rfl, rfl, rfl, w2⟩ := open_int Tryd.underlying5 (hval 2 5 v2 rfl rfl) h2
    obtain ⟨n2, rfl⟩ := nat_u8 (bounds_u8 w2).1
    exact damaged_walk v0 l0 v1 l1 n2 W (pow_ofF hL) hl0 hn0 hl1 hn1
set_option maxHeartbeats 4000000 in
theorem damaged_holds_closed : joinedFacts Tryd.prog 12 Tryd.f12 Rows.markDamagedSpec Rows.markDamagedRow = true := by
  have e1 : (Rows.markDamagedRow.lifted == Tryd.prog.liftsFinal) = true := liftsF
  have e2 : (Tryd.prog.make == some Rows.markDamagedRow.make) = true := makeF
  have e3 := enterF
  unfold joinedFacts
  repeat' with_reducible apply and_t
  all_goals first | with_reducible exact e3 | with_reducible exact e1 | with_reducible exact e2 | (as_aux_lemma => kernel_rfl)
theorem damaged_holds : Rows.MarkDamagedSaid :=
  OpenClaim.holds_of_wide 12 Tryd.f12 rfl rfl rfl rfl rfl rfl rfl ⟨rfl, rfl, rfl, rfl, rfl⟩ rfl rfl rfl rfl rfl (by kernel_rfl) Tryd.func12 damaged_holds_closed
    (of_decide_eq_true (by kernel_rfl)) (by unfold Func.isWrapper; rw [if_neg (of_decide_eq_false (by kernel_rfl))]; exact ⟨rfl, rfl⟩)
    (fun os started H enc _ => damaged_holds_lifted os started H enc)
theorem damaged_card_holds : Rows.MarkDamagedCardSaid :=
  Claim7.holds_tied_plain_at .later [] [.data, .data, .data, .pinned] true (true, "77e809affb4fd19b4b66d45cb4e990bb930714b87f1c58a7808240162d94acbc") false
    damaged_holds (fun _ h => by cases h) (by kernel_rfl) (fun _ h => by cases h) markDamaged_row_tie rfl ⟨rfl, rfl⟩ (by kernel_rfl) rfl
    (fun f fn hf hfn => by
      obtain rfl : f = 12 := Option.some.inj ((show Tryd.prog.funcNamed "sightbench/sightbenchlaw06.MarkDamaged" = some 12 by kernel_rfl).symm.trans hf) |>.symm
      obtain rfl : fn = Tryd.f12 := (Option.some.inj (Tryd.func12.symm.trans hfn)).symm
      exact ⟨by kernel_rfl, fun j t ht => by
        rw [Tryd.params12] at ht
        have hm : t ∈ [22, 22, 5] := by simpa using Array.mem_of_getElem? ht
        have hall : ([22, 22, 5].all fun u => !Tryd.prog.wantsStandIn u) = true := by kernel_rfl
        exact (show Tryd.prog.wantsStandIn t = false by simpa using List.all_eq_true.1 hall t hm)⟩)
    (by kernel_rfl)
#print axioms damaged_card_holds
end Go.Proofs.YtlnofbdhamingaaDoor
