/- 'BeltReach' returns true for every input: however the belt moved, a front is where Reach says. No condition. -/
import Derived.Test.YtcbimfaneinpkaaMoves
import Derived.Test.YtcbimfaneinpkaaByteArgs
import Derived.Test.YtcbimfaneinpkaaOpen
set_option linter.unusedVariables false
set_option linter.unusedSimpArgs false
namespace Go.Proofs.Ytcbimfaneinpkaa
open Go.RowKit Go.Sort Go.ChangeShapes Go.WideShapes Go.ChangeAt

set_option maxRecDepth 100000 in
theorem reach_holds_lifted (os : Os) (started : os.Started) (H : Type) (enc : TypeId × Value → H) :
    ReturnsInHanded {} Try.checked os 15 .any (Rows.beltReachSpec.pre6 enc Try.prog Try.f15 Rows.beltReachRow.domain false) (Rows.beltReachSpec.post enc Try.prog Try.f15 false true false false) := by
  refine law_returns (C := Try.checked) started own laidOut (by kernel_rfl) Try.func15 rfl Try.underlying4 rfl ?_ (of_decide_eq_true (by kernel_rfl))
    (ChangeSpec.witness6 (enc := enc) (C := Try.checked) false ⟨#[], #[.agg #[.int .i64 0, .int .i64 0, .int .i64 0, .int .i64 0], .slice none 0 0], []⟩ 8 (by kernel_rfl) (by kernel_rfl) (by kernel_rfl) (by kernel_rfl)) ?_
  · intro ds hds
    rw [Try.params15] at hds
    match ds, hds with
    | [d1, d2], _ => exact ⟨rfl, rfl, rfl⟩
  · intro W base args ds p hval0 hA0
    have hval : ∀ (j : Nat) t v, Try.f15.params[j]? = some t → args[j]? = some v → Value.okWide Try.prog W .any base t v := hval0
    have hA : DataW.TrodAll enc Try.prog W 0 (fun _ => true) true Try.f15.params.toList args.toList ds p := hA0
    rw [Try.params15] at hA hval
    obtain ⟨v0, v1, d0, d1, p0, p1, rfl, rfl, rfl, h0, h1⟩ := trodAll_two hA
    obtain ⟨b0, rfl⟩ := read_belt (hval 0 23 v0 rfl rfl) h0
    obtain ⟨l1, y1, m1, x1, -⟩ := bytes_of_arg Try.underlying76 Try.underlying5 (by kernel_rfl) (hval 1 76 v1 rfl rfl) h1
    exact w15 b0 v1 l1 W y1 m1 x1

theorem reach_holds : Rows.BeltReachSaid :=
  OpenClaim.holds_of_wide 15 Try.f15 rfl rfl rfl rfl rfl rfl rfl ⟨rfl, rfl, rfl, rfl, rfl⟩ rfl rfl rfl rfl rfl (by kernel_rfl) Try.func15 (by kernel_rfl)
    (of_decide_eq_true (by kernel_rfl)) (by unfold Func.isWrapper; rw [if_neg (of_decide_eq_false (by kernel_rfl))]; exact ⟨rfl, rfl⟩)
    (fun os started H enc _ => reach_holds_lifted os started H enc)
#print axioms reach_holds
end Go.Proofs.Ytcbimfaneinpkaa
