/- 'BeltHit' returns true for every input: who is Hit, by gaps and verdicts. No condition. -/
import Derived.Test.YtcbimfaneinpkaaHit
import Derived.Test.YtcbimfaneinpkaaArgThree
import Derived.Test.YtcbimfaneinpkaaOpen
set_option linter.unusedVariables false
set_option linter.unusedSimpArgs false
namespace Go.Proofs.Ytcbimfaneinpkaa
open Go.RowKit Go.Sort Go.ChangeShapes Go.WideShapes Go.ChangeAt

set_option maxRecDepth 100000 in
theorem hit_holds_lifted (os : Os) (started : os.Started) (H : Type) (enc : TypeId × Value → H) :
    ReturnsInHanded {} Try.checked os 9 .any (Rows.beltHitSpec.pre6 enc Try.prog Try.f9 Rows.beltHitRow.domain false) (Rows.beltHitSpec.post enc Try.prog Try.f9 false true false false) := by
  refine law_returns (C := Try.checked) started own laidOut (by kernel_rfl) Try.func9 rfl Try.underlying4 rfl ?_ (of_decide_eq_true (by kernel_rfl))
    (ChangeSpec.witness6 (enc := enc) (C := Try.checked) false ⟨#[], #[.agg #[.int .i64 0, .int .i64 0, .int .i64 0, .int .i64 0], .int .u8 0, .int .u8 0, .agg #[.int .u8 0, .int .u8 0, .int .u8 0]], []⟩ 8 (by kernel_rfl) (by kernel_rfl) (by kernel_rfl) (by kernel_rfl)) ?_
  · intro ds hds
    rw [Try.params9] at hds
    match ds, hds with
    | [d1, d2, d3, d4], _ => exact ⟨rfl, rfl, rfl⟩
  · intro W base args ds p hval0 hA0
    have hval : ∀ (j : Nat) t v, Try.f9.params[j]? = some t → args[j]? = some v → Value.okWide Try.prog W .any base t v := hval0
    have hA : DataW.TrodAll enc Try.prog W 0 (fun _ => true) true Try.f9.params.toList args.toList ds p := hA0
    rw [Try.params9] at hA hval
    obtain ⟨v0, v1, v2, v3, d0, d1, d2, d3, p0, p1, p2, p3, rfl, rfl, rfl, h0, h1, h2, h3⟩ := trodAll_four hA
    obtain ⟨b0, rfl⟩ := read_belt (hval 0 23 v0 rfl rfl) h0
    obtain ⟨a1, rfl, rfl, rfl, w1⟩ := open_int Try.underlying5 (hval 1 5 v1 rfl rfl) h1
    obtain ⟨n1, rfl⟩ := Int.eq_ofNat_of_zero_le (bounds_u8 w1).1
    obtain ⟨a2, rfl, rfl, rfl, w2⟩ := open_int Try.underlying5 (hval 2 5 v2 rfl rfl) h2
    obtain ⟨n2, rfl⟩ := Int.eq_ofNat_of_zero_le (bounds_u8 w2).1
    obtain ⟨x30, x31, x32, rfl, y30, y31, y32⟩ := read_three (hval 3 89 v3 rfl rfl) h3
    exact w9 b0 n1 n2 x30 x31 x32 W (by have := (bounds_u8 w1).2; omega) (by have := (bounds_u8 w2).2; omega) y30 y31 y32

theorem hit_holds : Rows.BeltHitSaid :=
  OpenClaim.holds_of_wide 9 Try.f9 rfl rfl rfl rfl rfl rfl rfl ⟨rfl, rfl, rfl, rfl, rfl⟩ rfl rfl rfl rfl rfl (by kernel_rfl) Try.func9 (by kernel_rfl)
    (of_decide_eq_true (by kernel_rfl)) (by unfold Func.isWrapper; rw [if_neg (of_decide_eq_false (by kernel_rfl))]; exact ⟨rfl, rfl⟩)
    (fun os started H enc _ => hit_holds_lifted os started H enc)
#print axioms hit_holds
end Go.Proofs.Ytcbimfaneinpkaa
