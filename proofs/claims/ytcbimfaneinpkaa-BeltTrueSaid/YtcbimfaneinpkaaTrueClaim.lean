/- The true assignment is among those that Match finds. No condition. -/
import Derived.Test.YtcbimfaneinpkaaTrue
import Derived.Test.YtcbimfaneinpkaaByteArgs
import Derived.Test.YtcbimfaneinpkaaByteArgs16
import Derived.Test.YtcbimfaneinpkaaOpen
set_option linter.unusedVariables false
set_option linter.unusedSimpArgs false
namespace Go.Proofs.Ytcbimfaneinpkaa
open Go.RowKit Go.Sort Go.ChangeShapes Go.WideShapes Go.ChangeAt

set_option maxRecDepth 100000 in
theorem true_holds_lifted (os : Os) (started : os.Started) (H : Type) (enc : TypeId × Value → H) :
    ReturnsInHanded {} Try.checked os 12 .any (Rows.beltTrueSpec.pre6 enc Try.prog Try.f12 Rows.beltTrueRow.domain false) (Rows.beltTrueSpec.post enc Try.prog Try.f12 false true false false) := by
  refine law_returns (C := Try.checked) started own laidOut (by kernel_rfl) Try.func12 rfl Try.underlying4 rfl ?_ (of_decide_eq_true (by kernel_rfl))
    (ChangeSpec.witness6 (enc := enc) (C := Try.checked) false ⟨#[], #[.agg #[.int .i64 0, .int .i64 0, .int .i64 0, .int .i64 0], .slice none 0 0, .slice none 0 0, .slice none 0 0, .int .u16 0, .int .u16 0, .int .u16 0], []⟩ 8 (by kernel_rfl) (by kernel_rfl) (by kernel_rfl) (by kernel_rfl)) ?_
  · intro ds hds
    rw [Try.params12] at hds
    match ds, hds with
    | [d1, d2, d3, d4, d5, d6, d7], _ => exact ⟨rfl, rfl, rfl⟩
  · intro W base args ds p hval0 hA0
    have hval : ∀ (j : Nat) t v, Try.f12.params[j]? = some t → args[j]? = some v → Value.okWide Try.prog W .any base t v := hval0
    have hA : DataW.TrodAll enc Try.prog W 0 (fun _ => true) true Try.f12.params.toList args.toList ds p := hA0
    rw [Try.params12] at hA hval
    obtain ⟨v0, vs0, d0, ds0, p0, q0, hargs, rfl, rfl, h0, r0⟩ := trodAll_cons hA
    obtain ⟨v1, vs1, d1, ds1, p1, q1, rfl, rfl, rfl, h1, r1⟩ := trodAll_cons r0
    obtain ⟨v2, vs2, d2, ds2, p2, q2, rfl, rfl, rfl, h2, r2⟩ := trodAll_cons r1
    obtain ⟨v3, vs3, d3, ds3, p3, q3, rfl, rfl, rfl, h3, r3⟩ := trodAll_cons r2
    obtain ⟨v4, vs4, d4, ds4, p4, q4, rfl, rfl, rfl, h4, r4⟩ := trodAll_cons r3
    obtain ⟨v5, vs5, d5, ds5, p5, q5, rfl, rfl, rfl, h5, r5⟩ := trodAll_cons r4
    obtain ⟨v6, vs6, d6, ds6, p6, q6, rfl, rfl, rfl, h6, r6⟩ := trodAll_cons r5
    obtain ⟨rfl, rfl, rfl⟩ := trodAll_nil r6
    obtain rfl : args = #[v0, v1, v2, v3, v4, v5, v6] := by rw [← Array.toList_inj]; exact hargs
    obtain ⟨b0, rfl⟩ := read_belt (hval 0 23 v0 rfl rfl) h0
    obtain ⟨l1, y1, m1, x1, -⟩ := words_of_arg Try.underlying97 Try.underlying98 (by kernel_rfl) (hval 1 97 v1 rfl rfl) h1
    obtain ⟨l2, y2, m2, x2, -⟩ := bytes_of_arg Try.underlying76 Try.underlying5 (by kernel_rfl) (hval 2 76 v2 rfl rfl) h2
    obtain ⟨l3, y3, m3, x3, -⟩ := bytes_of_arg Try.underlying76 Try.underlying5 (by kernel_rfl) (hval 3 76 v3 rfl rfl) h3
    obtain ⟨a4, rfl, rfl, rfl, w4⟩ := open_int Try.underlying98 (hval 4 98 v4 rfl rfl) h4
    obtain ⟨n4, rfl⟩ := Int.eq_ofNat_of_zero_le (bounds_u16 w4).1
    obtain ⟨a5, rfl, rfl, rfl, w5⟩ := open_int Try.underlying98 (hval 5 98 v5 rfl rfl) h5
    obtain ⟨n5, rfl⟩ := Int.eq_ofNat_of_zero_le (bounds_u16 w5).1
    obtain ⟨a6, rfl, rfl, rfl, w6⟩ := open_int Try.underlying98 (hval 6 98 v6 rfl rfl) h6
    obtain ⟨n6, rfl⟩ := Int.eq_ofNat_of_zero_le (bounds_u16 w6).1
    exact w12 b0 v1 l1 v2 l2 v3 l3 n4 n5 n6 W y1 m1 x1 y2 m2 x2 y3 m3 x3 (by have := (bounds_u16 w4).2; omega) (by have := (bounds_u16 w5).2; omega) (by have := (bounds_u16 w6).2; omega)

theorem true_holds : Rows.BeltTrueSaid :=
  OpenClaim.holds_of_wide 12 Try.f12 rfl rfl rfl rfl rfl rfl rfl ⟨rfl, rfl, rfl, rfl, rfl⟩ rfl rfl rfl rfl rfl (by kernel_rfl) Try.func12 (by kernel_rfl)
    (of_decide_eq_true (by kernel_rfl)) (by unfold Func.isWrapper; rw [if_neg (of_decide_eq_false (by kernel_rfl))]; exact ⟨rfl, rfl⟩)
    (fun os started H enc _ => true_holds_lifted os started H enc)
#print axioms true_holds
end Go.Proofs.Ytcbimfaneinpkaa
