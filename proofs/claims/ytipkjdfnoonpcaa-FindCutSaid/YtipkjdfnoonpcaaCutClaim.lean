/- FindCut: whatever the input, true; the input reads as it did. No condition. -/
import Derived.Test.YtipkjdfnoonpcaaCutLaw
import Derived.Test.YtipkjdfnoonpcaaFindArgs2
import Derived.Test.YtipkjdfnoonpcaaByteArgs
import Derived.Test.YtipkjdfnoonpcaaFindArgs
set_option linter.unusedVariables false
set_option linter.unusedSimpArgs false
namespace Go.Proofs.Ytipkjdfnoonpcaa
open Go.RowKit Go.Sort Go.ChangeShapes Go.WideShapes Go.ChangeAt

set_option maxRecDepth 100000 in
theorem findCut_holds_lifted (os : Os) (started : os.Started) (H : Type) (enc : TypeId × Value → H) :
    ReturnsInHanded {} Try.checked os 12 .any (Rows.findCutSpec.pre6 enc Try.prog Try.f12 Rows.findCutRow.domain false) (Rows.findCutSpec.post enc Try.prog Try.f12 false true false false) := by
  refine law_returns started (by kernel_rfl) Try.func12 rfl Try.underlying4 rfl ?_ (of_decide_eq_true (by kernel_rfl))
    (ChangeSpec.witness6 (enc := enc) (C := Try.checked) false ⟨#[], #[.agg #[.int .i64 0, .int .i64 0, .slice none 0 0], .int .u8 0, .int .u8 0, .int .u8 0, .int .u8 0, .slice none 0 0], []⟩ 8 (by kernel_rfl) (by kernel_rfl) (by kernel_rfl) (by kernel_rfl)) ?_
  · intro ds hds
    rw [Try.params12] at hds
    match ds, hds with
    | [d1, d2, d3, d4, d5, d6], _ => exact ⟨rfl, rfl, rfl⟩
  · intro W base args ds p hval0 hA0 hsz0
    have hval : ∀ (j : Nat) t v, Try.f12.params[j]? = some t → args[j]? = some v → Value.okWide Try.prog W .any base t v := hval0
    have hA : DataW.TrodAll enc Try.prog W 0 (fun _ => true) true Try.f12.params.toList args.toList ds p := hA0
    have hsz : (DataW.weightsEach Try.prog (Try.f12.params.toList ++ []) (ds ++ [])).all (· ≤ reachBytes) = true := hsz0
    rw [Try.params12] at hA hval hsz
    obtain ⟨v0, vs0, d0, ds0, p0, q0, hargs, rfl, rfl, h0, r0⟩ := trodAll_cons hA
    obtain ⟨v1, vs1, d1, ds1, p1, q1, rfl, rfl, rfl, h1, r1⟩ := trodAll_cons r0
    obtain ⟨v2, vs2, d2, ds2, p2, q2, rfl, rfl, rfl, h2, r2⟩ := trodAll_cons r1
    obtain ⟨v3, vs3, d3, ds3, p3, q3, rfl, rfl, rfl, h3, r3⟩ := trodAll_cons r2
    obtain ⟨v4, vs4, d4, ds4, p4, q4, rfl, rfl, rfl, h4, r4⟩ := trodAll_cons r3
    obtain ⟨v5, vs5, d5, ds5, p5, q5, rfl, rfl, rfl, h5, r5⟩ := trodAll_cons r4
    obtain ⟨rfl, rfl, rfl⟩ := trodAll_nil r5
    obtain rfl : args = #[v0, v1, v2, v3, v4, v5] := by rw [← Array.toList_inj]; exact hargs
    obtain ⟨m0, u0, rfl, y0, l0, s0, x0⟩ := read_img 24 (.inl rfl) (hval 0 24 v0 rfl rfl) h0
    obtain ⟨a1, rfl, rfl, rfl, w1⟩ := open_int Try.underlying5 (hval 1 5 v1 rfl rfl) h1
    obtain ⟨a2, rfl, rfl, rfl, w2⟩ := open_int Try.underlying5 (hval 2 5 v2 rfl rfl) h2
    obtain ⟨a3, rfl, rfl, rfl, w3⟩ := open_int Try.underlying5 (hval 3 5 v3 rfl rfl) h3
    obtain ⟨a4, rfl, rfl, rfl, w4⟩ := open_int Try.underlying5 (hval 4 5 v4 rfl rfl) h4
    obtain ⟨l5, yb5, lb5, bb5, -⟩ := bytes_of_arg Try.underlying82 Try.underlying5 (by kernel_rfl) (hval 5 82 v5 rfl rfl) h5
    exact g12 m0 u0 a1 a2 a3 a4 l5 v5 W y0 (by rcases s0 with h9 | ⟨e0, e1, es, sp, rfl, h9⟩; rw [h9]; simp; rw [← h9]; exact img_size hsz (j := 0) (t := 24) (.inl rfl) rfl rfl) w1 w2 w3 w4 yb5 lb5 bb5

theorem findCut_holds : Rows.FindCutSaid :=
  OpenClaim.holds_of_wide 12 Try.f12 rfl rfl rfl rfl rfl rfl rfl ⟨rfl, rfl, rfl, rfl, rfl⟩ rfl rfl rfl rfl rfl (by kernel_rfl) Try.func12 (by kernel_rfl)
    (of_decide_eq_true (by kernel_rfl)) (by unfold Func.isWrapper; rw [if_neg (of_decide_eq_false (by kernel_rfl))]; exact ⟨rfl, rfl⟩)
    (fun os started H enc _ => findCut_holds_lifted os started H enc)
#print axioms findCut_holds
end Go.Proofs.Ytipkjdfnoonpcaa
