/- FindProved: whatever the input, true; the input reads as it did. No condition. -/
import Derived.Test.YtipkjdfnoonpcaaProvedLaw
import Derived.Test.YtipkjdfnoonpcaaFindArgs2
import Derived.Test.YtipkjdfnoonpcaaFindArgs3
import Derived.Test.YtipkjdfnoonpcaaFindArgs
set_option linter.unusedVariables false
set_option linter.unusedSimpArgs false
namespace Go.Proofs.Ytipkjdfnoonpcaa
open Go.RowKit Go.Sort Go.ChangeShapes Go.WideShapes Go.ChangeAt

set_option maxRecDepth 100000 in
theorem findProved_holds_lifted (os : Os) (started : os.Started) (H : Type) (enc : TypeId × Value → H) :
    ReturnsInHanded {} Try.checked os 10 .any (Rows.findProvedSpec.pre6 enc Try.prog Try.f10 Rows.findProvedRow.domain false) (Rows.findProvedSpec.post enc Try.prog Try.f10 false true false false) := by
  refine law_returns started (by kernel_rfl) Try.func10 rfl Try.underlying4 rfl ?_ (of_decide_eq_true (by kernel_rfl))
    (ChangeSpec.witness6 (enc := enc) (C := Try.checked) false ⟨#[], #[.agg #[.int .i64 0, .int .i64 0, .slice none 0 0], .agg #[.int .i64 0, .int .i64 0, .slice none 0 0], .int .i64 0, .agg #[.slice none 0 0, .slice none 0 0]], []⟩ 8 (by kernel_rfl) (by kernel_rfl) (by kernel_rfl) (by kernel_rfl)) ?_
  · intro ds hds
    rw [Try.params10] at hds
    match ds, hds with
    | [d1, d2, d3, d4], _ => exact ⟨rfl, rfl, rfl⟩
  · intro W base args ds p hval0 hA0 hsz0
    have hval : ∀ (j : Nat) t v, Try.f10.params[j]? = some t → args[j]? = some v → Value.okWide Try.prog W .any base t v := hval0
    have hA : DataW.TrodAll enc Try.prog W 0 (fun _ => true) true Try.f10.params.toList args.toList ds p := hA0
    have hsz : (DataW.weightsEach Try.prog (Try.f10.params.toList ++ []) (ds ++ [])).all (· ≤ reachBytes) = true := hsz0
    rw [Try.params10] at hA hval hsz
    obtain ⟨v0, v1, v2, v3, d0, d1, d2, d3, p0, p1, p2, p3, rfl, rfl, rfl, h0, h1, h2, h3⟩ := trodAll_four hA
    obtain ⟨m0, u0, rfl, y0, l0, s0, x0⟩ := read_img 24 (.inl rfl) (hval 0 24 v0 rfl rfl) h0
    obtain ⟨m1, u1, rfl, y1, l1, s1, x1⟩ := read_tpl (hval 1 43 v1 rfl rfl) h1
    obtain ⟨a2, rfl, rfl, rfl, w2⟩ := open_int Try.underlying3 (hval 2 3 v2 rfl rfl) h2
    obtain ⟨ms3, ar3, mv3, av3, rfl, x3, y3⟩ := read_search (hval 3 63 v3 rfl rfl) h3
    exact g10 m0 u0 m1 u1 a2 ms3 ar3 mv3 av3 W y0 (by rcases s0 with h9 | ⟨e0, e1, es, sp, rfl, h9⟩; rw [h9]; simp; rw [← h9]; exact img_size hsz (j := 0) (t := 24) (.inl rfl) rfl rfl) y1 (by rcases s1 with h9 | ⟨e0, e1, es, sp, rfl, h9⟩; rw [h9]; simp; rw [← h9]; exact img_size hsz (j := 1) (t := 43) (.inr rfl) rfl rfl) w2 x3 y3

theorem findProved_holds : Rows.FindProvedSaid :=
  OpenClaim.holds_of_wide 10 Try.f10 rfl rfl rfl rfl rfl rfl rfl ⟨rfl, rfl, rfl, rfl, rfl⟩ rfl rfl rfl rfl rfl (by kernel_rfl) Try.func10 (by kernel_rfl)
    (of_decide_eq_true (by kernel_rfl)) (by unfold Func.isWrapper; rw [if_neg (of_decide_eq_false (by kernel_rfl))]; exact ⟨rfl, rfl⟩)
    (fun os started H enc _ => findProved_holds_lifted os started H enc)
#print axioms findProved_holds
end Go.Proofs.Ytipkjdfnoonpcaa
