/- The plain law behind ExactTight. No program in sight. -/
import Derived.Test.YtodoimeiklilhaaDoorGLaws
import Derived.Test.YtodoimeiklilhaaDoorTightLaw
set_option linter.unusedVariables false
set_option linter.unusedSimpArgs false
namespace Go.Proofs.YtodoimeiklilhaaDoor

theorem span_args {f : Rat → Rat → Frac × Int} {pairs : Rat → Rat → Rat → Rat → List (Rat × Rat)} {a b : Span} (h : (spanR f pairs a b).2 = 0) : a.ok ∧ b.ok := by
  unfold spanR at h
  by_cases k : a.ok ∧ b.ok
  · exact k
  · rw [if_neg k] at h; simp at h
theorem sR_args (how : Int) {a b : Span} (h : (sR (how % 4) a b).2 = 0) : a.ok ∧ b.ok := by
  rcases how4 how with k | k | k | k <;> rw [k] at h
  · exact span_args (f := fun p q => answer (p + q)) (pairs := pairsAdd) h
  · exact span_args (f := fun p q => answer (p - q)) (pairs := pairsSub) h
  · exact span_args (f := fun p q => answer (p * q)) (pairs := pairsAll) h
  · have h' : (divSpanR a b).2 = 0 := h
    unfold divSpanR at h'
    by_cases k : a.ok ∧ b.ok
    · exact k
    · rw [if_neg k] at h'; simp at h'
theorem tl_of {z : Frac × Int} {x : Frac} (h : z = (x, 0)) : tl z x = true := by
  subst h
  simp [tl]
theorem low_any {z0 z1 z2 z3 : Frac × Int} {x : Frac} (h : z0 = (x, 0) ∨ z1 = (x, 0) ∨ z2 = (x, 0) ∨ z3 = (x, 0)) : lowF z0 z1 z2 z3 x 4 = true := by
  show (tl z0 x || tl z1 x || tl z2 x || tl z3 x) = true
  rcases h with h | h | h | h <;> rw [tl_of h] <;> simp
theorem tight_law (how : Int) (a b : Span) (h : (sR (how % 4) a b).2 = 0) :
    lowF (zR (how % 4) a.lo b.lo) (zR (how % 4) a.hi b.lo) (zR (how % 4) a.lo b.hi) (zR (how % 4) a.hi b.hi) (boxSpan (sR (how % 4) a b).1).lo 4 = true ∧
    lowF (zR (how % 4) a.lo b.lo) (zR (how % 4) a.hi b.lo) (zR (how % 4) a.lo b.hi) (zR (how % 4) a.hi b.hi) (boxSpan (sR (how % 4) a b).1).hi 4 = true := by
  obtain ⟨oa, ob⟩ := sR_args how h
  obtain ⟨al, ah, f1, f2, f3, rfl⟩ := Span.of_ok oa
  obtain ⟨bl, bh, g1, g2, g3, rfl⟩ := Span.of_ok ob
  obtain ⟨lo, hi, e, E⟩ := encl_of (how4 how) f1 f2 g1 g2 f3 g3 h
  rw [e]
  show lowF (zR _ (fracOf al) (fracOf bl)) (zR _ (fracOf ah) (fracOf bl)) (zR _ (fracOf al) (fracOf bh)) (zR _ (fracOf ah) (fracOf bh)) (fracOf lo) 4 = true ∧ lowF (zR _ (fracOf al) (fracOf bl)) (zR _ (fracOf ah) (fracOf bl)) (zR _ (fracOf al) (fracOf bh)) (zR _ (fracOf ah) (fracOf bh)) (fracOf hi) 4 = true
  rw [zR_mk f1 g1, zR_mk f2 g1, zR_mk f1 g2, zR_mk f2 g2]
  obtain ⟨p, q, hp, hq, h1, -⟩ := E.low
  obtain ⟨p', q', hp', hq', h2, -⟩ := E.high
  constructor
  · apply low_any
    rcases hp with rfl | rfl <;> rcases hq with rfl | rfl <;> simp [h1]
  · apply low_any
    rcases hp' with rfl | rfl <;> rcases hq' with rfl | rfl <;> simp [h2]
end Go.Proofs.YtodoimeiklilhaaDoor
