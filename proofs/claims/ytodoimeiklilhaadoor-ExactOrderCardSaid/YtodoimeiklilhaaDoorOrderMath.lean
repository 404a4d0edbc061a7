/- The plain law behind ExactOrder. No program in sight. -/
import Derived.Test.YtodoimeiklilhaaDoorFracLaws
set_option linter.unusedVariables false
set_option linter.unusedSimpArgs false
namespace Go.Proofs.YtodoimeiklilhaaDoor

theorem cmp_cases (p q : Rat) : (cmp p q = -1 ∧ p < q) ∨ (cmp p q = 0 ∧ p = q) ∨ (cmp p q = 1 ∧ q < p) := by
  unfold cmp
  by_cases h : p < q
  · rw [if_pos h]; exact Or.inl ⟨rfl, h⟩
  · by_cases e : p = q
    · rw [if_neg h, if_pos e]; exact Or.inr (Or.inl ⟨rfl, e⟩)
    · rw [if_neg h, if_neg e]; exact Or.inr (Or.inr ⟨rfl, by grind⟩)
theorem cmp_lt {p q : Rat} (h : p < q) : cmp p q = -1 := if_pos h
theorem cmp_gt {p q : Rat} (h : q < p) : cmp p q = 1 := by unfold cmp; rw [if_neg (by grind), if_neg (by grind)]
theorem parts_ne {p q : Rat} (h : p ≠ q) : ((fracOf p).num == (fracOf q).num) = false ∨ ((fracOf p).num == (fracOf q).num) = true ∧ ((fracOf p).den == (fracOf q).den) = false := by
  by_cases h1 : (fracOf p).num = (fracOf q).num
  · refine Or.inr ⟨by simpa using h1, ?_⟩
    have : (fracOf p).den ≠ (fracOf q).den := fun h2 => h (fracOf_inj (by
      have e1 : fracOf p = ⟨(fracOf p).num, (fracOf p).den⟩ := rfl
      rw [e1, h1, h2]))
    simpa using this
  · exact Or.inl (by simpa using h1)
theorem num_neg_iff (v : Rat) : v.num < 0 ↔ v < 0 := by
  have := Rat.num_nonneg (q := v)
  constructor
  · intro h
    have : ¬ 0 ≤ v := fun k => by have := this.2 k; omega
    grind
  · intro h
    have : ¬ 0 ≤ v.num := fun k => by have := this.1 k; grind
    omega
theorem num_pos_iff (v : Rat) : 0 < v.num ↔ 0 < v := by
  have h1 := Rat.num_nonneg (q := v)
  have h2 := Rat.num_eq_zero (q := v)
  constructor
  · intro h
    have a : 0 ≤ v := h1.1 (by omega)
    have b : v ≠ 0 := fun k => by have := h2.2 k; omega
    grind
  · intro h
    have a : 0 ≤ v.num := h1.2 (by grind)
    have b : v.num ≠ 0 := fun k => by have := h2.1 k; grind
    omega
theorem order_law (a b c : Frac) : decide (a.ok ∧ b.ok ∧ c.ok) = true → (compareR a b).2 = 0 ∧ (compareR b a).2 = 0 ∧ (compareR b c).2 = 0 ∧ (compareR a c).2 = 0 ∧
    (((compareR a b).1 = -1 ∧ (compareR b a).1 = 1 ∧ ((a.num == b.num) = false ∨ (a.num == b.num) = true ∧ (a.den == b.den) = false)) ∨ ((compareR a b).1 = 0 ∧ (compareR b a).1 = 0 ∧ a.num = b.num ∧ a.den = b.den) ∨
      ((compareR a b).1 = 1 ∧ (compareR b a).1 = -1 ∧ ((a.num == b.num) = false ∨ (a.num == b.num) = true ∧ (a.den == b.den) = false))) ∧
    ((compareR a b).1 ≤ 0 → (compareR b c).1 ≤ 0 → (compareR a c).1 ≤ 0) ∧ ((subR a b).2 = 0 → ((compareR a b).1 < 0 ↔ (subR a b).1.num < 0) ∧ (0 < (compareR a b).1 ↔ 0 < (subR a b).1.num)) ∧
    ((addR a c).2 = 0 → (addR b c).2 = 0 → (compareR (addR a c).1 (addR b c).1).2 = 0 ∧ (compareR (addR a c).1 (addR b c).1).1 = (compareR a b).1) ∧
    ((mulR a c).2 = 0 → (mulR b c).2 = 0 → 0 < c.num → (compareR (mulR a c).1 (mulR b c).1).2 = 0 ∧ (compareR (mulR a c).1 (mulR b c).1).1 = (compareR a b).1) := by
  intro h
  rw [decide_eq_true_eq] at h
  obtain ⟨p, hp, rfl⟩ := Frac.of_ok h.1
  obtain ⟨q, hq, rfl⟩ := Frac.of_ok h.2.1
  obtain ⟨r, hr, rfl⟩ := Frac.of_ok h.2.2
  unfold addR subR mulR
  rw [compareR_mk hp hq, compareR_mk hq hp, compareR_mk hq hr, compareR_mk hp hr, opR_ok _ hp hq, opR_ok _ hp hr, opR_ok _ hq hr, opR_ok _ hp hr, opR_ok _ hq hr]
  refine ⟨rfl, rfl, rfl, rfl, ?_, ?_, ?_, ?_, ?_⟩
  · rcases cmp_cases p q with ⟨e, l⟩ | ⟨e, l⟩ | ⟨e, l⟩
    · exact Or.inl ⟨e, cmp_gt l, parts_ne (by grind)⟩
    · subst l
      exact Or.inr (Or.inl ⟨e, e, rfl, rfl⟩)
    · exact Or.inr (Or.inr ⟨e, cmp_lt l, parts_ne (by grind)⟩)
  · intro h1 h2
    have a1 := cmp_cases p q
    have a2 := cmp_cases q r
    exact cmp_le (by grind)
  · intro e
    have f := answer_zero e
    simp only [answer_fits f]
    show (cmp p q < 0 ↔ (p - q).num < 0) ∧ (0 < cmp p q ↔ 0 < (p - q).num)
    rw [num_neg_iff, num_pos_iff]
    have a1 := cmp_cases p q
    constructor <;> grind
  · intro e1 e2
    have f1 := answer_zero e1
    have f2 := answer_zero e2
    simp only [answer_fits f1, answer_fits f2]
    rw [compareR_mk f1 f2]
    refine ⟨rfl, ?_⟩
    show cmp (p + r) (q + r) = cmp p q
    rcases cmp_cases p q with ⟨e, l⟩ | ⟨e, l⟩ | ⟨e, l⟩
    · rw [e]; exact cmp_lt (by grind)
    · subst l; rw [cmp_self, cmp_self]
    · rw [e]; exact cmp_gt (by grind)
  · intro e1 e2 hc
    have f1 := answer_zero e1
    have f2 := answer_zero e2
    simp only [answer_fits f1, answer_fits f2]
    rw [compareR_mk f1 f2]
    have hr0 : 0 < r := (num_pos_iff r).1 hc
    have key : ∀ s t : Rat, s < t → s * r < t * r := fun s t hst => by
      have := Rat.mul_pos (show 0 < t - s by grind) hr0
      grind
    refine ⟨rfl, ?_⟩
    show cmp (p * r) (q * r) = cmp p q
    rcases cmp_cases p q with ⟨e, l⟩ | ⟨e, l⟩ | ⟨e, l⟩
    · rw [e]; exact cmp_lt (key _ _ l)
    · subst l; rw [cmp_self, cmp_self]
    · rw [e]; exact cmp_gt (key _ _ l)
end Go.Proofs.YtodoimeiklilhaaDoor
