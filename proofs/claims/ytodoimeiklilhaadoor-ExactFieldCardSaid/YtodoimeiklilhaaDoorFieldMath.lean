/- The plain law behind ExactField. No program in sight. -/
import Derived.Test.YtodoimeiklilhaaDoorFracLaws
set_option linter.unusedVariables false
set_option linter.unusedSimpArgs false
namespace Go.Proofs.YtodoimeiklilhaaDoor

/-- valid arguments are those of an operation that does not err -/
theorem ans_args {f : Rat → Rat → Frac × Int} {a b : Frac} (he : (opR f a b).2 = 0) : a.ok ∧ b.ok := by
  unfold opR at he
  by_cases h : a.ok ∧ b.ok
  · exact h
  · rw [if_neg h] at he; simp at he
theorem field_law (a b c : Frac) : decide (a.ok ∧ b.ok ∧ c.ok) = true →
    (decide ((addR a b).1.ok ∧ (addR b c).1.ok) = true → (addR (addR a b).1 c).2 = 0 → (addR b c).2 = 0 → (addR a (addR b c).1).2 = 0 → (addR (addR a b).1 c).1.num = (addR a (addR b c).1).1.num ∧ (addR (addR a b).1 c).1.den = (addR a (addR b c).1).1.den) ∧
    (decide ((mulR a b).1.ok ∧ (mulR b c).1.ok) = true → (mulR (mulR a b).1 c).2 = 0 → (mulR b c).2 = 0 → (mulR a (mulR b c).1).2 = 0 → (mulR (mulR a b).1 c).1.num = (mulR a (mulR b c).1).1.num ∧ (mulR (mulR a b).1 c).1.den = (mulR a (mulR b c).1).1.den) ∧
    (decide ((addR a b).1.ok) = true → (mulR (addR a b).1 c).2 = 0 → (mulR a c).2 = 0 → (mulR b c).2 = 0 → (addR (mulR a c).1 (mulR b c).1).2 = 0 ∧ (mulR (addR a b).1 c).1.num = (addR (mulR a c).1 (mulR b c).1).1.num ∧ (mulR (addR a b).1 c).1.den = (addR (mulR a c).1 (mulR b c).1).1.den) := by
  intro h
  rw [decide_eq_true_eq] at h
  obtain ⟨p, hp, rfl⟩ := Frac.of_ok h.1
  obtain ⟨q, hq, rfl⟩ := Frac.of_ok h.2.1
  obtain ⟨r, hr, rfl⟩ := Frac.of_ok h.2.2
  unfold addR mulR
  rw [opR_ok _ hp hq, opR_ok _ hq hr, opR_ok _ hp hq, opR_ok _ hq hr, opR_ok _ hp hr]
  -- a sum that is valid is one that fits: 0 / 0 is not valid
  have key : ∀ v : Rat, (answer v).1.ok → answer v = (fracOf v, 0) ∧ Fits v := by
    intro v hv
    by_cases k : Fits v
    · exact ⟨answer_fits k, k⟩
    · unfold answer at hv; rw [if_neg k] at hv
      exact absurd hv.1 (by decide)
  refine ⟨?_, ?_, ?_⟩
  · intro hv e1 e2 e3
    rw [decide_eq_true_eq] at hv
    obtain ⟨x1, x2⟩ := key _ hv.1
    obtain ⟨t1, t2⟩ := key _ hv.2
    simp only [x1, t1] at e1 e3 ⊢
    rw [opR_ok _ x2 hr] at e1 ⊢
    rw [opR_ok _ hp t2] at e3 ⊢
    rw [Rat.add_assoc]
    exact ⟨rfl, rfl⟩
  · intro hv e1 e2 e3
    rw [decide_eq_true_eq] at hv
    obtain ⟨x1, x2⟩ := key _ hv.1
    obtain ⟨t1, t2⟩ := key _ hv.2
    simp only [x1, t1] at e1 e3 ⊢
    rw [opR_ok _ x2 hr] at e1 ⊢
    rw [opR_ok _ hp t2] at e3 ⊢
    rw [Rat.mul_assoc]
    exact ⟨rfl, rfl⟩
  · intro hv e1 e2 e3
    rw [decide_eq_true_eq] at hv
    obtain ⟨x1, x2⟩ := key _ hv
    have f2 := answer_zero e2
    have f3 := answer_zero e3
    simp only [x1, answer_fits f2, answer_fits f3] at e1 ⊢
    rw [opR_ok _ x2 hr] at e1 ⊢
    have f1 := answer_zero e1
    rw [opR_ok _ f2 f3]
    have ed : (p + q) * r = p * r + q * r := by grind
    rw [← ed, answer_fits f1]
    exact ⟨rfl, rfl, rfl⟩
theorem add_comm_law (a b : Frac) : addR a b = addR b a := by
  unfold addR opR
  by_cases h : a.ok ∧ b.ok
  · rw [if_pos h, if_pos ⟨h.2, h.1⟩]
    show answer (a.val + b.val) = answer (b.val + a.val)
    rw [Rat.add_comm]
  · rw [if_neg h, if_neg (fun k => h ⟨k.2, k.1⟩)]
theorem mul_comm_law (a b : Frac) : mulR a b = mulR b a := by
  unfold mulR opR
  by_cases h : a.ok ∧ b.ok
  · rw [if_pos h, if_pos ⟨h.2, h.1⟩]
    show answer (a.val * b.val) = answer (b.val * a.val)
    rw [Rat.mul_comm]
  · rw [if_neg h, if_neg (fun k => h ⟨k.2, k.1⟩)]
theorem zero_one_law (a : Frac) (h : a.ok) : addR a ⟨0, 1⟩ = (a, 0) ∧ mulR a ⟨1, 1⟩ = (a, 0) := by
  obtain ⟨p, hp, rfl⟩ := Frac.of_ok h
  have z := whole_ok (n := 0) (by omega) (by omega)
  have o := whole_ok (n := 1) (by omega) (by omega)
  unfold addR mulR
  rw [z.2, o.2, opR_ok _ hp z.1, opR_ok _ hp o.1]
  have e1 : p + ((0 : Int) : Rat) = p := by grind
  have e2 : p * ((1 : Int) : Rat) = p := by grind
  rw [e1, e2, answer_fits hp]
  exact ⟨rfl, rfl⟩
end Go.Proofs.YtodoimeiklilhaaDoor
