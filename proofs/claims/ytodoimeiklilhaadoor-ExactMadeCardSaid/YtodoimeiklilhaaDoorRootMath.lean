/- Whole square roots, bit by bit: the plain law. No program in sight. -/
set_option linter.unusedVariables false
set_option linter.unusedSimpArgs false
namespace Go.Proofs.YtodoimeiklilhaaDoor

theorem isq_exists (q : Nat) : ∃ s : Nat, s * s ≤ q ∧ q < (s + 1) * (s + 1) := by
  induction q with
  | zero => exact ⟨0, by omega, by omega⟩
  | succ q ih =>
    obtain ⟨s, h1, h2⟩ := ih
    rcases Nat.lt_or_ge (q + 1) ((s + 1) * (s + 1)) with h | h
    · exact ⟨s, by omega, h⟩
    · refine ⟨s + 1, h, ?_⟩
      have : (s + 1 + 1) * (s + 1 + 1) = (s + 1) * (s + 1) + 2 * s + 3 := by grind
      omega
/-- the whole part of the square root -/
noncomputable def isq (q : Nat) : Nat := Classical.choose (isq_exists q)
theorem isq_spec (q : Nat) : isq q * isq q ≤ q ∧ q < (isq q + 1) * (isq q + 1) := Classical.choose_spec (isq_exists q)
theorem isq_eq {q s : Nat} (h1 : s * s ≤ q) (h2 : q < (s + 1) * (s + 1)) : s = isq q := by
  obtain ⟨g1, g2⟩ := isq_spec q
  rcases Nat.lt_trichotomy s (isq q) with h | h | h
  · have := Nat.mul_le_mul (show s + 1 ≤ isq q from h) (show s + 1 ≤ isq q from h); omega
  · exact h
  · have := Nat.mul_le_mul (show isq q + 1 ≤ s from h) (show isq q + 1 ≤ s from h); omega
/-- n bits are still to be found -/
def RootAt (q n s : Nat) : Prop := 2 ^ n ∣ s ∧ s * s ≤ q ∧ q < (s + 2 ^ n) * (s + 2 ^ n)
theorem or_bit {n s : Nat} (h : 2 ^ (n + 1) ∣ s) : s ||| 2 ^ n = s + 2 ^ n := by
  obtain ⟨k, rfl⟩ := h
  rw [← Nat.two_pow_add_eq_or_of_lt (Nat.pow_lt_pow_right (by omega) (by omega))]
theorem root_yes {q n s : Nat} (h : RootAt q (n + 1) s) (ht : (s + 2 ^ n) * (s + 2 ^ n) ≤ q) : RootAt q n (s + 2 ^ n) := by
  obtain ⟨⟨k, hk⟩, h2, h3⟩ := h
  refine ⟨⟨2 * k + 1, by rw [hk, Nat.pow_succ]; grind⟩, ht, ?_⟩
  rw [show s + 2 ^ n + 2 ^ n = s + 2 ^ (n + 1) by rw [Nat.pow_succ]; omega]
  exact h3
theorem root_no {q n s : Nat} (h : RootAt q (n + 1) s) (ht : ¬ (s + 2 ^ n) * (s + 2 ^ n) ≤ q) : RootAt q n s := by
  obtain ⟨⟨k, hk⟩, h2, h3⟩ := h
  exact ⟨⟨2 * k, by rw [hk, Nat.pow_succ]; grind⟩, h2, by omega⟩
theorem root_end {q s : Nat} (h : RootAt q 0 s) : s = isq q := by
  obtain ⟨_, h2, h3⟩ := h
  exact isq_eq h2 (by simpa using h3)
end Go.Proofs.YtodoimeiklilhaaDoor
