/- Fractions: the plain data. A valid fraction is a rational number whose parts are not great. No program in sight. -/
set_option linter.unusedVariables false
set_option linter.unusedSimpArgs false
namespace Go.Proofs.YtodoimeiklilhaaDoor

def maxP : Nat := 4611686018427387903
structure Frac where
  num : Int
  den : Int
  deriving DecidableEq
def Frac.ok (a : Frac) : Prop := 1 ≤ a.den ∧ a.den ≤ maxP ∧ -maxP ≤ a.num ∧ a.num ≤ maxP ∧ Nat.gcd a.num.natAbs a.den.natAbs = 1
instance (a : Frac) : Decidable a.ok := by unfold Frac.ok; infer_instance
/-- a number that fits -/
def Fits (q : Rat) : Prop := q.den ≤ maxP ∧ -maxP ≤ q.num ∧ q.num ≤ maxP
instance (q : Rat) : Decidable (Fits q) := by unfold Fits; infer_instance
def fracOf (q : Rat) : Frac := ⟨q.num, q.den⟩
def Frac.val (a : Frac) : Rat := mkRat a.num a.den.toNat
theorem fracOf_ok {q : Rat} (h : Fits q) : (fracOf q).ok := by
  have := q.den_pos
  exact ⟨by show 1 ≤ (q.den : Int); omega, by have := h.1; show (q.den : Int) ≤ _; omega, h.2.1, h.2.2, by show Nat.gcd q.num.natAbs (q.den : Int).natAbs = 1; rw [Int.natAbs_natCast]; exact q.reduced⟩
theorem fracOf_val (q : Rat) : (fracOf q).val = q := by
  show mkRat q.num (q.den : Int).toNat = q
  rw [Int.toNat_natCast, Rat.mkRat_self]
theorem Frac.of_ok {a : Frac} (h : a.ok) : ∃ q : Rat, Fits q ∧ a = fracOf q := by
  obtain ⟨n, d⟩ := a
  obtain ⟨h1, h2, h3, h4, h5⟩ := h
  simp only at h1 h2 h3 h4 h5
  obtain ⟨m, rfl⟩ := Int.eq_ofNat_of_zero_le (show 0 ≤ d by omega)
  rw [Int.natAbs_natCast] at h5
  exact ⟨⟨n, m, by omega, h5⟩, ⟨by show m ≤ _; omega, h3, h4⟩, rfl⟩
theorem fracOf_inj {p q : Rat} (h : fracOf p = fracOf q) : p = q := by
  rw [← fracOf_val p, ← fracOf_val q, h]
/-- what an operation answers: the number, or 4 -/
def answer (q : Rat) : Frac × Int := if Fits q then (fracOf q, 0) else (⟨0, 0⟩, 4)
/-- -1, 0, 1 -/
def cmp (p q : Rat) : Int := if p < q then -1 else if p = q then 0 else 1
def two (a b : Frac) (f : Rat → Rat → Frac × Int) : Frac × Int := if a.ok ∧ b.ok then f a.val b.val else (⟨0, 0⟩, 8)
end Go.Proofs.YtodoimeiklilhaaDoor
