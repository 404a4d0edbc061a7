/- What 'made' answers for sums of rational numbers: the plain law. -/
import Derived.Test.YtodoimeiklilhaaDoorFracMath
set_option linter.unusedVariables false
set_option linter.unusedSimpArgs false
namespace Go.Proofs.YtodoimeiklilhaaDoor

/-- the two products of a sum -/
def sumX (p q : Rat) : Nat := an p * (dw q / Nat.gcd (dw p) (dw q))
def sumY (p q : Rat) : Nat := an q * (dw p / Nat.gcd (dw p) (dw q))
/-- the numerator that is still to be reduced, and whether it is negative -/
def sumN (p q : Rat) : Nat := if (!(decide (nm p < 0) == decide (nm q < 0))) = true then if sumX p q < sumY p q then sumY p q - sumX p q else sumX p q - sumY p q else sumX p q + sumY p q
def sumNeg (p q : Rat) : Bool := if (!(decide (nm p < 0) == decide (nm q < 0))) = true then if sumX p q < sumY p q then decide (nm q < 0) else decide (nm p < 0) else decide (nm p < 0)
theorem sum_sign (p q : Rat) : nm p * ((dw q / Nat.gcd (dw p) (dw q) : Nat) : Int) + nm q * ((dw p / Nat.gcd (dw p) (dw q) : Nat) : Int) = if sumNeg p q then -(sumN p q : Int) else sumN p q := by
  have ex : (sumX p q : Int) = (an p : Int) * ((dw q / Nat.gcd (dw p) (dw q) : Nat) : Int) := Int.natCast_mul _ _
  have ey : (sumY p q : Int) = (an q : Int) * ((dw p / Nat.gcd (dw p) (dw q) : Nat) : Int) := Int.natCast_mul _ _
  have hp : nm p = if nm p < 0 then -(an p : Int) else an p := by unfold an; unfold nm; split <;> omega
  have hq : nm q = if nm q < 0 then -(an q : Int) else an q := by unfold an; unfold nm; split <;> omega
  have e : nm p * ((dw q / Nat.gcd (dw p) (dw q) : Nat) : Int) = if nm p < 0 then -(sumX p q : Int) else sumX p q := by
    rw [ex]
    generalize ((dw q / Nat.gcd (dw p) (dw q) : Nat) : Int) = c
    by_cases h : nm p < 0
    · rw [if_pos h] at hp ⊢; rw [hp, Int.neg_mul]
    · rw [if_neg h] at hp ⊢; rw [hp]
  have f : nm q * ((dw p / Nat.gcd (dw p) (dw q) : Nat) : Int) = if nm q < 0 then -(sumY p q : Int) else sumY p q := by
    rw [ey]
    generalize ((dw p / Nat.gcd (dw p) (dw q) : Nat) : Int) = c
    by_cases h : nm q < 0
    · rw [if_pos h] at hq ⊢; rw [hq, Int.neg_mul]
    · rw [if_neg h] at hq ⊢; rw [hq]
  rw [e, f]
  unfold sumN sumNeg
  by_cases h1 : nm p < 0 <;> by_cases h2 : nm q < 0 <;> by_cases h3 : sumX p q < sumY p q <;> simp [h1, h2, h3] <;> omega
theorem sum_eq (p q : Rat) : answer (p + q) = madeR (sumNeg p q) (sumN p q / Nat.gcd (Nat.gcd (dw p) (dw q)) (sumN p q % Nat.gcd (dw p) (dw q)))
    (dw p / Nat.gcd (dw p) (dw q) * (dw q / Nat.gcd (Nat.gcd (dw p) (dw q)) (sumN p q % Nat.gcd (dw p) (dw q)))) := by
  have hs := sum_sign p q
  have dp : 0 < dw p := p.den_pos
  have dq : 0 < dw q := q.den_pos
  obtain ⟨g, hg⟩ : ∃ g, Nat.gcd (dw p) (dw q) = g := ⟨_, rfl⟩
  rw [hg] at hs ⊢
  have g0 : 0 < g := by rw [← hg]; exact Nat.gcd_pos_of_pos_right _ dq
  obtain ⟨N, hN⟩ : ∃ N : Int, nm p * ((dw q / g : Nat) : Int) + nm q * ((dw p / g : Nat) : Int) = N := ⟨_, rfl⟩
  rw [hN] at hs
  obtain ⟨X, hX⟩ : ∃ X, sumN p q = X := ⟨_, rfl⟩
  rw [hX] at hs ⊢
  have habs : N.natAbs = X := by rw [hs]; split <;> omega
  have hgx : Nat.gcd g (X % g) = Nat.gcd X g := by rw [Nat.gcd_comm g, ← Nat.gcd_rec g X, Nat.gcd_comm]
  rw [hgx]
  have aux : Nat.gcd X g = Nat.gcd X (dw p / g * dw q) := by
    have := Rat.add.aux p q (g := g) (ad := dw p / g) (bd := dw q / g) (by rw [← hg]; rfl) rfl rfl
    have e : (p.num * ((dw q / g : Nat) : Int) + q.num * ((dw p / g : Nat) : Int)) = N := hN
    simp only [e, habs] at this
    exact this
  obtain ⟨h, hh⟩ : ∃ h, Nat.gcd X g = h := ⟨_, rfl⟩
  rw [hh] at aux ⊢
  have h0 : 0 < h := by rw [← hh]; exact Nat.gcd_pos_of_pos_right _ g0
  obtain ⟨x1, hx1⟩ : h ∣ X := by rw [← hh]; exact Nat.gcd_dvd_left _ _
  obtain ⟨p1, hp1⟩ : g ∣ dw p := by rw [← hg]; exact Nat.gcd_dvd_left _ _
  obtain ⟨q1, hq1⟩ : g ∣ dw q := by rw [← hg]; exact Nat.gcd_dvd_right _ _
  obtain ⟨g1, hg1⟩ : h ∣ g := by rw [← hh]; exact Nat.gcd_dvd_right _ _
  have e1 : X / h = x1 := by rw [hx1]; exact Nat.mul_div_cancel_left _ h0
  have e2 : dw p / g = p1 := by rw [hp1]; exact Nat.mul_div_cancel_left _ g0
  have e3 : dw q / g = q1 := by rw [hq1]; exact Nat.mul_div_cancel_left _ g0
  have e4 : dw q / h = g1 * q1 := by rw [hq1, hg1, Nat.mul_assoc]; exact Nat.mul_div_cancel_left _ h0
  rw [e2] at aux
  rw [e1, e2, e4]
  have p10 : 0 < p1 := Nat.pos_of_ne_zero fun e => by subst e; simp at hp1; omega
  have q10 : 0 < q1 := Nat.pos_of_ne_zero fun e => by subst e; simp at hq1; omega
  have g10 : 0 < g1 := Nat.pos_of_ne_zero fun e => by subst e; simp at hg1; omega
  have hcop : Nat.gcd x1 (p1 * (g1 * q1)) = 1 := by
    have := Nat.coprime_div_gcd_div_gcd (m := X) (n := p1 * dw q) (by rw [← aux]; exact h0)
    rw [← aux, e1, Nat.mul_div_assoc _ (by rw [hq1, hg1, Nat.mul_assoc]; exact Nat.dvd_mul_right _ _), e4] at this
    exact this
  obtain ⟨n, hn⟩ : ∃ n : Int, (if sumNeg p q = true then -(x1 : Int) else (x1 : Int)) = n := ⟨_, rfl⟩
  have hNn : N = n * (h : Int) := by
    rw [hs, ← hn, hx1]
    push_cast
    split <;> grind
  have hbig : nm p * (dw q : Int) + nm q * (dw p : Int) = N * (g : Int) := by
    rw [← hN, e2, e3, hp1, hq1]
    push_cast
    grind
  have hm : p + q = mkRat (nm p * (dw q : Int) + nm q * (dw p : Int)) (dw p * dw q) := Rat.add_def' p q
  have hnabs : n.natAbs = x1 := by rw [← hn]; split <;> omega
  obtain ⟨k1, k2⟩ := rat_parts (N := nm p * (dw q : Int) + nm q * (dw p : Int)) (D := dw p * dw q) (n := n) (d := p1 * (g1 * q1)) (Nat.ne_of_gt (Nat.mul_pos dp dq)) (Nat.ne_of_gt (Nat.mul_pos p10 (Nat.mul_pos g10 q10))) (by rw [hnabs]; exact hcop) (by
    rw [hbig, hNn, hp1, hq1, hg1]
    push_cast
    grind)
  exact answer_made (by rw [hm, k1, ← hn]) (by rw [hm, k2])
end Go.Proofs.YtodoimeiklilhaaDoor
