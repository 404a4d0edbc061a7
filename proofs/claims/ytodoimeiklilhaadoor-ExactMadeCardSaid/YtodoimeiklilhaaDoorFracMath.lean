/- What 'made' answers for products and sums of rational numbers: the plain law. -/
import Derived.Test.YtodoimeiklilhaaDoorSmall
set_option linter.unusedVariables false
set_option linter.unusedSimpArgs false
namespace Go.Proofs.YtodoimeiklilhaaDoor

theorem rat_parts {N : Int} {D : Nat} (hD : D ≠ 0) {n : Int} {d : Nat} (hd : d ≠ 0) (hc : Nat.gcd n.natAbs d = 1) (h : N * d = n * D) : (mkRat N D).num = n ∧ (mkRat N D).den = d := by
  have : mkRat N D = ⟨n, d, hd, hc⟩ := by rw [Rat.mk_eq_mkRat, Rat.mkRat_eq_iff hD hd]; exact h
  rw [this]
  exact ⟨rfl, rfl⟩
theorem answer_made {q : Rat} {neg : Bool} {a b : Nat} (hn : q.num = if neg then -(a : Int) else a) (hd : q.den = b) : answer q = madeR neg a b := by
  rw [answer_of hn hd]
  unfold madeR
  have : (b ≤ maxP ∧ -(maxP : Int) ≤ (if neg then -(a : Int) else (a : Int)) ∧ (if neg then -(a : Int) else (a : Int)) ≤ maxP) ↔ (a ≤ maxP ∧ b ≤ maxP) := by
    cases neg <;> simp <;> omega
  simp only [this]
/-- the sign of a product of signed numbers -/
theorem sign_mul {x y : Int} {a b : Nat} (hx : x.natAbs = a) (hy : y.natAbs = b) : x * y = if (!(decide (x < 0) == decide (y < 0))) = true then -((a * b : Nat) : Int) else ((a * b : Nat) : Int) := by
  have ex : x = a ∨ x = -(a : Int) := by omega
  have ey : y = b ∨ y = -(b : Int) := by omega
  by_cases hx0 : x < 0
  · by_cases hy0 : y < 0
    · rw [decide_eq_true hx0, decide_eq_true hy0, if_neg (by decide)]
      obtain rfl : x = -(a : Int) := by omega
      obtain rfl : y = -(b : Int) := by omega
      push_cast
      grind
    · rw [decide_eq_true hx0, decide_eq_false hy0, if_pos (by decide)]
      obtain rfl : x = -(a : Int) := by omega
      obtain rfl : y = (b : Int) := by omega
      push_cast
      grind
  · by_cases hy0 : y < 0
    · rw [decide_eq_false hx0, decide_eq_true hy0, if_pos (by decide)]
      obtain rfl : x = (a : Int) := by omega
      obtain rfl : y = -(b : Int) := by omega
      push_cast
      grind
    · rw [decide_eq_false hx0, decide_eq_false hy0, if_neg (by decide)]
      obtain rfl : x = (a : Int) := by omega
      obtain rfl : y = (b : Int) := by omega
      push_cast
      rfl
theorem times_eq (p q : Rat) {g h : Nat} (hg : Nat.gcd (an p) (dw q) = g) (hh : Nat.gcd (an q) (dw p) = h) :
    answer (p * q) = madeR (!(decide (nm p < 0) == decide (nm q < 0))) (an p / g * (an q / h)) (dw p / h * (dw q / g)) := by
  have dp : 0 < dw p := p.den_pos
  have dq : 0 < dw q := q.den_pos
  have g0 : 0 < g := by rw [← hg]; exact Nat.gcd_pos_of_pos_right _ dq
  have h0 : 0 < h := by rw [← hh]; exact Nat.gcd_pos_of_pos_right _ dp
  obtain ⟨a1, ha⟩ : g ∣ an p := by rw [← hg]; exact Nat.gcd_dvd_left _ _
  obtain ⟨d1, hd⟩ : g ∣ dw q := by rw [← hg]; exact Nat.gcd_dvd_right _ _
  obtain ⟨b1, hb⟩ : h ∣ an q := by rw [← hh]; exact Nat.gcd_dvd_left _ _
  obtain ⟨c1, hc⟩ : h ∣ dw p := by rw [← hh]; exact Nat.gcd_dvd_right _ _
  have e1 : an p / g = a1 := by rw [ha]; exact Nat.mul_div_cancel_left _ g0
  have e2 : an q / h = b1 := by rw [hb]; exact Nat.mul_div_cancel_left _ h0
  have e3 : dw p / h = c1 := by rw [hc]; exact Nat.mul_div_cancel_left _ h0
  have e4 : dw q / g = d1 := by rw [hd]; exact Nat.mul_div_cancel_left _ g0
  have cp : Nat.Coprime (an p) (dw p) := p.reduced
  have cq : Nat.Coprime (an q) (dw q) := q.reduced
  have c1' : Nat.Coprime a1 d1 := by
    have := Nat.coprime_div_gcd_div_gcd (m := an p) (n := dw q) (by rw [hg]; exact g0)
    rwa [hg, e1, e4] at this
  have c2' : Nat.Coprime b1 c1 := by
    have := Nat.coprime_div_gcd_div_gcd (m := an q) (n := dw p) (by rw [hh]; exact h0)
    rwa [hh, e2, e3] at this
  have c3' : Nat.Coprime a1 c1 := (cp.coprime_dvd_left ⟨g, by rw [ha, Nat.mul_comm]⟩).coprime_dvd_right ⟨h, by rw [hc, Nat.mul_comm]⟩
  have c4' : Nat.Coprime b1 d1 := (cq.coprime_dvd_left ⟨h, by rw [hb, Nat.mul_comm]⟩).coprime_dvd_right ⟨g, by rw [hd, Nat.mul_comm]⟩
  rw [e1, e2, e3, e4]
  have c10 : 0 < c1 := Nat.pos_of_ne_zero fun e => by subst e; simp at hc; omega
  have d10 : 0 < d1 := Nat.pos_of_ne_zero fun e => by subst e; simp at hd; omega
  have hcop : Nat.gcd (a1 * b1) (c1 * d1) = 1 := (Nat.Coprime.mul_left (Nat.Coprime.mul_right c3' c1') (Nat.Coprime.mul_right c2' c4'))
  obtain ⟨n, hn⟩ : ∃ n, (if (!(decide (nm p < 0) == decide (nm q < 0))) = true then -((a1 * b1 : Nat) : Int) else ((a1 * b1 : Nat) : Int)) = n := ⟨_, rfl⟩
  have hN : nm p * nm q = n * ((g * h : Nat) : Int) := by
    rw [sign_mul (x := nm p) (y := nm q) rfl rfl, ← hn]
    have : an p * an q = a1 * b1 * (g * h) := by rw [ha, hb]; grind
    have e : ((nm p).natAbs * (nm q).natAbs : Nat) = a1 * b1 * (g * h) := this
    rw [e]
    split <;> push_cast <;> grind
  have habs : n.natAbs = a1 * b1 := by rw [← hn]; split <;> omega
  have hm : p * q = mkRat (nm p * nm q) (dw p * dw q) := Rat.mul_def' p q
  obtain ⟨k1, k2⟩ := rat_parts (N := nm p * nm q) (D := dw p * dw q) (n := n) (d := c1 * d1) (Nat.ne_of_gt (Nat.mul_pos dp dq)) (Nat.ne_of_gt (Nat.mul_pos c10 d10)) (by rw [habs]; exact hcop) (by
    rw [hN, hc, hd]
    push_cast
    grind)
  exact answer_made (by rw [hm, k1, ← hn]) (by rw [hm, k2])
end Go.Proofs.YtodoimeiklilhaaDoor
