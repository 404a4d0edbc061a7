/- The walks of the reference's Order, Compare, Plus, Times, Over. -/
import Derived.Test.YtodoimeiklilhaaRefMake
import Derived.Test.YtodoimeiklilhaaGOps
set_option linter.unusedVariables false
set_option linter.unusedSimpArgs false
namespace Go.Proofs.Ytodoimeiklilhaa
open Go.RowKit Go.Sort

theorem fits_w {p : Rat} (h : Fits p) : an p ≤ 4611686018427387903 ∧ dw p ≤ 4611686018427387903 ∧ 0 < dw p := by
  unfold Fits maxP at h
  refine ⟨?_, ?_, p.den_pos⟩
  · show p.num.natAbs ≤ _; omega
  · show p.den ≤ _; omega
theorem mul_small127 {a b : Nat} (ha : a ≤ 4611686018427387903) (hb : b ≤ 4611686018427387903) : a * b ≤ 21267647932558653957237540927630737409 := Nat.mul_le_mul ha hb
/-- the product of the parts as a number with a sign -/
theorem signed_mul (p q : Rat) : mkRat (signed ((nm p).sign * (nm q).sign) (an p * an q)) (dw p * dw q) = p * q := by
  rw [Rat.mul_def']
  congr 1
  unfold signed
  show _ = nm p * nm q
  have e1 : (an p : Int) = (nm p).natAbs := rfl
  have e2 : (an q : Int) = (nm q).natAbs := rfl
  rw [Int.natCast_mul, e1, e2]
  rcases Int.lt_trichotomy (nm p) 0 with hn | hn | hn
  · rcases Int.lt_trichotomy (nm q) 0 with hm | hm | hm
    · rw [Int.sign_eq_neg_one_of_neg hn, Int.sign_eq_neg_one_of_neg hm, if_neg (by omega), show ((nm p).natAbs : Int) = -nm p by omega, show ((nm q).natAbs : Int) = -nm q by omega]; grind
    · rw [hm]; simp
    · rw [Int.sign_eq_neg_one_of_neg hn, Int.sign_eq_one_of_pos hm, if_pos (by omega), show ((nm p).natAbs : Int) = -nm p by omega, show ((nm q).natAbs : Int) = nm q by omega]; grind
  · rw [hn]; simp
  · rcases Int.lt_trichotomy (nm q) 0 with hm | hm | hm
    · rw [Int.sign_eq_one_of_pos hn, Int.sign_eq_neg_one_of_neg hm, if_pos (by omega), show ((nm p).natAbs : Int) = nm p by omega, show ((nm q).natAbs : Int) = -nm q by omega]; grind
    · rw [hm]; simp
    · rw [Int.sign_eq_one_of_pos hn, Int.sign_eq_one_of_pos hm, if_neg (by omega), show ((nm p).natAbs : Int) = nm p by omega, show ((nm q).natAbs : Int) = nm q by omega]
theorem signed_div_q {p q : Rat} (h : nm q ≠ 0) : mkRat (signed ((nm p).sign * (nm q).sign) (an p * dw q)) (dw p * an q) = p / q := by
  have hp := p.den_pos
  have e1 : (an p : Int) = (nm p).natAbs := rfl
  have e2 : (an q : Int) = (nm q).natAbs := rfl
  rw [Rat.div_def, ← Rat.divInt_ofNat]
  have inv : q⁻¹ = Rat.divInt (dw q : Int) (nm q) := by rw [Rat.inv_def]; rfl
  have pe : p = Rat.divInt (nm p) (dw p : Int) := (Rat.num_divInt_den p).symm
  rw [inv]
  conv => rhs; arg 1; rw [pe]
  rw [Rat.divInt_mul_divInt]
  have h2 : (an q : Int) ≠ 0 := by rw [e2]; omega
  have h3 : (dw p : Int) ≠ 0 := by have : 0 < dw p := hp; omega
  rw [Rat.divInt_eq_divInt_iff (by rw [Int.natCast_mul]; exact Int.mul_ne_zero h3 h2) (Int.mul_ne_zero h3 h)]
  unfold signed
  rw [Int.natCast_mul, Int.natCast_mul, e1, e2]
  rcases Int.lt_trichotomy (nm p) 0 with hn | hn | hn
  · rcases Int.lt_or_lt_of_ne h with hm | hm
    · rw [Int.sign_eq_neg_one_of_neg hn, Int.sign_eq_neg_one_of_neg hm, if_neg (by omega), show ((nm p).natAbs : Int) = -nm p by omega, show ((nm q).natAbs : Int) = -nm q by omega]; grind
    · rw [Int.sign_eq_neg_one_of_neg hn, Int.sign_eq_one_of_pos hm, if_pos (by omega), show ((nm p).natAbs : Int) = -nm p by omega, show ((nm q).natAbs : Int) = nm q by omega]; grind
  · rw [hn]; simp
  · rcases Int.lt_or_lt_of_ne h with hm | hm
    · rw [Int.sign_eq_one_of_pos hn, Int.sign_eq_neg_one_of_neg hm, if_pos (by omega), show ((nm p).natAbs : Int) = nm p by omega, show ((nm q).natAbs : Int) = -nm q by omega]; grind
    · rw [Int.sign_eq_one_of_pos hn, Int.sign_eq_one_of_pos hm, if_neg (by omega), show ((nm p).natAbs : Int) = nm p by omega, show ((nm q).natAbs : Int) = nm q by omega]; try grind
theorem sum_def (p q : Rat) : p + q = mkRat (nm p * (dw q : Int) + nm q * (dw p : Int)) (dw p * dw q) := by
  rw [Rat.add_def']; rfl
theorem nm_abs (p : Rat) : nm p = if nm p < 0 then -(an p : Int) else (an p : Int) := by
  have e1 : (an p : Int) = (nm p).natAbs := rfl
  rw [e1]; split <;> omega
/-- the three ways of a sum -/
theorem signed_same {p q : Rat} (h : 0 ≤ (nm p).sign * (nm q).sign) : mkRat (signed ((nm p).sign + (nm q).sign) (an p * dw q + an q * dw p)) (dw p * dw q) = p + q := by
  rw [sum_def]
  congr 1
  unfold signed
  have e1 : (an p : Int) = (nm p).natAbs := rfl
  have e2 : (an q : Int) = (nm q).natAbs := rfl
  rw [Int.natCast_add, Int.natCast_mul, Int.natCast_mul, e1, e2]
  rcases Int.lt_trichotomy (nm p) 0 with hn | hn | hn
  · rcases Int.lt_trichotomy (nm q) 0 with hm | hm | hm
    · rw [Int.sign_eq_neg_one_of_neg hn, Int.sign_eq_neg_one_of_neg hm, if_pos (by omega), show ((nm p).natAbs : Int) = -nm p by omega, show ((nm q).natAbs : Int) = -nm q by omega]; grind
    · rw [Int.sign_eq_neg_one_of_neg hn, hm, if_pos (by decide), show ((nm p).natAbs : Int) = -nm p by omega]; simp; grind
    · rw [Int.sign_eq_neg_one_of_neg hn, Int.sign_eq_one_of_pos hm] at h; omega
  · rcases Int.lt_trichotomy (nm q) 0 with hm | hm | hm
    · rw [hn, Int.sign_eq_neg_one_of_neg hm, if_pos (by decide), show ((nm q).natAbs : Int) = -nm q by omega]; simp; grind
    · rw [hn, hm]; simp
    · rw [hn, Int.sign_eq_one_of_pos hm, if_neg (by decide), show ((nm q).natAbs : Int) = nm q by omega]; simp
  · rcases Int.lt_trichotomy (nm q) 0 with hm | hm | hm
    · rw [Int.sign_eq_one_of_pos hn, Int.sign_eq_neg_one_of_neg hm] at h; omega
    · rw [Int.sign_eq_one_of_pos hn, hm, if_neg (by decide), show ((nm p).natAbs : Int) = nm p by omega]; simp
    · rw [Int.sign_eq_one_of_pos hn, Int.sign_eq_one_of_pos hm, if_neg (by omega), show ((nm p).natAbs : Int) = nm p by omega, show ((nm q).natAbs : Int) = nm q by omega]
theorem signed_less {p q : Rat} (h : (nm p).sign * (nm q).sign < 0) (hl : an p * dw q < an q * dw p) : mkRat (signed (nm q).sign (an q * dw p - an p * dw q)) (dw p * dw q) = p + q := by
  rw [sum_def]
  congr 1
  unfold signed
  have e1 : (an p : Int) = (nm p).natAbs := rfl
  have e2 : (an q : Int) = (nm q).natAbs := rfl
  rw [Int.ofNat_sub (by omega), Int.natCast_mul, Int.natCast_mul, e1, e2]
  rcases Int.lt_trichotomy (nm p) 0 with hn | hn | hn
  · rcases Int.lt_trichotomy (nm q) 0 with hm | hm | hm
    · rw [Int.sign_eq_neg_one_of_neg hn, Int.sign_eq_neg_one_of_neg hm] at h; omega
    · rw [hm] at h; simp at h
    · rw [Int.sign_eq_one_of_pos hm, if_neg (by omega), show ((nm p).natAbs : Int) = -nm p by omega, show ((nm q).natAbs : Int) = nm q by omega]; grind
  · rw [hn] at h; simp at h
  · rcases Int.lt_trichotomy (nm q) 0 with hm | hm | hm
    · rw [Int.sign_eq_neg_one_of_neg hm, if_pos (by omega), show ((nm p).natAbs : Int) = nm p by omega, show ((nm q).natAbs : Int) = -nm q by omega]; grind
    · rw [hm] at h; simp at h
    · rw [Int.sign_eq_one_of_pos hn, Int.sign_eq_one_of_pos hm] at h; omega
theorem signed_more {p q : Rat} (h : (nm p).sign * (nm q).sign < 0) (hl : ¬ an p * dw q < an q * dw p) : mkRat (signed (nm p).sign (an p * dw q - an q * dw p)) (dw p * dw q) = p + q := by
  rw [sum_def]
  congr 1
  unfold signed
  have e1 : (an p : Int) = (nm p).natAbs := rfl
  have e2 : (an q : Int) = (nm q).natAbs := rfl
  rw [Int.ofNat_sub (by omega), Int.natCast_mul, Int.natCast_mul, e1, e2]
  rcases Int.lt_trichotomy (nm p) 0 with hn | hn | hn
  · rcases Int.lt_trichotomy (nm q) 0 with hm | hm | hm
    · rw [Int.sign_eq_neg_one_of_neg hn, Int.sign_eq_neg_one_of_neg hm] at h; omega
    · rw [hm] at h; simp at h
    · rw [Int.sign_eq_neg_one_of_neg hn, if_pos (by omega), show ((nm p).natAbs : Int) = -nm p by omega, show ((nm q).natAbs : Int) = nm q by omega]; grind
  · rw [hn] at h; simp at h
  · rcases Int.lt_trichotomy (nm q) 0 with hm | hm | hm
    · rw [Int.sign_eq_one_of_pos hn, if_neg (by omega), show ((nm p).natAbs : Int) = nm p by omega, show ((nm q).natAbs : Int) = -nm q by omega]; grind
    · rw [hm] at h; simp at h
    · rw [Int.sign_eq_one_of_pos hn, Int.sign_eq_one_of_pos hm] at h; omega
end Go.Proofs.Ytodoimeiklilhaa
