/- The reference's Order and Plus, for two valid fractions, as rational numbers. -/
import Derived.Test.YtodoimeiklilhaaRefOrder
import Derived.Test.YtodoimeiklilhaaRefPlus
set_option linter.unusedVariables false
set_option linter.unusedSimpArgs false
namespace Go.Proofs.Ytodoimeiklilhaa
open Go.RowKit Go.Sort

theorem sgn3 (n A : Int) (e2 : n < 0 ↔ A < 0) (e3 : 0 < n ↔ 0 < A) : (n.sign = -1 ∧ A < 0) ∨ (n.sign = 0 ∧ A = 0) ∨ (n.sign = 1 ∧ 0 < A) := by
  rcases Int.lt_trichotomy n 0 with h | h | h
  · exact .inl ⟨Int.sign_eq_neg_one_of_neg h, e2.1 h⟩
  · subst h; exact .inr (.inl ⟨rfl, by omega⟩)
  · exact .inr (.inr ⟨Int.sign_eq_one_of_pos h, e3.1 h⟩)
def orderF (s t : Int) (x y : Nat) : Int := if s ≠ t then (s - t).sign else if x = y then 0 else if x < y then 0 - s else s
theorem order_plain (n m A B : Int) (e2 : n < 0 ↔ A < 0) (e3 : 0 < n ↔ 0 < A) (e4 : m < 0 ↔ B < 0) (e5 : 0 < m ↔ 0 < B) :
    (if A < B then (-1 : Int) else if A = B then 0 else 1) = orderF n.sign m.sign A.natAbs B.natAbs := by
  unfold orderF
  rcases sgn3 _ _ e2 e3 with ⟨h1, h2⟩ | ⟨h1, h2⟩ | ⟨h1, h2⟩ <;> rcases sgn3 _ _ e4 e5 with ⟨k1, k2⟩ | ⟨k1, k2⟩ | ⟨k1, k2⟩ <;> rw [h1, k1] <;> clear h1 k1 e2 e3 e4 e5
  all_goals first
  | (simp only [ne_eq, not_true_eq_false, ite_false]; (repeat split) <;> omega)
  | (rw [if_pos (by decide : (_ : Int) ≠ _), if_pos (by omega : A < B)]; rfl)
  | (rw [if_pos (by decide : (_ : Int) ≠ _), if_neg (by omega : ¬ A < B), if_neg (by omega : ¬ A = B)]; rfl)
theorem order_law (p q : Rat) : cmp p q = orderF (nm p).sign (nm q).sign (an p * dw q) (an q * dw p) := by
  obtain ⟨A, B, e0, e1, e2, e3, e4, e5, e6, e7⟩ := cmp_facts p q
  rw [e0, e6, e7]
  exact order_plain _ _ _ _ e2 e3 e4 e5
theorem words_eq {x y : Nat} : ((hiW x : Int) = (hiW y : Int) ∧ (loW x : Int) = (loW y : Int)) ↔ x = y := by
  constructor
  · rintro ⟨h1, h2⟩
    rw [← pair_eta x, ← pair_eta y]
    omega
  · rintro rfl
    exact ⟨rfl, rfl⟩
theorem r_Order (p q : Rat) (hp : Fits p) (hq : Fits q) (w : World) :
    Calls Try.prog 45 #[ratV p, ratV q] w fun E w' => E = .returned (.int .i64 (cmp p q)) ∧ Ext w w' := by
  obtain ⟨a1, a2, a3⟩ := fits_w hp
  obtain ⟨b1, b2, b3⟩ := fits_w hq
  have s1 := sign_small (nm p)
  have s2 := sign_small (nm q)
  refine rOrder_walk (nm p) (dn p) (nm q) (dn q) _ _ ((nm p).sign - (nm q).sign).sign (an p) (an q) (dw p) (dw q) _ _ _ _ (cmp p q) _ w s1.1 s1.2 s2.1 s2.2 (r_sign _) (r_sign _) (r_sign _) (r_size _ (fits_i64 hp).1) (r_size _ (fits_i64 hq).1) (r_size _ (fits_i64 hp).2) (r_size _ (fits_i64 hq).2)
    (r_times _ _ (by unfold W64; omega) (by unfold W64; omega)) (r_times _ _ (by unfold W64; omega) (by unfold W64; omega)) (r_less _ _) ?_
  rw [order_law]
  unfold orderF
  simp only [words_eq, decide_eq_true_eq]
theorem r_Plus (p q : Rat) (hp : Fits p) (hq : Fits q) (w : World) :
    Calls Try.prog 48 #[ratV p, ratV q] w fun E w' => E = .returned (.tuple #[fracV (answer (p + q)).1, .bool (decide ((answer (p + q)).2 = 0))]) ∧ Ext w w' := by
  obtain ⟨a1, a2, a3⟩ := fits_w hp
  obtain ⟨b1, b2, b3⟩ := fits_w hq
  have m1 := mul_small127 a1 b2
  have m2 := mul_small127 b1 a2
  have m3 := mul_small127 a2 b2
  have s1 := sign_small (nm p)
  have s2 := sign_small (nm q)
  have s := sign_mul_small (nm p) (nm q)
  have kd := r_times (dw p) (dw q) (by unfold W64; omega) (by unfold W64; omega)
  have k7 := r_times (an p) (dw q) (by unfold W64; omega) (by unfold W64; omega)
  have k8 := r_times (an q) (dw p) (by unfold W64; omega) (by unfold W64; omega)
  have d0 := Nat.mul_pos a3 b3
  by_cases hs : 0 ≤ (nm p).sign * (nm q).sign
  · have hl := fun w => r_Lowest ((nm p).sign + (nm q).sign) (an p * dw q + an q * dw p) (dw p * dw q) (by unfold W127; omega) (by unfold W127; omega) d0 w
    rw [signed_same hs] at hl
    exact rPlus_same (nm p) (dn p) (nm q) (dn q) _ _ _ _ (an p) (an q) (dw p) (dw q) _ _ _ _ _ _ _ _ _ w s1.1 s1.2 s2.1 s2.2 s.1 s.2 hs (r_sign _) (r_sign _) (r_size _ (fits_i64 hp).1) (r_size _ (fits_i64 hq).1) (r_size _ (fits_i64 hp).2) (r_size _ (fits_i64 hq).2) k7 k8 kd (r_plus _ _ (by unfold W128; omega)) hl
  · have hs' : (nm p).sign * (nm q).sign < 0 := by omega
    by_cases hl : an p * dw q < an q * dw p
    · have kl := fun w => r_Lowest (nm q).sign (an q * dw p - an p * dw q) (dw p * dw q) (by unfold W127; omega) (by unfold W127; omega) d0 w
      rw [signed_less hs' hl] at kl
      have k9 := r_less (an p * dw q) (an q * dw p)
      rw [decide_eq_true hl] at k9
      exact rPlus_less (nm p) (dn p) (nm q) (dn q) _ _ _ _ (an p) (an q) (dw p) (dw q) _ _ _ _ _ _ _ _ _ w s1.1 s1.2 s2.1 s2.2 s.1 s.2 hs' (r_sign _) (r_sign _) (r_size _ (fits_i64 hp).1) (r_size _ (fits_i64 hq).1) (r_size _ (fits_i64 hp).2) (r_size _ (fits_i64 hq).2) k7 k8 kd k9 (r_minus _ _ (by omega) (by unfold W128; omega)) kl
    · have kl := fun w => r_Lowest (nm p).sign (an p * dw q - an q * dw p) (dw p * dw q) (by unfold W127; omega) (by unfold W127; omega) d0 w
      rw [signed_more hs' hl] at kl
      have k9 := r_less (an p * dw q) (an q * dw p)
      rw [decide_eq_false hl] at k9
      exact rPlus_more (nm p) (dn p) (nm q) (dn q) _ _ _ _ (an p) (an q) (dw p) (dw q) _ _ _ _ _ _ _ _ _ w s1.1 s1.2 s2.1 s2.2 s.1 s.2 hs' (r_sign _) (r_sign _) (r_size _ (fits_i64 hp).1) (r_size _ (fits_i64 hq).1) (r_size _ (fits_i64 hp).2) (r_size _ (fits_i64 hq).2) k7 k8 kd k9 (r_minus _ _ (by omega) (by unfold W128; omega)) kl
end Go.Proofs.Ytodoimeiklilhaa
