/- The plain law behind ExactRoots. No program in sight. -/
import Derived.Test.YtodoimeiklilhaaDoorFracLaws
import Derived.Test.YtodoimeiklilhaaDoorGRoots
set_option linter.unusedVariables false
set_option linter.unusedSimpArgs false
namespace Go.Proofs.YtodoimeiklilhaaDoor

/-- a whole number by a whole number -/
theorem frac_eq (s c : Nat) (hc : 1 ≤ c) : Rat.divInt (s : Int) (c : Int) * (c : Rat) = (s : Rat) := by
  have h : ((c : Int) : Rat) ≠ 0 := by
    intro k
    have := (Rat.intCast_inj (a := (c : Int)) (b := 0)).1 (by simpa using k)
    omega
  rw [Rat.divInt_eq_div, Rat.div_def]
  have e1 : (c : Rat) = ((c : Int) : Rat) := rfl
  have e2 : (s : Rat) = ((s : Int) : Rat) := rfl
  rw [e1, e2, Rat.mul_assoc, Rat.inv_mul_cancel _ h, Rat.mul_one]
theorem natR_le {a b : Nat} (h : a ≤ b) : (a : Rat) ≤ (b : Rat) := by
  have : ((a : Int) : Rat) ≤ ((b : Int) : Rat) := Rat.intCast_le_intCast.2 (by omega)
  exact this
theorem natR_lt {a b : Nat} (h : a < b) : (a : Rat) < (b : Rat) := by
  have : ((a : Int) : Rat) < ((b : Int) : Rat) := Rat.intCast_lt_intCast.2 (by omega)
  exact this
theorem natR_mul (a b : Nat) : ((a * b : Nat) : Rat) = (a : Rat) * (b : Rat) := by
  have : (((a * b : Nat) : Int) : Rat) = ((a : Int) : Rat) * ((b : Int) : Rat) := by rw [Int.natCast_mul, Rat.intCast_mul]
  exact this
theorem natR_add (a b : Nat) : ((a + b : Nat) : Rat) = (a : Rat) + (b : Rat) := by
  have : (((a + b : Nat) : Int) : Rat) = ((a : Int) : Rat) + ((b : Int) : Rat) := by rw [Int.natCast_add, Rat.intCast_add]
  exact this
/-- a number from 0 on, by its parts -/
theorem rat_parts_eq {p : Rat} (h : 0 ≤ nm p) : p * (dw p : Rat) = (an p : Rat) := by
  have e := Rat.num_divInt_den p
  have h1 : (an p : Int) = p.num := by unfold nm at h; show ((nm p).natAbs : Int) = _; unfold nm; omega
  have h2 := frac_eq (an p) (dw p) p.den_pos
  have h3 : Rat.divInt (an p : Int) (dw p : Int) = p := by rw [h1]; exact e
  rw [h3] at h2
  exact h2
theorem fits_nat {a b : Nat} (ha : a ≤ maxP) (hb : 1 ≤ b) (hb2 : b ≤ maxP) : Fits (Rat.divInt (a : Int) (b : Int)) := by
  unfold Fits
  rw [Rat.num_divInt, Rat.den_divInt, if_neg (by omega), Int.sign_eq_one_of_pos (by omega)]
  have a1 : (b : Int).natAbs / (b : Int).gcd (a : Int) ≤ b := Nat.div_le_self _ _
  have a2 : (1 * (a : Int)) / (((b : Int).gcd (a : Int) : Nat) : Int) = ((a / (b : Int).gcd (a : Int) : Nat) : Int) := by rw [Int.one_mul]; rfl
  rw [a2]
  have a3 : a / (b : Int).gcd (a : Int) ≤ a := Nat.div_le_self _ _
  generalize a / (b : Int).gcd (a : Int) = A at *
  generalize (b : Int).natAbs / (b : Int).gcd (a : Int) = B at *
  omega
theorem sq_bound {s q k : Nat} (h : s * s ≤ q) (hq : q < k * k) : s < k := by
  rcases Nat.lt_or_ge s k with h1 | h1
  · exact h1
  · have := Nat.mul_le_mul h1 h1; omega
theorem sq_frac (s c : Nat) (hc : 1 ≤ c) : Rat.divInt (s : Int) (c : Int) * Rat.divInt (s : Int) (c : Int) = Rat.divInt ((s * s : Nat) : Int) ((c * c : Nat) : Int) := by
  rw [Rat.divInt_mul_divInt, Int.natCast_mul, Int.natCast_mul]
/-- a root's ends: their squares enclose the number -/
theorem root_math {p : Rat} {c s : Nat} (hn : 0 ≤ nm p) (hc : 1 ≤ c) (h1 : s * s * dw p ≤ an p * (c * c)) :
    Rat.divInt (s : Int) (c : Int) * Rat.divInt (s : Int) (c : Int) ≤ p := by
  have e1 := frac_eq s c hc
  have e2 := rat_parts_eq hn
  have hC : (0 : Rat) < (c : Rat) := natR_lt (by omega : 0 < c)
  have hD : (0 : Rat) < (dw p : Rat) := natR_lt p.den_pos
  have h3 := natR_le h1
  rw [natR_mul, natR_mul, natR_mul, natR_mul] at h3
  generalize Rat.divInt (s : Int) (c : Int) = x at *
  generalize (c : Rat) = C at *
  generalize (dw p : Rat) = D at *
  generalize (an p : Rat) = A at *
  generalize (s : Rat) = S at *
  rcases (show x * x ≤ p ∨ p < x * x by grind) with h | h
  · exact h
  · exfalso
    have := Rat.mul_pos (Rat.mul_pos (show 0 < x * x - p by grind) (Rat.mul_pos hC hC)) hD
    have e3 : (x * x - p) * (C * C) * D = (x * C) * (x * C) * D - (p * D) * (C * C) := by grind
    rw [e3, e1, e2] at this
    grind
theorem root_math_hi {p : Rat} {c s : Nat} (hn : 0 ≤ nm p) (hc : 1 ≤ c) (h1 : an p * (c * c) < s * s * dw p) :
    p < Rat.divInt (s : Int) (c : Int) * Rat.divInt (s : Int) (c : Int) := by
  have e1 := frac_eq s c hc
  have e2 := rat_parts_eq hn
  have hC : (0 : Rat) < (c : Rat) := natR_lt (by omega : 0 < c)
  have hD : (0 : Rat) < (dw p : Rat) := natR_lt p.den_pos
  have h3 := natR_lt h1
  rw [natR_mul, natR_mul, natR_mul, natR_mul] at h3
  generalize Rat.divInt (s : Int) (c : Int) = x at *
  generalize (c : Rat) = C at *
  generalize (dw p : Rat) = D at *
  generalize (an p : Rat) = A at *
  generalize (s : Rat) = S at *
  rcases (show x * x ≤ p ∨ p < x * x by grind) with h | h
  · exfalso
    have := Rat.mul_nonneg (Rat.mul_nonneg (show 0 ≤ p - x * x by grind) (show 0 ≤ C * C by have := Rat.mul_pos hC hC; grind)) (show 0 ≤ D by grind)
    have e3 : (p - x * x) * (C * C) * D = (p * D) * (C * C) - (x * C) * (x * C) * D := by grind
    rw [e3, e1, e2] at this
    grind
  · exact h
theorem root_step (s c : Nat) (hc : 1 ≤ c) : Rat.divInt ((s + 1 : Nat) : Int) (c : Int) - Rat.divInt (s : Int) (c : Int) = Rat.divInt 1 (c : Int) := by
  have e1 := frac_eq s c hc
  have e2 := frac_eq (s + 1) c hc
  have e3 := frac_eq 1 c hc
  rw [natR_add] at e2
  have hC : (0 : Rat) < (c : Rat) := natR_lt (by omega : 0 < c)
  have e4 : Rat.divInt ((1 : Nat) : Int) (c : Int) = Rat.divInt 1 (c : Int) := rfl
  rw [e4] at e3
  generalize Rat.divInt ((s + 1 : Nat) : Int) (c : Int) = x at *
  generalize Rat.divInt (s : Int) (c : Int) = y at *
  generalize Rat.divInt 1 (c : Int) = z at *
  generalize (c : Rat) = C at *
  have h5 : (x - y - z) * C = 0 := by grind
  rcases Rat.mul_eq_zero.1 h5 with h | h
  · grind
  · exfalso; grind
theorem small_le {a b : Nat} (c : Nat) (h : a ≤ b) (hc : 1 ≤ c) : Rat.divInt (a : Int) (c : Int) ≤ Rat.divInt (b : Int) (c : Int) := by
  have e1 := frac_eq a c hc
  have e2 := frac_eq b c hc
  have hC : (0 : Rat) < (c : Rat) := natR_lt (by omega : 0 < c)
  have h3 := natR_le h
  generalize Rat.divInt (a : Int) (c : Int) = x at *
  generalize Rat.divInt (b : Int) (c : Int) = y at *
  rcases (show x ≤ y ∨ y < x by grind) with k | k
  · exact k
  · exfalso
    have := Rat.mul_pos (show 0 < x - y by grind) hC
    have e : (x - y) * (c : Rat) = x * (c : Rat) - y * (c : Rat) := by grind
    rw [e, e1, e2] at this
    grind
theorem nonneg_frac (s c : Nat) (hc : 1 ≤ c) : 0 ≤ (fracOf (Rat.divInt (s : Int) (c : Int))).num := by
  show 0 ≤ (Rat.divInt (s : Int) (c : Int)).num
  rw [Rat.num_divInt, Int.sign_eq_one_of_pos (by omega), Int.one_mul]
  exact Int.ediv_nonneg (by omega) (by omega)
theorem cmp_gt {p q : Rat} (h : q < p) : cmp p q = 1 := by unfold cmp; rw [if_neg (by grind), if_neg (by grind)]
/-- what the law says of an enclosure of a root -/
def RootSays (a : Frac) (c : Int) (s : Span) : Prop :=
  (mulR s.lo s.lo).2 = 0 ∧ (mulR s.hi s.hi).2 = 0 ∧ (compareR (mulR s.lo s.lo).1 a).2 = 0 ∧ (compareR (mulR s.hi s.hi).1 a).2 = 0 ∧ (subR s.hi s.lo).2 = 0 ∧ (makeR 1 c).2 = 0 ∧ (compareR (mulR s.lo s.lo).1 a).1 ≤ 0 ∧ 0 ≤ (compareR (mulR s.hi s.hi).1 a).1 ∧ 0 ≤ s.lo.num ∧
    (((subR s.hi s.lo).1.num = 0 ∧ (compareR (mulR s.lo s.lo).1 a).1 = 0) ∨ ((subR s.hi s.lo).1.num ≠ 0 ∧ (subR s.hi s.lo).1.num = (makeR 1 c).1.num ∧ (subR s.hi s.lo).1.den = (makeR 1 c).1.den ∧ 0 < (compareR (mulR s.hi s.hi).1 a).1))
theorem make_one {c : Nat} (h1 : 1 ≤ c) (h2 : c ≤ 32768) : makeR 1 (c : Int) = (fracOf (Rat.divInt 1 (c : Int)), 0) ∧ Fits (Rat.divInt 1 (c : Int)) := make_small (s := 1) (by omega) h1 h2
theorem isq_small {q : Nat} (h : q < 140737488355328 * 140737488355328) : isq q < 140737488355328 := sq_bound (isq_spec q).1 h
theorem quo_bounds (p : Rat) (c : Nat) : rootQ p c * dw p + rootRest p c = an p * (c * c) ∧ rootRest p c < dw p := by
  have d0 : 0 < dw p := p.den_pos
  unfold rootQ rootRest
  have := Nat.div_add_mod (an p * (c * c)) (dw p)
  rw [Nat.mul_comm] at this
  exact ⟨this, Nat.mod_lt _ d0⟩
theorem an_le {p : Rat} (hp : Fits p) : an p ≤ 4611686018427387903 := by unfold Fits maxP at hp; show p.num.natAbs ≤ _; omega
theorem c_sq {c : Nat} (h2 : c ≤ 32768) : c * c ≤ 1073741824 := Nat.mul_le_mul h2 h2
theorem q_bound {p : Rat} (hp : Fits p) {c : Nat} (h2 : c ≤ 32768) : rootQ p c < 140737488355328 * 140737488355328 := by
  have h := Nat.mul_le_mul (an_le hp) (c_sq h2)
  have : rootQ p c ≤ an p * (c * c) := Nat.div_le_self _ _
  omega
theorem root_big {p : Rat} {c : Nat} (hp : Fits p) (h1 : 1 ≤ c) (h2 : c ≤ 32768) : (rootR p c).2 = 0 ∧ checkSpanR (boxSpan (rootR p c).1) = 0 := by
  have hs := isq_small (q_bound hp h2)
  have f1 := (make_small (s := isq (rootQ p c)) (by omega) h1 h2).2
  have f2 := (make_small (s := isq (rootQ p c) + 1) (by omega) h1 h2).2
  unfold rootR
  split
  · exact ⟨rfl, if_pos (mkSpan_ok f1 f1 (by grind))⟩
  · exact ⟨rfl, if_pos (mkSpan_ok f1 f2 (small_le c (by omega) h1))⟩
theorem root_small {p : Rat} {c : Nat} (hp : Fits p) (hn : 0 ≤ nm p) (h1 : 1 ≤ c) (h2 : c ≤ 32768) (b1 : an p ≤ 32768) (b2 : dw p ≤ 32768) : (rootR p c).2 = 0 ∧ RootSays (fracOf p) c (boxSpan (rootR p c).1) := by
  obtain ⟨q1, q2⟩ := quo_bounds p c
  have hq : rootQ p c < 8388608 * 8388608 := by
    have h := Nat.mul_le_mul b1 (c_sq h2)
    have : rootQ p c ≤ an p * (c * c) := Nat.div_le_self _ _
    omega
  obtain ⟨s1, s2⟩ := isq_spec (rootQ p c)
  have hs := sq_bound s1 hq
  have cc := c_sq h2
  have c1 : 1 ≤ c * c := Nat.mul_le_mul h1 h1
  have sq1 : isq (rootQ p c) * isq (rootQ p c) ≤ 8388608 * 8388608 := Nat.mul_le_mul (by omega) (by omega)
  have sq2 : (isq (rootQ p c) + 1) * (isq (rootQ p c) + 1) ≤ 8388608 * 8388608 := Nat.mul_le_mul (by omega) (by omega)
  have f1 := (make_small (s := isq (rootQ p c)) (by omega) h1 h2).2
  have f2 := (make_small (s := isq (rootQ p c) + 1) (by omega) h1 h2).2
  obtain ⟨m1, fm⟩ := make_one h1 h2
  have g1 : Fits (Rat.divInt (isq (rootQ p c) : Int) (c : Int) * Rat.divInt (isq (rootQ p c) : Int) (c : Int)) := by
    rw [sq_frac _ _ h1]; exact fits_nat (by unfold maxP; omega) c1 (by unfold maxP; omega)
  have g2 : Fits (Rat.divInt ((isq (rootQ p c) + 1 : Nat) : Int) (c : Int) * Rat.divInt ((isq (rootQ p c) + 1 : Nat) : Int) (c : Int)) := by
    rw [sq_frac _ _ h1]; exact fits_nat (by unfold maxP; omega) c1 (by unfold maxP; omega)
  have dp : 0 < dw p := p.den_pos
  have l1 : isq (rootQ p c) * isq (rootQ p c) * dw p ≤ rootQ p c * dw p := Nat.mul_le_mul_right _ s1
  have l2 : (rootQ p c + 1) * dw p ≤ (isq (rootQ p c) + 1) * (isq (rootQ p c) + 1) * dw p := Nat.mul_le_mul_right _ s2
  rw [Nat.add_mul, Nat.one_mul] at l2
  have lo_le := root_math hn h1 (s := isq (rootQ p c)) (by omega)
  have hi_gt := root_math_hi hn h1 (s := isq (rootQ p c) + 1) (by omega)
  have step := root_step (isq (rootQ p c)) c h1
  have nn := nonneg_frac (isq (rootQ p c)) c h1
  have n1 : (fracOf (Rat.divInt 1 (c : Int))).num ≠ 0 := by
    intro k
    have e := frac_eq 1 c h1
    have z : Rat.divInt 1 (c : Int) = 0 := Rat.num_eq_zero.1 k
    have e4 : Rat.divInt ((1 : Nat) : Int) (c : Int) = Rat.divInt 1 (c : Int) := rfl
    rw [e4, z] at e
    have : ((1 : Nat) : Rat) = 1 := rfl
    grind
  unfold rootR RootSays
  by_cases hx : rootRest p c = 0 ∧ isq (rootQ p c) * isq (rootQ p c) = rootQ p c
  · rw [if_pos hx]
    refine ⟨rfl, ?_⟩
    have eq : Rat.divInt (isq (rootQ p c) : Int) (c : Int) * Rat.divInt (isq (rootQ p c) : Int) (c : Int) = p := by
      rcases (show Rat.divInt (isq (rootQ p c) : Int) (c : Int) * Rat.divInt (isq (rootQ p c) : Int) (c : Int) = p ∨ Rat.divInt (isq (rootQ p c) : Int) (c : Int) * Rat.divInt (isq (rootQ p c) : Int) (c : Int) < p by grind) with k | k
      · exact k
      · exfalso
        have e1 := frac_eq (isq (rootQ p c)) c h1
        have e2 := rat_parts_eq hn
        have hC : (0 : Rat) < (c : Rat) := natR_lt (by omega : 0 < c)
        have hD : (0 : Rat) < (dw p : Rat) := natR_lt p.den_pos
        have h3 : (an p : Rat) * ((c : Rat) * (c : Rat)) = (isq (rootQ p c) : Rat) * (isq (rootQ p c) : Rat) * (dw p : Rat) := by
          rw [← natR_mul, ← natR_mul, ← natR_mul, ← natR_mul, hx.2, ← q1, hx.1]
          rfl
        generalize Rat.divInt (isq (rootQ p c) : Int) (c : Int) = x at *
        generalize (c : Rat) = C at *
        generalize (dw p : Rat) = D at *
        generalize (an p : Rat) = A at *
        generalize (isq (rootQ p c) : Rat) = S at *
        have := Rat.mul_pos (Rat.mul_pos (show 0 < p - x * x by grind) (Rat.mul_pos hC hC)) hD
        have e3 : (p - x * x) * (C * C) * D = (p * D) * (C * C) - (x * C) * (x * C) * D := by grind
        rw [e3, e1, e2] at this
        grind
    show (mulR (fracOf _) (fracOf _)).2 = 0 ∧ (mulR (fracOf _) (fracOf _)).2 = 0 ∧ (compareR (mulR (fracOf _) (fracOf _)).1 _).2 = 0 ∧ (compareR (mulR (fracOf _) (fracOf _)).1 _).2 = 0 ∧ (subR (fracOf _) (fracOf _)).2 = 0 ∧ _ ∧ (compareR (mulR (fracOf _) (fracOf _)).1 _).1 ≤ 0 ∧ 0 ≤ (compareR (mulR (fracOf _) (fracOf _)).1 _).1 ∧ 0 ≤ (fracOf _).num ∧ (((subR (fracOf _) (fracOf _)).1.num = 0 ∧ (compareR (mulR (fracOf _) (fracOf _)).1 _).1 = 0) ∨ _)
    unfold mulR subR
    rw [opR_ok _ f1 f1, opR_ok _ f1 f1, eq, answer_fits hp, compareR_mk hp hp, cmp_self, show Rat.divInt (isq (rootQ p c) : Int) (c : Int) - Rat.divInt (isq (rootQ p c) : Int) (c : Int) = 0 by grind, answer_fits (show Fits 0 by decide), m1]
    exact ⟨rfl, rfl, rfl, rfl, rfl, rfl, by decide, by decide, nn, Or.inl ⟨rfl, rfl⟩⟩
  · rw [if_neg hx]
    refine ⟨rfl, ?_⟩
    show (mulR (fracOf _) (fracOf _)).2 = 0 ∧ (mulR (fracOf _) (fracOf _)).2 = 0 ∧ (compareR (mulR (fracOf _) (fracOf _)).1 _).2 = 0 ∧ (compareR (mulR (fracOf _) (fracOf _)).1 _).2 = 0 ∧ (subR (fracOf _) (fracOf _)).2 = 0 ∧ _ ∧ (compareR (mulR (fracOf _) (fracOf _)).1 _).1 ≤ 0 ∧ 0 ≤ (compareR (mulR (fracOf _) (fracOf _)).1 _).1 ∧ 0 ≤ (fracOf _).num ∧ (_ ∨ ((subR (fracOf _) (fracOf _)).1.num ≠ 0 ∧ (subR (fracOf _) (fracOf _)).1.num = _ ∧ (subR (fracOf _) (fracOf _)).1.den = _ ∧ 0 < (compareR (mulR (fracOf _) (fracOf _)).1 _).1))
    unfold mulR subR
    rw [opR_ok _ f1 f1, opR_ok _ f2 f2, opR_ok _ f2 f1, answer_fits g1, answer_fits g2, compareR_mk g1 hp, compareR_mk g2 hp, step, answer_fits fm, m1]
    have e1 := cmp_gt hi_gt
    exact ⟨rfl, rfl, rfl, rfl, rfl, rfl, cmp_le lo_le, by show 0 ≤ cmp _ _; omega, nn, Or.inr ⟨n1, rfl, rfl, by show 0 < cmp _ _; omega⟩⟩
theorem roots_law (a : Frac) (c : Int) (hc : InI64 c) : (decide a.ok = false ∨ a.num < 0 ∨ c < 1 ∨ 32768 < c → (rootAll a c).2 = 8 ∨ (rootAll a c).2 = 2) ∧
    (decide a.ok = true → 0 ≤ a.num → 1 ≤ c → c ≤ 32768 → (32768 < a.num ∨ 32768 < a.den → (rootAll a c).2 = 0 ∧ checkSpanR (boxSpan (rootAll a c).1) = 0) ∧
      (a.num ≤ 32768 → a.den ≤ 32768 → (rootAll a c).2 = 0 ∧ RootSays a c (boxSpan (rootAll a c).1))) := by
  constructor
  · intro h
    unfold rootAll
    by_cases ho : a.ok
    · obtain ⟨p, hp, rfl⟩ := Frac.of_ok ho
      rw [if_pos ho, fracOf_val, if_pos]
      · exact Or.inr rfl
      · rw [decide_eq_false_iff_not] at h
        exact h.resolve_left (fun k => k ho)
    · rw [if_neg ho]; exact Or.inl rfl
  · intro ho hn h1 h2
    rw [decide_eq_true_eq] at ho
    obtain ⟨p, hp, rfl⟩ := Frac.of_ok ho
    obtain ⟨k, rfl⟩ := Int.eq_ofNat_of_zero_le (show 0 ≤ c by omega)
    have hn' : 0 ≤ nm p := hn
    have e : rootAll (fracOf p) (k : Int) = rootR p k := by unfold rootAll; rw [if_pos ho, fracOf_val, if_neg (by omega), Int.toNat_natCast]
    rw [e]
    refine ⟨fun _ => root_big hp (by omega) (by omega), fun b1 b2 => root_small hp hn' (by omega) (by omega) ?_ ?_⟩
    · have b1' : p.num ≤ 32768 := b1
      have b0 : 0 ≤ p.num := hn
      show p.num.natAbs ≤ 32768
      omega
    · have b2' : dn p ≤ 32768 := b2
      have : dn p = (dw p : Int) := rfl
      omega
theorem rootAll_fits (a : Frac) (c : Int) : BoxFits (rootAll a c).1 := by
  unfold rootAll
  by_cases ho : a.ok
  · rw [if_pos ho]
    split
    · exact none_fits
    · rename_i hz
      have hp := ok_val ho
      obtain ⟨k, rfl⟩ := Int.eq_ofNat_of_zero_le (show 0 ≤ c by omega)
      rw [Int.toNat_natCast]
      have hs := isq_small (q_bound hp (show k ≤ 32768 by omega))
      have f1 := (make_small (s := isq (rootQ a.val k)) (by omega) (show 1 ≤ k by omega) (by omega)).2
      have f2 := (make_small (s := isq (rootQ a.val k) + 1) (by omega) (show 1 ≤ k by omega) (by omega)).2
      unfold rootR
      split
      · intro b hb
        obtain rfl := Option.some.inj hb
        exact ⟨f1, f1⟩
      · intro b hb
        obtain rfl := Option.some.inj hb
        exact ⟨f1, f2⟩
  · rw [if_neg ho]; exact none_fits
end Go.Proofs.YtodoimeiklilhaaDoor
