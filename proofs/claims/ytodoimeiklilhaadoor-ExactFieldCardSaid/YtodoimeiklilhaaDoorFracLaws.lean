/- The plain laws behind ExactNext, ExactBack, ExactOrder, ExactField. No program in sight. -/
import Derived.Test.YtodoimeiklilhaaDoorGLaws
import Derived.Test.YtodoimeiklilhaaDoorGRef
set_option linter.unusedVariables false
set_option linter.unusedSimpArgs false
namespace Go.Proofs.YtodoimeiklilhaaDoor

theorem whole_ok {n : Int} (h1 : -4611686018427387903 ≤ n) (h2 : n ≤ 4611686018427387903) : Fits (n : Rat) ∧ (⟨n, 1⟩ : Frac) = fracOf (n : Rat) := by
  refine ⟨?_, rfl⟩
  unfold Fits maxP
  rw [Rat.num_intCast, Rat.den_intCast]
  omega
theorem compareR_mk {p q : Rat} (hp : Fits p) (hq : Fits q) : compareR (fracOf p) (fracOf q) = (cmp p q, 0) := by
  unfold compareR
  rw [if_pos ⟨fracOf_ok hp, fracOf_ok hq⟩, fracOf_val, fracOf_val]
theorem cmp_le {p q : Rat} (h : p ≤ q) : cmp p q ≤ 0 := by unfold cmp; split; omega; split; omega; exfalso; grind
theorem cmp_ge {p q : Rat} (h : q ≤ p) : 0 ≤ cmp p q := by unfold cmp; split; exfalso; grind; split <;> omega
theorem cmp_self (p : Rat) : cmp p p = 0 := by unfold cmp; rw [if_neg (by grind), if_pos rfl]
theorem ceil_small {q : Rat} (h : Fits q) : -4611686018427387903 ≤ q.ceil ∧ q.ceil ≤ 4611686018427387903 := by
  have := floor_small (fits_neg h)
  rw [Rat.ceil_eq_neg_floor_neg]
  omega
theorem den_one {q : Rat} : dn q = 1 ↔ q = (q.num : Rat) := by
  constructor
  · intro h
    have : q.den = 1 := by unfold dn at h; omega
    apply Rat.ext
    · rw [Rat.num_intCast]
    · rw [Rat.den_intCast, this]
  · intro h
    unfold dn
    rw [h, Rat.den_intCast]
    rfl
theorem next_law (a : Frac) : (decide a.ok = false → (floorR a).2 = 8 ∧ (ceilR a).2 = 8) ∧ (decide a.ok = true → (floorR a).2 = 0 ∧ (ceilR a).2 = 0 ∧ (compareR ⟨(floorR a).1, 1⟩ a).2 = 0 ∧ (compareR ⟨(ceilR a).1, 1⟩ a).2 = 0 ∧ (compareR ⟨(floorR a).1, 1⟩ a).1 ≤ 0 ∧ 0 ≤ (compareR ⟨(ceilR a).1, 1⟩ a).1 ∧
    -4611686018427387903 ≤ (floorR a).1 ∧ (floorR a).1 ≤ 4611686018427387903 ∧ ((ceilR a).1 = (floorR a).1 ∨ (ceilR a).1 = (floorR a).1 + 1) ∧ ((ceilR a).1 = (floorR a).1 ↔ a.den = 1) ∧
    ((ceilR a).1 = (floorR a).1 → (compareR ⟨(floorR a).1, 1⟩ a).1 = 0 ∧ (compareR ⟨(ceilR a).1, 1⟩ a).1 = 0)) := by
  constructor
  · intro h
    rw [decide_eq_false_iff_not] at h
    unfold floorR ceilR
    rw [if_neg h, if_neg h]
    exact ⟨rfl, rfl⟩
  · intro h
    rw [decide_eq_true_eq] at h
    obtain ⟨q, hq, rfl⟩ := Frac.of_ok h
    have e1 : floorR (fracOf q) = (q.floor, 0) := by unfold floorR; rw [if_pos h, fracOf_val]
    have e2 : ceilR (fracOf q) = (q.ceil, 0) := by unfold ceilR; rw [if_pos h, fracOf_val]
    have s1 := floor_small hq
    have s2 := ceil_small hq
    have f1 := whole_ok s1.1 s1.2
    have f2 := whole_ok s2.1 s2.2
    rw [e1, e2]
    simp only
    rw [f1.2, f2.2, compareR_mk f1.1 hq, compareR_mk f2.1 hq]
    have a1 := Rat.floor_le q
    have a2 := @Rat.le_ceil q
    have a3 : q.floor ≤ q.ceil := by have : ((q.floor : Int) : Rat) ≤ (q.ceil : Rat) := by grind
                                     exact Rat.intCast_le_intCast.1 this
    have a4 : q.ceil ≤ q.floor + 1 := by
      have b1 := Rat.lt_floor_add_one q
      have b2 := @Rat.ceil_le_iff q (q.floor + 1)
      exact b2.2 (by grind)
    have key : q.ceil = q.floor ↔ dn q = 1 := by
      rw [den_one]
      constructor
      · intro e
        rw [e] at a2
        have hq' : q = ((q.floor : Int) : Rat) := by grind
        rw [hq', Rat.num_intCast]
      · intro e
        rw [e, Rat.ceil_intCast, Rat.floor_intCast]
    refine ⟨trivial, trivial, rfl, rfl, cmp_le a1, cmp_ge a2, s1.1, s1.2, by omega, key, fun e => ?_⟩
    rw [e] at a2
    have hq' : q = ((q.floor : Int) : Rat) := by grind
    rw [e]
    constructor <;> (show cmp ((q.floor : Int) : Rat) q = 0; rw [← hq']; exact cmp_self q)
abbrev addR (a b : Frac) := opR (fun p q => answer (p + q)) a b
abbrev subR (a b : Frac) := opR (fun p q => answer (p - q)) a b
abbrev mulR (a b : Frac) := opR (fun p q => answer (p * q)) a b
abbrev divR (a b : Frac) := opR quotR a b
theorem answer_fits {v : Rat} (h : Fits v) : answer v = (fracOf v, 0) := if_pos h
theorem answer_zero {v : Rat} (h : (answer v).2 = 0) : Fits v := by
  by_cases k : Fits v
  · exact k
  · unfold answer at h; rw [if_neg k] at h; simp at h
theorem quot_mul {p q : Rat} (hq : q ≠ 0) : p * q / q = p := by
  rw [Rat.div_def, Rat.mul_assoc, Rat.mul_inv_cancel q hq, Rat.mul_one]
theorem back_law (a b : Frac) : decide (a.ok ∧ b.ok) = true → ((addR a b).2 = 0 → (subR (addR a b).1 b).2 = 0 ∧ (subR (addR a b).1 b).1.num = a.num ∧ (subR (addR a b).1 b).1.den = a.den) ∧ ((addR a b).2 ≠ 0 → (addR a b).2 = 4) ∧
    ((mulR a b).2 = 0 → b.num ≠ 0 → (divR (mulR a b).1 b).2 = 0 ∧ (divR (mulR a b).1 b).1.num = a.num ∧ (divR (mulR a b).1 b).1.den = a.den) ∧ (subR a b).2 = (addR a ⟨-b.num, b.den⟩).2 ∧
    ((subR a b).1.num = (addR a ⟨-b.num, b.den⟩).1.num ∧ (subR a b).1.den = (addR a ⟨-b.num, b.den⟩).1.den) ∧ -4611686018427387903 ≤ b.num ∧ b.num ≤ 4611686018427387903 := by
  intro h
  rw [decide_eq_true_eq] at h
  obtain ⟨p, hp, rfl⟩ := Frac.of_ok h.1
  obtain ⟨q, hq, rfl⟩ := Frac.of_ok h.2
  have en : (⟨-(fracOf q).num, (fracOf q).den⟩ : Frac) = fracOf (-q) := rfl
  have b := hq.2
  unfold maxP at b
  rw [en]
  unfold addR subR mulR divR
  rw [opR_ok _ hp hq, opR_ok _ hp hq, opR_ok _ hp hq, opR_ok _ hp (fits_neg hq)]
  refine ⟨fun e => ?_, fun e => ((answer_err _).resolve_left e), fun e hn => ?_, ?_, ?_, by have := b.1; show _ ≤ q.num; omega, by have := b.2; show q.num ≤ _; omega⟩
  · have f := answer_zero e
    simp only [answer_fits f]
    rw [opR_ok _ f hq]
    rw [show p + q - q = p by grind, answer_fits hp]
    exact ⟨rfl, rfl, rfl⟩
  · have f := answer_zero e
    simp only [answer_fits f]
    have q0 : q ≠ 0 := fun k => hn (by rw [k]; rfl)
    have e' : quotR (p * q) q = answer p := by
      unfold quotR
      rw [if_neg (fun k => q0 (nm_zero k)), quot_mul q0]
    rw [opR_ok _ f hq, e', answer_fits hp]
    exact ⟨rfl, rfl, rfl⟩
  · show (answer (p - q)).2 = (answer (p + -q)).2
    rw [Rat.sub_eq_add_neg]
  · show (answer (p - q)).1.num = (answer (p + -q)).1.num ∧ (answer (p - q)).1.den = (answer (p + -q)).1.den
    rw [Rat.sub_eq_add_neg]
    exact ⟨rfl, rfl⟩
theorem one_in : InI64 1 := by unfold InI64; omega
theorem floor_ceil_in (a : Frac) : InI64 (floorR a).1 ∧ InI64 (ceilR a).1 := by
  unfold floorR ceilR
  by_cases h : a.ok
  · rw [if_pos h, if_pos h]
    have h1 := floor_small (ok_val h)
    have h2 := ceil_small (ok_val h)
    unfold InI64
    simp only
    omega
  · rw [if_neg h, if_neg h]; exact ⟨zero_in, zero_in⟩
end Go.Proofs.YtodoimeiklilhaaDoor
