/- Long division of two words by one: the plain arithmetic. No program in sight. -/
set_option linter.unusedVariables false
set_option linter.unusedSimpArgs false
namespace Go.Proofs.YtodoimeiklilhaaDoor

/-- the true digit of (u, d) by y is at most the guess -/
theorem dig_guess {B y1 y0 u d : Nat} (h1 : 0 < y1) (hB : 0 < B) (hd : d < B) : (u * B + d) / (y1 * B + y0) ≤ u / y1 := by
  rw [Nat.le_div_iff_mul_le h1]
  have h := Nat.div_mul_le_self (u * B + d) (y1 * B + y0)
  generalize (u * B + d) / (y1 * B + y0) = Q at h ⊢
  have h2 : Q * y1 * B ≤ u * B + d := by
    have : Q * (y1 * B + y0) = Q * y1 * B + Q * y0 := by grind
    omega
  have h3 : Q * y1 * B < (u + 1) * B := by rw [Nat.add_mul]; omega
  have := Nat.lt_of_mul_lt_mul_right h3
  omega
/-- the true digit is a digit -/
theorem dig_lt {B y u d : Nat} (hu : u < y) (hd : d < B) : (u * B + d) / y < B := by
  rw [Nat.div_lt_iff_lt_mul (by omega)]
  have : (u + 1) * B ≤ y * B := Nat.mul_le_mul_right B hu
  rw [Nat.add_mul] at this
  rw [Nat.mul_comm B y]
  omega
/-- a guess that passes the test is the digit, and so is one whose rest has grown past B -/
theorem dig_done {B y1 y0 u d q r : Nat} (hq : q * y1 + r = u) (hQ : (u * B + d) / (y1 * B + y0) ≤ q) (hy : 0 < y1 * B + y0) (h : q * y0 ≤ B * r + d) : q = (u * B + d) / (y1 * B + y0) := by
  refine Nat.le_antisymm ?_ hQ
  rw [Nat.le_div_iff_mul_le hy]
  have e : q * (y1 * B + y0) = q * y1 * B + q * y0 := by grind
  have e2 : (q * y1 + r) * B = q * y1 * B + B * r := by grind
  rw [← hq, e, e2]
  omega
/-- a guess that does not pass is too great -/
theorem dig_more {B y1 y0 u d q r : Nat} (hq : q * y1 + r = u) (hy : 0 < y1 * B + y0) (h : B * r + d < q * y0) : (u * B + d) / (y1 * B + y0) < q := by
  rw [Nat.div_lt_iff_lt_mul hy]
  have e : q * (y1 * B + y0) = q * y1 * B + q * y0 := by grind
  have e2 : (q * y1 + r) * B = q * y1 * B + B * r := by grind
  rw [← hq, e, e2]
  omega
theorem dig_break {B y0 d q r : Nat} (hq : q ≤ B) (h0 : y0 < B) (hr : B ≤ r) : q * y0 ≤ B * r + d := by
  have a : q * y0 ≤ B * y0 := Nat.mul_le_mul_right _ hq
  have b : B * y0 ≤ B * r := Nat.mul_le_mul_left _ (by omega)
  omega
theorem dig_bound {B y1 y0 u : Nat} (hB : B ≤ 2 * y1) (h0 : y0 < B) (hp : 0 < B) (hu : u < y1 * B + y0) : u / y1 ≤ B + 1 := by
  have h1 : 0 < y1 := by omega
  have : u / y1 < B + 2 := by
    rw [Nat.div_lt_iff_lt_mul h1]
    have : (B + 2) * y1 = y1 * B + 2 * y1 := by grind
    omega
  omega
theorem split_high {hi lo s : Nat} (hs : s ≤ 64) : (hi * 18446744073709551616 + lo) * 2 ^ s = (hi * 2 ^ s + lo / 2 ^ (64 - s)) * 18446744073709551616 + lo * 2 ^ s % 18446744073709551616 := by
  have e : (18446744073709551616 : Nat) = 2 ^ (64 - s) * 2 ^ s := by rw [← Nat.pow_add, Nat.sub_add_cancel hs]
  have h1 : lo * 2 ^ s % 18446744073709551616 = lo % 2 ^ (64 - s) * 2 ^ s := by rw [e]; exact Nat.mul_mod_mul_right _ _ _
  rw [h1]
  have h2 := Nat.div_add_mod lo (2 ^ (64 - s))
  generalize lo / 2 ^ (64 - s) = a at *
  generalize lo % 2 ^ (64 - s) = b at *
  rw [← h2]
  generalize 2 ^ (64 - s) = c at *
  generalize 2 ^ s = d at *
  rw [e]
  grind
theorem long_div {X y S Y u L d1 d0 Q1 v Q2 R : Nat} (hy : 0 < y) (hS : 0 < S) (hY : Y = y * S) (hX : X * S = u * 18446744073709551616 + L) (hL : L = d1 * 4294967296 + d0)
    (h1 : Q1 = (u * 4294967296 + d1) / Y) (h2 : v = (u * 4294967296 + d1) % Y) (h3 : Q2 = (v * 4294967296 + d0) / Y) (h4 : R = (v * 4294967296 + d0) % Y) :
    X / y = Q1 * 4294967296 + Q2 ∧ X % y = R / S := by
  have hYp : 0 < Y := by rw [hY]; exact Nat.mul_pos hy hS
  have e1 : X * S = Y * (Q1 * 4294967296 + Q2) + R := by
    have a1 := Nat.div_add_mod (u * 4294967296 + d1) Y
    have a2 := Nat.div_add_mod (v * 4294967296 + d0) Y
    rw [← h1, ← h2] at a1
    rw [← h3, ← h4] at a2
    rw [hX, hL]
    grind
  have hR : R < Y := by rw [h4]; exact Nat.mod_lt _ hYp
  have d : X * S / Y = Q1 * 4294967296 + Q2 := by
    rw [e1, Nat.mul_add_div hYp, Nat.div_eq_of_lt hR]; omega
  have m : X * S % Y = R := by
    rw [e1, Nat.mul_add_mod, Nat.mod_eq_of_lt hR]
  rw [hY, Nat.mul_div_mul_right _ _ hS] at d
  rw [hY, Nat.mul_mod_mul_right] at m
  exact ⟨d, by rw [← m, Nat.mul_div_cancel _ hS]⟩
theorem mod_wrap {N Q Y v : Nat} (hQ : Q = N / Y) (hv : v = N % Y) (hY : v < 18446744073709551616) (a b : Int) (ha : (a - b) % 18446744073709551616 = ((N : Int) - ((Q * Y : Nat) : Int)) % 18446744073709551616) :
    (a - b) % 18446744073709551616 = (v : Int) := by
  have := Nat.div_add_mod N Y
  rw [← hQ, ← hv, Nat.mul_comm] at this
  rw [ha]
  omega
end Go.Proofs.YtodoimeiklilhaaDoor
