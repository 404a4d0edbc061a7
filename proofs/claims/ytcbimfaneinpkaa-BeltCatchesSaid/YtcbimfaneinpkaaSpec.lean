/- The plain data and functions of layer 9: no program in sight. -/
namespace Go.Proofs.Ytcbimfaneinpkaa

structure Belt where
  step : Int
  slip : Int
  gate : Int
  length : Int
  deriving DecidableEq

/-- a valid belt -/
def Belt.ok (b : Belt) : Prop := 1 ≤ b.step ∧ b.step ≤ 1000 ∧ 0 ≤ b.slip ∧ b.slip < b.step ∧ 1 ≤ b.gate ∧ b.gate ≤ 1000000 ∧ 1 ≤ b.length ∧ b.length ≤ 1000000
instance (b : Belt) : Decidable b.ok := by unfold Belt.ok; infer_instance
def checkBelt (b : Belt) : Int := if b.ok then 0 else 90
theorem checkBelt_ok {b : Belt} (h : b.ok) : checkBelt b = 0 := if_pos h
theorem checkBelt_no {b : Belt} (h : ¬ b.ok) : checkBelt b = 90 := if_neg h
def least (b : Belt) : Int := b.step - b.slip
def most (b : Belt) : Int := b.step + b.slip
def winFrom (b : Belt) (place : Int) : Int := (place - 1) / most b + 1
def winTo (b : Belt) (place : Int) : Int := (place + b.length) / least b + 1
def window (b : Belt) (place : Int) : Int × Int × Int :=
  if b.ok then if 1 ≤ place ∧ place ≤ 1000000 then (winFrom b place, winTo b place, 0) else (0, 0, 2) else (0, 0, 90)
def reach (b : Belt) (n : Int) : Int × Int × Int :=
  if b.ok then if 0 ≤ n ∧ n ≤ 1000000 then (n * least b, n * most b, 0) else (0, 0, 2) else (0, 0, 90)
def first (b : Belt) : Int := winFrom b b.gate
def final (b : Belt) : Int := winTo b b.gate
def clear (b : Belt) : Int × Int := if b.ok then (final b - first b + 1, 0) else (0, 90)

theorem div_bd {a b : Int} (ha : 0 ≤ a) (hb : 1 ≤ b) : 0 ≤ a / b ∧ a / b ≤ a := ⟨Int.ediv_nonneg ha (by omega), Int.ediv_le_self _ ha⟩
theorem div_mono {a b c : Int} (h : a ≤ b) (hc : 1 ≤ c) : a / c ≤ b / c := Int.ediv_le_ediv (by omega) h
/-- the least whole number that is at least a / b, in the two spellings -/
theorem ceil_eq {a b : Int} (hb : 1 ≤ b) : (a + b - 1) / b = (a - 1) / b + 1 := by
  have h : a + b - 1 = (a - 1) + 1 * b := by omega
  rw [h, Int.add_mul_ediv_right _ _ (by omega)]
theorem from_bd {b : Belt} (h : b.ok) {p : Int} (h1 : 1 ≤ p) (h2 : p ≤ 1000000) : 1 ≤ winFrom b p ∧ winFrom b p ≤ 1000000 := by
  obtain ⟨a1, a2, a3, a4, a5, a6, a7, a8⟩ := h
  have := div_bd (a := p - 1) (b := most b) (by omega) (by unfold most; omega)
  unfold winFrom; omega
theorem to_bd {b : Belt} (h : b.ok) {p : Int} (h1 : 1 ≤ p) (h2 : p ≤ 1000000) : 1 ≤ winTo b p ∧ winTo b p ≤ 2000001 := by
  obtain ⟨a1, a2, a3, a4, a5, a6, a7, a8⟩ := h
  have := div_bd (a := p + b.length) (b := least b) (by omega) (by unfold least; omega)
  unfold winTo; omega
/-- a window begins before it ends -/
theorem from_le_to {b : Belt} (h : b.ok) {p : Int} (h1 : 1 ≤ p) : winFrom b p ≤ winTo b p := by
  obtain ⟨a1, a2, a3, a4, a5, a6, a7, a8⟩ := h
  unfold winFrom winTo
  have e1 : (p - 1) / most b ≤ (p - 1) / least b := by
    have hl : 1 ≤ least b := by unfold least; omega
    have hm : least b ≤ most b := by unfold least most; omega
    have k := Int.ediv_mul_le (p - 1) (show most b ≠ 0 by omega)
    have q0 : 0 ≤ (p - 1) / most b := (div_bd (by omega) (by omega)).1
    refine (Int.le_ediv_iff_mul_le (by omega)).2 ?_
    have := Int.mul_le_mul_of_nonneg_left hm q0
    omega
  have e2 : (p - 1) / least b ≤ (p + b.length) / least b := div_mono (by omega) (by unfold least; omega)
  omega
end Go.Proofs.Ytcbimfaneinpkaa
