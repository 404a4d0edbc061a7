/- Fronts: plain laws. No program in sight. -/
import Derived.Test.YtcbimfaneinpkaaSpec
set_option linter.unusedVariables false
set_option linter.unusedSimpArgs false
namespace Go.Proofs.Ytcbimfaneinpkaa

def movedR (b : Belt) (by_ : Int) : Int := b.step - b.slip + by_ % (2 * b.slip + 1)
theorem moved_bd {b : Belt} (h : b.ok) (by_ : Int) : least b ≤ movedR b by_ ∧ movedR b by_ ≤ most b := by
  obtain ⟨a1, a2, a3, a4, -⟩ := h
  have h1 := Int.emod_nonneg by_ (show 2 * b.slip + 1 ≠ 0 by omega)
  have h2 := Int.emod_lt_of_pos by_ (show 0 < 2 * b.slip + 1 by omega)
  unfold movedR least most
  omega
theorem reach_step {b : Belt} (h : b.ok) {k sum m : Int} (h1 : k * least b ≤ sum) (h2 : sum ≤ k * most b) (m1 : least b ≤ m) (m2 : m ≤ most b) : (k + 1) * least b ≤ sum + m ∧ sum + m ≤ (k + 1) * most b := by
  rw [Int.add_mul, Int.add_mul, Int.one_mul, Int.one_mul]
  omega
theorem place_ok {b : Belt} (h : b.ok) {k front m place length : Int} (h1 : k * least b ≤ front) (h2 : front ≤ k * most b) (m1 : least b ≤ m) (m2 : m ≤ most b) (l2 : length ≤ b.length) (g1 : place ≤ front + m) (g2 : front - length ≤ place) :
    winFrom b place ≤ k + 1 ∧ k + 1 ≤ winTo b place := by
  obtain ⟨a1, a2, a3, a4, a5, a6, a7, a8⟩ := h
  have hl : 1 ≤ least b := by unfold least; omega
  have hm : 1 ≤ most b := by unfold most; omega
  constructor
  · have e : (k + 1) * most b = k * most b + most b := by rw [Int.add_mul, Int.one_mul]
    have h3 : (place - 1) / most b < k + 1 := (Int.ediv_lt_iff_lt_mul (by omega)).2 (by omega)
    unfold winFrom
    omega
  · have h3 : k ≤ (place + b.length) / least b := (Int.le_ediv_iff_mul_le (by omega)).2 (by omega)
    unfold winTo
    omega
end Go.Proofs.Ytcbimfaneinpkaa
