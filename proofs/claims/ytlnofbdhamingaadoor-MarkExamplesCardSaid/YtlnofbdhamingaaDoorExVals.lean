/- The values of the chapter's examples. No program in sight. -/
import Derived.Test.YtlnofbdhamingaaDoorGAlive
set_option linter.unusedVariables false
set_option linter.unusedSimpArgs false
namespace Go.Proofs.YtlnofbdhamingaaDoor
open Go.RowKit Go.Sort

def e13L : List Bool := List.replicate 13 true ++ [false, false]
def e14L : List Bool := List.replicate 14 true ++ [false]
def eK (i : Nat) : List Bool := List.replicate i true ++ List.replicate (15 - i) false
theorem eK_set : ∀ i, i < 13 → (eK i).set i true = eK (i + 1) := by decide
theorem eK_len : ∀ i, i ≤ 13 → (eK i).length = 15 := by decide
theorem eK_zero : eK 0 = List.replicate 15 false := by decide
theorem eK_13 : eK 13 = e13L := by decide
theorem e14_set : e13L.set 13 true = e14L := by decide
def fiveL : List Nat := List.replicate 15 5
theorem mul_79 : mulR 7 9 = (10, 0) := by decide
theorem mul_05 : mulR 0 5 = (0, 0) := by decide
theorem mul_161 : mulR 16 1 = (0, 2) := by decide
theorem inv_1 : invR 1 = (1, 0) := by decide
theorem inv_0 : invR 0 = (0, 2) := by decide
theorem enc_5 : encodeR [5] = (some fiveL, 0) := by decide
theorem dec_13 : decR pwL e13L 2 = some [0, 1] ∧ errN [0, 1] pwL e13L = 0 := by
  have hr : RecvOk pwL e13L 2 := ⟨by unfold Syms pwL; decide, rfl, rfl, by omega, by omega⟩
  exact ⟨decR_some hr (fits_iff.2 ⟨by unfold Syms; decide, rfl, by decide⟩), by rw [errN_eq]; decide⟩
theorem dec_14 : decR pwL e14L 2 = none := by
  have hr : RecvOk pwL e14L 2 := ⟨by unfold Syms pwL; decide, rfl, rfl, by omega, by omega⟩
  exact dec_short hr (by decide)
theorem decA_13 : decA pwL e13L 2 = (([0, 1], 0), 0) := by
  rw [decA_def, if_pos ⟨rfl, by decide, rfl, by omega, by omega⟩]
  rw [show (2 : Int).toNat = 2 from rfl, dec_13.1]
  show (([0, 1], errN [0, 1] pwL e13L), (0 : Int)) = _
  rw [dec_13.2]
theorem decA_14 : decA pwL e14L 2 = (([], 0), 60) := by
  rw [decA_def, if_pos ⟨rfl, by decide, rfl, by omega, by omega⟩]
  rw [show (2 : Int).toNat = 2 from rfl, dec_14]
theorem pix_m0 : m0I.pix.length = 64 ∧ m0I.pix.getD 0 0 = 10 ∧ m0I.pix.getD 7 0 = 200 ∧ m0I.pix.getD 1 0 = 200 := by decide +kernel
def g8 : List Nat := glyphR 8
theorem g8_len : g8.length = 15 := by decide
theorem dig_8 : digitI g8 = ((8, 1), 0) := by decide +kernel
theorem dig_80 : digitI (g8.set 7 0) = ((0, 1), 0) := by decide +kernel
theorem dig_82 : digitI ((g8.set 7 0).set 7 2) = ((0, 0), 0) := by decide +kernel
theorem line_1 : lineI p17 1 ⟨50, 100⟩ 1 = ([49, 55], 0) := by decide +kernel
theorem line_8 : lineI p17 1 ⟨50, 100⟩ 8 = ([63, 63], 0) := by decide +kernel
end Go.Proofs.YtlnofbdhamingaaDoor
