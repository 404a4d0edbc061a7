/- What the law's examples of 'alive' come to: the contracts at their values. -/
import Derived.Test.YtodoimeiklilhaaDoorLawBase
import Derived.Test.YtodoimeiklilhaaDoorRootAll
import Derived.Test.YtodoimeiklilhaaDoorMeetJoin
import Derived.Test.YtodoimeiklilhaaDoorText
import Derived.Test.YtodoimeiklilhaaDoorMulSpans
set_option linter.unusedVariables false
set_option linter.unusedSimpArgs false
namespace Go.Proofs.YtodoimeiklilhaaDoor
open Go.RowKit Go.Sort

theorem k_Make (w : World) : Calls Tryd.prog 20 #[.int .i64 6, .int .i64 (-4)] w fun e w' => e = .returned (.tuple #[.agg #[.int .i64 (-3), .int .i64 2], .int .i64 0]) ∧ Ext w w' := by
  have := c_Make 6 (-4) (by unfold InI64; omega) (by unfold InI64; omega) w
  rw [show makeR 6 (-4) = (⟨-3, 2⟩, 0) by decide +kernel] at this
  exact this
theorem k_Add (w : World) : Calls Tryd.prog 26 #[.agg #[.int .i64 1, .int .i64 2], .agg #[.int .i64 1, .int .i64 3]] w fun e w' => e = .returned (.tuple #[.agg #[.int .i64 5, .int .i64 6], .int .i64 0]) ∧ Ext w w' := by
  have := c_Add ⟨1, 2⟩ ⟨1, 3⟩ ⟨(by unfold InI64; decide), (by unfold InI64; decide)⟩ ⟨(by unfold InI64; decide), (by unfold InI64; decide)⟩ w
  rw [show opR (fun p q => answer (p + q)) ⟨1, 2⟩ ⟨1, 3⟩ = (⟨5, 6⟩, 0) by decide +kernel] at this
  exact this
theorem k_Div (w : World) : Calls Tryd.prog 23 #[.agg #[.int .i64 1, .int .i64 2], .agg #[.int .i64 (-3), .int .i64 4]] w fun e w' => e = .returned (.tuple #[.agg #[.int .i64 (-2), .int .i64 3], .int .i64 0]) ∧ Ext w w' := by
  have := c_Div ⟨1, 2⟩ ⟨-3, 4⟩ ⟨(by unfold InI64; decide), (by unfold InI64; decide)⟩ ⟨(by unfold InI64; decide), (by unfold InI64; decide)⟩ w
  rw [show opR quotR ⟨1, 2⟩ ⟨-3, 4⟩ = (⟨-2, 3⟩, 0) by decide +kernel] at this
  exact this
theorem k_Floor (w : World) : Calls Tryd.prog 29 #[.agg #[.int .i64 (-7), .int .i64 2]] w fun e w' => e = .returned (.tuple #[.int .i64 (-4), .int .i64 0]) ∧ Ext w w' := by
  have := c_Floor ⟨-7, 2⟩ ⟨(by unfold InI64; decide), (by unfold InI64; decide)⟩ w
  rw [show floorR ⟨-7, 2⟩ = (-4, 0) by decide +kernel] at this
  exact this
theorem numText_small (n : Nat) (h : n < 10) : numText (n : Int) = ⟨#[UInt8.ofNat (48 + n)]⟩ := by
  unfold numText
  rw [Lib.itoa_nonneg, Lib.decDigits_one h]
theorem text_k : textR ⟨-3, 2⟩ = (⟨#[45, 51, 47, 50]⟩, 0) := by
  have h : Frac.ok ⟨-3, 2⟩ := by decide +kernel
  have e1 : nm (Frac.val ⟨-3, 2⟩) = -3 := by decide +kernel
  have e2 : dn (Frac.val ⟨-3, 2⟩) = 2 := by decide +kernel
  unfold textR
  rw [if_pos h]
  unfold ratText
  rw [e1, e2, if_pos (by omega), show ((2 : Int)) = ((2 : Nat) : Int) from rfl, numText_small 2 (by omega)]
  unfold numText
  rw [show (-3 : Int) = -((3 : Nat) : Int) from rfl, Lib.itoa_neg 3 (by omega), Lib.decDigits_one (by omega)]
  rfl
theorem k_Text (w : World) (hP : Pow w) : Calls Tryd.prog 17 #[.agg #[.int .i64 (-3), .int .i64 2]] w fun e w' => e = .returned (.tuple #[.string ⟨#[45, 51, 47, 50]⟩, .int .i64 0]) ∧ Ext w w' := by
  have := c_Text ⟨-3, 2⟩ ⟨(by unfold InI64; decide), (by unfold InI64; decide)⟩ w hP
  rw [text_k] at this
  exact this
theorem k_MulSpans (w : World) : Calls Tryd.prog 47 #[.agg #[.int .i64 (-1), .int .i64 1, .int .i64 2, .int .i64 1], .agg #[.int .i64 (-3), .int .i64 1, .int .i64 5, .int .i64 1]] w fun e w' => e = .returned (.tuple #[.agg #[.int .i64 (-6), .int .i64 1, .int .i64 10, .int .i64 1], .int .i64 0]) ∧ Ext w w' := by
  have := c_MulSpans ⟨⟨-1, 1⟩, ⟨2, 1⟩⟩ ⟨⟨-3, 1⟩, ⟨5, 1⟩⟩ ⟨⟨(by unfold InI64; decide), (by unfold InI64; decide)⟩, ⟨(by unfold InI64; decide), (by unfold InI64; decide)⟩⟩ ⟨⟨(by unfold InI64; decide), (by unfold InI64; decide)⟩, ⟨(by unfold InI64; decide), (by unfold InI64; decide)⟩⟩ w
  rw [show spanR (fun p q => answer (p * q)) pairsAll ⟨⟨-1, 1⟩, ⟨2, 1⟩⟩ ⟨⟨-3, 1⟩, ⟨5, 1⟩⟩ = (some ((-6 : Rat), (10 : Rat)), 0) by decide +kernel] at this
  exact this
theorem isq_200 : isq 200 = 14 := (isq_eq (by omega) (by omega)).symm
theorem k_Root (w : World) : Calls Tryd.prog 36 #[.agg #[.int .i64 2, .int .i64 1], .int .i64 10] w fun e w' => e = .returned (.tuple #[.agg #[.int .i64 7, .int .i64 5, .int .i64 3, .int .i64 2], .int .i64 0]) ∧ Ext w w' := by
  have := c_Root ⟨2, 1⟩ 10 ⟨(by unfold InI64; decide), (by unfold InI64; decide)⟩ (by unfold InI64; omega) w
  rw [show rootAll ⟨2, 1⟩ 10 = (some (mkRat 7 5, mkRat 3 2), 0) by
    unfold rootAll
    have e : Frac.val ⟨2, 1⟩ = (2 : Rat) := by decide +kernel
    rw [if_pos (by decide +kernel), e, if_neg (by decide +kernel)]
    unfold rootR
    have e1 : rootQ 2 (Int.toNat 10) = 200 := by decide +kernel
    rw [e1, isq_200, if_neg (by decide +kernel)]
    decide +kernel] at this
  exact this
theorem k_In (w : World) : Calls Tryd.prog 39 #[.agg #[.int .i64 (-6), .int .i64 1, .int .i64 10, .int .i64 1], .agg #[.int .i64 10, .int .i64 1]] w fun e w' => e = .returned (.tuple #[.bool true, .int .i64 0]) ∧ Ext w w' := by
  have := c_In ⟨⟨-6, 1⟩, ⟨10, 1⟩⟩ ⟨10, 1⟩ ⟨⟨(by unfold InI64; decide), (by unfold InI64; decide)⟩, ⟨(by unfold InI64; decide), (by unfold InI64; decide)⟩⟩ ⟨(by unfold InI64; decide), (by unfold InI64; decide)⟩ w
  rw [show inR ⟨⟨-6, 1⟩, ⟨10, 1⟩⟩ ⟨10, 1⟩ = (true, 0) by decide +kernel] at this
  exact this
theorem k_is (n d : Int) (w : World) : Calls Tryd.prog 25 #[.agg #[.int .i64 n, .int .i64 d], .int .i64 0, .int .i64 n, .int .i64 d] w fun e w' => e = .returned (.bool true) ∧ Ext w w' := by
  have := c_is ⟨n, d⟩ 0 n d w
  rw [decide_eq_true ⟨rfl, rfl⟩] at this
  exact this
theorem k_from (n d m k : Int) (w : World) : Calls Tryd.prog 35 #[.agg #[.int .i64 n, .int .i64 d, .int .i64 m, .int .i64 k], .int .i64 0, .int .i64 n, .int .i64 d, .int .i64 m, .int .i64 k] w fun e w' => e = .returned (.bool true) ∧ Ext w w' := by
  have := c_from ⟨⟨n, d⟩, ⟨m, k⟩⟩ 0 n d m k w
  rw [decide_eq_true ⟨rfl, rfl⟩] at this
  exact this
end Go.Proofs.YtodoimeiklilhaaDoor
