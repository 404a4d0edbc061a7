/- What the chapter's examples come to: the contracts at their values. -/
import Derived.Test.YtodoimeiklilhaaDoorGAlive
import Derived.Test.YtodoimeiklilhaaDoorParseLaw
import Derived.Test.YtodoimeiklilhaaDoorGSpanOps
set_option linter.unusedVariables false
set_option linter.unusedSimpArgs false
namespace Go.Proofs.YtodoimeiklilhaaDoor
open Go.RowKit Go.Sort

theorem run_five {w : World} {b : Nat} {c0 c1 c2 c3 c4 : Value} {e : TypeId} (h : w.heap[b]? = some (.cells #[c0, c1, c2, c3, c4] e)) :
    (w.cell? ⟨b, 0, none⟩ = some c0 ∧ w.cell? ⟨b, 1, none⟩ = some c1 ∧ w.cell? ⟨b, 2, none⟩ = some c2 ∧ w.cell? ⟨b, 3, none⟩ = some c3 ∧ w.cell? ⟨b, 4, none⟩ = some c4) ∧
      w.frozen? ⟨b, 0, none⟩ = false ∧ w.frozen? ⟨b, 1, none⟩ = false ∧ w.frozen? ⟨b, 2, none⟩ = false ∧ w.frozen? ⟨b, 3, none⟩ = false ∧ w.frozen? ⟨b, 4, none⟩ = false := by
  simp [World.cell?, World.frozen?, h]
theorem text_small (n : Nat) (h : n < 10) : textR ⟨(n : Int), 1⟩ = (⟨#[UInt8.ofNat (48 + n)]⟩, 0) := by
  have hok : Frac.ok ⟨(n : Int), 1⟩ := by
    refine (Frac.ok_iff _).2 ⟨by simp, by simp, by simp only; omega, by simp only; omega, ?_⟩
    unfold gcdOf
    simp
  have e1 : Frac.val ⟨(n : Int), 1⟩ = ((n : Int) : Rat) := by
    obtain ⟨p, hp, e⟩ := Frac.of_ok hok
    rw [e, fracOf_val]
    have hn : p.num = n := (congrArg Frac.num e).symm
    have hd : (p.den : Int) = 1 := (congrArg Frac.den e).symm
    exact Rat.ext (by rw [hn]; simp) (by simp; omega)
  unfold textR
  rw [if_pos hok, e1]
  unfold ratText
  rw [show dn ((n : Int) : Rat) = 1 by unfold dn; simp, show nm ((n : Int) : Rat) = (n : Int) by unfold nm; simp, if_neg (by omega), numText_small n h]
theorem parse_bad {s : ByteArray} {n d : Int} (h1 : Lib.atoiAll (Lib.cut s.data.toList [47]).1 = .ok n) (h2 : Lib.atoiAll (rightOf s.data.toList) = .ok d)
    (h3 : ¬ ((textR ⟨n, d⟩).2 = 0 ∧ (textR ⟨n, d⟩).1.data = s.data)) : parseR s = (⟨0, 0⟩, 11) := by
  unfold parseR
  rw [h1, h2]
  exact if_neg h3
theorem x_make1 (w : World) : Calls Tryd.prog 20 #[.int .i64 0, .int .i64 5] w fun e w' => e = .returned (.tuple #[.agg #[.int .i64 0, .int .i64 1], .int .i64 0]) ∧ Ext w w' := by
  have := c_Make 0 5 (by unfold InI64; omega) (by unfold InI64; omega) w
  rw [show makeR 0 5 = (⟨0, 1⟩, 0) by decide +kernel] at this
  exact this
theorem x_make2 (w : World) : Calls Tryd.prog 20 #[.int .i64 1, .int .i64 0] w fun e w' => e = .returned (.tuple #[.agg #[.int .i64 0, .int .i64 0], .int .i64 10]) ∧ Ext w w' := by
  have := c_Make 1 0 (by unfold InI64; omega) (by unfold InI64; omega) w
  rw [show makeR 1 0 = (⟨0, 0⟩, 10) by decide +kernel] at this
  exact this
theorem x_make3 (w : World) : Calls Tryd.prog 20 #[.int .i64 (-9223372036854775808), .int .i64 2] w fun e w' => e = .returned (.tuple #[.agg #[.int .i64 0, .int .i64 0], .int .i64 4]) ∧ Ext w w' := by
  have := c_Make (-9223372036854775808) 2 (by unfold InI64; omega) (by unfold InI64; omega) w
  rw [show makeR (-9223372036854775808) 2 = (⟨0, 0⟩, 4) by decide +kernel] at this
  exact this
theorem x_make4 (w : World) : Calls Tryd.prog 20 #[.int .i64 (-9223372036854775808), .int .i64 1] w fun e w' => e = .returned (.tuple #[.agg #[.int .i64 0, .int .i64 0], .int .i64 4]) ∧ Ext w w' := by
  have := c_Make (-9223372036854775808) 1 (by unfold InI64; omega) (by unfold InI64; omega) w
  rw [show makeR (-9223372036854775808) 1 = (⟨0, 0⟩, 4) by decide +kernel] at this
  exact this
theorem x_sub (w : World) : Calls Tryd.prog 21 #[.agg #[.int .i64 1, .int .i64 2], .agg #[.int .i64 1, .int .i64 3]] w fun e w' => e = .returned (.tuple #[.agg #[.int .i64 1, .int .i64 6], .int .i64 0]) ∧ Ext w w' := by
  have := c_Sub ⟨1, 2⟩ ⟨1, 3⟩ ⟨(by unfold InI64; decide), (by unfold InI64; decide)⟩ ⟨(by unfold InI64; decide), (by unfold InI64; decide)⟩ w
  rw [show opR (fun p q => answer (p - q)) ⟨1, 2⟩ ⟨1, 3⟩ = (⟨1, 6⟩, 0) by decide +kernel] at this
  exact this
theorem x_mul (w : World) : Calls Tryd.prog 22 #[.agg #[.int .i64 2, .int .i64 3], .agg #[.int .i64 3, .int .i64 4]] w fun e w' => e = .returned (.tuple #[.agg #[.int .i64 1, .int .i64 2], .int .i64 0]) ∧ Ext w w' := by
  have := c_Mul ⟨2, 3⟩ ⟨3, 4⟩ ⟨(by unfold InI64; decide), (by unfold InI64; decide)⟩ ⟨(by unfold InI64; decide), (by unfold InI64; decide)⟩ w
  rw [show opR (fun p q => answer (p * q)) ⟨2, 3⟩ ⟨3, 4⟩ = (⟨1, 2⟩, 0) by decide +kernel] at this
  exact this
theorem x_div (w : World) : Calls Tryd.prog 23 #[.agg #[.int .i64 1, .int .i64 1], .agg #[.int .i64 0, .int .i64 1]] w fun e w' => e = .returned (.tuple #[.agg #[.int .i64 0, .int .i64 0], .int .i64 10]) ∧ Ext w w' := by
  have := c_Div ⟨1, 1⟩ ⟨0, 1⟩ ⟨(by unfold InI64; decide), (by unfold InI64; decide)⟩ ⟨(by unfold InI64; decide), (by unfold InI64; decide)⟩ w
  rw [show opR quotR ⟨1, 1⟩ ⟨0, 1⟩ = (⟨0, 0⟩, 10) by decide +kernel] at this
  exact this
theorem x_add (w : World) : Calls Tryd.prog 26 #[.agg #[.int .i64 4611686018427387903, .int .i64 1], .agg #[.int .i64 1, .int .i64 1]] w fun e w' => e = .returned (.tuple #[.agg #[.int .i64 0, .int .i64 0], .int .i64 4]) ∧ Ext w w' := by
  have := c_Add ⟨4611686018427387903, 1⟩ ⟨1, 1⟩ ⟨(by unfold InI64; decide), (by unfold InI64; decide)⟩ ⟨(by unfold InI64; decide), (by unfold InI64; decide)⟩ w
  rw [show opR (fun p q => answer (p + q)) ⟨4611686018427387903, 1⟩ ⟨1, 1⟩ = (⟨0, 0⟩, 4) by decide +kernel] at this
  exact this
theorem x_mul2 (w : World) : Calls Tryd.prog 22 #[.agg #[.int .i64 1, .int .i64 4611686018427387903], .agg #[.int .i64 1, .int .i64 2]] w fun e w' => e = .returned (.tuple #[.agg #[.int .i64 0, .int .i64 0], .int .i64 4]) ∧ Ext w w' := by
  have := c_Mul ⟨1, 4611686018427387903⟩ ⟨1, 2⟩ ⟨(by unfold InI64; decide), (by unfold InI64; decide)⟩ ⟨(by unfold InI64; decide), (by unfold InI64; decide)⟩ w
  rw [show opR (fun p q => answer (p * q)) ⟨1, 4611686018427387903⟩ ⟨1, 2⟩ = (⟨0, 0⟩, 4) by decide +kernel] at this
  exact this
theorem x_cmp (w : World) : Calls Tryd.prog 27 #[.agg #[.int .i64 (-1), .int .i64 2], .agg #[.int .i64 (-1), .int .i64 3]] w fun e w' => e = .returned (.tuple #[.int .i64 (-1), .int .i64 0]) ∧ Ext w w' := by
  have := c_Compare ⟨(-1), 2⟩ ⟨(-1), 3⟩ ⟨(by unfold InI64; decide), (by unfold InI64; decide)⟩ ⟨(by unfold InI64; decide), (by unfold InI64; decide)⟩ w
  rw [show compareR ⟨(-1), 2⟩ ⟨(-1), 3⟩ = (-1, 0) by decide +kernel] at this
  exact this
theorem x_ceil1 (w : World) : Calls Tryd.prog 28 #[.agg #[.int .i64 (-7), .int .i64 2]] w fun e w' => e = .returned (.tuple #[.int .i64 (-3), .int .i64 0]) ∧ Ext w w' := by
  have := c_Ceil ⟨(-7), 2⟩ ⟨(by unfold InI64; decide), (by unfold InI64; decide)⟩ w
  rw [show ceilR ⟨(-7), 2⟩ = ((-3), 0) by decide +kernel] at this
  exact this
theorem x_floor (w : World) : Calls Tryd.prog 29 #[.agg #[.int .i64 4, .int .i64 1]] w fun e w' => e = .returned (.tuple #[.int .i64 4, .int .i64 0]) ∧ Ext w w' := by
  have := c_Floor ⟨4, 1⟩ ⟨(by unfold InI64; decide), (by unfold InI64; decide)⟩ w
  rw [show floorR ⟨4, 1⟩ = (4, 0) by decide +kernel] at this
  exact this
theorem x_ceil2 (w : World) : Calls Tryd.prog 28 #[.agg #[.int .i64 4, .int .i64 1]] w fun e w' => e = .returned (.tuple #[.int .i64 4, .int .i64 0]) ∧ Ext w w' := by
  have := c_Ceil ⟨4, 1⟩ ⟨(by unfold InI64; decide), (by unfold InI64; decide)⟩ w
  rw [show ceilR ⟨4, 1⟩ = (4, 0) by decide +kernel] at this
  exact this
theorem x_text (w : World) (hP : Pow w) : Calls Tryd.prog 17 #[.agg #[.int .i64 5, .int .i64 1]] w fun e w' => e = .returned (.tuple #[.string ⟨#[53]⟩, .int .i64 0]) ∧ Ext w w' := by
  have := c_Text ⟨5, 1⟩ ⟨(by unfold InI64; decide), (by unfold InI64; decide)⟩ w hP
  rw [show textR ⟨5, 1⟩ = (⟨#[53]⟩, 0) from text_small 5 (by omega)] at this
  exact this
theorem x_dsp1 (w : World) : Calls Tryd.prog 30 #[.agg #[.int .i64 1, .int .i64 1, .int .i64 2, .int .i64 1], .agg #[.int .i64 (-4), .int .i64 1, .int .i64 (-2), .int .i64 1]] w fun e w' => e = .returned (.tuple #[.agg #[.int .i64 (-1), .int .i64 1, .int .i64 (-1), .int .i64 4], .int .i64 0]) ∧ Ext w w' := by
  have := c_DivSpans ⟨⟨1, 1⟩, ⟨2, 1⟩⟩ ⟨⟨(-4), 1⟩, ⟨(-2), 1⟩⟩ ⟨⟨(by unfold InI64; decide), (by unfold InI64; decide)⟩, ⟨(by unfold InI64; decide), (by unfold InI64; decide)⟩⟩ ⟨⟨(by unfold InI64; decide), (by unfold InI64; decide)⟩, ⟨(by unfold InI64; decide), (by unfold InI64; decide)⟩⟩ w
  rw [show divSpanR ⟨⟨1, 1⟩, ⟨2, 1⟩⟩ ⟨⟨(-4), 1⟩, ⟨(-2), 1⟩⟩ = (some ((-1 : Rat), mkRat (-1) 4), 0) by decide +kernel] at this
  exact this
theorem x_dsp2 (w : World) : Calls Tryd.prog 30 #[.agg #[.int .i64 1, .int .i64 1, .int .i64 2, .int .i64 1], .agg #[.int .i64 0, .int .i64 1, .int .i64 1, .int .i64 1]] w fun e w' => e = .returned (.tuple #[.agg #[.int .i64 0, .int .i64 0, .int .i64 0, .int .i64 0], .int .i64 10]) ∧ Ext w w' := by
  have := c_DivSpans ⟨⟨1, 1⟩, ⟨2, 1⟩⟩ ⟨⟨0, 1⟩, ⟨1, 1⟩⟩ ⟨⟨(by unfold InI64; decide), (by unfold InI64; decide)⟩, ⟨(by unfold InI64; decide), (by unfold InI64; decide)⟩⟩ ⟨⟨(by unfold InI64; decide), (by unfold InI64; decide)⟩, ⟨(by unfold InI64; decide), (by unfold InI64; decide)⟩⟩ w
  rw [show divSpanR ⟨⟨1, 1⟩, ⟨2, 1⟩⟩ ⟨⟨0, 1⟩, ⟨1, 1⟩⟩ = (none, 10) by decide +kernel] at this
  exact this
theorem x_ssp (w : World) : Calls Tryd.prog 32 #[.agg #[.int .i64 1, .int .i64 1, .int .i64 2, .int .i64 1], .agg #[.int .i64 0, .int .i64 1, .int .i64 3, .int .i64 1]] w fun e w' => e = .returned (.tuple #[.agg #[.int .i64 (-2), .int .i64 1, .int .i64 2, .int .i64 1], .int .i64 0]) ∧ Ext w w' := by
  have := c_SubSpans ⟨⟨1, 1⟩, ⟨2, 1⟩⟩ ⟨⟨0, 1⟩, ⟨3, 1⟩⟩ ⟨⟨(by unfold InI64; decide), (by unfold InI64; decide)⟩, ⟨(by unfold InI64; decide), (by unfold InI64; decide)⟩⟩ ⟨⟨(by unfold InI64; decide), (by unfold InI64; decide)⟩, ⟨(by unfold InI64; decide), (by unfold InI64; decide)⟩⟩ w
  rw [show spanR (fun p q => answer (p - q)) pairsSub ⟨⟨1, 1⟩, ⟨2, 1⟩⟩ ⟨⟨0, 1⟩, ⟨3, 1⟩⟩ = (some ((-2 : Rat), (2 : Rat)), 0) by decide +kernel] at this
  exact this
theorem x_meet1 (w : World) : Calls Tryd.prog 33 #[.agg #[.int .i64 1, .int .i64 1, .int .i64 3, .int .i64 1], .agg #[.int .i64 2, .int .i64 1, .int .i64 5, .int .i64 1]] w fun e w' => e = .returned (.tuple #[.agg #[.int .i64 2, .int .i64 1, .int .i64 3, .int .i64 1], .int .i64 0]) ∧ Ext w w' := by
  have := c_Meet ⟨⟨1, 1⟩, ⟨3, 1⟩⟩ ⟨⟨2, 1⟩, ⟨5, 1⟩⟩ ⟨⟨(by unfold InI64; decide), (by unfold InI64; decide)⟩, ⟨(by unfold InI64; decide), (by unfold InI64; decide)⟩⟩ ⟨⟨(by unfold InI64; decide), (by unfold InI64; decide)⟩, ⟨(by unfold InI64; decide), (by unfold InI64; decide)⟩⟩ w
  rw [show meetR ⟨⟨1, 1⟩, ⟨3, 1⟩⟩ ⟨⟨2, 1⟩, ⟨5, 1⟩⟩ = (some ((2 : Rat), (3 : Rat)), 0) by decide +kernel] at this
  exact this
theorem x_meet2 (w : World) : Calls Tryd.prog 33 #[.agg #[.int .i64 1, .int .i64 1, .int .i64 2, .int .i64 1], .agg #[.int .i64 3, .int .i64 1, .int .i64 4, .int .i64 1]] w fun e w' => e = .returned (.tuple #[.agg #[.int .i64 0, .int .i64 0, .int .i64 0, .int .i64 0], .int .i64 6]) ∧ Ext w w' := by
  have := c_Meet ⟨⟨1, 1⟩, ⟨2, 1⟩⟩ ⟨⟨3, 1⟩, ⟨4, 1⟩⟩ ⟨⟨(by unfold InI64; decide), (by unfold InI64; decide)⟩, ⟨(by unfold InI64; decide), (by unfold InI64; decide)⟩⟩ ⟨⟨(by unfold InI64; decide), (by unfold InI64; decide)⟩, ⟨(by unfold InI64; decide), (by unfold InI64; decide)⟩⟩ w
  rw [show meetR ⟨⟨1, 1⟩, ⟨2, 1⟩⟩ ⟨⟨3, 1⟩, ⟨4, 1⟩⟩ = (none, 6) by decide +kernel] at this
  exact this
theorem x_join (w : World) : Calls Tryd.prog 34 #[.agg #[.int .i64 1, .int .i64 1, .int .i64 2, .int .i64 1], .agg #[.int .i64 3, .int .i64 1, .int .i64 4, .int .i64 1]] w fun e w' => e = .returned (.tuple #[.agg #[.int .i64 1, .int .i64 1, .int .i64 4, .int .i64 1], .int .i64 0]) ∧ Ext w w' := by
  have := c_Join ⟨⟨1, 1⟩, ⟨2, 1⟩⟩ ⟨⟨3, 1⟩, ⟨4, 1⟩⟩ ⟨⟨(by unfold InI64; decide), (by unfold InI64; decide)⟩, ⟨(by unfold InI64; decide), (by unfold InI64; decide)⟩⟩ ⟨⟨(by unfold InI64; decide), (by unfold InI64; decide)⟩, ⟨(by unfold InI64; decide), (by unfold InI64; decide)⟩⟩ w
  rw [show joinR ⟨⟨1, 1⟩, ⟨2, 1⟩⟩ ⟨⟨3, 1⟩, ⟨4, 1⟩⟩ = (some ((1 : Rat), (4 : Rat)), 0) by decide +kernel] at this
  exact this
theorem x_root1 (w : World) : Calls Tryd.prog 36 #[.agg #[.int .i64 9, .int .i64 4], .int .i64 2] w fun e w' => e = .returned (.tuple #[.agg #[.int .i64 3, .int .i64 2, .int .i64 3, .int .i64 2], .int .i64 0]) ∧ Ext w w' := by
  have := c_Root ⟨9, 4⟩ 2 ⟨(by unfold InI64; decide), (by unfold InI64; decide)⟩ (by unfold InI64; omega) w
  rw [show rootAll ⟨9, 4⟩ 2 = (some (mkRat 3 2, mkRat 3 2), 0) by
    unfold rootAll
    have e : Frac.val ⟨9, 4⟩ = (mkRat 9 4 : Rat) := by decide +kernel
    rw [if_pos (by decide +kernel), e, if_neg (by decide +kernel)]
    unfold rootR
    have e1 : rootQ (mkRat 9 4) (Int.toNat 2) = 9 := by decide +kernel
    rw [e1, show isq 9 = 3 from (isq_eq (by omega) (by omega)).symm, if_pos (by decide +kernel)]
    decide +kernel] at this
  exact this
theorem x_root2 (w : World) : Calls Tryd.prog 36 #[.agg #[.int .i64 9, .int .i64 4], .int .i64 1] w fun e w' => e = .returned (.tuple #[.agg #[.int .i64 1, .int .i64 1, .int .i64 2, .int .i64 1], .int .i64 0]) ∧ Ext w w' := by
  have := c_Root ⟨9, 4⟩ 1 ⟨(by unfold InI64; decide), (by unfold InI64; decide)⟩ (by unfold InI64; omega) w
  rw [show rootAll ⟨9, 4⟩ 1 = (some ((1 : Rat), (2 : Rat)), 0) by
    unfold rootAll
    have e : Frac.val ⟨9, 4⟩ = (mkRat 9 4 : Rat) := by decide +kernel
    rw [if_pos (by decide +kernel), e, if_neg (by decide +kernel)]
    unfold rootR
    have e1 : rootQ (mkRat 9 4) (Int.toNat 1) = 2 := by decide +kernel
    rw [e1, show isq 2 = 1 from (isq_eq (by omega) (by omega)).symm, if_neg (by decide +kernel)]
    decide +kernel] at this
  exact this
theorem x_root3 (w : World) : Calls Tryd.prog 36 #[.agg #[.int .i64 0, .int .i64 1], .int .i64 7] w fun e w' => e = .returned (.tuple #[.agg #[.int .i64 0, .int .i64 1, .int .i64 0, .int .i64 1], .int .i64 0]) ∧ Ext w w' := by
  have := c_Root ⟨0, 1⟩ 7 ⟨(by unfold InI64; decide), (by unfold InI64; decide)⟩ (by unfold InI64; omega) w
  rw [show rootAll ⟨0, 1⟩ 7 = (some ((0 : Rat), (0 : Rat)), 0) by
    unfold rootAll
    have e : Frac.val ⟨0, 1⟩ = (0 : Rat) := by decide +kernel
    rw [if_pos (by decide +kernel), e, if_neg (by decide +kernel)]
    unfold rootR
    have e1 : rootQ (0) (Int.toNat 7) = 0 := by decide +kernel
    rw [e1, show isq 0 = 0 from (isq_eq (by omega) (by omega)).symm, if_pos (by decide +kernel)]
    decide +kernel] at this
  exact this
theorem x_parse0 (w : World) (hL : LibV w) (hP : Pow w) : Calls Tryd.prog 19 #[.string ⟨#[50, 47, 52]⟩] w fun e w' => e = .returned (.tuple #[.agg #[.int .i64 0, .int .i64 0], .int .i64 11]) ∧ Ext w w' := by
  have := c_Parse ⟨#[50, 47, 52]⟩ (by decide) w hL hP
  rw [parse_bad (s := ⟨#[50, 47, 52]⟩) (n := 2) (d := 4) (by decide +kernel) (by decide +kernel) (by
    rintro ⟨h, -⟩
    rw [show textR ⟨2, 4⟩ = (⟨#[]⟩, 8) from if_neg (by decide +kernel)] at h
    exact absurd h (by decide))] at this
  exact this
theorem x_parse1 (w : World) (hL : LibV w) (hP : Pow w) : Calls Tryd.prog 19 #[.string ⟨#[51, 47, 49]⟩] w fun e w' => e = .returned (.tuple #[.agg #[.int .i64 0, .int .i64 0], .int .i64 11]) ∧ Ext w w' := by
  have := c_Parse ⟨#[51, 47, 49]⟩ (by decide) w hL hP
  rw [parse_bad (s := ⟨#[51, 47, 49]⟩) (n := 3) (d := 1) (by decide +kernel) (by decide +kernel) (by
    rintro ⟨-, h⟩
    rw [show textR ⟨3, 1⟩ = (⟨#[51]⟩, 0) from text_small 3 (by omega)] at h
    exact absurd h (by decide))] at this
  exact this
theorem x_parse2 (w : World) (hL : LibV w) (hP : Pow w) : Calls Tryd.prog 19 #[.string ⟨#[45, 48]⟩] w fun e w' => e = .returned (.tuple #[.agg #[.int .i64 0, .int .i64 0], .int .i64 11]) ∧ Ext w w' := by
  have := c_Parse ⟨#[45, 48]⟩ (by decide) w hL hP
  rw [parse_bad (s := ⟨#[45, 48]⟩) (n := 0) (d := 1) (by decide +kernel) (by decide +kernel) (by
    rintro ⟨-, h⟩
    rw [show textR ⟨0, 1⟩ = (⟨#[48]⟩, 0) from text_small 0 (by omega)] at h
    exact absurd h (by decide))] at this
  exact this
theorem x_parse3 (w : World) (hL : LibV w) (hP : Pow w) : Calls Tryd.prog 19 #[.string ⟨#[43, 49]⟩] w fun e w' => e = .returned (.tuple #[.agg #[.int .i64 0, .int .i64 0], .int .i64 11]) ∧ Ext w w' := by
  have := c_Parse ⟨#[43, 49]⟩ (by decide) w hL hP
  rw [parse_bad (s := ⟨#[43, 49]⟩) (n := 1) (d := 1) (by decide +kernel) (by decide +kernel) (by
    rintro ⟨-, h⟩
    rw [show textR ⟨1, 1⟩ = (⟨#[49]⟩, 0) from text_small 1 (by omega)] at h
    exact absurd h (by decide))] at this
  exact this
theorem x_parse4 (w : World) (hL : LibV w) (hP : Pow w) : Calls Tryd.prog 19 #[.string ⟨#[49, 47, 45, 50]⟩] w fun e w' => e = .returned (.tuple #[.agg #[.int .i64 0, .int .i64 0], .int .i64 11]) ∧ Ext w w' := by
  have := c_Parse ⟨#[49, 47, 45, 50]⟩ (by decide) w hL hP
  rw [parse_bad (s := ⟨#[49, 47, 45, 50]⟩) (n := 1) (d := (-2)) (by decide +kernel) (by decide +kernel) (by
    rintro ⟨h, -⟩
    rw [show textR ⟨1, (-2)⟩ = (⟨#[]⟩, 8) from if_neg (by decide +kernel)] at h
    exact absurd h (by decide))] at this
  exact this
end Go.Proofs.YtodoimeiklilhaaDoor
