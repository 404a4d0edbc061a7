/- The walk of 'ExactMade', and what it comes to. -/
import Derived.Test.YtodoimeiklilhaaDoorAlive
set_option linter.unusedVariables false
set_option linter.unusedSimpArgs false
namespace Go.Proofs.YtodoimeiklilhaaDoor
open Go.RowKit Go.Sort

theorem fits_divInt {num den : Int} (h1 : -1073741824 ≤ num) (h2 : num ≤ 1073741824) (h3 : -1073741824 ≤ den) (h4 : den ≤ 1073741824) : Fits (Rat.divInt num den) := by
  unfold Fits maxP
  rw [Rat.num_divInt, Rat.den_divInt]
  have a1 : (den.sign * num / ((den.gcd num : Nat) : Int)).natAbs ≤ (den.sign * num).natAbs := Int.natAbs_ediv_le_natAbs _ _
  have a2 : (den.sign * num).natAbs ≤ num.natAbs := by
    rw [Int.natAbs_mul]
    have : den.sign.natAbs ≤ 1 := by rcases Int.lt_trichotomy den 0 with h | h | h <;> simp [Int.sign_eq_neg_one_of_neg, Int.sign_eq_one_of_pos, h]
    calc den.sign.natAbs * num.natAbs ≤ 1 * num.natAbs := Nat.mul_le_mul_right _ this
      _ = num.natAbs := Nat.one_mul _
  have a3 : den.natAbs / den.gcd num ≤ den.natAbs := Nat.div_le_self _ _
  generalize den.sign * num / ((den.gcd num : Nat) : Int) = A at *
  generalize den.natAbs / den.gcd num = B at *
  split <;> omega
theorem cross {num den : Int} (h : den ≠ 0) : nm (Rat.divInt num den) * den = num * dn (Rat.divInt num den) := by
  have hd := (Rat.divInt num den).den_pos
  have := Rat.num_divInt_den (Rat.divInt num den)
  have e : ((Rat.divInt num den).den : Int) ≠ 0 := by omega
  exact (Rat.divInt_eq_divInt_iff e h).1 this
theorem small_mul {a b : Int} (h1 : -1073741824 ≤ a) (h2 : a ≤ 1073741824) (h3 : -1073741824 ≤ b) (h4 : b ≤ 1073741824) : wrap64 (a * b) = a * b := by
  have : (a * b).natAbs ≤ 1073741824 * 1073741824 := by rw [Int.natAbs_mul]; exact Nat.mul_le_mul (by omega) (by omega)
  exact IntWalk.wrap64_in _ (by omega)
set_option maxRecDepth 100000 in
set_option maxHeartbeats 2000000 in
theorem made_zero (num den n d : Int) (w : World) (hP : Pow w) (hi : InI64 num) (hj : InI64 den) (hz : den = 0) :
    Calls Tryd.prog 7 #[.int .i64 num, .int .i64 den, .int .i64 n, .int .i64 d] w fun e w' => e = .returned (.bool true) ∧ Ext w w' := by
  have HP := Lib.hid hP
  have t0 : (den == 0) = true := by simpa using hz
  have CM := Lib.hid (fun w => (show Calls Tryd.prog 20 #[.int .i64 num, .int .i64 den] w fun e w' => e = .returned (.tuple #[.agg #[.int .i64 0, .int .i64 0], .int .i64 10]) ∧ Ext w w' from by
    have := c_Make num den hi hj w
    rw [show makeR num den = (⟨0, 0⟩, 10) from if_pos hz] at this
    exact this))
  clear hP hi hj hz
  go_enter Tryd.func7, Tryd.ntmps7
  go_wp2_with (first | (go_at_call 16; refine (c_alive _ HP.out).mono ?_; rintro e w0 ⟨rfl, hb0⟩) | (go_at_call 20; refine (CM.out _).mono ?_; rintro e w1 ⟨rfl, hb1⟩; have hc1 := hb1.cell; have hz1 := hb1.size))
  go_ret
  exact ⟨ret_bool rfl, (by repeat (first | exact Ext.refl _ | assumption | refine Ext.alloc ?_ _ | refine Ext.drewN ?_ _ | refine ext_grow ?_ _ _ | refine Ext.trans ?_ (by assumption)))⟩
set_option maxRecDepth 100000 in
set_option maxHeartbeats 2000000 in
theorem made_out0a (num den n d : Int) (w : World) (hP : Pow w) (hi : InI64 num) (hj : InI64 den) (h0 : den ≠ 0) (h_0 : num < -1073741824) (hf : Fits (Rat.divInt num den)) :
    Calls Tryd.prog 7 #[.int .i64 num, .int .i64 den, .int .i64 n, .int .i64 d] w fun e w' => e = .returned (.bool true) ∧ Ext w w' := by
  have HP := Lib.hid hP
  have t : (den == 0) = false := by simpa using h0
  have t0 : decide (num < -1073741824) = true := decide_eq_true (by omega)
  obtain ⟨q, hq⟩ : ∃ q, Rat.divInt num den = q := ⟨_, rfl⟩
  have hfq : Fits q := hq ▸ hf
  have hmk : makeR num den = (fracOf q, 0) := by unfold makeR; rw [if_neg h0, hq]; unfold answer; rw [if_pos hfq]
  obtain ⟨x, hx⟩ : ∃ x, nm q = x := ⟨_, rfl⟩
  obtain ⟨y, hy⟩ : ∃ y, dn q = y := ⟨_, rfl⟩
  have CK := Lib.hid (fun w => (show Calls Tryd.prog 37 #[.agg #[.int .i64 x, .int .i64 y]] w fun e w' => e = .returned (.int .i64 0) ∧ Ext w w' from by
    have := c_Check (fracOf q) (wide_of hfq) w
    rw [show checkR (fracOf q) = 0 from if_pos (fracOf_ok hfq)] at this
    rw [← hx, ← hy]
    exact this))
  have CM := Lib.hid (fun w => (show Calls Tryd.prog 20 #[.int .i64 num, .int .i64 den] w fun e w' => e = .returned (.tuple #[.agg #[.int .i64 x, .int .i64 y], .int .i64 0]) ∧ Ext w w' from by
    have := c_Make num den hi hj w
    rw [hmk] at this
    rw [← hx, ← hy]
    exact this))
  clear hP hi hj h0 hf hq hfq hmk hx hy h_0
  go_enter Tryd.func7, Tryd.ntmps7
  go_wp2_with (first | (go_at_call 16; refine (c_alive _ HP.out).mono ?_; rintro e w0 ⟨rfl, hb0⟩) | (go_at_call 20; refine (CM.out _).mono ?_; rintro e w1 ⟨rfl, hb1⟩; have hc1 := hb1.cell; have hz1 := hb1.size) | (go_at_call 37; refine (CK.out _).mono ?_; rintro e w2 ⟨rfl, hb2⟩))
  go_ret
  exact ⟨ret_bool rfl, (by repeat (first | exact Ext.refl _ | assumption | refine Ext.alloc ?_ _ | refine Ext.drewN ?_ _ | refine ext_grow ?_ _ _ | refine Ext.trans ?_ (by assumption)))⟩
set_option maxRecDepth 100000 in
set_option maxHeartbeats 2000000 in
theorem made_out0b (num den n d : Int) (w : World) (hP : Pow w) (hi : InI64 num) (hj : InI64 den) (h0 : den ≠ 0) (h_0 : num < -1073741824) (hf : ¬ Fits (Rat.divInt num den)) :
    Calls Tryd.prog 7 #[.int .i64 num, .int .i64 den, .int .i64 n, .int .i64 d] w fun e w' => e = .returned (.bool true) ∧ Ext w w' := by
  have HP := Lib.hid hP
  have t : (den == 0) = false := by simpa using h0
  have t0 : decide (num < -1073741824) = true := decide_eq_true (by omega)
  have hmk : makeR num den = (⟨0, 0⟩, 4) := by unfold makeR; rw [if_neg h0]; unfold answer; rw [if_neg hf]
  have CM := Lib.hid (fun w => (show Calls Tryd.prog 20 #[.int .i64 num, .int .i64 den] w fun e w' => e = .returned (.tuple #[.agg #[.int .i64 0, .int .i64 0], .int .i64 4]) ∧ Ext w w' from by
    have := c_Make num den hi hj w
    rw [hmk] at this
    exact this))
  clear hP hi hj h0 hf hmk h_0
  go_enter Tryd.func7, Tryd.ntmps7
  go_wp2_with (first | (go_at_call 16; refine (c_alive _ HP.out).mono ?_; rintro e w0 ⟨rfl, hb0⟩) | (go_at_call 20; refine (CM.out _).mono ?_; rintro e w1 ⟨rfl, hb1⟩; have hc1 := hb1.cell; have hz1 := hb1.size))
  go_ret
  exact ⟨ret_bool rfl, (by repeat (first | exact Ext.refl _ | assumption | refine Ext.alloc ?_ _ | refine Ext.drewN ?_ _ | refine ext_grow ?_ _ _ | refine Ext.trans ?_ (by assumption)))⟩
set_option maxRecDepth 100000 in
set_option maxHeartbeats 2000000 in
theorem made_out1a (num den n d : Int) (w : World) (hP : Pow w) (hi : InI64 num) (hj : InI64 den) (h0 : den ≠ 0) (h_0 : ¬ num < -1073741824) (h_1 : 1073741824 < num) (hf : Fits (Rat.divInt num den)) :
    Calls Tryd.prog 7 #[.int .i64 num, .int .i64 den, .int .i64 n, .int .i64 d] w fun e w' => e = .returned (.bool true) ∧ Ext w w' := by
  have HP := Lib.hid hP
  have t : (den == 0) = false := by simpa using h0
  have t0 : decide (num < -1073741824) = false := decide_eq_false (by omega)
  have t1 : decide (1073741824 < num) = true := decide_eq_true (by omega)
  obtain ⟨q, hq⟩ : ∃ q, Rat.divInt num den = q := ⟨_, rfl⟩
  have hfq : Fits q := hq ▸ hf
  have hmk : makeR num den = (fracOf q, 0) := by unfold makeR; rw [if_neg h0, hq]; unfold answer; rw [if_pos hfq]
  obtain ⟨x, hx⟩ : ∃ x, nm q = x := ⟨_, rfl⟩
  obtain ⟨y, hy⟩ : ∃ y, dn q = y := ⟨_, rfl⟩
  have CK := Lib.hid (fun w => (show Calls Tryd.prog 37 #[.agg #[.int .i64 x, .int .i64 y]] w fun e w' => e = .returned (.int .i64 0) ∧ Ext w w' from by
    have := c_Check (fracOf q) (wide_of hfq) w
    rw [show checkR (fracOf q) = 0 from if_pos (fracOf_ok hfq)] at this
    rw [← hx, ← hy]
    exact this))
  have CM := Lib.hid (fun w => (show Calls Tryd.prog 20 #[.int .i64 num, .int .i64 den] w fun e w' => e = .returned (.tuple #[.agg #[.int .i64 x, .int .i64 y], .int .i64 0]) ∧ Ext w w' from by
    have := c_Make num den hi hj w
    rw [hmk] at this
    rw [← hx, ← hy]
    exact this))
  clear hP hi hj h0 hf hq hfq hmk hx hy h_0 h_1
  go_enter Tryd.func7, Tryd.ntmps7
  go_wp2_with (first | (go_at_call 16; refine (c_alive _ HP.out).mono ?_; rintro e w0 ⟨rfl, hb0⟩) | (go_at_call 20; refine (CM.out _).mono ?_; rintro e w1 ⟨rfl, hb1⟩; have hc1 := hb1.cell; have hz1 := hb1.size) | (go_at_call 37; refine (CK.out _).mono ?_; rintro e w2 ⟨rfl, hb2⟩))
  go_ret
  exact ⟨ret_bool rfl, (by repeat (first | exact Ext.refl _ | assumption | refine Ext.alloc ?_ _ | refine Ext.drewN ?_ _ | refine ext_grow ?_ _ _ | refine Ext.trans ?_ (by assumption)))⟩
set_option maxRecDepth 100000 in
set_option maxHeartbeats 2000000 in
theorem made_out1b (num den n d : Int) (w : World) (hP : Pow w) (hi : InI64 num) (hj : InI64 den) (h0 : den ≠ 0) (h_0 : ¬ num < -1073741824) (h_1 : 1073741824 < num) (hf : ¬ Fits (Rat.divInt num den)) :
    Calls Tryd.prog 7 #[.int .i64 num, .int .i64 den, .int .i64 n, .int .i64 d] w fun e w' => e = .returned (.bool true) ∧ Ext w w' := by
  have HP := Lib.hid hP
  have t : (den == 0) = false := by simpa using h0
  have t0 : decide (num < -1073741824) = false := decide_eq_false (by omega)
  have t1 : decide (1073741824 < num) = true := decide_eq_true (by omega)
  have hmk : makeR num den = (⟨0, 0⟩, 4) := by unfold makeR; rw [if_neg h0]; unfold answer; rw [if_neg hf]
  have CM := Lib.hid (fun w => (show Calls Tryd.prog 20 #[.int .i64 num, .int .i64 den] w fun e w' => e = .returned (.tuple #[.agg #[.int .i64 0, .int .i64 0], .int .i64 4]) ∧ Ext w w' from by
    have := c_Make num den hi hj w
    rw [hmk] at this
    exact this))
  clear hP hi hj h0 hf hmk h_0 h_1
  go_enter Tryd.func7, Tryd.ntmps7
  go_wp2_with (first | (go_at_call 16; refine (c_alive _ HP.out).mono ?_; rintro e w0 ⟨rfl, hb0⟩) | (go_at_call 20; refine (CM.out _).mono ?_; rintro e w1 ⟨rfl, hb1⟩; have hc1 := hb1.cell; have hz1 := hb1.size))
  go_ret
  exact ⟨ret_bool rfl, (by repeat (first | exact Ext.refl _ | assumption | refine Ext.alloc ?_ _ | refine Ext.drewN ?_ _ | refine ext_grow ?_ _ _ | refine Ext.trans ?_ (by assumption)))⟩
set_option maxRecDepth 100000 in
set_option maxHeartbeats 2000000 in
theorem made_out2a (num den n d : Int) (w : World) (hP : Pow w) (hi : InI64 num) (hj : InI64 den) (h0 : den ≠ 0) (h_0 : ¬ num < -1073741824) (h_1 : ¬ 1073741824 < num) (h_2 : den < -1073741824) (hf : Fits (Rat.divInt num den)) :
    Calls Tryd.prog 7 #[.int .i64 num, .int .i64 den, .int .i64 n, .int .i64 d] w fun e w' => e = .returned (.bool true) ∧ Ext w w' := by
  have HP := Lib.hid hP
  have t : (den == 0) = false := by simpa using h0
  have t0 : decide (num < -1073741824) = false := decide_eq_false (by omega)
  have t1 : decide (1073741824 < num) = false := decide_eq_false (by omega)
  have t2 : decide (den < -1073741824) = true := decide_eq_true (by omega)
  obtain ⟨q, hq⟩ : ∃ q, Rat.divInt num den = q := ⟨_, rfl⟩
  have hfq : Fits q := hq ▸ hf
  have hmk : makeR num den = (fracOf q, 0) := by unfold makeR; rw [if_neg h0, hq]; unfold answer; rw [if_pos hfq]
  obtain ⟨x, hx⟩ : ∃ x, nm q = x := ⟨_, rfl⟩
  obtain ⟨y, hy⟩ : ∃ y, dn q = y := ⟨_, rfl⟩
  have CK := Lib.hid (fun w => (show Calls Tryd.prog 37 #[.agg #[.int .i64 x, .int .i64 y]] w fun e w' => e = .returned (.int .i64 0) ∧ Ext w w' from by
    have := c_Check (fracOf q) (wide_of hfq) w
    rw [show checkR (fracOf q) = 0 from if_pos (fracOf_ok hfq)] at this
    rw [← hx, ← hy]
    exact this))
  have CM := Lib.hid (fun w => (show Calls Tryd.prog 20 #[.int .i64 num, .int .i64 den] w fun e w' => e = .returned (.tuple #[.agg #[.int .i64 x, .int .i64 y], .int .i64 0]) ∧ Ext w w' from by
    have := c_Make num den hi hj w
    rw [hmk] at this
    rw [← hx, ← hy]
    exact this))
  clear hP hi hj h0 hf hq hfq hmk hx hy h_0 h_1 h_2
  go_enter Tryd.func7, Tryd.ntmps7
  go_wp2_with (first | (go_at_call 16; refine (c_alive _ HP.out).mono ?_; rintro e w0 ⟨rfl, hb0⟩) | (go_at_call 20; refine (CM.out _).mono ?_; rintro e w1 ⟨rfl, hb1⟩; have hc1 := hb1.cell; have hz1 := hb1.size) | (go_at_call 37; refine (CK.out _).mono ?_; rintro e w2 ⟨rfl, hb2⟩))
  go_ret
  exact ⟨ret_bool rfl, (by repeat (first | exact Ext.refl _ | assumption | refine Ext.alloc ?_ _ | refine Ext.drewN ?_ _ | refine ext_grow ?_ _ _ | refine Ext.trans ?_ (by assumption)))⟩
set_option maxRecDepth 100000 in
set_option maxHeartbeats 2000000 in
theorem made_out2b (num den n d : Int) (w : World) (hP : Pow w) (hi : InI64 num) (hj : InI64 den) (h0 : den ≠ 0) (h_0 : ¬ num < -1073741824) (h_1 : ¬ 1073741824 < num) (h_2 : den < -1073741824) (hf : ¬ Fits (Rat.divInt num den)) :
    Calls Tryd.prog 7 #[.int .i64 num, .int .i64 den, .int .i64 n, .int .i64 d] w fun e w' => e = .returned (.bool true) ∧ Ext w w' := by
  have HP := Lib.hid hP
  have t : (den == 0) = false := by simpa using h0
  have t0 : decide (num < -1073741824) = false := decide_eq_false (by omega)
  have t1 : decide (1073741824 < num) = false := decide_eq_false (by omega)
  have t2 : decide (den < -1073741824) = true := decide_eq_true (by omega)
  have hmk : makeR num den = (⟨0, 0⟩, 4) := by unfold makeR; rw [if_neg h0]; unfold answer; rw [if_neg hf]
  have CM := Lib.hid (fun w => (show Calls Tryd.prog 20 #[.int .i64 num, .int .i64 den] w fun e w' => e = .returned (.tuple #[.agg #[.int .i64 0, .int .i64 0], .int .i64 4]) ∧ Ext w w' from by
    have := c_Make num den hi hj w
    rw [hmk] at this
    exact this))
  clear hP hi hj h0 hf hmk h_0 h_1 h_2
  go_enter Tryd.func7, Tryd.ntmps7
  go_wp2_with (first | (go_at_call 16; refine (c_alive _ HP.out).mono ?_; rintro e w0 ⟨rfl, hb0⟩) | (go_at_call 20; refine (CM.out _).mono ?_; rintro e w1 ⟨rfl, hb1⟩; have hc1 := hb1.cell; have hz1 := hb1.size))
  go_ret
  exact ⟨ret_bool rfl, (by repeat (first | exact Ext.refl _ | assumption | refine Ext.alloc ?_ _ | refine Ext.drewN ?_ _ | refine ext_grow ?_ _ _ | refine Ext.trans ?_ (by assumption)))⟩
set_option maxRecDepth 100000 in
set_option maxHeartbeats 2000000 in
theorem made_out3a (num den n d : Int) (w : World) (hP : Pow w) (hi : InI64 num) (hj : InI64 den) (h0 : den ≠ 0) (h_0 : ¬ num < -1073741824) (h_1 : ¬ 1073741824 < num) (h_2 : ¬ den < -1073741824) (h_3 : 1073741824 < den) (hf : Fits (Rat.divInt num den)) :
    Calls Tryd.prog 7 #[.int .i64 num, .int .i64 den, .int .i64 n, .int .i64 d] w fun e w' => e = .returned (.bool true) ∧ Ext w w' := by
  have HP := Lib.hid hP
  have t : (den == 0) = false := by simpa using h0
  have t0 : decide (num < -1073741824) = false := decide_eq_false (by omega)
  have t1 : decide (1073741824 < num) = false := decide_eq_false (by omega)
  have t2 : decide (den < -1073741824) = false := decide_eq_false (by omega)
  have t3 : decide (1073741824 < den) = true := decide_eq_true (by omega)
  obtain ⟨q, hq⟩ : ∃ q, Rat.divInt num den = q := ⟨_, rfl⟩
  have hfq : Fits q := hq ▸ hf
  have hmk : makeR num den = (fracOf q, 0) := by unfold makeR; rw [if_neg h0, hq]; unfold answer; rw [if_pos hfq]
  obtain ⟨x, hx⟩ : ∃ x, nm q = x := ⟨_, rfl⟩
  obtain ⟨y, hy⟩ : ∃ y, dn q = y := ⟨_, rfl⟩
  have CK := Lib.hid (fun w => (show Calls Tryd.prog 37 #[.agg #[.int .i64 x, .int .i64 y]] w fun e w' => e = .returned (.int .i64 0) ∧ Ext w w' from by
    have := c_Check (fracOf q) (wide_of hfq) w
    rw [show checkR (fracOf q) = 0 from if_pos (fracOf_ok hfq)] at this
    rw [← hx, ← hy]
    exact this))
  have CM := Lib.hid (fun w => (show Calls Tryd.prog 20 #[.int .i64 num, .int .i64 den] w fun e w' => e = .returned (.tuple #[.agg #[.int .i64 x, .int .i64 y], .int .i64 0]) ∧ Ext w w' from by
    have := c_Make num den hi hj w
    rw [hmk] at this
    rw [← hx, ← hy]
    exact this))
  clear hP hi hj h0 hf hq hfq hmk hx hy h_0 h_1 h_2 h_3
  go_enter Tryd.func7, Tryd.ntmps7
  go_wp2_with (first | (go_at_call 16; refine (c_alive _ HP.out).mono ?_; rintro e w0 ⟨rfl, hb0⟩) | (go_at_call 20; refine (CM.out _).mono ?_; rintro e w1 ⟨rfl, hb1⟩; have hc1 := hb1.cell; have hz1 := hb1.size) | (go_at_call 37; refine (CK.out _).mono ?_; rintro e w2 ⟨rfl, hb2⟩))
  go_ret
  exact ⟨ret_bool rfl, (by repeat (first | exact Ext.refl _ | assumption | refine Ext.alloc ?_ _ | refine Ext.drewN ?_ _ | refine ext_grow ?_ _ _ | refine Ext.trans ?_ (by assumption)))⟩
set_option maxRecDepth 100000 in
set_option maxHeartbeats 2000000 in
theorem made_out3b (num den n d : Int) (w : World) (hP : Pow w) (hi : InI64 num) (hj : InI64 den) (h0 : den ≠ 0) (h_0 : ¬ num < -1073741824) (h_1 : ¬ 1073741824 < num) (h_2 : ¬ den < -1073741824) (h_3 : 1073741824 < den) (hf : ¬ Fits (Rat.divInt num den)) :
    Calls Tryd.prog 7 #[.int .i64 num, .int .i64 den, .int .i64 n, .int .i64 d] w fun e w' => e = .returned (.bool true) ∧ Ext w w' := by
  have HP := Lib.hid hP
  have t : (den == 0) = false := by simpa using h0
  have t0 : decide (num < -1073741824) = false := decide_eq_false (by omega)
  have t1 : decide (1073741824 < num) = false := decide_eq_false (by omega)
  have t2 : decide (den < -1073741824) = false := decide_eq_false (by omega)
  have t3 : decide (1073741824 < den) = true := decide_eq_true (by omega)
  have hmk : makeR num den = (⟨0, 0⟩, 4) := by unfold makeR; rw [if_neg h0]; unfold answer; rw [if_neg hf]
  have CM := Lib.hid (fun w => (show Calls Tryd.prog 20 #[.int .i64 num, .int .i64 den] w fun e w' => e = .returned (.tuple #[.agg #[.int .i64 0, .int .i64 0], .int .i64 4]) ∧ Ext w w' from by
    have := c_Make num den hi hj w
    rw [hmk] at this
    exact this))
  clear hP hi hj h0 hf hmk h_0 h_1 h_2 h_3
  go_enter Tryd.func7, Tryd.ntmps7
  go_wp2_with (first | (go_at_call 16; refine (c_alive _ HP.out).mono ?_; rintro e w0 ⟨rfl, hb0⟩) | (go_at_call 20; refine (CM.out _).mono ?_; rintro e w1 ⟨rfl, hb1⟩; have hc1 := hb1.cell; have hz1 := hb1.size))
  go_ret
  exact ⟨ret_bool rfl, (by repeat (first | exact Ext.refl _ | assumption | refine Ext.alloc ?_ _ | refine Ext.drewN ?_ _ | refine ext_grow ?_ _ _ | refine Ext.trans ?_ (by assumption)))⟩
set_option maxRecDepth 100000 in
set_option maxHeartbeats 2000000 in
theorem made_out4a (num den n d : Int) (w : World) (hP : Pow w) (hi : InI64 num) (hj : InI64 den) (h0 : den ≠ 0) (h_0 : ¬ num < -1073741824) (h_1 : ¬ 1073741824 < num) (h_2 : ¬ den < -1073741824) (h_3 : ¬ 1073741824 < den) (h_4 : n < -1073741824) (hf : Fits (Rat.divInt num den)) :
    Calls Tryd.prog 7 #[.int .i64 num, .int .i64 den, .int .i64 n, .int .i64 d] w fun e w' => e = .returned (.bool true) ∧ Ext w w' := by
  have HP := Lib.hid hP
  have t : (den == 0) = false := by simpa using h0
  have t0 : decide (num < -1073741824) = false := decide_eq_false (by omega)
  have t1 : decide (1073741824 < num) = false := decide_eq_false (by omega)
  have t2 : decide (den < -1073741824) = false := decide_eq_false (by omega)
  have t3 : decide (1073741824 < den) = false := decide_eq_false (by omega)
  have t4 : decide (n < -1073741824) = true := decide_eq_true (by omega)
  obtain ⟨q, hq⟩ : ∃ q, Rat.divInt num den = q := ⟨_, rfl⟩
  have hfq : Fits q := hq ▸ hf
  have hmk : makeR num den = (fracOf q, 0) := by unfold makeR; rw [if_neg h0, hq]; unfold answer; rw [if_pos hfq]
  obtain ⟨x, hx⟩ : ∃ x, nm q = x := ⟨_, rfl⟩
  obtain ⟨y, hy⟩ : ∃ y, dn q = y := ⟨_, rfl⟩
  have CK := Lib.hid (fun w => (show Calls Tryd.prog 37 #[.agg #[.int .i64 x, .int .i64 y]] w fun e w' => e = .returned (.int .i64 0) ∧ Ext w w' from by
    have := c_Check (fracOf q) (wide_of hfq) w
    rw [show checkR (fracOf q) = 0 from if_pos (fracOf_ok hfq)] at this
    rw [← hx, ← hy]
    exact this))
  have CM := Lib.hid (fun w => (show Calls Tryd.prog 20 #[.int .i64 num, .int .i64 den] w fun e w' => e = .returned (.tuple #[.agg #[.int .i64 x, .int .i64 y], .int .i64 0]) ∧ Ext w w' from by
    have := c_Make num den hi hj w
    rw [hmk] at this
    rw [← hx, ← hy]
    exact this))
  clear hP hi hj h0 hf hq hfq hmk hx hy h_0 h_1 h_2 h_3 h_4
  go_enter Tryd.func7, Tryd.ntmps7
  go_wp2_with (first | (go_at_call 16; refine (c_alive _ HP.out).mono ?_; rintro e w0 ⟨rfl, hb0⟩) | (go_at_call 20; refine (CM.out _).mono ?_; rintro e w1 ⟨rfl, hb1⟩; have hc1 := hb1.cell; have hz1 := hb1.size) | (go_at_call 37; refine (CK.out _).mono ?_; rintro e w2 ⟨rfl, hb2⟩))
  go_ret
  exact ⟨ret_bool rfl, (by repeat (first | exact Ext.refl _ | assumption | refine Ext.alloc ?_ _ | refine Ext.drewN ?_ _ | refine ext_grow ?_ _ _ | refine Ext.trans ?_ (by assumption)))⟩
set_option maxRecDepth 100000 in
set_option maxHeartbeats 2000000 in
theorem made_out4b (num den n d : Int) (w : World) (hP : Pow w) (hi : InI64 num) (hj : InI64 den) (h0 : den ≠ 0) (h_0 : ¬ num < -1073741824) (h_1 : ¬ 1073741824 < num) (h_2 : ¬ den < -1073741824) (h_3 : ¬ 1073741824 < den) (h_4 : n < -1073741824) (hf : ¬ Fits (Rat.divInt num den)) :
    Calls Tryd.prog 7 #[.int .i64 num, .int .i64 den, .int .i64 n, .int .i64 d] w fun e w' => e = .returned (.bool true) ∧ Ext w w' := by
  have HP := Lib.hid hP
  have t : (den == 0) = false := by simpa using h0
  have t0 : decide (num < -1073741824) = false := decide_eq_false (by omega)
  have t1 : decide (1073741824 < num) = false := decide_eq_false (by omega)
  have t2 : decide (den < -1073741824) = false := decide_eq_false (by omega)
  have t3 : decide (1073741824 < den) = false := decide_eq_false (by omega)
  have t4 : decide (n < -1073741824) = true := decide_eq_true (by omega)
  have hmk : makeR num den = (⟨0, 0⟩, 4) := by unfold makeR; rw [if_neg h0]; unfold answer; rw [if_neg hf]
  have CM := Lib.hid (fun w => (show Calls Tryd.prog 20 #[.int .i64 num, .int .i64 den] w fun e w' => e = .returned (.tuple #[.agg #[.int .i64 0, .int .i64 0], .int .i64 4]) ∧ Ext w w' from by
    have := c_Make num den hi hj w
    rw [hmk] at this
    exact this))
  clear hP hi hj h0 hf hmk h_0 h_1 h_2 h_3 h_4
  go_enter Tryd.func7, Tryd.ntmps7
  go_wp2_with (first | (go_at_call 16; refine (c_alive _ HP.out).mono ?_; rintro e w0 ⟨rfl, hb0⟩) | (go_at_call 20; refine (CM.out _).mono ?_; rintro e w1 ⟨rfl, hb1⟩; have hc1 := hb1.cell; have hz1 := hb1.size))
  go_ret
  exact ⟨ret_bool rfl, (by repeat (first | exact Ext.refl _ | assumption | refine Ext.alloc ?_ _ | refine Ext.drewN ?_ _ | refine ext_grow ?_ _ _ | refine Ext.trans ?_ (by assumption)))⟩
set_option maxRecDepth 100000 in
set_option maxHeartbeats 2000000 in
theorem made_out5a (num den n d : Int) (w : World) (hP : Pow w) (hi : InI64 num) (hj : InI64 den) (h0 : den ≠ 0) (h_0 : ¬ num < -1073741824) (h_1 : ¬ 1073741824 < num) (h_2 : ¬ den < -1073741824) (h_3 : ¬ 1073741824 < den) (h_4 : ¬ n < -1073741824) (h_5 : 1073741824 < n) (hf : Fits (Rat.divInt num den)) :
    Calls Tryd.prog 7 #[.int .i64 num, .int .i64 den, .int .i64 n, .int .i64 d] w fun e w' => e = .returned (.bool true) ∧ Ext w w' := by
  have HP := Lib.hid hP
  have t : (den == 0) = false := by simpa using h0
  have t0 : decide (num < -1073741824) = false := decide_eq_false (by omega)
  have t1 : decide (1073741824 < num) = false := decide_eq_false (by omega)
  have t2 : decide (den < -1073741824) = false := decide_eq_false (by omega)
  have t3 : decide (1073741824 < den) = false := decide_eq_false (by omega)
  have t4 : decide (n < -1073741824) = false := decide_eq_false (by omega)
  have t5 : decide (1073741824 < n) = true := decide_eq_true (by omega)
  obtain ⟨q, hq⟩ : ∃ q, Rat.divInt num den = q := ⟨_, rfl⟩
  have hfq : Fits q := hq ▸ hf
  have hmk : makeR num den = (fracOf q, 0) := by unfold makeR; rw [if_neg h0, hq]; unfold answer; rw [if_pos hfq]
  obtain ⟨x, hx⟩ : ∃ x, nm q = x := ⟨_, rfl⟩
  obtain ⟨y, hy⟩ : ∃ y, dn q = y := ⟨_, rfl⟩
  have CK := Lib.hid (fun w => (show Calls Tryd.prog 37 #[.agg #[.int .i64 x, .int .i64 y]] w fun e w' => e = .returned (.int .i64 0) ∧ Ext w w' from by
    have := c_Check (fracOf q) (wide_of hfq) w
    rw [show checkR (fracOf q) = 0 from if_pos (fracOf_ok hfq)] at this
    rw [← hx, ← hy]
    exact this))
  have CM := Lib.hid (fun w => (show Calls Tryd.prog 20 #[.int .i64 num, .int .i64 den] w fun e w' => e = .returned (.tuple #[.agg #[.int .i64 x, .int .i64 y], .int .i64 0]) ∧ Ext w w' from by
    have := c_Make num den hi hj w
    rw [hmk] at this
    rw [← hx, ← hy]
    exact this))
  clear hP hi hj h0 hf hq hfq hmk hx hy h_0 h_1 h_2 h_3 h_4 h_5
  go_enter Tryd.func7, Tryd.ntmps7
  go_wp2_with (first | (go_at_call 16; refine (c_alive _ HP.out).mono ?_; rintro e w0 ⟨rfl, hb0⟩) | (go_at_call 20; refine (CM.out _).mono ?_; rintro e w1 ⟨rfl, hb1⟩; have hc1 := hb1.cell; have hz1 := hb1.size) | (go_at_call 37; refine (CK.out _).mono ?_; rintro e w2 ⟨rfl, hb2⟩))
  go_ret
  exact ⟨ret_bool rfl, (by repeat (first | exact Ext.refl _ | assumption | refine Ext.alloc ?_ _ | refine Ext.drewN ?_ _ | refine ext_grow ?_ _ _ | refine Ext.trans ?_ (by assumption)))⟩
set_option maxRecDepth 100000 in
set_option maxHeartbeats 2000000 in
theorem made_out5b (num den n d : Int) (w : World) (hP : Pow w) (hi : InI64 num) (hj : InI64 den) (h0 : den ≠ 0) (h_0 : ¬ num < -1073741824) (h_1 : ¬ 1073741824 < num) (h_2 : ¬ den < -1073741824) (h_3 : ¬ 1073741824 < den) (h_4 : ¬ n < -1073741824) (h_5 : 1073741824 < n) (hf : ¬ Fits (Rat.divInt num den)) :
    Calls Tryd.prog 7 #[.int .i64 num, .int .i64 den, .int .i64 n, .int .i64 d] w fun e w' => e = .returned (.bool true) ∧ Ext w w' := by
  have HP := Lib.hid hP
  have t : (den == 0) = false := by simpa using h0
  have t0 : decide (num < -1073741824) = false := decide_eq_false (by omega)
  have t1 : decide (1073741824 < num) = false := decide_eq_false (by omega)
  have t2 : decide (den < -1073741824) = false := decide_eq_false (by omega)
  have t3 : decide (1073741824 < den) = false := decide_eq_false (by omega)
  have t4 : decide (n < -1073741824) = false := decide_eq_false (by omega)
  have t5 : decide (1073741824 < n) = true := decide_eq_true (by omega)
  have hmk : makeR num den = (⟨0, 0⟩, 4) := by unfold makeR; rw [if_neg h0]; unfold answer; rw [if_neg hf]
  have CM := Lib.hid (fun w => (show Calls Tryd.prog 20 #[.int .i64 num, .int .i64 den] w fun e w' => e = .returned (.tuple #[.agg #[.int .i64 0, .int .i64 0], .int .i64 4]) ∧ Ext w w' from by
    have := c_Make num den hi hj w
    rw [hmk] at this
    exact this))
  clear hP hi hj h0 hf hmk h_0 h_1 h_2 h_3 h_4 h_5
  go_enter Tryd.func7, Tryd.ntmps7
  go_wp2_with (first | (go_at_call 16; refine (c_alive _ HP.out).mono ?_; rintro e w0 ⟨rfl, hb0⟩) | (go_at_call 20; refine (CM.out _).mono ?_; rintro e w1 ⟨rfl, hb1⟩; have hc1 := hb1.cell; have hz1 := hb1.size))
  go_ret
  exact ⟨ret_bool rfl, (by repeat (first | exact Ext.refl _ | assumption | refine Ext.alloc ?_ _ | refine Ext.drewN ?_ _ | refine ext_grow ?_ _ _ | refine Ext.trans ?_ (by assumption)))⟩
set_option maxRecDepth 100000 in
set_option maxHeartbeats 2000000 in
theorem made_out6a (num den n d : Int) (w : World) (hP : Pow w) (hi : InI64 num) (hj : InI64 den) (h0 : den ≠ 0) (h_0 : ¬ num < -1073741824) (h_1 : ¬ 1073741824 < num) (h_2 : ¬ den < -1073741824) (h_3 : ¬ 1073741824 < den) (h_4 : ¬ n < -1073741824) (h_5 : ¬ 1073741824 < n) (h_6 : d < -1073741824) (hf : Fits (Rat.divInt num den)) :
    Calls Tryd.prog 7 #[.int .i64 num, .int .i64 den, .int .i64 n, .int .i64 d] w fun e w' => e = .returned (.bool true) ∧ Ext w w' := by
  have HP := Lib.hid hP
  have t : (den == 0) = false := by simpa using h0
  have t0 : decide (num < -1073741824) = false := decide_eq_false (by omega)
  have t1 : decide (1073741824 < num) = false := decide_eq_false (by omega)
  have t2 : decide (den < -1073741824) = false := decide_eq_false (by omega)
  have t3 : decide (1073741824 < den) = false := decide_eq_false (by omega)
  have t4 : decide (n < -1073741824) = false := decide_eq_false (by omega)
  have t5 : decide (1073741824 < n) = false := decide_eq_false (by omega)
  have t6 : decide (d < -1073741824) = true := decide_eq_true (by omega)
  obtain ⟨q, hq⟩ : ∃ q, Rat.divInt num den = q := ⟨_, rfl⟩
  have hfq : Fits q := hq ▸ hf
  have hmk : makeR num den = (fracOf q, 0) := by unfold makeR; rw [if_neg h0, hq]; unfold answer; rw [if_pos hfq]
  obtain ⟨x, hx⟩ : ∃ x, nm q = x := ⟨_, rfl⟩
  obtain ⟨y, hy⟩ : ∃ y, dn q = y := ⟨_, rfl⟩
  have CK := Lib.hid (fun w => (show Calls Tryd.prog 37 #[.agg #[.int .i64 x, .int .i64 y]] w fun e w' => e = .returned (.int .i64 0) ∧ Ext w w' from by
    have := c_Check (fracOf q) (wide_of hfq) w
    rw [show checkR (fracOf q) = 0 from if_pos (fracOf_ok hfq)] at this
    rw [← hx, ← hy]
    exact this))
  have CM := Lib.hid (fun w => (show Calls Tryd.prog 20 #[.int .i64 num, .int .i64 den] w fun e w' => e = .returned (.tuple #[.agg #[.int .i64 x, .int .i64 y], .int .i64 0]) ∧ Ext w w' from by
    have := c_Make num den hi hj w
    rw [hmk] at this
    rw [← hx, ← hy]
    exact this))
  clear hP hi hj h0 hf hq hfq hmk hx hy h_0 h_1 h_2 h_3 h_4 h_5 h_6
  go_enter Tryd.func7, Tryd.ntmps7
  go_wp2_with (first | (go_at_call 16; refine (c_alive _ HP.out).mono ?_; rintro e w0 ⟨rfl, hb0⟩) | (go_at_call 20; refine (CM.out _).mono ?_; rintro e w1 ⟨rfl, hb1⟩; have hc1 := hb1.cell; have hz1 := hb1.size) | (go_at_call 37; refine (CK.out _).mono ?_; rintro e w2 ⟨rfl, hb2⟩))
  go_ret
  exact ⟨ret_bool rfl, (by repeat (first | exact Ext.refl _ | assumption | refine Ext.alloc ?_ _ | refine Ext.drewN ?_ _ | refine ext_grow ?_ _ _ | refine Ext.trans ?_ (by assumption)))⟩
set_option maxRecDepth 100000 in
set_option maxHeartbeats 2000000 in
theorem made_out6b (num den n d : Int) (w : World) (hP : Pow w) (hi : InI64 num) (hj : InI64 den) (h0 : den ≠ 0) (h_0 : ¬ num < -1073741824) (h_1 : ¬ 1073741824 < num) (h_2 : ¬ den < -1073741824) (h_3 : ¬ 1073741824 < den) (h_4 : ¬ n < -1073741824) (h_5 : ¬ 1073741824 < n) (h_6 : d < -1073741824) (hf : ¬ Fits (Rat.divInt num den)) :
    Calls Tryd.prog 7 #[.int .i64 num, .int .i64 den, .int .i64 n, .int .i64 d] w fun e w' => e = .returned (.bool true) ∧ Ext w w' := by
  have HP := Lib.hid hP
  have t : (den == 0) = false := by simpa using h0
  have t0 : decide (num < -1073741824) = false := decide_eq_false (by omega)
  have t1 : decide (1073741824 < num) = false := decide_eq_false (by omega)
  have t2 : decide (den < -1073741824) = false := decide_eq_false (by omega)
  have t3 : decide (1073741824 < den) = false := decide_eq_false (by omega)
  have t4 : decide (n < -1073741824) = false := decide_eq_false (by omega)
  have t5 : decide (1073741824 < n) = false := decide_eq_false (by omega)
  have t6 : decide (d < -1073741824) = true := decide_eq_true (by omega)
  have hmk : makeR num den = (⟨0, 0⟩, 4) := by unfold makeR; rw [if_neg h0]; unfold answer; rw [if_neg hf]
  have CM := Lib.hid (fun w => (show Calls Tryd.prog 20 #[.int .i64 num, .int .i64 den] w fun e w' => e = .returned (.tuple #[.agg #[.int .i64 0, .int .i64 0], .int .i64 4]) ∧ Ext w w' from by
    have := c_Make num den hi hj w
    rw [hmk] at this
    exact this))
  clear hP hi hj h0 hf hmk h_0 h_1 h_2 h_3 h_4 h_5 h_6
  go_enter Tryd.func7, Tryd.ntmps7
  go_wp2_with (first | (go_at_call 16; refine (c_alive _ HP.out).mono ?_; rintro e w0 ⟨rfl, hb0⟩) | (go_at_call 20; refine (CM.out _).mono ?_; rintro e w1 ⟨rfl, hb1⟩; have hc1 := hb1.cell; have hz1 := hb1.size))
  go_ret
  exact ⟨ret_bool rfl, (by repeat (first | exact Ext.refl _ | assumption | refine Ext.alloc ?_ _ | refine Ext.drewN ?_ _ | refine ext_grow ?_ _ _ | refine Ext.trans ?_ (by assumption)))⟩
set_option maxRecDepth 100000 in
set_option maxHeartbeats 2000000 in
theorem made_out7a (num den n d : Int) (w : World) (hP : Pow w) (hi : InI64 num) (hj : InI64 den) (h0 : den ≠ 0) (h_0 : ¬ num < -1073741824) (h_1 : ¬ 1073741824 < num) (h_2 : ¬ den < -1073741824) (h_3 : ¬ 1073741824 < den) (h_4 : ¬ n < -1073741824) (h_5 : ¬ 1073741824 < n) (h_6 : ¬ d < -1073741824) (h_7 : 1073741824 < d) (hf : Fits (Rat.divInt num den)) :
    Calls Tryd.prog 7 #[.int .i64 num, .int .i64 den, .int .i64 n, .int .i64 d] w fun e w' => e = .returned (.bool true) ∧ Ext w w' := by
  have HP := Lib.hid hP
  have t : (den == 0) = false := by simpa using h0
  have t0 : decide (num < -1073741824) = false := decide_eq_false (by omega)
  have t1 : decide (1073741824 < num) = false := decide_eq_false (by omega)
  have t2 : decide (den < -1073741824) = false := decide_eq_false (by omega)
  have t3 : decide (1073741824 < den) = false := decide_eq_false (by omega)
  have t4 : decide (n < -1073741824) = false := decide_eq_false (by omega)
  have t5 : decide (1073741824 < n) = false := decide_eq_false (by omega)
  have t6 : decide (d < -1073741824) = false := decide_eq_false (by omega)
  have t7 : decide (1073741824 < d) = true := decide_eq_true (by omega)
  obtain ⟨q, hq⟩ : ∃ q, Rat.divInt num den = q := ⟨_, rfl⟩
  have hfq : Fits q := hq ▸ hf
  have hmk : makeR num den = (fracOf q, 0) := by unfold makeR; rw [if_neg h0, hq]; unfold answer; rw [if_pos hfq]
  obtain ⟨x, hx⟩ : ∃ x, nm q = x := ⟨_, rfl⟩
  obtain ⟨y, hy⟩ : ∃ y, dn q = y := ⟨_, rfl⟩
  have CK := Lib.hid (fun w => (show Calls Tryd.prog 37 #[.agg #[.int .i64 x, .int .i64 y]] w fun e w' => e = .returned (.int .i64 0) ∧ Ext w w' from by
    have := c_Check (fracOf q) (wide_of hfq) w
    rw [show checkR (fracOf q) = 0 from if_pos (fracOf_ok hfq)] at this
    rw [← hx, ← hy]
    exact this))
  have CM := Lib.hid (fun w => (show Calls Tryd.prog 20 #[.int .i64 num, .int .i64 den] w fun e w' => e = .returned (.tuple #[.agg #[.int .i64 x, .int .i64 y], .int .i64 0]) ∧ Ext w w' from by
    have := c_Make num den hi hj w
    rw [hmk] at this
    rw [← hx, ← hy]
    exact this))
  clear hP hi hj h0 hf hq hfq hmk hx hy h_0 h_1 h_2 h_3 h_4 h_5 h_6 h_7
  go_enter Tryd.func7, Tryd.ntmps7
  go_wp2_with (first | (go_at_call 16; refine (c_alive _ HP.out).mono ?_; rintro e w0 ⟨rfl, hb0⟩) | (go_at_call 20; refine (CM.out _).mono ?_; rintro e w1 ⟨rfl, hb1⟩; have hc1 := hb1.cell; have hz1 := hb1.size) | (go_at_call 37; refine (CK.out _).mono ?_; rintro e w2 ⟨rfl, hb2⟩))
  go_ret
  exact ⟨ret_bool rfl, (by repeat (first | exact Ext.refl _ | assumption | refine Ext.alloc ?_ _ | refine Ext.drewN ?_ _ | refine ext_grow ?_ _ _ | refine Ext.trans ?_ (by assumption)))⟩
set_option maxRecDepth 100000 in
set_option maxHeartbeats 2000000 in
theorem made_out7b (num den n d : Int) (w : World) (hP : Pow w) (hi : InI64 num) (hj : InI64 den) (h0 : den ≠ 0) (h_0 : ¬ num < -1073741824) (h_1 : ¬ 1073741824 < num) (h_2 : ¬ den < -1073741824) (h_3 : ¬ 1073741824 < den) (h_4 : ¬ n < -1073741824) (h_5 : ¬ 1073741824 < n) (h_6 : ¬ d < -1073741824) (h_7 : 1073741824 < d) (hf : ¬ Fits (Rat.divInt num den)) :
    Calls Tryd.prog 7 #[.int .i64 num, .int .i64 den, .int .i64 n, .int .i64 d] w fun e w' => e = .returned (.bool true) ∧ Ext w w' := by
  have HP := Lib.hid hP
  have t : (den == 0) = false := by simpa using h0
  have t0 : decide (num < -1073741824) = false := decide_eq_false (by omega)
  have t1 : decide (1073741824 < num) = false := decide_eq_false (by omega)
  have t2 : decide (den < -1073741824) = false := decide_eq_false (by omega)
  have t3 : decide (1073741824 < den) = false := decide_eq_false (by omega)
  have t4 : decide (n < -1073741824) = false := decide_eq_false (by omega)
  have t5 : decide (1073741824 < n) = false := decide_eq_false (by omega)
  have t6 : decide (d < -1073741824) = false := decide_eq_false (by omega)
  have t7 : decide (1073741824 < d) = true := decide_eq_true (by omega)
  have hmk : makeR num den = (⟨0, 0⟩, 4) := by unfold makeR; rw [if_neg h0]; unfold answer; rw [if_neg hf]
  have CM := Lib.hid (fun w => (show Calls Tryd.prog 20 #[.int .i64 num, .int .i64 den] w fun e w' => e = .returned (.tuple #[.agg #[.int .i64 0, .int .i64 0], .int .i64 4]) ∧ Ext w w' from by
    have := c_Make num den hi hj w
    rw [hmk] at this
    exact this))
  clear hP hi hj h0 hf hmk h_0 h_1 h_2 h_3 h_4 h_5 h_6 h_7
  go_enter Tryd.func7, Tryd.ntmps7
  go_wp2_with (first | (go_at_call 16; refine (c_alive _ HP.out).mono ?_; rintro e w0 ⟨rfl, hb0⟩) | (go_at_call 20; refine (CM.out _).mono ?_; rintro e w1 ⟨rfl, hb1⟩; have hc1 := hb1.cell; have hz1 := hb1.size))
  go_ret
  exact ⟨ret_bool rfl, (by repeat (first | exact Ext.refl _ | assumption | refine Ext.alloc ?_ _ | refine Ext.drewN ?_ _ | refine ext_grow ?_ _ _ | refine Ext.trans ?_ (by assumption)))⟩
set_option maxRecDepth 100000 in
set_option maxHeartbeats 2000000 in
theorem made_out8a (num den n d : Int) (w : World) (hP : Pow w) (hi : InI64 num) (hj : InI64 den) (h0 : den ≠ 0) (h_0 : ¬ num < -1073741824) (h_1 : ¬ 1073741824 < num) (h_2 : ¬ den < -1073741824) (h_3 : ¬ 1073741824 < den) (h_4 : ¬ n < -1073741824) (h_5 : ¬ 1073741824 < n) (h_6 : ¬ d < -1073741824) (h_7 : ¬ 1073741824 < d) (h_8 : d = 0) (hf : Fits (Rat.divInt num den)) :
    Calls Tryd.prog 7 #[.int .i64 num, .int .i64 den, .int .i64 n, .int .i64 d] w fun e w' => e = .returned (.bool true) ∧ Ext w w' := by
  have HP := Lib.hid hP
  have t : (den == 0) = false := by simpa using h0
  have t0 : decide (num < -1073741824) = false := decide_eq_false (by omega)
  have t1 : decide (1073741824 < num) = false := decide_eq_false (by omega)
  have t2 : decide (den < -1073741824) = false := decide_eq_false (by omega)
  have t3 : decide (1073741824 < den) = false := decide_eq_false (by omega)
  have t4 : decide (n < -1073741824) = false := decide_eq_false (by omega)
  have t5 : decide (1073741824 < n) = false := decide_eq_false (by omega)
  have t6 : decide (d < -1073741824) = false := decide_eq_false (by omega)
  have t7 : decide (1073741824 < d) = false := decide_eq_false (by omega)
  have t8 : (d == 0) = true := by simp; omega
  obtain ⟨q, hq⟩ : ∃ q, Rat.divInt num den = q := ⟨_, rfl⟩
  have hfq : Fits q := hq ▸ hf
  have hmk : makeR num den = (fracOf q, 0) := by unfold makeR; rw [if_neg h0, hq]; unfold answer; rw [if_pos hfq]
  obtain ⟨x, hx⟩ : ∃ x, nm q = x := ⟨_, rfl⟩
  obtain ⟨y, hy⟩ : ∃ y, dn q = y := ⟨_, rfl⟩
  have CK := Lib.hid (fun w => (show Calls Tryd.prog 37 #[.agg #[.int .i64 x, .int .i64 y]] w fun e w' => e = .returned (.int .i64 0) ∧ Ext w w' from by
    have := c_Check (fracOf q) (wide_of hfq) w
    rw [show checkR (fracOf q) = 0 from if_pos (fracOf_ok hfq)] at this
    rw [← hx, ← hy]
    exact this))
  have CM := Lib.hid (fun w => (show Calls Tryd.prog 20 #[.int .i64 num, .int .i64 den] w fun e w' => e = .returned (.tuple #[.agg #[.int .i64 x, .int .i64 y], .int .i64 0]) ∧ Ext w w' from by
    have := c_Make num den hi hj w
    rw [hmk] at this
    rw [← hx, ← hy]
    exact this))
  clear hP hi hj h0 hf hq hfq hmk hx hy h_0 h_1 h_2 h_3 h_4 h_5 h_6 h_7 h_8
  go_enter Tryd.func7, Tryd.ntmps7
  go_wp2_with (first | (go_at_call 16; refine (c_alive _ HP.out).mono ?_; rintro e w0 ⟨rfl, hb0⟩) | (go_at_call 20; refine (CM.out _).mono ?_; rintro e w1 ⟨rfl, hb1⟩; have hc1 := hb1.cell; have hz1 := hb1.size) | (go_at_call 37; refine (CK.out _).mono ?_; rintro e w2 ⟨rfl, hb2⟩))
  go_ret
  exact ⟨ret_bool rfl, (by repeat (first | exact Ext.refl _ | assumption | refine Ext.alloc ?_ _ | refine Ext.drewN ?_ _ | refine ext_grow ?_ _ _ | refine Ext.trans ?_ (by assumption)))⟩
set_option maxRecDepth 100000 in
set_option maxHeartbeats 2000000 in
theorem made_out8b (num den n d : Int) (w : World) (hP : Pow w) (hi : InI64 num) (hj : InI64 den) (h0 : den ≠ 0) (h_0 : ¬ num < -1073741824) (h_1 : ¬ 1073741824 < num) (h_2 : ¬ den < -1073741824) (h_3 : ¬ 1073741824 < den) (h_4 : ¬ n < -1073741824) (h_5 : ¬ 1073741824 < n) (h_6 : ¬ d < -1073741824) (h_7 : ¬ 1073741824 < d) (h_8 : d = 0) (hf : ¬ Fits (Rat.divInt num den)) :
    Calls Tryd.prog 7 #[.int .i64 num, .int .i64 den, .int .i64 n, .int .i64 d] w fun e w' => e = .returned (.bool true) ∧ Ext w w' := by
  have HP := Lib.hid hP
  have t : (den == 0) = false := by simpa using h0
  have t0 : decide (num < -1073741824) = false := decide_eq_false (by omega)
  have t1 : decide (1073741824 < num) = false := decide_eq_false (by omega)
  have t2 : decide (den < -1073741824) = false := decide_eq_false (by omega)
  have t3 : decide (1073741824 < den) = false := decide_eq_false (by omega)
  have t4 : decide (n < -1073741824) = false := decide_eq_false (by omega)
  have t5 : decide (1073741824 < n) = false := decide_eq_false (by omega)
  have t6 : decide (d < -1073741824) = false := decide_eq_false (by omega)
  have t7 : decide (1073741824 < d) = false := decide_eq_false (by omega)
  have t8 : (d == 0) = true := by simp; omega
  have hmk : makeR num den = (⟨0, 0⟩, 4) := by unfold makeR; rw [if_neg h0]; unfold answer; rw [if_neg hf]
  have CM := Lib.hid (fun w => (show Calls Tryd.prog 20 #[.int .i64 num, .int .i64 den] w fun e w' => e = .returned (.tuple #[.agg #[.int .i64 0, .int .i64 0], .int .i64 4]) ∧ Ext w w' from by
    have := c_Make num den hi hj w
    rw [hmk] at this
    exact this))
  clear hP hi hj h0 hf hmk h_0 h_1 h_2 h_3 h_4 h_5 h_6 h_7 h_8
  go_enter Tryd.func7, Tryd.ntmps7
  go_wp2_with (first | (go_at_call 16; refine (c_alive _ HP.out).mono ?_; rintro e w0 ⟨rfl, hb0⟩) | (go_at_call 20; refine (CM.out _).mono ?_; rintro e w1 ⟨rfl, hb1⟩; have hc1 := hb1.cell; have hz1 := hb1.size))
  go_ret
  exact ⟨ret_bool rfl, (by repeat (first | exact Ext.refl _ | assumption | refine Ext.alloc ?_ _ | refine Ext.drewN ?_ _ | refine ext_grow ?_ _ _ | refine Ext.trans ?_ (by assumption)))⟩
set_option maxRecDepth 100000 in
set_option maxHeartbeats 2000000 in
theorem made_in (num den n d : Int) (w : World) (hP : Pow w) (hi : InI64 num) (hj : InI64 den) (h0 : den ≠ 0) (h_0 : ¬ num < -1073741824) (h_1 : ¬ 1073741824 < num) (h_2 : ¬ den < -1073741824) (h_3 : ¬ 1073741824 < den) (h_4 : ¬ n < -1073741824) (h_5 : ¬ 1073741824 < n) (h_6 : ¬ d < -1073741824) (h_7 : ¬ 1073741824 < d) (h_8 : ¬ d = 0) :
    Calls Tryd.prog 7 #[.int .i64 num, .int .i64 den, .int .i64 n, .int .i64 d] w fun e w' => e = .returned (.bool true) ∧ Ext w w' := by
  have HP := Lib.hid hP
  have t : (den == 0) = false := by simpa using h0
  have t0 : decide (num < -1073741824) = false := decide_eq_false (by omega)
  have t1 : decide (1073741824 < num) = false := decide_eq_false (by omega)
  have t2 : decide (den < -1073741824) = false := decide_eq_false (by omega)
  have t3 : decide (1073741824 < den) = false := decide_eq_false (by omega)
  have t4 : decide (n < -1073741824) = false := decide_eq_false (by omega)
  have t5 : decide (1073741824 < n) = false := decide_eq_false (by omega)
  have t6 : decide (d < -1073741824) = false := decide_eq_false (by omega)
  have t7 : decide (1073741824 < d) = false := decide_eq_false (by omega)
  have t8 : (d == 0) = false := by simp; omega
  have hf := fits_divInt (num := num) (den := den) (by omega) (by omega) (by omega) (by omega)
  have hg := fits_divInt (num := n) (den := d) (by omega) (by omega) (by omega) (by omega)
  obtain ⟨q, hq⟩ : ∃ q, Rat.divInt num den = q := ⟨_, rfl⟩
  obtain ⟨p, hp⟩ : ∃ p, Rat.divInt n d = p := ⟨_, rfl⟩
  have hcross : nm q * den = num * dn q := hq ▸ cross h0
  have hsame : (nm q = nm p ∧ dn q = dn p) ↔ num * d = n * den := by
    rw [← Rat.divInt_eq_divInt_iff h0 h_8, hq, hp]
    constructor
    · rintro ⟨a1, a2⟩
      exact fracOf_inj (show Frac.mk (nm q) (dn q) = Frac.mk (nm p) (dn p) by rw [a1, a2])
    · rintro rfl
      exact ⟨rfl, rfl⟩
  rw [hq] at hf
  rw [hp] at hg
  have b1 : -1073741824 ≤ nm q ∧ nm q ≤ 1073741824 ∧ 1 ≤ dn q ∧ dn q ≤ 1073741824 := by
    have e1 : nm q = den.sign * num / ((den.gcd num : Nat) : Int) := by rw [← hq]; exact Rat.num_divInt _ _
    have e2 : q.den = den.natAbs / den.gcd num := by rw [← hq, Rat.den_divInt, if_neg h0]
    have a1 : (den.sign * num / ((den.gcd num : Nat) : Int)).natAbs ≤ (den.sign * num).natAbs := Int.natAbs_ediv_le_natAbs _ _
    have a2 : (den.sign * num).natAbs ≤ num.natAbs := by
      rw [Int.natAbs_mul]
      have : den.sign.natAbs ≤ 1 := by rcases Int.lt_trichotomy den 0 with h | h | h <;> simp [Int.sign_eq_neg_one_of_neg, Int.sign_eq_one_of_pos, h]
      calc den.sign.natAbs * num.natAbs ≤ 1 * num.natAbs := Nat.mul_le_mul_right _ this
        _ = num.natAbs := Nat.one_mul _
    have a3 : den.natAbs / den.gcd num ≤ den.natAbs := Nat.div_le_self _ _
    have hd := q.den_pos
    have e3 : dn q = q.den := rfl
    generalize den.sign * num / ((den.gcd num : Nat) : Int) = A at *
    generalize den.natAbs / den.gcd num = B at *
    omega
  obtain ⟨b1, b2, b3, b4⟩ := b1
  have w1 : wrap64 (nm q * den) = nm q * den := small_mul b1 b2 (by omega) (by omega)
  have w2 : wrap64 (num * dn q) = nm q * den := by rw [hcross]; exact small_mul (by omega) (by omega) (by omega) b4
  have w3 : wrap64 (num * d) = num * d := small_mul (by omega) (by omega) (by omega) (by omega)
  have w4 : wrap64 (n * den) = n * den := small_mul (by omega) (by omega) (by omega) (by omega)
  have m1 : makeR num den = (fracOf q, 0) := by unfold makeR; rw [if_neg h0, hq]; unfold answer; rw [if_pos hf]
  have m2 : makeR n d = (fracOf p, 0) := by unfold makeR; rw [if_neg h_8, hp]; unfold answer; rw [if_pos hg]
  have ck := fun w => c_Check (fracOf q) (wide_of hf) w
  rw [show checkR (fracOf q) = 0 from if_pos (fracOf_ok hf)] at ck
  have hin : InI64 n := by unfold InI64; omega
  have hid : InI64 d := by unfold InI64; omega
  have c1 := fun w => c_Make num den hi hj w
  rw [m1] at c1
  have c2 := fun w => c_Make n d hin hid w
  rw [m2] at c2
  obtain ⟨x, hx⟩ : ∃ x, nm q = x := ⟨_, rfl⟩
  obtain ⟨y, hy⟩ : ∃ y, dn q = y := ⟨_, rfl⟩
  obtain ⟨u, hu⟩ : ∃ u, nm p = u := ⟨_, rfl⟩
  obtain ⟨v, hv⟩ : ∃ v, dn p = v := ⟨_, rfl⟩
  have CM := Lib.hid (fun w => (show Calls Tryd.prog 20 #[.int .i64 num, .int .i64 den] w fun e w' => e = .returned (.tuple #[.agg #[.int .i64 x, .int .i64 y], .int .i64 0]) ∧ Ext w w' from by rw [← hx, ← hy]; exact c1 w))
  have CN := Lib.hid (fun w => (show Calls Tryd.prog 20 #[.int .i64 n, .int .i64 d] w fun e w' => e = .returned (.tuple #[.agg #[.int .i64 u, .int .i64 v], .int .i64 0]) ∧ Ext w w' from by rw [← hu, ← hv]; exact c2 w))
  have CK := Lib.hid (fun w => (show Calls Tryd.prog 37 #[.agg #[.int .i64 x, .int .i64 y]] w fun e w' => e = .returned (.int .i64 0) ∧ Ext w w' from by rw [← hx, ← hy]; exact ck w))
  rw [hx, hy, hu, hv] at hsame
  rw [hx] at w1 w2
  rw [hy] at w2
  have r1 : (x * den == x * den) = true := by simp
  obtain ⟨s, hs⟩ : ∃ s, (num * d == n * den) = s := ⟨_, rfl⟩
  have HS := Lib.hid (show (x = u ∧ y = v) ↔ s = true by rw [← hs, hsame]; simp)
  clear hP hi hj h0 hf hg hq hp hcross hsame b1 b2 b3 b4 m1 m2 ck hin hid c1 c2 hx hy hu hv h_0 h_1 h_2 h_3 h_4 h_5 h_6 h_7 h_8
  cases s
  all_goals go_enter Tryd.func7, Tryd.ntmps7
  all_goals go_wp2_with (first | (go_at_call 16; refine (c_alive _ HP.out).mono ?_; rintro e w0 ⟨rfl, hb0⟩) | (go_at_call 20; with_reducible refine (CM.out _).mono ?_; rintro e w1 ⟨rfl, hb1⟩; have hc1 := hb1.cell; have hz1 := hb1.size) | (go_at_call 20; with_reducible refine (CN.out _).mono ?_; rintro e w2 ⟨rfl, hb2⟩; have hc2 := hb2.cell; have hz2 := hb2.size; (try simp at hz2); have z2 : w1.heap.size < w2.heap.size := (by omega)) | (go_at_call 37; refine (CK.out _).mono ?_; rintro e w3 ⟨rfl, hb3⟩; have hc3 := hb3.cell; have hz3 := hb3.size; (try simp at hz3); have z3 : w1.heap.size < w3.heap.size := (by omega); have z4 : w2.heap.size < w3.heap.size := (by omega)))
  all_goals go_ret
  all_goals exact ⟨ret_bool (by have := HS.out; first | rfl | (simp at this ⊢; done) | (simp at this; simp; omega) | (simp at this; omega)), (by repeat (first | exact Ext.refl _ | assumption | refine Ext.alloc ?_ _ | refine Ext.drewN ?_ _ | refine ext_grow ?_ _ _ | refine Ext.trans ?_ (by assumption)))⟩
end Go.Proofs.YtodoimeiklilhaaDoor
