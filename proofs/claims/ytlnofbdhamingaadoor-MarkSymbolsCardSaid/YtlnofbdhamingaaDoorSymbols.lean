/- Mul and Inverse, the program's and the reference's. -/
import Derived.Test.YtlnofbdhamingaaDoorRefField
set_option linter.unusedVariables false
set_option linter.unusedSimpArgs false
namespace Go.Proofs.YtlnofbdhamingaaDoor
open Go.RowKit Go.Sort

/-- what 'Mul' and 'Inverse' answer -/
def mulR (a b : Nat) : Nat × Int := if 15 < a ∨ 15 < b then (0, 2) else (gmul a b, 0)
def invR (a : Nat) : Nat × Int := if a = 0 ∨ 15 < a then (0, 2) else (ginv a, 0)
abbrev symV (r : Nat × Int) : Value := .tuple #[.int .u8 (r.1 : Int), .int .i64 r.2]
theorem nat_u8 {x : Int} (h0 : 0 ≤ x) : ∃ n : Nat, x = n := ⟨x.toNat, by omega⟩
set_option maxHeartbeats 2000000 in
theorem mul_any (f g : FuncId) (hf : (f = 18 ∧ g = 53) ∨ (f = 19 ∧ g = 54)) (a b : Nat) (w : World)
    (k : a < 16 → b < 16 → ∀ w0, w0 = w → Calls Tryd.prog g #[.int .u8 (a : Int), .int .u8 (b : Int)] w0 fun e w' => e = .returned (.int .u8 (gmul a b : Int)) ∧ Ext w0 w') :
    Calls Tryd.prog f #[.int .u8 (a : Int), .int .u8 (b : Int)] w fun e w' => e = .returned (symV (mulR a b)) ∧ Ext w w' := by
  by_cases h1 : 15 < a
  · rw [show mulR a b = (0, 2) from if_pos (.inl h1)]
    have t1 : decide (15 < (a : Int)) = true := decide_eq_true (by omega)
    clear k
    rcases hf with ⟨rfl, rfl⟩ | ⟨rfl, rfl⟩
    · go_enter Tryd.func18, Tryd.ntmps18
      go_wp2
      go_ret2
      exact ⟨rfl, Ext.refl _⟩
    · go_enter Tryd.func19, Tryd.ntmps19
      go_wp2
      go_ret2
      exact ⟨rfl, Ext.refl _⟩
  have t1 : decide (15 < (a : Int)) = false := decide_eq_false (by omega)
  by_cases h2 : 15 < b
  · rw [show mulR a b = (0, 2) from if_pos (.inr h2)]
    have t2 : decide (15 < (b : Int)) = true := decide_eq_true (by omega)
    clear k
    rcases hf with ⟨rfl, rfl⟩ | ⟨rfl, rfl⟩
    · go_enter Tryd.func18, Tryd.ntmps18
      go_wp2
      go_ret2
      exact ⟨rfl, Ext.refl _⟩
    · go_enter Tryd.func19, Tryd.ntmps19
      go_wp2
      go_ret2
      exact ⟨rfl, Ext.refl _⟩
  have t2 : decide (15 < (b : Int)) = false := decide_eq_false (by omega)
  rw [show mulR a b = (gmul a b, 0) from if_neg (by omega)]
  have K := Lib.hid (k (by omega) (by omega) w rfl)
  clear k
  rcases hf with ⟨rfl, rfl⟩ | ⟨rfl, rfl⟩
  · go_enter Tryd.func18, Tryd.ntmps18
    go_wp2_with (go_at_call 53; (with_reducible refine K.out.mono ?_); rintro E w1 ⟨rfl, hb1⟩)
    go_ret2
    exact ⟨rfl, hb1⟩
  · go_enter Tryd.func19, Tryd.ntmps19
    go_wp2_with (go_at_call 54; (with_reducible refine K.out.mono ?_); rintro E w1 ⟨rfl, hb1⟩)
    go_ret2
    exact ⟨rfl, hb1⟩
theorem c_Mul (a b : Nat) (w : World) (hT : Tabs w) : Calls Tryd.prog 18 #[.int .u8 (a : Int), .int .u8 (b : Int)] w fun e w' => e = .returned (symV (mulR a b)) ∧ Ext w w' :=
  mul_any _ _ (.inl ⟨rfl, rfl⟩) a b w (fun ha hb w0 e => c_mul a b ha hb w0 (e ▸ hT))
theorem r_Mul (a b : Nat) (w : World) : Calls Tryd.prog 19 #[.int .u8 (a : Int), .int .u8 (b : Int)] w fun e w' => e = .returned (symV (mulR a b)) ∧ Ext w w' :=
  mul_any _ _ (.inr ⟨rfl, rfl⟩) a b w (fun ha hb w0 _ => r_Times a b ha hb w0)
set_option maxHeartbeats 2000000 in
theorem inv_any (f g : FuncId) (hf : (f = 20 ∧ g = 55) ∨ (f = 21 ∧ g = 56)) (a : Nat) (w : World)
    (k : a < 16 → a ≠ 0 → ∀ w0, w0 = w → Calls Tryd.prog g #[.int .u8 (a : Int)] w0 fun e w' => e = .returned (.int .u8 (ginv a : Int)) ∧ Ext w0 w') :
    Calls Tryd.prog f #[.int .u8 (a : Int)] w fun e w' => e = .returned (symV (invR a)) ∧ Ext w w' := by
  by_cases h0 : a = 0
  · rw [show invR a = (0, 2) from if_pos (.inl h0)]
    have t1 : ((a : Int) == 0) = true := by simp; omega
    clear k h0
    rcases hf with ⟨rfl, rfl⟩ | ⟨rfl, rfl⟩
    · go_enter Tryd.func20, Tryd.ntmps20
      go_wp2
      go_ret2
      exact ⟨rfl, Ext.refl _⟩
    · go_enter Tryd.func21, Tryd.ntmps21
      go_wp2
      go_ret2
      exact ⟨rfl, Ext.refl _⟩
  have t0 : ((a : Int) == 0) = false := by simp; omega
  by_cases h1 : 15 < a
  · rw [show invR a = (0, 2) from if_pos (.inr h1)]
    have t1 : decide (15 < (a : Int)) = true := decide_eq_true (by omega)
    have H0 := Lib.hid h0
    clear k h0
    rcases hf with ⟨rfl, rfl⟩ | ⟨rfl, rfl⟩
    · go_enter Tryd.func20, Tryd.ntmps20
      go_wp2
      go_ret2
      exact ⟨rfl, Ext.refl _⟩
    · go_enter Tryd.func21, Tryd.ntmps21
      go_wp2
      go_ret2
      exact ⟨rfl, Ext.refl _⟩
  have t1 : decide (15 < (a : Int)) = false := decide_eq_false (by omega)
  rw [show invR a = (ginv a, 0) from if_neg (by omega)]
  have K := Lib.hid (k (by omega) h0 w rfl)
  have H0 := Lib.hid h0
  clear k h0
  rcases hf with ⟨rfl, rfl⟩ | ⟨rfl, rfl⟩
  · go_enter Tryd.func20, Tryd.ntmps20
    go_wp2_with (go_at_call 55; (with_reducible refine K.out.mono ?_); rintro E w1 ⟨rfl, hb1⟩)
    go_ret2
    exact ⟨rfl, hb1⟩
  · go_enter Tryd.func21, Tryd.ntmps21
    go_wp2_with (go_at_call 56; (with_reducible refine K.out.mono ?_); rintro E w1 ⟨rfl, hb1⟩)
    go_ret2
    exact ⟨rfl, hb1⟩
theorem c_Inverse (a : Nat) (w : World) (hT : Tabs w) : Calls Tryd.prog 20 #[.int .u8 (a : Int)] w fun e w' => e = .returned (symV (invR a)) ∧ Ext w w' :=
  inv_any _ _ (.inl ⟨rfl, rfl⟩) a w (fun ha _ w0 e => c_inverse a ha w0 (e ▸ hT))
theorem r_Inverse (a : Nat) (w : World) : Calls Tryd.prog 21 #[.int .u8 (a : Int)] w fun e w' => e = .returned (symV (invR a)) ∧ Ext w w' :=
  inv_any _ _ (.inr ⟨rfl, rfl⟩) a w (fun ha a0 w0 _ => r_Over a ha a0 w0)
end Go.Proofs.YtlnofbdhamingaaDoor
