/- 'MarkField' returns true. -/
import Derived.Test.YtlnofbdhamingaaDoorAliveC
import Derived.Test.YtlnofbdhamingaaDoorGField
set_option linter.unusedVariables false
set_option linter.unusedSimpArgs false
namespace Go.Proofs.YtlnofbdhamingaaDoor
open Go.RowKit Go.Sort

abbrev MulK (w : World) (x y z : Nat) : Prop := ∀ w', Ext w w' → Calls Tryd.prog 18 #[.int .u8 (x : Int), .int .u8 (y : Int)] w' fun e w'' => e = .returned (.tuple #[.int .u8 (z : Int), .int .i64 0]) ∧ Ext w' w''
theorem mulK {w : World} (hT : Tabs w) {x y : Nat} (hx : x < 16) (hy : y < 16) : MulK w x y (gmul x y) := fun w' h => by
  have k := c_Mul x y w' (hT.ext h)
  rw [show mulR x y = (gmul x y, 0) from if_neg (by omega)] at k
  exact k
theorem invK {w : World} (hT : Tabs w) {x : Nat} (hx : x < 16) (x0 : x ≠ 0) : ∀ w', Ext w w' → Calls Tryd.prog 20 #[.int .u8 (x : Int)] w' fun e w'' => e = .returned (.tuple #[.int .u8 (ginv x : Int), .int .i64 0]) ∧ Ext w' w'' := fun w' h => by
  have k := c_Inverse x w' (hT.ext h)
  rw [show invR x = (ginv x, 0) from if_neg (by omega)] at k
  exact k
theorem invKz {w : World} (hT : Tabs w) {x : Nat} (x0 : x = 0) : ∀ w', Ext w w' → Calls Tryd.prog 20 #[.int .u8 (x : Int)] w' fun e w'' => e = .returned (.tuple #[.int .u8 0, .int .i64 2]) ∧ Ext w' w'' := fun w' h => by
  subst x0
  exact c_Inverse 0 w' (hT.ext h)
set_option maxRecDepth 100000 in
set_option maxHeartbeats 8000000 in
theorem field_law (a b c : Nat) (w : World) (hT : Tabs w) : Calls Tryd.prog 7 #[.int .u8 (a : Int), .int .u8 (b : Int), .int .u8 (c : Int)] w fun e w' => e = .returned (.bool true) ∧ Ext w w' := by
  obtain ⟨A, mA, A16⟩ : ∃ A : Nat, (a : Int).tmod 16 = (A : Int) ∧ A < 16 := ⟨a % 16, rfl, by omega⟩
  obtain ⟨B, mB, B16⟩ : ∃ A : Nat, (b : Int).tmod 16 = (A : Int) ∧ A < 16 := ⟨b % 16, rfl, by omega⟩
  obtain ⟨C, mC, C16⟩ : ∃ A : Nat, (c : Int).tmod 16 = (A : Int) ∧ A < 16 := ⟨c % 16, rfl, by omega⟩
  have gab := gmul_lt A16 B16
  have gac := gmul_lt A16 C16
  have gbc := gmul_lt B16 C16
  have k1 := Lib.hid (mulK hT A16 B16)
  have k2 := mulK hT B16 A16
  rw [gmul_comm B16 A16] at k2
  have k3 := mulK hT gab C16
  have k4 := Lib.hid (mulK hT B16 C16)
  have k5 := mulK hT A16 gbc
  rw [← gmul_assoc A16 B16 C16] at k5
  have k6 := mulK hT A16 (xor_lt B16 C16)
  rw [gmul_xor A16 B16 C16] at k6
  have k7 := Lib.hid (mulK hT A16 C16)
  have k8 := mulK hT A16 (show 1 < 16 by omega)
  rw [gmul_comm A16 (by omega), gmul_one A16] at k8
  have k2 := Lib.hid k2
  have k3 := Lib.hid k3
  have k5 := Lib.hid k5
  have k6 := Lib.hid k6
  have k8 : Hid (∀ w', Ext w w' → Calls Tryd.prog 18 #[.int .u8 (A : Int), .int .u8 1] w' fun e w'' => e = .returned (.tuple #[.int .u8 (A : Int), .int .i64 0]) ∧ Ext w' w'') := Lib.hid k8
  have X1 : bits .xor .u8 (B : Int) (C : Int) = ((B ^^^ C : Nat) : Int) := u8_xor_nat B C (by omega) (by omega)
  have X2 : bits .xor .u8 (gmul A B : Int) (gmul A C : Int) = ((gmul A B ^^^ gmul A C : Nat) : Int) := u8_xor_nat _ _ (by omega) (by omega)
  have hz : gmul A B = 0 → A = 0 ∨ B = 0 := gmul_ne A16 B16
  have hz0 : A = 0 ∨ B = 0 → gmul A B = 0 := by rintro (rfl | rfl); exact (gmul_zero B16).2; exact (gmul_zero A16).1
  have k0 := Lib.hid (l_alive w hT)
  have k9 := Lib.hid (fun h0 => invK hT A16 h0)
  have k10 := Lib.hid (fun h0 : A = 0 => invKz hT h0)
  have k11 := Lib.hid (fun h0 => (mulK hT A16 (gmul_inv A16 h0).2.1))
  have k12 := Lib.hid (fun h0 => (gmul_inv A16 h0).1)
  have t1 : decide ((15 : Int) < (gmul A B : Int)) = false := decide_eq_false (by omega)
  generalize gmul A B = AB at *
  generalize gmul AB C = L at *
  generalize gmul B C = BC at *
  generalize gmul A C = AC at *
  generalize AB ^^^ AC = S at *
  generalize B ^^^ C = BX at *
  clear hT
  by_cases A0 : A = 0
  · have k10 := Lib.hid (k10.out A0)
    have a0 : ((A : Int) == 0) = true := by simp [A0]
    have a1 : ((A : Int) != 0) = false := by simp [A0]
    have ab1 : ((AB : Int) == 0) = true := by simp [hz0 (.inl A0)]
    clear hz hz0 A0 k9 k11 k12
    go_enter Tryd.func7, Tryd.ntmps7
    go_wp2_with (first
      | (go_at_call 38; (with_reducible refine k0.out.mono ?_); rintro E w0 ⟨rfl, e0⟩)
      | (go_at_call 18; (with_reducible refine (k1.out _ e0).mono ?_); rintro E w1 ⟨rfl, h1⟩; have e1 := e0.trans h1)
      | (go_at_call 18; (with_reducible refine (k2.out _ e1).mono ?_); rintro E w2 ⟨rfl, h2⟩; have e2 := e1.trans h2)
      | (go_at_call 18; (with_reducible refine (k3.out _ e2).mono ?_); rintro E w3 ⟨rfl, h3⟩; have e3 := e2.trans h3)
      | (go_at_call 18; (with_reducible refine (k4.out _ e3).mono ?_); rintro E w4 ⟨rfl, h4⟩; have e4 := e3.trans h4)
      | (go_at_call 18; (with_reducible refine (k5.out _ e4).mono ?_); rintro E w5 ⟨rfl, h5⟩; have e5 := e4.trans h5)
      | (go_at_call 18; (with_reducible refine (k6.out _ e5).mono ?_); rintro E w6 ⟨rfl, h6⟩; have e6 := e5.trans h6)
      | (go_at_call 18; (with_reducible refine (k7.out _ e6).mono ?_); rintro E w7 ⟨rfl, h7⟩; have e7 := e6.trans h7)
      | (go_at_call 18; (with_reducible refine (k8.out _ e7).mono ?_); rintro E w8 ⟨rfl, h8⟩; have e8 := e7.trans h8)
      | (go_at_call 20; (with_reducible refine (k10.out _ e8).mono ?_); rintro E w9 ⟨rfl, h9⟩; have e9 := e8.trans h9))
    go_ret
    exact ⟨rfl, e9⟩
  · have k9 := Lib.hid (k9.out A0)
    have k11 := k11.out A0
    rw [k12.out A0] at k11
    have k11 : Hid (∀ w', Ext w w' → Calls Tryd.prog 18 #[.int .u8 (A : Int), .int .u8 (ginv A : Int)] w' fun e w'' => e = .returned (.tuple #[.int .u8 1, .int .i64 0]) ∧ Ext w' w'') := Lib.hid k11
    generalize ginv A = I at *
    have a0 : ((A : Int) == 0) = false := by simp; omega
    have a1 : ((A : Int) != 0) = true := by simp; omega
    clear k10 k12
    by_cases B0 : B = 0
    · have ab1 : ((AB : Int) == 0) = true := by simp [hz0 (.inr B0)]
      have b1 : ((B : Int) != 0) = false := by simp [B0]
      clear hz hz0 B0 A0
      go_enter Tryd.func7, Tryd.ntmps7
      go_wp2_with (first
        | (go_at_call 38; (with_reducible refine k0.out.mono ?_); rintro E w0 ⟨rfl, e0⟩)
        | (go_at_call 18; (with_reducible refine (k1.out _ e0).mono ?_); rintro E w1 ⟨rfl, h1⟩; have e1 := e0.trans h1)
        | (go_at_call 18; (with_reducible refine (k2.out _ e1).mono ?_); rintro E w2 ⟨rfl, h2⟩; have e2 := e1.trans h2)
        | (go_at_call 18; (with_reducible refine (k3.out _ e2).mono ?_); rintro E w3 ⟨rfl, h3⟩; have e3 := e2.trans h3)
        | (go_at_call 18; (with_reducible refine (k4.out _ e3).mono ?_); rintro E w4 ⟨rfl, h4⟩; have e4 := e3.trans h4)
        | (go_at_call 18; (with_reducible refine (k5.out _ e4).mono ?_); rintro E w5 ⟨rfl, h5⟩; have e5 := e4.trans h5)
        | (go_at_call 18; (with_reducible refine (k6.out _ e5).mono ?_); rintro E w6 ⟨rfl, h6⟩; have e6 := e5.trans h6)
        | (go_at_call 18; (with_reducible refine (k7.out _ e6).mono ?_); rintro E w7 ⟨rfl, h7⟩; have e7 := e6.trans h7)
        | (go_at_call 18; (with_reducible refine (k8.out _ e7).mono ?_); rintro E w8 ⟨rfl, h8⟩; have e8 := e7.trans h8)
        | (go_at_call 20; (with_reducible refine (k9.out _ e8).mono ?_); rintro E w9 ⟨rfl, h9⟩; have e9 := e8.trans h9)
        | (go_at_call 18; (with_reducible refine (k11.out _ e9).mono ?_); rintro E w10 ⟨rfl, h10⟩; have e10 := e9.trans h10))
      go_ret
      exact ⟨rfl, e10⟩
    · have ab1 : ((AB : Int) == 0) = false := by simp; omega
      clear hz hz0 B0 A0
      go_enter Tryd.func7, Tryd.ntmps7
      go_wp2_with (first
        | (go_at_call 38; (with_reducible refine k0.out.mono ?_); rintro E w0 ⟨rfl, e0⟩)
        | (go_at_call 18; (with_reducible refine (k1.out _ e0).mono ?_); rintro E w1 ⟨rfl, h1⟩; have e1 := e0.trans h1)
        | (go_at_call 18; (with_reducible refine (k2.out _ e1).mono ?_); rintro E w2 ⟨rfl, h2⟩; have e2 := e1.trans h2)
        | (go_at_call 18; (with_reducible refine (k3.out _ e2).mono ?_); rintro E w3 ⟨rfl, h3⟩; have e3 := e2.trans h3)
        | (go_at_call 18; (with_reducible refine (k4.out _ e3).mono ?_); rintro E w4 ⟨rfl, h4⟩; have e4 := e3.trans h4)
        | (go_at_call 18; (with_reducible refine (k5.out _ e4).mono ?_); rintro E w5 ⟨rfl, h5⟩; have e5 := e4.trans h5)
        | (go_at_call 18; (with_reducible refine (k6.out _ e5).mono ?_); rintro E w6 ⟨rfl, h6⟩; have e6 := e5.trans h6)
        | (go_at_call 18; (with_reducible refine (k7.out _ e6).mono ?_); rintro E w7 ⟨rfl, h7⟩; have e7 := e6.trans h7)
        | (go_at_call 18; (with_reducible refine (k8.out _ e7).mono ?_); rintro E w8 ⟨rfl, h8⟩; have e8 := e7.trans h8)
        | (go_at_call 20; (with_reducible refine (k9.out _ e8).mono ?_); rintro E w9 ⟨rfl, h9⟩; have e9 := e8.trans h9)
        | (go_at_call 18; (with_reducible refine (k11.out _ e9).mono ?_); rintro E w10 ⟨rfl, h10⟩; have e10 := e9.trans h10))
      go_ret
      exact ⟨rfl, e10⟩
end Go.Proofs.YtlnofbdhamingaaDoor
