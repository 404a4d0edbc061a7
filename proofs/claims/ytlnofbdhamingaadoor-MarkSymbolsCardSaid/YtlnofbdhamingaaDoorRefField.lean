/- The reference's products, inverses, points. -/
import Derived.Test.YtlnofbdhamingaaDoorField
import Derived.Laws.BitsAllLaws
set_option linter.unusedVariables false
set_option linter.unusedSimpArgs false
namespace Go.Proofs.YtlnofbdhamingaaDoor
open Go.RowKit Go.Sort

def tchain (a b : Nat) : Nat → Nat × Nat
  | 0 => (0, a)
  | i + 1 => tstep b i (tchain a b i)
theorem tchain_lt {a b : Nat} (ha : a < 16) (hb : b < 16) (i : Nat) (hi : i ≤ 4) : (tchain a b i).1 < 16 ∧ (tchain a b i).2 < 16 := by
  have : ∀ (a b : Fin 16) (i : Fin 5), (tchain a b i).1 < 16 ∧ (tchain a b i).2 < 16 := by decide
  exact this ⟨a, ha⟩ ⟨b, hb⟩ ⟨i, by omega⟩
set_option maxRecDepth 100000 in
set_option maxHeartbeats 4000000 in
theorem r_Times (a b : Nat) (ha : a < 16) (hb : b < 16) (w : World) :
    Calls Tryd.prog 54 #[.int .u8 (a : Int), .int .u8 (b : Int)] w fun e w' => e = .returned (.int .u8 (gmul a b : Int)) ∧ Ext w w' := by
  go_enter Tryd.func54, Tryd.ntmps54
  go_wp2
  go_loopw [0, 5, 6] (fun x o i wr => ∃ k : Nat, k ≤ 4 ∧ i = .int .i64 (k : Int) ∧ x = .int .u8 ((tchain a b k).2 : Int) ∧ o = .int .u8 ((tchain a b k).1 : Int) ∧ Ext w wr) (fun _ _ i _ => 4 - (intOf i).toNat)
  case atStart => exact ⟨0, by omega, rfl, rfl, rfl, Ext.refl _⟩
  case round =>
    obtain ⟨k, hk, rfl, rfl, rfl, hE⟩ := hrel
    obtain ⟨h1, h2⟩ := tchain_lt ha hb k hk
    obtain ⟨x, hx⟩ : ∃ x, tchain a b k = x := ⟨_, rfl⟩
    rw [hx] at h1 h2 ⊢
    have HX := Lib.hid hx
    clear hx
    obtain ⟨o, c⟩ := x
    simp only at h1 h2 ⊢
    by_cases hk4 : k < 4
    · have e1 : ((b : Int) / 2 ^ k) = ((b >>> k : Nat) : Int) := by rw [Nat.shiftRight_eq_div_pow]; simp
      have e2 : bits .and .u8 ((b : Int) / 2 ^ k) 1 = ((b >>> k % 2 : Nat) : Int) := by
        rw [e1]
        have h := u8_and_nat (b >>> k) 1 (Nat.lt_of_le_of_lt (Nat.shiftRight_le _ _) (by omega)) (by omega)
        rw [Nat.and_one_is_mod] at h
        exact h
      have x1 : bits .xor .u8 ((c : Int) * 2) 19 = (((2 * c) ^^^ 19 : Nat) : Int) := by
        have h := u8_xor_nat (2 * c) 19 (by omega) (by omega)
        rw [Int.natCast_mul, Int.mul_comm] at h
        exact h
      have x2 : bits .xor .u8 (o : Int) (c : Int) = ((o ^^^ c : Nat) : Int) := u8_xor_nat o c (by omega) (by omega)
      have step : tchain a b (k + 1) = (if b >>> k % 2 = 1 then o ^^^ c else o, if 15 < 2 * c then (2 * c) ^^^ 19 else 2 * c) := by
        show tstep b k (tchain a b k) = _
        rw [HX.out]; rfl
      have X1 := Lib.hid x1
      have X2 := Lib.hid x2
      have ST := Lib.hid step
      clear x1 x2 step e1
      by_cases hbit : b >>> k % 2 = 1
      · have t : (bits .and .u8 ((b : Int) / 2 ^ k) 1 == 1) = true := by rw [e2, hbit]; rfl
        have HB := Lib.hid hbit
        clear e2 hbit
        go_wp2
        all_goals go_roundw
        all_goals first
        | exact ⟨k + 1, by omega, by go_num, congrArg (Value.int .u8) (by rw [ST.out, X1.out]; simp only; rw [if_pos (by omega)]), congrArg (Value.int .u8) (by rw [ST.out, X2.out]; simp only; rw [if_pos HB.out]), hE⟩
        | exact ⟨k + 1, by omega, by go_num, congrArg (Value.int .u8) (by rw [ST.out]; simp only; rw [if_neg (by omega)]; omega), congrArg (Value.int .u8) (by rw [ST.out, X2.out]; simp only; rw [if_pos HB.out]), hE⟩
        | (simp [intOf]; omega)
      · have t : (bits .and .u8 ((b : Int) / 2 ^ k) 1 == 1) = false := by
          rw [e2]
          generalize b >>> k % 2 = m at hbit ⊢
          simp; omega
        have HB := Lib.hid hbit
        clear e2 hbit
        go_wp2
        all_goals go_roundw
        all_goals first
        | exact ⟨k + 1, by omega, by go_num, congrArg (Value.int .u8) (by rw [ST.out, X1.out]; simp only; rw [if_pos (by omega)]), congrArg (Value.int .u8) (by rw [ST.out]; simp only; rw [if_neg HB.out]), hE⟩
        | exact ⟨k + 1, by omega, by go_num, congrArg (Value.int .u8) (by rw [ST.out]; simp only; rw [if_neg (by omega)]; omega), congrArg (Value.int .u8) (by rw [ST.out]; simp only; rw [if_neg HB.out]), hE⟩
        | (simp [intOf]; omega)
    · obtain rfl : k = 4 := by omega
      go_wp2
      go_ret
      exact ⟨ret_int (by
        have e : gmul a b = (tchain a b 4).1 := rfl
        rw [e, HX.out]), hE⟩
theorem ginv_first {a : Nat} (ha : a < 16) (a0 : a ≠ 0) : gmul a (ginv a) = 1 ∧ ginv a < 16 ∧ 1 ≤ ginv a ∧ ∀ b, b < 16 → gmul a b = 1 → b = ginv a := by
  have : ∀ a : Fin 16, a.1 ≠ 0 → gmul a (ginv a) = 1 ∧ ginv a < 16 ∧ 1 ≤ ginv a ∧ ∀ b : Fin 16, gmul a b = 1 → b.1 = ginv a := by decide
  obtain ⟨h1, h2, h3, h4⟩ := this ⟨a, ha⟩ a0
  exact ⟨h1, h2, h3, fun b hb hg => h4 ⟨b, hb⟩ hg⟩
set_option maxRecDepth 100000 in
set_option maxHeartbeats 4000000 in
theorem r_Over (a : Nat) (ha : a < 16) (a0 : a ≠ 0) (w : World) :
    Calls Tryd.prog 56 #[.int .u8 (a : Int)] w fun e w' => e = .returned (.int .u8 (ginv a : Int)) ∧ Ext w w' := by
  obtain ⟨g1, g2, g3, g4⟩ := ginv_first ha a0
  have G := Lib.hid (And.intro g1 g4)
  clear g1 g4
  go_enter Tryd.func56, Tryd.ntmps56
  go_wp2
  go_loopw [3] (fun x wr => ∃ b : Nat, 1 ≤ b ∧ b ≤ ginv a ∧ x = .int .u8 (b : Int) ∧ Ext w wr) (fun x _ => 16 - (intOf x).toNat)
  case atStart => exact ⟨1, by omega, by omega, rfl, Ext.refl _⟩
  case round =>
    obtain ⟨b, hb1, hb2, rfl, hE⟩ := hrel
    have ct := fun w => r_Times a b ha (by omega) w
    obtain ⟨r, hr⟩ : ∃ r, gmul a b = r := ⟨_, rfl⟩
    rw [hr] at ct
    have CT := Lib.hid ct
    have HR := Lib.hid hr
    clear ct hr
    by_cases h1 : r = 1
    · have t : ((r : Int) == 1) = true := by rw [h1]; rfl
      have H1 := Lib.hid h1
      clear h1
      go_wp2_with (go_at_call 54; (with_reducible refine (CT.out _).mono ?_); rintro E w1 ⟨rfl, h1⟩)
      go_ret
      exact ⟨ret_int (by rw [G.out.2 b (by omega) (HR.out.trans H1.out)]), (by repeat (first | exact Ext.refl _ | assumption | refine Ext.alloc ?_ _ | refine Ext.drewN ?_ _ | refine ext_grow ?_ _ _ | refine Ext.setCell ?_ (by first | exact Nat.le_refl _ | omega | (simp; done) | (simp; omega)) _ | refine Ext.trans ?_ (by assumption)))⟩
    · have t : ((r : Int) == 1) = false := by simp; omega
      have H1 := Lib.hid h1
      have hlt : b < ginv a := by
        rcases Nat.lt_or_ge b (ginv a) with h | h
        · exact h
        · have e : b = ginv a := by omega
          exact absurd (by rw [← HR.out, e]; exact G.out.1) h1
      clear h1
      go_wp2_with (go_at_call 54; (with_reducible refine (CT.out _).mono ?_); rintro E w1 ⟨rfl, h1⟩)
      go_roundw
      case rel => exact ⟨b + 1, by omega, by omega, by go_num, (by repeat (first | exact Ext.refl _ | assumption | refine Ext.alloc ?_ _ | refine Ext.drewN ?_ _ | refine ext_grow ?_ _ _ | refine Ext.setCell ?_ (by first | exact Nat.le_refl _ | omega | (simp; done) | (simp; omega)) _ | refine Ext.trans ?_ (by assumption)))⟩
      case measure => simp [intOf]; omega
theorem pow_next {i : Nat} (h : i < 29) : powN (i + 1) = gmul (powN i) 2 := by
  have : ∀ i : Fin 29, powN (i + 1) = gmul (powN i) 2 := by decide
  exact this ⟨i, h⟩
set_option maxRecDepth 100000 in
set_option maxHeartbeats 4000000 in
theorem r_Point (i : Nat) (hi : i < 30) (w : World) :
    Calls Tryd.prog 92 #[.int .i64 (i : Int)] w fun e w' => e = .returned (.int .u8 (powN i : Int)) ∧ Ext w w' := by
  go_enter Tryd.func92, Tryd.ntmps92
  go_wp2
  go_loopw [3, 4] (fun x k wr => ∃ j : Nat, j ≤ i ∧ k = .int .i64 (j : Int) ∧ x = .int .u8 (powN j : Int) ∧ Ext w wr) (fun _ k _ => i - (intOf k).toNat)
  case atStart => exact ⟨0, by omega, rfl, rfl, Ext.refl _⟩
  case round =>
    obtain ⟨j, hj, rfl, rfl, hE⟩ := hrel
    by_cases hji : j < i
    · have ct : ∀ w, Calls Tryd.prog 54 #[.int .u8 (powN j : Int), .int .u8 2] w fun e w' => e = .returned (.int .u8 (gmul (powN j) 2 : Int)) ∧ Ext w w' := fun w => r_Times (powN j) 2 (pow_at (by omega)).2 (by omega) w
      rw [← pow_next (by omega)] at ct
      have CT := Lib.hid ct
      clear ct
      go_wp2_with (go_at_call 54; (with_reducible refine (CT.out _).mono ?_); rintro E w1 ⟨rfl, h1⟩)
      go_roundw
      case rel => exact ⟨j + 1, by omega, by go_num, rfl, (by repeat (first | exact Ext.refl _ | assumption | refine Ext.alloc ?_ _ | refine Ext.drewN ?_ _ | refine ext_grow ?_ _ _ | refine Ext.setCell ?_ (by first | exact Nat.le_refl _ | omega | (simp; done) | (simp; omega)) _ | refine Ext.trans ?_ (by assumption)))⟩
      case measure => simp [intOf]; omega
    · obtain rfl : j = i := by omega
      go_wp2
      go_ret
      exact ⟨rfl, hE⟩
end Go.Proofs.YtlnofbdhamingaaDoor
