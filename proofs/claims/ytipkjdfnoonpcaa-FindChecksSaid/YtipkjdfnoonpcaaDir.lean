/- Directions, rounding: the reference's walks. -/
import Derived.Test.YtipkjdfnoonpcaaOffset
import Derived.BigRegion
import Derived.Deep.DrawnRows
set_option linter.unusedVariables false
set_option linter.unusedSimpArgs false
namespace Go.Proofs.Ytipkjdfnoonpcaa
open Go.RowKit Go.Sort
attribute [local go_sem ↓] Go.wp_at_zero Go.wp_at_succ

set_option maxRecDepth 100000 in
set_option maxHeartbeats 16000000 in
theorem c96 (turn : Int) (w : World) (h : 0 ≤ turn ∧ turn ≤ 11) :
    Calls Try.prog 96 #[.int .i64 turn] w fun e w' => e = .returned (.tuple #[.int .i64 (dirOf turn).1, .int .i64 (dirOf turn).2]) ∧ Ext w w' := by
  obtain ⟨h1, h2⟩ := h
  have h3 : turn % 3 = 0 ∨ turn % 3 = 1 ∨ turn % 3 = 2 := by omega
  rcases h3 with hr0 | hr0 | hr0
  · have hrem : turn.tmod 3 = 0 := by rw [Int.tmod_eq_emod_of_nonneg h1]; exact hr0
    have hbase : dirBase (turn % 3) = (5, 0) := by rw [hr0]; rfl
    have hw : IntKind.i64.wrap 0 = 0 := by decide
    have HB := Lib.hid hbase
    clear hbase
    go_enter Try.func96, Try.ntmps96
    go_wp2
    go_region
    all_goals
      clear hr0 hrem hw
      go_wp2
      go_loopw [4, 5, 6] (fun av bv iv wr => ∃ (n : Nat) (a b : Int), (n : Int) ≤ turn / 3 ∧ iv = .int .i64 (n : Int) ∧ av = .int .i64 a ∧ bv = .int .i64 b ∧ (-5 ≤ a ∧ a ≤ 5) ∧ (-5 ≤ b ∧ b ≤ 5) ∧ Hid (Ext w wr) ∧ Hid (rot n (5, 0) = (a, b))) (fun _ _ iv _ => (turn / 3 - intOf iv).toNat)
      case atStart => exact ⟨0, 5, 0, by omega, rfl, rfl, rfl, by omega, by omega, Lib.hid (by repeat (first | exact Ext.refl _ | assumption | refine Ext.alloc ?_ _ | refine Ext.drew ?_ | refine Ext.drewN ?_ _ | refine ext_grow ?_ _ _ | refine Ext.trans ?_ (by assumption))), Lib.hid rfl⟩
      case round =>
        obtain ⟨n, a, b, hn, rfl, rfl, rfl, ⟨a1, a2⟩, ⟨b1, b2⟩, hE, hR⟩ := hrel
        by_cases hlt : (n : Int) < turn / 3
        · go_wp2
          go_roundw
          case rel => exact ⟨n + 1, -b, a, by omega, by go_num, rfl, rfl, by omega, by omega, hE, Lib.hid (by rw [rot, hR.out])⟩
          case measure => simp [intOf]; omega
        · have hq : (turn / 3).toNat = n := by omega
          have hdir : dirOf turn = (a, b) := by unfold dirOf; rw [hq, HB.out]; exact hR.out
          have HD := Lib.hid hdir
          clear hdir hq
          go_wp2
          go_ret2
          exact ⟨by rw [HD.out]; rfl, hE.out⟩
  · have hrem : turn.tmod 3 = 1 := by rw [Int.tmod_eq_emod_of_nonneg h1]; exact hr0
    have hbase : dirBase (turn % 3) = (4, 3) := by rw [hr0]; rfl
    have hw : IntKind.i64.wrap 1 = 1 := by decide
    have HB := Lib.hid hbase
    clear hbase
    go_enter Try.func96, Try.ntmps96
    go_wp2
    go_region
    all_goals
      clear hr0 hrem hw
      go_wp2
      go_loopw [4, 5, 6] (fun av bv iv wr => ∃ (n : Nat) (a b : Int), (n : Int) ≤ turn / 3 ∧ iv = .int .i64 (n : Int) ∧ av = .int .i64 a ∧ bv = .int .i64 b ∧ (-5 ≤ a ∧ a ≤ 5) ∧ (-5 ≤ b ∧ b ≤ 5) ∧ Hid (Ext w wr) ∧ Hid (rot n (4, 3) = (a, b))) (fun _ _ iv _ => (turn / 3 - intOf iv).toNat)
      case atStart => exact ⟨0, 4, 3, by omega, rfl, rfl, rfl, by omega, by omega, Lib.hid (by repeat (first | exact Ext.refl _ | assumption | refine Ext.alloc ?_ _ | refine Ext.drew ?_ | refine Ext.drewN ?_ _ | refine ext_grow ?_ _ _ | refine Ext.trans ?_ (by assumption))), Lib.hid rfl⟩
      case round =>
        obtain ⟨n, a, b, hn, rfl, rfl, rfl, ⟨a1, a2⟩, ⟨b1, b2⟩, hE, hR⟩ := hrel
        by_cases hlt : (n : Int) < turn / 3
        · go_wp2
          go_roundw
          case rel => exact ⟨n + 1, -b, a, by omega, by go_num, rfl, rfl, by omega, by omega, hE, Lib.hid (by rw [rot, hR.out])⟩
          case measure => simp [intOf]; omega
        · have hq : (turn / 3).toNat = n := by omega
          have hdir : dirOf turn = (a, b) := by unfold dirOf; rw [hq, HB.out]; exact hR.out
          have HD := Lib.hid hdir
          clear hdir hq
          go_wp2
          go_ret2
          exact ⟨by rw [HD.out]; rfl, hE.out⟩
  · have hrem : turn.tmod 3 = 2 := by rw [Int.tmod_eq_emod_of_nonneg h1]; exact hr0
    have hbase : dirBase (turn % 3) = (3, 4) := by rw [hr0]; rfl
    have hw : IntKind.i64.wrap 2 = 2 := by decide
    have HB := Lib.hid hbase
    clear hbase
    go_enter Try.func96, Try.ntmps96
    go_wp2
    go_region
    all_goals
      clear hr0 hrem hw
      go_wp2
      go_loopw [4, 5, 6] (fun av bv iv wr => ∃ (n : Nat) (a b : Int), (n : Int) ≤ turn / 3 ∧ iv = .int .i64 (n : Int) ∧ av = .int .i64 a ∧ bv = .int .i64 b ∧ (-5 ≤ a ∧ a ≤ 5) ∧ (-5 ≤ b ∧ b ≤ 5) ∧ Hid (Ext w wr) ∧ Hid (rot n (3, 4) = (a, b))) (fun _ _ iv _ => (turn / 3 - intOf iv).toNat)
      case atStart => exact ⟨0, 3, 4, by omega, rfl, rfl, rfl, by omega, by omega, Lib.hid (by repeat (first | exact Ext.refl _ | assumption | refine Ext.alloc ?_ _ | refine Ext.drew ?_ | refine Ext.drewN ?_ _ | refine ext_grow ?_ _ _ | refine Ext.trans ?_ (by assumption))), Lib.hid rfl⟩
      case round =>
        obtain ⟨n, a, b, hn, rfl, rfl, rfl, ⟨a1, a2⟩, ⟨b1, b2⟩, hE, hR⟩ := hrel
        by_cases hlt : (n : Int) < turn / 3
        · go_wp2
          go_roundw
          case rel => exact ⟨n + 1, -b, a, by omega, by go_num, rfl, rfl, by omega, by omega, hE, Lib.hid (by rw [rot, hR.out])⟩
          case measure => simp [intOf]; omega
        · have hq : (turn / 3).toNat = n := by omega
          have hdir : dirOf turn = (a, b) := by unfold dirOf; rw [hq, HB.out]; exact hR.out
          have HD := Lib.hid hdir
          clear hdir hq
          go_wp2
          go_ret2
          exact ⟨by rw [HD.out]; rfl, hE.out⟩
set_option maxHeartbeats 4000000 in
theorem c97 (a : Int) (w : World) (h1 : -1000 ≤ a) (h2 : a ≤ 1000) : Calls Try.prog 97 #[.int .i64 a, .int .i64 20] w fun e w' => e = .returned (.int .i64 (a / 20)) ∧ Ext w w' := by
  obtain ⟨q, hq⟩ : ∃ q, a.tdiv 20 = q := ⟨_, rfl⟩
  obtain ⟨r, hr⟩ : ∃ r, a.tmod 20 = r := ⟨_, rfl⟩
  have hb := tdiv_two (a := a) (b := 20) (by omega)
  have he := Int.mul_tdiv_add_tmod a 20
  rw [hq] at hb he
  rw [hr] at he
  have hq1 : -60 ≤ q ∧ q ≤ 60 := by omega
  obtain ⟨q1, q2⟩ := hq1
  by_cases hn : a < 0
  · by_cases hz : r = 0
    · have t1 : (r != 0) = false := by simp [hz]
      have e9 : q = a / 20 := by omega
      have HE := Lib.hid e9
      clear e9 hb he hz
      go_enter Try.func97, Try.ntmps97
      go_wp2
      go_ret
      exact ⟨ret_int HE.out, Ext.refl _⟩
    · have t1 : (r != 0) = true := by simpa using hz
      have e9 : q - 1 = a / 20 := by
        have := floor_yes (a := a) (b := 20) (by omega) (by
          rw [hq]
          have hs := Int.tmod_nonneg 20 (show 0 ≤ -a by omega)
          rw [Int.neg_tmod] at hs
          omega)
        rwa [hq] at this
      have HE := Lib.hid e9
      clear e9 hz
      go_enter Try.func97, Try.ntmps97
      go_wp2
      go_ret
      exact ⟨ret_int HE.out, Ext.refl _⟩
  · have e9 : q = a / 20 := by
      have := floor_no (a := a) (b := 20) (by omega) (by
        rw [hq]
        have hs : 0 ≤ a.tmod 20 := by rw [Int.tmod_eq_emod_of_nonneg (by omega)]; omega
        omega)
      rwa [hq] at this
    have ha : 0 ≤ a := by omega
    have hq2 : a / 20 = q := e9.symm
    clear e9 hb he hq hr
    go_enter Try.func97, Try.ntmps97
    go_wp2
    go_ret
    exact ⟨rfl, Ext.refl _⟩
end Go.Proofs.Ytipkjdfnoonpcaa
