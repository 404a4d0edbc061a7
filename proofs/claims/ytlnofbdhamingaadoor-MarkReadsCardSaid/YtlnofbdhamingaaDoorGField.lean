/- Joined from the parts Field, RefField, Symbols, SymLists, Horner, Poly. -/
import Derived.Test.YtlnofbdhamingaaDoorBlocks
import Derived.Test.YtlnofbdhamingaaDoorTwo
import Derived.Test.YtlnofbdhamingaaDoorProg
import Derived.Lib.LaidTab
import Derived.Lib.SmallJoins
import Derived.BigRegion
import Derived.Deep.RegionHeld3
import Derived.Laws.BitsAllLaws
import Derived.Test.YtlnofbdhamingaaDoorBytes
set_option linter.unusedVariables false
set_option linter.unusedSimpArgs false
/- The symbols of the mark's code: tables, products, inverses, points. -/
namespace Go.Proofs.YtlnofbdhamingaaDoor
open Go.RowKit Go.Sort

def powT : List Int := [1, 2, 4, 8, 3, 6, 12, 11, 5, 10, 7, 14, 15, 13, 9, 1, 2, 4, 8, 3, 6, 12, 11, 5, 10, 7, 14, 15, 13, 9]
def logT : List Int := [0, 0, 1, 4, 2, 8, 5, 10, 3, 14, 9, 7, 6, 13, 11, 12]
/-- the two tables lie where the program left them -/
def Tabs (w : World) : Prop := Lib.TabIs Tryd.prog w "sightbench/mark.powers" .u8 powT ∧ Lib.TabIs Tryd.prog w "sightbench/mark.logs" .i64 logT
theorem Tabs.ext {w w' : World} (h : Tabs w) (hE : Ext w w') : Tabs w' := by
  obtain ⟨g, hg⟩ : ∃ g, Tryd.prog.globalNamed "sightbench/mark.powers" = some g := Option.isSome_iff_exists.1 (by kernel_rfl)
  obtain ⟨g2, hg2⟩ : ∃ g, Tryd.prog.globalNamed "sightbench/mark.logs" = some g := Option.isSome_iff_exists.1 (by kernel_rfl)
  exact ⟨Joins.tab_stays (w := w) (w' := w') hg h.1 hE (Nat.le_refl _), Joins.tab_stays (w := w) (w' := w') hg2 h.2 hE (Nat.le_refl _)⟩
/-- a step of the reference's product -/
def tstep (b i : Nat) (x : Nat × Nat) : Nat × Nat := (if b >>> i % 2 = 1 then x.1 ^^^ x.2 else x.1, if 15 < 2 * x.2 then (2 * x.2) ^^^ 19 else 2 * x.2)
def gmul (a b : Nat) : Nat := (tstep b 3 (tstep b 2 (tstep b 1 (tstep b 0 (0, a))))).1
def logN (a : Nat) : Nat := (logT.getD a 0).toNat
def powN (i : Nat) : Nat := (powT.getD i 0).toNat
def ginv (a : Nat) : Nat := powN (15 - logN a)
theorem log_at {a : Nat} (h : a < 16) : logT.getD a 0 = (logN a : Int) ∧ logN a ≤ 14 := by
  have : ∀ a : Fin 16, logT.getD a 0 = (logN a : Int) ∧ logN a ≤ 14 := by decide
  exact this ⟨a, h⟩
theorem pow_at {i : Nat} (h : i < 30) : powT.getD i 0 = (powN i : Int) ∧ powN i < 16 := by
  have : ∀ a : Fin 30, powT.getD a 0 = (powN a : Int) ∧ powN a < 16 := by decide
  exact this ⟨i, h⟩
theorem gmul_log {a b : Nat} (ha : a < 16) (hb : b < 16) (a0 : a ≠ 0) (b0 : b ≠ 0) : gmul a b = powN (logN a + logN b) := by
  have : ∀ a b : Fin 16, a.1 ≠ 0 → b.1 ≠ 0 → gmul a b = powN (logN a + logN b) := by decide
  exact this ⟨a, ha⟩ ⟨b, hb⟩ a0 b0
theorem gmul_lt {a b : Nat} (ha : a < 16) (hb : b < 16) : gmul a b < 16 := by
  have : ∀ a b : Fin 16, gmul a b < 16 := by decide
  exact this ⟨a, ha⟩ ⟨b, hb⟩
theorem gmul_zero {a : Nat} (ha : a < 16) : gmul a 0 = 0 ∧ gmul 0 a = 0 := by
  have : ∀ a : Fin 16, gmul a 0 = 0 ∧ gmul 0 a = 0 := by decide
  exact this ⟨a, ha⟩
theorem tab_pow {w : World} (h : Tabs w) {i : Nat} (hi : i < 30) : w.cell? ⟨0, i, none⟩ = some (.int .u8 (powN i : Int)) := by
  rw [h.1.cell (g := 0) (by kernel_rfl) i hi, (pow_at hi).1]
theorem tab_log {w : World} (h : Tabs w) {a : Nat} (ha : a < 16) : w.cell? ⟨1, a, none⟩ = some (.int .i64 (logN a : Int)) := by
  rw [h.2.cell (g := 1) (by kernel_rfl) a ha, (log_at ha).1]
set_option maxRecDepth 100000 in
set_option maxHeartbeats 4000000 in
theorem mul_walk (a b la lb r : Nat) (w : World) (ha : a < 16) (hb : b < 16) (a0 : ((a : Int) == 0) = false) (b0 : ((b : Int) == 0) = false) (hla : la ≤ 14) (hlb : lb ≤ 14)
    (c1 : w.cell? ⟨1, a, none⟩ = some (.int .i64 (la : Int))) (c2 : w.cell? ⟨1, b, none⟩ = some (.int .i64 (lb : Int))) (c3 : w.cell? ⟨0, la + lb, none⟩ = some (.int .u8 (r : Int)))
    (z0 : 0 < w.heap.size) (z1 : 1 < w.heap.size) :
    Calls Tryd.prog 53 #[.int .u8 (a : Int), .int .u8 (b : Int)] w fun e w' => e = .returned (.int .u8 (r : Int)) ∧ Ext w w' := by
  go_enter Tryd.func53, Tryd.ntmps53
  go_wp2
  refine wp_region_quiet_below (by kernel_rfl) (by kernel_rfl) ?_
  repeat (go_big_quiet_step (fail))
  refine wpQuiet_nil ?_
  intro w1 hw'
  obtain ⟨pq, hw''⟩ := hw'
  have hb1 := ext_of_regrown hw''
  clear hw'' pq
  go_wp2
  go_ret
  exact ⟨rfl, (by repeat (first | exact Ext.refl _ | assumption | refine Ext.alloc ?_ _ | refine Ext.drewN ?_ _ | refine ext_grow ?_ _ _ | refine Ext.setCell ?_ (by first | exact Nat.le_refl _ | omega | (simp; done) | (simp; omega)) _ | refine Ext.trans ?_ (by assumption)))⟩
theorem c_mul (a b : Nat) (ha : a < 16) (hb : b < 16) (w : World) (hT : Tabs w) :
    Calls Tryd.prog 53 #[.int .u8 (a : Int), .int .u8 (b : Int)] w fun e w' => e = .returned (.int .u8 (gmul a b : Int)) ∧ Ext w w' := by
  by_cases a0 : a = 0
  · subst a0
    rw [(gmul_zero hb).2]
    go_enter Tryd.func53, Tryd.ntmps53
    go_wp2
    go_ret
    exact ⟨rfl, Ext.refl _⟩
  by_cases b0 : b = 0
  · subst b0
    have t1 : ((a : Int) == 0) = false := by simp; omega
    rw [(gmul_zero ha).1]
    have A0 := Lib.hid a0
    clear a0
    go_enter Tryd.func53, Tryd.ntmps53
    go_wp2
    go_ret
    exact ⟨rfl, Ext.refl _⟩
  rw [gmul_log ha hb a0 b0]
  have l1 := log_at ha
  have l2 := log_at hb
  exact mul_walk a b _ _ _ w ha hb (by simp; omega) (by simp; omega) l1.2 l2.2 (tab_log hT ha) (tab_log hT hb) (tab_pow hT (by omega)) (World.block_lt_of_cell? _ _ (tab_pow hT (i := 0) (by omega))) (World.block_lt_of_cell? _ _ (tab_log hT ha))
set_option maxHeartbeats 1000000 in
theorem c_point (i : Nat) (h : i < 30) (w : World) (hT : Tabs w) :
    Calls Tryd.prog 90 #[.int .i64 (i : Int)] w fun e w' => e = .returned (.int .u8 (powN i : Int)) ∧ Ext w w' := by
  have c1 := tab_pow hT h
  have z0 := World.block_lt_of_cell? _ _ c1
  simp only at z0
  go_enter Tryd.func90, Tryd.ntmps90
  go_wp2
  go_ret
  exact ⟨rfl, Ext.refl _⟩
set_option maxHeartbeats 1000000 in
theorem inv_walk (a la r : Nat) (w : World) (ha : a < 16) (hla : la ≤ 14)
    (c1 : w.cell? ⟨1, a, none⟩ = some (.int .i64 (la : Int))) (c3 : w.cell? ⟨0, 15 - la, none⟩ = some (.int .u8 (r : Int))) :
    Calls Tryd.prog 55 #[.int .u8 (a : Int)] w fun e w' => e = .returned (.int .u8 (r : Int)) ∧ Ext w w' := by
  obtain ⟨k, hk⟩ : ∃ k, 15 - la = k := ⟨_, rfl⟩
  have hk2 : (15 : Int) - (la : Int) = (k : Int) := by omega
  rw [hk] at c3
  have hk3 : k < 30 := by omega
  have HK := Lib.hid hk
  clear hk
  go_enter Tryd.func55, Tryd.ntmps55
  go_wp2
  go_ret
  exact ⟨rfl, Ext.refl _⟩
theorem c_inverse (a : Nat) (ha : a < 16) (w : World) (hT : Tabs w) :
    Calls Tryd.prog 55 #[.int .u8 (a : Int)] w fun e w' => e = .returned (.int .u8 (ginv a : Int)) ∧ Ext w w' :=
  inv_walk a _ _ w ha (log_at ha).2 (tab_log hT ha) (tab_pow hT (by omega))
end Go.Proofs.YtlnofbdhamingaaDoor

/- The reference's products, inverses, points. -/
namespace Go.Proofs.YtlnofbdhamingaaDoor
open Go.RowKit Go.Sort

def tchain (a b : Nat) : Nat → Nat × Nat
  | 0 => (0, a)
  | i + 1 => tstep b i (tchain a b i)
theorem tchain_lt {a b : Nat} (ha : a < 16) (hb : b < 16) (i : Nat) (hi : i ≤ 4) : (tchain a b i).1 < 16 ∧ (tchain a b i).2 < 16 := by
  have : ∀ (a b : Fin 16) (i : Fin 5), (tchain a b i).1 < 16 ∧ (tchain a b i).2 < 16 := by decide
  exact this ⟨a, ha⟩ ⟨b, hb⟩ ⟨i, by omega⟩
set_option maxRecDepth 100000 in
set_option maxHeartbeats 4000000 in
theorem r_Times (a b : Nat) (ha : a < 16) (hb : b < 16) (w : World) :
    Calls Tryd.prog 54 #[.int .u8 (a : Int), .int .u8 (b : Int)] w fun e w' => e = .returned (.int .u8 (gmul a b : Int)) ∧ Ext w w' := by
  go_enter Tryd.func54, Tryd.ntmps54
  go_wp2
  go_loopw [0, 5, 6] (fun x o i wr => ∃ k : Nat, k ≤ 4 ∧ i = .int .i64 (k : Int) ∧ x = .int .u8 ((tchain a b k).2 : Int) ∧ o = .int .u8 ((tchain a b k).1 : Int) ∧ Ext w wr) (fun _ _ i _ => 4 - (intOf i).toNat)
  case atStart => exact ⟨0, by omega, rfl, rfl, rfl, Ext.refl _⟩
  case round =>
    obtain ⟨k, hk, rfl, rfl, rfl, hE⟩ := hrel
    obtain ⟨h1, h2⟩ := tchain_lt ha hb k hk
    obtain ⟨x, hx⟩ : ∃ x, tchain a b k = x := ⟨_, rfl⟩
    rw [hx] at h1 h2 ⊢
    have HX := Lib.hid hx
    clear hx
    obtain ⟨o, c⟩ := x
    simp only at h1 h2 ⊢
    by_cases hk4 : k < 4
    · have e1 : ((b : Int) / 2 ^ k) = ((b >>> k : Nat) : Int) := by rw [Nat.shiftRight_eq_div_pow]; simp
      have e2 : bits .and .u8 ((b : Int) / 2 ^ k) 1 = ((b >>> k % 2 : Nat) : Int) := by
        rw [e1]
        have h := u8_and_nat (b >>> k) 1 (Nat.lt_of_le_of_lt (Nat.shiftRight_le _ _) (by omega)) (by omega)
        rw [Nat.and_one_is_mod] at h
        exact h
      have x1 : bits .xor .u8 ((c : Int) * 2) 19 = (((2 * c) ^^^ 19 : Nat) : Int) := by
        have h := u8_xor_nat (2 * c) 19 (by omega) (by omega)
        rw [Int.natCast_mul, Int.mul_comm] at h
        exact h
      have x2 : bits .xor .u8 (o : Int) (c : Int) = ((o ^^^ c : Nat) : Int) := u8_xor_nat o c (by omega) (by omega)
      have step : tchain a b (k + 1) = (if b >>> k % 2 = 1 then o ^^^ c else o, if 15 < 2 * c then (2 * c) ^^^ 19 else 2 * c) := by
        show tstep b k (tchain a b k) = _
        rw [HX.out]; rfl
      have X1 := Lib.hid x1
      have X2 := Lib.hid x2
      have ST := Lib.hid step
      clear x1 x2 step e1
      by_cases hbit : b >>> k % 2 = 1
      · have t : (bits .and .u8 ((b : Int) / 2 ^ k) 1 == 1) = true := by rw [e2, hbit]; rfl
        have HB := Lib.hid hbit
        clear e2 hbit
        go_wp2
        all_goals go_roundw
        all_goals first
        | exact ⟨k + 1, by omega, by go_num, congrArg (Value.int .u8) (by rw [ST.out, X1.out]; simp only; rw [if_pos (by omega)]), congrArg (Value.int .u8) (by rw [ST.out, X2.out]; simp only; rw [if_pos HB.out]), hE⟩
        | exact ⟨k + 1, by omega, by go_num, congrArg (Value.int .u8) (by rw [ST.out]; simp only; rw [if_neg (by omega)]; omega), congrArg (Value.int .u8) (by rw [ST.out, X2.out]; simp only; rw [if_pos HB.out]), hE⟩
        | (simp [intOf]; omega)
      · have t : (bits .and .u8 ((b : Int) / 2 ^ k) 1 == 1) = false := by
          rw [e2]
          generalize b >>> k % 2 = m at hbit ⊢
          simp; omega
        have HB := Lib.hid hbit
        clear e2 hbit
        go_wp2
        all_goals go_roundw
        all_goals first
        | exact ⟨k + 1, by omega, by go_num, congrArg (Value.int .u8) (by rw [ST.out, X1.out]; simp only; rw [if_pos (by omega)]), congrArg (Value.int .u8) (by rw [ST.out]; simp only; rw [if_neg HB.out]), hE⟩
        | exact ⟨k + 1, by omega, by go_num, congrArg (Value.int .u8) (by rw [ST.out]; simp only; rw [if_neg (by omega)]; omega), congrArg (Value.int .u8) (by rw [ST.out]; simp only; rw [if_neg HB.out]), hE⟩
        | (simp [intOf]; omega)
    · obtain rfl : k = 4 := by omega
      go_wp2
      go_ret
      exact ⟨ret_int (by
        have e : gmul a b = (tchain a b 4).1 := rfl
        rw [e, HX.out]), hE⟩
theorem ginv_first {a : Nat} (ha : a < 16) (a0 : a ≠ 0) : gmul a (ginv a) = 1 ∧ ginv a < 16 ∧ 1 ≤ ginv a ∧ ∀ b, b < 16 → gmul a b = 1 → b = ginv a := by
  have : ∀ a : Fin 16, a.1 ≠ 0 → gmul a (ginv a) = 1 ∧ ginv a < 16 ∧ 1 ≤ ginv a ∧ ∀ b : Fin 16, gmul a b = 1 → b.1 = ginv a := by decide
  obtain ⟨h1, h2, h3, h4⟩ := this ⟨a, ha⟩ a0
  exact ⟨h1, h2, h3, fun b hb hg => h4 ⟨b, hb⟩ hg⟩
set_option maxRecDepth 100000 in
set_option maxHeartbeats 4000000 in
theorem r_Over (a : Nat) (ha : a < 16) (a0 : a ≠ 0) (w : World) :
    Calls Tryd.prog 56 #[.int .u8 (a : Int)] w fun e w' => e = .returned (.int .u8 (ginv a : Int)) ∧ Ext w w' := by
  obtain ⟨g1, g2, g3, g4⟩ := ginv_first ha a0
  have G := Lib.hid (And.intro g1 g4)
  clear g1 g4
  go_enter Tryd.func56, Tryd.ntmps56
  go_wp2
  go_loopw [3] (fun x wr => ∃ b : Nat, 1 ≤ b ∧ b ≤ ginv a ∧ x = .int .u8 (b : Int) ∧ Ext w wr) (fun x _ => 16 - (intOf x).toNat)
  case atStart => exact ⟨1, by omega, by omega, rfl, Ext.refl _⟩
  case round =>
    obtain ⟨b, hb1, hb2, rfl, hE⟩ := hrel
    have ct := fun w => r_Times a b ha (by omega) w
    obtain ⟨r, hr⟩ : ∃ r, gmul a b = r := ⟨_, rfl⟩
    rw [hr] at ct
    have CT := Lib.hid ct
    have HR := Lib.hid hr
    clear ct hr
    by_cases h1 : r = 1
    · have t : ((r : Int) == 1) = true := by rw [h1]; rfl
      have H1 := Lib.hid h1
      clear h1
      go_wp2_with (go_at_call 54; (with_reducible refine (CT.out _).mono ?_); rintro E w1 ⟨rfl, h1⟩)
      go_ret
      exact ⟨ret_int (by rw [G.out.2 b (by omega) (HR.out.trans H1.out)]), (by repeat (first | exact Ext.refl _ | assumption | refine Ext.alloc ?_ _ | refine Ext.drewN ?_ _ | refine ext_grow ?_ _ _ | refine Ext.setCell ?_ (by first | exact Nat.le_refl _ | omega | (simp; done) | (simp; omega)) _ | refine Ext.trans ?_ (by assumption)))⟩
    · have t : ((r : Int) == 1) = false := by simp; omega
      have H1 := Lib.hid h1
      have hlt : b < ginv a := by
        rcases Nat.lt_or_ge b (ginv a) with h | h
        · exact h
        · have e : b = ginv a := by omega
          exact absurd (by rw [← HR.out, e]; exact G.out.1) h1
      clear h1
      go_wp2_with (go_at_call 54; (with_reducible refine (CT.out _).mono ?_); rintro E w1 ⟨rfl, h1⟩)
      go_roundw
      case rel => exact ⟨b + 1, by omega, by omega, by go_num, (by repeat (first | exact Ext.refl _ | assumption | refine Ext.alloc ?_ _ | refine Ext.drewN ?_ _ | refine ext_grow ?_ _ _ | refine Ext.setCell ?_ (by first | exact Nat.le_refl _ | omega | (simp; done) | (simp; omega)) _ | refine Ext.trans ?_ (by assumption)))⟩
      case measure => simp [intOf]; omega
theorem pow_next {i : Nat} (h : i < 29) : powN (i + 1) = gmul (powN i) 2 := by
  have : ∀ i : Fin 29, powN (i + 1) = gmul (powN i) 2 := by decide
  exact this ⟨i, h⟩
set_option maxRecDepth 100000 in
set_option maxHeartbeats 4000000 in
theorem r_Point (i : Nat) (hi : i < 30) (w : World) :
    Calls Tryd.prog 92 #[.int .i64 (i : Int)] w fun e w' => e = .returned (.int .u8 (powN i : Int)) ∧ Ext w w' := by
  go_enter Tryd.func92, Tryd.ntmps92
  go_wp2
  go_loopw [3, 4] (fun x k wr => ∃ j : Nat, j ≤ i ∧ k = .int .i64 (j : Int) ∧ x = .int .u8 (powN j : Int) ∧ Ext w wr) (fun _ k _ => i - (intOf k).toNat)
  case atStart => exact ⟨0, by omega, rfl, rfl, Ext.refl _⟩
  case round =>
    obtain ⟨j, hj, rfl, rfl, hE⟩ := hrel
    by_cases hji : j < i
    · have ct : ∀ w, Calls Tryd.prog 54 #[.int .u8 (powN j : Int), .int .u8 2] w fun e w' => e = .returned (.int .u8 (gmul (powN j) 2 : Int)) ∧ Ext w w' := fun w => r_Times (powN j) 2 (pow_at (by omega)).2 (by omega) w
      rw [← pow_next (by omega)] at ct
      have CT := Lib.hid ct
      clear ct
      go_wp2_with (go_at_call 54; (with_reducible refine (CT.out _).mono ?_); rintro E w1 ⟨rfl, h1⟩)
      go_roundw
      case rel => exact ⟨j + 1, by omega, by go_num, rfl, (by repeat (first | exact Ext.refl _ | assumption | refine Ext.alloc ?_ _ | refine Ext.drewN ?_ _ | refine ext_grow ?_ _ _ | refine Ext.setCell ?_ (by first | exact Nat.le_refl _ | omega | (simp; done) | (simp; omega)) _ | refine Ext.trans ?_ (by assumption)))⟩
      case measure => simp [intOf]; omega
    · obtain rfl : j = i := by omega
      go_wp2
      go_ret
      exact ⟨rfl, hE⟩
end Go.Proofs.YtlnofbdhamingaaDoor

/- Mul and Inverse, the program's and the reference's. -/
namespace Go.Proofs.YtlnofbdhamingaaDoor
open Go.RowKit Go.Sort

/-- what 'Mul' and 'Inverse' answer -/
def mulR (a b : Nat) : Nat × Int := if 15 < a ∨ 15 < b then (0, 2) else (gmul a b, 0)
def invR (a : Nat) : Nat × Int := if a = 0 ∨ 15 < a then (0, 2) else (ginv a, 0)
abbrev symV (r : Nat × Int) : Value := .tuple #[.int .u8 (r.1 : Int), .int .i64 r.2]
theorem nat_u8 {x : Int} (h0 : 0 ≤ x) : ∃ n : Nat, x = n := ⟨x.toNat, by omega⟩
set_option maxHeartbeats 2000000 in
theorem mul_any (f g : FuncId) (hf : (f = 18 ∧ g = 53) ∨ (f = 19 ∧ g = 54)) (a b : Nat) (w : World)
    (k : a < 16 → b < 16 → ∀ w0, w0 = w → Calls Tryd.prog g #[.int .u8 (a : Int), .int .u8 (b : Int)] w0 fun e w' => e = .returned (.int .u8 (gmul a b : Int)) ∧ Ext w0 w') :
    Calls Tryd.prog f #[.int .u8 (a : Int), .int .u8 (b : Int)] w fun e w' => e = .returned (symV (mulR a b)) ∧ Ext w w' := by
  by_cases h1 : 15 < a
  · rw [show mulR a b = (0, 2) from if_pos (.inl h1)]
    have t1 : decide (15 < (a : Int)) = true := decide_eq_true (by omega)
    clear k
    rcases hf with ⟨rfl, rfl⟩ | ⟨rfl, rfl⟩
    · go_enter Tryd.func18, Tryd.ntmps18
      go_wp2
      go_ret2
      exact ⟨rfl, Ext.refl _⟩
    · go_enter Tryd.func19, Tryd.ntmps19
      go_wp2
      go_ret2
      exact ⟨rfl, Ext.refl _⟩
  have t1 : decide (15 < (a : Int)) = false := decide_eq_false (by omega)
  by_cases h2 : 15 < b
  · rw [show mulR a b = (0, 2) from if_pos (.inr h2)]
    have t2 : decide (15 < (b : Int)) = true := decide_eq_true (by omega)
    clear k
    rcases hf with ⟨rfl, rfl⟩ | ⟨rfl, rfl⟩
    · go_enter Tryd.func18, Tryd.ntmps18
      go_wp2
      go_ret2
      exact ⟨rfl, Ext.refl _⟩
    · go_enter Tryd.func19, Tryd.ntmps19
      go_wp2
      go_ret2
      exact ⟨rfl, Ext.refl _⟩
  have t2 : decide (15 < (b : Int)) = false := decide_eq_false (by omega)
  rw [show mulR a b = (gmul a b, 0) from if_neg (by omega)]
  have K := Lib.hid (k (by omega) (by omega) w rfl)
  clear k
  rcases hf with ⟨rfl, rfl⟩ | ⟨rfl, rfl⟩
  · go_enter Tryd.func18, Tryd.ntmps18
    go_wp2_with (go_at_call 53; (with_reducible refine K.out.mono ?_); rintro E w1 ⟨rfl, hb1⟩)
    go_ret2
    exact ⟨rfl, hb1⟩
  · go_enter Tryd.func19, Tryd.ntmps19
    go_wp2_with (go_at_call 54; (with_reducible refine K.out.mono ?_); rintro E w1 ⟨rfl, hb1⟩)
    go_ret2
    exact ⟨rfl, hb1⟩
theorem c_Mul (a b : Nat) (w : World) (hT : Tabs w) : Calls Tryd.prog 18 #[.int .u8 (a : Int), .int .u8 (b : Int)] w fun e w' => e = .returned (symV (mulR a b)) ∧ Ext w w' :=
  mul_any _ _ (.inl ⟨rfl, rfl⟩) a b w (fun ha hb w0 e => c_mul a b ha hb w0 (e ▸ hT))
theorem r_Mul (a b : Nat) (w : World) : Calls Tryd.prog 19 #[.int .u8 (a : Int), .int .u8 (b : Int)] w fun e w' => e = .returned (symV (mulR a b)) ∧ Ext w w' :=
  mul_any _ _ (.inr ⟨rfl, rfl⟩) a b w (fun ha hb w0 _ => r_Times a b ha hb w0)
set_option maxHeartbeats 2000000 in
theorem inv_any (f g : FuncId) (hf : (f = 20 ∧ g = 55) ∨ (f = 21 ∧ g = 56)) (a : Nat) (w : World)
    (k : a < 16 → a ≠ 0 → ∀ w0, w0 = w → Calls Tryd.prog g #[.int .u8 (a : Int)] w0 fun e w' => e = .returned (.int .u8 (ginv a : Int)) ∧ Ext w0 w') :
    Calls Tryd.prog f #[.int .u8 (a : Int)] w fun e w' => e = .returned (symV (invR a)) ∧ Ext w w' := by
  by_cases h0 : a = 0
  · rw [show invR a = (0, 2) from if_pos (.inl h0)]
    have t1 : ((a : Int) == 0) = true := by simp; omega
    clear k h0
    rcases hf with ⟨rfl, rfl⟩ | ⟨rfl, rfl⟩
    · go_enter Tryd.func20, Tryd.ntmps20
      go_wp2
      go_ret2
      exact ⟨rfl, Ext.refl _⟩
    · go_enter Tryd.func21, Tryd.ntmps21
      go_wp2
      go_ret2
      exact ⟨rfl, Ext.refl _⟩
  have t0 : ((a : Int) == 0) = false := by simp; omega
  by_cases h1 : 15 < a
  · rw [show invR a = (0, 2) from if_pos (.inr h1)]
    have t1 : decide (15 < (a : Int)) = true := decide_eq_true (by omega)
    have H0 := Lib.hid h0
    clear k h0
    rcases hf with ⟨rfl, rfl⟩ | ⟨rfl, rfl⟩
    · go_enter Tryd.func20, Tryd.ntmps20
      go_wp2
      go_ret2
      exact ⟨rfl, Ext.refl _⟩
    · go_enter Tryd.func21, Tryd.ntmps21
      go_wp2
      go_ret2
      exact ⟨rfl, Ext.refl _⟩
  have t1 : decide (15 < (a : Int)) = false := decide_eq_false (by omega)
  rw [show invR a = (ginv a, 0) from if_neg (by omega)]
  have K := Lib.hid (k (by omega) h0 w rfl)
  have H0 := Lib.hid h0
  clear k h0
  rcases hf with ⟨rfl, rfl⟩ | ⟨rfl, rfl⟩
  · go_enter Tryd.func20, Tryd.ntmps20
    go_wp2_with (go_at_call 55; (with_reducible refine K.out.mono ?_); rintro E w1 ⟨rfl, hb1⟩)
    go_ret2
    exact ⟨rfl, hb1⟩
  · go_enter Tryd.func21, Tryd.ntmps21
    go_wp2_with (go_at_call 56; (with_reducible refine K.out.mono ?_); rintro E w1 ⟨rfl, hb1⟩)
    go_ret2
    exact ⟨rfl, hb1⟩
theorem c_Inverse (a : Nat) (w : World) (hT : Tabs w) : Calls Tryd.prog 20 #[.int .u8 (a : Int)] w fun e w' => e = .returned (symV (invR a)) ∧ Ext w w' :=
  inv_any _ _ (.inl ⟨rfl, rfl⟩) a w (fun ha _ w0 e => c_inverse a ha w0 (e ▸ hT))
theorem r_Inverse (a : Nat) (w : World) : Calls Tryd.prog 21 #[.int .u8 (a : Int)] w fun e w' => e = .returned (symV (invR a)) ∧ Ext w w' :=
  inv_any _ _ (.inr ⟨rfl, rfl⟩) a w (fun ha a0 w0 _ => r_Over a ha a0 w0)
end Go.Proofs.YtlnofbdhamingaaDoor

/- Which lists are symbols, and which are messages. -/
namespace Go.Proofs.YtlnofbdhamingaaDoor
open Go.RowKit Go.Sort

def allSym (l : List Nat) : Bool := l.all fun n => decide (n ≤ 15)
def isMessage (l : List Nat) : Bool := decide (1 ≤ l.length) && decide (l.length ≤ 13) && allSym l
theorem all_yes {l : List Nat} (h : ∀ j, j < l.length → l.getD j 0 ≤ 15) : allSym l = true := by
  unfold allSym
  rw [List.all_eq_true]
  intro x hx
  obtain ⟨j, hj, e⟩ := List.getElem_of_mem hx
  have := h j hj
  rw [List.getD_eq_getElem?_getD, List.getElem?_eq_getElem hj, Option.getD_some, e] at this
  exact decide_eq_true this
theorem all_no {l : List Nat} {j : Nat} (hj : j < l.length) (h : ¬ l.getD j 0 ≤ 15) : allSym l = false := by
  unfold allSym
  rw [List.all_eq_false]
  refine ⟨l[j], List.getElem_mem hj, ?_⟩
  rw [List.getD_eq_getElem?_getD, List.getElem?_eq_getElem hj, Option.getD_some] at h
  simpa using h
set_option maxRecDepth 100000 in
set_option maxHeartbeats 4000000 in
theorem r_symbols (v : Value) (l : List Nat) (w : World) (hv : BytesAt w v l) (hl : l.length ≤ maxLen) :
    Calls Tryd.prog 84 #[v] w fun e w' => e = .returned (.bool (allSym l)) ∧ Ext w w' := by
  have hm : maxLen = 9223372036854775807 := rfl
  rw [hm] at hl
  rcases hv.cases with ⟨rfl, ao, cap, rfl, -, -⟩ | ⟨h0, b, off, cap, rfl, -, -, hc⟩
  · go_enter Tryd.func84, Tryd.ntmps84
    go_wp2
    go_loopw [3] (fun i wr => i = .int .i64 0 ∧ Ext w wr) (fun i _ => 0)
    case atStart => exact ⟨rfl, Ext.refl _⟩
    case round =>
      obtain ⟨rfl, hE⟩ := hrel
      go_wp2
      go_ret
      exact ⟨rfl, hE⟩
  · have HC := Lib.hid hc
    clear hc
    go_enter Tryd.func84, Tryd.ntmps84
    go_wp2
    go_loopw [3] (fun i wr => ∃ k : Nat, k ≤ l.length ∧ i = .int .i64 (k : Int) ∧ Ext w wr ∧ Hid (∀ j, j < k → l.getD j 0 ≤ 15)) (fun i _ => l.length - (intOf i).toNat)
    case atStart => exact ⟨0, by omega, rfl, Ext.refl _, Lib.hid (fun j hj => by omega)⟩
    case round =>
      obtain ⟨k, hk, rfl, hE, hs⟩ := hrel
      by_cases hkl : k < l.length
      · have c0 := hE.get (HC.out k hkl)
        obtain ⟨x, hx⟩ : ∃ x, l.getD k 0 = x := ⟨_, rfl⟩
        rw [hx] at c0
        have HX := Lib.hid hx
        clear hx
        by_cases hx15 : 15 < x
        · have t : decide (15 < (x : Int)) = true := decide_eq_true (by omega)
          go_wp2
          go_ret
          exact ⟨ret_bool (all_no hkl (by rw [HX.out]; omega)).symm, hE⟩
        · have t : decide (15 < (x : Int)) = false := decide_eq_false (by omega)
          go_wp2
          go_roundw
          case rel => exact ⟨k + 1, by omega, by go_num, hE, Lib.hid (fun j hj => by
            by_cases e : j = k
            · subst e; rw [HX.out]; omega
            · exact hs.out j (by omega))⟩
          case measure => simp [intOf]; omega
      · go_wp2
        go_ret
        exact ⟨ret_bool (all_yes (fun j hj => hs.out j (by omega))).symm, hE⟩
theorem c_above (x : Nat) (w : World) : Calls Tryd.prog 94 #[.int .u8 (x : Int)] w fun e w' => e = .returned (.bool (decide (15 < (x : Int)))) ∧ Ext w w' := by
  go_enter Tryd.func94, Tryd.ntmps94
  go_wp2
  go_ret
  exact ⟨rfl, Ext.refl _⟩
set_option maxRecDepth 100000 in
set_option maxHeartbeats 4000000 in
theorem c_indexFunc (v : Value) (l : List Nat) (w : World) (hv : BytesAt w v l) (hl : l.length ≤ maxLen) :
    Calls Tryd.prog 121 #[v, .func (.func 94) #[] #[]] w fun e w' => ∃ r : Int, e = .returned (.int .i64 r) ∧ decide (0 ≤ r) = !allSym l ∧ Ext w w' := by
  have hm : maxLen = 9223372036854775807 := rfl
  rw [hm] at hl
  rcases hv.cases with ⟨rfl, ao, cap, rfl, -, -⟩ | ⟨h0, b, off, cap, rfl, -, -, hc⟩
  · go_enter Tryd.func121, Tryd.ntmps121
    go_wp2
    go_loopw [8] (fun i wr => i = .int .i64 0 ∧ Ext w wr) (fun i _ => 0)
    case atStart => exact ⟨rfl, Ext.refl _⟩
    case round =>
      obtain ⟨rfl, hE⟩ := hrel
      go_wp2
      go_ret
      exact ⟨-1, rfl, rfl, hE⟩
  · have HC := Lib.hid hc
    clear hc
    go_enter Tryd.func121, Tryd.ntmps121
    go_wp2
    go_loopw [8] (fun i wr => ∃ k : Nat, k ≤ l.length ∧ i = .int .i64 (k : Int) ∧ Ext w wr ∧ Hid (∀ j, j < k → l.getD j 0 ≤ 15)) (fun i _ => l.length - (intOf i).toNat)
    case atStart => exact ⟨0, by omega, rfl, Ext.refl _, Lib.hid (fun j hj => by omega)⟩
    case round =>
      obtain ⟨k, hk, rfl, hE, hs⟩ := hrel
      by_cases hkl : k < l.length
      · have c0 := hE.get (HC.out k hkl)
        obtain ⟨x, hx⟩ : ∃ x, l.getD k 0 = x := ⟨_, rfl⟩
        rw [hx] at c0
        have HX := Lib.hid hx
        clear hx
        have ca := fun w => c_above x w
        by_cases hx15 : 15 < x
        · have t : decide (15 < (x : Int)) = true := decide_eq_true (by omega)
          rw [t] at ca
          have CA := Lib.hid ca
          clear ca
          go_wp2_with (go_at_call 94; (with_reducible refine (CA.out _).mono ?_); rintro E w1 ⟨rfl, h1⟩)
          go_ret
          exact ⟨k, rfl, by rw [all_no hkl (by rw [HX.out]; omega)]; exact decide_eq_true (by omega), (by repeat (first | exact Ext.refl _ | assumption | refine Ext.alloc ?_ _ | refine Ext.drewN ?_ _ | refine ext_grow ?_ _ _ | refine Ext.setCell ?_ (by first | exact Nat.le_refl _ | omega | (simp; done) | (simp; omega)) _ | refine Ext.trans ?_ (by assumption)))⟩
        · have t : decide (15 < (x : Int)) = false := decide_eq_false (by omega)
          rw [t] at ca
          have CA := Lib.hid ca
          clear ca
          go_wp2_with (go_at_call 94; (with_reducible refine (CA.out _).mono ?_); rintro E w1 ⟨rfl, h1⟩)
          go_roundw
          case rel => exact ⟨k + 1, by omega, by go_num, (by repeat (first | exact Ext.refl _ | assumption | refine Ext.alloc ?_ _ | refine Ext.drewN ?_ _ | refine ext_grow ?_ _ _ | refine Ext.setCell ?_ (by first | exact Nat.le_refl _ | omega | (simp; done) | (simp; omega)) _ | refine Ext.trans ?_ (by assumption))), Lib.hid (fun j hj => by
            by_cases e : j = k
            · subst e; rw [HX.out]; omega
            · exact hs.out j (by omega))⟩
          case measure => simp [intOf]; omega
      · go_wp2
        go_ret
        exact ⟨-1, rfl, by rw [all_yes (fun j hj => hs.out j (by omega))]; rfl, hE⟩
set_option maxHeartbeats 2000000 in
theorem c_containsFunc (v : Value) (l : List Nat) (w : World) (hv : BytesAt w v l) (hl : l.length ≤ maxLen) :
    Calls Tryd.prog 93 #[v, .func (.func 94) #[] #[]] w fun e w' => e = .returned (.bool (!allSym l)) ∧ Ext w w' := by
  have CI := Lib.hid (c_indexFunc v l w hv hl)
  clear hv
  go_enter Tryd.func93, Tryd.ntmps93
  go_wp2_with (go_at_call 121; (with_reducible refine CI.out.mono ?_); rintro E w1 ⟨r, rfl, hr, h1⟩)
  go_ret
  exact ⟨ret_bool (by first | rfl | exact hr), h1⟩
set_option maxHeartbeats 2000000 in
theorem c_symbols (v : Value) (l : List Nat) (w : World) (hv : BytesAt w v l) (hl : l.length ≤ maxLen) :
    Calls Tryd.prog 60 #[v] w fun e w' => e = .returned (.bool (allSym l)) ∧ Ext w w' := by
  have CI := Lib.hid (c_containsFunc v l w hv hl)
  clear hv
  go_enter Tryd.func60, Tryd.ntmps60
  go_wp2_with (go_at_call 93; (with_reducible refine CI.out.mono ?_); rintro E w1 ⟨rfl, h1⟩)
  go_ret
  exact ⟨ret_bool (by simp), h1⟩
set_option maxHeartbeats 4000000 in
theorem message_any (f g : FuncId) (hf : (f = 57 ∧ g = 60) ∨ (f = 39 ∧ g = 84)) (v : Value) (l : List Nat) (w : World) (hv : BytesAt w v l) (hl : l.length ≤ maxLen)
    (k : Calls Tryd.prog g #[v] w fun e w' => e = .returned (.bool (allSym l)) ∧ Ext w w') :
    Calls Tryd.prog f #[v] w fun e w' => e = .returned (.bool (isMessage l)) ∧ Ext w w' := by
  have hm : maxLen = 9223372036854775807 := rfl
  rw [hm] at hl
  obtain ⟨ao, cap, rfl, hcap, -⟩ := hv.form
  clear hv
  have K := Lib.hid k
  clear k
  obtain ⟨r, hr⟩ : ∃ r, isMessage l = r := ⟨_, rfl⟩
  rw [hr]
  unfold isMessage at hr
  by_cases h1 : 1 ≤ l.length
  · have t1 : decide (1 ≤ (l.length : Int)) = true := decide_eq_true (by omega)
    by_cases h2 : l.length ≤ 13
    · have t2 : decide ((l.length : Int) ≤ 13) = true := decide_eq_true (by omega)
      have HR := Lib.hid (show allSym l = r by rw [← hr, decide_eq_true h1, decide_eq_true h2]; rfl)
      clear hr
      rcases hf with ⟨rfl, rfl⟩ | ⟨rfl, rfl⟩
      · go_enter Tryd.func57, Tryd.ntmps57
        go_wp2_with (go_at_call 60; (with_reducible refine K.out.mono ?_); rintro E w1 ⟨rfl, hb1⟩)
        go_ret
        exact ⟨ret_bool HR.out, hb1⟩
      · go_enter Tryd.func39, Tryd.ntmps39
        go_wp2_with (go_at_call 84; (with_reducible refine K.out.mono ?_); rintro E w1 ⟨rfl, hb1⟩)
        go_ret
        exact ⟨ret_bool HR.out, hb1⟩
    · have t2 : decide ((l.length : Int) ≤ 13) = false := decide_eq_false (by omega)
      obtain rfl : r = false := by rw [← hr, decide_eq_false h2]; simp
      clear hr
      rcases hf with ⟨rfl, rfl⟩ | ⟨rfl, rfl⟩
      · go_enter Tryd.func57, Tryd.ntmps57
        go_wp2
        go_ret
        exact ⟨rfl, Ext.refl _⟩
      · go_enter Tryd.func39, Tryd.ntmps39
        go_wp2
        go_ret
        exact ⟨rfl, Ext.refl _⟩
  · have t1 : decide (1 ≤ (l.length : Int)) = false := decide_eq_false (by omega)
    obtain rfl : r = false := by rw [← hr, decide_eq_false h1]; simp
    clear hr
    rcases hf with ⟨rfl, rfl⟩ | ⟨rfl, rfl⟩
    · go_enter Tryd.func57, Tryd.ntmps57
      go_wp2
      go_ret
      exact ⟨rfl, Ext.refl _⟩
    · go_enter Tryd.func39, Tryd.ntmps39
      go_wp2
      go_ret
      exact ⟨rfl, Ext.refl _⟩
theorem c_message (v : Value) (l : List Nat) (w : World) (hv : BytesAt w v l) (hl : l.length ≤ maxLen) : Calls Tryd.prog 57 #[v] w fun e w' => e = .returned (.bool (isMessage l)) ∧ Ext w w' :=
  message_any _ _ (.inl ⟨rfl, rfl⟩) v l w hv hl (c_symbols v l w hv hl)
theorem r_Message (v : Value) (l : List Nat) (w : World) (hv : BytesAt w v l) (hl : l.length ≤ maxLen) : Calls Tryd.prog 39 #[v] w fun e w' => e = .returned (.bool (isMessage l)) ∧ Ext w w' :=
  message_any _ _ (.inr ⟨rfl, rfl⟩) v l w hv hl (r_symbols v l w hv hl)
end Go.Proofs.YtlnofbdhamingaaDoor

/- Values of polynomials: the program's and the reference's. -/
namespace Go.Proofs.YtlnofbdhamingaaDoor
open Go.RowKit Go.Sort

def Syms (l : List Nat) : Prop := ∀ x ∈ l, x < 16
theorem syms_of {l : List Nat} (h : allSym l = true) : Syms l := by
  intro x hx
  have := List.all_eq_true.1 h x hx
  have := of_decide_eq_true this
  omega
/-- the value of a polynomial, the lowest factor first -/
def gval (l : List Nat) (x : Nat) : Nat := l.foldr (fun c acc => gmul acc x ^^^ c) 0
theorem xor_lt {a b : Nat} (ha : a < 16) (hb : b < 16) : a ^^^ b < 16 := Nat.xor_lt_two_pow (n := 4) ha hb
theorem gval_lt {l : List Nat} {x : Nat} (hl : Syms l) (hx : x < 16) : gval l x < 16 := by
  induction l with
  | nil => show 0 < 16; omega
  | cons c l ih => exact xor_lt (gmul_lt (ih (fun y hy => hl y (by simp [hy]))) hx) (hl c (by simp))
theorem gmul_comm {a b : Nat} (ha : a < 16) (hb : b < 16) : gmul a b = gmul b a := by
  have : ∀ a b : Fin 16, gmul a b = gmul b a := by decide
  exact this ⟨a, ha⟩ ⟨b, hb⟩
theorem gmul_assoc {a b c : Nat} (ha : a < 16) (hb : b < 16) (hc : c < 16) : gmul (gmul a b) c = gmul a (gmul b c) := by
  have : ∀ a b c : Fin 16, gmul (gmul a b) c = gmul a (gmul b c) := by decide +kernel
  exact this ⟨a, ha⟩ ⟨b, hb⟩ ⟨c, hc⟩
theorem gmul_xor {a b c : Nat} (ha : a < 16) (hb : b < 16) (hc : c < 16) : gmul a (b ^^^ c) = gmul a b ^^^ gmul a c := by
  have : ∀ a b c : Fin 16, gmul a (b ^^^ c) = gmul a b ^^^ gmul a c := by decide +kernel
  exact this ⟨a, ha⟩ ⟨b, hb⟩ ⟨c, hc⟩
theorem gmul_one {a : Nat} (ha : a < 16) : gmul 1 a = a := by
  have : ∀ a : Fin 16, gmul 1 a = a := by decide
  exact this ⟨a, ha⟩
/-- the sum of the factors times powers, from a power on -/
def gsum (pw x : Nat) : List Nat → Nat
  | [] => 0
  | c :: l => gmul c pw ^^^ gsum (gmul pw x) x l
theorem gsum_val : ∀ (l : List Nat) (pw x : Nat), Syms l → pw < 16 → x < 16 → gsum pw x l = gmul pw (gval l x)
  | [], pw, x, _, hp, _ => (gmul_zero hp).1.symm
  | c :: l, pw, x, hl, hp, hx => by
    have hc : c < 16 := hl c (by simp)
    have hl' : Syms l := fun y hy => hl y (by simp [hy])
    have hg := gval_lt hl' hx
    show gmul c pw ^^^ gsum (gmul pw x) x l = gmul pw (gmul (gval l x) x ^^^ c)
    rw [gsum_val l _ x hl' (gmul_lt hp hx) hx, gmul_xor hp (gmul_lt hg hx) hc, gmul_comm hc hp, gmul_assoc hp hx hg, gmul_comm hx hg, Nat.xor_comm]
theorem getD_mem {l : List Nat} (hl : Syms l) {k : Nat} (hk : k < l.length) : l.getD k 0 < 16 := by
  rw [List.getD_eq_getElem?_getD, List.getElem?_eq_getElem hk]
  exact hl _ (List.getElem_mem hk)
theorem drop_get {l : List Nat} {k : Nat} (hk : k < l.length) : l.drop k = l.getD k 0 :: l.drop (k + 1) := by
  rw [List.drop_eq_getElem_cons hk, List.getD_eq_getElem?_getD, List.getElem?_eq_getElem hk]; rfl
set_option maxRecDepth 100000 in
set_option maxHeartbeats 4000000 in
theorem r_valueOf (v : Value) (l : List Nat) (x : Nat) (w : World) (hv : BytesAt w v l) (hl : l.length ≤ 1000) (hs : Syms l) (hx : x < 16) :
    Calls Tryd.prog 91 #[v, .int .u8 (x : Int)] w fun e w' => e = .returned (.int .u8 (gval l x : Int)) ∧ Ext w w' := by
  have htot : gsum 1 x l = gval l x := by rw [gsum_val l 1 x hs (by omega) hx, gmul_one (gval_lt hs hx)]
  have HT := Lib.hid htot
  clear htot
  obtain ⟨ao, cap, rfl, -, hc⟩ := hv.form
  have HC := Lib.hid hc
  have HV := Lib.hid hv
  clear hc hv
  go_enter Tryd.func91, Tryd.ntmps91
  go_wp2
  go_loopw [5, 6, 7] (fun o p i wr => ∃ k out pw : Nat, k ≤ l.length ∧ i = .int .i64 (k : Int) ∧ o = .int .u8 (out : Int) ∧ p = .int .u8 (pw : Int) ∧ out < 16 ∧ pw < 16 ∧ Ext w wr ∧ Hid (out ^^^ gsum pw x (l.drop k) = gsum 1 x l)) (fun _ _ i _ => l.length - (intOf i).toNat)
  case atStart => exact ⟨0, 0, 1, by omega, rfl, rfl, rfl, by omega, by omega, Ext.refl _, Lib.hid (by simp)⟩
  case round =>
    obtain ⟨k, out, pw, hk, rfl, rfl, rfl, ho, hp, hE, hI⟩ := hrel
    by_cases hkl : k < l.length
    · obtain ⟨b, off, rfl, c0⟩ := HC.out k hkl
      have c0 := hE.get c0
      have hy := getD_mem hs hkl
      have hd := drop_get hkl
      obtain ⟨y, hyy⟩ : ∃ y, l.getD k 0 = y := ⟨_, rfl⟩
      rw [hyy] at c0 hy hd
      have HD := Lib.hid hd
      clear hd hyy
      have CT := Lib.hid (fun w => r_Times y pw hy hp w)
      have CP := Lib.hid (fun w => r_Times pw x hp hx w)
      have g1 := gmul_lt hy hp
      have g2 := gmul_lt hp hx
      have x1 : bits .xor .u8 (out : Int) (gmul y pw : Int) = ((out ^^^ gmul y pw : Nat) : Int) := u8_xor_nat _ _ (by omega) (by omega)
      have X1 := Lib.hid x1
      have g3 := xor_lt ho g1
      clear x1
      go_wp2_with (first | (go_at_call 54; (with_reducible refine (CT.out _).mono ?_); rintro E w1 ⟨rfl, h1⟩) | (go_at_call 54; (with_reducible refine (CP.out _).mono ?_); rintro E w2 ⟨rfl, h2⟩))
      go_roundw
      case rel => exact ⟨k + 1, out ^^^ gmul y pw, gmul pw x, by omega, by go_num, congrArg (Value.int .u8) X1.out, rfl, g3, g2, (by repeat (first | exact Ext.refl _ | assumption | refine Ext.alloc ?_ _ | refine Ext.drewN ?_ _ | refine ext_grow ?_ _ _ | refine Ext.setCell ?_ (by first | exact Nat.le_refl _ | omega | (simp; done) | (simp; omega)) _ | refine Ext.trans ?_ (by assumption))), Lib.hid (by
        rw [← hI.out, HD.out]
        show _ = out ^^^ (gmul y pw ^^^ gsum (gmul pw x) x (l.drop (k + 1)))
        rw [Nat.xor_assoc])⟩
      case measure => simp [intOf]; omega
    · go_wp2
      go_ret
      have e : l.drop k = [] := List.drop_eq_nil_of_le (by omega)
      exact ⟨ret_int (by
        have h := hI.out
        rw [e, HT.out] at h
        rw [← h]; simp [gsum]), hE⟩
end Go.Proofs.YtlnofbdhamingaaDoor

/- Polynomials over the sixteen symbols: roots, products, leading factors. No program in sight. -/
namespace Go.Proofs.YtlnofbdhamingaaDoor
open Go.RowKit Go.Sort

theorem gmul_ne {a b : Nat} (ha : a < 16) (hb : b < 16) (h : gmul a b = 0) : a = 0 ∨ b = 0 := by
  have : ∀ a b : Fin 16, gmul a b = 0 → a.1 = 0 ∨ b.1 = 0 := by decide
  exact this ⟨a, ha⟩ ⟨b, hb⟩ h
theorem gmul_inv {a : Nat} (ha : a < 16) (h : a ≠ 0) : gmul a (ginv a) = 1 ∧ ginv a < 16 ∧ ginv a ≠ 0 := by
  have : ∀ a : Fin 16, a.1 ≠ 0 → gmul a (ginv a) = 1 ∧ ginv a < 16 ∧ ginv a ≠ 0 := by decide
  exact this ⟨a, ha⟩ h
theorem xor_eq_zero {a b : Nat} (h : a ^^^ b = 0) : a = b := by
  have := congrArg (· ^^^ b) h
  simpa [Nat.xor_assoc] using this
theorem xor_xor (a b : Nat) : a ^^^ (a ^^^ b) = b := by rw [← Nat.xor_assoc, Nat.xor_self, Nat.zero_xor]
theorem gmul_xor' {a b c : Nat} (ha : a < 16) (hb : b < 16) (hc : c < 16) : gmul (b ^^^ c) a = gmul b a ^^^ gmul c a := by
  rw [gmul_comm (xor_lt hb hc) ha, gmul_xor ha hb hc, gmul_comm ha hb, gmul_comm ha hc]
theorem Syms.tail {c : Nat} {l : List Nat} (h : Syms (c :: l)) : Syms l := fun x hx => h x (by simp [hx])
theorem Syms.head {c : Nat} {l : List Nat} (h : Syms (c :: l)) : c < 16 := h c (by simp)
theorem Syms.cons {c : Nat} {l : List Nat} (h : c < 16) (k : Syms l) : Syms (c :: l) := fun x hx => by
  rcases List.mem_cons.1 hx with rfl | h9
  · exact h
  · exact k x h9
theorem gval_cons (c : Nat) (l : List Nat) (x : Nat) : gval (c :: l) x = gmul (gval l x) x ^^^ c := rfl

/-! ### roots -/
/-- divided by x + r, without the rest -/
def divr (r : Nat) : List Nat → List Nat
  | [] => []
  | [_] => []
  | _ :: c :: l => gval (c :: l) r :: divr r (c :: l)
theorem divr_len (r : Nat) : ∀ l, (divr r l).length = l.length - 1
  | [] => rfl
  | [_] => rfl
  | _ :: c :: l => by simp [divr, divr_len r (c :: l)]
theorem divr_syms {r : Nat} (hr : r < 16) : ∀ {l}, Syms l → Syms (divr r l)
  | [], h => h
  | [_], _ => fun x hx => by simp [divr] at hx
  | _ :: c :: l, h => Syms.cons (gval_lt h.tail hr) (divr_syms hr h.tail)
theorem divr_val {r x : Nat} (hr : r < 16) (hx : x < 16) : ∀ {l}, Syms l → gval l x = gmul (x ^^^ r) (gval (divr r l) x) ^^^ gval l r
  | [], _ => by show 0 = gmul (x ^^^ r) 0 ^^^ 0; rw [(gmul_zero (xor_lt hx hr)).1, Nat.xor_self]
  | [c], h => by
    show gmul 0 x ^^^ c = gmul (x ^^^ r) 0 ^^^ (gmul 0 r ^^^ c)
    rw [(gmul_zero (xor_lt hx hr)).1, (gmul_zero hx).2, (gmul_zero hr).2]
    simp
  | a :: c :: l, h => by
    have h1 := h.tail
    have ih := divr_val hr hx h1
    have g1 := gval_lt h1 hx
    have g2 := gval_lt h1 hr
    have g3 := gval_lt (divr_syms hr h1) hx
    rw [gval_cons a, gval_cons a, ih]
    show _ = gmul (x ^^^ r) (gmul (gval (divr r (c :: l)) x) x ^^^ gval (c :: l) r) ^^^ _
    generalize gval (c :: l) r = L at *
    generalize gval (divr r (c :: l)) x = Q at *
    have hxr := xor_lt hx hr
    rw [gmul_xor' hx (gmul_lt hxr g3) g2, gmul_xor hxr (gmul_lt g3 hx) g2, gmul_xor' g2 hx hr, gmul_assoc hxr g3 hx, gmul_comm g2 hx, gmul_comm g2 hr]
    generalize gmul (x ^^^ r) (gmul Q x) = A
    generalize gmul x L = B
    generalize gmul r L = C
    rw [show A ^^^ (B ^^^ C) ^^^ (C ^^^ a) = A ^^^ B ^^^ (C ^^^ C) ^^^ a by simp only [Nat.xor_assoc], Nat.xor_self, Nat.xor_zero]
def AllZ (l : List Nat) : Prop := ∀ x ∈ l, x = 0
theorem divr_zero {r : Nat} (hr : r < 16) : ∀ {l}, Syms l → gval l r = 0 → AllZ (divr r l) → AllZ l
  | [], _, _, _ => fun x hx => by simp at hx
  | [c], h, h1, _ => fun x hx => by
    have : gmul 0 r ^^^ c = 0 := h1
    rw [(gmul_zero hr).2, Nat.zero_xor] at this
    simp at hx
    omega
  | a :: c :: l, h, h1, h2 => by
    have k1 : gval (c :: l) r = 0 := h2 _ (by simp [divr])
    have k2 := divr_zero hr h.tail k1 fun x hx => h2 x (by simp [divr, hx])
    rw [gval_cons, k1, (gmul_zero hr).2, Nat.zero_xor] at h1
    intro x hx
    rcases List.mem_cons.1 hx with rfl | h9
    · exact h1
    · exact k2 x h9
theorem gval_zero {l : List Nat} (h : AllZ l) {x : Nat} (hx : x < 16) : gval l x = 0 := by
  induction l with
  | nil => rfl
  | cons c l ih => rw [gval_cons, ih fun y hy => h y (by simp [hy]), h c (by simp), (gmul_zero hx).2]; rfl
/-- as many roots as factors: it is 0 -/
theorem roots_zero : ∀ (rs : List Nat) (l : List Nat), Syms l → rs.Nodup → (∀ r ∈ rs, r < 16 ∧ gval l r = 0) → l.length ≤ rs.length → AllZ l
  | [], l, _, _, _, hl => by
    have : l = [] := List.eq_nil_of_length_eq_zero (by simpa using hl)
    subst this
    intro x hx
    simp at hx
  | r :: rs, l, h, hn, hr, hl => by
    obtain ⟨hn1, hn2⟩ := List.nodup_cons.1 hn
    have r0 := hr r (by simp)
    refine divr_zero r0.1 h r0.2 (roots_zero rs _ (divr_syms r0.1 h) hn2 (fun s hs => ?_) (by rw [divr_len]; simp at hl; omega))
    have s0 := hr s (by simp [hs])
    have e := divr_val r0.1 s0.1 h
    rw [r0.2, s0.2, Nat.xor_zero] at e
    refine ⟨s0.1, ?_⟩
    rcases gmul_ne (xor_lt s0.1 r0.1) (gval_lt (divr_syms r0.1 h) s0.1) e.symm with h9 | h9
    · exact absurd (xor_eq_zero h9 ▸ hs) hn1
    · exact h9

/-! ### sums and products -/
def padd : List Nat → List Nat → List Nat
  | [], b => b
  | a, [] => a
  | x :: a, y :: b => (x ^^^ y) :: padd a b
theorem padd_len : ∀ a b, (padd a b).length = max a.length b.length
  | [], b => by simp [padd]
  | _ :: _, [] => by simp [padd]
  | x :: a, y :: b => by simp [padd, padd_len a b, Nat.succ_max_succ]
theorem padd_syms : ∀ {a b}, Syms a → Syms b → Syms (padd a b)
  | [], _, _, hb => by simpa [padd] using hb
  | _ :: _, [], ha, _ => by simpa [padd] using ha
  | x :: a, y :: b, ha, hb => Syms.cons (xor_lt ha.head hb.head) (padd_syms ha.tail hb.tail)
theorem padd_val {x : Nat} (hx : x < 16) : ∀ {a b}, Syms a → Syms b → gval (padd a b) x = gval a x ^^^ gval b x
  | [], b, _, _ => by simp [padd, gval]
  | _ :: _, [], _, _ => by simp [padd, gval]
  | c :: a, d :: b, ha, hb => by
    have h := padd_val hx ha.tail hb.tail
    show gmul (gval (padd a b) x) x ^^^ (c ^^^ d) = (gmul (gval a x) x ^^^ c) ^^^ (gmul (gval b x) x ^^^ d)
    rw [h, gmul_xor' hx (gval_lt ha.tail hx) (gval_lt hb.tail hx)]
    generalize gmul (gval a x) x = A
    generalize gmul (gval b x) x = B
    rw [show A ^^^ c ^^^ (B ^^^ d) = A ^^^ (c ^^^ B) ^^^ d by simp only [Nat.xor_assoc], Nat.xor_comm c B]
    simp only [Nat.xor_assoc]
theorem padd_get : ∀ (a b : List Nat) (i : Nat), (padd a b).getD i 0 = a.getD i 0 ^^^ b.getD i 0
  | [], b, i => by simp [padd]
  | _ :: _, [], i => by simp [padd]
  | x :: a, y :: b, 0 => by simp [padd]
  | x :: a, y :: b, i + 1 => by simpa [padd] using padd_get a b i
def pscale (s : Nat) (l : List Nat) : List Nat := l.map fun c => gmul s c
theorem pscale_syms {s : Nat} (hs : s < 16) {l : List Nat} (h : Syms l) : Syms (pscale s l) := fun x hx => by
  obtain ⟨c, hc, rfl⟩ := List.mem_map.1 hx
  exact gmul_lt hs (h c hc)
theorem pscale_val {s x : Nat} (hs : s < 16) (hx : x < 16) : ∀ {l}, Syms l → gval (pscale s l) x = gmul s (gval l x)
  | [], _ => (gmul_zero hs).1.symm
  | c :: l, h => by
    show gmul (gval (pscale s l) x) x ^^^ gmul s c = gmul s (gmul (gval l x) x ^^^ c)
    rw [pscale_val hs hx h.tail, gmul_xor hs (gmul_lt (gval_lt h.tail hx) hx) h.head, gmul_assoc hs (gval_lt h.tail hx) hx]
theorem pscale_get {s : Nat} (hs : s < 16) (l : List Nat) (i : Nat) : (pscale s l).getD i 0 = gmul s (l.getD i 0) := by
  simp only [pscale, List.getD_eq_getElem?_getD, List.getElem?_map]
  cases l[i]? with
  | none => simp [(gmul_zero hs).1]
  | some c => simp
def pmul : List Nat → List Nat → List Nat
  | [], _ => []
  | c :: a, b => padd (pscale c b) (0 :: pmul a b)
theorem pmul_syms : ∀ {a b}, Syms a → Syms b → Syms (pmul a b)
  | [], _, h, _ => h
  | _ :: _, _, ha, hb => padd_syms (pscale_syms ha.head hb) (Syms.cons (by omega) (pmul_syms ha.tail hb))
theorem pmul_len : ∀ (a b : List Nat), a ≠ [] → b ≠ [] → (pmul a b).length = a.length + b.length - 1
  | [], _, h, _ => absurd rfl h
  | [c], b, _, hb => by
    have : 0 < b.length := List.length_pos_iff.2 hb
    simp [pmul, padd_len, pscale]; omega
  | c :: d :: a, b, _, hb => by
    have : 0 < b.length := List.length_pos_iff.2 hb
    have ih := pmul_len (d :: a) b (by simp) hb
    rw [pmul, padd_len]
    simp only [pscale, List.length_map, List.length_cons, ih]
    omega
theorem pmul_val {x : Nat} (hx : x < 16) : ∀ {a b}, Syms a → Syms b → gval (pmul a b) x = gmul (gval a x) (gval b x)
  | [], b, _, hb => (gmul_zero (gval_lt hb hx)).2.symm
  | c :: a, b, ha, hb => by
    have hp := pmul_syms ha.tail hb
    show gval (padd (pscale c b) (0 :: pmul a b)) x = gmul (gmul (gval a x) x ^^^ c) (gval b x)
    rw [padd_val hx (pscale_syms ha.head hb) (Syms.cons (by omega) hp), pscale_val ha.head hx hb, gval_cons, Nat.xor_zero, pmul_val hx ha.tail hb]
    have ga := gval_lt ha.tail hx
    have gb := gval_lt hb hx
    rw [gmul_xor' gb (gmul_lt ga hx) ha.head, gmul_assoc ga gb hx, gmul_comm gb hx, ← gmul_assoc ga hx gb, Nat.xor_comm]
/-- no factors above i -/
def Low (i : Nat) (l : List Nat) : Prop := ∀ k, i < k → l.getD k 0 = 0
theorem pmul_top : ∀ {a b : List Nat} {i j : Nat}, Syms a → Syms b → Low i a → Low j b → (pmul a b).getD (i + j) 0 = gmul (a.getD i 0) (b.getD j 0) ∧ Low (i + j) (pmul a b)
  | [], b, i, j, _, hb, _, _ => by
    have : b.getD j 0 < 16 := by
      rw [List.getD_eq_getElem?_getD]
      cases h : b[j]? with
      | none => simp
      | some c => exact hb c (List.mem_of_getElem? h)
    exact ⟨by rw [show ([] : List Nat).getD i 0 = 0 by simp, (gmul_zero this).2]; simp [pmul], fun k _ => by simp [pmul]⟩
  | c :: a, b, 0, j, ha, hb, la, lb => by
    have hz : AllZ a := fun x hx => by
      obtain ⟨n, hn, rfl⟩ := List.getElem_of_mem hx
      have := la (n + 1) (by omega)
      simpa [List.getD_eq_getElem?_getD, hn] using this
    have pz : ∀ k, (pmul a b).getD k 0 = 0 := by
      have : ∀ (l : List Nat), Syms l → AllZ l → ∀ k, (pmul l b).getD k 0 = 0 := by
        intro l
        induction l with
        | nil => intro _ _ k; simp [pmul]
        | cons y l ih =>
          intro hs h9 k
          have y0 := h9 y (by simp)
          subst y0
          rw [pmul, padd_get, pscale_get (by omega)]
          have hb' : b.getD k 0 < 16 := by
            rw [List.getD_eq_getElem?_getD]
            cases h : b[k]? with
            | none => simp
            | some c => exact hb c (List.mem_of_getElem? h)
          rw [(gmul_zero hb').2, Nat.zero_xor]
          cases k with
          | zero => simp
          | succ k => simpa using ih hs.tail (fun x hx => h9 x (by simp [hx])) k
      exact this a ha.tail hz
    have sh : ∀ k, (0 :: pmul a b).getD k 0 = 0 := by
      intro k
      cases k with
      | zero => simp
      | succ k => simpa using pz k
    refine ⟨?_, fun k hk => ?_⟩
    · rw [pmul, padd_get, pscale_get ha.head, sh, Nat.xor_zero]; simp
    · rw [pmul, padd_get, pscale_get ha.head, sh, Nat.xor_zero, lb k (by omega), (gmul_zero ha.head).1]
  | c :: a, b, i + 1, j, ha, hb, la, lb => by
    obtain ⟨h1, h2⟩ := pmul_top (i := i) (j := j) ha.tail hb (fun k hk => by simpa using la (k + 1) (by omega)) lb
    refine ⟨?_, fun k hk => ?_⟩
    · rw [pmul, padd_get, pscale_get ha.head, lb (i + 1 + j) (by omega), (gmul_zero ha.head).1, Nat.zero_xor, show i + 1 + j = (i + j) + 1 by omega]
      simpa using h1
    · cases k with
      | zero => omega
      | succ k =>
        rw [pmul, padd_get, pscale_get ha.head, lb (k + 1) (by omega), (gmul_zero ha.head).1, Nat.zero_xor]
        simpa using h2 k (by omega)
end Go.Proofs.YtlnofbdhamingaaDoor
