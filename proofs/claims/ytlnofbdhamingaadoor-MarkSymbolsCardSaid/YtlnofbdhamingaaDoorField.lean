/- The symbols of the mark's code: tables, products, inverses, points. -/
import Derived.Test.YtlnofbdhamingaaDoorBlocks
import Derived.Test.YtlnofbdhamingaaDoorTwo
import Derived.Test.YtlnofbdhamingaaDoorProg
import Derived.Lib.LaidTab
import Derived.Lib.SmallJoins
import Derived.BigRegion
import Derived.Deep.RegionHeld3
set_option linter.unusedVariables false
set_option linter.unusedSimpArgs false
namespace Go.Proofs.YtlnofbdhamingaaDoor
open Go.RowKit Go.Sort

def powT : List Int := [1, 2, 4, 8, 3, 6, 12, 11, 5, 10, 7, 14, 15, 13, 9, 1, 2, 4, 8, 3, 6, 12, 11, 5, 10, 7, 14, 15, 13, 9]
def logT : List Int := [0, 0, 1, 4, 2, 8, 5, 10, 3, 14, 9, 7, 6, 13, 11, 12]
/-- the two tables lie where the program left them -/
def Tabs (w : World) : Prop := Lib.TabIs Tryd.prog w "sightbench/mark.powers" .u8 powT ∧ Lib.TabIs Tryd.prog w "sightbench/mark.logs" .i64 logT
theorem Tabs.ext {w w' : World} (h : Tabs w) (hE : Ext w w') : Tabs w' := by
  obtain ⟨g, hg⟩ : ∃ g, Tryd.prog.globalNamed "sightbench/mark.powers" = some g := Option.isSome_iff_exists.1 (by kernel_rfl)
  obtain ⟨g2, hg2⟩ : ∃ g, Tryd.prog.globalNamed "sightbench/mark.logs" = some g := Option.isSome_iff_exists.1 (by kernel_rfl)
  exact ⟨Joins.tab_stays (w := w) (w' := w') hg h.1 hE (Nat.le_refl _), Joins.tab_stays (w := w) (w' := w') hg2 h.2 hE (Nat.le_refl _)⟩
/-- a step of the reference's product -/
def tstep (b i : Nat) (x : Nat × Nat) : Nat × Nat := (if b >>> i % 2 = 1 then x.1 ^^^ x.2 else x.1, if 15 < 2 * x.2 then (2 * x.2) ^^^ 19 else 2 * x.2)
def gmul (a b : Nat) : Nat := (tstep b 3 (tstep b 2 (tstep b 1 (tstep b 0 (0, a))))).1
def logN (a : Nat) : Nat := (logT.getD a 0).toNat
def powN (i : Nat) : Nat := (powT.getD i 0).toNat
def ginv (a : Nat) : Nat := powN (15 - logN a)
theorem log_at {a : Nat} (h : a < 16) : logT.getD a 0 = (logN a : Int) ∧ logN a ≤ 14 := by
  have : ∀ a : Fin 16, logT.getD a 0 = (logN a : Int) ∧ logN a ≤ 14 := by decide
  exact this ⟨a, h⟩
theorem pow_at {i : Nat} (h : i < 30) : powT.getD i 0 = (powN i : Int) ∧ powN i < 16 := by
  have : ∀ a : Fin 30, powT.getD a 0 = (powN a : Int) ∧ powN a < 16 := by decide
  exact this ⟨i, h⟩
theorem gmul_log {a b : Nat} (ha : a < 16) (hb : b < 16) (a0 : a ≠ 0) (b0 : b ≠ 0) : gmul a b = powN (logN a + logN b) := by
  have : ∀ a b : Fin 16, a.1 ≠ 0 → b.1 ≠ 0 → gmul a b = powN (logN a + logN b) := by decide
  exact this ⟨a, ha⟩ ⟨b, hb⟩ a0 b0
theorem gmul_lt {a b : Nat} (ha : a < 16) (hb : b < 16) : gmul a b < 16 := by
  have : ∀ a b : Fin 16, gmul a b < 16 := by decide
  exact this ⟨a, ha⟩ ⟨b, hb⟩
theorem gmul_zero {a : Nat} (ha : a < 16) : gmul a 0 = 0 ∧ gmul 0 a = 0 := by
  have : ∀ a : Fin 16, gmul a 0 = 0 ∧ gmul 0 a = 0 := by decide
  exact this ⟨a, ha⟩
theorem tab_pow {w : World} (h : Tabs w) {i : Nat} (hi : i < 30) : w.cell? ⟨0, i, none⟩ = some (.int .u8 (powN i : Int)) := by
  rw [h.1.cell (g := 0) (by kernel_rfl) i hi, (pow_at hi).1]
theorem tab_log {w : World} (h : Tabs w) {a : Nat} (ha : a < 16) : w.cell? ⟨1, a, none⟩ = some (.int .i64 (logN a : Int)) := by
  rw [h.2.cell (g := 1) (by kernel_rfl) a ha, (log_at ha).1]
set_option maxRecDepth 100000 in
set_option maxHeartbeats 4000000 in
theorem mul_walk (a b la lb r : Nat) (w : World) (ha : a < 16) (hb : b < 16) (a0 : ((a : Int) == 0) = false) (b0 : ((b : Int) == 0) = false) (hla : la ≤ 14) (hlb : lb ≤ 14)
    (c1 : w.cell? ⟨1, a, none⟩ = some (.int .i64 (la : Int))) (c2 : w.cell? ⟨1, b, none⟩ = some (.int .i64 (lb : Int))) (c3 : w.cell? ⟨0, la + lb, none⟩ = some (.int .u8 (r : Int)))
    (z0 : 0 < w.heap.size) (z1 : 1 < w.heap.size) :
    Calls Tryd.prog 53 #[.int .u8 (a : Int), .int .u8 (b : Int)] w fun e w' => e = .returned (.int .u8 (r : Int)) ∧ Ext w w' := by
  go_enter Tryd.func53, Tryd.ntmps53
  go_wp2
  refine wp_region_quiet_below (by kernel_rfl) (by kernel_rfl) ?_
  repeat (go_big_quiet_step (fail))
  refine wpQuiet_nil ?_
  intro w1 hw'
  obtain ⟨pq, hw''⟩ := hw'
  have hb1 := ext_of_regrown hw''
  clear hw'' pq
  go_wp2
  go_ret
  exact ⟨rfl, (by repeat (first | exact Ext.refl _ | assumption | refine Ext.alloc ?_ _ | refine Ext.drewN ?_ _ | refine ext_grow ?_ _ _ | refine Ext.setCell ?_ (by first | exact Nat.le_refl _ | omega | (simp; done) | (simp; omega)) _ | refine Ext.trans ?_ (by assumption)))⟩
theorem c_mul (a b : Nat) (ha : a < 16) (hb : b < 16) (w : World) (hT : Tabs w) :
    Calls Tryd.prog 53 #[.int .u8 (a : Int), .int .u8 (b : Int)] w fun e w' => e = .returned (.int .u8 (gmul a b : Int)) ∧ Ext w w' := by
  by_cases a0 : a = 0
  · subst a0
    rw [(gmul_zero hb).2]
    go_enter Tryd.func53, Tryd.ntmps53
    go_wp2
    go_ret
    exact ⟨rfl, Ext.refl _⟩
  by_cases b0 : b = 0
  · subst b0
    have t1 : ((a : Int) == 0) = false := by simp; omega
    rw [(gmul_zero ha).1]
    have A0 := Lib.hid a0
    clear a0
    go_enter Tryd.func53, Tryd.ntmps53
    go_wp2
    go_ret
    exact ⟨rfl, Ext.refl _⟩
  rw [gmul_log ha hb a0 b0]
  have l1 := log_at ha
  have l2 := log_at hb
  exact mul_walk a b _ _ _ w ha hb (by simp; omega) (by simp; omega) l1.2 l2.2 (tab_log hT ha) (tab_log hT hb) (tab_pow hT (by omega)) (World.block_lt_of_cell? _ _ (tab_pow hT (i := 0) (by omega))) (World.block_lt_of_cell? _ _ (tab_log hT ha))
set_option maxHeartbeats 1000000 in
theorem c_point (i : Nat) (h : i < 30) (w : World) (hT : Tabs w) :
    Calls Tryd.prog 90 #[.int .i64 (i : Int)] w fun e w' => e = .returned (.int .u8 (powN i : Int)) ∧ Ext w w' := by
  have c1 := tab_pow hT h
  have z0 := World.block_lt_of_cell? _ _ c1
  simp only at z0
  go_enter Tryd.func90, Tryd.ntmps90
  go_wp2
  go_ret
  exact ⟨rfl, Ext.refl _⟩
set_option maxHeartbeats 1000000 in
theorem inv_walk (a la r : Nat) (w : World) (ha : a < 16) (hla : la ≤ 14)
    (c1 : w.cell? ⟨1, a, none⟩ = some (.int .i64 (la : Int))) (c3 : w.cell? ⟨0, 15 - la, none⟩ = some (.int .u8 (r : Int))) :
    Calls Tryd.prog 55 #[.int .u8 (a : Int)] w fun e w' => e = .returned (.int .u8 (r : Int)) ∧ Ext w w' := by
  obtain ⟨k, hk⟩ : ∃ k, 15 - la = k := ⟨_, rfl⟩
  have hk2 : (15 : Int) - (la : Int) = (k : Int) := by omega
  rw [hk] at c3
  have hk3 : k < 30 := by omega
  have HK := Lib.hid hk
  clear hk
  go_enter Tryd.func55, Tryd.ntmps55
  go_wp2
  go_ret
  exact ⟨rfl, Ext.refl _⟩
theorem c_inverse (a : Nat) (ha : a < 16) (w : World) (hT : Tabs w) :
    Calls Tryd.prog 55 #[.int .u8 (a : Int)] w fun e w' => e = .returned (.int .u8 (ginv a : Int)) ∧ Ext w w' :=
  inv_walk a _ _ w ha (log_at ha).2 (tab_log hT ha) (tab_pow hT (by omega))
end Go.Proofs.YtlnofbdhamingaaDoor
