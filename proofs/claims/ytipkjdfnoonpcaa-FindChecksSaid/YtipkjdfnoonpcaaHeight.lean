/- The height at a place of a view. -/
import Derived.Test.YtipkjdfnoonpcaaReady
set_option linter.unusedVariables false
set_option linter.unusedSimpArgs false
namespace Go.Proofs.Ytipkjdfnoonpcaa
open Go.RowKit Go.Sort

def viewVal (m : Img) (v : Value) (a : Bool) : Value := .agg #[.int .i64 m.w, .int .i64 m.h, v, .bool a]
def HeightIs (m : Img) (a : Bool) (x y : Int) (e : Ending) : Prop := (m.vin a x y ∧ e = .returned (.tuple #[.int .i64 (m.vat a x y), .bool true])) ∨ (¬ m.vin a x y ∧ e = .returned (.tuple #[.int .i64 0, .bool false]))
set_option maxHeartbeats 4000000 in
theorem c90 (m : Img) (v : Value) (a : Bool) (x y : Int) (w : World) (hm : m.Sized) (hv : IntsAt w v m.pix) :
    Calls Try.prog 90 #[viewVal m v a, .int .i64 x, .int .i64 y] w fun e w' => HeightIs m a x y e ∧ Ext w w' := by
  obtain ⟨k1, k2⟩ := Img.len_bd hm
  obtain ⟨ao, cap, rfl, ⟨g1, g2⟩, hc⟩ := hv.form
  have hs : 1 ≤ m.w ∧ m.w ≤ 16 ∧ 1 ≤ m.h ∧ m.h ≤ 16 := ⟨hm.1.1, hm.1.2, hm.2.1.1, hm.2.1.2⟩
  obtain ⟨s1, s2, s3, s4⟩ := hs
  unfold viewVal
  clear hv
  cases a
  case false =>
    by_cases hx : 0 ≤ x ∧ x ≤ m.w - 1
    case neg =>
      have q1 : decide (0 ≤ x ∧ x ≤ m.w - 1) = false := decide_eq_false hx
      have HX := Lib.hid hx
      clear hx
      go_enter Try.func90, Try.ntmps90
      go_wp2_with (go_at_call 50; (with_reducible refine (within_one_same 50 (.inl rfl) _ _ _ _ _ (by simp)).mono ?_); rintro e w' ⟨rfl, rfl⟩)
      go_ret2
      exact ⟨.inr ⟨fun h => HX.out h.1, rfl⟩, (by repeat (first | exact Ext.refl _ | assumption | refine Ext.alloc ?_ _ | refine Ext.drewN ?_ _ | refine ext_grow ?_ _ _ | refine Ext.trans ?_ (by assumption)))⟩
    have q1 : decide (0 ≤ x ∧ x ≤ m.w - 1) = true := decide_eq_true hx
    by_cases hy : 0 ≤ y ∧ y ≤ m.h - 1
    case neg =>
      have q2 : decide (0 ≤ y ∧ y ≤ m.h - 1) = false := decide_eq_false hy
      have HY := Lib.hid hy
      clear hx hy
      go_enter Try.func90, Try.ntmps90
      go_wp2_with (go_at_call 50; (with_reducible refine (within_one_same 50 (.inl rfl) _ _ _ _ _ (by simp)).mono ?_); rintro e w' ⟨rfl, rfl⟩)
      go_ret2
      exact ⟨.inr ⟨fun h => HY.out h.2, rfl⟩, (by repeat (first | exact Ext.refl _ | assumption | refine Ext.alloc ?_ _ | refine Ext.drewN ?_ _ | refine ext_grow ?_ _ _ | refine Ext.trans ?_ (by assumption)))⟩
    have q2 : decide (0 ≤ y ∧ y ≤ m.h - 1) = true := decide_eq_true hy
    have hi : m.In x y := ⟨hx, hy⟩
    obtain ⟨i1, i2, i3, i4⟩ := Img.idx hm hi
    obtain ⟨b, off, rfl, c0⟩ := hc (y * m.w + x).toNat (by omega)
    have e9 : m.pix.getD (y * m.w + x).toNat 0 = m.vat false x y := rfl
    rw [e9] at c0
    have z0 := World.block_lt_of_cell? _ _ c0
    simp only at z0
    have z1 : b < w.heap.size + 1 := by omega
    have z2 : b < w.heap.size + 1 + 1 := by omega
    obtain ⟨r, hr⟩ : ∃ r, m.vat false x y = r := ⟨_, rfl⟩
    rw [hr] at c0
    have HR := Lib.hid hr
    have HI := Lib.hid hi
    obtain ⟨x1, x2⟩ := hx
    obtain ⟨y1, y2⟩ := hy
    have hxw : x < m.w := by omega
    have hyw : y < m.h := by omega
    clear hr e9 hc hi
    go_enter Try.func90, Try.ntmps90
    go_wp2_with (go_at_call 50; (with_reducible refine (within_one_same 50 (.inl rfl) _ _ _ _ _ (by simp)).mono ?_); rintro e w' ⟨rfl, rfl⟩)
    go_ret2
    exact ⟨.inl ⟨HI.out, by rw [HR.out]; rfl⟩, (by repeat (first | exact Ext.refl _ | assumption | refine Ext.alloc ?_ _ | refine Ext.drewN ?_ _ | refine ext_grow ?_ _ _ | refine Ext.trans ?_ (by assumption)))⟩
  case true =>
    by_cases hx : 0 ≤ y ∧ y ≤ m.w - 1
    case neg =>
      have q1 : decide (0 ≤ y ∧ y ≤ m.w - 1) = false := decide_eq_false hx
      have HX := Lib.hid hx
      clear hx
      go_enter Try.func90, Try.ntmps90
      go_wp2_with (go_at_call 50; (with_reducible refine (within_one_same 50 (.inl rfl) _ _ _ _ _ (by simp)).mono ?_); rintro e w' ⟨rfl, rfl⟩)
      go_ret2
      exact ⟨.inr ⟨fun h => HX.out h.1, rfl⟩, (by repeat (first | exact Ext.refl _ | assumption | refine Ext.alloc ?_ _ | refine Ext.drewN ?_ _ | refine ext_grow ?_ _ _ | refine Ext.trans ?_ (by assumption)))⟩
    have q1 : decide (0 ≤ y ∧ y ≤ m.w - 1) = true := decide_eq_true hx
    by_cases hy : 0 ≤ x ∧ x ≤ m.h - 1
    case neg =>
      have q2 : decide (0 ≤ x ∧ x ≤ m.h - 1) = false := decide_eq_false hy
      have HY := Lib.hid hy
      clear hx hy
      go_enter Try.func90, Try.ntmps90
      go_wp2_with (go_at_call 50; (with_reducible refine (within_one_same 50 (.inl rfl) _ _ _ _ _ (by simp)).mono ?_); rintro e w' ⟨rfl, rfl⟩)
      go_ret2
      exact ⟨.inr ⟨fun h => HY.out h.2, rfl⟩, (by repeat (first | exact Ext.refl _ | assumption | refine Ext.alloc ?_ _ | refine Ext.drewN ?_ _ | refine ext_grow ?_ _ _ | refine Ext.trans ?_ (by assumption)))⟩
    have q2 : decide (0 ≤ x ∧ x ≤ m.h - 1) = true := decide_eq_true hy
    have hi : m.In y x := ⟨hx, hy⟩
    obtain ⟨i1, i2, i3, i4⟩ := Img.idx hm hi
    obtain ⟨b, off, rfl, c0⟩ := hc (x * m.w + y).toNat (by omega)
    have e9 : m.pix.getD (x * m.w + y).toNat 0 = m.vat true x y := rfl
    rw [e9] at c0
    have z0 := World.block_lt_of_cell? _ _ c0
    simp only at z0
    have z1 : b < w.heap.size + 1 := by omega
    have z2 : b < w.heap.size + 1 + 1 := by omega
    obtain ⟨r, hr⟩ : ∃ r, m.vat true x y = r := ⟨_, rfl⟩
    rw [hr] at c0
    have HR := Lib.hid hr
    have HI := Lib.hid hi
    obtain ⟨x1, x2⟩ := hx
    obtain ⟨y1, y2⟩ := hy
    have hxw : y < m.w := by omega
    have hyw : x < m.h := by omega
    clear hr e9 hc hi
    go_enter Try.func90, Try.ntmps90
    go_wp2_with (go_at_call 50; (with_reducible refine (within_one_same 50 (.inl rfl) _ _ _ _ _ (by simp)).mono ?_); rintro e w' ⟨rfl, rfl⟩)
    go_ret2
    exact ⟨.inl ⟨HI.out, by rw [HR.out]; rfl⟩, (by repeat (first | exact Ext.refl _ | assumption | refine Ext.alloc ?_ _ | refine Ext.drewN ?_ _ | refine ext_grow ?_ _ _ | refine Ext.trans ?_ (by assumption)))⟩

theorem c90_yes (m : Img) (v : Value) (a : Bool) (x y : Int) (w : World) (hm : m.Sized) (hv : IntsAt w v m.pix) (h : m.vin a x y) :
    Calls Try.prog 90 #[viewVal m v a, .int .i64 x, .int .i64 y] w fun e w' => e = .returned (.tuple #[.int .i64 (m.vat a x y), .bool true]) ∧ Ext w w' :=
  (c90 m v a x y w hm hv).mono fun _ _ ⟨h1, h2⟩ => ⟨by rcases h1 with h1 | h1; exact h1.2; exact absurd h h1.1, h2⟩
theorem c90_no (m : Img) (v : Value) (a : Bool) (x y : Int) (w : World) (hm : m.Sized) (hv : IntsAt w v m.pix) (h : ¬ m.vin a x y) :
    Calls Try.prog 90 #[viewVal m v a, .int .i64 x, .int .i64 y] w fun e w' => e = .returned (.tuple #[.int .i64 0, .bool false]) ∧ Ext w w' :=
  (c90 m v a x y w hm hv).mono fun _ _ ⟨h1, h2⟩ => ⟨by rcases h1 with h1 | h1; exact absurd h1.1 h; exact h1.2, h2⟩
end Go.Proofs.Ytipkjdfnoonpcaa
