/- Layer 7's camera images and their pixels: the program's functions and the reference's. -/
import Derived.Test.YtipkjdfnoonpcaaBasic
set_option linter.unusedVariables false
set_option linter.unusedSimpArgs false
namespace Go.Proofs.Ytipkjdfnoonpcaa
open Go.RowKit Go.Sort

set_option maxHeartbeats 1000000 in
theorem c98 (m : Img) (v : Value) (x y : Int) (w : World) (hm : m.Sized) :
    Calls Try.prog 98 #[imgVal m v, .int .i64 x, .int .i64 y] w fun e w' => e = .returned (.bool (decide (m.In x y))) ∧ Ext w w' := by
  obtain ⟨⟨h1, h2⟩, ⟨h3, h4⟩, -⟩ := hm
  unfold imgVal
  by_cases hx : 0 ≤ x ∧ x ≤ m.w - 1
  · have q1 : decide (0 ≤ x ∧ x ≤ m.w - 1) = true := decide_eq_true hx
    have HX := Lib.hid hx
    clear hx
    go_enter Try.func98, Try.ntmps98
    go_wp2_with (go_at_call 83; (with_reducible refine (rwithin_walk 83 (.inr rfl) _ _ _ _).mono ?_); rintro e w' ⟨rfl, hb⟩; have hc := hb.cell; have hf := hb.frozen; have hz := hb.size)
    go_ret
    exact ⟨ret_bool (by have := HX.out; simp [Img.In, this.1, this.2]), (by repeat (first | exact Ext.refl _ | assumption | refine Ext.alloc ?_ _ | refine Ext.drewN ?_ _ | refine ext_grow ?_ _ _ | refine Ext.trans ?_ (by assumption)))⟩
  · have q1 : decide (0 ≤ x ∧ x ≤ m.w - 1) = false := decide_eq_false hx
    have HX := Lib.hid hx
    clear hx
    go_enter Try.func98, Try.ntmps98
    go_wp2_with (go_at_call 83; (with_reducible refine (rwithin_walk 83 (.inr rfl) _ _ _ _).mono ?_); rintro e w' ⟨rfl, hb⟩; have hc := hb.cell; have hf := hb.frozen; have hz := hb.size)
    go_ret
    exact ⟨ret_bool (decide_eq_false (fun h => HX.out h.1)).symm, (by repeat (first | exact Ext.refl _ | assumption | refine Ext.alloc ?_ _ | refine Ext.drewN ?_ _ | refine ext_grow ?_ _ _ | refine Ext.trans ?_ (by assumption)))⟩
set_option maxHeartbeats 1000000 in
theorem c48 (m : Img) (v : Value) (x y : Int) (w : World) (hm : m.Sized) (hi : m.In x y) (hv : IntsAt w v m.pix) :
    Calls Try.prog 48 #[imgVal m v, .int .i64 x, .int .i64 y] w fun e w' => e = .returned (.int .i64 (m.at x y)) ∧ Ext w w' := by
  obtain ⟨i1, i2, i3, i4⟩ := Img.idx hm hi
  obtain ⟨k1, k2⟩ := Img.len_bd hm
  obtain ⟨ao, cap, rfl, ⟨g1, g2⟩, hc⟩ := hv.form
  obtain ⟨b, off, rfl, c0⟩ := hc (y * m.w + x).toNat (by omega)
  have hx : m.pix.getD (y * m.w + x).toNat 0 = m.at x y := rfl
  rw [hx] at c0
  have z0 := World.block_lt_of_cell? _ _ c0
  simp only at z0
  obtain ⟨h1, h2⟩ := hi
  unfold imgVal
  obtain ⟨r, hr⟩ : ∃ r, m.at x y = r := ⟨_, rfl⟩
  rw [hr] at c0 ⊢
  have HC := Lib.hid hc
  clear hr hx hc hv hm
  go_enter Try.func48, Try.ntmps48
  go_wp2
  go_ret
  exact ⟨rfl, (by repeat (first | exact Ext.refl _ | assumption | refine Ext.alloc ?_ _ | refine Ext.drewN ?_ _ | refine ext_grow ?_ _ _ | refine Ext.trans ?_ (by assumption)))⟩
theorem mul_side {a b : Int} (h : (1 ≤ a ∧ a ≤ 16) ∧ 1 ≤ b ∧ b ≤ 16) : 1 ≤ a * b ∧ a * b ≤ 256 := by
  have h1 : 1 * 1 ≤ a * b := Int.mul_le_mul h.1.1 h.2.1 (by omega) (by omega)
  have h2 : a * b ≤ 16 * 16 := Int.mul_le_mul h.1.2 h.2.2 (by omega) (by omega)
  omega
set_option maxHeartbeats 2000000 in
theorem c84 (m : Img) (v : Value) (w : World) (hv : IntsAt w v m.pix) (hl : m.pix.length ≤ maxLen) :
    Calls Try.prog 84 #[imgVal m v] w fun e w' => e = .returned (.bool (decide m.Valid)) ∧ Ext w w' := by
  have HV := Lib.hid hv
  obtain ⟨ao, cap, rfl, -, -⟩ := hv.form
  have hlm : m.pix.length ≤ 9223372036854775807 := hl
  unfold imgVal
  clear hv
  by_cases hs : (1 ≤ m.w ∧ m.w ≤ 16) ∧ 1 ≤ m.h ∧ m.h ≤ 16
  · obtain ⟨p1, p2⟩ := mul_side hs
    have q1 : decide ((1 ≤ m.w ∧ m.w ≤ 16) ∧ 1 ≤ m.h ∧ m.h ≤ 16) = true := decide_eq_true hs
    have HS := Lib.hid hs
    clear hs
    by_cases hn : (m.pix.length : Int) = m.w * m.h
    · have q2 : ((m.pix.length : Int) == m.w * m.h) = true := by simpa using hn
      have HN := Lib.hid hn
      clear hn
      go_enter Try.func84, Try.ntmps84
      go_wp2_with (first | (have _q := hb; go_at_call 107; (with_reducible refine (within_walk 107 (.inr rfl) _ _ _ m.pix _ (HV.out.ext (by repeat (first | exact Ext.refl _ | assumption | refine Ext.alloc ?_ _ | refine Ext.drewN ?_ _ | refine ext_grow ?_ _ _ | refine Ext.trans ?_ (by assumption)))) hl).mono ?_); rintro e w2 ⟨rfl, hb2⟩) | (go_at_call 107; (with_reducible refine (within_two 107 (.inr rfl) _ _ _ _ _ _ (by simp)).mono ?_); rintro e w1 ⟨rfl, hb⟩; have hc := hb.cell; have hf := hb.frozen; have hz := hb.size))
      go_ret
      exact ⟨ret_bool (decide_eq_decide.2 ⟨fun h => ⟨⟨HS.out.1, HS.out.2, HN.out⟩, h⟩, fun h => h.2⟩), (by repeat (first | exact Ext.refl _ | assumption | refine Ext.alloc ?_ _ | refine Ext.drewN ?_ _ | refine ext_grow ?_ _ _ | refine Ext.trans ?_ (by assumption)))⟩
    · have q2 : ((m.pix.length : Int) == m.w * m.h) = false := by simpa using hn
      have HN := Lib.hid hn
      clear hn
      go_enter Try.func84, Try.ntmps84
      go_wp2_with (go_at_call 107; (with_reducible refine (within_two 107 (.inr rfl) _ _ _ _ _ _ (by simp)).mono ?_); rintro e w1 ⟨rfl, hb⟩; have hc := hb.cell; have hf := hb.frozen; have hz := hb.size)
      go_ret
      exact ⟨ret_bool (decide_eq_false (fun h => HN.out h.1.2.2)).symm, (by repeat (first | exact Ext.refl _ | assumption | refine Ext.alloc ?_ _ | refine Ext.drewN ?_ _ | refine ext_grow ?_ _ _ | refine Ext.trans ?_ (by assumption)))⟩
  · have q1 : decide ((1 ≤ m.w ∧ m.w ≤ 16) ∧ 1 ≤ m.h ∧ m.h ≤ 16) = false := decide_eq_false hs
    have HS := Lib.hid hs
    clear hs
    go_enter Try.func84, Try.ntmps84
    go_wp2_with (go_at_call 107; (with_reducible refine (within_two 107 (.inr rfl) _ _ _ _ _ _ (by simp)).mono ?_); rintro e w1 ⟨rfl, hb⟩; have hc := hb.cell; have hf := hb.frozen; have hz := hb.size)
    go_ret
    exact ⟨ret_bool (decide_eq_false (fun h => HS.out ⟨h.1.1, h.1.2.1⟩)).symm, (by repeat (first | exact Ext.refl _ | assumption | refine Ext.alloc ?_ _ | refine Ext.drewN ?_ _ | refine ext_grow ?_ _ _ | refine Ext.trans ?_ (by assumption)))⟩
def checkImg (m : Img) : Int := if m.Valid then 0 else 20
set_option maxHeartbeats 2000000 in
theorem c110 (m : Img) (v : Value) (w : World) (hv : IntsAt w v m.pix) (hl : m.pix.length ≤ maxLen) :
    Calls Try.prog 110 #[imgVal m v] w fun e w' => e = .returned (.int .i64 (checkImg m)) ∧ Ext w w' := by
  have K := Lib.hid (fun w' (h : Ext w w') => c84 m v w' (hv.ext h) hl)
  obtain ⟨t, ht⟩ : ∃ t, decide m.Valid = t := ⟨_, rfl⟩
  rw [ht] at K
  have HT := Lib.hid ht
  unfold imgVal at K ⊢
  clear hv ht
  cases t
  · go_enter Try.func110, Try.ntmps110
    go_wp2_with (go_at_call 84; (with_reducible refine (K.out _ (by repeat (first | exact Ext.refl _ | assumption | refine Ext.alloc ?_ _ | refine Ext.drewN ?_ _ | refine ext_grow ?_ _ _ | refine Ext.trans ?_ (by assumption)))).mono ?_); rintro e w1 ⟨rfl, hb⟩)
    go_ret
    exact ⟨ret_int (by unfold checkImg; rw [if_neg (of_decide_eq_false HT.out)]), (by repeat (first | exact Ext.refl _ | assumption | refine Ext.alloc ?_ _ | refine Ext.drewN ?_ _ | refine ext_grow ?_ _ _ | refine Ext.trans ?_ (by assumption)))⟩
  · go_enter Try.func110, Try.ntmps110
    go_wp2_with (go_at_call 84; (with_reducible refine (K.out _ (by repeat (first | exact Ext.refl _ | assumption | refine Ext.alloc ?_ _ | refine Ext.drewN ?_ _ | refine ext_grow ?_ _ _ | refine Ext.trans ?_ (by assumption)))).mono ?_); rintro e w1 ⟨rfl, hb⟩)
    go_ret
    exact ⟨ret_int (by unfold checkImg; rw [if_pos (of_decide_eq_true HT.out)]), (by repeat (first | exact Ext.refl _ | assumption | refine Ext.alloc ?_ _ | refine Ext.drewN ?_ _ | refine ext_grow ?_ _ _ | refine Ext.trans ?_ (by assumption)))⟩
set_option maxHeartbeats 2000000 in
theorem c89 (m : Img) (v : Value) (w : World) (hv : IntsAt w v m.pix) (hl : m.pix.length ≤ maxLen) :
    Calls Try.prog 89 #[imgVal m v] w fun e w' => e = .returned (.bool (decide m.Camera)) ∧ Ext w w' := by
  have HV := Lib.hid hv
  obtain ⟨ao, cap, rfl, -, -⟩ := hv.form
  have K := Lib.hid (fun w' (h : Ext w w') => c110 m _ w' (HV.out.ext h) hl)
  unfold imgVal at K ⊢
  clear hv
  by_cases hs : m.Valid
  · have hk : checkImg m = 0 := if_pos hs
    rw [hk] at K
    have HS := Lib.hid hs
    clear hs hk
    go_enter Try.func89, Try.ntmps89
    go_wp2_with (first | (go_at_call 110; (with_reducible refine (K.out _ (by repeat (first | exact Ext.refl _ | assumption | refine Ext.alloc ?_ _ | refine Ext.drewN ?_ _ | refine ext_grow ?_ _ _ | refine Ext.trans ?_ (by assumption)))).mono ?_); rintro e w1 ⟨rfl, hb⟩; have hc := hb.cell; have hf := hb.frozen; have hz := hb.size) | (go_at_call 50; (with_reducible refine (within_walk 50 (.inl rfl) _ _ _ m.pix _ (HV.out.ext (by repeat (first | exact Ext.refl _ | assumption | refine Ext.alloc ?_ _ | refine Ext.drewN ?_ _ | refine ext_grow ?_ _ _ | refine Ext.trans ?_ (by assumption)))) hl).mono ?_); rintro e w2 ⟨rfl, hb2⟩))
    go_ret
    exact ⟨ret_bool (decide_eq_decide.2 ((Img.camera_iff m).trans ⟨fun h => h.2, fun h => ⟨HS.out, h⟩⟩).symm), (by repeat (first | exact Ext.refl _ | assumption | refine Ext.alloc ?_ _ | refine Ext.drewN ?_ _ | refine ext_grow ?_ _ _ | refine Ext.trans ?_ (by assumption)))⟩
  · have hk : checkImg m = 20 := if_neg hs
    rw [hk] at K
    have HS := Lib.hid hs
    clear hs hk
    go_enter Try.func89, Try.ntmps89
    go_wp2_with (go_at_call 110; (with_reducible refine (K.out _ (by repeat (first | exact Ext.refl _ | assumption | refine Ext.alloc ?_ _ | refine Ext.drewN ?_ _ | refine ext_grow ?_ _ _ | refine Ext.trans ?_ (by assumption)))).mono ?_); rintro e w1 ⟨rfl, hb⟩; have hc := hb.cell; have hf := hb.frozen; have hz := hb.size)
    go_ret
    exact ⟨ret_bool (decide_eq_false (fun h => HS.out ((Img.camera_iff m).1 h).1)).symm, (by repeat (first | exact Ext.refl _ | assumption | refine Ext.alloc ?_ _ | refine Ext.drewN ?_ _ | refine ext_grow ?_ _ _ | refine Ext.trans ?_ (by assumption)))⟩
end Go.Proofs.Ytipkjdfnoonpcaa
