/- Grasps: the reference's places and heights. -/
import Derived.Test.YtipkjdfnoonpcaaPlan
set_option linter.unusedVariables false
set_option linter.unusedSimpArgs false
namespace Go.Proofs.Ytipkjdfnoonpcaa
open Go.RowKit Go.Sort

def Grasp.near (g : Grasp) : Prop := (-1000 ≤ g.x ∧ g.x ≤ 1000) ∧ -1000 ≤ g.y ∧ g.y ≤ 1000
instance (g : Grasp) : Decidable g.near := by unfold Grasp.near; infer_instance
set_option maxHeartbeats 2000000 in
theorem c53 (g : Grasp) (w : World) : Calls Try.prog 53 #[graspVal g] w fun e w' => e = .returned (.bool (decide g.near)) ∧ Ext w w' := by
  unfold graspVal
  by_cases h1 : -1000 ≤ g.x ∧ g.x ≤ 1000
  case neg =>
    have q1 : decide (-1000 ≤ g.x ∧ g.x ≤ 1000) = false := decide_eq_false h1
    have H1 := Lib.hid h1
    clear h1
    go_enter Try.func53, Try.ntmps53
    go_wp2_with (go_at_call 61; (with_reducible refine (rwithin_same 61 (.inl rfl) _ _ _ _).mono ?_); rintro e w' ⟨rfl, rfl⟩)
    go_ret
    exact ⟨ret_bool (decide_eq_false (fun h => H1.out h.1)).symm, (by repeat (first | exact Ext.refl _ | assumption | refine Ext.alloc ?_ _ | refine Ext.drewN ?_ _ | refine ext_grow ?_ _ _ | refine Ext.trans ?_ (by assumption)))⟩
  have q1 : decide (-1000 ≤ g.x ∧ g.x ≤ 1000) = true := decide_eq_true h1
  have H1 := Lib.hid h1
  clear h1
  go_enter Try.func53, Try.ntmps53
  go_wp2_with (go_at_call 61; (with_reducible refine (rwithin_same 61 (.inl rfl) _ _ _ _).mono ?_); rintro e w' ⟨rfl, rfl⟩)
  go_ret
  exact ⟨ret_bool (by have := H1.out; simp [Grasp.near, this.1, this.2]), (by repeat (first | exact Ext.refl _ | assumption | refine Ext.alloc ?_ _ | refine Ext.drewN ?_ _ | refine ext_grow ?_ _ _ | refine Ext.trans ?_ (by assumption)))⟩
/-- the place of a cell -/
def Grasp.px (g : Grasp) (o f : Int) : Int := if g.across then g.x + f else g.x + o
def Grasp.py (g : Grasp) (o f : Int) : Int := if g.across then g.y + o else g.y + f
theorem vin_place (m : Img) (g : Grasp) (o f : Int) : m.vin g.across (g.vx + o) (g.vy + f) ↔ m.In (g.px o f) (g.py o f) := by
  unfold Img.vin Grasp.vx Grasp.vy Grasp.px Grasp.py
  cases g.across <;> simp
theorem vat_place (m : Img) (g : Grasp) (o f : Int) : m.vat g.across (g.vx + o) (g.vy + f) = m.at (g.px o f) (g.py o f) := by
  unfold Img.vat Grasp.vx Grasp.vy Grasp.px Grasp.py
  cases g.across <;> simp
def Small (g : Grasp) : Prop := (-1010 ≤ g.x ∧ g.x ≤ 1010) ∧ -1010 ≤ g.y ∧ g.y ≤ 1010
set_option maxHeartbeats 2000000 in
theorem c111 (g : Grasp) (o f : Int) (w : World) (hg : Small g) (ho : -1 ≤ o ∧ o ≤ 8) (hf : 0 ≤ f ∧ f ≤ 4) :
    Calls Try.prog 111 #[graspVal g, .int .i64 o, .int .i64 f] w fun e w' => e = .returned (.tuple #[.int .i64 (g.px o f), .int .i64 (g.py o f)]) ∧ Ext w w' := by
  obtain ⟨gx, gy, ga, gw, gz⟩ := g
  obtain ⟨⟨x1, x2⟩, x3, x4⟩ := hg
  obtain ⟨o1, o2⟩ := ho
  obtain ⟨f1, f2⟩ := hf
  unfold graspVal
  dsimp only at *
  cases ga
  · have hw1 : IntKind.i64.wrap (gx + o) = gx + o := IntWalk.i64_in _ (by omega)
    have hw2 : IntKind.i64.wrap (gy + f) = gy + f := IntWalk.i64_in _ (by omega)
    go_enter Try.func111, Try.ntmps111
    go_wp2
    go_quiet (fail)
    go_wp2
    go_ret2
    exact ⟨rfl, (by repeat (first | exact Ext.refl _ | assumption | refine Ext.alloc ?_ _ | refine Ext.drewN ?_ _ | refine ext_grow ?_ _ _ | refine Ext.trans ?_ (by assumption)))⟩
  · have hw1 : IntKind.i64.wrap (gx + f) = gx + f := IntWalk.i64_in _ (by omega)
    have hw2 : IntKind.i64.wrap (gy + o) = gy + o := IntWalk.i64_in _ (by omega)
    go_enter Try.func111, Try.ntmps111
    go_wp2
    go_quiet (fail)
    go_wp2
    go_ret2
    exact ⟨rfl, (by repeat (first | exact Ext.refl _ | assumption | refine Ext.alloc ?_ _ | refine Ext.drewN ?_ _ | refine ext_grow ?_ _ _ | refine Ext.trans ?_ (by assumption)))⟩

set_option maxHeartbeats 2000000 in
theorem c112 (m : Img) (v : Value) (g : Grasp) (o f : Int) (w : World) (hm : m.Sized) (hv : IntsAt w v m.pix) (hg : Small g) (ho : -1 ≤ o ∧ o ≤ 8) (hf : 0 ≤ f ∧ f ≤ 4) (hi : m.vin g.across (g.vx + o) (g.vy + f)) :
    Calls Try.prog 112 #[imgVal m v, graspVal g, .int .i64 o, .int .i64 f] w fun e w' => e = .returned (.int .i64 (m.vat g.across (g.vx + o) (g.vy + f))) ∧ Ext w w' := by
  rw [vin_place] at hi
  rw [vat_place]
  have HV := Lib.hid hv
  obtain ⟨ao, cap, rfl, -, -⟩ := hv.form
  have K111 := Lib.hid (fun w' => c111 g o f w' hg ho hf)
  have K48 := Lib.hid (fun w' (h : Ext w w') => c48 m _ (g.px o f) (g.py o f) w' hm hi (HV.out.ext h))
  obtain ⟨x, hx⟩ : ∃ x, g.px o f = x := ⟨_, rfl⟩
  obtain ⟨y, hy⟩ : ∃ y, g.py o f = y := ⟨_, rfl⟩
  obtain ⟨r, hr⟩ : ∃ r, m.at (g.px o f) (g.py o f) = r := ⟨_, rfl⟩
  rw [hr] at K48 ⊢
  rw [hx, hy] at K111 K48
  unfold graspVal imgVal at *
  clear hv hi hx hy hr hg ho hf
  go_enter Try.func112, Try.ntmps112
  go_wp2_with (first | (go_at_call 111; (with_reducible refine (K111.out _).mono ?_); rintro E w1 ⟨rfl, hb⟩; have A1 := Lib.hid (show At w1 [(w.heap.size + 1, Obj.cells #[.int .i64 g.x, .int .i64 g.y, .bool g.across, .int .i64 g.width, .int .i64 g.z] 28), (w.heap.size, Obj.cells #[.int .i64 m.w, .int .i64 m.h, .slice ao m.pix.length cap] 24)] from At.ext hb ⟨(by repeat (first | (refine blk_at _ _ ?_; (first | rfl | (simp only [size_one]; done))) | refine (blk_past _ _ (by simp only [size_one]; omega)).trans ?_)), (by repeat (first | (refine blk_at _ _ ?_; (first | rfl | (simp only [size_one]; done))) | refine (blk_past _ _ (by simp only [size_one]; omega)).trans ?_)), trivial⟩); obtain ⟨⟨x00, x01, x02, x03, x04⟩, -⟩ := run_5 (At.at A1.out 0 rfl); obtain ⟨⟨x10, x11, x12⟩, -⟩ := run_3 (At.at A1.out 1 rfl); have xz0 := At.lt A1.out 0 rfl; have xy0 := Nat.lt_succ_of_lt xz0; have xx0 := Nat.lt_succ_of_lt xy0; have xz1 := At.lt A1.out 1 rfl; have xy1 := Nat.lt_succ_of_lt xz1; have xx1 := Nat.lt_succ_of_lt xy1) | (go_at_call 48; (with_reducible refine (K48.out _ (by repeat (first | exact Ext.refl _ | assumption | refine Ext.alloc ?_ _ | refine Ext.drewN ?_ _ | refine ext_grow ?_ _ _ | refine Ext.trans ?_ (by assumption)))).mono ?_); rintro E w2 ⟨rfl, hb2⟩))
  go_ret
  exact ⟨rfl, (by repeat (first | exact Ext.refl _ | assumption | refine Ext.alloc ?_ _ | refine Ext.drewN ?_ _ | refine ext_grow ?_ _ _ | refine Ext.trans ?_ (by assumption)))⟩
end Go.Proofs.Ytipkjdfnoonpcaa
