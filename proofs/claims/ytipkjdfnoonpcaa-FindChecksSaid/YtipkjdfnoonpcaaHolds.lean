/- Holds: the program's walk. -/
import Derived.Test.YtipkjdfnoonpcaaTips
set_option linter.unusedVariables false
set_option linter.unusedSimpArgs false
namespace Go.Proofs.Ytipkjdfnoonpcaa
open Go.RowKit Go.Sort

theorem within_two_same (f : FuncId) (hf : f = 50 ∨ f = 107) (lo hi x y : Int) (k : Nat) (w : World) (hk : k = w.heap.size) :
    Calls Try.prog f #[.int .i64 lo, .int .i64 hi, .slice (some ⟨k, 0, none⟩) 2 2] (w.alloc (.cells #[.int .i64 x, .int .i64 y] 3)) fun e w' => e = .returned (.bool (decide ((lo ≤ x ∧ x ≤ hi) ∧ lo ≤ y ∧ y ≤ hi))) ∧ w.alloc (.cells #[.int .i64 x, .int .i64 y] 3) = w' := by
  refine (within_same f hf lo hi _ [x, y] _ (SlAt.of_owns (by subst hk; exact owns_lit w (ints [x, y]) 3 2 1 0 (Nat.zero_le _) (by unfold maxLen; omega) rfl)) (by simp [maxLen])).mono ?_
  rintro e w' ⟨rfl, h⟩
  exact ⟨ret_bool (by simp [allIn]), h⟩
def graspVal (g : Grasp) : Value := .agg #[.int .i64 g.x, .int .i64 g.y, .bool g.across, .int .i64 g.width, .int .i64 g.z]
/-- what 'Holds' answers -/
def HoldsIs (m : Img) (t : Tool) (g : Grasp) (slack : Int) (w : World) (e : Ending) (w' : World) : Prop :=
  ∃ b : Bool, e = .returned (.tuple #[.bool b, .int .i64 (readyE m t slack)]) ∧ (b = true ↔ readyE m t slack = 0 ∧ m.Holds t g slack) ∧ Ext w w'
theorem ready_ok {m : Img} {t : Tool} {slack : Int} (h : readyE m t slack = 0) : m.Camera ∧ t.Ok ∧ 0 ≤ slack ∧ slack ≤ 2 := by
  unfold readyE at h
  by_cases h1 : m.Camera
  · rw [if_pos h1] at h
    by_cases h2 : t.Ok
    · rw [if_pos h2] at h
      by_cases h3 : 0 ≤ slack ∧ slack ≤ 2
      · exact ⟨h1, h2, h3⟩
      · rw [if_neg h3] at h; omega
    · rw [if_neg h2] at h; omega
  · rw [if_neg h1] at h; omega
set_option maxRecDepth 100000 in
set_option maxHeartbeats 16000000 in
theorem c19 (m : Img) (v : Value) (t : Tool) (g : Grasp) (slack : Int) (w : World) (hv : IntsAt w v m.pix) (hl : m.pix.length ≤ maxLen) :
    Calls Try.prog 19 #[imgVal m v, toolVal t, graspVal g, .int .i64 slack] w (HoldsIs m t g slack w) := by
  have HV := Lib.hid hv
  obtain ⟨ao, cap, rfl, -, -⟩ := hv.form
  have K49 := Lib.hid (fun w' (h : Ext w w') => c49 m _ t slack w' (HV.out.ext h) hl)
  unfold graspVal
  unfold imgVal toolVal at *
  clear hv hl
  by_cases h0 : readyE m t slack = 0
  case neg =>
    obtain ⟨r, hr⟩ : ∃ r, readyE m t slack = r := ⟨_, rfl⟩
    have q0 : (r != 0) = true := by simpa [hr] using h0
    rw [hr] at K49
    have H0 := Lib.hid h0
    have HR := Lib.hid hr
    clear h0 hr
    go_enter Try.func19, Try.ntmps19
    go_wp2_with (go_at_call 49; (with_reducible refine (K49.out _ (by repeat (first | exact Ext.refl _ | assumption | refine Ext.alloc ?_ _ | refine Ext.drewN ?_ _ | refine ext_grow ?_ _ _ | refine Ext.trans ?_ (by assumption)))).mono ?_); rintro E w1 ⟨rfl, hb⟩; have A1 := Lib.hid (show At w1 [(w.heap.size + 1 + 1, Obj.cells #[.int .i64 g.x, .int .i64 g.y, .bool g.across, .int .i64 g.width, .int .i64 g.z] 28), (w.heap.size + 1, Obj.cells #[.int .i64 t.len, .int .i64 t.grip, .int .i64 t.palm] 26), (w.heap.size, Obj.cells #[.int .i64 m.w, .int .i64 m.h, .slice ao m.pix.length cap] 24)] from At.ext hb ⟨(by repeat (first | (refine blk_at _ _ ?_; (first | rfl | (simp only [size_one]; done))) | refine (blk_past _ _ (by simp only [size_one]; omega)).trans ?_)), (by repeat (first | (refine blk_at _ _ ?_; (first | rfl | (simp only [size_one]; done))) | refine (blk_past _ _ (by simp only [size_one]; omega)).trans ?_)), (by repeat (first | (refine blk_at _ _ ?_; (first | rfl | (simp only [size_one]; done))) | refine (blk_past _ _ (by simp only [size_one]; omega)).trans ?_)), trivial⟩); obtain ⟨⟨x00, x01, x02, x03, x04⟩, -⟩ := run_5 (At.at A1.out 0 rfl); obtain ⟨⟨x10, x11, x12⟩, -⟩ := run_3 (At.at A1.out 1 rfl); obtain ⟨⟨x20, x21, x22⟩, -⟩ := run_3 (At.at A1.out 2 rfl); have xz0 := At.lt A1.out 0 rfl; have xy0 := Nat.lt_succ_of_lt xz0; have xx0 := Nat.lt_succ_of_lt xy0; have xz1 := At.lt A1.out 1 rfl; have xy1 := Nat.lt_succ_of_lt xz1; have xx1 := Nat.lt_succ_of_lt xy1; have xz2 := At.lt A1.out 2 rfl; have xy2 := Nat.lt_succ_of_lt xz2; have xx2 := Nat.lt_succ_of_lt xy2)
    go_ret2
    exact ⟨false, by rw [HR.out]; rfl, ⟨fun h => (by cases h), fun h => absurd h.1 H0.out⟩, (by repeat (first | exact Ext.refl _ | assumption | refine Ext.alloc ?_ _ | refine Ext.drewN ?_ _ | refine ext_grow ?_ _ _ | refine Ext.trans ?_ (by assumption)))⟩
  obtain ⟨r1, r2, r3⟩ := ready_ok h0
  rw [h0] at K49
  have H0 := Lib.hid h0
  have R1 := Lib.hid r1
  have R2 := Lib.hid r2
  clear h0 r1 r2
  by_cases h1 : (0 ≤ g.x ∧ g.x ≤ 16) ∧ 0 ≤ g.y ∧ g.y ≤ 16
  case neg =>
    have q1 : decide ((0 ≤ g.x ∧ g.x ≤ 16) ∧ 0 ≤ g.y ∧ g.y ≤ 16) = false := decide_eq_false h1
    have H1 := Lib.hid h1
    clear h1
    go_enter Try.func19, Try.ntmps19
    go_wp2_with (first | (have _q := hb; go_at_call 50; (with_reducible refine (within_two_same 50 (.inl rfl) _ _ _ _ _ _ (by simp)).mono ?_); rintro E w' ⟨rfl, rfl⟩) | (go_at_call 49; (with_reducible refine (K49.out _ (by repeat (first | exact Ext.refl _ | assumption | refine Ext.alloc ?_ _ | refine Ext.drewN ?_ _ | refine ext_grow ?_ _ _ | refine Ext.trans ?_ (by assumption)))).mono ?_); rintro E w1 ⟨rfl, hb⟩; have A1 := Lib.hid (show At w1 [(w.heap.size + 1 + 1, Obj.cells #[.int .i64 g.x, .int .i64 g.y, .bool g.across, .int .i64 g.width, .int .i64 g.z] 28), (w.heap.size + 1, Obj.cells #[.int .i64 t.len, .int .i64 t.grip, .int .i64 t.palm] 26), (w.heap.size, Obj.cells #[.int .i64 m.w, .int .i64 m.h, .slice ao m.pix.length cap] 24)] from At.ext hb ⟨(by repeat (first | (refine blk_at _ _ ?_; (first | rfl | (simp only [size_one]; done))) | refine (blk_past _ _ (by simp only [size_one]; omega)).trans ?_)), (by repeat (first | (refine blk_at _ _ ?_; (first | rfl | (simp only [size_one]; done))) | refine (blk_past _ _ (by simp only [size_one]; omega)).trans ?_)), (by repeat (first | (refine blk_at _ _ ?_; (first | rfl | (simp only [size_one]; done))) | refine (blk_past _ _ (by simp only [size_one]; omega)).trans ?_)), trivial⟩); obtain ⟨⟨x00, x01, x02, x03, x04⟩, -⟩ := run_5 (At.at A1.out 0 rfl); obtain ⟨⟨x10, x11, x12⟩, -⟩ := run_3 (At.at A1.out 1 rfl); obtain ⟨⟨x20, x21, x22⟩, -⟩ := run_3 (At.at A1.out 2 rfl); have xz0 := At.lt A1.out 0 rfl; have xy0 := Nat.lt_succ_of_lt xz0; have xx0 := Nat.lt_succ_of_lt xy0; have xz1 := At.lt A1.out 1 rfl; have xy1 := Nat.lt_succ_of_lt xz1; have xx1 := Nat.lt_succ_of_lt xy1; have xz2 := At.lt A1.out 2 rfl; have xy2 := Nat.lt_succ_of_lt xz2; have xx2 := Nat.lt_succ_of_lt xy2))
    go_ret2
    exact ⟨false, by rw [H0.out]; rfl, ⟨fun h => (by cases h), fun h => absurd (holds_near R1.out.1 R2.out.1.1 r3.1 h.2) (fun h9 => H1.out (by omega))⟩, (by repeat (first | exact Ext.refl _ | assumption | refine Ext.alloc ?_ _ | refine Ext.drewN ?_ _ | refine ext_grow ?_ _ _ | refine Ext.trans ?_ (by assumption)))⟩
  have q1 : decide ((0 ≤ g.x ∧ g.x ≤ 16) ∧ 0 ≤ g.y ∧ g.y ≤ 16) = true := decide_eq_true h1
  have H1 := Lib.hid h1
  clear h1
  by_cases h2 : 1 ≤ g.width ∧ g.width ≤ 8
  case neg =>
    have q2 : decide (1 ≤ g.width ∧ g.width ≤ 8) = false := decide_eq_false h2
    have H2 := Lib.hid h2
    clear h2
    go_enter Try.func19, Try.ntmps19
    go_wp2_with (first | (have _q := hb; go_at_call 50; (with_reducible refine (within_one_same 50 (.inl rfl) _ _ _ _ _ (by simp)).mono ?_); rintro E w' ⟨rfl, rfl⟩) | (have _q := hb; go_at_call 50; (with_reducible refine (within_two_same 50 (.inl rfl) _ _ _ _ _ _ (by simp)).mono ?_); rintro E w' ⟨rfl, rfl⟩) | (go_at_call 49; (with_reducible refine (K49.out _ (by repeat (first | exact Ext.refl _ | assumption | refine Ext.alloc ?_ _ | refine Ext.drewN ?_ _ | refine ext_grow ?_ _ _ | refine Ext.trans ?_ (by assumption)))).mono ?_); rintro E w1 ⟨rfl, hb⟩; have A1 := Lib.hid (show At w1 [(w.heap.size + 1 + 1, Obj.cells #[.int .i64 g.x, .int .i64 g.y, .bool g.across, .int .i64 g.width, .int .i64 g.z] 28), (w.heap.size + 1, Obj.cells #[.int .i64 t.len, .int .i64 t.grip, .int .i64 t.palm] 26), (w.heap.size, Obj.cells #[.int .i64 m.w, .int .i64 m.h, .slice ao m.pix.length cap] 24)] from At.ext hb ⟨(by repeat (first | (refine blk_at _ _ ?_; (first | rfl | (simp only [size_one]; done))) | refine (blk_past _ _ (by simp only [size_one]; omega)).trans ?_)), (by repeat (first | (refine blk_at _ _ ?_; (first | rfl | (simp only [size_one]; done))) | refine (blk_past _ _ (by simp only [size_one]; omega)).trans ?_)), (by repeat (first | (refine blk_at _ _ ?_; (first | rfl | (simp only [size_one]; done))) | refine (blk_past _ _ (by simp only [size_one]; omega)).trans ?_)), trivial⟩); obtain ⟨⟨x00, x01, x02, x03, x04⟩, -⟩ := run_5 (At.at A1.out 0 rfl); obtain ⟨⟨x10, x11, x12⟩, -⟩ := run_3 (At.at A1.out 1 rfl); obtain ⟨⟨x20, x21, x22⟩, -⟩ := run_3 (At.at A1.out 2 rfl); have xz0 := At.lt A1.out 0 rfl; have xy0 := Nat.lt_succ_of_lt xz0; have xx0 := Nat.lt_succ_of_lt xy0; have xz1 := At.lt A1.out 1 rfl; have xy1 := Nat.lt_succ_of_lt xz1; have xx1 := Nat.lt_succ_of_lt xy1; have xz2 := At.lt A1.out 2 rfl; have xy2 := Nat.lt_succ_of_lt xz2; have xx2 := Nat.lt_succ_of_lt xy2))
    go_ret2
    exact ⟨false, by rw [H0.out]; rfl, ⟨fun h => (by cases h), fun h => absurd h.2.1 H2.out⟩, (by repeat (first | exact Ext.refl _ | assumption | refine Ext.alloc ?_ _ | refine Ext.drewN ?_ _ | refine ext_grow ?_ _ _ | refine Ext.trans ?_ (by assumption)))⟩
  have q2 : decide (1 ≤ g.width ∧ g.width ≤ 8) = true := decide_eq_true h2
  have H2 := Lib.hid h2
  clear h2
  obtain ⟨gx, gy, ga, gw, gz⟩ := g
  dsimp only at *
  cases ga
  case false =>
    have K51 := Lib.hid (fun w' (h : Ext w w') => c51 m _ t false gx gy gw slack w' R1.out R2.out (HV.out.ext h) (by have := H1.out; omega) (by have := H1.out; omega) H2.out r3)
    unfold viewVal toolVal at K51
    go_enter Try.func19, Try.ntmps19
    go_wp2_with (first | (have _q := hb; go_at_call 50; (with_reducible refine (within_one_same 50 (.inl rfl) _ _ _ _ _ (by simp)).mono ?_); rintro E w' ⟨rfl, rfl⟩) | (have _q := hb; go_at_call 50; (with_reducible refine (within_two_same 50 (.inl rfl) _ _ _ _ _ _ (by simp)).mono ?_); rintro E w' ⟨rfl, rfl⟩) | (go_at_call 49; (with_reducible refine (K49.out _ (by repeat (first | exact Ext.refl _ | assumption | refine Ext.alloc ?_ _ | refine Ext.drewN ?_ _ | refine ext_grow ?_ _ _ | refine Ext.trans ?_ (by assumption)))).mono ?_); rintro E w1 ⟨rfl, hb⟩; have A1 := Lib.hid (show At w1 [(w.heap.size + 1 + 1, Obj.cells #[.int .i64 gx, .int .i64 gy, .bool false, .int .i64 gw, .int .i64 gz] 28), (w.heap.size + 1, Obj.cells #[.int .i64 t.len, .int .i64 t.grip, .int .i64 t.palm] 26), (w.heap.size, Obj.cells #[.int .i64 m.w, .int .i64 m.h, .slice ao m.pix.length cap] 24)] from At.ext hb ⟨(by repeat (first | (refine blk_at _ _ ?_; (first | rfl | (simp only [size_one]; done))) | refine (blk_past _ _ (by simp only [size_one]; omega)).trans ?_)), (by repeat (first | (refine blk_at _ _ ?_; (first | rfl | (simp only [size_one]; done))) | refine (blk_past _ _ (by simp only [size_one]; omega)).trans ?_)), (by repeat (first | (refine blk_at _ _ ?_; (first | rfl | (simp only [size_one]; done))) | refine (blk_past _ _ (by simp only [size_one]; omega)).trans ?_)), trivial⟩); obtain ⟨⟨x00, x01, x02, x03, x04⟩, -⟩ := run_5 (At.at A1.out 0 rfl); obtain ⟨⟨x10, x11, x12⟩, -⟩ := run_3 (At.at A1.out 1 rfl); obtain ⟨⟨x20, x21, x22⟩, -⟩ := run_3 (At.at A1.out 2 rfl); have xz0 := At.lt A1.out 0 rfl; have xy0 := Nat.lt_succ_of_lt xz0; have xx0 := Nat.lt_succ_of_lt xy0; have xz1 := At.lt A1.out 1 rfl; have xy1 := Nat.lt_succ_of_lt xz1; have xx1 := Nat.lt_succ_of_lt xy1; have xz2 := At.lt A1.out 2 rfl; have xy2 := Nat.lt_succ_of_lt xz2; have xx2 := Nat.lt_succ_of_lt xy2))
    go_quiet (fail)
    go_wp2_with (first | (have _q := hb; go_at_call 50; (with_reducible refine (within_one_same 50 (.inl rfl) _ _ _ _ _ (by simp)).mono ?_); rintro E w' ⟨rfl, rfl⟩) | (have _q := hb; go_at_call 51; (with_reducible refine (K51.out _ (by repeat (first | exact Ext.refl _ | assumption | refine Ext.alloc ?_ _ | refine Ext.drewN ?_ _ | refine ext_grow ?_ _ _ | refine Ext.trans ?_ (by assumption)))).mono ?_); rintro E w2 ⟨lo, hi, rfl, hr, hb2⟩; have HR := Lib.hid hr; clear hr; have A2 := Lib.hid (show At w2 [(w.heap.size + 1 + 1, Obj.cells #[.int .i64 gx, .int .i64 gy, .bool false, .int .i64 gw, .int .i64 gz] 28), (w.heap.size + 1, Obj.cells #[.int .i64 t.len, .int .i64 t.grip, .int .i64 t.palm] 26), (w.heap.size, Obj.cells #[.int .i64 m.w, .int .i64 m.h, .slice ao m.pix.length cap] 24)] from At.ext (show Ext w1 w2 from (by repeat (first | exact Ext.refl _ | assumption | refine Ext.alloc ?_ _ | refine Ext.drewN ?_ _ | refine ext_grow ?_ _ _ | refine Ext.trans ?_ (by assumption)))) A1.out); obtain ⟨⟨y00, y01, y02, y03, y04⟩, -⟩ := run_5 (At.at A2.out 0 rfl); obtain ⟨⟨y10, y11, y12⟩, -⟩ := run_3 (At.at A2.out 1 rfl); obtain ⟨⟨y20, y21, y22⟩, -⟩ := run_3 (At.at A2.out 2 rfl); have yz0 := At.lt A2.out 0 rfl; have yy0 := Nat.lt_succ_of_lt yz0; have yx0 := Nat.lt_succ_of_lt yy0; have yz1 := At.lt A2.out 1 rfl; have yy1 := Nat.lt_succ_of_lt yz1; have yx1 := Nat.lt_succ_of_lt yy1; have yz2 := At.lt A2.out 2 rfl; have yy2 := Nat.lt_succ_of_lt yz2; have yx2 := Nat.lt_succ_of_lt yy2))
    go_ret2
    refine ⟨_, by rw [H0.out]; rfl, ?_, (by repeat (first | exact Ext.refl _ | assumption | refine Ext.alloc ?_ _ | refine Ext.drewN ?_ _ | refine ext_grow ?_ _ _ | refine Ext.trans ?_ (by assumption)))⟩
    have hbb : ((decide (lo ≤ gz) && decide (gz ≤ hi)) = true) ↔ (lo ≤ gz ∧ gz ≤ hi) := by simp
    refine hbb.trans ?_
    exact (HR.out.2.2 gz).trans ⟨fun h => ⟨H0.out, H2.out, h⟩, fun h => h.2.2⟩
  case true =>
    have K51 := Lib.hid (fun w' (h : Ext w w') => c51 m _ t true gy gx gw slack w' R1.out R2.out (HV.out.ext h) (by have := H1.out; omega) (by have := H1.out; omega) H2.out r3)
    unfold viewVal toolVal at K51
    go_enter Try.func19, Try.ntmps19
    go_wp2_with (first | (have _q := hb; go_at_call 50; (with_reducible refine (within_one_same 50 (.inl rfl) _ _ _ _ _ (by simp)).mono ?_); rintro E w' ⟨rfl, rfl⟩) | (have _q := hb; go_at_call 50; (with_reducible refine (within_two_same 50 (.inl rfl) _ _ _ _ _ _ (by simp)).mono ?_); rintro E w' ⟨rfl, rfl⟩) | (go_at_call 49; (with_reducible refine (K49.out _ (by repeat (first | exact Ext.refl _ | assumption | refine Ext.alloc ?_ _ | refine Ext.drewN ?_ _ | refine ext_grow ?_ _ _ | refine Ext.trans ?_ (by assumption)))).mono ?_); rintro E w1 ⟨rfl, hb⟩; have A1 := Lib.hid (show At w1 [(w.heap.size + 1 + 1, Obj.cells #[.int .i64 gx, .int .i64 gy, .bool true, .int .i64 gw, .int .i64 gz] 28), (w.heap.size + 1, Obj.cells #[.int .i64 t.len, .int .i64 t.grip, .int .i64 t.palm] 26), (w.heap.size, Obj.cells #[.int .i64 m.w, .int .i64 m.h, .slice ao m.pix.length cap] 24)] from At.ext hb ⟨(by repeat (first | (refine blk_at _ _ ?_; (first | rfl | (simp only [size_one]; done))) | refine (blk_past _ _ (by simp only [size_one]; omega)).trans ?_)), (by repeat (first | (refine blk_at _ _ ?_; (first | rfl | (simp only [size_one]; done))) | refine (blk_past _ _ (by simp only [size_one]; omega)).trans ?_)), (by repeat (first | (refine blk_at _ _ ?_; (first | rfl | (simp only [size_one]; done))) | refine (blk_past _ _ (by simp only [size_one]; omega)).trans ?_)), trivial⟩); obtain ⟨⟨x00, x01, x02, x03, x04⟩, -⟩ := run_5 (At.at A1.out 0 rfl); obtain ⟨⟨x10, x11, x12⟩, -⟩ := run_3 (At.at A1.out 1 rfl); obtain ⟨⟨x20, x21, x22⟩, -⟩ := run_3 (At.at A1.out 2 rfl); have xz0 := At.lt A1.out 0 rfl; have xy0 := Nat.lt_succ_of_lt xz0; have xx0 := Nat.lt_succ_of_lt xy0; have xz1 := At.lt A1.out 1 rfl; have xy1 := Nat.lt_succ_of_lt xz1; have xx1 := Nat.lt_succ_of_lt xy1; have xz2 := At.lt A1.out 2 rfl; have xy2 := Nat.lt_succ_of_lt xz2; have xx2 := Nat.lt_succ_of_lt xy2))
    go_quiet (fail)
    go_wp2_with (first | (have _q := hb; go_at_call 50; (with_reducible refine (within_one_same 50 (.inl rfl) _ _ _ _ _ (by simp)).mono ?_); rintro E w' ⟨rfl, rfl⟩) | (have _q := hb; go_at_call 51; (with_reducible refine (K51.out _ (by repeat (first | exact Ext.refl _ | assumption | refine Ext.alloc ?_ _ | refine Ext.drewN ?_ _ | refine ext_grow ?_ _ _ | refine Ext.trans ?_ (by assumption)))).mono ?_); rintro E w2 ⟨lo, hi, rfl, hr, hb2⟩; have HR := Lib.hid hr; clear hr; have A2 := Lib.hid (show At w2 [(w.heap.size + 1 + 1, Obj.cells #[.int .i64 gx, .int .i64 gy, .bool true, .int .i64 gw, .int .i64 gz] 28), (w.heap.size + 1, Obj.cells #[.int .i64 t.len, .int .i64 t.grip, .int .i64 t.palm] 26), (w.heap.size, Obj.cells #[.int .i64 m.w, .int .i64 m.h, .slice ao m.pix.length cap] 24)] from At.ext (show Ext w1 w2 from (by repeat (first | exact Ext.refl _ | assumption | refine Ext.alloc ?_ _ | refine Ext.drewN ?_ _ | refine ext_grow ?_ _ _ | refine Ext.trans ?_ (by assumption)))) A1.out); obtain ⟨⟨y00, y01, y02, y03, y04⟩, -⟩ := run_5 (At.at A2.out 0 rfl); obtain ⟨⟨y10, y11, y12⟩, -⟩ := run_3 (At.at A2.out 1 rfl); obtain ⟨⟨y20, y21, y22⟩, -⟩ := run_3 (At.at A2.out 2 rfl); have yz0 := At.lt A2.out 0 rfl; have yy0 := Nat.lt_succ_of_lt yz0; have yx0 := Nat.lt_succ_of_lt yy0; have yz1 := At.lt A2.out 1 rfl; have yy1 := Nat.lt_succ_of_lt yz1; have yx1 := Nat.lt_succ_of_lt yy1; have yz2 := At.lt A2.out 2 rfl; have yy2 := Nat.lt_succ_of_lt yz2; have yx2 := Nat.lt_succ_of_lt yy2))
    go_ret2
    refine ⟨_, by rw [H0.out]; rfl, ?_, (by repeat (first | exact Ext.refl _ | assumption | refine Ext.alloc ?_ _ | refine Ext.drewN ?_ _ | refine ext_grow ?_ _ _ | refine Ext.trans ?_ (by assumption)))⟩
    have hbb : ((decide (lo ≤ gz) && decide (gz ≤ hi)) = true) ↔ (lo ≤ gz ∧ gz ≤ hi) := by simp
    refine hbb.trans ?_
    exact (HR.out.2.2 gz).trans ⟨fun h => ⟨H0.out, H2.out, h⟩, fun h => h.2.2⟩
end Go.Proofs.Ytipkjdfnoonpcaa
