/- Holds and Plan: the reference's walks. -/
import Derived.Test.YtipkjdfnoonpcaaSameG
set_option linter.unusedVariables false
set_option linter.unusedSimpArgs false
namespace Go.Proofs.Ytipkjdfnoonpcaa
open Go.RowKit Go.Sort

set_option maxRecDepth 100000 in
set_option maxHeartbeats 8000000 in
theorem c20 (m : Img) (v : Value) (t : Tool) (g : Grasp) (slack : Int) (w : World) (hv : IntsAt w v m.pix) (hl : m.pix.length ≤ maxLen) :
    Calls Try.prog 20 #[imgVal m v, toolVal t, graspVal g, .int .i64 slack] w (HoldsIs m t g slack w) := by
  have HV := Lib.hid hv
  obtain ⟨ao, cap, rfl, -, -⟩ := hv.form
  have K52 := Lib.hid (fun w' (h : Ext w w') => c52 m _ t slack w' (HV.out.ext h) hl)
  have K53 := Lib.hid (fun w' => c53 g w')
  have K0 := fun w' (h : Ext w w') (h1 : m.Camera) (h2 : t.Ok) (h3 : g.near) (h4 : 0 ≤ slack ∧ slack ≤ 2) => c54 m _ t g slack w' h1 h2 (HV.out.ext h) h3 h4
  have HK0 := Lib.hid K0
  unfold graspVal imgVal toolVal at *
  clear hv hl K0
  by_cases h0 : readyE m t slack = 0
  case neg =>
    obtain ⟨r, hr⟩ : ∃ r, readyE m t slack = r := ⟨_, rfl⟩
    have q0 : (r != 0) = true := by simpa [hr] using h0
    rw [hr] at K52
    have H0 := Lib.hid h0
    have HR := Lib.hid hr
    clear h0 hr
    go_enter Try.func20, Try.ntmps20
    go_wp2_with (go_at_call 52; (with_reducible refine (K52.out _ (by repeat (first | exact Ext.refl _ | assumption | refine Ext.alloc ?_ _ | refine Ext.drewN ?_ _ | refine ext_grow ?_ _ _ | refine Ext.trans ?_ (by assumption)))).mono ?_); rintro E w1 ⟨rfl, hb⟩; have A1 := Lib.hid (show At w1 [(w.heap.size + 1 + 1, Obj.cells #[.int .i64 g.x, .int .i64 g.y, .bool g.across, .int .i64 g.width, .int .i64 g.z] 28), (w.heap.size + 1, Obj.cells #[.int .i64 t.len, .int .i64 t.grip, .int .i64 t.palm] 26), (w.heap.size, Obj.cells #[.int .i64 m.w, .int .i64 m.h, .slice ao m.pix.length cap] 24)] from At.ext hb ⟨(by repeat (first | (refine blk_at _ _ ?_; (first | rfl | (simp only [size_one]; done))) | refine (blk_past _ _ (by simp only [size_one]; omega)).trans ?_)), (by repeat (first | (refine blk_at _ _ ?_; (first | rfl | (simp only [size_one]; done))) | refine (blk_past _ _ (by simp only [size_one]; omega)).trans ?_)), (by repeat (first | (refine blk_at _ _ ?_; (first | rfl | (simp only [size_one]; done))) | refine (blk_past _ _ (by simp only [size_one]; omega)).trans ?_)), trivial⟩); have E1 := Lib.hid (show Ext w w1 from (by repeat (first | exact Ext.refl _ | assumption | refine Ext.alloc ?_ _ | refine Ext.drewN ?_ _ | refine ext_grow ?_ _ _ | refine Ext.trans ?_ (by assumption)))); obtain ⟨⟨x00, x01, x02, x03, x04⟩, -⟩ := run_5 (At.at A1.out 0 rfl); obtain ⟨⟨x10, x11, x12⟩, -⟩ := run_3 (At.at A1.out 1 rfl); obtain ⟨⟨x20, x21, x22⟩, -⟩ := run_3 (At.at A1.out 2 rfl); have xz0 := At.lt A1.out 0 rfl; have xy0 := Nat.lt_succ_of_lt xz0; have xx0 := Nat.lt_succ_of_lt xy0; have xz1 := At.lt A1.out 1 rfl; have xy1 := Nat.lt_succ_of_lt xz1; have xx1 := Nat.lt_succ_of_lt xy1; have xz2 := At.lt A1.out 2 rfl; have xy2 := Nat.lt_succ_of_lt xz2; have xx2 := Nat.lt_succ_of_lt xy2)
    go_ret2
    exact ⟨false, by rw [HR.out]; rfl, ⟨fun h => (by cases h), fun h => absurd h.1 H0.out⟩, E1.out⟩
  obtain ⟨r1, r2, r3⟩ := ready_ok h0
  rw [h0] at K52
  have H0 := Lib.hid h0
  by_cases h1 : g.near
  case neg =>
    have q1 : decide g.near = false := decide_eq_false h1
    rw [q1] at K53
    have H1 := Lib.hid h1
    have R := Lib.hid (And.intro r1 r2)
    clear h0 h1 q1 r1 r2
    go_enter Try.func20, Try.ntmps20
    go_wp2_with (first | (have _q := E1; go_at_call 53; (with_reducible refine (K53.out _).mono ?_); rintro E w2 ⟨rfl, hb2⟩; have A2 := Lib.hid (show At w2 [(w.heap.size + 1 + 1, Obj.cells #[.int .i64 g.x, .int .i64 g.y, .bool g.across, .int .i64 g.width, .int .i64 g.z] 28), (w.heap.size + 1, Obj.cells #[.int .i64 t.len, .int .i64 t.grip, .int .i64 t.palm] 26), (w.heap.size, Obj.cells #[.int .i64 m.w, .int .i64 m.h, .slice ao m.pix.length cap] 24)] from At.ext hb2 A1.out); have E2 := Lib.hid (E1.out.trans hb2); obtain ⟨⟨y00, y01, y02, y03, y04⟩, -⟩ := run_5 (At.at A2.out 0 rfl); obtain ⟨⟨y10, y11, y12⟩, -⟩ := run_3 (At.at A2.out 1 rfl); obtain ⟨⟨y20, y21, y22⟩, -⟩ := run_3 (At.at A2.out 2 rfl); have yz0 := At.lt A2.out 0 rfl; have yy0 := Nat.lt_succ_of_lt yz0; have yx0 := Nat.lt_succ_of_lt yy0; have yz1 := At.lt A2.out 1 rfl; have yy1 := Nat.lt_succ_of_lt yz1; have yx1 := Nat.lt_succ_of_lt yy1; have yz2 := At.lt A2.out 2 rfl; have yy2 := Nat.lt_succ_of_lt yz2; have yx2 := Nat.lt_succ_of_lt yy2) | (go_at_call 52; (with_reducible refine (K52.out _ (by repeat (first | exact Ext.refl _ | assumption | refine Ext.alloc ?_ _ | refine Ext.drewN ?_ _ | refine ext_grow ?_ _ _ | refine Ext.trans ?_ (by assumption)))).mono ?_); rintro E w1 ⟨rfl, hb⟩; have A1 := Lib.hid (show At w1 [(w.heap.size + 1 + 1, Obj.cells #[.int .i64 g.x, .int .i64 g.y, .bool g.across, .int .i64 g.width, .int .i64 g.z] 28), (w.heap.size + 1, Obj.cells #[.int .i64 t.len, .int .i64 t.grip, .int .i64 t.palm] 26), (w.heap.size, Obj.cells #[.int .i64 m.w, .int .i64 m.h, .slice ao m.pix.length cap] 24)] from At.ext hb ⟨(by repeat (first | (refine blk_at _ _ ?_; (first | rfl | (simp only [size_one]; done))) | refine (blk_past _ _ (by simp only [size_one]; omega)).trans ?_)), (by repeat (first | (refine blk_at _ _ ?_; (first | rfl | (simp only [size_one]; done))) | refine (blk_past _ _ (by simp only [size_one]; omega)).trans ?_)), (by repeat (first | (refine blk_at _ _ ?_; (first | rfl | (simp only [size_one]; done))) | refine (blk_past _ _ (by simp only [size_one]; omega)).trans ?_)), trivial⟩); have E1 := Lib.hid (show Ext w w1 from (by repeat (first | exact Ext.refl _ | assumption | refine Ext.alloc ?_ _ | refine Ext.drewN ?_ _ | refine ext_grow ?_ _ _ | refine Ext.trans ?_ (by assumption)))); obtain ⟨⟨x00, x01, x02, x03, x04⟩, -⟩ := run_5 (At.at A1.out 0 rfl); obtain ⟨⟨x10, x11, x12⟩, -⟩ := run_3 (At.at A1.out 1 rfl); obtain ⟨⟨x20, x21, x22⟩, -⟩ := run_3 (At.at A1.out 2 rfl); have xz0 := At.lt A1.out 0 rfl; have xy0 := Nat.lt_succ_of_lt xz0; have xx0 := Nat.lt_succ_of_lt xy0; have xz1 := At.lt A1.out 1 rfl; have xy1 := Nat.lt_succ_of_lt xz1; have xx1 := Nat.lt_succ_of_lt xy1; have xz2 := At.lt A1.out 2 rfl; have xy2 := Nat.lt_succ_of_lt xz2; have xx2 := Nat.lt_succ_of_lt xy2))
    go_ret2
    exact ⟨false, by rw [H0.out]; rfl, ⟨fun h => (by cases h), fun h => absurd (holds_near R.out.1.1 R.out.2.1.1 r3.1 h.2) (fun h9 => H1.out ⟨by omega, by omega⟩)⟩, E2.out⟩
  have q1 : decide g.near = true := decide_eq_true h1
  rw [q1] at K53
  by_cases h2 : m.Holds t g slack
  · have K54 := Lib.hid (fun w' (h : Ext w w') => (HK0.out w' h r1 r2 h1 r3).mono fun _ _ h9 => BoolIs.yes ((held_iff r2.1.1 r3.1).2 h2) h9)
    have H2 := Lib.hid h2
    clear h0 h1 h2 q1 r1 r2 r3 HK0
    go_enter Try.func20, Try.ntmps20
    go_wp2_with (first | (have _q := E2; go_at_call 54; (with_reducible refine (K54.out _ E2.out).mono ?_); rintro E w3 ⟨rfl, hb3⟩; have E3 := Lib.hid (E2.out.trans hb3)) | (have _q := E1; go_at_call 53; (with_reducible refine (K53.out _).mono ?_); rintro E w2 ⟨rfl, hb2⟩; have A2 := Lib.hid (show At w2 [(w.heap.size + 1 + 1, Obj.cells #[.int .i64 g.x, .int .i64 g.y, .bool g.across, .int .i64 g.width, .int .i64 g.z] 28), (w.heap.size + 1, Obj.cells #[.int .i64 t.len, .int .i64 t.grip, .int .i64 t.palm] 26), (w.heap.size, Obj.cells #[.int .i64 m.w, .int .i64 m.h, .slice ao m.pix.length cap] 24)] from At.ext hb2 A1.out); have E2 := Lib.hid (E1.out.trans hb2); obtain ⟨⟨y00, y01, y02, y03, y04⟩, -⟩ := run_5 (At.at A2.out 0 rfl); obtain ⟨⟨y10, y11, y12⟩, -⟩ := run_3 (At.at A2.out 1 rfl); obtain ⟨⟨y20, y21, y22⟩, -⟩ := run_3 (At.at A2.out 2 rfl); have yz0 := At.lt A2.out 0 rfl; have yy0 := Nat.lt_succ_of_lt yz0; have yx0 := Nat.lt_succ_of_lt yy0; have yz1 := At.lt A2.out 1 rfl; have yy1 := Nat.lt_succ_of_lt yz1; have yx1 := Nat.lt_succ_of_lt yy1; have yz2 := At.lt A2.out 2 rfl; have yy2 := Nat.lt_succ_of_lt yz2; have yx2 := Nat.lt_succ_of_lt yy2) | (go_at_call 52; (with_reducible refine (K52.out _ (by repeat (first | exact Ext.refl _ | assumption | refine Ext.alloc ?_ _ | refine Ext.drewN ?_ _ | refine ext_grow ?_ _ _ | refine Ext.trans ?_ (by assumption)))).mono ?_); rintro E w1 ⟨rfl, hb⟩; have A1 := Lib.hid (show At w1 [(w.heap.size + 1 + 1, Obj.cells #[.int .i64 g.x, .int .i64 g.y, .bool g.across, .int .i64 g.width, .int .i64 g.z] 28), (w.heap.size + 1, Obj.cells #[.int .i64 t.len, .int .i64 t.grip, .int .i64 t.palm] 26), (w.heap.size, Obj.cells #[.int .i64 m.w, .int .i64 m.h, .slice ao m.pix.length cap] 24)] from At.ext hb ⟨(by repeat (first | (refine blk_at _ _ ?_; (first | rfl | (simp only [size_one]; done))) | refine (blk_past _ _ (by simp only [size_one]; omega)).trans ?_)), (by repeat (first | (refine blk_at _ _ ?_; (first | rfl | (simp only [size_one]; done))) | refine (blk_past _ _ (by simp only [size_one]; omega)).trans ?_)), (by repeat (first | (refine blk_at _ _ ?_; (first | rfl | (simp only [size_one]; done))) | refine (blk_past _ _ (by simp only [size_one]; omega)).trans ?_)), trivial⟩); have E1 := Lib.hid (show Ext w w1 from (by repeat (first | exact Ext.refl _ | assumption | refine Ext.alloc ?_ _ | refine Ext.drewN ?_ _ | refine ext_grow ?_ _ _ | refine Ext.trans ?_ (by assumption)))); obtain ⟨⟨x00, x01, x02, x03, x04⟩, -⟩ := run_5 (At.at A1.out 0 rfl); obtain ⟨⟨x10, x11, x12⟩, -⟩ := run_3 (At.at A1.out 1 rfl); obtain ⟨⟨x20, x21, x22⟩, -⟩ := run_3 (At.at A1.out 2 rfl); have xz0 := At.lt A1.out 0 rfl; have xy0 := Nat.lt_succ_of_lt xz0; have xx0 := Nat.lt_succ_of_lt xy0; have xz1 := At.lt A1.out 1 rfl; have xy1 := Nat.lt_succ_of_lt xz1; have xx1 := Nat.lt_succ_of_lt xy1; have xz2 := At.lt A1.out 2 rfl; have xy2 := Nat.lt_succ_of_lt xz2; have xx2 := Nat.lt_succ_of_lt xy2))
    go_ret2
    exact ⟨true, by rw [H0.out]; rfl, ⟨fun _ => ⟨H0.out, H2.out⟩, fun _ => rfl⟩, E3.out⟩
  · have K54 := Lib.hid (fun w' (h : Ext w w') => (HK0.out w' h r1 r2 h1 r3).mono fun _ _ h9 => BoolIs.no (fun h8 => h2 ((held_iff r2.1.1 r3.1).1 h8)) h9)
    have H2 := Lib.hid h2
    clear h0 h1 h2 q1 r1 r2 r3 HK0
    go_enter Try.func20, Try.ntmps20
    go_wp2_with (first | (have _q := E2; go_at_call 54; (with_reducible refine (K54.out _ E2.out).mono ?_); rintro E w3 ⟨rfl, hb3⟩; have E3 := Lib.hid (E2.out.trans hb3)) | (have _q := E1; go_at_call 53; (with_reducible refine (K53.out _).mono ?_); rintro E w2 ⟨rfl, hb2⟩; have A2 := Lib.hid (show At w2 [(w.heap.size + 1 + 1, Obj.cells #[.int .i64 g.x, .int .i64 g.y, .bool g.across, .int .i64 g.width, .int .i64 g.z] 28), (w.heap.size + 1, Obj.cells #[.int .i64 t.len, .int .i64 t.grip, .int .i64 t.palm] 26), (w.heap.size, Obj.cells #[.int .i64 m.w, .int .i64 m.h, .slice ao m.pix.length cap] 24)] from At.ext hb2 A1.out); have E2 := Lib.hid (E1.out.trans hb2); obtain ⟨⟨y00, y01, y02, y03, y04⟩, -⟩ := run_5 (At.at A2.out 0 rfl); obtain ⟨⟨y10, y11, y12⟩, -⟩ := run_3 (At.at A2.out 1 rfl); obtain ⟨⟨y20, y21, y22⟩, -⟩ := run_3 (At.at A2.out 2 rfl); have yz0 := At.lt A2.out 0 rfl; have yy0 := Nat.lt_succ_of_lt yz0; have yx0 := Nat.lt_succ_of_lt yy0; have yz1 := At.lt A2.out 1 rfl; have yy1 := Nat.lt_succ_of_lt yz1; have yx1 := Nat.lt_succ_of_lt yy1; have yz2 := At.lt A2.out 2 rfl; have yy2 := Nat.lt_succ_of_lt yz2; have yx2 := Nat.lt_succ_of_lt yy2) | (go_at_call 52; (with_reducible refine (K52.out _ (by repeat (first | exact Ext.refl _ | assumption | refine Ext.alloc ?_ _ | refine Ext.drewN ?_ _ | refine ext_grow ?_ _ _ | refine Ext.trans ?_ (by assumption)))).mono ?_); rintro E w1 ⟨rfl, hb⟩; have A1 := Lib.hid (show At w1 [(w.heap.size + 1 + 1, Obj.cells #[.int .i64 g.x, .int .i64 g.y, .bool g.across, .int .i64 g.width, .int .i64 g.z] 28), (w.heap.size + 1, Obj.cells #[.int .i64 t.len, .int .i64 t.grip, .int .i64 t.palm] 26), (w.heap.size, Obj.cells #[.int .i64 m.w, .int .i64 m.h, .slice ao m.pix.length cap] 24)] from At.ext hb ⟨(by repeat (first | (refine blk_at _ _ ?_; (first | rfl | (simp only [size_one]; done))) | refine (blk_past _ _ (by simp only [size_one]; omega)).trans ?_)), (by repeat (first | (refine blk_at _ _ ?_; (first | rfl | (simp only [size_one]; done))) | refine (blk_past _ _ (by simp only [size_one]; omega)).trans ?_)), (by repeat (first | (refine blk_at _ _ ?_; (first | rfl | (simp only [size_one]; done))) | refine (blk_past _ _ (by simp only [size_one]; omega)).trans ?_)), trivial⟩); have E1 := Lib.hid (show Ext w w1 from (by repeat (first | exact Ext.refl _ | assumption | refine Ext.alloc ?_ _ | refine Ext.drewN ?_ _ | refine ext_grow ?_ _ _ | refine Ext.trans ?_ (by assumption)))); obtain ⟨⟨x00, x01, x02, x03, x04⟩, -⟩ := run_5 (At.at A1.out 0 rfl); obtain ⟨⟨x10, x11, x12⟩, -⟩ := run_3 (At.at A1.out 1 rfl); obtain ⟨⟨x20, x21, x22⟩, -⟩ := run_3 (At.at A1.out 2 rfl); have xz0 := At.lt A1.out 0 rfl; have xy0 := Nat.lt_succ_of_lt xz0; have xx0 := Nat.lt_succ_of_lt xy0; have xz1 := At.lt A1.out 1 rfl; have xy1 := Nat.lt_succ_of_lt xz1; have xx1 := Nat.lt_succ_of_lt xy1; have xz2 := At.lt A1.out 2 rfl; have xy2 := Nat.lt_succ_of_lt xz2; have xx2 := Nat.lt_succ_of_lt xy2))
    go_ret2
    exact ⟨false, by rw [H0.out]; rfl, ⟨fun h => (by cases h), fun h => absurd h.2 H2.out⟩, E3.out⟩
theorem zOf {w : World} {b : Nat} {c0 c1 c2 c3 : Value} {z : Int} {e : TypeId} (h : w.heap[b]? = some (.cells #[c0, c1, c2, c3, .int .i64 z] e)) : intOf ((w.cell? ⟨b, 4, none⟩).getD undef) = z := by
  rw [(run_5 h).1.2.2.2.2]
  rfl
set_option maxRecDepth 100000 in
set_option maxHeartbeats 32000000 in
theorem c22 (m : Img) (v : Value) (t : Tool) (slack : Int) (w : World) (hv : IntsAt w v m.pix) (hl : m.pix.length ≤ maxLen) :
    Calls Try.prog 22 #[imgVal m v, toolVal t, .int .i64 slack] w (PlanIs m t slack w) := by
  have HV := Lib.hid hv
  obtain ⟨ao, cap, rfl, -, -⟩ := hv.form
  have K52 := Lib.hid (fun w' (h : Ext w w') => c52 m _ t slack w' (HV.out.ext h) hl)
  unfold imgVal toolVal at *
  clear hv hl
  by_cases h0 : readyE m t slack = 0
  case neg =>
    obtain ⟨r, hr⟩ : ∃ r, readyE m t slack = r := ⟨_, rfl⟩
    have q0 : (r != 0) = true := by simpa [hr] using h0
    rw [hr] at K52
    have H0 := Lib.hid h0
    have HR := Lib.hid hr
    clear h0 hr
    go_enter Try.func22, Try.ntmps22
    go_wp2_with (go_at_call 52; (with_reducible refine (K52.out _ (by repeat (first | exact Ext.refl _ | assumption | refine Ext.alloc ?_ _ | refine Ext.drewN ?_ _ | refine ext_grow ?_ _ _ | refine Ext.trans ?_ (by assumption)))).mono ?_); rintro E w1 ⟨rfl, hb⟩; have A1 := Lib.hid (show At w1 [(w.heap.size + 1, Obj.cells #[.int .i64 t.len, .int .i64 t.grip, .int .i64 t.palm] 26), (w.heap.size, Obj.cells #[.int .i64 m.w, .int .i64 m.h, .slice ao m.pix.length cap] 24)] from At.ext hb ⟨(by repeat (first | (refine blk_at _ _ ?_; (first | rfl | (simp only [size_one]; done))) | refine (blk_past _ _ (by simp only [size_one]; omega)).trans ?_)), (by repeat (first | (refine blk_at _ _ ?_; (first | rfl | (simp only [size_one]; done))) | refine (blk_past _ _ (by simp only [size_one]; omega)).trans ?_)), trivial⟩); have E1 := Lib.hid (show Ext w w1 from (by repeat (first | exact Ext.refl _ | assumption | refine Ext.alloc ?_ _ | refine Ext.drewN ?_ _ | refine ext_grow ?_ _ _ | refine Ext.trans ?_ (by assumption)))); obtain ⟨⟨x00, x01, x02⟩, -⟩ := run_3 (At.at A1.out 0 rfl); obtain ⟨⟨x10, x11, x12⟩, -⟩ := run_3 (At.at A1.out 1 rfl); have xz0 := At.lt A1.out 0 rfl; have xy0 := Nat.lt_succ_of_lt xz0; have xx0 := Nat.lt_succ_of_lt xy0; have xz1 := At.lt A1.out 1 rfl; have xy1 := Nat.lt_succ_of_lt xz1; have xx1 := Nat.lt_succ_of_lt xy1)
    go_ret2
    exact ⟨_, [], by rw [HR.out]; rfl, ⟨rfl, .inl ⟨rfl, rfl⟩⟩, fun h => absurd h H0.out, fun _ => rfl, E1.out⟩
  obtain ⟨r1, r2, hsl⟩ := ready_ok h0
  rw [h0] at K52
  have H0 := Lib.hid h0
  have HC := Lib.hid r1
  have HT := Lib.hid r2
  obtain ⟨n1, n2⟩ := Img.len_bd r1.1
  have hmw1 : 1 ≤ m.w := r1.1.1.1
  have hmw2 : m.w ≤ 16 := r1.1.1.2
  obtain ⟨i0, hi0, hz0, hz1, hz2⟩ := info_parts info28
  clear h0 r1 r2
  go_enter Try.func22, Try.ntmps22
  go_wp2_with (go_at_call 52; (with_reducible refine (K52.out _ (by repeat (first | exact Ext.refl _ | assumption | refine Ext.alloc ?_ _ | refine Ext.drewN ?_ _ | refine ext_grow ?_ _ _ | refine Ext.trans ?_ (by assumption)))).mono ?_); rintro E w1 ⟨rfl, hb⟩; have A1 := Lib.hid (show At w1 [(w.heap.size + 1, Obj.cells #[.int .i64 t.len, .int .i64 t.grip, .int .i64 t.palm] 26), (w.heap.size, Obj.cells #[.int .i64 m.w, .int .i64 m.h, .slice ao m.pix.length cap] 24)] from At.ext hb ⟨(by repeat (first | (refine blk_at _ _ ?_; (first | rfl | (simp only [size_one]; done))) | refine (blk_past _ _ (by simp only [size_one]; omega)).trans ?_)), (by repeat (first | (refine blk_at _ _ ?_; (first | rfl | (simp only [size_one]; done))) | refine (blk_past _ _ (by simp only [size_one]; omega)).trans ?_)), trivial⟩); have E1 := Lib.hid (show Ext w w1 from (by repeat (first | exact Ext.refl _ | assumption | refine Ext.alloc ?_ _ | refine Ext.drewN ?_ _ | refine ext_grow ?_ _ _ | refine Ext.trans ?_ (by assumption)))); obtain ⟨⟨x00, x01, x02⟩, -⟩ := run_3 (At.at A1.out 0 rfl); obtain ⟨⟨x10, x11, x12⟩, -⟩ := run_3 (At.at A1.out 1 rfl); have xz0 := At.lt A1.out 0 rfl; have xy0 := Nat.lt_succ_of_lt xz0; have xx0 := Nat.lt_succ_of_lt xy0; have xz1 := At.lt A1.out 1 rfl; have xy1 := Nat.lt_succ_of_lt xz1; have xx1 := Nat.lt_succ_of_lt xy1)
  clear x00 x01 x02 x10 x11 x12 xz0 xy0 xx0 xz1 xy1 xx1
  go_loopw [9, 10] (fun ov i wr => ∃ (n : Nat) (gs : List Grasp), n ≤ 16 ∧ i = .int .i64 (n : Int) ∧ Hid (Ext w wr) ∧ Hid (At wr [(w.heap.size + 1, Obj.cells #[.int .i64 t.len, .int .i64 t.grip, .int .i64 t.palm] 26), (w.heap.size, Obj.cells #[.int .i64 m.w, .int .i64 m.h, .slice ao m.pix.length cap] 24)]) ∧ Hid (wr.ownsRow (w.heap.size + 1 + 1) 28 5 ov gs.length (grasps gs)) ∧ Hid (Gath (m.Try t slack) (n * m.pix.length) gs)) (fun _ i _ => 16 - (intOf i).toNat)
  case atStart => exact ⟨0, [], by omega, rfl, E1, A1, Lib.hid ⟨rfl, .inl ⟨rfl, rfl⟩⟩, Lib.hid (by rw [Nat.zero_mul]; rfl)⟩
  case round =>
    clear A1 E1
    obtain ⟨n, gs, hn, rfl, hE, hA, hO, hG⟩ := hrel
    by_cases hn16 : n < 16
    · have q16 : decide ((n : Int) < 16) = true := decide_eq_true (by omega)
      have q17 : decide (n < 16) = true := decide_eq_true hn16
      obtain ⟨⟨x00, x01, x02⟩, -⟩ := run_3 (At.at hA.out 0 rfl)
      obtain ⟨⟨x10, x11, x12⟩, -⟩ := run_3 (At.at hA.out 1 rfl)
      have xz0 := At.lt hA.out 0 rfl
      have xy0 := Nat.lt_succ_of_lt xz0
      have xx0 := Nat.lt_succ_of_lt xy0
      have xz1 := At.lt hA.out 1 rfl
      have xy1 := Nat.lt_succ_of_lt xz1
      have xx1 := Nat.lt_succ_of_lt xy1
      go_wp2
      clear x00 x01 x02 x10 x11 x12 xz0 xy0 xx0 xz1 xy1 xx1
      obtain ⟨wo, hwo⟩ : ∃ wo : World, wo = wr := ⟨_, rfl⟩
      subst hwo
      go_loopw [9, 11] (fun ov i wr => ∃ (k : Nat) (gs : List Grasp), k ≤ m.pix.length ∧ i = .int .i64 (k : Int) ∧ Hid (Ext w wr) ∧ Hid (At wr [(w.heap.size + 1, Obj.cells #[.int .i64 t.len, .int .i64 t.grip, .int .i64 t.palm] 26), (w.heap.size, Obj.cells #[.int .i64 m.w, .int .i64 m.h, .slice ao m.pix.length cap] 24)]) ∧ Hid (wr.ownsRow (w.heap.size + 1 + 1) 28 5 ov gs.length (grasps gs)) ∧ Hid (Gath (m.Try t slack) (n * m.pix.length + k) gs)) (fun _ i _ => m.pix.length - (intOf i).toNat)
      case atStart => exact ⟨0, gs, by omega, rfl, hE, hA, hO, hG⟩
      case round =>
        clear hE hA hO hG
        obtain ⟨k, gs, hk, rfl, hE, hA, hO, hG⟩ := hrel
        by_cases hkl : k < m.pix.length
        · obtain ⟨pb, pb2⟩ := place_bd HC.out.1 hkl
          have hkq := key_at (q := n) hkl
          obtain ⟨px, hpx⟩ : ∃ px, (k : Int) % m.w = px := ⟨_, rfl⟩
          obtain ⟨py, hpy⟩ : ∃ py, (k : Int) / m.w = py := ⟨_, rfl⟩
          obtain ⟨ac, hac⟩ : ∃ ac : Bool, decide (8 ≤ n) = ac := ⟨_, rfl⟩
          obtain ⟨W, hW⟩ : ∃ W : Int, ((n % 8 : Nat) : Int) + 1 = W := ⟨_, rfl⟩
          rw [hpx, hpy, hac, hW] at hkq
          rw [hpx] at pb
          rw [hpy] at pb2
          have hrem : (k : Int).tmod m.w = px := by rw [Int.tmod_eq_emod_of_nonneg (by omega)]; exact hpx
          have hquo : (k : Int).tdiv m.w = py := by rw [Int.tdiv_eq_ediv_of_nonneg (by omega)]; exact hpy
          have hrem8 : (n : Int).tmod 8 = W - 1 := by rw [Int.tmod_eq_emod_of_nonneg (by omega)]; omega
          have hac8 : decide ((8 : Int) ≤ (n : Int)) = ac := by rw [← hac]; exact decide_eq_decide.2 (by omega)
          have hw1 : 1 ≤ W ∧ W ≤ 8 := by omega
          have hwr : IntKind.i64.wrap (W - 1 + 1) = W := by rw [show W - 1 + 1 = W by omega]; exact IntWalk.i64_in _ (by omega)
          have HK := Lib.hid hkq
          obtain ⟨pb0, pb1⟩ := pb
          obtain ⟨pb3, pb4⟩ := pb2
          obtain ⟨hw2, hw3⟩ := hw1
          have K0 := Lib.hid (fun w' (h : Ext wr w') => c55 m _ t { x := px, y := py, across := ac, width := W, z := 0 } slack w' HC.out HT.out (HV.out.ext (hE.out.trans h)) ⟨by show -1000 ≤ px ∧ px ≤ 1000; omega, by show -1000 ≤ py ∧ py ≤ 1000; omega⟩ hsl)
          have HLT := Lib.hid (fun g9 h9 => (owns_block hO.out g9 h9).2)
          have hlen : gs.length ≤ 5000 := by have h1 := Gath.len hG.out; have h2 := Nat.mul_le_mul (show n ≤ 16 by omega) n2; omega
          have hmw : (m.w == 0) = false := by simp; omega
          obtain ⟨⟨x00, x01, x02⟩, -⟩ := run_3 (At.at hA.out 0 rfl)
          obtain ⟨⟨x10, x11, x12⟩, -⟩ := run_3 (At.at hA.out 1 rfl)
          have xz0 := At.lt hA.out 0 rfl
          have xy0 := Nat.lt_succ_of_lt xz0
          have xx0 := Nat.lt_succ_of_lt xy0
          have xz1 := At.lt hA.out 1 rfl
          have xy1 := Nat.lt_succ_of_lt xz1
          have xx1 := Nat.lt_succ_of_lt xy1
          have HAC := Lib.hid hac
          clear hkq hpx hpy hac hW
          go_wp2
          refine RT.region_one (aq := ?az1) (n := 14) (sx := 12) (vx := 44) (oz := Obj.cells #[.int .i64 0, .int .i64 0, .bool false, .int .i64 0, .int .i64 0] 28) (ox := Obj.cells #[.int .i64 px, .int .i64 py, .bool ac, .int .i64 W, .int .i64 (0)] 28) (qs1 := [_, _, _, _, _, _, _, _, _, _, _, _, _, _]) (qs2 := []) (by kernel_rfl) rfl (by kernel_rfl) (by kernel_rfl) rfl (of_decide_eq_true (by kernel_rfl)) rfl rfl (by kernel_rfl) (by kernel_rfl) (by kernel_rfl) ?_ ?_ ?_ ?_
          rotate_left
          · intro e w
            simp [execOp, go_sem, Try.underlying28]
          · intro wq hEq
            have AQ := Lib.hid (show At wq [(w.heap.size + 1, Obj.cells #[.int .i64 t.len, .int .i64 t.grip, .int .i64 t.palm] 26), (w.heap.size, Obj.cells #[.int .i64 m.w, .int .i64 m.h, .slice ao m.pix.length cap] 24)] from At.ext hEq hA.out)
            obtain ⟨⟨q00, q01, q02⟩, -⟩ := run_3 (At.at AQ.out 0 rfl)
            obtain ⟨⟨q10, q11, q12⟩, -⟩ := run_3 (At.at AQ.out 1 rfl)
            have qz0 := At.lt AQ.out 0 rfl
            have qy0 := Nat.lt_succ_of_lt qz0
            have qx0 := Nat.lt_succ_of_lt qy0
            have qz1 := At.lt AQ.out 1 rfl
            have qy1 := Nat.lt_succ_of_lt qz1
            have qx1 := Nat.lt_succ_of_lt qy1
            clear hEq
            simp only [List.cons_append, List.nil_append, List.append_nil]
            repeat (go_big_quiet_step (fail))
            refine wpQuiet_nil ?_
            exact rfl
          · intro e w b h1 h2 h3
            obtain ⟨⟨c0, c1, c2, c3, c4⟩, f0, f1, f2, f3, f4⟩ := run_5 h3
            have h2' : e (.tmp 44) = .agg #[.int .i64 px, .int .i64 py, .bool ac, .int .i64 W, .int .i64 (0)] := h2
            apply Exists.intro
            apply And.intro
            · simp [execOp, go_sem, h1, h2', c0, c1, c2, c3, c4, f0, f1, f2, f3, f4, Try.underlying28]
              exact rfl
            · exact store_5 h3
          intro bq w5 hE5 hbq hX5
          have A5 := Lib.hid (show At w5 [(bq, Obj.cells #[.int .i64 px, .int .i64 py, .bool ac, .int .i64 W, .int .i64 (0)] 28), (w.heap.size + 1, Obj.cells #[.int .i64 t.len, .int .i64 t.grip, .int .i64 t.palm] 26), (w.heap.size, Obj.cells #[.int .i64 m.w, .int .i64 m.h, .slice ao m.pix.length cap] 24)] from ⟨hX5, At.ext hE5 hA.out⟩)
          obtain ⟨⟨y00, y01, y02, y03, y04⟩, -⟩ := run_5 (At.at A5.out 0 rfl)
          obtain ⟨⟨y10, y11, y12⟩, -⟩ := run_3 (At.at A5.out 1 rfl)
          obtain ⟨⟨y20, y21, y22⟩, -⟩ := run_3 (At.at A5.out 2 rfl)
          have yz0 := At.lt A5.out 0 rfl
          have yy0 := Nat.lt_succ_of_lt yz0
          have yx0 := Nat.lt_succ_of_lt yy0
          have yz1 := At.lt A5.out 1 rfl
          have yy1 := Nat.lt_succ_of_lt yz1
          have yx1 := Nat.lt_succ_of_lt yy1
          have yz2 := At.lt A5.out 2 rfl
          have yy2 := Nat.lt_succ_of_lt yz2
          have yx2 := Nat.lt_succ_of_lt yy2
          have hwz : w.heap.size + 1 < wr.heap.size := At.lt hA.out 0 rfl
          have HLT := Lib.hid (fun g9 h9 => Nat.lt_of_lt_of_le (HLT.out g9 h9) hbq)
          have hwq : w.heap.size + 1 < bq := Nat.lt_of_lt_of_le hwz hbq
          clear hX5 hrem hquo hrem8 hac8 hwr
          by_cases har : m.Around t { x := px, y := py, across := ac, width := W, z := 0 } slack
          case neg =>
            have K55 := Lib.hid (fun w' (h : Ext wr w') => (K0.out w' h).mono fun _ _ h9 => BoolIs.no har h9)
            have HN := Lib.hid (show m.Try t slack (n * m.pix.length + k) none from .inr ⟨fun u hu => har (by
              have h9 := around_of_holds (g := m.key (n * m.pix.length + k)) HT.out.1.1 hsl.1 (by rw [HK.out]; exact ⟨Int.le_refl _, by show (0 : Int) ≤ 255; omega⟩) hu
              rw [HK.out] at h9
              exact h9), rfl⟩)
            unfold imgVal toolVal graspVal at K55
            dsimp only at K55
            clear har K0
            go_wp2_with (go_at_call 55; (with_reducible refine (K55.out _ hE5).mono ?_); rintro E w6 ⟨rfl, hb6⟩; have A6 := Lib.hid (show At w6 [(bq, Obj.cells #[.int .i64 px, .int .i64 py, .bool ac, .int .i64 W, .int .i64 (0)] 28), (w.heap.size + 1, Obj.cells #[.int .i64 t.len, .int .i64 t.grip, .int .i64 t.palm] 26), (w.heap.size, Obj.cells #[.int .i64 m.w, .int .i64 m.h, .slice ao m.pix.length cap] 24)] from At.ext hb6 A5.out); have E6 := Lib.hid (hE.out.trans (hE5.trans hb6)); have O6 := Lib.hid (owns_ext hO.out (hE5.trans hb6)); have hz6 := hb6.size; obtain ⟨⟨z00, z01, z02, z03, z04⟩, zf00, zf01, zf02, zf03, zf04⟩ := run_5 (At.at A6.out 0 rfl); obtain ⟨⟨z10, z11, z12⟩, zf10, zf11, zf12⟩ := run_3 (At.at A6.out 1 rfl); obtain ⟨⟨z20, z21, z22⟩, zf20, zf21, zf22⟩ := run_3 (At.at A6.out 2 rfl); have zz0 := At.lt A6.out 0 rfl; have zy0 := Nat.lt_succ_of_lt zz0; have zx0 := Nat.lt_succ_of_lt zy0; have zz1 := At.lt A6.out 1 rfl; have zy1 := Nat.lt_succ_of_lt zz1; have zx1 := Nat.lt_succ_of_lt zy1; have zz2 := At.lt A6.out 2 rfl; have zy2 := Nat.lt_succ_of_lt zz2; have zx2 := Nat.lt_succ_of_lt zy2)
            go_roundw
            case rel => exact ⟨k + 1, gs, by omega, by go_num, E6, Lib.hid (At.erase A6.out 0), O6, Lib.hid (by rw [(show n * m.pix.length + (k + 1) = (n * m.pix.length + k) + 1 by omega)]; exact gath_no hG.out HN.out)⟩
            case measure => simp [intOf]; omega
          have K55 := Lib.hid (fun w' (h : Ext wr w') => (K0.out w' h).mono fun _ _ h9 => BoolIs.yes har h9)
          unfold imgVal toolVal graspVal at K55
          dsimp only at K55
          clear har K0
          go_wp2_with (go_at_call 55; (with_reducible refine (K55.out _ hE5).mono ?_); rintro E w6 ⟨rfl, hb6⟩; have A6 := Lib.hid (show At w6 [(bq, Obj.cells #[.int .i64 px, .int .i64 py, .bool ac, .int .i64 W, .int .i64 (0)] 28), (w.heap.size + 1, Obj.cells #[.int .i64 t.len, .int .i64 t.grip, .int .i64 t.palm] 26), (w.heap.size, Obj.cells #[.int .i64 m.w, .int .i64 m.h, .slice ao m.pix.length cap] 24)] from At.ext hb6 A5.out); have E6 := Lib.hid (hE.out.trans (hE5.trans hb6)); have O6 := Lib.hid (owns_ext hO.out (hE5.trans hb6)); have hz6 := hb6.size; obtain ⟨⟨z00, z01, z02, z03, z04⟩, zf00, zf01, zf02, zf03, zf04⟩ := run_5 (At.at A6.out 0 rfl); obtain ⟨⟨z10, z11, z12⟩, zf10, zf11, zf12⟩ := run_3 (At.at A6.out 1 rfl); obtain ⟨⟨z20, z21, z22⟩, zf20, zf21, zf22⟩ := run_3 (At.at A6.out 2 rfl); have zz0 := At.lt A6.out 0 rfl; have zy0 := Nat.lt_succ_of_lt zz0; have zx0 := Nat.lt_succ_of_lt zy0; have zz1 := At.lt A6.out 1 rfl; have zy1 := Nat.lt_succ_of_lt zz1; have zx1 := Nat.lt_succ_of_lt zy1; have zz2 := At.lt A6.out 2 rfl; have zy2 := Nat.lt_succ_of_lt zz2; have zx2 := Nat.lt_succ_of_lt zy2)
          go_loopw [53] (fun _ wz => ∃ z : Int, 0 ≤ z ∧ z ≤ 256 ∧ Hid (Ext w wz) ∧ Hid (At wz [(bq, Obj.cells #[.int .i64 px, .int .i64 py, .bool ac, .int .i64 W, .int .i64 (z)] 28), (w.heap.size + 1, Obj.cells #[.int .i64 t.len, .int .i64 t.grip, .int .i64 t.palm] 26), (w.heap.size, Obj.cells #[.int .i64 m.w, .int .i64 m.h, .slice ao m.pix.length cap] 24)]) ∧ Hid (wz.ownsRow (w.heap.size + 1 + 1) 28 5 u9 gs.length (grasps gs)) ∧ Hid (∀ u, 0 ≤ u → u < z → ¬ m.Holds t { x := px, y := py, across := ac, width := W, z := u } slack)) (fun _ wz => (256 - intOf ((wz.cell? ⟨bq, 4, none⟩).getD undef)).toNat)
          case atStart => exact ⟨0, by omega, by omega, E6, A6, O6, Lib.hid (fun u u1 u2 => by omega)⟩
          case round =>
            clear A5 hE5 hbq hb
            obtain ⟨z, hz1', hz2', hEz, hAz, hOz, hN⟩ := hrel
            obtain ⟨⟨p00, p01, p02, p03, p04⟩, pf00, pf01, pf02, pf03, pf04⟩ := run_5 (At.at hAz.out 0 rfl)
            obtain ⟨⟨p10, p11, p12⟩, pf10, pf11, pf12⟩ := run_3 (At.at hAz.out 1 rfl)
            obtain ⟨⟨p20, p21, p22⟩, pf20, pf21, pf22⟩ := run_3 (At.at hAz.out 2 rfl)
            have pz0 := At.lt hAz.out 0 rfl
            have py0 := Nat.lt_succ_of_lt pz0
            have px0 := Nat.lt_succ_of_lt py0
            have pz1 := At.lt hAz.out 1 rfl
            have py1 := Nat.lt_succ_of_lt pz1
            have px1 := Nat.lt_succ_of_lt py1
            have pz2 := At.lt hAz.out 2 rfl
            have py2 := Nat.lt_succ_of_lt pz2
            have px2 := Nat.lt_succ_of_lt py2
            have hbq := At.lt hAz.out 0 rfl
            by_cases hz255 : z ≤ 255
            case neg =>
              have hz9 : z = 256 := by omega
              have HT := Lib.hid (show m.Try t slack (n * m.pix.length + k) none from .inr ⟨fun u hu => by
                rw [HK.out] at hu
                have h8 : 0 ≤ u ∧ u ≤ 255 := hu.2.1
                exact hN.out u h8.1 (by omega) hu, rfl⟩)
              clear hz9
              go_wp2
              go_roundw
              case rel => exact ⟨k + 1, gs, by omega, by go_num, hEz, Lib.hid (At.erase hAz.out 0), hOz, Lib.hid (by rw [(show n * m.pix.length + (k + 1) = (n * m.pix.length + k) + 1 by omega)]; exact gath_no hG.out HT.out)⟩
              case measure => simp [intOf]; omega
            have K0 := Lib.hid (fun w' (h : Ext w w') => c54 m _ t { x := px, y := py, across := ac, width := W, z := z } slack w' HC.out HT.out (HV.out.ext h) ⟨by show -1000 ≤ px ∧ px ≤ 1000; omega, by show -1000 ≤ py ∧ py ≤ 1000; omega⟩ hsl)
            by_cases hh : m.Holds t { x := px, y := py, across := ac, width := W, z := z } slack
            · have K54 := Lib.hid (fun w' (h : Ext w w') => (K0.out w' h).mono fun _ _ h9 => BoolIs.yes ((held_iff HT.out.1.1 hsl.1).2 hh) h9)
              have HH := Lib.hid (show m.Try t slack (n * m.pix.length + k) (some { x := px, y := py, across := ac, width := W, z := z }) from .inl ⟨z, by rw [HK.out]; exact hh, fun u hu => by
                rw [HK.out] at hu
                have h8 : 0 ≤ u ∧ u ≤ 255 := hu.2.1
                refine Classical.byContradiction fun h9 => hN.out u h8.1 (by omega) hu, by rw [HK.out]⟩)
              unfold imgVal toolVal graspVal at K54
              dsimp only at K54
              clear hh K0
              go_wp2_with (first | (go_at_call 54; (with_reducible refine (K54.out _ hEz.out).mono ?_); rintro E w7 ⟨rfl, hb7⟩; have A7 := Lib.hid (show At w7 [(bq, Obj.cells #[.int .i64 px, .int .i64 py, .bool ac, .int .i64 W, .int .i64 (z)] 28), (w.heap.size + 1, Obj.cells #[.int .i64 t.len, .int .i64 t.grip, .int .i64 t.palm] 26), (w.heap.size, Obj.cells #[.int .i64 m.w, .int .i64 m.h, .slice ao m.pix.length cap] 24)] from At.ext hb7 hAz.out); have E7 := Lib.hid (hEz.out.trans hb7); have O7 := Lib.hid (owns_ext hOz.out hb7); have hz7 := hb7.size; obtain ⟨⟨q00, q01, q02, q03, q04⟩, qf00, qf01, qf02, qf03, qf04⟩ := run_5 (At.at A7.out 0 rfl); obtain ⟨⟨q10, q11, q12⟩, qf10, qf11, qf12⟩ := run_3 (At.at A7.out 1 rfl); obtain ⟨⟨q20, q21, q22⟩, qf20, qf21, qf22⟩ := run_3 (At.at A7.out 2 rfl); have qz0 := At.lt A7.out 0 rfl; have qy0 := Nat.lt_succ_of_lt qz0; have qx0 := Nat.lt_succ_of_lt qy0; have qz1 := At.lt A7.out 1 rfl; have qy1 := Nat.lt_succ_of_lt qz1; have qx1 := Nat.lt_succ_of_lt qy1; have qz2 := At.lt A7.out 2 rfl; have qy2 := Nat.lt_succ_of_lt qz2; have qx2 := Nat.lt_succ_of_lt qy2) | (at_builtin; refine wpList_append_at rfl _ _ 35 rfl (w.heap.size + 1 + 1) 28 i0 (.agg #[.int .i64 0, .int .i64 0, .bool false, .int .i64 0, .int .i64 0]) 5 40 Try.underlying35 hi0 hz0 hz1 hz2 rfl (by omega) u9 gs.length (grasps gs) rfl (owns_ext O7.out ((Ext.refl _).alloc _)) _ 1 (graspCells { x := px, y := py, across := ac, width := W, z := z }) rfl (SlAt.lit_at _ (w7.heap.size) rfl (graspCells { x := px, y := py, across := ac, width := W, z := z }) 28 5 rfl) (grasps_one _) (by unfold maxLen; omega) (by omega) (by simp; omega) ?_; intro va w8 ho hg hat; have A8 := Lib.hid (show At w8 [(w.heap.size + 1, Obj.cells #[.int .i64 t.len, .int .i64 t.grip, .int .i64 t.palm] 26), (w.heap.size, Obj.cells #[.int .i64 m.w, .int .i64 m.h, .slice ao m.pix.length cap] 24)] from At.grown hg (At.alloc (At.erase A7.out 0) _) (by intro k9 hk9; simp only [List.map_cons, List.map_nil, List.mem_cons, List.not_mem_nil, or_false] at hk9; rcases hk9 with rfl | rfl; all_goals exact fun h9 => by have := (owns_block O7.out _ h9).1; omega)); have E8 := Lib.hid (((E7.out.alloc _)).grown hg (fun g9 h9 => by have := (owns_block O7.out g9 h9).1; omega)); have O8 := Lib.hid ho; clear ho hg hat))
              go_roundw
              case rel => exact ⟨k + 1, gs ++ [{ x := px, y := py, across := ac, width := W, z := z }], by omega, by go_num, E8, A8, Lib.hid (by rw [grasps_snoc, List.length_append]; exact O8.out), Lib.hid (by rw [(show n * m.pix.length + (k + 1) = (n * m.pix.length + k) + 1 by omega)]; exact gath_yes hG.out HH.out)⟩
              case measure => simp [intOf]; omega
            · have K54 := Lib.hid (fun w' (h : Ext w w') => (K0.out w' h).mono fun _ _ h9 => BoolIs.no (fun h8 => hh ((held_iff HT.out.1.1 hsl.1).1 h8)) h9)
              have HH := Lib.hid hh
              unfold imgVal toolVal graspVal at K54
              dsimp only at K54
              clear hh K0
              go_wp2_with (go_at_call 54; (with_reducible refine (K54.out _ hEz.out).mono ?_); rintro E w7 ⟨rfl, hb7⟩; have A7 := Lib.hid (show At w7 [(bq, Obj.cells #[.int .i64 px, .int .i64 py, .bool ac, .int .i64 W, .int .i64 (z)] 28), (w.heap.size + 1, Obj.cells #[.int .i64 t.len, .int .i64 t.grip, .int .i64 t.palm] 26), (w.heap.size, Obj.cells #[.int .i64 m.w, .int .i64 m.h, .slice ao m.pix.length cap] 24)] from At.ext hb7 hAz.out); have E7 := Lib.hid (hEz.out.trans hb7); have O7 := Lib.hid (owns_ext hOz.out hb7); have hz7 := hb7.size; obtain ⟨⟨q00, q01, q02, q03, q04⟩, qf00, qf01, qf02, qf03, qf04⟩ := run_5 (At.at A7.out 0 rfl); obtain ⟨⟨q10, q11, q12⟩, qf10, qf11, qf12⟩ := run_3 (At.at A7.out 1 rfl); obtain ⟨⟨q20, q21, q22⟩, qf20, qf21, qf22⟩ := run_3 (At.at A7.out 2 rfl); have qz0 := At.lt A7.out 0 rfl; have qy0 := Nat.lt_succ_of_lt qz0; have qx0 := Nat.lt_succ_of_lt qy0; have qz1 := At.lt A7.out 1 rfl; have qy1 := Nat.lt_succ_of_lt qz1; have qx1 := Nat.lt_succ_of_lt qy1; have qz2 := At.lt A7.out 2 rfl; have qy2 := Nat.lt_succ_of_lt qz2; have qx2 := Nat.lt_succ_of_lt qy2)
              have hA9 := Lib.hid (show At (w7.setCell ⟨bq, 4, none⟩ (.int .i64 (z + 1))) [(bq, Obj.cells #[.int .i64 px, .int .i64 py, .bool ac, .int .i64 W, .int .i64 (z + 1)] 28), (w.heap.size + 1, Obj.cells #[.int .i64 t.len, .int .i64 t.grip, .int .i64 t.palm] 26), (w.heap.size, Obj.cells #[.int .i64 m.w, .int .i64 m.h, .slice ao m.pix.length cap] 24)] from ⟨(st_one (At.at A7.out 0 rfl) 4 _).1, At.other (set_at _ _ _ _) (by simp; omega) (At.erase A7.out 0)⟩)
              go_roundw
              case rel => exact ⟨z + 1, by omega, by omega, Lib.hid (E7.out.setCell (p := ⟨bq, 4, none⟩) (show w.heap.size ≤ bq by omega) _), hA9, Lib.hid (owns_at O7.out (fun g9 hg9 => set_at _ _ _ _ g9 (by have := HLT.out g9 hg9; omega))), Lib.hid (fun u u1 u2 hu => by
                rcases Int.lt_or_le u z with h9 | h9
                · exact hN.out u u1 h9 hu
                · have : u = z := by omega
                  rw [this] at hu; exact HH.out hu)⟩
              case measure => rw [zOf (At.at hA9.out 0 rfl), zOf (At.at hAz.out 0 rfl)]; omega
        · have hkn : k = m.pix.length := by omega
          have HG2 := Lib.hid (show Gath (m.Try t slack) ((n + 1) * m.pix.length) gs from by rw [show (n + 1) * m.pix.length = n * m.pix.length + k by rw [hkn, Nat.succ_mul]]; exact hG.out)
          clear hkn
          obtain ⟨⟨x00, x01, x02⟩, -⟩ := run_3 (At.at hA.out 0 rfl)
          obtain ⟨⟨x10, x11, x12⟩, -⟩ := run_3 (At.at hA.out 1 rfl)
          have xz0 := At.lt hA.out 0 rfl
          have xy0 := Nat.lt_succ_of_lt xz0
          have xx0 := Nat.lt_succ_of_lt xy0
          have xz1 := At.lt hA.out 1 rfl
          have xy1 := Nat.lt_succ_of_lt xz1
          have xx1 := Nat.lt_succ_of_lt xy1
          go_wp2
          go_roundw
          case rel => exact ⟨n + 1, gs, by omega, by go_num, hE, hA, hO, HG2⟩
          case measure => simp [intOf]; omega
    · have hn9 : n = 16 := by omega
      have HG2 := Lib.hid (show Gath (m.Try t slack) (16 * m.pix.length) gs from hn9 ▸ hG.out)
      clear hn9
      go_wp2
      go_ret2
      exact ⟨_, gs, by rw [H0.out]; rfl, owns_base hO.out (by omega), fun _ => HG2.out, fun h => absurd H0.out h, hE.out⟩
end Go.Proofs.Ytipkjdfnoonpcaa
