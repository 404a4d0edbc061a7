/- The law FindBelow: the walk. -/
import Derived.Test.YtipkjdfnoonpcaaAliveF
set_option linter.unusedVariables false
set_option linter.unusedSimpArgs false
namespace Go.Proofs.Ytipkjdfnoonpcaa
open Go.RowKit Go.Sort

theorem u8_bd {x : Int} (h : (Lit.int .u8 x).wf = true) : 0 ≤ x ∧ x ≤ 255 := by
  simp only [Lit.wf, Bool.and_eq_true, decide_eq_true_eq] at h
  exact h
set_option maxRecDepth 100000
set_option maxHeartbeats 16000000 in
theorem c8 (m : Img) (mv : Value) (t : Tpl) (tv : Value) (a : Area) (x y p q : Int) (w : World) (hm : IntsAt w mv m.pix) (hml : m.pix.length * 8 ≤ 140737488351232) (ht : IntsAt w tv t.pix) (htl : t.pix.length * 8 ≤ 140737488351232)
    (hx : 0 ≤ x ∧ x ≤ 255) (hy : 0 ≤ y ∧ y ≤ 255) (hp : 0 ≤ p ∧ p ≤ 255) (hq : 0 ≤ q ∧ q ≤ 255) :
    Calls Try.prog 8 #[imgVal m mv, tplVal t tv, areaVal a, .int .u8 x, .int .u8 y, .int .u8 p, .int .u8 q] w fun e w' => e = .returned (.bool true) ∧ Ext w w' := by
  have h1m : m.pix.length ≤ maxLen := by unfold maxLen; omega
  have h1t : t.pix.length ≤ maxLen := by unfold maxLen; omega
  have HV := Lib.hid hm
  have HTV := Lib.hid ht
  obtain ⟨mo, mc, rfl, -, -⟩ := hm.form
  obtain ⟨to, tc, rfl, -, -⟩ := ht.form
  have K29 := fun a w' (h : IntsAt w' (.slice mo m.pix.length mc) m.pix) (h' : IntsAt w' (.slice to t.pix.length tc) t.pix) => c29 m _ t _ a w' h h1m h' h1t
  have K27 := fun p w' (h : IntsAt w' (.slice mo m.pix.length mc) m.pix) (h' : IntsAt w' (.slice to t.pix.length tc) t.pix) => c27 m _ t _ p w' h h1m h' h1t
  have KA := Lib.hid (K29 a)
  by_cases h0 : (boundR m t a).2 = 0
  case neg =>
    obtain ⟨r, hr, hr0⟩ : ∃ r, boundR m t a = (0, r) ∧ (r != 0) = true := by
      unfold boundR at h0 ⊢
      by_cases h1 : checkE m t = 0
      · rw [if_pos h1] at h0 ⊢
        by_cases h2 : a.Ok m
        · rw [if_pos h2] at h0; exact absurd rfl h0
        · rw [if_neg h2]; exact ⟨2, rfl, rfl⟩
      · rw [if_neg h1]; exact ⟨_, rfl, by simpa using h1⟩
    rw [hr] at KA
    clear hr K29 K27 h0
    unfold imgVal tplVal areaVal at *
    clear hm hml h1m ht htl h1t
    go_enter Try.func8, Try.ntmps8
    go_wp2_with (first | (have _q := E1; go_at_call 29; (with_reducible refine (KA.out _ HM_1.out HT_1.out).mono ?_); rintro E w2 ⟨rfl, hb2⟩; have A2 := Lib.hid (show At w2 [(w.heap.size, Obj.cells #[.int .i64 m.w, .int .i64 m.h, .slice mo m.pix.length mc] 24), (w.heap.size + 1, Obj.cells #[.int .i64 t.w, .int .i64 t.h, .slice to t.pix.length tc] 43), (w.heap.size + 1 + 1, Obj.cells #[.int .i64 a.x0, .int .i64 a.y0, .int .i64 a.x1, .int .i64 a.y1, .int .i64 a.turn, .int .i64 a.scale] 47)] from At.ext hb2 A1.out); have E2 := Lib.hid ((E1.out).trans hb2); obtain ⟨⟨c2_0_0, c2_0_1, c2_0_2⟩, f2_0_0, f2_0_1, f2_0_2⟩ := run_3 (At.at A2.out 0 rfl); have s2_0 : w.heap.size < w2.heap.size := At.lt A2.out 0 rfl; obtain ⟨⟨c2_1_0, c2_1_1, c2_1_2⟩, f2_1_0, f2_1_1, f2_1_2⟩ := run_3 (At.at A2.out 1 rfl); have s2_1 : w.heap.size + 1 < w2.heap.size := At.lt A2.out 1 rfl; obtain ⟨⟨c2_2_0, c2_2_1, c2_2_2, c2_2_3, c2_2_4, c2_2_5⟩, f2_2_0, f2_2_1, f2_2_2, f2_2_3, f2_2_4, f2_2_5⟩ := run_6 (At.at A2.out 2 rfl); have s2_2 : w.heap.size + 1 + 1 < w2.heap.size := At.lt A2.out 2 rfl; (try clear c1_0_0 c1_0_1 c1_0_2 f1_0_0 f1_0_1 f1_0_2 c1_1_0 c1_1_1 c1_1_2 f1_1_0 f1_1_1 f1_1_2 c1_2_0 c1_2_1 c1_2_2 c1_2_3 c1_2_4 c1_2_5 f1_2_0 f1_2_1 f1_2_2 f1_2_3 f1_2_4 f1_2_5 s1_0 s1_1 s1_2); have HM_2 := Lib.hid (IntsAt.ext (HM_1.out) hb2); have HT_2 := Lib.hid (IntsAt.ext (HT_1.out) hb2)) | (go_at_call 39; (with_reducible refine (c39 _).mono ?_); rintro E w1 ⟨rfl, hb1⟩; have A1 := Lib.hid (show At w1 [(w.heap.size, Obj.cells #[.int .i64 m.w, .int .i64 m.h, .slice mo m.pix.length mc] 24), (w.heap.size + 1, Obj.cells #[.int .i64 t.w, .int .i64 t.h, .slice to t.pix.length tc] 43), (w.heap.size + 1 + 1, Obj.cells #[.int .i64 a.x0, .int .i64 a.y0, .int .i64 a.x1, .int .i64 a.y1, .int .i64 a.turn, .int .i64 a.scale] 47)] from At.ext hb1 (show At (World.alloc (World.alloc (World.alloc w (Obj.cells #[.int .i64 m.w, .int .i64 m.h, .slice mo m.pix.length mc] 24)) (Obj.cells #[.int .i64 t.w, .int .i64 t.h, .slice to t.pix.length tc] 43)) (Obj.cells #[.int .i64 a.x0, .int .i64 a.y0, .int .i64 a.x1, .int .i64 a.y1, .int .i64 a.turn, .int .i64 a.scale] 47)) [(w.heap.size, Obj.cells #[.int .i64 m.w, .int .i64 m.h, .slice mo m.pix.length mc] 24), (w.heap.size + 1, Obj.cells #[.int .i64 t.w, .int .i64 t.h, .slice to t.pix.length tc] 43), (w.heap.size + 1 + 1, Obj.cells #[.int .i64 a.x0, .int .i64 a.y0, .int .i64 a.x1, .int .i64 a.y1, .int .i64 a.turn, .int .i64 a.scale] 47)] from ⟨(by repeat (first | (refine blk_at _ _ ?_; (first | rfl | (simp only [size_one]; done))) | refine (blk_past _ _ (by simp only [size_one]; omega)).trans ?_)), (by repeat (first | (refine blk_at _ _ ?_; (first | rfl | (simp only [size_one]; done))) | refine (blk_past _ _ (by simp only [size_one]; omega)).trans ?_)), (by repeat (first | (refine blk_at _ _ ?_; (first | rfl | (simp only [size_one]; done))) | refine (blk_past _ _ (by simp only [size_one]; omega)).trans ?_)), trivial⟩)); have E1 := Lib.hid (((show Ext w (World.alloc (World.alloc (World.alloc w (Obj.cells #[.int .i64 m.w, .int .i64 m.h, .slice mo m.pix.length mc] 24)) (Obj.cells #[.int .i64 t.w, .int .i64 t.h, .slice to t.pix.length tc] 43)) (Obj.cells #[.int .i64 a.x0, .int .i64 a.y0, .int .i64 a.x1, .int .i64 a.y1, .int .i64 a.turn, .int .i64 a.scale] 47)) from (by repeat (first | exact Ext.refl _ | assumption | refine Ext.alloc ?_ _ | refine Ext.drewN ?_ _ | refine ext_grow ?_ _ _ | refine Ext.setCell ?_ (by first | exact Nat.le_refl _ | omega | (simp; done) | (simp; omega)) _ | refine Ext.trans ?_ (by assumption))))).trans hb1); obtain ⟨⟨c1_0_0, c1_0_1, c1_0_2⟩, f1_0_0, f1_0_1, f1_0_2⟩ := run_3 (At.at A1.out 0 rfl); have s1_0 : w.heap.size < w1.heap.size := At.lt A1.out 0 rfl; obtain ⟨⟨c1_1_0, c1_1_1, c1_1_2⟩, f1_1_0, f1_1_1, f1_1_2⟩ := run_3 (At.at A1.out 1 rfl); have s1_1 : w.heap.size + 1 < w1.heap.size := At.lt A1.out 1 rfl; obtain ⟨⟨c1_2_0, c1_2_1, c1_2_2, c1_2_3, c1_2_4, c1_2_5⟩, f1_2_0, f1_2_1, f1_2_2, f1_2_3, f1_2_4, f1_2_5⟩ := run_6 (At.at A1.out 2 rfl); have s1_2 : w.heap.size + 1 + 1 < w1.heap.size := At.lt A1.out 2 rfl; have HM_1 := Lib.hid (IntsAt.ext ((IntsAt.ext HV.out (by repeat (first | exact Ext.refl _ | assumption | refine Ext.alloc ?_ _ | refine Ext.drewN ?_ _ | refine ext_grow ?_ _ _ | refine Ext.setCell ?_ (by first | exact Nat.le_refl _ | omega | (simp; done) | (simp; omega)) _ | refine Ext.trans ?_ (by assumption))))) hb1); have HT_1 := Lib.hid (IntsAt.ext ((IntsAt.ext HTV.out (by repeat (first | exact Ext.refl _ | assumption | refine Ext.alloc ?_ _ | refine Ext.drewN ?_ _ | refine ext_grow ?_ _ _ | refine Ext.setCell ?_ (by first | exact Nat.le_refl _ | omega | (simp; done) | (simp; omega)) _ | refine Ext.trans ?_ (by assumption))))) hb1)))
    go_ret
    exact ⟨rfl, E2.out⟩
  obtain ⟨hc, ho⟩ : checkE m t = 0 ∧ a.Ok m := by
    unfold boundR at h0
    by_cases h1 : checkE m t = 0
    · rw [if_pos h1] at h0
      by_cases h2 : a.Ok m
      · exact ⟨h1, h2⟩
      · rw [if_neg h2] at h0; cases h0
    · rw [if_neg h1] at h0; exact absurd h0 h1
  obtain ⟨hcam, htok⟩ := check_ok hc
  have hbR : ∀ b : Area, b.Ok m → boundR m t b = (bound m t b, 0) := fun b hb => by unfold boundR; rw [if_pos hc, if_pos hb]
  have rem : ∀ x n : Int, 0 ≤ x → 0 ≤ n → 0 ≤ x.tmod (n + 1) ∧ x.tmod (n + 1) ≤ n := fun x n h1 h2 => by
    rw [Int.tmod_eq_emod_of_nonneg h1]
    have e1 := Int.emod_nonneg x (show n + 1 ≠ 0 by omega)
    have e2 := Int.emod_lt_of_pos x (show 0 < n + 1 by omega)
    omega
  have ho' := ho
  obtain ⟨⟨o1, o2, o3⟩, ⟨o4, o5, o6⟩, hpos⟩ := ho
  have hsz := hcam.1
  obtain ⟨⟨w1, w2⟩, ⟨w3, w4⟩, -⟩ := hsz
  obtain ⟨r0, hr0⟩ : ∃ r, x.tmod (a.x1 - a.x0 + 1) = r := ⟨_, rfl⟩
  obtain ⟨X, hX⟩ : ∃ X, a.x0 + r0 = X := ⟨_, rfl⟩
  obtain ⟨r1, hr1⟩ : ∃ r, y.tmod (a.y1 - a.y0 + 1) = r := ⟨_, rfl⟩
  obtain ⟨Y, hY⟩ : ∃ Y, a.y0 + r1 = Y := ⟨_, rfl⟩
  obtain ⟨r2, hr2⟩ : ∃ r, p.tmod (a.x1 - X + 1) = r := ⟨_, rfl⟩
  obtain ⟨Z, hZ⟩ : ∃ Z, X + r2 = Z := ⟨_, rfl⟩
  obtain ⟨r3, hr3⟩ : ∃ r, q.tmod (a.y1 - Y + 1) = r := ⟨_, rfl⟩
  obtain ⟨U, hU⟩ : ∃ U, Y + r3 = U := ⟨_, rfl⟩
  have b0 : 0 ≤ r0 ∧ r0 ≤ a.x1 - a.x0 := by rw [← hr0]; exact rem _ _ hx.1 (by omega)
  have b1 : 0 ≤ r1 ∧ r1 ≤ a.y1 - a.y0 := by rw [← hr1]; exact rem _ _ hy.1 (by omega)
  have b2 : 0 ≤ r2 ∧ r2 ≤ a.x1 - X := by rw [← hr2]; exact rem _ _ hp.1 (by omega)
  have b3 : 0 ≤ r3 ∧ r3 ≤ a.y1 - Y := by rw [← hr3]; exact rem _ _ hq.1 (by omega)
  have KB := Lib.hid (K29 ⟨X, Y, Z, U, a.turn, a.scale⟩)
  have KC := Lib.hid (K27 ⟨X, Y, a.turn, a.scale⟩)
  have KD := Lib.hid (K29 ⟨X, Y, X, Y, a.turn, a.scale⟩)
  have hokB : Area.Ok m ⟨X, Y, Z, U, a.turn, a.scale⟩ := ⟨⟨by simp only; omega, by simp only; omega, by simp only; omega⟩, ⟨by simp only; omega, by simp only; omega, by simp only; omega⟩, hpos⟩
  have hokD : Area.Ok m ⟨X, Y, X, Y, a.turn, a.scale⟩ := ⟨⟨by simp only; omega, by simp only; omega, by simp only; omega⟩, ⟨by simp only; omega, by simp only; omega, by simp only; omega⟩, hpos⟩
  have m1 := bound_mono m t (a := a) (b := ⟨X, Y, Z, U, a.turn, a.scale⟩) (by simp only; omega) (by simp only; omega) (by simp only; omega) (by simp only; omega) rfl rfl
  have m2 := bound_mono m t (a := ⟨X, Y, Z, U, a.turn, a.scale⟩) (b := ⟨X, Y, X, Y, a.turn, a.scale⟩) (by simp only; omega) (by simp only; omega) (by simp only; omega) (by simp only; omega) rfl rfl
  have m3 := (bound_bd (a := a) hcam htok).1
  rw [hbR _ ho'] at KA
  rw [hbR _ hokB] at KB
  rw [show (Pose.area ⟨X, Y, a.turn, a.scale⟩) = ⟨X, Y, X, Y, a.turn, a.scale⟩ from rfl, hbR _ hokD] at KC
  rw [hbR _ hokD] at KD
  generalize bound m t a = n at *
  generalize bound m t ⟨X, Y, Z, U, a.turn, a.scale⟩ = k at *
  generalize bound m t ⟨X, Y, X, Y, a.turn, a.scale⟩ = d at *
  have e1 : (d == d) = true := by simp
  clear hokB hokD hbR rem K29 K27 h0 hc ho' hpos hcam htok
  obtain ⟨x1, x2⟩ := hx
  obtain ⟨y1, y2⟩ := hy
  obtain ⟨p1, p2⟩ := hp
  obtain ⟨q1, q2⟩ := hq
  obtain ⟨b01, b02⟩ := b0
  obtain ⟨b11, b12⟩ := b1
  obtain ⟨b21, b22⟩ := b2
  obtain ⟨b31, b32⟩ := b3
  unfold imgVal tplVal areaVal poseVal at *
  clear hm hml h1m ht htl h1t
  go_enter Try.func8, Try.ntmps8
  go_wp2_with (first | (have _q := E1; go_at_call 29; (with_reducible refine (KA.out _ HM_1.out HT_1.out).mono ?_); rintro E w2 ⟨rfl, hb2⟩; have A2 := Lib.hid (show At w2 [(w.heap.size, Obj.cells #[.int .i64 m.w, .int .i64 m.h, .slice mo m.pix.length mc] 24), (w.heap.size + 1, Obj.cells #[.int .i64 t.w, .int .i64 t.h, .slice to t.pix.length tc] 43), (w.heap.size + 1 + 1, Obj.cells #[.int .i64 a.x0, .int .i64 a.y0, .int .i64 a.x1, .int .i64 a.y1, .int .i64 a.turn, .int .i64 a.scale] 47)] from At.ext hb2 A1.out); have E2 := Lib.hid ((E1.out).trans hb2); obtain ⟨⟨c2_0_0, c2_0_1, c2_0_2⟩, f2_0_0, f2_0_1, f2_0_2⟩ := run_3 (At.at A2.out 0 rfl); have s2_0 : w.heap.size < w2.heap.size := At.lt A2.out 0 rfl; obtain ⟨⟨c2_1_0, c2_1_1, c2_1_2⟩, f2_1_0, f2_1_1, f2_1_2⟩ := run_3 (At.at A2.out 1 rfl); have s2_1 : w.heap.size + 1 < w2.heap.size := At.lt A2.out 1 rfl; obtain ⟨⟨c2_2_0, c2_2_1, c2_2_2, c2_2_3, c2_2_4, c2_2_5⟩, f2_2_0, f2_2_1, f2_2_2, f2_2_3, f2_2_4, f2_2_5⟩ := run_6 (At.at A2.out 2 rfl); have s2_2 : w.heap.size + 1 + 1 < w2.heap.size := At.lt A2.out 2 rfl; (try clear c1_0_0 c1_0_1 c1_0_2 f1_0_0 f1_0_1 f1_0_2 c1_1_0 c1_1_1 c1_1_2 f1_1_0 f1_1_1 f1_1_2 c1_2_0 c1_2_1 c1_2_2 c1_2_3 c1_2_4 c1_2_5 f1_2_0 f1_2_1 f1_2_2 f1_2_3 f1_2_4 f1_2_5 s1_0 s1_1 s1_2); have HM_2 := Lib.hid (IntsAt.ext (HM_1.out) hb2); have HT_2 := Lib.hid (IntsAt.ext (HT_1.out) hb2)) | (go_at_call 39; (with_reducible refine (c39 _).mono ?_); rintro E w1 ⟨rfl, hb1⟩; have A1 := Lib.hid (show At w1 [(w.heap.size, Obj.cells #[.int .i64 m.w, .int .i64 m.h, .slice mo m.pix.length mc] 24), (w.heap.size + 1, Obj.cells #[.int .i64 t.w, .int .i64 t.h, .slice to t.pix.length tc] 43), (w.heap.size + 1 + 1, Obj.cells #[.int .i64 a.x0, .int .i64 a.y0, .int .i64 a.x1, .int .i64 a.y1, .int .i64 a.turn, .int .i64 a.scale] 47)] from At.ext hb1 (show At (World.alloc (World.alloc (World.alloc w (Obj.cells #[.int .i64 m.w, .int .i64 m.h, .slice mo m.pix.length mc] 24)) (Obj.cells #[.int .i64 t.w, .int .i64 t.h, .slice to t.pix.length tc] 43)) (Obj.cells #[.int .i64 a.x0, .int .i64 a.y0, .int .i64 a.x1, .int .i64 a.y1, .int .i64 a.turn, .int .i64 a.scale] 47)) [(w.heap.size, Obj.cells #[.int .i64 m.w, .int .i64 m.h, .slice mo m.pix.length mc] 24), (w.heap.size + 1, Obj.cells #[.int .i64 t.w, .int .i64 t.h, .slice to t.pix.length tc] 43), (w.heap.size + 1 + 1, Obj.cells #[.int .i64 a.x0, .int .i64 a.y0, .int .i64 a.x1, .int .i64 a.y1, .int .i64 a.turn, .int .i64 a.scale] 47)] from ⟨(by repeat (first | (refine blk_at _ _ ?_; (first | rfl | (simp only [size_one]; done))) | refine (blk_past _ _ (by simp only [size_one]; omega)).trans ?_)), (by repeat (first | (refine blk_at _ _ ?_; (first | rfl | (simp only [size_one]; done))) | refine (blk_past _ _ (by simp only [size_one]; omega)).trans ?_)), (by repeat (first | (refine blk_at _ _ ?_; (first | rfl | (simp only [size_one]; done))) | refine (blk_past _ _ (by simp only [size_one]; omega)).trans ?_)), trivial⟩)); have E1 := Lib.hid (((show Ext w (World.alloc (World.alloc (World.alloc w (Obj.cells #[.int .i64 m.w, .int .i64 m.h, .slice mo m.pix.length mc] 24)) (Obj.cells #[.int .i64 t.w, .int .i64 t.h, .slice to t.pix.length tc] 43)) (Obj.cells #[.int .i64 a.x0, .int .i64 a.y0, .int .i64 a.x1, .int .i64 a.y1, .int .i64 a.turn, .int .i64 a.scale] 47)) from (by repeat (first | exact Ext.refl _ | assumption | refine Ext.alloc ?_ _ | refine Ext.drewN ?_ _ | refine ext_grow ?_ _ _ | refine Ext.setCell ?_ (by first | exact Nat.le_refl _ | omega | (simp; done) | (simp; omega)) _ | refine Ext.trans ?_ (by assumption))))).trans hb1); obtain ⟨⟨c1_0_0, c1_0_1, c1_0_2⟩, f1_0_0, f1_0_1, f1_0_2⟩ := run_3 (At.at A1.out 0 rfl); have s1_0 : w.heap.size < w1.heap.size := At.lt A1.out 0 rfl; obtain ⟨⟨c1_1_0, c1_1_1, c1_1_2⟩, f1_1_0, f1_1_1, f1_1_2⟩ := run_3 (At.at A1.out 1 rfl); have s1_1 : w.heap.size + 1 < w1.heap.size := At.lt A1.out 1 rfl; obtain ⟨⟨c1_2_0, c1_2_1, c1_2_2, c1_2_3, c1_2_4, c1_2_5⟩, f1_2_0, f1_2_1, f1_2_2, f1_2_3, f1_2_4, f1_2_5⟩ := run_6 (At.at A1.out 2 rfl); have s1_2 : w.heap.size + 1 + 1 < w1.heap.size := At.lt A1.out 2 rfl; have HM_1 := Lib.hid (IntsAt.ext ((IntsAt.ext HV.out (by repeat (first | exact Ext.refl _ | assumption | refine Ext.alloc ?_ _ | refine Ext.drewN ?_ _ | refine ext_grow ?_ _ _ | refine Ext.setCell ?_ (by first | exact Nat.le_refl _ | omega | (simp; done) | (simp; omega)) _ | refine Ext.trans ?_ (by assumption))))) hb1); have HT_1 := Lib.hid (IntsAt.ext ((IntsAt.ext HTV.out (by repeat (first | exact Ext.refl _ | assumption | refine Ext.alloc ?_ _ | refine Ext.drewN ?_ _ | refine ext_grow ?_ _ _ | refine Ext.setCell ?_ (by first | exact Nat.le_refl _ | omega | (simp; done) | (simp; omega)) _ | refine Ext.trans ?_ (by assumption))))) hb1)))
  have n0 : (a.x1 - a.x0 + 1 == 0) = false := by simp; omega
  go_region
  have n1 : (a.y1 - a.y0 + 1 == 0) = false := by simp; omega
  go_wp2
  go_region
  have n2 : (a.x1 - X + 1 == 0) = false := by simp; omega
  go_wp2
  go_region
  have n3 : (a.y1 - Y + 1 == 0) = false := by simp; omega
  go_wp2
  go_region
  have d1 : decide (n ≤ k) = true := decide_eq_true m1
  have d2 : decide (k ≤ d) = true := decide_eq_true m2
  have d3 : decide (0 ≤ n) = true := decide_eq_true m3
  go_wp2_with (first | (have _q := E4; go_at_call 29; (with_reducible refine (KD.out _ HM_4.out HT_4.out).mono ?_); rintro E w5 ⟨rfl, hb5⟩; have A5 := Lib.hid (show At w5 [(w2.heap.size, Obj.cells #[.int .i64 X, .int .i64 Y, .int .i64 Z, .int .i64 U, .int .i64 a.turn, .int .i64 a.scale] 47), (w.heap.size, Obj.cells #[.int .i64 m.w, .int .i64 m.h, .slice mo m.pix.length mc] 24), (w.heap.size + 1, Obj.cells #[.int .i64 t.w, .int .i64 t.h, .slice to t.pix.length tc] 43), (w.heap.size + 1 + 1, Obj.cells #[.int .i64 a.x0, .int .i64 a.y0, .int .i64 a.x1, .int .i64 a.y1, .int .i64 a.turn, .int .i64 a.scale] 47)] from At.ext hb5 A4.out); have E5 := Lib.hid ((E4.out).trans hb5); obtain ⟨⟨c5_0_0, c5_0_1, c5_0_2, c5_0_3, c5_0_4, c5_0_5⟩, f5_0_0, f5_0_1, f5_0_2, f5_0_3, f5_0_4, f5_0_5⟩ := run_6 (At.at A5.out 0 rfl); have s5_0 : w2.heap.size < w5.heap.size := At.lt A5.out 0 rfl; obtain ⟨⟨c5_1_0, c5_1_1, c5_1_2⟩, f5_1_0, f5_1_1, f5_1_2⟩ := run_3 (At.at A5.out 1 rfl); have s5_1 : w.heap.size < w5.heap.size := At.lt A5.out 1 rfl; obtain ⟨⟨c5_2_0, c5_2_1, c5_2_2⟩, f5_2_0, f5_2_1, f5_2_2⟩ := run_3 (At.at A5.out 2 rfl); have s5_2 : w.heap.size + 1 < w5.heap.size := At.lt A5.out 2 rfl; obtain ⟨⟨c5_3_0, c5_3_1, c5_3_2, c5_3_3, c5_3_4, c5_3_5⟩, f5_3_0, f5_3_1, f5_3_2, f5_3_3, f5_3_4, f5_3_5⟩ := run_6 (At.at A5.out 3 rfl); have s5_3 : w.heap.size + 1 + 1 < w5.heap.size := At.lt A5.out 3 rfl; (try clear c4_0_0 c4_0_1 c4_0_2 c4_0_3 c4_0_4 c4_0_5 f4_0_0 f4_0_1 f4_0_2 f4_0_3 f4_0_4 f4_0_5 c4_1_0 c4_1_1 c4_1_2 f4_1_0 f4_1_1 f4_1_2 c4_2_0 c4_2_1 c4_2_2 f4_2_0 f4_2_1 f4_2_2 c4_3_0 c4_3_1 c4_3_2 c4_3_3 c4_3_4 c4_3_5 f4_3_0 f4_3_1 f4_3_2 f4_3_3 f4_3_4 f4_3_5 s4_0 s4_1 s4_2 s4_3); have HM_5 := Lib.hid (IntsAt.ext (HM_4.out) hb5); have HT_5 := Lib.hid (IntsAt.ext (HT_4.out) hb5)) | (have _q := E3; go_at_call 27; (with_reducible refine (KC.out _ HM_3.out HT_3.out).mono ?_); rintro E w4 ⟨rfl, hb4⟩; have A4 := Lib.hid (show At w4 [(w2.heap.size, Obj.cells #[.int .i64 X, .int .i64 Y, .int .i64 Z, .int .i64 U, .int .i64 a.turn, .int .i64 a.scale] 47), (w.heap.size, Obj.cells #[.int .i64 m.w, .int .i64 m.h, .slice mo m.pix.length mc] 24), (w.heap.size + 1, Obj.cells #[.int .i64 t.w, .int .i64 t.h, .slice to t.pix.length tc] 43), (w.heap.size + 1 + 1, Obj.cells #[.int .i64 a.x0, .int .i64 a.y0, .int .i64 a.x1, .int .i64 a.y1, .int .i64 a.turn, .int .i64 a.scale] 47)] from At.ext hb4 A3.out); have E4 := Lib.hid ((E3.out).trans hb4); obtain ⟨⟨c4_0_0, c4_0_1, c4_0_2, c4_0_3, c4_0_4, c4_0_5⟩, f4_0_0, f4_0_1, f4_0_2, f4_0_3, f4_0_4, f4_0_5⟩ := run_6 (At.at A4.out 0 rfl); have s4_0 : w2.heap.size < w4.heap.size := At.lt A4.out 0 rfl; obtain ⟨⟨c4_1_0, c4_1_1, c4_1_2⟩, f4_1_0, f4_1_1, f4_1_2⟩ := run_3 (At.at A4.out 1 rfl); have s4_1 : w.heap.size < w4.heap.size := At.lt A4.out 1 rfl; obtain ⟨⟨c4_2_0, c4_2_1, c4_2_2⟩, f4_2_0, f4_2_1, f4_2_2⟩ := run_3 (At.at A4.out 2 rfl); have s4_2 : w.heap.size + 1 < w4.heap.size := At.lt A4.out 2 rfl; obtain ⟨⟨c4_3_0, c4_3_1, c4_3_2, c4_3_3, c4_3_4, c4_3_5⟩, f4_3_0, f4_3_1, f4_3_2, f4_3_3, f4_3_4, f4_3_5⟩ := run_6 (At.at A4.out 3 rfl); have s4_3 : w.heap.size + 1 + 1 < w4.heap.size := At.lt A4.out 3 rfl; (try clear c3_0_0 c3_0_1 c3_0_2 c3_0_3 c3_0_4 c3_0_5 f3_0_0 f3_0_1 f3_0_2 f3_0_3 f3_0_4 f3_0_5 c3_1_0 c3_1_1 c3_1_2 f3_1_0 f3_1_1 f3_1_2 c3_2_0 c3_2_1 c3_2_2 f3_2_0 f3_2_1 f3_2_2 c3_3_0 c3_3_1 c3_3_2 c3_3_3 c3_3_4 c3_3_5 f3_3_0 f3_3_1 f3_3_2 f3_3_3 f3_3_4 f3_3_5 s3_0 s3_1 s3_2 s3_3); have HM_4 := Lib.hid (IntsAt.ext (HM_3.out) hb4); have HT_4 := Lib.hid (IntsAt.ext (HT_3.out) hb4)) | (go_at_call 29; (with_reducible refine (KB.out _ (IntsAt.ext ((IntsAt.ext ((IntsAt.ext ((IntsAt.ext ((IntsAt.ext (HM_2.out) ((Ext.refl _).alloc _))) ((Ext.refl _).drew))) ((Ext.refl _).drew))) ((Ext.refl _).drew))) ((Ext.refl _).drew)) (IntsAt.ext ((IntsAt.ext ((IntsAt.ext ((IntsAt.ext ((IntsAt.ext (HT_2.out) ((Ext.refl _).alloc _))) ((Ext.refl _).drew))) ((Ext.refl _).drew))) ((Ext.refl _).drew))) ((Ext.refl _).drew))).mono ?_); rintro E w3 ⟨rfl, hb3⟩; have A3 := Lib.hid (show At w3 [(w2.heap.size, Obj.cells #[.int .i64 X, .int .i64 Y, .int .i64 Z, .int .i64 U, .int .i64 a.turn, .int .i64 a.scale] 47), (w.heap.size, Obj.cells #[.int .i64 m.w, .int .i64 m.h, .slice mo m.pix.length mc] 24), (w.heap.size + 1, Obj.cells #[.int .i64 t.w, .int .i64 t.h, .slice to t.pix.length tc] 43), (w.heap.size + 1 + 1, Obj.cells #[.int .i64 a.x0, .int .i64 a.y0, .int .i64 a.x1, .int .i64 a.y1, .int .i64 a.turn, .int .i64 a.scale] 47)] from At.ext hb3 (At.drew (At.drew (At.drew (At.drew (show At (World.alloc w2 (Obj.cells #[.int .i64 X, .int .i64 Y, .int .i64 Z, .int .i64 U, .int .i64 a.turn, .int .i64 a.scale] 47)) [(w2.heap.size, Obj.cells #[.int .i64 X, .int .i64 Y, .int .i64 Z, .int .i64 U, .int .i64 a.turn, .int .i64 a.scale] 47), (w.heap.size, Obj.cells #[.int .i64 m.w, .int .i64 m.h, .slice mo m.pix.length mc] 24), (w.heap.size + 1, Obj.cells #[.int .i64 t.w, .int .i64 t.h, .slice to t.pix.length tc] 43), (w.heap.size + 1 + 1, Obj.cells #[.int .i64 a.x0, .int .i64 a.y0, .int .i64 a.x1, .int .i64 a.y1, .int .i64 a.turn, .int .i64 a.scale] 47)] from ⟨one_first _ _, At.alloc A2.out _⟩)))))); have E3 := Lib.hid ((((((((((((E2.out).alloc _)).drew)).drew)).drew)).drew)).trans hb3); obtain ⟨⟨c3_0_0, c3_0_1, c3_0_2, c3_0_3, c3_0_4, c3_0_5⟩, f3_0_0, f3_0_1, f3_0_2, f3_0_3, f3_0_4, f3_0_5⟩ := run_6 (At.at A3.out 0 rfl); have s3_0 : w2.heap.size < w3.heap.size := At.lt A3.out 0 rfl; obtain ⟨⟨c3_1_0, c3_1_1, c3_1_2⟩, f3_1_0, f3_1_1, f3_1_2⟩ := run_3 (At.at A3.out 1 rfl); have s3_1 : w.heap.size < w3.heap.size := At.lt A3.out 1 rfl; obtain ⟨⟨c3_2_0, c3_2_1, c3_2_2⟩, f3_2_0, f3_2_1, f3_2_2⟩ := run_3 (At.at A3.out 2 rfl); have s3_2 : w.heap.size + 1 < w3.heap.size := At.lt A3.out 2 rfl; obtain ⟨⟨c3_3_0, c3_3_1, c3_3_2, c3_3_3, c3_3_4, c3_3_5⟩, f3_3_0, f3_3_1, f3_3_2, f3_3_3, f3_3_4, f3_3_5⟩ := run_6 (At.at A3.out 3 rfl); have s3_3 : w.heap.size + 1 + 1 < w3.heap.size := At.lt A3.out 3 rfl; (try clear c2_0_0 c2_0_1 c2_0_2 f2_0_0 f2_0_1 f2_0_2 c2_1_0 c2_1_1 c2_1_2 f2_1_0 f2_1_1 f2_1_2 c2_2_0 c2_2_1 c2_2_2 c2_2_3 c2_2_4 c2_2_5 f2_2_0 f2_2_1 f2_2_2 f2_2_3 f2_2_4 f2_2_5); have HM_3 := Lib.hid (IntsAt.ext ((IntsAt.ext ((IntsAt.ext ((IntsAt.ext ((IntsAt.ext ((IntsAt.ext (HM_2.out) ((Ext.refl _).alloc _))) ((Ext.refl _).drew))) ((Ext.refl _).drew))) ((Ext.refl _).drew))) ((Ext.refl _).drew))) hb3); have HT_3 := Lib.hid (IntsAt.ext ((IntsAt.ext ((IntsAt.ext ((IntsAt.ext ((IntsAt.ext ((IntsAt.ext (HT_2.out) ((Ext.refl _).alloc _))) ((Ext.refl _).drew))) ((Ext.refl _).drew))) ((Ext.refl _).drew))) ((Ext.refl _).drew))) hb3)))
  go_ret
  exact ⟨rfl, E5.out⟩

theorem g8 (m : Img) (mv : Value) (t : Tpl) (tv : Value) (a : Area) (x y p q : Int) (w : World) (hm : IntsAt w mv m.pix) (hml : m.pix.length * 8 ≤ 140737488351232) (ht : IntsAt w tv t.pix) (htl : t.pix.length * 8 ≤ 140737488351232)
    (h1 : (Lit.int .u8 x).wf = true) (h2 : (Lit.int .u8 y).wf = true) (h3 : (Lit.int .u8 p).wf = true) (h4 : (Lit.int .u8 q).wf = true) :
    Calls Try.prog 8 #[imgVal m mv, tplVal t tv, areaVal a, .int .u8 x, .int .u8 y, .int .u8 p, .int .u8 q] w fun e w' => e = .returned (.bool true) ∧ Ext w w' := c8 m mv t tv a x y p q w hm hml ht htl (u8_bd h1) (u8_bd h2) (u8_bd h3) (u8_bd h4)
end Go.Proofs.Ytipkjdfnoonpcaa
