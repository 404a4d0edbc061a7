/- The law FindAll: the walk. -/
import Derived.Test.YtipkjdfnoonpcaaHoldFn
set_option linter.unusedVariables false
set_option linter.unusedSimpArgs false
namespace Go.Proofs.Ytipkjdfnoonpcaa
open Go.RowKit Go.Sort

set_option maxRecDepth 100000 in
set_option maxHeartbeats 16000000 in
theorem c14 (m : Img) (v : Value) (t : Tool) (g : Grasp) (slack : Int) (w : World) (hv : IntsAt w v m.pix) (hl : m.pix.length * 8 ≤ 140737488351232) :
    Calls Try.prog 14 #[imgVal m v, toolVal t, graspVal g, .int .i64 slack] w fun e w' => e = .returned (.bool true) ∧ Ext w w' := by
  have hlm : m.pix.length ≤ maxLen := by unfold maxLen; omega
  have HV := Lib.hid hv
  obtain ⟨ao, cap, rfl, -, -⟩ := hv.form
  have K19 := Lib.hid (fun v w' (h : IntsAt w' v m.pix) => c19b m v t g slack w' h hlm)
  have K21 := Lib.hid (fun v w' (h : IntsAt w' v m.pix) => c21b m v t slack w' h hlm)
  have hlen := planD_len m t slack
  by_cases h0 : readyE m t slack = 0
  case neg =>
    have u1 : (readyE m t slack != 0) = true := by simp [h0]
    have u2 : (readyE m t slack == readyE m t slack) = true := by simp
    clear h0
    unfold imgVal toolVal graspVal at *
    clear hv hl hlm
    go_enter Try.func14, Try.ntmps14
    go_wp2_with (first | (have _q := E2; go_at_call 21; (with_reducible refine (K21.out _ _ HV_2.out).mono ?_); rintro E w3 ⟨po, pc, rfl, o3, hb3⟩; have A3 := Lib.hid (show At w3 [(w.heap.size, Obj.cells #[.int .i64 m.w, .int .i64 m.h, .slice ao m.pix.length cap] 24), (w.heap.size + 1, Obj.cells #[.int .i64 t.len, .int .i64 t.grip, .int .i64 t.palm] 26), (w.heap.size + 1 + 1, Obj.cells #[.int .i64 g.x, .int .i64 g.y, .bool g.across, .int .i64 g.width, .int .i64 g.z] 28)] from At.ext hb3 A2.out); have E3 := Lib.hid ((E2.out).trans hb3); obtain ⟨⟨c3_0_0, c3_0_1, c3_0_2⟩, f3_0_0, f3_0_1, f3_0_2⟩ := run_3 (At.at A3.out 0 rfl); have s3_0 : w.heap.size < w3.heap.size := At.lt A3.out 0 rfl; obtain ⟨⟨c3_1_0, c3_1_1, c3_1_2⟩, f3_1_0, f3_1_1, f3_1_2⟩ := run_3 (At.at A3.out 1 rfl); have s3_1 : w.heap.size + 1 < w3.heap.size := At.lt A3.out 1 rfl; obtain ⟨⟨c3_2_0, c3_2_1, c3_2_2, c3_2_3, c3_2_4⟩, f3_2_0, f3_2_1, f3_2_2, f3_2_3, f3_2_4⟩ := run_5 (At.at A3.out 2 rfl); have s3_2 : w.heap.size + 1 + 1 < w3.heap.size := At.lt A3.out 2 rfl; (try clear c2_0_0 c2_0_1 c2_0_2 f2_0_0 f2_0_1 f2_0_2 c2_1_0 c2_1_1 c2_1_2 f2_1_0 f2_1_1 f2_1_2 c2_2_0 c2_2_1 c2_2_2 c2_2_3 c2_2_4 f2_2_0 f2_2_1 f2_2_2 f2_2_3 f2_2_4 s2_0 s2_1 s2_2); have HV_3 := Lib.hid (IntsAt.ext (HV_2.out) hb3); have PL := Lib.hid o3; clear o3) | (have _q := E1; go_at_call 19; (with_reducible refine (K19.out _ _ HV_1.out).mono ?_); rintro E w2 ⟨rfl, hb2⟩; have A2 := Lib.hid (show At w2 [(w.heap.size, Obj.cells #[.int .i64 m.w, .int .i64 m.h, .slice ao m.pix.length cap] 24), (w.heap.size + 1, Obj.cells #[.int .i64 t.len, .int .i64 t.grip, .int .i64 t.palm] 26), (w.heap.size + 1 + 1, Obj.cells #[.int .i64 g.x, .int .i64 g.y, .bool g.across, .int .i64 g.width, .int .i64 g.z] 28)] from At.ext hb2 A1.out); have E2 := Lib.hid ((E1.out).trans hb2); obtain ⟨⟨c2_0_0, c2_0_1, c2_0_2⟩, f2_0_0, f2_0_1, f2_0_2⟩ := run_3 (At.at A2.out 0 rfl); have s2_0 : w.heap.size < w2.heap.size := At.lt A2.out 0 rfl; obtain ⟨⟨c2_1_0, c2_1_1, c2_1_2⟩, f2_1_0, f2_1_1, f2_1_2⟩ := run_3 (At.at A2.out 1 rfl); have s2_1 : w.heap.size + 1 < w2.heap.size := At.lt A2.out 1 rfl; obtain ⟨⟨c2_2_0, c2_2_1, c2_2_2, c2_2_3, c2_2_4⟩, f2_2_0, f2_2_1, f2_2_2, f2_2_3, f2_2_4⟩ := run_5 (At.at A2.out 2 rfl); have s2_2 : w.heap.size + 1 + 1 < w2.heap.size := At.lt A2.out 2 rfl; (try clear c1_0_0 c1_0_1 c1_0_2 f1_0_0 f1_0_1 f1_0_2 c1_1_0 c1_1_1 c1_1_2 f1_1_0 f1_1_1 f1_1_2 c1_2_0 c1_2_1 c1_2_2 c1_2_3 c1_2_4 f1_2_0 f1_2_1 f1_2_2 f1_2_3 f1_2_4 s1_0 s1_1 s1_2); have HV_2 := Lib.hid (IntsAt.ext (HV_1.out) hb2)) | (go_at_call 39; (with_reducible refine (c39 _).mono ?_); rintro E w1 ⟨rfl, hb1⟩; have A1 := Lib.hid (show At w1 [(w.heap.size, Obj.cells #[.int .i64 m.w, .int .i64 m.h, .slice ao m.pix.length cap] 24), (w.heap.size + 1, Obj.cells #[.int .i64 t.len, .int .i64 t.grip, .int .i64 t.palm] 26), (w.heap.size + 1 + 1, Obj.cells #[.int .i64 g.x, .int .i64 g.y, .bool g.across, .int .i64 g.width, .int .i64 g.z] 28)] from At.ext hb1 (show At (World.alloc (World.alloc (World.alloc w (Obj.cells #[.int .i64 m.w, .int .i64 m.h, .slice ao m.pix.length cap] 24)) (Obj.cells #[.int .i64 t.len, .int .i64 t.grip, .int .i64 t.palm] 26)) (Obj.cells #[.int .i64 g.x, .int .i64 g.y, .bool g.across, .int .i64 g.width, .int .i64 g.z] 28)) [(w.heap.size, Obj.cells #[.int .i64 m.w, .int .i64 m.h, .slice ao m.pix.length cap] 24), (w.heap.size + 1, Obj.cells #[.int .i64 t.len, .int .i64 t.grip, .int .i64 t.palm] 26), (w.heap.size + 1 + 1, Obj.cells #[.int .i64 g.x, .int .i64 g.y, .bool g.across, .int .i64 g.width, .int .i64 g.z] 28)] from ⟨(by repeat (first | (refine blk_at _ _ ?_; (first | rfl | (simp only [size_one]; done))) | refine (blk_past _ _ (by simp only [size_one]; omega)).trans ?_)), (by repeat (first | (refine blk_at _ _ ?_; (first | rfl | (simp only [size_one]; done))) | refine (blk_past _ _ (by simp only [size_one]; omega)).trans ?_)), (by repeat (first | (refine blk_at _ _ ?_; (first | rfl | (simp only [size_one]; done))) | refine (blk_past _ _ (by simp only [size_one]; omega)).trans ?_)), trivial⟩)); have E1 := Lib.hid (((show Ext w (World.alloc (World.alloc (World.alloc w (Obj.cells #[.int .i64 m.w, .int .i64 m.h, .slice ao m.pix.length cap] 24)) (Obj.cells #[.int .i64 t.len, .int .i64 t.grip, .int .i64 t.palm] 26)) (Obj.cells #[.int .i64 g.x, .int .i64 g.y, .bool g.across, .int .i64 g.width, .int .i64 g.z] 28)) from (by repeat (first | exact Ext.refl _ | assumption | refine Ext.alloc ?_ _ | refine Ext.drewN ?_ _ | refine ext_grow ?_ _ _ | refine Ext.setCell ?_ (by first | exact Nat.le_refl _ | omega | (simp; done) | (simp; omega)) _ | refine Ext.trans ?_ (by assumption))))).trans hb1); obtain ⟨⟨c1_0_0, c1_0_1, c1_0_2⟩, f1_0_0, f1_0_1, f1_0_2⟩ := run_3 (At.at A1.out 0 rfl); have s1_0 : w.heap.size < w1.heap.size := At.lt A1.out 0 rfl; obtain ⟨⟨c1_1_0, c1_1_1, c1_1_2⟩, f1_1_0, f1_1_1, f1_1_2⟩ := run_3 (At.at A1.out 1 rfl); have s1_1 : w.heap.size + 1 < w1.heap.size := At.lt A1.out 1 rfl; obtain ⟨⟨c1_2_0, c1_2_1, c1_2_2, c1_2_3, c1_2_4⟩, f1_2_0, f1_2_1, f1_2_2, f1_2_3, f1_2_4⟩ := run_5 (At.at A1.out 2 rfl); have s1_2 : w.heap.size + 1 + 1 < w1.heap.size := At.lt A1.out 2 rfl; have HV_1 := Lib.hid (IntsAt.ext ((IntsAt.ext HV.out (by repeat (first | exact Ext.refl _ | assumption | refine Ext.alloc ?_ _ | refine Ext.drewN ?_ _ | refine ext_grow ?_ _ _ | refine Ext.setCell ?_ (by first | exact Nat.le_refl _ | omega | (simp; done) | (simp; omega)) _ | refine Ext.trans ?_ (by assumption))))) hb1)))
    go_ret
    exact ⟨rfl, E3.out⟩
  have hD : holdsD m t g slack = HoldsB m t g slack := if_pos h0
  have hP : planD m t slack = planB m t slack := if_pos h0
  obtain ⟨hc, ht, hs, -⟩ := ready_ok h0
  obtain ⟨n1, n2⟩ := plan_all hc.1 ht.1.1 hs g
  obtain ⟨gs, hgs⟩ : ∃ gs, planD m t slack = gs := ⟨_, rfl⟩
  obtain ⟨b, hb⟩ : ∃ b, holdsD m t g slack = b := ⟨_, rfl⟩
  rw [← HoldsB_iff, ← hD, hb, ← hP, hgs] at n2
  rw [← hP, hgs] at n1
  rw [h0, hb] at K19
  rw [h0, hgs] at K21
  rw [hgs] at hlen
  have N1 := Lib.hid n1
  have N2 := Lib.hid n2
  clear n1 n2 hD hP hgs hb h0 hc ht hs
  unfold imgVal toolVal graspVal at *
  clear hv hl hlm
  go_enter Try.func14, Try.ntmps14
  go_wp2_with (first | (have _q := E2; go_at_call 21; (with_reducible refine (K21.out _ _ HV_2.out).mono ?_); rintro E w3 ⟨po, pc, rfl, o3, hb3⟩; have A3 := Lib.hid (show At w3 [(w.heap.size, Obj.cells #[.int .i64 m.w, .int .i64 m.h, .slice ao m.pix.length cap] 24), (w.heap.size + 1, Obj.cells #[.int .i64 t.len, .int .i64 t.grip, .int .i64 t.palm] 26), (w.heap.size + 1 + 1, Obj.cells #[.int .i64 g.x, .int .i64 g.y, .bool g.across, .int .i64 g.width, .int .i64 g.z] 28)] from At.ext hb3 A2.out); have E3 := Lib.hid ((E2.out).trans hb3); obtain ⟨⟨c3_0_0, c3_0_1, c3_0_2⟩, f3_0_0, f3_0_1, f3_0_2⟩ := run_3 (At.at A3.out 0 rfl); have s3_0 : w.heap.size < w3.heap.size := At.lt A3.out 0 rfl; obtain ⟨⟨c3_1_0, c3_1_1, c3_1_2⟩, f3_1_0, f3_1_1, f3_1_2⟩ := run_3 (At.at A3.out 1 rfl); have s3_1 : w.heap.size + 1 < w3.heap.size := At.lt A3.out 1 rfl; obtain ⟨⟨c3_2_0, c3_2_1, c3_2_2, c3_2_3, c3_2_4⟩, f3_2_0, f3_2_1, f3_2_2, f3_2_3, f3_2_4⟩ := run_5 (At.at A3.out 2 rfl); have s3_2 : w.heap.size + 1 + 1 < w3.heap.size := At.lt A3.out 2 rfl; (try clear c2_0_0 c2_0_1 c2_0_2 f2_0_0 f2_0_1 f2_0_2 c2_1_0 c2_1_1 c2_1_2 f2_1_0 f2_1_1 f2_1_2 c2_2_0 c2_2_1 c2_2_2 c2_2_3 c2_2_4 f2_2_0 f2_2_1 f2_2_2 f2_2_3 f2_2_4 s2_0 s2_1 s2_2); have HV_3 := Lib.hid (IntsAt.ext (HV_2.out) hb3); have PL := Lib.hid o3; clear o3) | (have _q := E1; go_at_call 19; (with_reducible refine (K19.out _ _ HV_1.out).mono ?_); rintro E w2 ⟨rfl, hb2⟩; have A2 := Lib.hid (show At w2 [(w.heap.size, Obj.cells #[.int .i64 m.w, .int .i64 m.h, .slice ao m.pix.length cap] 24), (w.heap.size + 1, Obj.cells #[.int .i64 t.len, .int .i64 t.grip, .int .i64 t.palm] 26), (w.heap.size + 1 + 1, Obj.cells #[.int .i64 g.x, .int .i64 g.y, .bool g.across, .int .i64 g.width, .int .i64 g.z] 28)] from At.ext hb2 A1.out); have E2 := Lib.hid ((E1.out).trans hb2); obtain ⟨⟨c2_0_0, c2_0_1, c2_0_2⟩, f2_0_0, f2_0_1, f2_0_2⟩ := run_3 (At.at A2.out 0 rfl); have s2_0 : w.heap.size < w2.heap.size := At.lt A2.out 0 rfl; obtain ⟨⟨c2_1_0, c2_1_1, c2_1_2⟩, f2_1_0, f2_1_1, f2_1_2⟩ := run_3 (At.at A2.out 1 rfl); have s2_1 : w.heap.size + 1 < w2.heap.size := At.lt A2.out 1 rfl; obtain ⟨⟨c2_2_0, c2_2_1, c2_2_2, c2_2_3, c2_2_4⟩, f2_2_0, f2_2_1, f2_2_2, f2_2_3, f2_2_4⟩ := run_5 (At.at A2.out 2 rfl); have s2_2 : w.heap.size + 1 + 1 < w2.heap.size := At.lt A2.out 2 rfl; (try clear c1_0_0 c1_0_1 c1_0_2 f1_0_0 f1_0_1 f1_0_2 c1_1_0 c1_1_1 c1_1_2 f1_1_0 f1_1_1 f1_1_2 c1_2_0 c1_2_1 c1_2_2 c1_2_3 c1_2_4 f1_2_0 f1_2_1 f1_2_2 f1_2_3 f1_2_4 s1_0 s1_1 s1_2); have HV_2 := Lib.hid (IntsAt.ext (HV_1.out) hb2)) | (go_at_call 39; (with_reducible refine (c39 _).mono ?_); rintro E w1 ⟨rfl, hb1⟩; have A1 := Lib.hid (show At w1 [(w.heap.size, Obj.cells #[.int .i64 m.w, .int .i64 m.h, .slice ao m.pix.length cap] 24), (w.heap.size + 1, Obj.cells #[.int .i64 t.len, .int .i64 t.grip, .int .i64 t.palm] 26), (w.heap.size + 1 + 1, Obj.cells #[.int .i64 g.x, .int .i64 g.y, .bool g.across, .int .i64 g.width, .int .i64 g.z] 28)] from At.ext hb1 (show At (World.alloc (World.alloc (World.alloc w (Obj.cells #[.int .i64 m.w, .int .i64 m.h, .slice ao m.pix.length cap] 24)) (Obj.cells #[.int .i64 t.len, .int .i64 t.grip, .int .i64 t.palm] 26)) (Obj.cells #[.int .i64 g.x, .int .i64 g.y, .bool g.across, .int .i64 g.width, .int .i64 g.z] 28)) [(w.heap.size, Obj.cells #[.int .i64 m.w, .int .i64 m.h, .slice ao m.pix.length cap] 24), (w.heap.size + 1, Obj.cells #[.int .i64 t.len, .int .i64 t.grip, .int .i64 t.palm] 26), (w.heap.size + 1 + 1, Obj.cells #[.int .i64 g.x, .int .i64 g.y, .bool g.across, .int .i64 g.width, .int .i64 g.z] 28)] from ⟨(by repeat (first | (refine blk_at _ _ ?_; (first | rfl | (simp only [size_one]; done))) | refine (blk_past _ _ (by simp only [size_one]; omega)).trans ?_)), (by repeat (first | (refine blk_at _ _ ?_; (first | rfl | (simp only [size_one]; done))) | refine (blk_past _ _ (by simp only [size_one]; omega)).trans ?_)), (by repeat (first | (refine blk_at _ _ ?_; (first | rfl | (simp only [size_one]; done))) | refine (blk_past _ _ (by simp only [size_one]; omega)).trans ?_)), trivial⟩)); have E1 := Lib.hid (((show Ext w (World.alloc (World.alloc (World.alloc w (Obj.cells #[.int .i64 m.w, .int .i64 m.h, .slice ao m.pix.length cap] 24)) (Obj.cells #[.int .i64 t.len, .int .i64 t.grip, .int .i64 t.palm] 26)) (Obj.cells #[.int .i64 g.x, .int .i64 g.y, .bool g.across, .int .i64 g.width, .int .i64 g.z] 28)) from (by repeat (first | exact Ext.refl _ | assumption | refine Ext.alloc ?_ _ | refine Ext.drewN ?_ _ | refine ext_grow ?_ _ _ | refine Ext.setCell ?_ (by first | exact Nat.le_refl _ | omega | (simp; done) | (simp; omega)) _ | refine Ext.trans ?_ (by assumption))))).trans hb1); obtain ⟨⟨c1_0_0, c1_0_1, c1_0_2⟩, f1_0_0, f1_0_1, f1_0_2⟩ := run_3 (At.at A1.out 0 rfl); have s1_0 : w.heap.size < w1.heap.size := At.lt A1.out 0 rfl; obtain ⟨⟨c1_1_0, c1_1_1, c1_1_2⟩, f1_1_0, f1_1_1, f1_1_2⟩ := run_3 (At.at A1.out 1 rfl); have s1_1 : w.heap.size + 1 < w1.heap.size := At.lt A1.out 1 rfl; obtain ⟨⟨c1_2_0, c1_2_1, c1_2_2, c1_2_3, c1_2_4⟩, f1_2_0, f1_2_1, f1_2_2, f1_2_3, f1_2_4⟩ := run_5 (At.at A1.out 2 rfl); have s1_2 : w.heap.size + 1 + 1 < w1.heap.size := At.lt A1.out 2 rfl; have HV_1 := Lib.hid (IntsAt.ext ((IntsAt.ext HV.out (by repeat (first | exact Ext.refl _ | assumption | refine Ext.alloc ?_ _ | refine Ext.drewN ?_ _ | refine ext_grow ?_ _ _ | refine Ext.setCell ?_ (by first | exact Nat.le_refl _ | omega | (simp; done) | (simp; omega)) _ | refine Ext.trans ?_ (by assumption))))) hb1)))
  go_loopw [14, 15] (fun nv iv wr => Hid (Ext w wr) ∧ Hid (At wr [(w.heap.size, Obj.cells #[.int .i64 m.w, .int .i64 m.h, .slice ao m.pix.length cap] 24), (w.heap.size + 1, Obj.cells #[.int .i64 t.len, .int .i64 t.grip, .int .i64 t.palm] 26), (w.heap.size + 1 + 1, Obj.cells #[.int .i64 g.x, .int .i64 g.y, .bool g.across, .int .i64 g.width, .int .i64 g.z] 28)]) ∧ Hid (GraspsAt wr (.slice po gs.length pc) gs) ∧ ∃ i : Nat, i ≤ gs.length ∧ iv = .int .i64 (i : Int) ∧ nv = .int .i64 (((gs.take i).countP (like g) : Nat) : Int)) (fun _ iv _ => gs.length - (intOf iv).toNat)
  case atStart => exact ⟨E3, A3, PL, 0, Nat.zero_le _, rfl, rfl⟩
  case round =>
    obtain ⟨HE, HAr, HG, i, hi, rfl, rfl⟩ := hrel
    obtain ⟨⟨cr_0_0, cr_0_1, cr_0_2⟩, fr_0_0, fr_0_1, fr_0_2⟩ := run_3 (At.at HAr.out 0 rfl)
    have sr_0 : w.heap.size < wr.heap.size := At.lt HAr.out 0 rfl
    obtain ⟨⟨cr_1_0, cr_1_1, cr_1_2⟩, fr_1_0, fr_1_1, fr_1_2⟩ := run_3 (At.at HAr.out 1 rfl)
    have sr_1 : w.heap.size + 1 < wr.heap.size := At.lt HAr.out 1 rfl
    obtain ⟨⟨cr_2_0, cr_2_1, cr_2_2, cr_2_3, cr_2_4⟩, fr_2_0, fr_2_1, fr_2_2, fr_2_3, fr_2_4⟩ := run_5 (At.at HAr.out 2 rfl)
    have sr_2 : w.heap.size + 1 + 1 < wr.heap.size := At.lt HAr.out 2 rfl
    by_cases hil : i < gs.length
    · obtain ⟨_, _, hfx, -, hcx⟩ := GraspsAt.form HG.out
      obtain ⟨pb, pf, hxb, x0, x1, x2, x3, x4⟩ := hcx i hil
      simp only [Value.slice.injEq] at hfx
      obtain ⟨hfx, -, -⟩ := hfx
      subst hfx
      subst hxb
      have HX := Lib.hid (show gs.getD i grasp0 ∈ gs from getD_in _ hil)
      have HC := Lib.hid (show (gs.take (i + 1)).countP (like g) = (gs.take i).countP (like g) + (if like g (gs.getD i grasp0) = true then 1 else 0) from count_step _ _ hil)
      generalize gs.getD i grasp0 = x at x0 x1 x2 x3 x4 HX HC
      clear hcx
      have hili : (i : Int) < (gs.length : Int) := by omega
      obtain ⟨k, hk⟩ : ∃ k, (gs.take i).countP (like g) = k := ⟨_, rfl⟩
      rw [hk] at HC ⊢
      have HK := Lib.hid hk
      have hkk : k ≤ 5000 := by rw [← hk]; exact Nat.le_trans List.countP_le_length (by rw [List.length_take]; omega)
      clear hk
      by_cases e1 : (x.x == g.x) = true
      case neg =>
        rw [Bool.not_eq_true] at e1
        have HC2 := Lib.hid (show (gs.take (i + 1)).countP (like g) = k from by rw [HC.out, if_neg (by unfold like; simp [e1])]; rfl)
        go_wp2_with fail
        go_quiet (fail)
        go_wp2
        go_roundw
        case rel => exact ⟨Lib.hid (HE.out.drewN _), Lib.hid (At.drewN HAr.out _), Lib.hid (GraspsAt.ext HG.out ((Ext.refl _).drewN _)), i + 1, by omega, by go_num, by rw [HC2.out]⟩
        case measure => simp [intOf]; omega
      by_cases e2 : (x.y == g.y) = true
      case neg =>
        rw [Bool.not_eq_true] at e2
        have HC2 := Lib.hid (show (gs.take (i + 1)).countP (like g) = k from by rw [HC.out, if_neg (by unfold like; simp [e2])]; rfl)
        go_wp2_with fail
        go_quiet (fail)
        go_wp2
        go_roundw
        case rel => exact ⟨Lib.hid (HE.out.drewN _), Lib.hid (At.drewN HAr.out _), Lib.hid (GraspsAt.ext HG.out ((Ext.refl _).drewN _)), i + 1, by omega, by go_num, by rw [HC2.out]⟩
        case measure => simp [intOf]; omega
      by_cases e3 : (x.across == g.across) = true
      case neg =>
        rw [Bool.not_eq_true] at e3
        have HC2 := Lib.hid (show (gs.take (i + 1)).countP (like g) = k from by rw [HC.out, if_neg (by unfold like; simp [e3])]; rfl)
        go_wp2_with fail
        go_quiet (fail)
        go_wp2
        go_roundw
        case rel => exact ⟨Lib.hid (HE.out.drewN _), Lib.hid (At.drewN HAr.out _), Lib.hid (GraspsAt.ext HG.out ((Ext.refl _).drewN _)), i + 1, by omega, by go_num, by rw [HC2.out]⟩
        case measure => simp [intOf]; omega
      by_cases e4 : (x.width == g.width) = true
      case neg =>
        rw [Bool.not_eq_true] at e4
        have HC2 := Lib.hid (show (gs.take (i + 1)).countP (like g) = k from by rw [HC.out, if_neg (by unfold like; simp [e4])]; rfl)
        go_wp2_with fail
        go_quiet (fail)
        go_wp2
        go_roundw
        case rel => exact ⟨Lib.hid (HE.out.drewN _), Lib.hid (At.drewN HAr.out _), Lib.hid (GraspsAt.ext HG.out ((Ext.refl _).drewN _)), i + 1, by omega, by go_num, by rw [HC2.out]⟩
        case measure => simp [intOf]; omega
      have hlk : like g x = true := by unfold like; rw [e1, e2, e3, e4]; rfl
      have HC2 := Lib.hid (show (gs.take (i + 1)).countP (like g) = k + 1 from by rw [HC.out, if_pos hlk])
      cases b with
      | false =>
        clear hlk
        go_wp2_with fail
        go_quiet (fail)
        go_wp2
        go_quiet (fail)
        go_wp2
        go_roundw
        case rel => exact ⟨Lib.hid (HE.out.drewN _), Lib.hid (At.drewN HAr.out _), Lib.hid (GraspsAt.ext HG.out ((Ext.refl _).drewN _)), i + 1, by omega, by go_num, by rw [HC2.out]; go_num⟩
        case measure => simp [intOf]; omega
      | true =>
        have hz := ((N2.out rfl).1 x HX.out hlk)
        have e5 : decide (g.z < x.z) = false := decide_eq_false (by omega)
        clear hlk hz
        go_wp2_with fail
        go_quiet (fail)
        go_wp2
        go_quiet (fail)
        go_wp2
        go_roundw
        case rel => exact ⟨Lib.hid (HE.out.drewN _), Lib.hid (At.drewN HAr.out _), Lib.hid (GraspsAt.ext HG.out ((Ext.refl _).drewN _)), i + 1, by omega, by go_num, by rw [HC2.out]; go_num⟩
        case measure => simp [intOf]; omega
    · obtain rfl : i = gs.length := by omega
      rw [List.take_length] at *
      obtain ⟨k, hk⟩ : ∃ k, gs.countP (like g) = k := ⟨_, rfl⟩
      rw [hk]
      have h1 := N1.out
      rw [hk] at h1
      have q1 : decide ((k : Int) ≤ 1) = true := decide_eq_true (by omega)
      cases b with
      | false =>
        have HH := HE
        clear h1 hk N1 N2
        go_wp2
        go_ret
        exact ⟨rfl, HE.out⟩
      | true =>
        obtain rfl : k = 1 := by rw [← hk]; exact (N2.out rfl).2
        clear h1 hk N1 N2
        go_wp2
        go_ret
        exact ⟨rfl, HE.out⟩
theorem g14 (m : Img) (v : Value) (t : Tool) (g : Grasp) (slack : Int) (w : World) (hv : IntsAt w v m.pix) (hl : m.pix.length * 8 ≤ 140737488351232) (_hs : (Lit.int .i64 slack).wf = true) :
    Calls Try.prog 14 #[imgVal m v, toolVal t, graspVal g, .int .i64 slack] w fun e w' => e = .returned (.bool true) ∧ Ext w w' := c14 m v t g slack w hv hl
end Go.Proofs.Ytipkjdfnoonpcaa
