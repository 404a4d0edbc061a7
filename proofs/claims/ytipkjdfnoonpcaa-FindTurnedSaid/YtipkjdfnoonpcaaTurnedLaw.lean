/- The law FindTurned: the walk. -/
import Derived.Test.YtipkjdfnoonpcaaTurnPlain
import Derived.Deep.RegionHeld3
import Derived.Deep.DrawnRows
import Derived.Maps.OwnSet
set_option linter.unusedVariables false
set_option linter.unusedSimpArgs false
namespace Go.Proofs.Ytipkjdfnoonpcaa
open Go.RowKit Go.Sort
attribute [local go_sem ↓] Go.wp_at_zero Go.wp_at_succ

set_option maxRecDepth 100000 in
set_option maxHeartbeats 32000000 in
theorem c17 (m : Img) (v : Value) (t : Tool) (slack : Int) (w : World) (hv : IntsAt w v m.pix) (hl : m.pix.length * 8 ≤ 140737488351232) :
    Calls Try.prog 17 #[imgVal m v, toolVal t, .int .i64 slack] w fun e w' => e = .returned (.bool true) ∧ Ext w w' := by
  have hlm : m.pix.length ≤ maxLen := by unfold maxLen; omega
  have HV := Lib.hid hv
  obtain ⟨ao, cap, rfl, -, hcell⟩ := hv.form
  have K21 := Lib.hid (fun w' (h : Ext w w') => c21b m _ t slack w' (HV.out.ext h) hlm)
  by_cases h0 : readyE m t slack = 0
  case neg =>
    obtain ⟨r, hr⟩ : ∃ r, readyE m t slack = r := ⟨_, rfl⟩
    have u1 : (r != 0) = true := by rw [← hr]; simp [h0]
    rw [hr] at K21
    clear h0 hr
    unfold imgVal toolVal at *
    clear hv hl hlm hcell
    go_enter Try.func17, Try.ntmps17
    go_wp2_with (first | (have _q := E1; go_at_call 21; (with_reducible refine (K21.out _ E1.out).mono ?_); rintro E w2 ⟨po, pc, rfl, hpl, hb2⟩; have E2 := Lib.hid (E1.out.trans hb2); have A2 := Lib.hid (show At w2 [(w.heap.size + 1, Obj.cells #[.int .i64 t.len, .int .i64 t.grip, .int .i64 t.palm] 26), (w.heap.size, Obj.cells #[.int .i64 m.w, .int .i64 m.h, .slice ao m.pix.length cap] 24)] from At.ext hb2 A1.out); have PL := Lib.hid hpl; clear hpl; obtain ⟨⟨y00, y01, y02⟩, -⟩ := run_3 (At.at A2.out 0 rfl); obtain ⟨⟨y10, y11, y12⟩, -⟩ := run_3 (At.at A2.out 1 rfl); have yz0 := At.lt A2.out 0 rfl; have yy0 := Nat.lt_succ_of_lt yz0; have yx0 := Nat.lt_succ_of_lt yy0; have yz1 := At.lt A2.out 1 rfl; have yy1 := Nat.lt_succ_of_lt yz1; have yx1 := Nat.lt_succ_of_lt yy1; clear x00 x01 x02 x10 x11 x12 xz0 xy0 xx0 xz1 xy1 xx1) | (go_at_call 39; (with_reducible refine (c39 _).mono ?_); rintro E w1 ⟨rfl, hb1⟩; have E1 := Lib.hid (show Ext w w1 from (by repeat (first | exact Ext.refl _ | assumption | refine Ext.alloc ?_ _ | refine Ext.drewN ?_ _ | refine ext_grow ?_ _ _ | refine Ext.trans ?_ (by assumption)))); have A1 := Lib.hid (show At w1 [(w.heap.size + 1, Obj.cells #[.int .i64 t.len, .int .i64 t.grip, .int .i64 t.palm] 26), (w.heap.size, Obj.cells #[.int .i64 m.w, .int .i64 m.h, .slice ao m.pix.length cap] 24)] from At.ext hb1 ⟨(by repeat (first | (refine blk_at _ _ ?_; (first | rfl | (simp only [size_one]; done))) | refine (blk_past _ _ (by simp only [size_one]; omega)).trans ?_)), (by repeat (first | (refine blk_at _ _ ?_; (first | rfl | (simp only [size_one]; done))) | refine (blk_past _ _ (by simp only [size_one]; omega)).trans ?_)), trivial⟩); obtain ⟨⟨x00, x01, x02⟩, -⟩ := run_3 (At.at A1.out 0 rfl); obtain ⟨⟨x10, x11, x12⟩, -⟩ := run_3 (At.at A1.out 1 rfl); have xz0 := At.lt A1.out 0 rfl; have xy0 := Nat.lt_succ_of_lt xz0; have xx0 := Nat.lt_succ_of_lt xy0; have xz1 := At.lt A1.out 1 rfl; have xy1 := Nat.lt_succ_of_lt xz1; have xx1 := Nat.lt_succ_of_lt xy1))
    go_ret
    exact ⟨rfl, E2.out⟩
  obtain ⟨hc, ht, hs, hs2⟩ := ready_ok h0
  obtain ⟨pb, pf, hio, -⟩ := hcell 0 (by have := (Img.len_bd hc.1).1; omega)
  subst hio
  have hP : planD m t slack = planB m t slack := if_pos h0
  have hrk : readyE (trI m) t slack = 0 := by unfold readyE; rw [if_pos (tr_camera hc), if_pos ht, if_pos ⟨hs, hs2⟩]
  have hPk : planD (trI m) t slack = planB (trI m) t slack := if_pos hrk
  have hln := planD_len m t slack
  have hlk := planD_len (trI m) t slack
  have hvm : m.Valid := ((Img.camera_iff m).1 hc).1
  have hvt : (turnI m).Valid := ((Img.camera_iff _).1 (turn_camera hc)).1
  have hlt : (turnI m).pix.length ≤ maxLen := by have := (Img.len_bd (turn_camera hc).1).2; unfold maxLen; omega
  have hlo : (trI m).pix.length ≤ maxLen := by have := (Img.len_bd (tr_camera hc).1).2; unfold maxLen; omega
  have hplen := tr_len hc
  have hinA : (trI m).In 0 (m.w - 1) := tr_in.2 ⟨⟨by have := hc.1.1; omega, by omega⟩, by omega, by have := hc.1.2.1; omega⟩
  have hinB : m.In (m.w - 1) 0 := tr_in.1 hinA
  have hat := tr_at hc hinA
  have K45 := Lib.hid (fun w' (h : Ext w w') => c45 m _ w' (HV.out.ext h) hlm)
  rw [decide_eq_true hvm] at K45
  have K46 := Lib.hid (fun w' (h : Ext w w') => show Calls Try.prog 46 #[imgVal m (.slice (some ⟨pb, pf, none⟩) m.pix.length cap)] w' (fun e w2 => ∃ o c, e = .returned (.tuple #[.agg #[.int .i64 m.h, .int .i64 m.w, .slice o (turnI m).pix.length c], .int .i64 0]) ∧ IntsAt w2 (.slice o (turnI m).pix.length c) (turnI m).pix ∧ Ext w' w2) from by
    refine (c_Turn m _ w' (HV.out.ext h) hlm).mono ?_
    intro e w2 h2
    unfold turnIs at h2
    rw [if_pos hvm] at h2
    obtain ⟨v', rfl, h3, h4⟩ := h2
    obtain ⟨o, c, rfl, -, -⟩ := h3.form
    exact ⟨o, c, rfl, h3, h4⟩)
  have K47 := Lib.hid (fun (o : Option Addr) (c : Nat) w' (h : IntsAt w' (.slice o (turnI m).pix.length c) (turnI m).pix) => show Calls Try.prog 47 #[.agg #[.int .i64 m.h, .int .i64 m.w, .slice o (turnI m).pix.length c]] w' (fun e w2 => ∃ o2 c2, e = .returned (.tuple #[.agg #[.int .i64 m.h, .int .i64 m.w, .slice o2 (trI m).pix.length c2], .int .i64 0]) ∧ IntsAt w2 (.slice o2 (trI m).pix.length c2) (trI m).pix ∧ Ext w' w2) from by
    refine (c_Flip (turnI m) _ w' h hlt).mono ?_
    intro e w2 h2
    unfold flipIs at h2
    rw [if_pos hvt] at h2
    obtain ⟨v', rfl, h3, h4⟩ := h2
    obtain ⟨o, c, rfl, -, -⟩ := h3.form
    exact ⟨o, c, rfl, h3, h4⟩)
  have KO := Lib.hid (fun (o : Option Addr) (c : Nat) w' (h : IntsAt w' (.slice o (trI m).pix.length c) (trI m).pix) => show Calls Try.prog 21 #[.agg #[.int .i64 m.h, .int .i64 m.w, .slice o (trI m).pix.length c], toolVal t, .int .i64 slack] w' _ from c21b (trI m) _ t slack w' h hlo)
  have K48a := Lib.hid (fun (o : Option Addr) (c : Nat) w' (h : IntsAt w' (.slice o (trI m).pix.length c) (trI m).pix) => show Calls Try.prog 48 #[.agg #[.int .i64 m.h, .int .i64 m.w, .slice o (trI m).pix.length c], .int .i64 0, .int .i64 (m.w - 1)] w' _ from c48 (trI m) _ 0 (m.w - 1) w' (tr_camera hc).1 hinA h)
  have K48b := Lib.hid (fun w' (h : Ext w w') => c48 m _ (m.w - 1) 0 w' hc.1 hinB (HV.out.ext h))
  obtain ⟨r, hr⟩ : ∃ r, m.at (m.w - 1) 0 = r := ⟨_, rfl⟩
  rw [hat, hr] at K48a
  rw [hr] at K48b
  have HPERM := tr_perm hc (t := t) (slack := slack) ht.1.1 hs
  have HCN0 := fun (x : Grasp) (hx : x ∈ planB m t slack) => tr_count hc ht.1.1 hs hx
  have HW0 := fun (x : Grasp) (hx : x ∈ planB m t slack) => show (swapG x).Wf from by
    obtain ⟨h1, h2, h3, h4⟩ := grasp_wf hc.1 ht.1.1 hs hx
    exact ⟨h2, h1, h3, h4⟩
  have HW1 := fun (x : Grasp) (hx : x ∈ planB (trI m) t slack) => grasp_wf (tr_camera hc).1 ht.1.1 hs hx
  obtain ⟨gs, hgs⟩ : ∃ gs, planD m t slack = gs := ⟨_, rfl⟩
  obtain ⟨ks, hks⟩ : ∃ ks, planD (trI m) t slack = ks := ⟨_, rfl⟩
  rw [h0, hgs] at K21
  rw [hrk, hks] at KO
  rw [hgs] at hln
  rw [hks] at hlk
  rw [← hP, hgs] at HPERM HCN0 HW0
  rw [← hPk, hks] at HPERM HCN0 HW1
  have HCN := Lib.hid HCN0
  have HWFS := Lib.hid HW0
  have HWFK := Lib.hid HW1
  have hlenk : ks.length = gs.length := by rw [← HPERM.length_eq, List.length_map]
  have HLK := Lib.hid hlenk
  have u1 : ((ks.length : Int) != (gs.length : Int)) = false := by simp [hlenk]
  have u2 : (((trI m).pix.length : Int) != (m.pix.length : Int)) = false := by simp [hplen]
  have u3 : (m.h != m.h) = false := by simp
  have u4 : (m.w != m.w) = false := by simp
  have u5 : (r != r) = false := by simp
  obtain ⟨⟨mw1, mw2⟩, ⟨mh1, mh2⟩, -⟩ := hc.1
  clear hlenk HPERM HCN0 HW0 HW1 hgs hks hP hPk h0 hrk hc ht hvm hvt hlt hlo hplen hinA hinB hat hr
  unfold imgVal toolVal at *
  clear hv hl hlm hcell
  have hmm := @run_makeMap Try.prog
  go_enter Try.func17, Try.ntmps17
  go_wp2_with (first | (have _q := E5; go_at_call 21; (with_reducible refine (KO.out _ _ _ (IntsAt.ext O5.out ((Ext.refl _).alloc _))).mono ?_); rintro E w6 ⟨qo, qc, rfl, hql, hb6⟩; have E6 := Lib.hid ((E5.out.alloc _).trans hb6); have A6 := Lib.hid (show At w6 [(w5.heap.size, Obj.cells #[.int .i64 m.h, .int .i64 m.w, .slice oo (trI m).pix.length oc] 24), (w.heap.size + 1, Obj.cells #[.int .i64 t.len, .int .i64 t.grip, .int .i64 t.palm] 26), (w.heap.size, Obj.cells #[.int .i64 m.w, .int .i64 m.h, .slice (some ⟨pb, pf, none⟩) m.pix.length cap] 24)] from At.ext hb6 ⟨one_first _ _, At.alloc A5.out _⟩); have P6 := Lib.hid (SlAt.ext P5.out (((Ext.refl _).alloc _).trans hb6)); have O6 := Lib.hid (IntsAt.ext O5.out (((Ext.refl _).alloc _).trans hb6)); have QL := Lib.hid hql; clear hql; obtain ⟨⟨q00, q01, q02⟩, -⟩ := run_3 (At.at A6.out 0 rfl); obtain ⟨⟨q10, q11, q12⟩, -⟩ := run_3 (At.at A6.out 1 rfl); obtain ⟨⟨q20, q21, q22⟩, -⟩ := run_3 (At.at A6.out 2 rfl); have qz0 := At.lt A6.out 0 rfl; have qy0 := Nat.lt_succ_of_lt qz0; have qx0 := Nat.lt_succ_of_lt qy0; have qz1 := At.lt A6.out 1 rfl; have qy1 := Nat.lt_succ_of_lt qz1; have qx1 := Nat.lt_succ_of_lt qy1; have qz2 := At.lt A6.out 2 rfl; have qy2 := Nat.lt_succ_of_lt qz2; have qx2 := Nat.lt_succ_of_lt qy2; clear v00 v01 v02 v10 v11 v12 vz0 vy0 vx0 vz1 vy1 vx1) | (have _q := E4; go_at_call 47; (with_reducible refine (K47.out _ _ _ (IntsAt.ext T4.out ((Ext.refl _).alloc _))).mono ?_); rintro E w5 ⟨oo, oc, rfl, hov, hb5⟩; have E5 := Lib.hid ((E4.out.alloc _).trans hb5); have A5 := Lib.hid (show At w5 [(w.heap.size + 1, Obj.cells #[.int .i64 t.len, .int .i64 t.grip, .int .i64 t.palm] 26), (w.heap.size, Obj.cells #[.int .i64 m.w, .int .i64 m.h, .slice (some ⟨pb, pf, none⟩) m.pix.length cap] 24)] from At.ext hb5 (At.alloc A4.out _)); have P5 := Lib.hid (SlAt.ext P4.out (((Ext.refl _).alloc _).trans hb5)); have O5 := Lib.hid hov; clear hov; obtain ⟨⟨v00, v01, v02⟩, -⟩ := run_3 (At.at A5.out 0 rfl); obtain ⟨⟨v10, v11, v12⟩, -⟩ := run_3 (At.at A5.out 1 rfl); have vz0 := At.lt A5.out 0 rfl; have vy0 := Nat.lt_succ_of_lt vz0; have vx0 := Nat.lt_succ_of_lt vy0; have vz1 := At.lt A5.out 1 rfl; have vy1 := Nat.lt_succ_of_lt vz1; have vx1 := Nat.lt_succ_of_lt vy1; clear u00 u01 u02 u10 u11 u12 uz0 uy0 ux0 uz1 uy1 ux1) | (have _q := E3; go_at_call 46; (with_reducible refine (K46.out _ E3.out).mono ?_); rintro E w4 ⟨to, tc, rfl, htv, hb4⟩; have E4 := Lib.hid (E3.out.trans hb4); have A4 := Lib.hid (show At w4 [(w.heap.size + 1, Obj.cells #[.int .i64 t.len, .int .i64 t.grip, .int .i64 t.palm] 26), (w.heap.size, Obj.cells #[.int .i64 m.w, .int .i64 m.h, .slice (some ⟨pb, pf, none⟩) m.pix.length cap] 24)] from At.ext hb4 A3.out); have P4 := Lib.hid (SlAt.ext P3.out hb4); have T4 := Lib.hid htv; clear htv; obtain ⟨⟨u00, u01, u02⟩, -⟩ := run_3 (At.at A4.out 0 rfl); obtain ⟨⟨u10, u11, u12⟩, -⟩ := run_3 (At.at A4.out 1 rfl); have uz0 := At.lt A4.out 0 rfl; have uy0 := Nat.lt_succ_of_lt uz0; have ux0 := Nat.lt_succ_of_lt uy0; have uz1 := At.lt A4.out 1 rfl; have uy1 := Nat.lt_succ_of_lt uz1; have ux1 := Nat.lt_succ_of_lt uy1; clear z00 z01 z02 z10 z11 z12 zz0 zy0 zx0 zz1 zy1 zx1) | (have _q := E2; go_at_call 45; (with_reducible refine (K45.out _ E2.out).mono ?_); rintro E w3 ⟨rfl, hb3⟩; have E3 := Lib.hid (E2.out.trans hb3); have A3 := Lib.hid (show At w3 [(w.heap.size + 1, Obj.cells #[.int .i64 t.len, .int .i64 t.grip, .int .i64 t.palm] 26), (w.heap.size, Obj.cells #[.int .i64 m.w, .int .i64 m.h, .slice (some ⟨pb, pf, none⟩) m.pix.length cap] 24)] from At.ext hb3 A2.out); have P3 := Lib.hid (SlAt.ext PL.out hb3); obtain ⟨⟨z00, z01, z02⟩, -⟩ := run_3 (At.at A3.out 0 rfl); obtain ⟨⟨z10, z11, z12⟩, -⟩ := run_3 (At.at A3.out 1 rfl); have zz0 := At.lt A3.out 0 rfl; have zy0 := Nat.lt_succ_of_lt zz0; have zx0 := Nat.lt_succ_of_lt zy0; have zz1 := At.lt A3.out 1 rfl; have zy1 := Nat.lt_succ_of_lt zz1; have zx1 := Nat.lt_succ_of_lt zy1; clear y00 y01 y02 y10 y11 y12 yz0 yy0 yx0 yz1 yy1 yx1) | (have _q := E1; go_at_call 21; (with_reducible refine (K21.out _ E1.out).mono ?_); rintro E w2 ⟨po, pc, rfl, hpl, hb2⟩; have E2 := Lib.hid (E1.out.trans hb2); have A2 := Lib.hid (show At w2 [(w.heap.size + 1, Obj.cells #[.int .i64 t.len, .int .i64 t.grip, .int .i64 t.palm] 26), (w.heap.size, Obj.cells #[.int .i64 m.w, .int .i64 m.h, .slice (some ⟨pb, pf, none⟩) m.pix.length cap] 24)] from At.ext hb2 A1.out); have PL := Lib.hid hpl; clear hpl; obtain ⟨⟨y00, y01, y02⟩, -⟩ := run_3 (At.at A2.out 0 rfl); obtain ⟨⟨y10, y11, y12⟩, -⟩ := run_3 (At.at A2.out 1 rfl); have yz0 := At.lt A2.out 0 rfl; have yy0 := Nat.lt_succ_of_lt yz0; have yx0 := Nat.lt_succ_of_lt yy0; have yz1 := At.lt A2.out 1 rfl; have yy1 := Nat.lt_succ_of_lt yz1; have yx1 := Nat.lt_succ_of_lt yy1; clear x00 x01 x02 x10 x11 x12 xz0 xy0 xx0 xz1 xy1 xx1) | (go_at_call 39; (with_reducible refine (c39 _).mono ?_); rintro E w1 ⟨rfl, hb1⟩; have E1 := Lib.hid (show Ext w w1 from (by repeat (first | exact Ext.refl _ | assumption | refine Ext.alloc ?_ _ | refine Ext.drewN ?_ _ | refine ext_grow ?_ _ _ | refine Ext.trans ?_ (by assumption)))); have A1 := Lib.hid (show At w1 [(w.heap.size + 1, Obj.cells #[.int .i64 t.len, .int .i64 t.grip, .int .i64 t.palm] 26), (w.heap.size, Obj.cells #[.int .i64 m.w, .int .i64 m.h, .slice (some ⟨pb, pf, none⟩) m.pix.length cap] 24)] from At.ext hb1 ⟨(by repeat (first | (refine blk_at _ _ ?_; (first | rfl | (simp only [size_one]; done))) | refine (blk_past _ _ (by simp only [size_one]; omega)).trans ?_)), (by repeat (first | (refine blk_at _ _ ?_; (first | rfl | (simp only [size_one]; done))) | refine (blk_past _ _ (by simp only [size_one]; omega)).trans ?_)), trivial⟩); obtain ⟨⟨x00, x01, x02⟩, -⟩ := run_3 (At.at A1.out 0 rfl); obtain ⟨⟨x10, x11, x12⟩, -⟩ := run_3 (At.at A1.out 1 rfl); have xz0 := At.lt A1.out 0 rfl; have xy0 := Nat.lt_succ_of_lt xz0; have xx0 := Nat.lt_succ_of_lt xy0; have xz1 := At.lt A1.out 1 rfl; have xy1 := Nat.lt_succ_of_lt xz1; have xx1 := Nat.lt_succ_of_lt xy1))
  refine wp_region_quiet_below (by kernel_rfl) (by kernel_rfl) ?_
  repeat (go_big_quiet_step ((first | (go_at_call 48; with_reducible exact Calls.ext_of (K48a.out _ _ _ (IntsAt.ext O6.out (Ext.grow _ _ _)))) | (go_at_call 48; with_reducible exact Calls.ext_of (K48b.out _ (ext_grow E6.out _ _))))))
  refine wpQuiet_nil ?_
  intro w7 hw'
  obtain ⟨pq, hw''⟩ := hw'
  have hb7 := ext_of_regrown hw''
  clear hw'' pq
  have hlen2 : ks.length = gs.length := HLK.out
  obtain ⟨wp, hwp⟩ : ∃ wp : World, wp = w7 := ⟨_, rfl⟩
  subst hwp
  have P7 := Lib.hid (SlAt.ext P6.out hb7)
  have Q7 := Lib.hid (SlAt.ext QL.out hb7)
  have E7 := Lib.hid (E6.out.trans hb7)
  obtain ⟨MB, hMB⟩ : ∃ MB, wp.heap.size = MB := ⟨_, rfl⟩
  have C0 := Lib.hid (show CntAt 28 graspLit Grasp.Wf (wp.alloc (.map #[] 0)) MB 0 (fun q => (ks.take 0).count q) from hMB ▸ CntAt.made 28 graspLit Grasp.Wf wp)
  clear q00 q01 q02 q10 q11 q12 q20 q21 q22 qz0 qy0 qx0 qz1 qy1 qx1 qz2 qy2 qx2
  clear hb7 hlen2
  go_wp2
  try rw [hMB]
  go_loopw [17] (fun iv wr => Hid (Ext wp wr) ∧ ∃ i : Nat, i ≤ ks.length ∧ iv = .int .i64 (i : Int) ∧ Hid (CntAt 28 graspLit Grasp.Wf wr MB i (fun q => (ks.take i).count q))) (fun iv _ => ks.length - (intOf iv).toNat)
  case atStart => exact ⟨Lib.hid ((Ext.refl _).alloc _), 0, Nat.zero_le _, rfl, C0⟩
  case round =>
    clear C0
    obtain ⟨hF, i, hi, rfl, hK⟩ := hrel
    have Q9 := Lib.hid (SlAt.ext Q7.out hF.out)
    by_cases hil : i < ks.length
    · have hili : (i : Int) < (ks.length : Int) := by omega
      have HXM := Lib.hid (getD_mem_at grasp0 hil)
      have HST := Lib.hid (cntG_step hil)
      obtain ⟨_, _, hfx, -, hcx⟩ := GraspsAt.form Q9.out
      obtain ⟨yb, yf, hxb, y0, y1, y2, y3, y4⟩ := hcx (i) hil
      simp only [Value.slice.injEq] at hfx
      obtain ⟨hfx, -, -⟩ := hfx
      subst hfx
      subst hxb
      clear hcx
      have yz := World.block_lt_of_cell? _ _ y0
      simp only at yz
      generalize ks.getD i grasp0 = x at y0 y1 y2 y3 y4 HXM HST
      have BUMP := fun W (hb : W.heap[MB]? = wr.heap[MB]?) => CntAt.bump (w := W) grasp_enc (mt := 92) Try.underlying92 (hK.out.block hb) (HWFK.out x HXM.out) (by unfold maxLen; omega) (show (ks.take i).count x < 1000000 from by have h9 : (ks.take i).count x ≤ (ks.take i).length := List.count_le_length; rw [List.length_take] at h9; omega)
      obtain ⟨cn, hcn⟩ : ∃ cn, (ks.take i).count x = cn := ⟨_, rfl⟩
      have hcn2 : cn ≤ 13000 := by rw [← hcn]; have h9 : (ks.take i).count x ≤ (ks.take i).length := List.count_le_length; rw [List.length_take] at h9; omega
      rw [hcn] at BUMP
      have hwc : IntKind.i64.wrap ((cn : Int) + 1) = (cn : Int) + 1 := IntWalk.i64_in _ (by omega)
      clear hcn
      obtain ⟨v0, st, wE, wS, r1, r2, r4, r3, hC2, hg2⟩ := BUMP wr.drew rfl
      rw [HST.out] at hC2
      have F2 := Lib.hid (show Ext wp wS from (hF.out.drew).grown hg2 (fun k hk => by cases hk; omega))
      have C2 := Lib.hid hC2
      unfold graspAgg at r1 r2 r4
      clear hC2 BUMP
      go_wp2
      go_region
      go_wp2
      go_roundw
      case rel => exact ⟨F2, i + 1, by omega, by go_num, C2⟩
      case measure => simp [intOf]; omega
    · obtain rfl : i = ks.length := by omega
      have K9 := Lib.hid (show CntAt 28 graspLit Grasp.Wf wr MB ks.length (fun q => ks.count q) from by have h9 := hK.out; rwa [List.take_length] at h9)
      clear hK
      go_wp2
      obtain ⟨wu, hwu⟩ : ∃ wu : World, wu = wr := ⟨_, rfl⟩
      subst hwu
      go_loopw [18] (fun iv wr => Hid (Ext wu wr) ∧ ∃ i : Nat, i ≤ gs.length ∧ iv = .int .i64 (i : Int)) (fun iv _ => gs.length - (intOf iv).toNat)
      case atStart => exact ⟨Lib.hid (Ext.refl _), 0, Nat.zero_le _, rfl⟩
      case round =>
        obtain ⟨hG, i, hi, rfl⟩ := hrel
        have P8 := Lib.hid (SlAt.ext P7.out (hF.out.trans hG.out))
        have K8 := Lib.hid ((K9.out.ext hG.out).ext ((Ext.refl _).alloc (Obj.cells #[.int .i64 (gs.getD i grasp0).x, .int .i64 (gs.getD i grasp0).y, .bool (gs.getD i grasp0).across, .int .i64 (gs.getD i grasp0).width, .int .i64 (gs.getD i grasp0).z] 28)))
        by_cases hil : i < gs.length
        · have hili : (i : Int) < (gs.length : Int) := by omega
          have HXM := Lib.hid (getD_mem_at grasp0 hil)
          obtain ⟨_, _, hfx, -, hcx⟩ := GraspsAt.form P8.out
          obtain ⟨yb, yf, hxb, y0, y1, y2, y3, y4⟩ := hcx (i) hil
          simp only [Value.slice.injEq] at hfx
          obtain ⟨hfx, -, -⟩ := hfx
          subst hfx
          subst hxb
          clear hcx
          have yz := World.block_lt_of_cell? _ _ y0
          simp only at yz
          generalize gs.getD i grasp0 = x at y0 y1 y2 y3 y4 HXM K8
          have LK := K8.out.look grasp_enc (mt := 92) Try.underlying92 (p := swapG x) (HWFS.out x HXM.out)
          rw [HCN.out x HXM.out] at LK
          unfold graspAgg swapG at LK
          dsimp only at LK
          go_wp2
          go_roundw
          case rel => exact ⟨Lib.hid (hG.out.alloc _), i + 1, by omega, by go_num⟩
          case measure => simp [intOf]; omega
        · obtain rfl : i = gs.length := by omega
          go_wp2
          go_ret
          exact ⟨rfl, E7.out.trans (hF.out.trans hG.out)⟩
theorem g17 (m : Img) (v : Value) (t : Tool) (slack : Int) (w : World) (hv : IntsAt w v m.pix) (hl : m.pix.length * 8 ≤ 140737488351232) (_hs : (Lit.int .i64 slack).wf = true) :
    Calls Try.prog 17 #[imgVal m v, toolVal t, .int .i64 slack] w fun e w' => e = .returned (.bool true) ∧ Ext w w' := c17 m v t slack w hv hl
end Go.Proofs.Ytipkjdfnoonpcaa
