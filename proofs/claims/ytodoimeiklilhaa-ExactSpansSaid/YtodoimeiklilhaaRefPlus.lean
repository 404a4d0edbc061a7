/- The walks of the reference's Plus. -/
import Derived.Test.YtodoimeiklilhaaRefTimes
set_option linter.unusedVariables false
set_option linter.unusedSimpArgs false
namespace Go.Proofs.Ytodoimeiklilhaa
open Go.RowKit Go.Sort

set_option maxRecDepth 100000 in
set_option maxHeartbeats 8000000 in
theorem rPlus_same (a1 a2 b1 b2 s1 s2 rn rd : Int) (N1 N2 D1 D2 : Nat) (Xh Xl Yh Yl Eh El Mh Ml : Int) (t : Bool) (w : World)
    (l1 : -1 ≤ s1)
    (l2 : s1 ≤ 1)
    (l3 : -1 ≤ s2)
    (l4 : s2 ≤ 1)
    (l5 : -1 ≤ s1 * s2)
    (l6 : s1 * s2 ≤ 1)
    (hs : 0 ≤ s1 * s2)
    (k1 : ∀ w, Calls Try.prog 40 #[.int .i64 a1] w fun E w' => E = .returned (.int .i64 s1) ∧ Ext w w')
    (k2 : ∀ w, Calls Try.prog 40 #[.int .i64 b1] w fun E w' => E = .returned (.int .i64 s2) ∧ Ext w w')
    (k3 : ∀ w, Calls Try.prog 41 #[.int .i64 a1] w fun E w' => E = .returned (.int .u64 (N1 : Int)) ∧ Ext w w')
    (k4 : ∀ w, Calls Try.prog 41 #[.int .i64 b1] w fun E w' => E = .returned (.int .u64 (N2 : Int)) ∧ Ext w w')
    (k5 : ∀ w, Calls Try.prog 41 #[.int .i64 a2] w fun E w' => E = .returned (.int .u64 (D1 : Int)) ∧ Ext w w')
    (k6 : ∀ w, Calls Try.prog 41 #[.int .i64 b2] w fun E w' => E = .returned (.int .u64 (D2 : Int)) ∧ Ext w w')
    (k7 : ∀ w, Calls Try.prog 70 #[.int .u64 (N1 : Int), .int .u64 (D2 : Int)] w fun E w' => E = .returned (.agg #[.int .u64 Xh, .int .u64 Xl]) ∧ Ext w w')
    (k8 : ∀ w, Calls Try.prog 70 #[.int .u64 (N2 : Int), .int .u64 (D1 : Int)] w fun E w' => E = .returned (.agg #[.int .u64 Yh, .int .u64 Yl]) ∧ Ext w w')
    (kd : ∀ w, Calls Try.prog 70 #[.int .u64 (D1 : Int), .int .u64 (D2 : Int)] w fun E w' => E = .returned (.agg #[.int .u64 Eh, .int .u64 El]) ∧ Ext w w')
    (kp : ∀ w, Calls Try.prog 75 #[.agg #[.int .u64 Xh, .int .u64 Xl], .agg #[.int .u64 Yh, .int .u64 Yl]] w fun E w' => E = .returned (.agg #[.int .u64 Mh, .int .u64 Ml]) ∧ Ext w w')
    (kl : ∀ w, Calls Try.prog 39 #[.int .i64 (s1 + s2), .agg #[.int .u64 Mh, .int .u64 Ml], .agg #[.int .u64 Eh, .int .u64 El]] w fun E w' => E = .returned (.tuple #[fracV ⟨rn, rd⟩, .bool t]) ∧ Ext w w') :
    Calls Try.prog 48 #[fracV ⟨a1, a2⟩, fracV ⟨b1, b2⟩] w fun E w' => E = .returned (.tuple #[fracV ⟨rn, rd⟩, .bool t]) ∧ Ext w w' := by
  have K1 := Lib.hid k1
  have K2 := Lib.hid k2
  have K3 := Lib.hid k3
  have K4 := Lib.hid k4
  have K5 := Lib.hid k5
  have K6 := Lib.hid k6
  have K7 := Lib.hid k7
  have K8 := Lib.hid k8
  have KD := Lib.hid kd
  have KP := Lib.hid kp
  have KL := Lib.hid kl
  clear k1 k2 k3 k4 k5 k6 k7 k8 kd kp kl
  go_enter Try.func48, Try.ntmps48
  go_wp2
  refine RT.region_two (aq := ?aq1) (n := 14) (sx := 6) (sy := 7) (vx := 15) (vy := 22) (oz := Obj.cells #[.int .u64 0, .int .u64 0] 62) (ox := Obj.cells #[.int .u64 Xh, .int .u64 Xl] 62) (oy := Obj.cells #[.int .u64 Yh, .int .u64 Yl] 62) (qs := [_, _, _, _, _, _, _, _, _, _, _, _, _, _]) (by kernel_rfl) rfl (by kernel_rfl) (by kernel_rfl) rfl rfl (of_decide_eq_true (by kernel_rfl)) (of_decide_eq_true (by kernel_rfl)) rfl rfl rfl rfl (by kernel_rfl) (by kernel_rfl) (by kernel_rfl) (by kernel_rfl) ?_ ?_ ?_ ?_ ?_ ?_
  rotate_left
  · intro e w
    simp [execOp, go_sem, Try.underlying62]
  · intro e w
    simp [execOp, go_sem, Try.underlying62]
  · intro wq hEq
    have AQ := Lib.hid (show At wq [(w.heap.size, Obj.cells #[.int .i64 a1, .int .i64 a2] 23), (w.heap.size + 1, Obj.cells #[.int .i64 b1, .int .i64 b2] 23), (w.heap.size + 1 + 1, Obj.cells #[.int .i64 0, .int .i64 0] 23)] from At.ext hEq (show At _ [(w.heap.size, Obj.cells #[.int .i64 a1, .int .i64 a2] 23), (w.heap.size + 1, Obj.cells #[.int .i64 b1, .int .i64 b2] 23), (w.heap.size + 1 + 1, Obj.cells #[.int .i64 0, .int .i64 0] 23)] from ⟨(by repeat (first | (refine blk_at _ _ ?_; (first | rfl | (simp only [size_one]; done))) | refine (blk_past _ _ (by simp only [size_one]; omega)).trans ?_)), (by repeat (first | (refine blk_at _ _ ?_; (first | rfl | (simp only [size_one]; done))) | refine (blk_past _ _ (by simp only [size_one]; omega)).trans ?_)), (by repeat (first | (refine blk_at _ _ ?_; (first | rfl | (simp only [size_one]; done))) | refine (blk_past _ _ (by simp only [size_one]; omega)).trans ?_)), trivial⟩))
    obtain ⟨q_0_0, q_0_1, r_0_0, r_0_1⟩ := run_pair (At.at AQ.out 0 rfl)
    have sq_0 : w.heap.size < wq.heap.size := At.lt AQ.out 0 rfl
    obtain ⟨q_1_0, q_1_1, r_1_0, r_1_1⟩ := run_pair (At.at AQ.out 1 rfl)
    have sq_1 : w.heap.size + 1 < wq.heap.size := At.lt AQ.out 1 rfl
    obtain ⟨q_2_0, q_2_1, r_2_0, r_2_1⟩ := run_pair (At.at AQ.out 2 rfl)
    have sq_2 : w.heap.size + 1 + 1 < wq.heap.size := At.lt AQ.out 2 rfl
    clear hEq
    simp only [List.cons_append, List.nil_append]
    repeat (go_big_quiet_step ((first | (go_at_call 41; with_reducible exact Calls.ext_of (K3.out _)) | (go_at_call 41; with_reducible exact Calls.ext_of (K4.out _)) | (go_at_call 41; with_reducible exact Calls.ext_of (K5.out _)) | (go_at_call 41; with_reducible exact Calls.ext_of (K6.out _)) | (go_at_call 70; with_reducible exact Calls.ext_of (K7.out _)) | (go_at_call 70; with_reducible exact Calls.ext_of (K8.out _)))))
    refine wpQuiet_nil ?_
    exact rfl
  · intro e w b h1 h2 h3
    obtain ⟨c0, c1, f0, f1⟩ := run_pair h3
    have h2' : e (.tmp 15) = .agg #[.int .u64 Xh, .int .u64 Xl] := h2
    apply Exists.intro
    apply And.intro
    · simp [execOp, go_sem, h1, h2', c0, c1, f0, f1, Try.underlying62]
      exact rfl
    · exact store_pair h3
  · intro e w b h1 h2 h3
    obtain ⟨c0, c1, f0, f1⟩ := run_pair h3
    have h2' : e (.tmp 22) = .agg #[.int .u64 Yh, .int .u64 Yl] := h2
    apply Exists.intro
    apply And.intro
    · simp [execOp, go_sem, h1, h2', c0, c1, f0, f1, Try.underlying62]
      exact rfl
    · exact store_pair h3
  · intro bx1 by1 w1 hE1 hbx1 hby1 hne1 hX1 hY1
    have A1 := Lib.hid (show At w1 [(bx1, Obj.cells #[.int .u64 Xh, .int .u64 Xl] 62), (by1, Obj.cells #[.int .u64 Yh, .int .u64 Yl] 62), (w.heap.size, Obj.cells #[.int .i64 a1, .int .i64 a2] 23), (w.heap.size + 1, Obj.cells #[.int .i64 b1, .int .i64 b2] 23), (w.heap.size + 1 + 1, Obj.cells #[.int .i64 0, .int .i64 0] 23)] from ⟨hX1, hY1, At.ext hE1 (show At _ [(w.heap.size, Obj.cells #[.int .i64 a1, .int .i64 a2] 23), (w.heap.size + 1, Obj.cells #[.int .i64 b1, .int .i64 b2] 23), (w.heap.size + 1 + 1, Obj.cells #[.int .i64 0, .int .i64 0] 23)] from ⟨(by repeat (first | (refine blk_at _ _ ?_; (first | rfl | (simp only [size_one]; done))) | refine (blk_past _ _ (by simp only [size_one]; omega)).trans ?_)), (by repeat (first | (refine blk_at _ _ ?_; (first | rfl | (simp only [size_one]; done))) | refine (blk_past _ _ (by simp only [size_one]; omega)).trans ?_)), (by repeat (first | (refine blk_at _ _ ?_; (first | rfl | (simp only [size_one]; done))) | refine (blk_past _ _ (by simp only [size_one]; omega)).trans ?_)), trivial⟩)⟩)
    have E1 := Lib.hid (((show Ext w _ from (by repeat (first | exact Ext.refl _ | assumption | refine Ext.alloc ?_ _ | refine Ext.drewN ?_ _ | refine ext_grow ?_ _ _ | refine Ext.setCell ?_ (by first | exact Nat.le_refl _ | omega | (simp; done) | (simp; omega)) _ | refine Ext.trans ?_ (by assumption))))).trans hE1)
    obtain ⟨c1_0_0, c1_0_1, f1_0_0, f1_0_1⟩ := run_pair (At.at A1.out 0 rfl)
    have s1_0 : bx1 < w1.heap.size := At.lt A1.out 0 rfl
    obtain ⟨c1_1_0, c1_1_1, f1_1_0, f1_1_1⟩ := run_pair (At.at A1.out 1 rfl)
    have s1_1 : by1 < w1.heap.size := At.lt A1.out 1 rfl
    obtain ⟨c1_2_0, c1_2_1, f1_2_0, f1_2_1⟩ := run_pair (At.at A1.out 2 rfl)
    have s1_2 : w.heap.size < w1.heap.size := At.lt A1.out 2 rfl
    obtain ⟨c1_3_0, c1_3_1, f1_3_0, f1_3_1⟩ := run_pair (At.at A1.out 3 rfl)
    have s1_3 : w.heap.size + 1 < w1.heap.size := At.lt A1.out 3 rfl
    obtain ⟨c1_4_0, c1_4_1, f1_4_0, f1_4_1⟩ := run_pair (At.at A1.out 4 rfl)
    have s1_4 : w.heap.size + 1 + 1 < w1.heap.size := At.lt A1.out 4 rfl
    have y1bx_0 : w.heap.size < bx1 := Nat.lt_of_lt_of_le (At.lt (show At _ [(w.heap.size, Obj.cells #[.int .i64 a1, .int .i64 a2] 23), (w.heap.size + 1, Obj.cells #[.int .i64 b1, .int .i64 b2] 23), (w.heap.size + 1 + 1, Obj.cells #[.int .i64 0, .int .i64 0] 23)] from ⟨(by repeat (first | (refine blk_at _ _ ?_; (first | rfl | (simp only [size_one]; done))) | refine (blk_past _ _ (by simp only [size_one]; omega)).trans ?_)), (by repeat (first | (refine blk_at _ _ ?_; (first | rfl | (simp only [size_one]; done))) | refine (blk_past _ _ (by simp only [size_one]; omega)).trans ?_)), (by repeat (first | (refine blk_at _ _ ?_; (first | rfl | (simp only [size_one]; done))) | refine (blk_past _ _ (by simp only [size_one]; omega)).trans ?_)), trivial⟩) 0 rfl) hbx1
    have y1bx_1 : w.heap.size + 1 < bx1 := Nat.lt_of_lt_of_le (At.lt (show At _ [(w.heap.size, Obj.cells #[.int .i64 a1, .int .i64 a2] 23), (w.heap.size + 1, Obj.cells #[.int .i64 b1, .int .i64 b2] 23), (w.heap.size + 1 + 1, Obj.cells #[.int .i64 0, .int .i64 0] 23)] from ⟨(by repeat (first | (refine blk_at _ _ ?_; (first | rfl | (simp only [size_one]; done))) | refine (blk_past _ _ (by simp only [size_one]; omega)).trans ?_)), (by repeat (first | (refine blk_at _ _ ?_; (first | rfl | (simp only [size_one]; done))) | refine (blk_past _ _ (by simp only [size_one]; omega)).trans ?_)), (by repeat (first | (refine blk_at _ _ ?_; (first | rfl | (simp only [size_one]; done))) | refine (blk_past _ _ (by simp only [size_one]; omega)).trans ?_)), trivial⟩) 1 rfl) hbx1
    have y1bx_2 : w.heap.size + 1 + 1 < bx1 := Nat.lt_of_lt_of_le (At.lt (show At _ [(w.heap.size, Obj.cells #[.int .i64 a1, .int .i64 a2] 23), (w.heap.size + 1, Obj.cells #[.int .i64 b1, .int .i64 b2] 23), (w.heap.size + 1 + 1, Obj.cells #[.int .i64 0, .int .i64 0] 23)] from ⟨(by repeat (first | (refine blk_at _ _ ?_; (first | rfl | (simp only [size_one]; done))) | refine (blk_past _ _ (by simp only [size_one]; omega)).trans ?_)), (by repeat (first | (refine blk_at _ _ ?_; (first | rfl | (simp only [size_one]; done))) | refine (blk_past _ _ (by simp only [size_one]; omega)).trans ?_)), (by repeat (first | (refine blk_at _ _ ?_; (first | rfl | (simp only [size_one]; done))) | refine (blk_past _ _ (by simp only [size_one]; omega)).trans ?_)), trivial⟩) 2 rfl) hbx1
    have y1bx_w : w.heap.size ≤ bx1 := by omega
    have y1by_0 : w.heap.size < by1 := Nat.lt_of_lt_of_le (At.lt (show At _ [(w.heap.size, Obj.cells #[.int .i64 a1, .int .i64 a2] 23), (w.heap.size + 1, Obj.cells #[.int .i64 b1, .int .i64 b2] 23), (w.heap.size + 1 + 1, Obj.cells #[.int .i64 0, .int .i64 0] 23)] from ⟨(by repeat (first | (refine blk_at _ _ ?_; (first | rfl | (simp only [size_one]; done))) | refine (blk_past _ _ (by simp only [size_one]; omega)).trans ?_)), (by repeat (first | (refine blk_at _ _ ?_; (first | rfl | (simp only [size_one]; done))) | refine (blk_past _ _ (by simp only [size_one]; omega)).trans ?_)), (by repeat (first | (refine blk_at _ _ ?_; (first | rfl | (simp only [size_one]; done))) | refine (blk_past _ _ (by simp only [size_one]; omega)).trans ?_)), trivial⟩) 0 rfl) hby1
    have y1by_1 : w.heap.size + 1 < by1 := Nat.lt_of_lt_of_le (At.lt (show At _ [(w.heap.size, Obj.cells #[.int .i64 a1, .int .i64 a2] 23), (w.heap.size + 1, Obj.cells #[.int .i64 b1, .int .i64 b2] 23), (w.heap.size + 1 + 1, Obj.cells #[.int .i64 0, .int .i64 0] 23)] from ⟨(by repeat (first | (refine blk_at _ _ ?_; (first | rfl | (simp only [size_one]; done))) | refine (blk_past _ _ (by simp only [size_one]; omega)).trans ?_)), (by repeat (first | (refine blk_at _ _ ?_; (first | rfl | (simp only [size_one]; done))) | refine (blk_past _ _ (by simp only [size_one]; omega)).trans ?_)), (by repeat (first | (refine blk_at _ _ ?_; (first | rfl | (simp only [size_one]; done))) | refine (blk_past _ _ (by simp only [size_one]; omega)).trans ?_)), trivial⟩) 1 rfl) hby1
    have y1by_2 : w.heap.size + 1 + 1 < by1 := Nat.lt_of_lt_of_le (At.lt (show At _ [(w.heap.size, Obj.cells #[.int .i64 a1, .int .i64 a2] 23), (w.heap.size + 1, Obj.cells #[.int .i64 b1, .int .i64 b2] 23), (w.heap.size + 1 + 1, Obj.cells #[.int .i64 0, .int .i64 0] 23)] from ⟨(by repeat (first | (refine blk_at _ _ ?_; (first | rfl | (simp only [size_one]; done))) | refine (blk_past _ _ (by simp only [size_one]; omega)).trans ?_)), (by repeat (first | (refine blk_at _ _ ?_; (first | rfl | (simp only [size_one]; done))) | refine (blk_past _ _ (by simp only [size_one]; omega)).trans ?_)), (by repeat (first | (refine blk_at _ _ ?_; (first | rfl | (simp only [size_one]; done))) | refine (blk_past _ _ (by simp only [size_one]; omega)).trans ?_)), trivial⟩) 2 rfl) hby1
    have y1by_w : w.heap.size ≤ by1 := by omega
    clear hbx1 hby1 hE1 hX1 hY1
    go_wp2
    simp only [Act.put, List.setIfInBounds_toArray, List.set_cons_succ, List.set_cons_zero]
    refine RT.region_one (aq := ?aq2) (n := 7) (sx := 8) (vx := 29) (oz := Obj.cells #[.int .u64 0, .int .u64 0] 62) (ox := Obj.cells #[.int .u64 Eh, .int .u64 El] 62) (qs1 := [_, _, _, _, _, _, _]) (qs2 := []) (by kernel_rfl) rfl (by kernel_rfl) (by kernel_rfl) rfl (of_decide_eq_true (by kernel_rfl)) rfl rfl (by kernel_rfl) (by kernel_rfl) (by kernel_rfl) ?_ ?_ ?_ ?_
    rotate_left
    · intro e w
      simp [execOp, go_sem, Try.underlying62]
    · intro wq hEq
      have AQ := Lib.hid (show At wq [(bx1, Obj.cells #[.int .u64 Xh, .int .u64 Xl] 62), (by1, Obj.cells #[.int .u64 Yh, .int .u64 Yl] 62), (w.heap.size, Obj.cells #[.int .i64 a1, .int .i64 a2] 23), (w.heap.size + 1, Obj.cells #[.int .i64 b1, .int .i64 b2] 23), (w.heap.size + 1 + 1, Obj.cells #[.int .i64 0, .int .i64 0] 23)] from At.ext hEq A1.out)
      obtain ⟨q_0_0, q_0_1, r_0_0, r_0_1⟩ := run_pair (At.at AQ.out 0 rfl)
      have sq_0 : bx1 < wq.heap.size := At.lt AQ.out 0 rfl
      obtain ⟨q_1_0, q_1_1, r_1_0, r_1_1⟩ := run_pair (At.at AQ.out 1 rfl)
      have sq_1 : by1 < wq.heap.size := At.lt AQ.out 1 rfl
      obtain ⟨q_2_0, q_2_1, r_2_0, r_2_1⟩ := run_pair (At.at AQ.out 2 rfl)
      have sq_2 : w.heap.size < wq.heap.size := At.lt AQ.out 2 rfl
      obtain ⟨q_3_0, q_3_1, r_3_0, r_3_1⟩ := run_pair (At.at AQ.out 3 rfl)
      have sq_3 : w.heap.size + 1 < wq.heap.size := At.lt AQ.out 3 rfl
      obtain ⟨q_4_0, q_4_1, r_4_0, r_4_1⟩ := run_pair (At.at AQ.out 4 rfl)
      have sq_4 : w.heap.size + 1 + 1 < wq.heap.size := At.lt AQ.out 4 rfl
      clear hEq
      simp only [List.cons_append, List.nil_append]
      repeat (go_big_quiet_step ((first | (go_at_call 41; with_reducible exact Calls.ext_of (K5.out _)) | (go_at_call 41; with_reducible exact Calls.ext_of (K6.out _)) | (go_at_call 70; with_reducible exact Calls.ext_of (KD.out _)))))
      refine wpQuiet_nil ?_
      exact rfl
    · intro e w b h1 h2 h3
      obtain ⟨c0, c1, f0, f1⟩ := run_pair h3
      have h2' : e (.tmp 29) = .agg #[.int .u64 Eh, .int .u64 El] := h2
      apply Exists.intro
      apply And.intro
      · simp [execOp, go_sem, h1, h2', c0, c1, f0, f1, Try.underlying62]
        exact rfl
      · exact store_pair h3
    · intro bq2 w2 hE2 hbq2 hX2
      have A2 := Lib.hid (show At w2 [(bq2, Obj.cells #[.int .u64 Eh, .int .u64 El] 62), (bx1, Obj.cells #[.int .u64 Xh, .int .u64 Xl] 62), (by1, Obj.cells #[.int .u64 Yh, .int .u64 Yl] 62), (w.heap.size, Obj.cells #[.int .i64 a1, .int .i64 a2] 23), (w.heap.size + 1, Obj.cells #[.int .i64 b1, .int .i64 b2] 23), (w.heap.size + 1 + 1, Obj.cells #[.int .i64 0, .int .i64 0] 23)] from ⟨hX2, At.ext hE2 A1.out⟩)
      have E2 := Lib.hid ((E1.out).trans hE2)
      obtain ⟨c2_0_0, c2_0_1, f2_0_0, f2_0_1⟩ := run_pair (At.at A2.out 0 rfl)
      have s2_0 : bq2 < w2.heap.size := At.lt A2.out 0 rfl
      obtain ⟨c2_1_0, c2_1_1, f2_1_0, f2_1_1⟩ := run_pair (At.at A2.out 1 rfl)
      have s2_1 : bx1 < w2.heap.size := At.lt A2.out 1 rfl
      obtain ⟨c2_2_0, c2_2_1, f2_2_0, f2_2_1⟩ := run_pair (At.at A2.out 2 rfl)
      have s2_2 : by1 < w2.heap.size := At.lt A2.out 2 rfl
      obtain ⟨c2_3_0, c2_3_1, f2_3_0, f2_3_1⟩ := run_pair (At.at A2.out 3 rfl)
      have s2_3 : w.heap.size < w2.heap.size := At.lt A2.out 3 rfl
      obtain ⟨c2_4_0, c2_4_1, f2_4_0, f2_4_1⟩ := run_pair (At.at A2.out 4 rfl)
      have s2_4 : w.heap.size + 1 < w2.heap.size := At.lt A2.out 4 rfl
      obtain ⟨c2_5_0, c2_5_1, f2_5_0, f2_5_1⟩ := run_pair (At.at A2.out 5 rfl)
      have s2_5 : w.heap.size + 1 + 1 < w2.heap.size := At.lt A2.out 5 rfl
      have y2_0 : bx1 < bq2 := Nat.lt_of_lt_of_le (At.lt A1.out 0 rfl) hbq2
      have y2_1 : by1 < bq2 := Nat.lt_of_lt_of_le (At.lt A1.out 1 rfl) hbq2
      have y2_2 : w.heap.size < bq2 := Nat.lt_of_lt_of_le (At.lt A1.out 2 rfl) hbq2
      have y2_3 : w.heap.size + 1 < bq2 := Nat.lt_of_lt_of_le (At.lt A1.out 3 rfl) hbq2
      have y2_4 : w.heap.size + 1 + 1 < bq2 := Nat.lt_of_lt_of_le (At.lt A1.out 4 rfl) hbq2
      have y2_w : w.heap.size ≤ bq2 := by omega
      clear hbq2 hE2 hX2
      go_wp2
      simp only [Act.put, List.setIfInBounds_toArray, List.set_cons_succ, List.set_cons_zero]
      refine wp_region_quiet_below (by kernel_rfl) (by kernel_rfl) ?_
      repeat (go_big_quiet_step ((first | (go_at_call 40; with_reducible exact Calls.ext_of (K1.out _)) | (go_at_call 40; with_reducible exact Calls.ext_of (K2.out _)))))
      refine wpQuiet_nil ?_
      intro w3 hw'
      obtain ⟨pq, hw''⟩ := hw'
      have hb3 := ext_of_regrown hw''
      clear hw'' pq
      have A3 := Lib.hid (show At w3 [(bq2, Obj.cells #[.int .u64 Eh, .int .u64 El] 62), (bx1, Obj.cells #[.int .u64 Xh, .int .u64 Xl] 62), (by1, Obj.cells #[.int .u64 Yh, .int .u64 Yl] 62), (w.heap.size, Obj.cells #[.int .i64 a1, .int .i64 a2] 23), (w.heap.size + 1, Obj.cells #[.int .i64 b1, .int .i64 b2] 23), (w.heap.size + 1 + 1, Obj.cells #[.int .i64 0, .int .i64 0] 23)] from At.ext hb3 A2.out)
      have E3 := Lib.hid ((E2.out).trans hb3)
      clear hb3
      obtain ⟨c3_0_0, c3_0_1, f3_0_0, f3_0_1⟩ := run_pair (At.at A3.out 0 rfl)
      have s3_0 : bq2 < w3.heap.size := At.lt A3.out 0 rfl
      obtain ⟨c3_1_0, c3_1_1, f3_1_0, f3_1_1⟩ := run_pair (At.at A3.out 1 rfl)
      have s3_1 : bx1 < w3.heap.size := At.lt A3.out 1 rfl
      obtain ⟨c3_2_0, c3_2_1, f3_2_0, f3_2_1⟩ := run_pair (At.at A3.out 2 rfl)
      have s3_2 : by1 < w3.heap.size := At.lt A3.out 2 rfl
      obtain ⟨c3_3_0, c3_3_1, f3_3_0, f3_3_1⟩ := run_pair (At.at A3.out 3 rfl)
      have s3_3 : w.heap.size < w3.heap.size := At.lt A3.out 3 rfl
      obtain ⟨c3_4_0, c3_4_1, f3_4_0, f3_4_1⟩ := run_pair (At.at A3.out 4 rfl)
      have s3_4 : w.heap.size + 1 < w3.heap.size := At.lt A3.out 4 rfl
      obtain ⟨c3_5_0, c3_5_1, f3_5_0, f3_5_1⟩ := run_pair (At.at A3.out 5 rfl)
      have s3_5 : w.heap.size + 1 + 1 < w3.heap.size := At.lt A3.out 5 rfl
      (try clear c2_0_0 c2_0_1 f2_0_0 f2_0_1 c2_1_0 c2_1_1 f2_1_0 f2_1_1 c2_2_0 c2_2_1 f2_2_0 f2_2_1 c2_3_0 c2_3_1 f2_3_0 f2_3_1 c2_4_0 c2_4_1 f2_4_0 f2_4_1 c2_5_0 c2_5_1 f2_5_0 f2_5_1 s2_0 s2_1 s2_2 s2_3 s2_4 s2_5)
      go_wp2
      refine RT.region_store (aq := ?aq4) (n := 14) (sp := 4) (vx := 50) (b0 := w.heap.size + 1 + 1) (oz := Obj.cells #[.int .i64 0, .int .i64 0] 23) (ox := Obj.cells #[.int .i64 rn, .int .i64 rd] 23) (qs1 := [_, _, _, _, _, _, _, _, _, _, _, _, _, _]) (qs2 := [_]) (wb := w) (fun v => At v [(bq2, Obj.cells #[.int .u64 Eh, .int .u64 El] 62), (bx1, Obj.cells #[.int .u64 Xh, .int .u64 Xl] 62), (by1, Obj.cells #[.int .u64 Yh, .int .u64 Yl] 62), (w.heap.size, Obj.cells #[.int .i64 a1, .int .i64 a2] 23), (w.heap.size + 1, Obj.cells #[.int .i64 b1, .int .i64 b2] 23)]) (by kernel_rfl) rfl (by kernel_rfl) (by kernel_rfl) rfl rfl (by kernel_rfl) (by kernel_rfl) rfl ?_ ?_ ?_ ?_ ?_ ?_ ?_ ?_ ?_
      rotate_left
      · exact At.at A3.out 5 rfl
      · exact E3.out
      · omega
      · exact At.drew (At.erase A3.out 5)
      · exact fun _ _ h hE => h.ext hE
      · exact fun _ _ h k => h.other k (by simp; omega)
      · intro wq hF
        obtain ⟨q_0_0, q_0_1, r_0_0, r_0_1⟩ := run_pair (At.at hF 0 rfl)
        have sq_0 : bq2 < wq.heap.size := At.lt hF 0 rfl
        obtain ⟨q_1_0, q_1_1, r_1_0, r_1_1⟩ := run_pair (At.at hF 1 rfl)
        have sq_1 : bx1 < wq.heap.size := At.lt hF 1 rfl
        obtain ⟨q_2_0, q_2_1, r_2_0, r_2_1⟩ := run_pair (At.at hF 2 rfl)
        have sq_2 : by1 < wq.heap.size := At.lt hF 2 rfl
        obtain ⟨q_3_0, q_3_1, r_3_0, r_3_1⟩ := run_pair (At.at hF 3 rfl)
        have sq_3 : w.heap.size < wq.heap.size := At.lt hF 3 rfl
        obtain ⟨q_4_0, q_4_1, r_4_0, r_4_1⟩ := run_pair (At.at hF 4 rfl)
        have sq_4 : w.heap.size + 1 < wq.heap.size := At.lt hF 4 rfl
        clear hF
        simp only [List.cons_append, List.nil_append]
        repeat (go_big_quiet_step ((first | (go_at_call 40; with_reducible exact Calls.ext_of (K1.out _)) | (go_at_call 40; with_reducible exact Calls.ext_of (K2.out _)) | (go_at_call 75; with_reducible exact Calls.ext_of (KP.out _)) | (go_at_call 39; with_reducible exact Calls.ext_of (KL.out _)))))
        refine wpQuiet_nil ?_
        exact rfl
      · intro e w h1 h2 h3
        obtain ⟨c0, c1, f0, f1⟩ := run_pair h3
        have h2' : e (.tmp 50) = .agg #[.int .i64 rn, .int .i64 rd] := h2
        apply Exists.intro
        apply And.intro
        · simp [execOp, go_sem, h1, h2', c0, c1, f0, f1, Try.underlying23]
          exact rfl
        · exact store_pair h3
      · intro w' _ hE hX
        go_wp2
        refine bodyPost_ret (RT.results_row2 rfl _ _ (w.heap.size + 1 + 1) 23 #[.int .i64 rn, .int .i64 rd] (0, 0) _ rfl hX Try.underlying23 rfl info_frac) rfl ?_
        exact ⟨rfl, hE⟩
set_option maxRecDepth 100000 in
set_option maxHeartbeats 8000000 in
theorem rPlus_less (a1 a2 b1 b2 s1 s2 rn rd : Int) (N1 N2 D1 D2 : Nat) (Xh Xl Yh Yl Eh El Mh Ml : Int) (t : Bool) (w : World)
    (l1 : -1 ≤ s1)
    (l2 : s1 ≤ 1)
    (l3 : -1 ≤ s2)
    (l4 : s2 ≤ 1)
    (l5 : -1 ≤ s1 * s2)
    (l6 : s1 * s2 ≤ 1)
    (hs : s1 * s2 < 0)
    (k1 : ∀ w, Calls Try.prog 40 #[.int .i64 a1] w fun E w' => E = .returned (.int .i64 s1) ∧ Ext w w')
    (k2 : ∀ w, Calls Try.prog 40 #[.int .i64 b1] w fun E w' => E = .returned (.int .i64 s2) ∧ Ext w w')
    (k3 : ∀ w, Calls Try.prog 41 #[.int .i64 a1] w fun E w' => E = .returned (.int .u64 (N1 : Int)) ∧ Ext w w')
    (k4 : ∀ w, Calls Try.prog 41 #[.int .i64 b1] w fun E w' => E = .returned (.int .u64 (N2 : Int)) ∧ Ext w w')
    (k5 : ∀ w, Calls Try.prog 41 #[.int .i64 a2] w fun E w' => E = .returned (.int .u64 (D1 : Int)) ∧ Ext w w')
    (k6 : ∀ w, Calls Try.prog 41 #[.int .i64 b2] w fun E w' => E = .returned (.int .u64 (D2 : Int)) ∧ Ext w w')
    (k7 : ∀ w, Calls Try.prog 70 #[.int .u64 (N1 : Int), .int .u64 (D2 : Int)] w fun E w' => E = .returned (.agg #[.int .u64 Xh, .int .u64 Xl]) ∧ Ext w w')
    (k8 : ∀ w, Calls Try.prog 70 #[.int .u64 (N2 : Int), .int .u64 (D1 : Int)] w fun E w' => E = .returned (.agg #[.int .u64 Yh, .int .u64 Yl]) ∧ Ext w w')
    (kd : ∀ w, Calls Try.prog 70 #[.int .u64 (D1 : Int), .int .u64 (D2 : Int)] w fun E w' => E = .returned (.agg #[.int .u64 Eh, .int .u64 El]) ∧ Ext w w')
    (k9 : ∀ w, Calls Try.prog 71 #[.agg #[.int .u64 Xh, .int .u64 Xl], .agg #[.int .u64 Yh, .int .u64 Yl]] w fun E w' => E = .returned (.bool true) ∧ Ext w w')
    (km : ∀ w, Calls Try.prog 76 #[.agg #[.int .u64 Yh, .int .u64 Yl], .agg #[.int .u64 Xh, .int .u64 Xl]] w fun E w' => E = .returned (.agg #[.int .u64 Mh, .int .u64 Ml]) ∧ Ext w w')
    (kl : ∀ w, Calls Try.prog 39 #[.int .i64 s2, .agg #[.int .u64 Mh, .int .u64 Ml], .agg #[.int .u64 Eh, .int .u64 El]] w fun E w' => E = .returned (.tuple #[fracV ⟨rn, rd⟩, .bool t]) ∧ Ext w w') :
    Calls Try.prog 48 #[fracV ⟨a1, a2⟩, fracV ⟨b1, b2⟩] w fun E w' => E = .returned (.tuple #[fracV ⟨rn, rd⟩, .bool t]) ∧ Ext w w' := by
  have K1 := Lib.hid k1
  have K2 := Lib.hid k2
  have K3 := Lib.hid k3
  have K4 := Lib.hid k4
  have K5 := Lib.hid k5
  have K6 := Lib.hid k6
  have K7 := Lib.hid k7
  have K8 := Lib.hid k8
  have KD := Lib.hid kd
  have K9 := Lib.hid k9
  have KM := Lib.hid km
  have KL := Lib.hid kl
  clear k1 k2 k3 k4 k5 k6 k7 k8 kd k9 km kl
  go_enter Try.func48, Try.ntmps48
  go_wp2
  refine RT.region_two (aq := ?aq1) (n := 14) (sx := 6) (sy := 7) (vx := 15) (vy := 22) (oz := Obj.cells #[.int .u64 0, .int .u64 0] 62) (ox := Obj.cells #[.int .u64 Xh, .int .u64 Xl] 62) (oy := Obj.cells #[.int .u64 Yh, .int .u64 Yl] 62) (qs := [_, _, _, _, _, _, _, _, _, _, _, _, _, _]) (by kernel_rfl) rfl (by kernel_rfl) (by kernel_rfl) rfl rfl (of_decide_eq_true (by kernel_rfl)) (of_decide_eq_true (by kernel_rfl)) rfl rfl rfl rfl (by kernel_rfl) (by kernel_rfl) (by kernel_rfl) (by kernel_rfl) ?_ ?_ ?_ ?_ ?_ ?_
  rotate_left
  · intro e w
    simp [execOp, go_sem, Try.underlying62]
  · intro e w
    simp [execOp, go_sem, Try.underlying62]
  · intro wq hEq
    have AQ := Lib.hid (show At wq [(w.heap.size, Obj.cells #[.int .i64 a1, .int .i64 a2] 23), (w.heap.size + 1, Obj.cells #[.int .i64 b1, .int .i64 b2] 23), (w.heap.size + 1 + 1, Obj.cells #[.int .i64 0, .int .i64 0] 23)] from At.ext hEq (show At _ [(w.heap.size, Obj.cells #[.int .i64 a1, .int .i64 a2] 23), (w.heap.size + 1, Obj.cells #[.int .i64 b1, .int .i64 b2] 23), (w.heap.size + 1 + 1, Obj.cells #[.int .i64 0, .int .i64 0] 23)] from ⟨(by repeat (first | (refine blk_at _ _ ?_; (first | rfl | (simp only [size_one]; done))) | refine (blk_past _ _ (by simp only [size_one]; omega)).trans ?_)), (by repeat (first | (refine blk_at _ _ ?_; (first | rfl | (simp only [size_one]; done))) | refine (blk_past _ _ (by simp only [size_one]; omega)).trans ?_)), (by repeat (first | (refine blk_at _ _ ?_; (first | rfl | (simp only [size_one]; done))) | refine (blk_past _ _ (by simp only [size_one]; omega)).trans ?_)), trivial⟩))
    obtain ⟨q_0_0, q_0_1, r_0_0, r_0_1⟩ := run_pair (At.at AQ.out 0 rfl)
    have sq_0 : w.heap.size < wq.heap.size := At.lt AQ.out 0 rfl
    obtain ⟨q_1_0, q_1_1, r_1_0, r_1_1⟩ := run_pair (At.at AQ.out 1 rfl)
    have sq_1 : w.heap.size + 1 < wq.heap.size := At.lt AQ.out 1 rfl
    obtain ⟨q_2_0, q_2_1, r_2_0, r_2_1⟩ := run_pair (At.at AQ.out 2 rfl)
    have sq_2 : w.heap.size + 1 + 1 < wq.heap.size := At.lt AQ.out 2 rfl
    clear hEq
    simp only [List.cons_append, List.nil_append]
    repeat (go_big_quiet_step ((first | (go_at_call 41; with_reducible exact Calls.ext_of (K3.out _)) | (go_at_call 41; with_reducible exact Calls.ext_of (K4.out _)) | (go_at_call 41; with_reducible exact Calls.ext_of (K5.out _)) | (go_at_call 41; with_reducible exact Calls.ext_of (K6.out _)) | (go_at_call 70; with_reducible exact Calls.ext_of (K7.out _)) | (go_at_call 70; with_reducible exact Calls.ext_of (K8.out _)))))
    refine wpQuiet_nil ?_
    exact rfl
  · intro e w b h1 h2 h3
    obtain ⟨c0, c1, f0, f1⟩ := run_pair h3
    have h2' : e (.tmp 15) = .agg #[.int .u64 Xh, .int .u64 Xl] := h2
    apply Exists.intro
    apply And.intro
    · simp [execOp, go_sem, h1, h2', c0, c1, f0, f1, Try.underlying62]
      exact rfl
    · exact store_pair h3
  · intro e w b h1 h2 h3
    obtain ⟨c0, c1, f0, f1⟩ := run_pair h3
    have h2' : e (.tmp 22) = .agg #[.int .u64 Yh, .int .u64 Yl] := h2
    apply Exists.intro
    apply And.intro
    · simp [execOp, go_sem, h1, h2', c0, c1, f0, f1, Try.underlying62]
      exact rfl
    · exact store_pair h3
  · intro bx1 by1 w1 hE1 hbx1 hby1 hne1 hX1 hY1
    have A1 := Lib.hid (show At w1 [(bx1, Obj.cells #[.int .u64 Xh, .int .u64 Xl] 62), (by1, Obj.cells #[.int .u64 Yh, .int .u64 Yl] 62), (w.heap.size, Obj.cells #[.int .i64 a1, .int .i64 a2] 23), (w.heap.size + 1, Obj.cells #[.int .i64 b1, .int .i64 b2] 23), (w.heap.size + 1 + 1, Obj.cells #[.int .i64 0, .int .i64 0] 23)] from ⟨hX1, hY1, At.ext hE1 (show At _ [(w.heap.size, Obj.cells #[.int .i64 a1, .int .i64 a2] 23), (w.heap.size + 1, Obj.cells #[.int .i64 b1, .int .i64 b2] 23), (w.heap.size + 1 + 1, Obj.cells #[.int .i64 0, .int .i64 0] 23)] from ⟨(by repeat (first | (refine blk_at _ _ ?_; (first | rfl | (simp only [size_one]; done))) | refine (blk_past _ _ (by simp only [size_one]; omega)).trans ?_)), (by repeat (first | (refine blk_at _ _ ?_; (first | rfl | (simp only [size_one]; done))) | refine (blk_past _ _ (by simp only [size_one]; omega)).trans ?_)), (by repeat (first | (refine blk_at _ _ ?_; (first | rfl | (simp only [size_one]; done))) | refine (blk_past _ _ (by simp only [size_one]; omega)).trans ?_)), trivial⟩)⟩)
    have E1 := Lib.hid (((show Ext w _ from (by repeat (first | exact Ext.refl _ | assumption | refine Ext.alloc ?_ _ | refine Ext.drewN ?_ _ | refine ext_grow ?_ _ _ | refine Ext.setCell ?_ (by first | exact Nat.le_refl _ | omega | (simp; done) | (simp; omega)) _ | refine Ext.trans ?_ (by assumption))))).trans hE1)
    obtain ⟨c1_0_0, c1_0_1, f1_0_0, f1_0_1⟩ := run_pair (At.at A1.out 0 rfl)
    have s1_0 : bx1 < w1.heap.size := At.lt A1.out 0 rfl
    obtain ⟨c1_1_0, c1_1_1, f1_1_0, f1_1_1⟩ := run_pair (At.at A1.out 1 rfl)
    have s1_1 : by1 < w1.heap.size := At.lt A1.out 1 rfl
    obtain ⟨c1_2_0, c1_2_1, f1_2_0, f1_2_1⟩ := run_pair (At.at A1.out 2 rfl)
    have s1_2 : w.heap.size < w1.heap.size := At.lt A1.out 2 rfl
    obtain ⟨c1_3_0, c1_3_1, f1_3_0, f1_3_1⟩ := run_pair (At.at A1.out 3 rfl)
    have s1_3 : w.heap.size + 1 < w1.heap.size := At.lt A1.out 3 rfl
    obtain ⟨c1_4_0, c1_4_1, f1_4_0, f1_4_1⟩ := run_pair (At.at A1.out 4 rfl)
    have s1_4 : w.heap.size + 1 + 1 < w1.heap.size := At.lt A1.out 4 rfl
    have y1bx_0 : w.heap.size < bx1 := Nat.lt_of_lt_of_le (At.lt (show At _ [(w.heap.size, Obj.cells #[.int .i64 a1, .int .i64 a2] 23), (w.heap.size + 1, Obj.cells #[.int .i64 b1, .int .i64 b2] 23), (w.heap.size + 1 + 1, Obj.cells #[.int .i64 0, .int .i64 0] 23)] from ⟨(by repeat (first | (refine blk_at _ _ ?_; (first | rfl | (simp only [size_one]; done))) | refine (blk_past _ _ (by simp only [size_one]; omega)).trans ?_)), (by repeat (first | (refine blk_at _ _ ?_; (first | rfl | (simp only [size_one]; done))) | refine (blk_past _ _ (by simp only [size_one]; omega)).trans ?_)), (by repeat (first | (refine blk_at _ _ ?_; (first | rfl | (simp only [size_one]; done))) | refine (blk_past _ _ (by simp only [size_one]; omega)).trans ?_)), trivial⟩) 0 rfl) hbx1
    have y1bx_1 : w.heap.size + 1 < bx1 := Nat.lt_of_lt_of_le (At.lt (show At _ [(w.heap.size, Obj.cells #[.int .i64 a1, .int .i64 a2] 23), (w.heap.size + 1, Obj.cells #[.int .i64 b1, .int .i64 b2] 23), (w.heap.size + 1 + 1, Obj.cells #[.int .i64 0, .int .i64 0] 23)] from ⟨(by repeat (first | (refine blk_at _ _ ?_; (first | rfl | (simp only [size_one]; done))) | refine (blk_past _ _ (by simp only [size_one]; omega)).trans ?_)), (by repeat (first | (refine blk_at _ _ ?_; (first | rfl | (simp only [size_one]; done))) | refine (blk_past _ _ (by simp only [size_one]; omega)).trans ?_)), (by repeat (first | (refine blk_at _ _ ?_; (first | rfl | (simp only [size_one]; done))) | refine (blk_past _ _ (by simp only [size_one]; omega)).trans ?_)), trivial⟩) 1 rfl) hbx1
    have y1bx_2 : w.heap.size + 1 + 1 < bx1 := Nat.lt_of_lt_of_le (At.lt (show At _ [(w.heap.size, Obj.cells #[.int .i64 a1, .int .i64 a2] 23), (w.heap.size + 1, Obj.cells #[.int .i64 b1, .int .i64 b2] 23), (w.heap.size + 1 + 1, Obj.cells #[.int .i64 0, .int .i64 0] 23)] from ⟨(by repeat (first | (refine blk_at _ _ ?_; (first | rfl | (simp only [size_one]; done))) | refine (blk_past _ _ (by simp only [size_one]; omega)).trans ?_)), (by repeat (first | (refine blk_at _ _ ?_; (first | rfl | (simp only [size_one]; done))) | refine (blk_past _ _ (by simp only [size_one]; omega)).trans ?_)), (by repeat (first | (refine blk_at _ _ ?_; (first | rfl | (simp only [size_one]; done))) | refine (blk_past _ _ (by simp only [size_one]; omega)).trans ?_)), trivial⟩) 2 rfl) hbx1
    have y1bx_w : w.heap.size ≤ bx1 := by omega
    have y1by_0 : w.heap.size < by1 := Nat.lt_of_lt_of_le (At.lt (show At _ [(w.heap.size, Obj.cells #[.int .i64 a1, .int .i64 a2] 23), (w.heap.size + 1, Obj.cells #[.int .i64 b1, .int .i64 b2] 23), (w.heap.size + 1 + 1, Obj.cells #[.int .i64 0, .int .i64 0] 23)] from ⟨(by repeat (first | (refine blk_at _ _ ?_; (first | rfl | (simp only [size_one]; done))) | refine (blk_past _ _ (by simp only [size_one]; omega)).trans ?_)), (by repeat (first | (refine blk_at _ _ ?_; (first | rfl | (simp only [size_one]; done))) | refine (blk_past _ _ (by simp only [size_one]; omega)).trans ?_)), (by repeat (first | (refine blk_at _ _ ?_; (first | rfl | (simp only [size_one]; done))) | refine (blk_past _ _ (by simp only [size_one]; omega)).trans ?_)), trivial⟩) 0 rfl) hby1
    have y1by_1 : w.heap.size + 1 < by1 := Nat.lt_of_lt_of_le (At.lt (show At _ [(w.heap.size, Obj.cells #[.int .i64 a1, .int .i64 a2] 23), (w.heap.size + 1, Obj.cells #[.int .i64 b1, .int .i64 b2] 23), (w.heap.size + 1 + 1, Obj.cells #[.int .i64 0, .int .i64 0] 23)] from ⟨(by repeat (first | (refine blk_at _ _ ?_; (first | rfl | (simp only [size_one]; done))) | refine (blk_past _ _ (by simp only [size_one]; omega)).trans ?_)), (by repeat (first | (refine blk_at _ _ ?_; (first | rfl | (simp only [size_one]; done))) | refine (blk_past _ _ (by simp only [size_one]; omega)).trans ?_)), (by repeat (first | (refine blk_at _ _ ?_; (first | rfl | (simp only [size_one]; done))) | refine (blk_past _ _ (by simp only [size_one]; omega)).trans ?_)), trivial⟩) 1 rfl) hby1
    have y1by_2 : w.heap.size + 1 + 1 < by1 := Nat.lt_of_lt_of_le (At.lt (show At _ [(w.heap.size, Obj.cells #[.int .i64 a1, .int .i64 a2] 23), (w.heap.size + 1, Obj.cells #[.int .i64 b1, .int .i64 b2] 23), (w.heap.size + 1 + 1, Obj.cells #[.int .i64 0, .int .i64 0] 23)] from ⟨(by repeat (first | (refine blk_at _ _ ?_; (first | rfl | (simp only [size_one]; done))) | refine (blk_past _ _ (by simp only [size_one]; omega)).trans ?_)), (by repeat (first | (refine blk_at _ _ ?_; (first | rfl | (simp only [size_one]; done))) | refine (blk_past _ _ (by simp only [size_one]; omega)).trans ?_)), (by repeat (first | (refine blk_at _ _ ?_; (first | rfl | (simp only [size_one]; done))) | refine (blk_past _ _ (by simp only [size_one]; omega)).trans ?_)), trivial⟩) 2 rfl) hby1
    have y1by_w : w.heap.size ≤ by1 := by omega
    clear hbx1 hby1 hE1 hX1 hY1
    go_wp2
    simp only [Act.put, List.setIfInBounds_toArray, List.set_cons_succ, List.set_cons_zero]
    refine RT.region_one (aq := ?aq2) (n := 7) (sx := 8) (vx := 29) (oz := Obj.cells #[.int .u64 0, .int .u64 0] 62) (ox := Obj.cells #[.int .u64 Eh, .int .u64 El] 62) (qs1 := [_, _, _, _, _, _, _]) (qs2 := []) (by kernel_rfl) rfl (by kernel_rfl) (by kernel_rfl) rfl (of_decide_eq_true (by kernel_rfl)) rfl rfl (by kernel_rfl) (by kernel_rfl) (by kernel_rfl) ?_ ?_ ?_ ?_
    rotate_left
    · intro e w
      simp [execOp, go_sem, Try.underlying62]
    · intro wq hEq
      have AQ := Lib.hid (show At wq [(bx1, Obj.cells #[.int .u64 Xh, .int .u64 Xl] 62), (by1, Obj.cells #[.int .u64 Yh, .int .u64 Yl] 62), (w.heap.size, Obj.cells #[.int .i64 a1, .int .i64 a2] 23), (w.heap.size + 1, Obj.cells #[.int .i64 b1, .int .i64 b2] 23), (w.heap.size + 1 + 1, Obj.cells #[.int .i64 0, .int .i64 0] 23)] from At.ext hEq A1.out)
      obtain ⟨q_0_0, q_0_1, r_0_0, r_0_1⟩ := run_pair (At.at AQ.out 0 rfl)
      have sq_0 : bx1 < wq.heap.size := At.lt AQ.out 0 rfl
      obtain ⟨q_1_0, q_1_1, r_1_0, r_1_1⟩ := run_pair (At.at AQ.out 1 rfl)
      have sq_1 : by1 < wq.heap.size := At.lt AQ.out 1 rfl
      obtain ⟨q_2_0, q_2_1, r_2_0, r_2_1⟩ := run_pair (At.at AQ.out 2 rfl)
      have sq_2 : w.heap.size < wq.heap.size := At.lt AQ.out 2 rfl
      obtain ⟨q_3_0, q_3_1, r_3_0, r_3_1⟩ := run_pair (At.at AQ.out 3 rfl)
      have sq_3 : w.heap.size + 1 < wq.heap.size := At.lt AQ.out 3 rfl
      obtain ⟨q_4_0, q_4_1, r_4_0, r_4_1⟩ := run_pair (At.at AQ.out 4 rfl)
      have sq_4 : w.heap.size + 1 + 1 < wq.heap.size := At.lt AQ.out 4 rfl
      clear hEq
      simp only [List.cons_append, List.nil_append]
      repeat (go_big_quiet_step ((first | (go_at_call 41; with_reducible exact Calls.ext_of (K5.out _)) | (go_at_call 41; with_reducible exact Calls.ext_of (K6.out _)) | (go_at_call 70; with_reducible exact Calls.ext_of (KD.out _)))))
      refine wpQuiet_nil ?_
      exact rfl
    · intro e w b h1 h2 h3
      obtain ⟨c0, c1, f0, f1⟩ := run_pair h3
      have h2' : e (.tmp 29) = .agg #[.int .u64 Eh, .int .u64 El] := h2
      apply Exists.intro
      apply And.intro
      · simp [execOp, go_sem, h1, h2', c0, c1, f0, f1, Try.underlying62]
        exact rfl
      · exact store_pair h3
    · intro bq2 w2 hE2 hbq2 hX2
      have A2 := Lib.hid (show At w2 [(bq2, Obj.cells #[.int .u64 Eh, .int .u64 El] 62), (bx1, Obj.cells #[.int .u64 Xh, .int .u64 Xl] 62), (by1, Obj.cells #[.int .u64 Yh, .int .u64 Yl] 62), (w.heap.size, Obj.cells #[.int .i64 a1, .int .i64 a2] 23), (w.heap.size + 1, Obj.cells #[.int .i64 b1, .int .i64 b2] 23), (w.heap.size + 1 + 1, Obj.cells #[.int .i64 0, .int .i64 0] 23)] from ⟨hX2, At.ext hE2 A1.out⟩)
      have E2 := Lib.hid ((E1.out).trans hE2)
      obtain ⟨c2_0_0, c2_0_1, f2_0_0, f2_0_1⟩ := run_pair (At.at A2.out 0 rfl)
      have s2_0 : bq2 < w2.heap.size := At.lt A2.out 0 rfl
      obtain ⟨c2_1_0, c2_1_1, f2_1_0, f2_1_1⟩ := run_pair (At.at A2.out 1 rfl)
      have s2_1 : bx1 < w2.heap.size := At.lt A2.out 1 rfl
      obtain ⟨c2_2_0, c2_2_1, f2_2_0, f2_2_1⟩ := run_pair (At.at A2.out 2 rfl)
      have s2_2 : by1 < w2.heap.size := At.lt A2.out 2 rfl
      obtain ⟨c2_3_0, c2_3_1, f2_3_0, f2_3_1⟩ := run_pair (At.at A2.out 3 rfl)
      have s2_3 : w.heap.size < w2.heap.size := At.lt A2.out 3 rfl
      obtain ⟨c2_4_0, c2_4_1, f2_4_0, f2_4_1⟩ := run_pair (At.at A2.out 4 rfl)
      have s2_4 : w.heap.size + 1 < w2.heap.size := At.lt A2.out 4 rfl
      obtain ⟨c2_5_0, c2_5_1, f2_5_0, f2_5_1⟩ := run_pair (At.at A2.out 5 rfl)
      have s2_5 : w.heap.size + 1 + 1 < w2.heap.size := At.lt A2.out 5 rfl
      have y2_0 : bx1 < bq2 := Nat.lt_of_lt_of_le (At.lt A1.out 0 rfl) hbq2
      have y2_1 : by1 < bq2 := Nat.lt_of_lt_of_le (At.lt A1.out 1 rfl) hbq2
      have y2_2 : w.heap.size < bq2 := Nat.lt_of_lt_of_le (At.lt A1.out 2 rfl) hbq2
      have y2_3 : w.heap.size + 1 < bq2 := Nat.lt_of_lt_of_le (At.lt A1.out 3 rfl) hbq2
      have y2_4 : w.heap.size + 1 + 1 < bq2 := Nat.lt_of_lt_of_le (At.lt A1.out 4 rfl) hbq2
      have y2_w : w.heap.size ≤ bq2 := by omega
      clear hbq2 hE2 hX2
      go_wp2
      simp only [Act.put, List.setIfInBounds_toArray, List.set_cons_succ, List.set_cons_zero]
      refine wp_region_quiet_below (by kernel_rfl) (by kernel_rfl) ?_
      repeat (go_big_quiet_step ((first | (go_at_call 40; with_reducible exact Calls.ext_of (K1.out _)) | (go_at_call 40; with_reducible exact Calls.ext_of (K2.out _)))))
      refine wpQuiet_nil ?_
      intro w3 hw'
      obtain ⟨pq, hw''⟩ := hw'
      have hb3 := ext_of_regrown hw''
      clear hw'' pq
      have A3 := Lib.hid (show At w3 [(bq2, Obj.cells #[.int .u64 Eh, .int .u64 El] 62), (bx1, Obj.cells #[.int .u64 Xh, .int .u64 Xl] 62), (by1, Obj.cells #[.int .u64 Yh, .int .u64 Yl] 62), (w.heap.size, Obj.cells #[.int .i64 a1, .int .i64 a2] 23), (w.heap.size + 1, Obj.cells #[.int .i64 b1, .int .i64 b2] 23), (w.heap.size + 1 + 1, Obj.cells #[.int .i64 0, .int .i64 0] 23)] from At.ext hb3 A2.out)
      have E3 := Lib.hid ((E2.out).trans hb3)
      clear hb3
      obtain ⟨c3_0_0, c3_0_1, f3_0_0, f3_0_1⟩ := run_pair (At.at A3.out 0 rfl)
      have s3_0 : bq2 < w3.heap.size := At.lt A3.out 0 rfl
      obtain ⟨c3_1_0, c3_1_1, f3_1_0, f3_1_1⟩ := run_pair (At.at A3.out 1 rfl)
      have s3_1 : bx1 < w3.heap.size := At.lt A3.out 1 rfl
      obtain ⟨c3_2_0, c3_2_1, f3_2_0, f3_2_1⟩ := run_pair (At.at A3.out 2 rfl)
      have s3_2 : by1 < w3.heap.size := At.lt A3.out 2 rfl
      obtain ⟨c3_3_0, c3_3_1, f3_3_0, f3_3_1⟩ := run_pair (At.at A3.out 3 rfl)
      have s3_3 : w.heap.size < w3.heap.size := At.lt A3.out 3 rfl
      obtain ⟨c3_4_0, c3_4_1, f3_4_0, f3_4_1⟩ := run_pair (At.at A3.out 4 rfl)
      have s3_4 : w.heap.size + 1 < w3.heap.size := At.lt A3.out 4 rfl
      obtain ⟨c3_5_0, c3_5_1, f3_5_0, f3_5_1⟩ := run_pair (At.at A3.out 5 rfl)
      have s3_5 : w.heap.size + 1 + 1 < w3.heap.size := At.lt A3.out 5 rfl
      (try clear c2_0_0 c2_0_1 f2_0_0 f2_0_1 c2_1_0 c2_1_1 f2_1_0 f2_1_1 c2_2_0 c2_2_1 f2_2_0 f2_2_1 c2_3_0 c2_3_1 f2_3_0 f2_3_1 c2_4_0 c2_4_1 f2_4_0 f2_4_1 c2_5_0 c2_5_1 f2_5_0 f2_5_1 s2_0 s2_1 s2_2 s2_3 s2_4 s2_5)
      go_wp2_with (first | (go_at_call 71; (with_reducible refine (K9.out _).mono ?_); rintro E w4 ⟨rfl, hb4⟩; have A4 := Lib.hid (show At w4 [(bq2, Obj.cells #[.int .u64 Eh, .int .u64 El] 62), (bx1, Obj.cells #[.int .u64 Xh, .int .u64 Xl] 62), (by1, Obj.cells #[.int .u64 Yh, .int .u64 Yl] 62), (w.heap.size, Obj.cells #[.int .i64 a1, .int .i64 a2] 23), (w.heap.size + 1, Obj.cells #[.int .i64 b1, .int .i64 b2] 23), (w.heap.size + 1 + 1, Obj.cells #[.int .i64 0, .int .i64 0] 23)] from At.ext hb4 A3.out); have E4 := Lib.hid ((E3.out).trans hb4); obtain ⟨c4_0_0, c4_0_1, f4_0_0, f4_0_1⟩ := run_pair (At.at A4.out 0 rfl); have s4_0 : bq2 < w4.heap.size := At.lt A4.out 0 rfl; obtain ⟨c4_1_0, c4_1_1, f4_1_0, f4_1_1⟩ := run_pair (At.at A4.out 1 rfl); have s4_1 : bx1 < w4.heap.size := At.lt A4.out 1 rfl; obtain ⟨c4_2_0, c4_2_1, f4_2_0, f4_2_1⟩ := run_pair (At.at A4.out 2 rfl); have s4_2 : by1 < w4.heap.size := At.lt A4.out 2 rfl; obtain ⟨c4_3_0, c4_3_1, f4_3_0, f4_3_1⟩ := run_pair (At.at A4.out 3 rfl); have s4_3 : w.heap.size < w4.heap.size := At.lt A4.out 3 rfl; obtain ⟨c4_4_0, c4_4_1, f4_4_0, f4_4_1⟩ := run_pair (At.at A4.out 4 rfl); have s4_4 : w.heap.size + 1 < w4.heap.size := At.lt A4.out 4 rfl; obtain ⟨c4_5_0, c4_5_1, f4_5_0, f4_5_1⟩ := run_pair (At.at A4.out 5 rfl); have s4_5 : w.heap.size + 1 + 1 < w4.heap.size := At.lt A4.out 5 rfl; (try clear c3_0_0 c3_0_1 f3_0_0 f3_0_1 c3_1_0 c3_1_1 f3_1_0 f3_1_1 c3_2_0 c3_2_1 f3_2_0 f3_2_1 c3_3_0 c3_3_1 f3_3_0 f3_3_1 c3_4_0 c3_4_1 f3_4_0 f3_4_1 c3_5_0 c3_5_1 f3_5_0 f3_5_1 s3_0 s3_1 s3_2 s3_3 s3_4 s3_5)))
      refine RT.region_store (aq := ?aq5) (n := 10) (sp := 4) (vx := 63) (b0 := w.heap.size + 1 + 1) (oz := Obj.cells #[.int .i64 0, .int .i64 0] 23) (ox := Obj.cells #[.int .i64 rn, .int .i64 rd] 23) (qs1 := [_, _, _, _, _, _, _, _, _, _]) (qs2 := [_]) (wb := w) (fun v => At v [(bq2, Obj.cells #[.int .u64 Eh, .int .u64 El] 62), (bx1, Obj.cells #[.int .u64 Xh, .int .u64 Xl] 62), (by1, Obj.cells #[.int .u64 Yh, .int .u64 Yl] 62), (w.heap.size, Obj.cells #[.int .i64 a1, .int .i64 a2] 23), (w.heap.size + 1, Obj.cells #[.int .i64 b1, .int .i64 b2] 23)]) (by kernel_rfl) rfl (by kernel_rfl) (by kernel_rfl) rfl rfl (by kernel_rfl) (by kernel_rfl) rfl ?_ ?_ ?_ ?_ ?_ ?_ ?_ ?_ ?_
      rotate_left
      · exact At.at A4.out 5 rfl
      · exact E4.out
      · omega
      · exact At.drew (At.erase A4.out 5)
      · exact fun _ _ h hE => h.ext hE
      · exact fun _ _ h k => h.other k (by simp; omega)
      · intro wq hF
        obtain ⟨q_0_0, q_0_1, r_0_0, r_0_1⟩ := run_pair (At.at hF 0 rfl)
        have sq_0 : bq2 < wq.heap.size := At.lt hF 0 rfl
        obtain ⟨q_1_0, q_1_1, r_1_0, r_1_1⟩ := run_pair (At.at hF 1 rfl)
        have sq_1 : bx1 < wq.heap.size := At.lt hF 1 rfl
        obtain ⟨q_2_0, q_2_1, r_2_0, r_2_1⟩ := run_pair (At.at hF 2 rfl)
        have sq_2 : by1 < wq.heap.size := At.lt hF 2 rfl
        obtain ⟨q_3_0, q_3_1, r_3_0, r_3_1⟩ := run_pair (At.at hF 3 rfl)
        have sq_3 : w.heap.size < wq.heap.size := At.lt hF 3 rfl
        obtain ⟨q_4_0, q_4_1, r_4_0, r_4_1⟩ := run_pair (At.at hF 4 rfl)
        have sq_4 : w.heap.size + 1 < wq.heap.size := At.lt hF 4 rfl
        clear hF
        simp only [List.cons_append, List.nil_append]
        repeat (go_big_quiet_step ((first | (go_at_call 40; with_reducible exact Calls.ext_of (K2.out _)) | (go_at_call 76; with_reducible exact Calls.ext_of (KM.out _)) | (go_at_call 39; with_reducible exact Calls.ext_of (KL.out _)))))
        refine wpQuiet_nil ?_
        exact rfl
      · intro e w h1 h2 h3
        obtain ⟨c0, c1, f0, f1⟩ := run_pair h3
        have h2' : e (.tmp 63) = .agg #[.int .i64 rn, .int .i64 rd] := h2
        apply Exists.intro
        apply And.intro
        · simp [execOp, go_sem, h1, h2', c0, c1, f0, f1, Try.underlying23]
          exact rfl
        · exact store_pair h3
      · intro w' _ hE hX
        go_wp2
        refine bodyPost_ret (RT.results_row2 rfl _ _ (w.heap.size + 1 + 1) 23 #[.int .i64 rn, .int .i64 rd] (0, 0) _ rfl hX Try.underlying23 rfl info_frac) rfl ?_
        exact ⟨rfl, hE⟩
set_option maxRecDepth 100000 in
set_option maxHeartbeats 8000000 in
theorem rPlus_more (a1 a2 b1 b2 s1 s2 rn rd : Int) (N1 N2 D1 D2 : Nat) (Xh Xl Yh Yl Eh El Mh Ml : Int) (t : Bool) (w : World)
    (l1 : -1 ≤ s1)
    (l2 : s1 ≤ 1)
    (l3 : -1 ≤ s2)
    (l4 : s2 ≤ 1)
    (l5 : -1 ≤ s1 * s2)
    (l6 : s1 * s2 ≤ 1)
    (hs : s1 * s2 < 0)
    (k1 : ∀ w, Calls Try.prog 40 #[.int .i64 a1] w fun E w' => E = .returned (.int .i64 s1) ∧ Ext w w')
    (k2 : ∀ w, Calls Try.prog 40 #[.int .i64 b1] w fun E w' => E = .returned (.int .i64 s2) ∧ Ext w w')
    (k3 : ∀ w, Calls Try.prog 41 #[.int .i64 a1] w fun E w' => E = .returned (.int .u64 (N1 : Int)) ∧ Ext w w')
    (k4 : ∀ w, Calls Try.prog 41 #[.int .i64 b1] w fun E w' => E = .returned (.int .u64 (N2 : Int)) ∧ Ext w w')
    (k5 : ∀ w, Calls Try.prog 41 #[.int .i64 a2] w fun E w' => E = .returned (.int .u64 (D1 : Int)) ∧ Ext w w')
    (k6 : ∀ w, Calls Try.prog 41 #[.int .i64 b2] w fun E w' => E = .returned (.int .u64 (D2 : Int)) ∧ Ext w w')
    (k7 : ∀ w, Calls Try.prog 70 #[.int .u64 (N1 : Int), .int .u64 (D2 : Int)] w fun E w' => E = .returned (.agg #[.int .u64 Xh, .int .u64 Xl]) ∧ Ext w w')
    (k8 : ∀ w, Calls Try.prog 70 #[.int .u64 (N2 : Int), .int .u64 (D1 : Int)] w fun E w' => E = .returned (.agg #[.int .u64 Yh, .int .u64 Yl]) ∧ Ext w w')
    (kd : ∀ w, Calls Try.prog 70 #[.int .u64 (D1 : Int), .int .u64 (D2 : Int)] w fun E w' => E = .returned (.agg #[.int .u64 Eh, .int .u64 El]) ∧ Ext w w')
    (k9 : ∀ w, Calls Try.prog 71 #[.agg #[.int .u64 Xh, .int .u64 Xl], .agg #[.int .u64 Yh, .int .u64 Yl]] w fun E w' => E = .returned (.bool false) ∧ Ext w w')
    (km : ∀ w, Calls Try.prog 76 #[.agg #[.int .u64 Xh, .int .u64 Xl], .agg #[.int .u64 Yh, .int .u64 Yl]] w fun E w' => E = .returned (.agg #[.int .u64 Mh, .int .u64 Ml]) ∧ Ext w w')
    (kl : ∀ w, Calls Try.prog 39 #[.int .i64 s1, .agg #[.int .u64 Mh, .int .u64 Ml], .agg #[.int .u64 Eh, .int .u64 El]] w fun E w' => E = .returned (.tuple #[fracV ⟨rn, rd⟩, .bool t]) ∧ Ext w w') :
    Calls Try.prog 48 #[fracV ⟨a1, a2⟩, fracV ⟨b1, b2⟩] w fun E w' => E = .returned (.tuple #[fracV ⟨rn, rd⟩, .bool t]) ∧ Ext w w' := by
  have K1 := Lib.hid k1
  have K2 := Lib.hid k2
  have K3 := Lib.hid k3
  have K4 := Lib.hid k4
  have K5 := Lib.hid k5
  have K6 := Lib.hid k6
  have K7 := Lib.hid k7
  have K8 := Lib.hid k8
  have KD := Lib.hid kd
  have K9 := Lib.hid k9
  have KM := Lib.hid km
  have KL := Lib.hid kl
  clear k1 k2 k3 k4 k5 k6 k7 k8 kd k9 km kl
  go_enter Try.func48, Try.ntmps48
  go_wp2
  refine RT.region_two (aq := ?aq1) (n := 14) (sx := 6) (sy := 7) (vx := 15) (vy := 22) (oz := Obj.cells #[.int .u64 0, .int .u64 0] 62) (ox := Obj.cells #[.int .u64 Xh, .int .u64 Xl] 62) (oy := Obj.cells #[.int .u64 Yh, .int .u64 Yl] 62) (qs := [_, _, _, _, _, _, _, _, _, _, _, _, _, _]) (by kernel_rfl) rfl (by kernel_rfl) (by kernel_rfl) rfl rfl (of_decide_eq_true (by kernel_rfl)) (of_decide_eq_true (by kernel_rfl)) rfl rfl rfl rfl (by kernel_rfl) (by kernel_rfl) (by kernel_rfl) (by kernel_rfl) ?_ ?_ ?_ ?_ ?_ ?_
  rotate_left
  · intro e w
    simp [execOp, go_sem, Try.underlying62]
  · intro e w
    simp [execOp, go_sem, Try.underlying62]
  · intro wq hEq
    have AQ := Lib.hid (show At wq [(w.heap.size, Obj.cells #[.int .i64 a1, .int .i64 a2] 23), (w.heap.size + 1, Obj.cells #[.int .i64 b1, .int .i64 b2] 23), (w.heap.size + 1 + 1, Obj.cells #[.int .i64 0, .int .i64 0] 23)] from At.ext hEq (show At _ [(w.heap.size, Obj.cells #[.int .i64 a1, .int .i64 a2] 23), (w.heap.size + 1, Obj.cells #[.int .i64 b1, .int .i64 b2] 23), (w.heap.size + 1 + 1, Obj.cells #[.int .i64 0, .int .i64 0] 23)] from ⟨(by repeat (first | (refine blk_at _ _ ?_; (first | rfl | (simp only [size_one]; done))) | refine (blk_past _ _ (by simp only [size_one]; omega)).trans ?_)), (by repeat (first | (refine blk_at _ _ ?_; (first | rfl | (simp only [size_one]; done))) | refine (blk_past _ _ (by simp only [size_one]; omega)).trans ?_)), (by repeat (first | (refine blk_at _ _ ?_; (first | rfl | (simp only [size_one]; done))) | refine (blk_past _ _ (by simp only [size_one]; omega)).trans ?_)), trivial⟩))
    obtain ⟨q_0_0, q_0_1, r_0_0, r_0_1⟩ := run_pair (At.at AQ.out 0 rfl)
    have sq_0 : w.heap.size < wq.heap.size := At.lt AQ.out 0 rfl
    obtain ⟨q_1_0, q_1_1, r_1_0, r_1_1⟩ := run_pair (At.at AQ.out 1 rfl)
    have sq_1 : w.heap.size + 1 < wq.heap.size := At.lt AQ.out 1 rfl
    obtain ⟨q_2_0, q_2_1, r_2_0, r_2_1⟩ := run_pair (At.at AQ.out 2 rfl)
    have sq_2 : w.heap.size + 1 + 1 < wq.heap.size := At.lt AQ.out 2 rfl
    clear hEq
    simp only [List.cons_append, List.nil_append]
    repeat (go_big_quiet_step ((first | (go_at_call 41; with_reducible exact Calls.ext_of (K3.out _)) | (go_at_call 41; with_reducible exact Calls.ext_of (K4.out _)) | (go_at_call 41; with_reducible exact Calls.ext_of (K5.out _)) | (go_at_call 41; with_reducible exact Calls.ext_of (K6.out _)) | (go_at_call 70; with_reducible exact Calls.ext_of (K7.out _)) | (go_at_call 70; with_reducible exact Calls.ext_of (K8.out _)))))
    refine wpQuiet_nil ?_
    exact rfl
  · intro e w b h1 h2 h3
    obtain ⟨c0, c1, f0, f1⟩ := run_pair h3
    have h2' : e (.tmp 15) = .agg #[.int .u64 Xh, .int .u64 Xl] := h2
    apply Exists.intro
    apply And.intro
    · simp [execOp, go_sem, h1, h2', c0, c1, f0, f1, Try.underlying62]
      exact rfl
    · exact store_pair h3
  · intro e w b h1 h2 h3
    obtain ⟨c0, c1, f0, f1⟩ := run_pair h3
    have h2' : e (.tmp 22) = .agg #[.int .u64 Yh, .int .u64 Yl] := h2
    apply Exists.intro
    apply And.intro
    · simp [execOp, go_sem, h1, h2', c0, c1, f0, f1, Try.underlying62]
      exact rfl
    · exact store_pair h3
  · intro bx1 by1 w1 hE1 hbx1 hby1 hne1 hX1 hY1
    have A1 := Lib.hid (show At w1 [(bx1, Obj.cells #[.int .u64 Xh, .int .u64 Xl] 62), (by1, Obj.cells #[.int .u64 Yh, .int .u64 Yl] 62), (w.heap.size, Obj.cells #[.int .i64 a1, .int .i64 a2] 23), (w.heap.size + 1, Obj.cells #[.int .i64 b1, .int .i64 b2] 23), (w.heap.size + 1 + 1, Obj.cells #[.int .i64 0, .int .i64 0] 23)] from ⟨hX1, hY1, At.ext hE1 (show At _ [(w.heap.size, Obj.cells #[.int .i64 a1, .int .i64 a2] 23), (w.heap.size + 1, Obj.cells #[.int .i64 b1, .int .i64 b2] 23), (w.heap.size + 1 + 1, Obj.cells #[.int .i64 0, .int .i64 0] 23)] from ⟨(by repeat (first | (refine blk_at _ _ ?_; (first | rfl | (simp only [size_one]; done))) | refine (blk_past _ _ (by simp only [size_one]; omega)).trans ?_)), (by repeat (first | (refine blk_at _ _ ?_; (first | rfl | (simp only [size_one]; done))) | refine (blk_past _ _ (by simp only [size_one]; omega)).trans ?_)), (by repeat (first | (refine blk_at _ _ ?_; (first | rfl | (simp only [size_one]; done))) | refine (blk_past _ _ (by simp only [size_one]; omega)).trans ?_)), trivial⟩)⟩)
    have E1 := Lib.hid (((show Ext w _ from (by repeat (first | exact Ext.refl _ | assumption | refine Ext.alloc ?_ _ | refine Ext.drewN ?_ _ | refine ext_grow ?_ _ _ | refine Ext.setCell ?_ (by first | exact Nat.le_refl _ | omega | (simp; done) | (simp; omega)) _ | refine Ext.trans ?_ (by assumption))))).trans hE1)
    obtain ⟨c1_0_0, c1_0_1, f1_0_0, f1_0_1⟩ := run_pair (At.at A1.out 0 rfl)
    have s1_0 : bx1 < w1.heap.size := At.lt A1.out 0 rfl
    obtain ⟨c1_1_0, c1_1_1, f1_1_0, f1_1_1⟩ := run_pair (At.at A1.out 1 rfl)
    have s1_1 : by1 < w1.heap.size := At.lt A1.out 1 rfl
    obtain ⟨c1_2_0, c1_2_1, f1_2_0, f1_2_1⟩ := run_pair (At.at A1.out 2 rfl)
    have s1_2 : w.heap.size < w1.heap.size := At.lt A1.out 2 rfl
    obtain ⟨c1_3_0, c1_3_1, f1_3_0, f1_3_1⟩ := run_pair (At.at A1.out 3 rfl)
    have s1_3 : w.heap.size + 1 < w1.heap.size := At.lt A1.out 3 rfl
    obtain ⟨c1_4_0, c1_4_1, f1_4_0, f1_4_1⟩ := run_pair (At.at A1.out 4 rfl)
    have s1_4 : w.heap.size + 1 + 1 < w1.heap.size := At.lt A1.out 4 rfl
    have y1bx_0 : w.heap.size < bx1 := Nat.lt_of_lt_of_le (At.lt (show At _ [(w.heap.size, Obj.cells #[.int .i64 a1, .int .i64 a2] 23), (w.heap.size + 1, Obj.cells #[.int .i64 b1, .int .i64 b2] 23), (w.heap.size + 1 + 1, Obj.cells #[.int .i64 0, .int .i64 0] 23)] from ⟨(by repeat (first | (refine blk_at _ _ ?_; (first | rfl | (simp only [size_one]; done))) | refine (blk_past _ _ (by simp only [size_one]; omega)).trans ?_)), (by repeat (first | (refine blk_at _ _ ?_; (first | rfl | (simp only [size_one]; done))) | refine (blk_past _ _ (by simp only [size_one]; omega)).trans ?_)), (by repeat (first | (refine blk_at _ _ ?_; (first | rfl | (simp only [size_one]; done))) | refine (blk_past _ _ (by simp only [size_one]; omega)).trans ?_)), trivial⟩) 0 rfl) hbx1
    have y1bx_1 : w.heap.size + 1 < bx1 := Nat.lt_of_lt_of_le (At.lt (show At _ [(w.heap.size, Obj.cells #[.int .i64 a1, .int .i64 a2] 23), (w.heap.size + 1, Obj.cells #[.int .i64 b1, .int .i64 b2] 23), (w.heap.size + 1 + 1, Obj.cells #[.int .i64 0, .int .i64 0] 23)] from ⟨(by repeat (first | (refine blk_at _ _ ?_; (first | rfl | (simp only [size_one]; done))) | refine (blk_past _ _ (by simp only [size_one]; omega)).trans ?_)), (by repeat (first | (refine blk_at _ _ ?_; (first | rfl | (simp only [size_one]; done))) | refine (blk_past _ _ (by simp only [size_one]; omega)).trans ?_)), (by repeat (first | (refine blk_at _ _ ?_; (first | rfl | (simp only [size_one]; done))) | refine (blk_past _ _ (by simp only [size_one]; omega)).trans ?_)), trivial⟩) 1 rfl) hbx1
    have y1bx_2 : w.heap.size + 1 + 1 < bx1 := Nat.lt_of_lt_of_le (At.lt (show At _ [(w.heap.size, Obj.cells #[.int .i64 a1, .int .i64 a2] 23), (w.heap.size + 1, Obj.cells #[.int .i64 b1, .int .i64 b2] 23), (w.heap.size + 1 + 1, Obj.cells #[.int .i64 0, .int .i64 0] 23)] from ⟨(by repeat (first | (refine blk_at _ _ ?_; (first | rfl | (simp only [size_one]; done))) | refine (blk_past _ _ (by simp only [size_one]; omega)).trans ?_)), (by repeat (first | (refine blk_at _ _ ?_; (first | rfl | (simp only [size_one]; done))) | refine (blk_past _ _ (by simp only [size_one]; omega)).trans ?_)), (by repeat (first | (refine blk_at _ _ ?_; (first | rfl | (simp only [size_one]; done))) | refine (blk_past _ _ (by simp only [size_one]; omega)).trans ?_)), trivial⟩) 2 rfl) hbx1
    have y1bx_w : w.heap.size ≤ bx1 := by omega
    have y1by_0 : w.heap.size < by1 := Nat.lt_of_lt_of_le (At.lt (show At _ [(w.heap.size, Obj.cells #[.int .i64 a1, .int .i64 a2] 23), (w.heap.size + 1, Obj.cells #[.int .i64 b1, .int .i64 b2] 23), (w.heap.size + 1 + 1, Obj.cells #[.int .i64 0, .int .i64 0] 23)] from ⟨(by repeat (first | (refine blk_at _ _ ?_; (first | rfl | (simp only [size_one]; done))) | refine (blk_past _ _ (by simp only [size_one]; omega)).trans ?_)), (by repeat (first | (refine blk_at _ _ ?_; (first | rfl | (simp only [size_one]; done))) | refine (blk_past _ _ (by simp only [size_one]; omega)).trans ?_)), (by repeat (first | (refine blk_at _ _ ?_; (first | rfl | (simp only [size_one]; done))) | refine (blk_past _ _ (by simp only [size_one]; omega)).trans ?_)), trivial⟩) 0 rfl) hby1
    have y1by_1 : w.heap.size + 1 < by1 := Nat.lt_of_lt_of_le (At.lt (show At _ [(w.heap.size, Obj.cells #[.int .i64 a1, .int .i64 a2] 23), (w.heap.size + 1, Obj.cells #[.int .i64 b1, .int .i64 b2] 23), (w.heap.size + 1 + 1, Obj.cells #[.int .i64 0, .int .i64 0] 23)] from ⟨(by repeat (first | (refine blk_at _ _ ?_; (first | rfl | (simp only [size_one]; done))) | refine (blk_past _ _ (by simp only [size_one]; omega)).trans ?_)), (by repeat (first | (refine blk_at _ _ ?_; (first | rfl | (simp only [size_one]; done))) | refine (blk_past _ _ (by simp only [size_one]; omega)).trans ?_)), (by repeat (first | (refine blk_at _ _ ?_; (first | rfl | (simp only [size_one]; done))) | refine (blk_past _ _ (by simp only [size_one]; omega)).trans ?_)), trivial⟩) 1 rfl) hby1
    have y1by_2 : w.heap.size + 1 + 1 < by1 := Nat.lt_of_lt_of_le (At.lt (show At _ [(w.heap.size, Obj.cells #[.int .i64 a1, .int .i64 a2] 23), (w.heap.size + 1, Obj.cells #[.int .i64 b1, .int .i64 b2] 23), (w.heap.size + 1 + 1, Obj.cells #[.int .i64 0, .int .i64 0] 23)] from ⟨(by repeat (first | (refine blk_at _ _ ?_; (first | rfl | (simp only [size_one]; done))) | refine (blk_past _ _ (by simp only [size_one]; omega)).trans ?_)), (by repeat (first | (refine blk_at _ _ ?_; (first | rfl | (simp only [size_one]; done))) | refine (blk_past _ _ (by simp only [size_one]; omega)).trans ?_)), (by repeat (first | (refine blk_at _ _ ?_; (first | rfl | (simp only [size_one]; done))) | refine (blk_past _ _ (by simp only [size_one]; omega)).trans ?_)), trivial⟩) 2 rfl) hby1
    have y1by_w : w.heap.size ≤ by1 := by omega
    clear hbx1 hby1 hE1 hX1 hY1
    go_wp2
    simp only [Act.put, List.setIfInBounds_toArray, List.set_cons_succ, List.set_cons_zero]
    refine RT.region_one (aq := ?aq2) (n := 7) (sx := 8) (vx := 29) (oz := Obj.cells #[.int .u64 0, .int .u64 0] 62) (ox := Obj.cells #[.int .u64 Eh, .int .u64 El] 62) (qs1 := [_, _, _, _, _, _, _]) (qs2 := []) (by kernel_rfl) rfl (by kernel_rfl) (by kernel_rfl) rfl (of_decide_eq_true (by kernel_rfl)) rfl rfl (by kernel_rfl) (by kernel_rfl) (by kernel_rfl) ?_ ?_ ?_ ?_
    rotate_left
    · intro e w
      simp [execOp, go_sem, Try.underlying62]
    · intro wq hEq
      have AQ := Lib.hid (show At wq [(bx1, Obj.cells #[.int .u64 Xh, .int .u64 Xl] 62), (by1, Obj.cells #[.int .u64 Yh, .int .u64 Yl] 62), (w.heap.size, Obj.cells #[.int .i64 a1, .int .i64 a2] 23), (w.heap.size + 1, Obj.cells #[.int .i64 b1, .int .i64 b2] 23), (w.heap.size + 1 + 1, Obj.cells #[.int .i64 0, .int .i64 0] 23)] from At.ext hEq A1.out)
      obtain ⟨q_0_0, q_0_1, r_0_0, r_0_1⟩ := run_pair (At.at AQ.out 0 rfl)
      have sq_0 : bx1 < wq.heap.size := At.lt AQ.out 0 rfl
      obtain ⟨q_1_0, q_1_1, r_1_0, r_1_1⟩ := run_pair (At.at AQ.out 1 rfl)
      have sq_1 : by1 < wq.heap.size := At.lt AQ.out 1 rfl
      obtain ⟨q_2_0, q_2_1, r_2_0, r_2_1⟩ := run_pair (At.at AQ.out 2 rfl)
      have sq_2 : w.heap.size < wq.heap.size := At.lt AQ.out 2 rfl
      obtain ⟨q_3_0, q_3_1, r_3_0, r_3_1⟩ := run_pair (At.at AQ.out 3 rfl)
      have sq_3 : w.heap.size + 1 < wq.heap.size := At.lt AQ.out 3 rfl
      obtain ⟨q_4_0, q_4_1, r_4_0, r_4_1⟩ := run_pair (At.at AQ.out 4 rfl)
      have sq_4 : w.heap.size + 1 + 1 < wq.heap.size := At.lt AQ.out 4 rfl
      clear hEq
      simp only [List.cons_append, List.nil_append]
      repeat (go_big_quiet_step ((first | (go_at_call 41; with_reducible exact Calls.ext_of (K5.out _)) | (go_at_call 41; with_reducible exact Calls.ext_of (K6.out _)) | (go_at_call 70; with_reducible exact Calls.ext_of (KD.out _)))))
      refine wpQuiet_nil ?_
      exact rfl
    · intro e w b h1 h2 h3
      obtain ⟨c0, c1, f0, f1⟩ := run_pair h3
      have h2' : e (.tmp 29) = .agg #[.int .u64 Eh, .int .u64 El] := h2
      apply Exists.intro
      apply And.intro
      · simp [execOp, go_sem, h1, h2', c0, c1, f0, f1, Try.underlying62]
        exact rfl
      · exact store_pair h3
    · intro bq2 w2 hE2 hbq2 hX2
      have A2 := Lib.hid (show At w2 [(bq2, Obj.cells #[.int .u64 Eh, .int .u64 El] 62), (bx1, Obj.cells #[.int .u64 Xh, .int .u64 Xl] 62), (by1, Obj.cells #[.int .u64 Yh, .int .u64 Yl] 62), (w.heap.size, Obj.cells #[.int .i64 a1, .int .i64 a2] 23), (w.heap.size + 1, Obj.cells #[.int .i64 b1, .int .i64 b2] 23), (w.heap.size + 1 + 1, Obj.cells #[.int .i64 0, .int .i64 0] 23)] from ⟨hX2, At.ext hE2 A1.out⟩)
      have E2 := Lib.hid ((E1.out).trans hE2)
      obtain ⟨c2_0_0, c2_0_1, f2_0_0, f2_0_1⟩ := run_pair (At.at A2.out 0 rfl)
      have s2_0 : bq2 < w2.heap.size := At.lt A2.out 0 rfl
      obtain ⟨c2_1_0, c2_1_1, f2_1_0, f2_1_1⟩ := run_pair (At.at A2.out 1 rfl)
      have s2_1 : bx1 < w2.heap.size := At.lt A2.out 1 rfl
      obtain ⟨c2_2_0, c2_2_1, f2_2_0, f2_2_1⟩ := run_pair (At.at A2.out 2 rfl)
      have s2_2 : by1 < w2.heap.size := At.lt A2.out 2 rfl
      obtain ⟨c2_3_0, c2_3_1, f2_3_0, f2_3_1⟩ := run_pair (At.at A2.out 3 rfl)
      have s2_3 : w.heap.size < w2.heap.size := At.lt A2.out 3 rfl
      obtain ⟨c2_4_0, c2_4_1, f2_4_0, f2_4_1⟩ := run_pair (At.at A2.out 4 rfl)
      have s2_4 : w.heap.size + 1 < w2.heap.size := At.lt A2.out 4 rfl
      obtain ⟨c2_5_0, c2_5_1, f2_5_0, f2_5_1⟩ := run_pair (At.at A2.out 5 rfl)
      have s2_5 : w.heap.size + 1 + 1 < w2.heap.size := At.lt A2.out 5 rfl
      have y2_0 : bx1 < bq2 := Nat.lt_of_lt_of_le (At.lt A1.out 0 rfl) hbq2
      have y2_1 : by1 < bq2 := Nat.lt_of_lt_of_le (At.lt A1.out 1 rfl) hbq2
      have y2_2 : w.heap.size < bq2 := Nat.lt_of_lt_of_le (At.lt A1.out 2 rfl) hbq2
      have y2_3 : w.heap.size + 1 < bq2 := Nat.lt_of_lt_of_le (At.lt A1.out 3 rfl) hbq2
      have y2_4 : w.heap.size + 1 + 1 < bq2 := Nat.lt_of_lt_of_le (At.lt A1.out 4 rfl) hbq2
      have y2_w : w.heap.size ≤ bq2 := by omega
      clear hbq2 hE2 hX2
      go_wp2
      simp only [Act.put, List.setIfInBounds_toArray, List.set_cons_succ, List.set_cons_zero]
      refine wp_region_quiet_below (by kernel_rfl) (by kernel_rfl) ?_
      repeat (go_big_quiet_step ((first | (go_at_call 40; with_reducible exact Calls.ext_of (K1.out _)) | (go_at_call 40; with_reducible exact Calls.ext_of (K2.out _)))))
      refine wpQuiet_nil ?_
      intro w3 hw'
      obtain ⟨pq, hw''⟩ := hw'
      have hb3 := ext_of_regrown hw''
      clear hw'' pq
      have A3 := Lib.hid (show At w3 [(bq2, Obj.cells #[.int .u64 Eh, .int .u64 El] 62), (bx1, Obj.cells #[.int .u64 Xh, .int .u64 Xl] 62), (by1, Obj.cells #[.int .u64 Yh, .int .u64 Yl] 62), (w.heap.size, Obj.cells #[.int .i64 a1, .int .i64 a2] 23), (w.heap.size + 1, Obj.cells #[.int .i64 b1, .int .i64 b2] 23), (w.heap.size + 1 + 1, Obj.cells #[.int .i64 0, .int .i64 0] 23)] from At.ext hb3 A2.out)
      have E3 := Lib.hid ((E2.out).trans hb3)
      clear hb3
      obtain ⟨c3_0_0, c3_0_1, f3_0_0, f3_0_1⟩ := run_pair (At.at A3.out 0 rfl)
      have s3_0 : bq2 < w3.heap.size := At.lt A3.out 0 rfl
      obtain ⟨c3_1_0, c3_1_1, f3_1_0, f3_1_1⟩ := run_pair (At.at A3.out 1 rfl)
      have s3_1 : bx1 < w3.heap.size := At.lt A3.out 1 rfl
      obtain ⟨c3_2_0, c3_2_1, f3_2_0, f3_2_1⟩ := run_pair (At.at A3.out 2 rfl)
      have s3_2 : by1 < w3.heap.size := At.lt A3.out 2 rfl
      obtain ⟨c3_3_0, c3_3_1, f3_3_0, f3_3_1⟩ := run_pair (At.at A3.out 3 rfl)
      have s3_3 : w.heap.size < w3.heap.size := At.lt A3.out 3 rfl
      obtain ⟨c3_4_0, c3_4_1, f3_4_0, f3_4_1⟩ := run_pair (At.at A3.out 4 rfl)
      have s3_4 : w.heap.size + 1 < w3.heap.size := At.lt A3.out 4 rfl
      obtain ⟨c3_5_0, c3_5_1, f3_5_0, f3_5_1⟩ := run_pair (At.at A3.out 5 rfl)
      have s3_5 : w.heap.size + 1 + 1 < w3.heap.size := At.lt A3.out 5 rfl
      (try clear c2_0_0 c2_0_1 f2_0_0 f2_0_1 c2_1_0 c2_1_1 f2_1_0 f2_1_1 c2_2_0 c2_2_1 f2_2_0 f2_2_1 c2_3_0 c2_3_1 f2_3_0 f2_3_1 c2_4_0 c2_4_1 f2_4_0 f2_4_1 c2_5_0 c2_5_1 f2_5_0 f2_5_1 s2_0 s2_1 s2_2 s2_3 s2_4 s2_5)
      go_wp2_with (first | (go_at_call 71; (with_reducible refine (K9.out _).mono ?_); rintro E w4 ⟨rfl, hb4⟩; have A4 := Lib.hid (show At w4 [(bq2, Obj.cells #[.int .u64 Eh, .int .u64 El] 62), (bx1, Obj.cells #[.int .u64 Xh, .int .u64 Xl] 62), (by1, Obj.cells #[.int .u64 Yh, .int .u64 Yl] 62), (w.heap.size, Obj.cells #[.int .i64 a1, .int .i64 a2] 23), (w.heap.size + 1, Obj.cells #[.int .i64 b1, .int .i64 b2] 23), (w.heap.size + 1 + 1, Obj.cells #[.int .i64 0, .int .i64 0] 23)] from At.ext hb4 A3.out); have E4 := Lib.hid ((E3.out).trans hb4); obtain ⟨c4_0_0, c4_0_1, f4_0_0, f4_0_1⟩ := run_pair (At.at A4.out 0 rfl); have s4_0 : bq2 < w4.heap.size := At.lt A4.out 0 rfl; obtain ⟨c4_1_0, c4_1_1, f4_1_0, f4_1_1⟩ := run_pair (At.at A4.out 1 rfl); have s4_1 : bx1 < w4.heap.size := At.lt A4.out 1 rfl; obtain ⟨c4_2_0, c4_2_1, f4_2_0, f4_2_1⟩ := run_pair (At.at A4.out 2 rfl); have s4_2 : by1 < w4.heap.size := At.lt A4.out 2 rfl; obtain ⟨c4_3_0, c4_3_1, f4_3_0, f4_3_1⟩ := run_pair (At.at A4.out 3 rfl); have s4_3 : w.heap.size < w4.heap.size := At.lt A4.out 3 rfl; obtain ⟨c4_4_0, c4_4_1, f4_4_0, f4_4_1⟩ := run_pair (At.at A4.out 4 rfl); have s4_4 : w.heap.size + 1 < w4.heap.size := At.lt A4.out 4 rfl; obtain ⟨c4_5_0, c4_5_1, f4_5_0, f4_5_1⟩ := run_pair (At.at A4.out 5 rfl); have s4_5 : w.heap.size + 1 + 1 < w4.heap.size := At.lt A4.out 5 rfl; (try clear c3_0_0 c3_0_1 f3_0_0 f3_0_1 c3_1_0 c3_1_1 f3_1_0 f3_1_1 c3_2_0 c3_2_1 f3_2_0 f3_2_1 c3_3_0 c3_3_1 f3_3_0 f3_3_1 c3_4_0 c3_4_1 f3_4_0 f3_4_1 c3_5_0 c3_5_1 f3_5_0 f3_5_1 s3_0 s3_1 s3_2 s3_3 s3_4 s3_5)))
      refine RT.region_store (aq := ?aq5) (n := 10) (sp := 4) (vx := 73) (b0 := w.heap.size + 1 + 1) (oz := Obj.cells #[.int .i64 0, .int .i64 0] 23) (ox := Obj.cells #[.int .i64 rn, .int .i64 rd] 23) (qs1 := [_, _, _, _, _, _, _, _, _, _]) (qs2 := [_]) (wb := w) (fun v => At v [(bq2, Obj.cells #[.int .u64 Eh, .int .u64 El] 62), (bx1, Obj.cells #[.int .u64 Xh, .int .u64 Xl] 62), (by1, Obj.cells #[.int .u64 Yh, .int .u64 Yl] 62), (w.heap.size, Obj.cells #[.int .i64 a1, .int .i64 a2] 23), (w.heap.size + 1, Obj.cells #[.int .i64 b1, .int .i64 b2] 23)]) (by kernel_rfl) rfl (by kernel_rfl) (by kernel_rfl) rfl rfl (by kernel_rfl) (by kernel_rfl) rfl ?_ ?_ ?_ ?_ ?_ ?_ ?_ ?_ ?_
      rotate_left
      · exact At.at A4.out 5 rfl
      · exact E4.out
      · omega
      · exact At.drew (At.erase A4.out 5)
      · exact fun _ _ h hE => h.ext hE
      · exact fun _ _ h k => h.other k (by simp; omega)
      · intro wq hF
        obtain ⟨q_0_0, q_0_1, r_0_0, r_0_1⟩ := run_pair (At.at hF 0 rfl)
        have sq_0 : bq2 < wq.heap.size := At.lt hF 0 rfl
        obtain ⟨q_1_0, q_1_1, r_1_0, r_1_1⟩ := run_pair (At.at hF 1 rfl)
        have sq_1 : bx1 < wq.heap.size := At.lt hF 1 rfl
        obtain ⟨q_2_0, q_2_1, r_2_0, r_2_1⟩ := run_pair (At.at hF 2 rfl)
        have sq_2 : by1 < wq.heap.size := At.lt hF 2 rfl
        obtain ⟨q_3_0, q_3_1, r_3_0, r_3_1⟩ := run_pair (At.at hF 3 rfl)
        have sq_3 : w.heap.size < wq.heap.size := At.lt hF 3 rfl
        obtain ⟨q_4_0, q_4_1, r_4_0, r_4_1⟩ := run_pair (At.at hF 4 rfl)
        have sq_4 : w.heap.size + 1 < wq.heap.size := At.lt hF 4 rfl
        clear hF
        simp only [List.cons_append, List.nil_append]
        repeat (go_big_quiet_step ((first | (go_at_call 40; with_reducible exact Calls.ext_of (K1.out _)) | (go_at_call 76; with_reducible exact Calls.ext_of (KM.out _)) | (go_at_call 39; with_reducible exact Calls.ext_of (KL.out _)))))
        refine wpQuiet_nil ?_
        exact rfl
      · intro e w h1 h2 h3
        obtain ⟨c0, c1, f0, f1⟩ := run_pair h3
        have h2' : e (.tmp 73) = .agg #[.int .i64 rn, .int .i64 rd] := h2
        apply Exists.intro
        apply And.intro
        · simp [execOp, go_sem, h1, h2', c0, c1, f0, f1, Try.underlying23]
          exact rfl
        · exact store_pair h3
      · intro w' _ hE hX
        go_wp2
        refine bodyPost_ret (RT.results_row2 rfl _ _ (w.heap.size + 1 + 1) 23 #[.int .i64 rn, .int .i64 rd] (0, 0) _ rfl hX Try.underlying23 rfl info_frac) rfl ?_
        exact ⟨rfl, hE⟩
end Go.Proofs.Ytodoimeiklilhaa
