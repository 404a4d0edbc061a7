/- The walk of the reference's Root. -/
import Derived.Test.YtodoimeiklilhaaDoorRefText
import Derived.Test.YtodoimeiklilhaaDoorGRoots
set_option linter.unusedVariables false
set_option linter.unusedSimpArgs false
namespace Go.Proofs.YtodoimeiklilhaaDoor
open Go.RowKit Go.Sort

set_option maxRecDepth 100000 in
set_option maxHeartbeats 8000000 in
theorem rRoot_bad (a1 a2 c : Int) (w : World)
    (k1 : ∀ w, Calls Tryd.prog 50 #[fracV ⟨a1, a2⟩] w fun E w' => E = .returned (.bool false) ∧ Ext w w') :
    Calls Tryd.prog 46 #[fracV ⟨a1, a2⟩, .int .i64 c] w fun E w' => E = .returned (.tuple #[.agg #[.int .i64 0, .int .i64 0, .int .i64 0, .int .i64 0], .int .i64 8]) ∧ Ext w w' := by
  have K1 := Lib.hid k1
  clear k1
  go_enter Tryd.func46, Tryd.ntmps46
  go_wp2_with (first | (go_at_call 50; (with_reducible refine (K1.out _).mono ?_); rintro E w1 ⟨rfl, hb1⟩; have A1 := Lib.hid (show At w1 [(w.heap.size, Obj.cells #[.int .i64 a1, .int .i64 a2] 23), (w.heap.size + 1, Obj.cells #[.int .i64 0, .int .i64 0, .int .i64 0, .int .i64 0] 41)] from At.ext hb1 (show At _ [(w.heap.size, Obj.cells #[.int .i64 a1, .int .i64 a2] 23), (w.heap.size + 1, Obj.cells #[.int .i64 0, .int .i64 0, .int .i64 0, .int .i64 0] 41)] from ⟨(by repeat (first | (refine blk_at _ _ ?_; (first | rfl | (simp only [size_one]; done))) | refine (blk_past _ _ (by simp only [size_one]; omega)).trans ?_)), (by repeat (first | (refine blk_at _ _ ?_; (first | rfl | (simp only [size_one]; done))) | refine (blk_past _ _ (by simp only [size_one]; omega)).trans ?_)), trivial⟩)); have E1 := Lib.hid (((show Ext w _ from (by repeat (first | exact Ext.refl _ | assumption | refine Ext.alloc ?_ _ | refine Ext.drewN ?_ _ | refine ext_grow ?_ _ _ | refine Ext.setCell ?_ (by first | exact Nat.le_refl _ | omega | (simp; done) | (simp; omega)) _ | refine Ext.trans ?_ (by assumption))))).trans hb1); obtain ⟨c1_0_0, c1_0_1, f1_0_0, f1_0_1⟩ := run_pair (At.at A1.out 0 rfl); have s1_0 : w.heap.size < w1.heap.size := At.lt A1.out 0 rfl; obtain ⟨⟨c1_1_0, c1_1_1, c1_1_2, c1_1_3⟩, f1_1_0, f1_1_1, f1_1_2, f1_1_3⟩ := run_four (At.at A1.out 1 rfl); have s1_1 : w.heap.size + 1 < w1.heap.size := At.lt A1.out 1 rfl))
  refine bodyPost_ret (RT.results_row2 rfl _ _ (w.heap.size + 1) 41 #[.int .i64 0, .int .i64 0, .int .i64 0, .int .i64 0] (0, 0) _ rfl (store_four (v0 := .int .i64 0) (v1 := .int .i64 0) (v2 := .int .i64 0) (v3 := .int .i64 0) (At.at A1.out 1 rfl)).1 Tryd.underlying41 rfl info_span) rfl ?_
  exact ⟨rfl, (store_four (v0 := .int .i64 0) (v1 := .int .i64 0) (v2 := .int .i64 0) (v3 := .int .i64 0) (At.at A1.out 1 rfl)).2.2 w (by omega) E1.out⟩
set_option maxRecDepth 100000 in
set_option maxHeartbeats 8000000 in
theorem rRoot_arg (a1 a2 c : Int) (w : World)
    (h : a1 < 0 ∨ c < 1 ∨ 32768 < c)
    (k1 : ∀ w, Calls Tryd.prog 50 #[fracV ⟨a1, a2⟩] w fun E w' => E = .returned (.bool true) ∧ Ext w w') :
    Calls Tryd.prog 46 #[fracV ⟨a1, a2⟩, .int .i64 c] w fun E w' => E = .returned (.tuple #[.agg #[.int .i64 0, .int .i64 0, .int .i64 0, .int .i64 0], .int .i64 2]) ∧ Ext w w' := by
  have K1 := Lib.hid k1
  clear k1
  by_cases h1 : a1 < 0
  · have t1 : decide (a1 < 0) = true := decide_eq_true h1
    clear h h1
    go_enter Tryd.func46, Tryd.ntmps46
    go_wp2_with (first | (go_at_call 50; (with_reducible refine (K1.out _).mono ?_); rintro E w1 ⟨rfl, hb1⟩; have A1 := Lib.hid (show At w1 [(w.heap.size, Obj.cells #[.int .i64 a1, .int .i64 a2] 23), (w.heap.size + 1, Obj.cells #[.int .i64 0, .int .i64 0, .int .i64 0, .int .i64 0] 41)] from At.ext hb1 (show At _ [(w.heap.size, Obj.cells #[.int .i64 a1, .int .i64 a2] 23), (w.heap.size + 1, Obj.cells #[.int .i64 0, .int .i64 0, .int .i64 0, .int .i64 0] 41)] from ⟨(by repeat (first | (refine blk_at _ _ ?_; (first | rfl | (simp only [size_one]; done))) | refine (blk_past _ _ (by simp only [size_one]; omega)).trans ?_)), (by repeat (first | (refine blk_at _ _ ?_; (first | rfl | (simp only [size_one]; done))) | refine (blk_past _ _ (by simp only [size_one]; omega)).trans ?_)), trivial⟩)); have E1 := Lib.hid (((show Ext w _ from (by repeat (first | exact Ext.refl _ | assumption | refine Ext.alloc ?_ _ | refine Ext.drewN ?_ _ | refine ext_grow ?_ _ _ | refine Ext.setCell ?_ (by first | exact Nat.le_refl _ | omega | (simp; done) | (simp; omega)) _ | refine Ext.trans ?_ (by assumption))))).trans hb1); obtain ⟨c1_0_0, c1_0_1, f1_0_0, f1_0_1⟩ := run_pair (At.at A1.out 0 rfl); have s1_0 : w.heap.size < w1.heap.size := At.lt A1.out 0 rfl; obtain ⟨⟨c1_1_0, c1_1_1, c1_1_2, c1_1_3⟩, f1_1_0, f1_1_1, f1_1_2, f1_1_3⟩ := run_four (At.at A1.out 1 rfl); have s1_1 : w.heap.size + 1 < w1.heap.size := At.lt A1.out 1 rfl))
    refine bodyPost_ret (RT.results_row2 rfl _ _ (w.heap.size + 1) 41 #[.int .i64 0, .int .i64 0, .int .i64 0, .int .i64 0] (0, 0) _ rfl (store_four (v0 := .int .i64 0) (v1 := .int .i64 0) (v2 := .int .i64 0) (v3 := .int .i64 0) (At.at A1.out 1 rfl)).1 Tryd.underlying41 rfl info_span) rfl ?_
    exact ⟨rfl, (store_four (v0 := .int .i64 0) (v1 := .int .i64 0) (v2 := .int .i64 0) (v3 := .int .i64 0) (At.at A1.out 1 rfl)).2.2 w (by omega) E1.out⟩
  · by_cases h2 : c < 1
    · have t1 : decide (a1 < 0) = false := decide_eq_false h1
      have t2 : decide (c < 1) = true := decide_eq_true h2
      clear h h1 h2
      go_enter Tryd.func46, Tryd.ntmps46
      go_wp2_with (first | (go_at_call 50; (with_reducible refine (K1.out _).mono ?_); rintro E w1 ⟨rfl, hb1⟩; have A1 := Lib.hid (show At w1 [(w.heap.size, Obj.cells #[.int .i64 a1, .int .i64 a2] 23), (w.heap.size + 1, Obj.cells #[.int .i64 0, .int .i64 0, .int .i64 0, .int .i64 0] 41)] from At.ext hb1 (show At _ [(w.heap.size, Obj.cells #[.int .i64 a1, .int .i64 a2] 23), (w.heap.size + 1, Obj.cells #[.int .i64 0, .int .i64 0, .int .i64 0, .int .i64 0] 41)] from ⟨(by repeat (first | (refine blk_at _ _ ?_; (first | rfl | (simp only [size_one]; done))) | refine (blk_past _ _ (by simp only [size_one]; omega)).trans ?_)), (by repeat (first | (refine blk_at _ _ ?_; (first | rfl | (simp only [size_one]; done))) | refine (blk_past _ _ (by simp only [size_one]; omega)).trans ?_)), trivial⟩)); have E1 := Lib.hid (((show Ext w _ from (by repeat (first | exact Ext.refl _ | assumption | refine Ext.alloc ?_ _ | refine Ext.drewN ?_ _ | refine ext_grow ?_ _ _ | refine Ext.setCell ?_ (by first | exact Nat.le_refl _ | omega | (simp; done) | (simp; omega)) _ | refine Ext.trans ?_ (by assumption))))).trans hb1); obtain ⟨c1_0_0, c1_0_1, f1_0_0, f1_0_1⟩ := run_pair (At.at A1.out 0 rfl); have s1_0 : w.heap.size < w1.heap.size := At.lt A1.out 0 rfl; obtain ⟨⟨c1_1_0, c1_1_1, c1_1_2, c1_1_3⟩, f1_1_0, f1_1_1, f1_1_2, f1_1_3⟩ := run_four (At.at A1.out 1 rfl); have s1_1 : w.heap.size + 1 < w1.heap.size := At.lt A1.out 1 rfl))
      refine bodyPost_ret (RT.results_row2 rfl _ _ (w.heap.size + 1) 41 #[.int .i64 0, .int .i64 0, .int .i64 0, .int .i64 0] (0, 0) _ rfl (store_four (v0 := .int .i64 0) (v1 := .int .i64 0) (v2 := .int .i64 0) (v3 := .int .i64 0) (At.at A1.out 1 rfl)).1 Tryd.underlying41 rfl info_span) rfl ?_
      exact ⟨rfl, (store_four (v0 := .int .i64 0) (v1 := .int .i64 0) (v2 := .int .i64 0) (v3 := .int .i64 0) (At.at A1.out 1 rfl)).2.2 w (by omega) E1.out⟩
    · have h3 : 32768 < c := by omega
      have t1 : decide (a1 < 0) = false := decide_eq_false h1
      have t2 : decide (c < 1) = false := decide_eq_false h2
      have t3 : decide (32768 < c) = true := decide_eq_true h3
      clear h h1 h2 h3
      go_enter Tryd.func46, Tryd.ntmps46
      go_wp2_with (first | (go_at_call 50; (with_reducible refine (K1.out _).mono ?_); rintro E w1 ⟨rfl, hb1⟩; have A1 := Lib.hid (show At w1 [(w.heap.size, Obj.cells #[.int .i64 a1, .int .i64 a2] 23), (w.heap.size + 1, Obj.cells #[.int .i64 0, .int .i64 0, .int .i64 0, .int .i64 0] 41)] from At.ext hb1 (show At _ [(w.heap.size, Obj.cells #[.int .i64 a1, .int .i64 a2] 23), (w.heap.size + 1, Obj.cells #[.int .i64 0, .int .i64 0, .int .i64 0, .int .i64 0] 41)] from ⟨(by repeat (first | (refine blk_at _ _ ?_; (first | rfl | (simp only [size_one]; done))) | refine (blk_past _ _ (by simp only [size_one]; omega)).trans ?_)), (by repeat (first | (refine blk_at _ _ ?_; (first | rfl | (simp only [size_one]; done))) | refine (blk_past _ _ (by simp only [size_one]; omega)).trans ?_)), trivial⟩)); have E1 := Lib.hid (((show Ext w _ from (by repeat (first | exact Ext.refl _ | assumption | refine Ext.alloc ?_ _ | refine Ext.drewN ?_ _ | refine ext_grow ?_ _ _ | refine Ext.setCell ?_ (by first | exact Nat.le_refl _ | omega | (simp; done) | (simp; omega)) _ | refine Ext.trans ?_ (by assumption))))).trans hb1); obtain ⟨c1_0_0, c1_0_1, f1_0_0, f1_0_1⟩ := run_pair (At.at A1.out 0 rfl); have s1_0 : w.heap.size < w1.heap.size := At.lt A1.out 0 rfl; obtain ⟨⟨c1_1_0, c1_1_1, c1_1_2, c1_1_3⟩, f1_1_0, f1_1_1, f1_1_2, f1_1_3⟩ := run_four (At.at A1.out 1 rfl); have s1_1 : w.heap.size + 1 < w1.heap.size := At.lt A1.out 1 rfl))
      refine bodyPost_ret (RT.results_row2 rfl _ _ (w.heap.size + 1) 41 #[.int .i64 0, .int .i64 0, .int .i64 0, .int .i64 0] (0, 0) _ rfl (store_four (v0 := .int .i64 0) (v1 := .int .i64 0) (v2 := .int .i64 0) (v3 := .int .i64 0) (At.at A1.out 1 rfl)).1 Tryd.underlying41 rfl info_span) rfl ?_
      exact ⟨rfl, (store_four (v0 := .int .i64 0) (v1 := .int .i64 0) (v2 := .int .i64 0) (v3 := .int .i64 0) (At.at A1.out 1 rfl)).2.2 w (by omega) E1.out⟩
set_option maxRecDepth 100000 in
set_option maxHeartbeats 8000000 in
theorem rRoot_rest (a1 a2 c z m1 m2 e1 h1 h2 e2 Ph Pl Qh Ql Zh Zl Sh Sl : Int) (N D : Nat) (tq : Int → Value) (lt : Int → Bool) (w : World)
    (l1 : 0 ≤ a1)
    (l2 : 1 ≤ c)
    (l3 : c ≤ 32768)
    (l4 : 0 ≤ c * c)
    (l5 : c * c ≤ 1073741824)
    (t1 : decide (a1 < 0) = false)
    (t2 : decide (c < 1) = false)
    (t3 : decide (32768 < c) = false)
    (hl0 : lt 0 = false)
    (hl1 : lt 140737488355328 = true)
    (hz : ∀ lo : Int, 0 ≤ lo → lt lo = false → lt (lo + 1) = true → lo = z)
    (hr : (Zh == 0) = false ∨ Zl ≠ 0 ∧ Zh = 0)
    (k1 : ∀ w, Calls Tryd.prog 50 #[fracV ⟨a1, a2⟩] w fun E w' => E = .returned (.bool true) ∧ Ext w w')
    (k2 : ∀ w, Calls Tryd.prog 81 #[.int .i64 a1] w fun E w' => E = .returned (.int .u64 (N : Int)) ∧ Ext w w')
    (k3 : ∀ w, Calls Tryd.prog 81 #[.int .i64 a2] w fun E w' => E = .returned (.int .u64 (D : Int)) ∧ Ext w w')
    (k4 : ∀ w, Calls Tryd.prog 80 #[.int .u64 (N : Int), .int .u64 (c * c)] w fun E w' => E = .returned (.agg #[.int .u64 Ph, .int .u64 Pl]) ∧ Ext w w')
    (k5 : ∀ w, Calls Tryd.prog 79 #[.agg #[.int .u64 Ph, .int .u64 Pl], .agg #[.int .u64 0, .int .u64 (D : Int)]] w fun E w' => E = .returned (.tuple #[.agg #[.int .u64 Qh, .int .u64 Ql], .agg #[.int .u64 Zh, .int .u64 Zl]]) ∧ Ext w w')
    (kt : ∀ m : Int, 0 ≤ m → m ≤ 140737488355328 → ∀ w, Calls Tryd.prog 80 #[.int .u64 m, .int .u64 m] w fun E w' => E = .returned (tq m) ∧ Ext w w')
    (kl : ∀ m : Int, 0 ≤ m → m ≤ 140737488355328 → ∀ w, Calls Tryd.prog 82 #[.agg #[.int .u64 Qh, .int .u64 Ql], tq m] w fun E w' => E = .returned (.bool (lt m)) ∧ Ext w w')
    (k6 : ∀ w, Calls Tryd.prog 83 #[.int .i64 z, .int .i64 c] w fun E w' => E = .returned (fansV (⟨m1, m2⟩, e1)) ∧ Ext w w')
    (k7 : ∀ w, Calls Tryd.prog 83 #[.int .i64 (z + 1), .int .i64 c] w fun E w' => E = .returned (fansV (⟨h1, h2⟩, e2)) ∧ Ext w w')
    (k8 : ∀ w, Calls Tryd.prog 80 #[.int .u64 z, .int .u64 z] w fun E w' => E = .returned (.agg #[.int .u64 Sh, .int .u64 Sl]) ∧ Ext w w') :
    Calls Tryd.prog 46 #[fracV ⟨a1, a2⟩, .int .i64 c] w fun E w' => E = .returned (.tuple #[.agg #[.int .i64 m1, .int .i64 m2, .int .i64 h1, .int .i64 h2], .int .i64 0]) ∧ Ext w w' := by
  have K1 := Lib.hid k1
  have K2 := Lib.hid k2
  have K3 := Lib.hid k3
  have K4 := Lib.hid k4
  have K5 := Lib.hid k5
  have KT := Lib.hid kt
  have KL := Lib.hid kl
  have K6 := Lib.hid k6
  have K7 := Lib.hid k7
  have K8 := Lib.hid k8
  clear k1 k2 k3 k4 k5 kt kl k6 k7 k8
  rcases hr with hr | ⟨hr1, hr2⟩
  · go_enter Tryd.func46, Tryd.ntmps46
    go_wp2_with (first | (go_at_call 50; (with_reducible refine (K1.out _).mono ?_); rintro E w1 ⟨rfl, hb1⟩; have A1 := Lib.hid (show At w1 [(w.heap.size, Obj.cells #[.int .i64 a1, .int .i64 a2] 23), (w.heap.size + 1, Obj.cells #[.int .i64 0, .int .i64 0, .int .i64 0, .int .i64 0] 41)] from At.ext hb1 (show At _ [(w.heap.size, Obj.cells #[.int .i64 a1, .int .i64 a2] 23), (w.heap.size + 1, Obj.cells #[.int .i64 0, .int .i64 0, .int .i64 0, .int .i64 0] 41)] from ⟨(by repeat (first | (refine blk_at _ _ ?_; (first | rfl | (simp only [size_one]; done))) | refine (blk_past _ _ (by simp only [size_one]; omega)).trans ?_)), (by repeat (first | (refine blk_at _ _ ?_; (first | rfl | (simp only [size_one]; done))) | refine (blk_past _ _ (by simp only [size_one]; omega)).trans ?_)), trivial⟩)); have E1 := Lib.hid (((show Ext w _ from (by repeat (first | exact Ext.refl _ | assumption | refine Ext.alloc ?_ _ | refine Ext.drewN ?_ _ | refine ext_grow ?_ _ _ | refine Ext.setCell ?_ (by first | exact Nat.le_refl _ | omega | (simp; done) | (simp; omega)) _ | refine Ext.trans ?_ (by assumption))))).trans hb1); obtain ⟨c1_0_0, c1_0_1, f1_0_0, f1_0_1⟩ := run_pair (At.at A1.out 0 rfl); have s1_0 : w.heap.size < w1.heap.size := At.lt A1.out 0 rfl; obtain ⟨⟨c1_1_0, c1_1_1, c1_1_2, c1_1_3⟩, f1_1_0, f1_1_1, f1_1_2, f1_1_3⟩ := run_four (At.at A1.out 1 rfl); have s1_1 : w.heap.size + 1 < w1.heap.size := At.lt A1.out 1 rfl))
    refine RT.region_two (aq := ?az1) (n := 16) (sx := 6) (sy := 7) (vx := 45) (vy := 46) (oz := Obj.cells #[.int .u64 0, .int .u64 0] 106) (ox := Obj.cells #[.int .u64 Qh, .int .u64 Ql] 106) (oy := Obj.cells #[.int .u64 Zh, .int .u64 Zl] 106) (qs := [_, _, _, _, _, _, _, _, _, _, _, _, _, _, _, _]) (by kernel_rfl) rfl (by kernel_rfl) (by kernel_rfl) rfl rfl (of_decide_eq_true (by kernel_rfl)) (of_decide_eq_true (by kernel_rfl)) rfl rfl rfl rfl (by kernel_rfl) (by kernel_rfl) (by kernel_rfl) (by kernel_rfl) ?_ ?_ ?_ ?_ ?_ ?_
    rotate_left
    · intro e w
      simp [execOp, go_sem, Tryd.underlying106]
    · intro e w
      simp [execOp, go_sem, Tryd.underlying106]
    · intro wq hEq
      have AQ := Lib.hid (show At wq [(w.heap.size, Obj.cells #[.int .i64 a1, .int .i64 a2] 23), (w.heap.size + 1, Obj.cells #[.int .i64 0, .int .i64 0, .int .i64 0, .int .i64 0] 41)] from At.ext hEq A1.out)
      obtain ⟨q_0_0, q_0_1, r_0_0, r_0_1⟩ := run_pair (At.at AQ.out 0 rfl)
      have sq_0 : w.heap.size < wq.heap.size := At.lt AQ.out 0 rfl
      obtain ⟨⟨q_1_0, q_1_1, q_1_2, q_1_3⟩, r_1_0, r_1_1, r_1_2, r_1_3⟩ := run_four (At.at AQ.out 1 rfl)
      have sq_1 : w.heap.size + 1 < wq.heap.size := At.lt AQ.out 1 rfl
      clear hEq
      simp only [List.cons_append, List.nil_append]
      repeat (go_big_quiet_step ((first | (go_at_call 81; with_reducible exact Calls.ext_of (K2.out _)) | (go_at_call 81; with_reducible exact Calls.ext_of (K3.out _)) | (go_at_call 80; with_reducible exact Calls.ext_of (K4.out _)) | (go_at_call 79; with_reducible exact Calls.ext_of (K5.out _)))))
      refine wpQuiet_nil ?_
      exact rfl
    · intro e w b h1 h2 h3
      obtain ⟨c0, c1, f0, f1⟩ := run_pair h3
      have h2' : e (.tmp 45) = .agg #[.int .u64 Qh, .int .u64 Ql] := h2
      apply Exists.intro
      apply And.intro
      · simp [execOp, go_sem, h1, h2', c0, c1, f0, f1, Tryd.underlying106]
        exact rfl
      · exact store_pair h3
    · intro e w b h1 h2 h3
      obtain ⟨c0, c1, f0, f1⟩ := run_pair h3
      have h2' : e (.tmp 46) = .agg #[.int .u64 Zh, .int .u64 Zl] := h2
      apply Exists.intro
      apply And.intro
      · simp [execOp, go_sem, h1, h2', c0, c1, f0, f1, Tryd.underlying106]
        exact rfl
      · exact store_pair h3
    · intro bx2 by2 w2 hE2 hbx2 hby2 hne2 hX2 hY2
      have A2 := Lib.hid (show At w2 [(bx2, Obj.cells #[.int .u64 Qh, .int .u64 Ql] 106), (by2, Obj.cells #[.int .u64 Zh, .int .u64 Zl] 106), (w.heap.size, Obj.cells #[.int .i64 a1, .int .i64 a2] 23), (w.heap.size + 1, Obj.cells #[.int .i64 0, .int .i64 0, .int .i64 0, .int .i64 0] 41)] from ⟨hX2, hY2, At.ext hE2 A1.out⟩)
      have E2 := Lib.hid ((E1.out).trans hE2)
      obtain ⟨c2_0_0, c2_0_1, f2_0_0, f2_0_1⟩ := run_pair (At.at A2.out 0 rfl)
      have s2_0 : bx2 < w2.heap.size := At.lt A2.out 0 rfl
      obtain ⟨c2_1_0, c2_1_1, f2_1_0, f2_1_1⟩ := run_pair (At.at A2.out 1 rfl)
      have s2_1 : by2 < w2.heap.size := At.lt A2.out 1 rfl
      obtain ⟨c2_2_0, c2_2_1, f2_2_0, f2_2_1⟩ := run_pair (At.at A2.out 2 rfl)
      have s2_2 : w.heap.size < w2.heap.size := At.lt A2.out 2 rfl
      obtain ⟨⟨c2_3_0, c2_3_1, c2_3_2, c2_3_3⟩, f2_3_0, f2_3_1, f2_3_2, f2_3_3⟩ := run_four (At.at A2.out 3 rfl)
      have s2_3 : w.heap.size + 1 < w2.heap.size := At.lt A2.out 3 rfl
      have y2bx_0 : w.heap.size < bx2 := Nat.lt_of_lt_of_le (At.lt A1.out 0 rfl) hbx2
      have y2bx_1 : w.heap.size + 1 < bx2 := Nat.lt_of_lt_of_le (At.lt A1.out 1 rfl) hbx2
      have y2bx_w : w.heap.size ≤ bx2 := by omega
      have y2by_0 : w.heap.size < by2 := Nat.lt_of_lt_of_le (At.lt A1.out 0 rfl) hby2
      have y2by_1 : w.heap.size + 1 < by2 := Nat.lt_of_lt_of_le (At.lt A1.out 1 rfl) hby2
      have y2by_w : w.heap.size ≤ by2 := by omega
      clear hbx2 hby2 hE2 hX2 hY2
      go_wp2
      go_loopw [8, 9] (fun x y wr => ∃ lo hi : Int, x = .int .u64 lo ∧ y = .int .u64 hi ∧ 0 ≤ lo ∧ lo < hi ∧ hi ≤ 140737488355328 ∧ Ext w wr ∧ Hid (At wr [(bx2, Obj.cells #[.int .u64 Qh, .int .u64 Ql] 106), (by2, Obj.cells #[.int .u64 Zh, .int .u64 Zl] 106), (w.heap.size, Obj.cells #[.int .i64 a1, .int .i64 a2] 23), (w.heap.size + 1, Obj.cells #[.int .i64 0, .int .i64 0, .int .i64 0, .int .i64 0] 41)]) ∧ Hid (lt lo = false ∧ lt hi = true)) (fun x y _ => (intOf y - intOf x).toNat)
      case atStart => exact ⟨0, 140737488355328, rfl, rfl, by omega, by omega, by omega, E2.out, Lib.hid A2.out, Lib.hid ⟨hl0, hl1⟩⟩
      case round =>
        obtain ⟨lo, hi, rfl, rfl, l0, l1, l2, hE, hA, hI⟩ := hrel
        by_cases hg : 1 < hi - lo
        · obtain ⟨b, hb⟩ : ∃ b, lt ((lo + hi) / 2) = b := ⟨_, rfl⟩
          have km := KL.out ((lo + hi) / 2) (by omega) (by omega)
          rw [hb] at km
          have KM := Lib.hid km
          have hlt := Lib.hid hb
          clear km hb
          cases b
          · skip
            obtain ⟨c50_0_0, c50_0_1, f50_0_0, f50_0_1⟩ := run_pair (At.at hA.out 0 rfl)
            have s50_0 : bx2 < wr.heap.size := At.lt hA.out 0 rfl
            obtain ⟨c50_1_0, c50_1_1, f50_1_0, f50_1_1⟩ := run_pair (At.at hA.out 1 rfl)
            have s50_1 : by2 < wr.heap.size := At.lt hA.out 1 rfl
            obtain ⟨c50_2_0, c50_2_1, f50_2_0, f50_2_1⟩ := run_pair (At.at hA.out 2 rfl)
            have s50_2 : w.heap.size < wr.heap.size := At.lt hA.out 2 rfl
            obtain ⟨⟨c50_3_0, c50_3_1, c50_3_2, c50_3_3⟩, f50_3_0, f50_3_1, f50_3_2, f50_3_3⟩ := run_four (At.at hA.out 3 rfl)
            have s50_3 : w.heap.size + 1 < wr.heap.size := At.lt hA.out 3 rfl
            go_wp2
            refine wp_region_quiet_below (by kernel_rfl) (by kernel_rfl) ?_
            repeat (go_big_quiet_step ((first | (go_at_call 80; with_reducible exact Calls.ext_of (KT.out ((lo + hi) / 2) (by omega) (by omega) _)) | (go_at_call 82; with_reducible exact Calls.ext_of (KM.out _)))))
            refine wpQuiet_nil ?_
            intro w51 hw'
            obtain ⟨pq, hw''⟩ := hw'
            have hb51 := ext_of_regrown hw''
            clear hw'' pq
            have A51 := Lib.hid (show At w51 [(bx2, Obj.cells #[.int .u64 Qh, .int .u64 Ql] 106), (by2, Obj.cells #[.int .u64 Zh, .int .u64 Zl] 106), (w.heap.size, Obj.cells #[.int .i64 a1, .int .i64 a2] 23), (w.heap.size + 1, Obj.cells #[.int .i64 0, .int .i64 0, .int .i64 0, .int .i64 0] 41)] from At.ext hb51 hA.out)
            have E51 := Lib.hid ((hE).trans hb51)
            clear hb51
            obtain ⟨c51_0_0, c51_0_1, f51_0_0, f51_0_1⟩ := run_pair (At.at A51.out 0 rfl)
            have s51_0 : bx2 < w51.heap.size := At.lt A51.out 0 rfl
            obtain ⟨c51_1_0, c51_1_1, f51_1_0, f51_1_1⟩ := run_pair (At.at A51.out 1 rfl)
            have s51_1 : by2 < w51.heap.size := At.lt A51.out 1 rfl
            obtain ⟨c51_2_0, c51_2_1, f51_2_0, f51_2_1⟩ := run_pair (At.at A51.out 2 rfl)
            have s51_2 : w.heap.size < w51.heap.size := At.lt A51.out 2 rfl
            obtain ⟨⟨c51_3_0, c51_3_1, c51_3_2, c51_3_3⟩, f51_3_0, f51_3_1, f51_3_2, f51_3_3⟩ := run_four (At.at A51.out 3 rfl)
            have s51_3 : w.heap.size + 1 < w51.heap.size := At.lt A51.out 3 rfl
            go_wp2
            go_roundw
            case rel => exact ⟨(lo + hi) / 2, hi, rfl, rfl, by omega, by omega, by omega, E51.out, A51, Lib.hid ⟨hlt.out, hI.out.2⟩⟩
            case measure => simp [intOf]; omega
          · skip
            obtain ⟨c50_0_0, c50_0_1, f50_0_0, f50_0_1⟩ := run_pair (At.at hA.out 0 rfl)
            have s50_0 : bx2 < wr.heap.size := At.lt hA.out 0 rfl
            obtain ⟨c50_1_0, c50_1_1, f50_1_0, f50_1_1⟩ := run_pair (At.at hA.out 1 rfl)
            have s50_1 : by2 < wr.heap.size := At.lt hA.out 1 rfl
            obtain ⟨c50_2_0, c50_2_1, f50_2_0, f50_2_1⟩ := run_pair (At.at hA.out 2 rfl)
            have s50_2 : w.heap.size < wr.heap.size := At.lt hA.out 2 rfl
            obtain ⟨⟨c50_3_0, c50_3_1, c50_3_2, c50_3_3⟩, f50_3_0, f50_3_1, f50_3_2, f50_3_3⟩ := run_four (At.at hA.out 3 rfl)
            have s50_3 : w.heap.size + 1 < wr.heap.size := At.lt hA.out 3 rfl
            go_wp2
            refine wp_region_quiet_below (by kernel_rfl) (by kernel_rfl) ?_
            repeat (go_big_quiet_step ((first | (go_at_call 80; with_reducible exact Calls.ext_of (KT.out ((lo + hi) / 2) (by omega) (by omega) _)) | (go_at_call 82; with_reducible exact Calls.ext_of (KM.out _)))))
            refine wpQuiet_nil ?_
            intro w51 hw'
            obtain ⟨pq, hw''⟩ := hw'
            have hb51 := ext_of_regrown hw''
            clear hw'' pq
            have A51 := Lib.hid (show At w51 [(bx2, Obj.cells #[.int .u64 Qh, .int .u64 Ql] 106), (by2, Obj.cells #[.int .u64 Zh, .int .u64 Zl] 106), (w.heap.size, Obj.cells #[.int .i64 a1, .int .i64 a2] 23), (w.heap.size + 1, Obj.cells #[.int .i64 0, .int .i64 0, .int .i64 0, .int .i64 0] 41)] from At.ext hb51 hA.out)
            have E51 := Lib.hid ((hE).trans hb51)
            clear hb51
            obtain ⟨c51_0_0, c51_0_1, f51_0_0, f51_0_1⟩ := run_pair (At.at A51.out 0 rfl)
            have s51_0 : bx2 < w51.heap.size := At.lt A51.out 0 rfl
            obtain ⟨c51_1_0, c51_1_1, f51_1_0, f51_1_1⟩ := run_pair (At.at A51.out 1 rfl)
            have s51_1 : by2 < w51.heap.size := At.lt A51.out 1 rfl
            obtain ⟨c51_2_0, c51_2_1, f51_2_0, f51_2_1⟩ := run_pair (At.at A51.out 2 rfl)
            have s51_2 : w.heap.size < w51.heap.size := At.lt A51.out 2 rfl
            obtain ⟨⟨c51_3_0, c51_3_1, c51_3_2, c51_3_3⟩, f51_3_0, f51_3_1, f51_3_2, f51_3_3⟩ := run_four (At.at A51.out 3 rfl)
            have s51_3 : w.heap.size + 1 < w51.heap.size := At.lt A51.out 3 rfl
            go_wp2
            go_roundw
            case rel => exact ⟨lo, (lo + hi) / 2, rfl, rfl, by omega, by omega, by omega, E51.out, A51, Lib.hid ⟨hI.out.1, hlt.out⟩⟩
            case measure => simp [intOf]; omega
        · obtain rfl : lo = z := hz lo l0 hI.out.1 (by rw [show lo + 1 = hi by omega]; exact hI.out.2)
          obtain rfl : hi = lo + 1 := by omega
          obtain ⟨c50_0_0, c50_0_1, f50_0_0, f50_0_1⟩ := run_pair (At.at hA.out 0 rfl)
          have s50_0 : bx2 < wr.heap.size := At.lt hA.out 0 rfl
          obtain ⟨c50_1_0, c50_1_1, f50_1_0, f50_1_1⟩ := run_pair (At.at hA.out 1 rfl)
          have s50_1 : by2 < wr.heap.size := At.lt hA.out 1 rfl
          obtain ⟨c50_2_0, c50_2_1, f50_2_0, f50_2_1⟩ := run_pair (At.at hA.out 2 rfl)
          have s50_2 : w.heap.size < wr.heap.size := At.lt hA.out 2 rfl
          obtain ⟨⟨c50_3_0, c50_3_1, c50_3_2, c50_3_3⟩, f50_3_0, f50_3_1, f50_3_2, f50_3_3⟩ := run_four (At.at hA.out 3 rfl)
          have s50_3 : w.heap.size + 1 < wr.heap.size := At.lt hA.out 3 rfl
          go_wp2_with (first | (go_at_call 83; (with_reducible refine (K6.out _).mono ?_); rintro E w51 ⟨rfl, hb51⟩; have A51 := Lib.hid (show At w51 [(bx2, Obj.cells #[.int .u64 Qh, .int .u64 Ql] 106), (by2, Obj.cells #[.int .u64 Zh, .int .u64 Zl] 106), (w.heap.size, Obj.cells #[.int .i64 a1, .int .i64 a2] 23), (w.heap.size + 1, Obj.cells #[.int .i64 0, .int .i64 0, .int .i64 0, .int .i64 0] 41)] from At.ext hb51 hA.out); have E51 := Lib.hid ((hE).trans hb51); obtain ⟨c51_0_0, c51_0_1, f51_0_0, f51_0_1⟩ := run_pair (At.at A51.out 0 rfl); have s51_0 : bx2 < w51.heap.size := At.lt A51.out 0 rfl; obtain ⟨c51_1_0, c51_1_1, f51_1_0, f51_1_1⟩ := run_pair (At.at A51.out 1 rfl); have s51_1 : by2 < w51.heap.size := At.lt A51.out 1 rfl; obtain ⟨c51_2_0, c51_2_1, f51_2_0, f51_2_1⟩ := run_pair (At.at A51.out 2 rfl); have s51_2 : w.heap.size < w51.heap.size := At.lt A51.out 2 rfl; obtain ⟨⟨c51_3_0, c51_3_1, c51_3_2, c51_3_3⟩, f51_3_0, f51_3_1, f51_3_2, f51_3_3⟩ := run_four (At.at A51.out 3 rfl); have s51_3 : w.heap.size + 1 < w51.heap.size := At.lt A51.out 3 rfl) | (go_at_call 83; (with_reducible refine (K7.out _).mono ?_); rintro E w52 ⟨rfl, hb52⟩; have A52 := Lib.hid (show At w52 [(w51.heap.size, Obj.cells #[.int .i64 m1, .int .i64 m2] 23), (bx2, Obj.cells #[.int .u64 Qh, .int .u64 Ql] 106), (by2, Obj.cells #[.int .u64 Zh, .int .u64 Zl] 106), (w.heap.size, Obj.cells #[.int .i64 a1, .int .i64 a2] 23), (w.heap.size + 1, Obj.cells #[.int .i64 0, .int .i64 0, .int .i64 0, .int .i64 0] 41)] from At.ext hb52 (show At _ [(w51.heap.size, Obj.cells #[.int .i64 m1, .int .i64 m2] 23), (bx2, Obj.cells #[.int .u64 Qh, .int .u64 Ql] 106), (by2, Obj.cells #[.int .u64 Zh, .int .u64 Zl] 106), (w.heap.size, Obj.cells #[.int .i64 a1, .int .i64 a2] 23), (w.heap.size + 1, Obj.cells #[.int .i64 0, .int .i64 0, .int .i64 0, .int .i64 0] 41)] from ⟨one_first _ _, At.alloc A51.out _⟩)); have E52 := Lib.hid ((((E51.out).alloc _)).trans hb52); obtain ⟨c52_0_0, c52_0_1, f52_0_0, f52_0_1⟩ := run_pair (At.at A52.out 0 rfl); have s52_0 : w51.heap.size < w52.heap.size := At.lt A52.out 0 rfl; obtain ⟨c52_1_0, c52_1_1, f52_1_0, f52_1_1⟩ := run_pair (At.at A52.out 1 rfl); have s52_1 : bx2 < w52.heap.size := At.lt A52.out 1 rfl; obtain ⟨c52_2_0, c52_2_1, f52_2_0, f52_2_1⟩ := run_pair (At.at A52.out 2 rfl); have s52_2 : by2 < w52.heap.size := At.lt A52.out 2 rfl; obtain ⟨c52_3_0, c52_3_1, f52_3_0, f52_3_1⟩ := run_pair (At.at A52.out 3 rfl); have s52_3 : w.heap.size < w52.heap.size := At.lt A52.out 3 rfl; obtain ⟨⟨c52_4_0, c52_4_1, c52_4_2, c52_4_3⟩, f52_4_0, f52_4_1, f52_4_2, f52_4_3⟩ := run_four (At.at A52.out 4 rfl); have s52_4 : w.heap.size + 1 < w52.heap.size := At.lt A52.out 4 rfl; (try clear c51_0_0 c51_0_1 f51_0_0 f51_0_1 c51_1_0 c51_1_1 f51_1_0 f51_1_1 c51_2_0 c51_2_1 f51_2_0 f51_2_1 c51_3_0 c51_3_1 c51_3_2 c51_3_3 f51_3_0 f51_3_1 f51_3_2 f51_3_3)))
          refine wp_region_quiet_below (by kernel_rfl) (by kernel_rfl) ?_
          repeat (go_big_quiet_step ((first | (go_at_call 80; with_reducible exact Calls.ext_of (K8.out _)))))
          refine wpQuiet_nil ?_
          intro w53 hw'
          obtain ⟨pq, hw''⟩ := hw'
          have hb53 := ext_of_regrown hw''
          clear hw'' pq
          have A53 := Lib.hid (show At w53 [(w52.heap.size, Obj.cells #[.int .i64 h1, .int .i64 h2] 23), (w51.heap.size, Obj.cells #[.int .i64 m1, .int .i64 m2] 23), (bx2, Obj.cells #[.int .u64 Qh, .int .u64 Ql] 106), (by2, Obj.cells #[.int .u64 Zh, .int .u64 Zl] 106), (w.heap.size, Obj.cells #[.int .i64 a1, .int .i64 a2] 23), (w.heap.size + 1, Obj.cells #[.int .i64 0, .int .i64 0, .int .i64 0, .int .i64 0] 41)] from At.ext hb53 (show At _ [(w52.heap.size, Obj.cells #[.int .i64 h1, .int .i64 h2] 23), (w51.heap.size, Obj.cells #[.int .i64 m1, .int .i64 m2] 23), (bx2, Obj.cells #[.int .u64 Qh, .int .u64 Ql] 106), (by2, Obj.cells #[.int .u64 Zh, .int .u64 Zl] 106), (w.heap.size, Obj.cells #[.int .i64 a1, .int .i64 a2] 23), (w.heap.size + 1, Obj.cells #[.int .i64 0, .int .i64 0, .int .i64 0, .int .i64 0] 41)] from ⟨one_first _ _, At.alloc A52.out _⟩))
          have E53 := Lib.hid ((((E52.out).alloc _)).trans hb53)
          clear hb53
          obtain ⟨c53_0_0, c53_0_1, f53_0_0, f53_0_1⟩ := run_pair (At.at A53.out 0 rfl)
          have s53_0 : w52.heap.size < w53.heap.size := At.lt A53.out 0 rfl
          obtain ⟨c53_1_0, c53_1_1, f53_1_0, f53_1_1⟩ := run_pair (At.at A53.out 1 rfl)
          have s53_1 : w51.heap.size < w53.heap.size := At.lt A53.out 1 rfl
          obtain ⟨c53_2_0, c53_2_1, f53_2_0, f53_2_1⟩ := run_pair (At.at A53.out 2 rfl)
          have s53_2 : bx2 < w53.heap.size := At.lt A53.out 2 rfl
          obtain ⟨c53_3_0, c53_3_1, f53_3_0, f53_3_1⟩ := run_pair (At.at A53.out 3 rfl)
          have s53_3 : by2 < w53.heap.size := At.lt A53.out 3 rfl
          obtain ⟨c53_4_0, c53_4_1, f53_4_0, f53_4_1⟩ := run_pair (At.at A53.out 4 rfl)
          have s53_4 : w.heap.size < w53.heap.size := At.lt A53.out 4 rfl
          obtain ⟨⟨c53_5_0, c53_5_1, c53_5_2, c53_5_3⟩, f53_5_0, f53_5_1, f53_5_2, f53_5_3⟩ := run_four (At.at A53.out 5 rfl)
          have s53_5 : w.heap.size + 1 < w53.heap.size := At.lt A53.out 5 rfl
          (try clear c52_0_0 c52_0_1 f52_0_0 f52_0_1 c52_1_0 c52_1_1 f52_1_0 f52_1_1 c52_2_0 c52_2_1 f52_2_0 f52_2_1 c52_3_0 c52_3_1 f52_3_0 f52_3_1 c52_4_0 c52_4_1 c52_4_2 c52_4_3 f52_4_0 f52_4_1 f52_4_2 f52_4_3)
          go_wp2
          refine bodyPost_ret (RT.results_row2 rfl _ _ (w.heap.size + 1) 41 #[.int .i64 m1, .int .i64 m2, .int .i64 h1, .int .i64 h2] (0, 0) _ rfl (store_four (v0 := .int .i64 m1) (v1 := .int .i64 m2) (v2 := .int .i64 h1) (v3 := .int .i64 h2) (At.at A53.out 5 rfl)).1 Tryd.underlying41 rfl info_span) rfl ?_
          exact ⟨rfl, (store_four (v0 := .int .i64 m1) (v1 := .int .i64 m2) (v2 := .int .i64 h1) (v3 := .int .i64 h2) (At.at A53.out 5 rfl)).2.2 w (by omega) E53.out⟩
  · subst hr2
    have hr3 : (Zl == 0) = false := by simpa using hr1
    clear hr1
    go_enter Tryd.func46, Tryd.ntmps46
    go_wp2_with (first | (go_at_call 50; (with_reducible refine (K1.out _).mono ?_); rintro E w1 ⟨rfl, hb1⟩; have A1 := Lib.hid (show At w1 [(w.heap.size, Obj.cells #[.int .i64 a1, .int .i64 a2] 23), (w.heap.size + 1, Obj.cells #[.int .i64 0, .int .i64 0, .int .i64 0, .int .i64 0] 41)] from At.ext hb1 (show At _ [(w.heap.size, Obj.cells #[.int .i64 a1, .int .i64 a2] 23), (w.heap.size + 1, Obj.cells #[.int .i64 0, .int .i64 0, .int .i64 0, .int .i64 0] 41)] from ⟨(by repeat (first | (refine blk_at _ _ ?_; (first | rfl | (simp only [size_one]; done))) | refine (blk_past _ _ (by simp only [size_one]; omega)).trans ?_)), (by repeat (first | (refine blk_at _ _ ?_; (first | rfl | (simp only [size_one]; done))) | refine (blk_past _ _ (by simp only [size_one]; omega)).trans ?_)), trivial⟩)); have E1 := Lib.hid (((show Ext w _ from (by repeat (first | exact Ext.refl _ | assumption | refine Ext.alloc ?_ _ | refine Ext.drewN ?_ _ | refine ext_grow ?_ _ _ | refine Ext.setCell ?_ (by first | exact Nat.le_refl _ | omega | (simp; done) | (simp; omega)) _ | refine Ext.trans ?_ (by assumption))))).trans hb1); obtain ⟨c1_0_0, c1_0_1, f1_0_0, f1_0_1⟩ := run_pair (At.at A1.out 0 rfl); have s1_0 : w.heap.size < w1.heap.size := At.lt A1.out 0 rfl; obtain ⟨⟨c1_1_0, c1_1_1, c1_1_2, c1_1_3⟩, f1_1_0, f1_1_1, f1_1_2, f1_1_3⟩ := run_four (At.at A1.out 1 rfl); have s1_1 : w.heap.size + 1 < w1.heap.size := At.lt A1.out 1 rfl))
    refine RT.region_two (aq := ?az2) (n := 16) (sx := 6) (sy := 7) (vx := 45) (vy := 46) (oz := Obj.cells #[.int .u64 0, .int .u64 0] 106) (ox := Obj.cells #[.int .u64 Qh, .int .u64 Ql] 106) (oy := Obj.cells #[.int .u64 0, .int .u64 Zl] 106) (qs := [_, _, _, _, _, _, _, _, _, _, _, _, _, _, _, _]) (by kernel_rfl) rfl (by kernel_rfl) (by kernel_rfl) rfl rfl (of_decide_eq_true (by kernel_rfl)) (of_decide_eq_true (by kernel_rfl)) rfl rfl rfl rfl (by kernel_rfl) (by kernel_rfl) (by kernel_rfl) (by kernel_rfl) ?_ ?_ ?_ ?_ ?_ ?_
    rotate_left
    · intro e w
      simp [execOp, go_sem, Tryd.underlying106]
    · intro e w
      simp [execOp, go_sem, Tryd.underlying106]
    · intro wq hEq
      have AQ := Lib.hid (show At wq [(w.heap.size, Obj.cells #[.int .i64 a1, .int .i64 a2] 23), (w.heap.size + 1, Obj.cells #[.int .i64 0, .int .i64 0, .int .i64 0, .int .i64 0] 41)] from At.ext hEq A1.out)
      obtain ⟨q_0_0, q_0_1, r_0_0, r_0_1⟩ := run_pair (At.at AQ.out 0 rfl)
      have sq_0 : w.heap.size < wq.heap.size := At.lt AQ.out 0 rfl
      obtain ⟨⟨q_1_0, q_1_1, q_1_2, q_1_3⟩, r_1_0, r_1_1, r_1_2, r_1_3⟩ := run_four (At.at AQ.out 1 rfl)
      have sq_1 : w.heap.size + 1 < wq.heap.size := At.lt AQ.out 1 rfl
      clear hEq
      simp only [List.cons_append, List.nil_append]
      repeat (go_big_quiet_step ((first | (go_at_call 81; with_reducible exact Calls.ext_of (K2.out _)) | (go_at_call 81; with_reducible exact Calls.ext_of (K3.out _)) | (go_at_call 80; with_reducible exact Calls.ext_of (K4.out _)) | (go_at_call 79; with_reducible exact Calls.ext_of (K5.out _)))))
      refine wpQuiet_nil ?_
      exact rfl
    · intro e w b h1 h2 h3
      obtain ⟨c0, c1, f0, f1⟩ := run_pair h3
      have h2' : e (.tmp 45) = .agg #[.int .u64 Qh, .int .u64 Ql] := h2
      apply Exists.intro
      apply And.intro
      · simp [execOp, go_sem, h1, h2', c0, c1, f0, f1, Tryd.underlying106]
        exact rfl
      · exact store_pair h3
    · intro e w b h1 h2 h3
      obtain ⟨c0, c1, f0, f1⟩ := run_pair h3
      have h2' : e (.tmp 46) = .agg #[.int .u64 0, .int .u64 Zl] := h2
      apply Exists.intro
      apply And.intro
      · simp [execOp, go_sem, h1, h2', c0, c1, f0, f1, Tryd.underlying106]
        exact rfl
      · exact store_pair h3
    · intro bx2 by2 w2 hE2 hbx2 hby2 hne2 hX2 hY2
      have A2 := Lib.hid (show At w2 [(bx2, Obj.cells #[.int .u64 Qh, .int .u64 Ql] 106), (by2, Obj.cells #[.int .u64 0, .int .u64 Zl] 106), (w.heap.size, Obj.cells #[.int .i64 a1, .int .i64 a2] 23), (w.heap.size + 1, Obj.cells #[.int .i64 0, .int .i64 0, .int .i64 0, .int .i64 0] 41)] from ⟨hX2, hY2, At.ext hE2 A1.out⟩)
      have E2 := Lib.hid ((E1.out).trans hE2)
      obtain ⟨c2_0_0, c2_0_1, f2_0_0, f2_0_1⟩ := run_pair (At.at A2.out 0 rfl)
      have s2_0 : bx2 < w2.heap.size := At.lt A2.out 0 rfl
      obtain ⟨c2_1_0, c2_1_1, f2_1_0, f2_1_1⟩ := run_pair (At.at A2.out 1 rfl)
      have s2_1 : by2 < w2.heap.size := At.lt A2.out 1 rfl
      obtain ⟨c2_2_0, c2_2_1, f2_2_0, f2_2_1⟩ := run_pair (At.at A2.out 2 rfl)
      have s2_2 : w.heap.size < w2.heap.size := At.lt A2.out 2 rfl
      obtain ⟨⟨c2_3_0, c2_3_1, c2_3_2, c2_3_3⟩, f2_3_0, f2_3_1, f2_3_2, f2_3_3⟩ := run_four (At.at A2.out 3 rfl)
      have s2_3 : w.heap.size + 1 < w2.heap.size := At.lt A2.out 3 rfl
      have y2bx_0 : w.heap.size < bx2 := Nat.lt_of_lt_of_le (At.lt A1.out 0 rfl) hbx2
      have y2bx_1 : w.heap.size + 1 < bx2 := Nat.lt_of_lt_of_le (At.lt A1.out 1 rfl) hbx2
      have y2bx_w : w.heap.size ≤ bx2 := by omega
      have y2by_0 : w.heap.size < by2 := Nat.lt_of_lt_of_le (At.lt A1.out 0 rfl) hby2
      have y2by_1 : w.heap.size + 1 < by2 := Nat.lt_of_lt_of_le (At.lt A1.out 1 rfl) hby2
      have y2by_w : w.heap.size ≤ by2 := by omega
      clear hbx2 hby2 hE2 hX2 hY2
      go_wp2
      go_loopw [8, 9] (fun x y wr => ∃ lo hi : Int, x = .int .u64 lo ∧ y = .int .u64 hi ∧ 0 ≤ lo ∧ lo < hi ∧ hi ≤ 140737488355328 ∧ Ext w wr ∧ Hid (At wr [(bx2, Obj.cells #[.int .u64 Qh, .int .u64 Ql] 106), (by2, Obj.cells #[.int .u64 0, .int .u64 Zl] 106), (w.heap.size, Obj.cells #[.int .i64 a1, .int .i64 a2] 23), (w.heap.size + 1, Obj.cells #[.int .i64 0, .int .i64 0, .int .i64 0, .int .i64 0] 41)]) ∧ Hid (lt lo = false ∧ lt hi = true)) (fun x y _ => (intOf y - intOf x).toNat)
      case atStart => exact ⟨0, 140737488355328, rfl, rfl, by omega, by omega, by omega, E2.out, Lib.hid A2.out, Lib.hid ⟨hl0, hl1⟩⟩
      case round =>
        obtain ⟨lo, hi, rfl, rfl, l0, l1, l2, hE, hA, hI⟩ := hrel
        by_cases hg : 1 < hi - lo
        · obtain ⟨b, hb⟩ : ∃ b, lt ((lo + hi) / 2) = b := ⟨_, rfl⟩
          have km := KL.out ((lo + hi) / 2) (by omega) (by omega)
          rw [hb] at km
          have KM := Lib.hid km
          have hlt := Lib.hid hb
          clear km hb
          cases b
          · skip
            obtain ⟨c50_0_0, c50_0_1, f50_0_0, f50_0_1⟩ := run_pair (At.at hA.out 0 rfl)
            have s50_0 : bx2 < wr.heap.size := At.lt hA.out 0 rfl
            obtain ⟨c50_1_0, c50_1_1, f50_1_0, f50_1_1⟩ := run_pair (At.at hA.out 1 rfl)
            have s50_1 : by2 < wr.heap.size := At.lt hA.out 1 rfl
            obtain ⟨c50_2_0, c50_2_1, f50_2_0, f50_2_1⟩ := run_pair (At.at hA.out 2 rfl)
            have s50_2 : w.heap.size < wr.heap.size := At.lt hA.out 2 rfl
            obtain ⟨⟨c50_3_0, c50_3_1, c50_3_2, c50_3_3⟩, f50_3_0, f50_3_1, f50_3_2, f50_3_3⟩ := run_four (At.at hA.out 3 rfl)
            have s50_3 : w.heap.size + 1 < wr.heap.size := At.lt hA.out 3 rfl
            go_wp2
            refine wp_region_quiet_below (by kernel_rfl) (by kernel_rfl) ?_
            repeat (go_big_quiet_step ((first | (go_at_call 80; with_reducible exact Calls.ext_of (KT.out ((lo + hi) / 2) (by omega) (by omega) _)) | (go_at_call 82; with_reducible exact Calls.ext_of (KM.out _)))))
            refine wpQuiet_nil ?_
            intro w51 hw'
            obtain ⟨pq, hw''⟩ := hw'
            have hb51 := ext_of_regrown hw''
            clear hw'' pq
            have A51 := Lib.hid (show At w51 [(bx2, Obj.cells #[.int .u64 Qh, .int .u64 Ql] 106), (by2, Obj.cells #[.int .u64 0, .int .u64 Zl] 106), (w.heap.size, Obj.cells #[.int .i64 a1, .int .i64 a2] 23), (w.heap.size + 1, Obj.cells #[.int .i64 0, .int .i64 0, .int .i64 0, .int .i64 0] 41)] from At.ext hb51 hA.out)
            have E51 := Lib.hid ((hE).trans hb51)
            clear hb51
            obtain ⟨c51_0_0, c51_0_1, f51_0_0, f51_0_1⟩ := run_pair (At.at A51.out 0 rfl)
            have s51_0 : bx2 < w51.heap.size := At.lt A51.out 0 rfl
            obtain ⟨c51_1_0, c51_1_1, f51_1_0, f51_1_1⟩ := run_pair (At.at A51.out 1 rfl)
            have s51_1 : by2 < w51.heap.size := At.lt A51.out 1 rfl
            obtain ⟨c51_2_0, c51_2_1, f51_2_0, f51_2_1⟩ := run_pair (At.at A51.out 2 rfl)
            have s51_2 : w.heap.size < w51.heap.size := At.lt A51.out 2 rfl
            obtain ⟨⟨c51_3_0, c51_3_1, c51_3_2, c51_3_3⟩, f51_3_0, f51_3_1, f51_3_2, f51_3_3⟩ := run_four (At.at A51.out 3 rfl)
            have s51_3 : w.heap.size + 1 < w51.heap.size := At.lt A51.out 3 rfl
            go_wp2
            go_roundw
            case rel => exact ⟨(lo + hi) / 2, hi, rfl, rfl, by omega, by omega, by omega, E51.out, A51, Lib.hid ⟨hlt.out, hI.out.2⟩⟩
            case measure => simp [intOf]; omega
          · skip
            obtain ⟨c50_0_0, c50_0_1, f50_0_0, f50_0_1⟩ := run_pair (At.at hA.out 0 rfl)
            have s50_0 : bx2 < wr.heap.size := At.lt hA.out 0 rfl
            obtain ⟨c50_1_0, c50_1_1, f50_1_0, f50_1_1⟩ := run_pair (At.at hA.out 1 rfl)
            have s50_1 : by2 < wr.heap.size := At.lt hA.out 1 rfl
            obtain ⟨c50_2_0, c50_2_1, f50_2_0, f50_2_1⟩ := run_pair (At.at hA.out 2 rfl)
            have s50_2 : w.heap.size < wr.heap.size := At.lt hA.out 2 rfl
            obtain ⟨⟨c50_3_0, c50_3_1, c50_3_2, c50_3_3⟩, f50_3_0, f50_3_1, f50_3_2, f50_3_3⟩ := run_four (At.at hA.out 3 rfl)
            have s50_3 : w.heap.size + 1 < wr.heap.size := At.lt hA.out 3 rfl
            go_wp2
            refine wp_region_quiet_below (by kernel_rfl) (by kernel_rfl) ?_
            repeat (go_big_quiet_step ((first | (go_at_call 80; with_reducible exact Calls.ext_of (KT.out ((lo + hi) / 2) (by omega) (by omega) _)) | (go_at_call 82; with_reducible exact Calls.ext_of (KM.out _)))))
            refine wpQuiet_nil ?_
            intro w51 hw'
            obtain ⟨pq, hw''⟩ := hw'
            have hb51 := ext_of_regrown hw''
            clear hw'' pq
            have A51 := Lib.hid (show At w51 [(bx2, Obj.cells #[.int .u64 Qh, .int .u64 Ql] 106), (by2, Obj.cells #[.int .u64 0, .int .u64 Zl] 106), (w.heap.size, Obj.cells #[.int .i64 a1, .int .i64 a2] 23), (w.heap.size + 1, Obj.cells #[.int .i64 0, .int .i64 0, .int .i64 0, .int .i64 0] 41)] from At.ext hb51 hA.out)
            have E51 := Lib.hid ((hE).trans hb51)
            clear hb51
            obtain ⟨c51_0_0, c51_0_1, f51_0_0, f51_0_1⟩ := run_pair (At.at A51.out 0 rfl)
            have s51_0 : bx2 < w51.heap.size := At.lt A51.out 0 rfl
            obtain ⟨c51_1_0, c51_1_1, f51_1_0, f51_1_1⟩ := run_pair (At.at A51.out 1 rfl)
            have s51_1 : by2 < w51.heap.size := At.lt A51.out 1 rfl
            obtain ⟨c51_2_0, c51_2_1, f51_2_0, f51_2_1⟩ := run_pair (At.at A51.out 2 rfl)
            have s51_2 : w.heap.size < w51.heap.size := At.lt A51.out 2 rfl
            obtain ⟨⟨c51_3_0, c51_3_1, c51_3_2, c51_3_3⟩, f51_3_0, f51_3_1, f51_3_2, f51_3_3⟩ := run_four (At.at A51.out 3 rfl)
            have s51_3 : w.heap.size + 1 < w51.heap.size := At.lt A51.out 3 rfl
            go_wp2
            go_roundw
            case rel => exact ⟨lo, (lo + hi) / 2, rfl, rfl, by omega, by omega, by omega, E51.out, A51, Lib.hid ⟨hI.out.1, hlt.out⟩⟩
            case measure => simp [intOf]; omega
        · obtain rfl : lo = z := hz lo l0 hI.out.1 (by rw [show lo + 1 = hi by omega]; exact hI.out.2)
          obtain rfl : hi = lo + 1 := by omega
          obtain ⟨c50_0_0, c50_0_1, f50_0_0, f50_0_1⟩ := run_pair (At.at hA.out 0 rfl)
          have s50_0 : bx2 < wr.heap.size := At.lt hA.out 0 rfl
          obtain ⟨c50_1_0, c50_1_1, f50_1_0, f50_1_1⟩ := run_pair (At.at hA.out 1 rfl)
          have s50_1 : by2 < wr.heap.size := At.lt hA.out 1 rfl
          obtain ⟨c50_2_0, c50_2_1, f50_2_0, f50_2_1⟩ := run_pair (At.at hA.out 2 rfl)
          have s50_2 : w.heap.size < wr.heap.size := At.lt hA.out 2 rfl
          obtain ⟨⟨c50_3_0, c50_3_1, c50_3_2, c50_3_3⟩, f50_3_0, f50_3_1, f50_3_2, f50_3_3⟩ := run_four (At.at hA.out 3 rfl)
          have s50_3 : w.heap.size + 1 < wr.heap.size := At.lt hA.out 3 rfl
          go_wp2_with (first | (go_at_call 83; (with_reducible refine (K6.out _).mono ?_); rintro E w51 ⟨rfl, hb51⟩; have A51 := Lib.hid (show At w51 [(bx2, Obj.cells #[.int .u64 Qh, .int .u64 Ql] 106), (by2, Obj.cells #[.int .u64 0, .int .u64 Zl] 106), (w.heap.size, Obj.cells #[.int .i64 a1, .int .i64 a2] 23), (w.heap.size + 1, Obj.cells #[.int .i64 0, .int .i64 0, .int .i64 0, .int .i64 0] 41)] from At.ext hb51 hA.out); have E51 := Lib.hid ((hE).trans hb51); obtain ⟨c51_0_0, c51_0_1, f51_0_0, f51_0_1⟩ := run_pair (At.at A51.out 0 rfl); have s51_0 : bx2 < w51.heap.size := At.lt A51.out 0 rfl; obtain ⟨c51_1_0, c51_1_1, f51_1_0, f51_1_1⟩ := run_pair (At.at A51.out 1 rfl); have s51_1 : by2 < w51.heap.size := At.lt A51.out 1 rfl; obtain ⟨c51_2_0, c51_2_1, f51_2_0, f51_2_1⟩ := run_pair (At.at A51.out 2 rfl); have s51_2 : w.heap.size < w51.heap.size := At.lt A51.out 2 rfl; obtain ⟨⟨c51_3_0, c51_3_1, c51_3_2, c51_3_3⟩, f51_3_0, f51_3_1, f51_3_2, f51_3_3⟩ := run_four (At.at A51.out 3 rfl); have s51_3 : w.heap.size + 1 < w51.heap.size := At.lt A51.out 3 rfl) | (go_at_call 83; (with_reducible refine (K7.out _).mono ?_); rintro E w52 ⟨rfl, hb52⟩; have A52 := Lib.hid (show At w52 [(w51.heap.size, Obj.cells #[.int .i64 m1, .int .i64 m2] 23), (bx2, Obj.cells #[.int .u64 Qh, .int .u64 Ql] 106), (by2, Obj.cells #[.int .u64 0, .int .u64 Zl] 106), (w.heap.size, Obj.cells #[.int .i64 a1, .int .i64 a2] 23), (w.heap.size + 1, Obj.cells #[.int .i64 0, .int .i64 0, .int .i64 0, .int .i64 0] 41)] from At.ext hb52 (show At _ [(w51.heap.size, Obj.cells #[.int .i64 m1, .int .i64 m2] 23), (bx2, Obj.cells #[.int .u64 Qh, .int .u64 Ql] 106), (by2, Obj.cells #[.int .u64 0, .int .u64 Zl] 106), (w.heap.size, Obj.cells #[.int .i64 a1, .int .i64 a2] 23), (w.heap.size + 1, Obj.cells #[.int .i64 0, .int .i64 0, .int .i64 0, .int .i64 0] 41)] from ⟨one_first _ _, At.alloc A51.out _⟩)); have E52 := Lib.hid ((((E51.out).alloc _)).trans hb52); obtain ⟨c52_0_0, c52_0_1, f52_0_0, f52_0_1⟩ := run_pair (At.at A52.out 0 rfl); have s52_0 : w51.heap.size < w52.heap.size := At.lt A52.out 0 rfl; obtain ⟨c52_1_0, c52_1_1, f52_1_0, f52_1_1⟩ := run_pair (At.at A52.out 1 rfl); have s52_1 : bx2 < w52.heap.size := At.lt A52.out 1 rfl; obtain ⟨c52_2_0, c52_2_1, f52_2_0, f52_2_1⟩ := run_pair (At.at A52.out 2 rfl); have s52_2 : by2 < w52.heap.size := At.lt A52.out 2 rfl; obtain ⟨c52_3_0, c52_3_1, f52_3_0, f52_3_1⟩ := run_pair (At.at A52.out 3 rfl); have s52_3 : w.heap.size < w52.heap.size := At.lt A52.out 3 rfl; obtain ⟨⟨c52_4_0, c52_4_1, c52_4_2, c52_4_3⟩, f52_4_0, f52_4_1, f52_4_2, f52_4_3⟩ := run_four (At.at A52.out 4 rfl); have s52_4 : w.heap.size + 1 < w52.heap.size := At.lt A52.out 4 rfl; (try clear c51_0_0 c51_0_1 f51_0_0 f51_0_1 c51_1_0 c51_1_1 f51_1_0 f51_1_1 c51_2_0 c51_2_1 f51_2_0 f51_2_1 c51_3_0 c51_3_1 c51_3_2 c51_3_3 f51_3_0 f51_3_1 f51_3_2 f51_3_3)))
          refine wp_region_quiet_below (by kernel_rfl) (by kernel_rfl) ?_
          repeat (go_big_quiet_step ((first | (go_at_call 80; with_reducible exact Calls.ext_of (K8.out _)))))
          refine wpQuiet_nil ?_
          intro w53 hw'
          obtain ⟨pq, hw''⟩ := hw'
          have hb53 := ext_of_regrown hw''
          clear hw'' pq
          have A53 := Lib.hid (show At w53 [(w52.heap.size, Obj.cells #[.int .i64 h1, .int .i64 h2] 23), (w51.heap.size, Obj.cells #[.int .i64 m1, .int .i64 m2] 23), (bx2, Obj.cells #[.int .u64 Qh, .int .u64 Ql] 106), (by2, Obj.cells #[.int .u64 0, .int .u64 Zl] 106), (w.heap.size, Obj.cells #[.int .i64 a1, .int .i64 a2] 23), (w.heap.size + 1, Obj.cells #[.int .i64 0, .int .i64 0, .int .i64 0, .int .i64 0] 41)] from At.ext hb53 (show At _ [(w52.heap.size, Obj.cells #[.int .i64 h1, .int .i64 h2] 23), (w51.heap.size, Obj.cells #[.int .i64 m1, .int .i64 m2] 23), (bx2, Obj.cells #[.int .u64 Qh, .int .u64 Ql] 106), (by2, Obj.cells #[.int .u64 0, .int .u64 Zl] 106), (w.heap.size, Obj.cells #[.int .i64 a1, .int .i64 a2] 23), (w.heap.size + 1, Obj.cells #[.int .i64 0, .int .i64 0, .int .i64 0, .int .i64 0] 41)] from ⟨one_first _ _, At.alloc A52.out _⟩))
          have E53 := Lib.hid ((((E52.out).alloc _)).trans hb53)
          clear hb53
          obtain ⟨c53_0_0, c53_0_1, f53_0_0, f53_0_1⟩ := run_pair (At.at A53.out 0 rfl)
          have s53_0 : w52.heap.size < w53.heap.size := At.lt A53.out 0 rfl
          obtain ⟨c53_1_0, c53_1_1, f53_1_0, f53_1_1⟩ := run_pair (At.at A53.out 1 rfl)
          have s53_1 : w51.heap.size < w53.heap.size := At.lt A53.out 1 rfl
          obtain ⟨c53_2_0, c53_2_1, f53_2_0, f53_2_1⟩ := run_pair (At.at A53.out 2 rfl)
          have s53_2 : bx2 < w53.heap.size := At.lt A53.out 2 rfl
          obtain ⟨c53_3_0, c53_3_1, f53_3_0, f53_3_1⟩ := run_pair (At.at A53.out 3 rfl)
          have s53_3 : by2 < w53.heap.size := At.lt A53.out 3 rfl
          obtain ⟨c53_4_0, c53_4_1, f53_4_0, f53_4_1⟩ := run_pair (At.at A53.out 4 rfl)
          have s53_4 : w.heap.size < w53.heap.size := At.lt A53.out 4 rfl
          obtain ⟨⟨c53_5_0, c53_5_1, c53_5_2, c53_5_3⟩, f53_5_0, f53_5_1, f53_5_2, f53_5_3⟩ := run_four (At.at A53.out 5 rfl)
          have s53_5 : w.heap.size + 1 < w53.heap.size := At.lt A53.out 5 rfl
          (try clear c52_0_0 c52_0_1 f52_0_0 f52_0_1 c52_1_0 c52_1_1 f52_1_0 f52_1_1 c52_2_0 c52_2_1 f52_2_0 f52_2_1 c52_3_0 c52_3_1 f52_3_0 f52_3_1 c52_4_0 c52_4_1 c52_4_2 c52_4_3 f52_4_0 f52_4_1 f52_4_2 f52_4_3)
          go_wp2
          refine bodyPost_ret (RT.results_row2 rfl _ _ (w.heap.size + 1) 41 #[.int .i64 m1, .int .i64 m2, .int .i64 h1, .int .i64 h2] (0, 0) _ rfl (store_four (v0 := .int .i64 m1) (v1 := .int .i64 m2) (v2 := .int .i64 h1) (v3 := .int .i64 h2) (At.at A53.out 5 rfl)).1 Tryd.underlying41 rfl info_span) rfl ?_
          exact ⟨rfl, (store_four (v0 := .int .i64 m1) (v1 := .int .i64 m2) (v2 := .int .i64 h1) (v3 := .int .i64 h2) (At.at A53.out 5 rfl)).2.2 w (by omega) E53.out⟩
set_option maxRecDepth 100000 in
set_option maxHeartbeats 8000000 in
theorem rRoot_no (a1 a2 c z m1 m2 e1 h1 h2 e2 Ph Pl Qh Ql Zh Zl Sh Sl : Int) (N D : Nat) (tq : Int → Value) (lt : Int → Bool) (w : World)
    (l1 : 0 ≤ a1)
    (l2 : 1 ≤ c)
    (l3 : c ≤ 32768)
    (l4 : 0 ≤ c * c)
    (l5 : c * c ≤ 1073741824)
    (t1 : decide (a1 < 0) = false)
    (t2 : decide (c < 1) = false)
    (t3 : decide (32768 < c) = false)
    (hl0 : lt 0 = false)
    (hl1 : lt 140737488355328 = true)
    (hz : ∀ lo : Int, 0 ≤ lo → lt lo = false → lt (lo + 1) = true → lo = z)
    (hr1 : Zh = 0)
    (hr2 : Zl = 0)
    (hs : (Sh == Qh) = false ∨ Sh = Qh ∧ Sl ≠ Ql)
    (k1 : ∀ w, Calls Tryd.prog 50 #[fracV ⟨a1, a2⟩] w fun E w' => E = .returned (.bool true) ∧ Ext w w')
    (k2 : ∀ w, Calls Tryd.prog 81 #[.int .i64 a1] w fun E w' => E = .returned (.int .u64 (N : Int)) ∧ Ext w w')
    (k3 : ∀ w, Calls Tryd.prog 81 #[.int .i64 a2] w fun E w' => E = .returned (.int .u64 (D : Int)) ∧ Ext w w')
    (k4 : ∀ w, Calls Tryd.prog 80 #[.int .u64 (N : Int), .int .u64 (c * c)] w fun E w' => E = .returned (.agg #[.int .u64 Ph, .int .u64 Pl]) ∧ Ext w w')
    (k5 : ∀ w, Calls Tryd.prog 79 #[.agg #[.int .u64 Ph, .int .u64 Pl], .agg #[.int .u64 0, .int .u64 (D : Int)]] w fun E w' => E = .returned (.tuple #[.agg #[.int .u64 Qh, .int .u64 Ql], .agg #[.int .u64 Zh, .int .u64 Zl]]) ∧ Ext w w')
    (kt : ∀ m : Int, 0 ≤ m → m ≤ 140737488355328 → ∀ w, Calls Tryd.prog 80 #[.int .u64 m, .int .u64 m] w fun E w' => E = .returned (tq m) ∧ Ext w w')
    (kl : ∀ m : Int, 0 ≤ m → m ≤ 140737488355328 → ∀ w, Calls Tryd.prog 82 #[.agg #[.int .u64 Qh, .int .u64 Ql], tq m] w fun E w' => E = .returned (.bool (lt m)) ∧ Ext w w')
    (k6 : ∀ w, Calls Tryd.prog 83 #[.int .i64 z, .int .i64 c] w fun E w' => E = .returned (fansV (⟨m1, m2⟩, e1)) ∧ Ext w w')
    (k7 : ∀ w, Calls Tryd.prog 83 #[.int .i64 (z + 1), .int .i64 c] w fun E w' => E = .returned (fansV (⟨h1, h2⟩, e2)) ∧ Ext w w')
    (k8 : ∀ w, Calls Tryd.prog 80 #[.int .u64 z, .int .u64 z] w fun E w' => E = .returned (.agg #[.int .u64 Sh, .int .u64 Sl]) ∧ Ext w w') :
    Calls Tryd.prog 46 #[fracV ⟨a1, a2⟩, .int .i64 c] w fun E w' => E = .returned (.tuple #[.agg #[.int .i64 m1, .int .i64 m2, .int .i64 h1, .int .i64 h2], .int .i64 0]) ∧ Ext w w' := by
  have K1 := Lib.hid k1
  have K2 := Lib.hid k2
  have K3 := Lib.hid k3
  have K4 := Lib.hid k4
  have K5 := Lib.hid k5
  have KT := Lib.hid kt
  have KL := Lib.hid kl
  have K6 := Lib.hid k6
  have K7 := Lib.hid k7
  have K8 := Lib.hid k8
  clear k1 k2 k3 k4 k5 kt kl k6 k7 k8
  subst hr1
  subst hr2
  rcases hs with hs | ⟨hs1, hs2⟩
  · go_enter Tryd.func46, Tryd.ntmps46
    go_wp2_with (first | (go_at_call 50; (with_reducible refine (K1.out _).mono ?_); rintro E w1 ⟨rfl, hb1⟩; have A1 := Lib.hid (show At w1 [(w.heap.size, Obj.cells #[.int .i64 a1, .int .i64 a2] 23), (w.heap.size + 1, Obj.cells #[.int .i64 0, .int .i64 0, .int .i64 0, .int .i64 0] 41)] from At.ext hb1 (show At _ [(w.heap.size, Obj.cells #[.int .i64 a1, .int .i64 a2] 23), (w.heap.size + 1, Obj.cells #[.int .i64 0, .int .i64 0, .int .i64 0, .int .i64 0] 41)] from ⟨(by repeat (first | (refine blk_at _ _ ?_; (first | rfl | (simp only [size_one]; done))) | refine (blk_past _ _ (by simp only [size_one]; omega)).trans ?_)), (by repeat (first | (refine blk_at _ _ ?_; (first | rfl | (simp only [size_one]; done))) | refine (blk_past _ _ (by simp only [size_one]; omega)).trans ?_)), trivial⟩)); have E1 := Lib.hid (((show Ext w _ from (by repeat (first | exact Ext.refl _ | assumption | refine Ext.alloc ?_ _ | refine Ext.drewN ?_ _ | refine ext_grow ?_ _ _ | refine Ext.setCell ?_ (by first | exact Nat.le_refl _ | omega | (simp; done) | (simp; omega)) _ | refine Ext.trans ?_ (by assumption))))).trans hb1); obtain ⟨c1_0_0, c1_0_1, f1_0_0, f1_0_1⟩ := run_pair (At.at A1.out 0 rfl); have s1_0 : w.heap.size < w1.heap.size := At.lt A1.out 0 rfl; obtain ⟨⟨c1_1_0, c1_1_1, c1_1_2, c1_1_3⟩, f1_1_0, f1_1_1, f1_1_2, f1_1_3⟩ := run_four (At.at A1.out 1 rfl); have s1_1 : w.heap.size + 1 < w1.heap.size := At.lt A1.out 1 rfl))
    refine RT.region_two (aq := ?az3) (n := 16) (sx := 6) (sy := 7) (vx := 45) (vy := 46) (oz := Obj.cells #[.int .u64 0, .int .u64 0] 106) (ox := Obj.cells #[.int .u64 Qh, .int .u64 Ql] 106) (oy := Obj.cells #[.int .u64 0, .int .u64 0] 106) (qs := [_, _, _, _, _, _, _, _, _, _, _, _, _, _, _, _]) (by kernel_rfl) rfl (by kernel_rfl) (by kernel_rfl) rfl rfl (of_decide_eq_true (by kernel_rfl)) (of_decide_eq_true (by kernel_rfl)) rfl rfl rfl rfl (by kernel_rfl) (by kernel_rfl) (by kernel_rfl) (by kernel_rfl) ?_ ?_ ?_ ?_ ?_ ?_
    rotate_left
    · intro e w
      simp [execOp, go_sem, Tryd.underlying106]
    · intro e w
      simp [execOp, go_sem, Tryd.underlying106]
    · intro wq hEq
      have AQ := Lib.hid (show At wq [(w.heap.size, Obj.cells #[.int .i64 a1, .int .i64 a2] 23), (w.heap.size + 1, Obj.cells #[.int .i64 0, .int .i64 0, .int .i64 0, .int .i64 0] 41)] from At.ext hEq A1.out)
      obtain ⟨q_0_0, q_0_1, r_0_0, r_0_1⟩ := run_pair (At.at AQ.out 0 rfl)
      have sq_0 : w.heap.size < wq.heap.size := At.lt AQ.out 0 rfl
      obtain ⟨⟨q_1_0, q_1_1, q_1_2, q_1_3⟩, r_1_0, r_1_1, r_1_2, r_1_3⟩ := run_four (At.at AQ.out 1 rfl)
      have sq_1 : w.heap.size + 1 < wq.heap.size := At.lt AQ.out 1 rfl
      clear hEq
      simp only [List.cons_append, List.nil_append]
      repeat (go_big_quiet_step ((first | (go_at_call 81; with_reducible exact Calls.ext_of (K2.out _)) | (go_at_call 81; with_reducible exact Calls.ext_of (K3.out _)) | (go_at_call 80; with_reducible exact Calls.ext_of (K4.out _)) | (go_at_call 79; with_reducible exact Calls.ext_of (K5.out _)))))
      refine wpQuiet_nil ?_
      exact rfl
    · intro e w b h1 h2 h3
      obtain ⟨c0, c1, f0, f1⟩ := run_pair h3
      have h2' : e (.tmp 45) = .agg #[.int .u64 Qh, .int .u64 Ql] := h2
      apply Exists.intro
      apply And.intro
      · simp [execOp, go_sem, h1, h2', c0, c1, f0, f1, Tryd.underlying106]
        exact rfl
      · exact store_pair h3
    · intro e w b h1 h2 h3
      obtain ⟨c0, c1, f0, f1⟩ := run_pair h3
      have h2' : e (.tmp 46) = .agg #[.int .u64 0, .int .u64 0] := h2
      apply Exists.intro
      apply And.intro
      · simp [execOp, go_sem, h1, h2', c0, c1, f0, f1, Tryd.underlying106]
        exact rfl
      · exact store_pair h3
    · intro bx2 by2 w2 hE2 hbx2 hby2 hne2 hX2 hY2
      have A2 := Lib.hid (show At w2 [(bx2, Obj.cells #[.int .u64 Qh, .int .u64 Ql] 106), (by2, Obj.cells #[.int .u64 0, .int .u64 0] 106), (w.heap.size, Obj.cells #[.int .i64 a1, .int .i64 a2] 23), (w.heap.size + 1, Obj.cells #[.int .i64 0, .int .i64 0, .int .i64 0, .int .i64 0] 41)] from ⟨hX2, hY2, At.ext hE2 A1.out⟩)
      have E2 := Lib.hid ((E1.out).trans hE2)
      obtain ⟨c2_0_0, c2_0_1, f2_0_0, f2_0_1⟩ := run_pair (At.at A2.out 0 rfl)
      have s2_0 : bx2 < w2.heap.size := At.lt A2.out 0 rfl
      obtain ⟨c2_1_0, c2_1_1, f2_1_0, f2_1_1⟩ := run_pair (At.at A2.out 1 rfl)
      have s2_1 : by2 < w2.heap.size := At.lt A2.out 1 rfl
      obtain ⟨c2_2_0, c2_2_1, f2_2_0, f2_2_1⟩ := run_pair (At.at A2.out 2 rfl)
      have s2_2 : w.heap.size < w2.heap.size := At.lt A2.out 2 rfl
      obtain ⟨⟨c2_3_0, c2_3_1, c2_3_2, c2_3_3⟩, f2_3_0, f2_3_1, f2_3_2, f2_3_3⟩ := run_four (At.at A2.out 3 rfl)
      have s2_3 : w.heap.size + 1 < w2.heap.size := At.lt A2.out 3 rfl
      have y2bx_0 : w.heap.size < bx2 := Nat.lt_of_lt_of_le (At.lt A1.out 0 rfl) hbx2
      have y2bx_1 : w.heap.size + 1 < bx2 := Nat.lt_of_lt_of_le (At.lt A1.out 1 rfl) hbx2
      have y2bx_w : w.heap.size ≤ bx2 := by omega
      have y2by_0 : w.heap.size < by2 := Nat.lt_of_lt_of_le (At.lt A1.out 0 rfl) hby2
      have y2by_1 : w.heap.size + 1 < by2 := Nat.lt_of_lt_of_le (At.lt A1.out 1 rfl) hby2
      have y2by_w : w.heap.size ≤ by2 := by omega
      clear hbx2 hby2 hE2 hX2 hY2
      go_wp2
      go_loopw [8, 9] (fun x y wr => ∃ lo hi : Int, x = .int .u64 lo ∧ y = .int .u64 hi ∧ 0 ≤ lo ∧ lo < hi ∧ hi ≤ 140737488355328 ∧ Ext w wr ∧ Hid (At wr [(bx2, Obj.cells #[.int .u64 Qh, .int .u64 Ql] 106), (by2, Obj.cells #[.int .u64 0, .int .u64 0] 106), (w.heap.size, Obj.cells #[.int .i64 a1, .int .i64 a2] 23), (w.heap.size + 1, Obj.cells #[.int .i64 0, .int .i64 0, .int .i64 0, .int .i64 0] 41)]) ∧ Hid (lt lo = false ∧ lt hi = true)) (fun x y _ => (intOf y - intOf x).toNat)
      case atStart => exact ⟨0, 140737488355328, rfl, rfl, by omega, by omega, by omega, E2.out, Lib.hid A2.out, Lib.hid ⟨hl0, hl1⟩⟩
      case round =>
        obtain ⟨lo, hi, rfl, rfl, l0, l1, l2, hE, hA, hI⟩ := hrel
        by_cases hg : 1 < hi - lo
        · obtain ⟨b, hb⟩ : ∃ b, lt ((lo + hi) / 2) = b := ⟨_, rfl⟩
          have km := KL.out ((lo + hi) / 2) (by omega) (by omega)
          rw [hb] at km
          have KM := Lib.hid km
          have hlt := Lib.hid hb
          clear km hb
          cases b
          · skip
            obtain ⟨c50_0_0, c50_0_1, f50_0_0, f50_0_1⟩ := run_pair (At.at hA.out 0 rfl)
            have s50_0 : bx2 < wr.heap.size := At.lt hA.out 0 rfl
            obtain ⟨c50_1_0, c50_1_1, f50_1_0, f50_1_1⟩ := run_pair (At.at hA.out 1 rfl)
            have s50_1 : by2 < wr.heap.size := At.lt hA.out 1 rfl
            obtain ⟨c50_2_0, c50_2_1, f50_2_0, f50_2_1⟩ := run_pair (At.at hA.out 2 rfl)
            have s50_2 : w.heap.size < wr.heap.size := At.lt hA.out 2 rfl
            obtain ⟨⟨c50_3_0, c50_3_1, c50_3_2, c50_3_3⟩, f50_3_0, f50_3_1, f50_3_2, f50_3_3⟩ := run_four (At.at hA.out 3 rfl)
            have s50_3 : w.heap.size + 1 < wr.heap.size := At.lt hA.out 3 rfl
            go_wp2
            refine wp_region_quiet_below (by kernel_rfl) (by kernel_rfl) ?_
            repeat (go_big_quiet_step ((first | (go_at_call 80; with_reducible exact Calls.ext_of (KT.out ((lo + hi) / 2) (by omega) (by omega) _)) | (go_at_call 82; with_reducible exact Calls.ext_of (KM.out _)))))
            refine wpQuiet_nil ?_
            intro w51 hw'
            obtain ⟨pq, hw''⟩ := hw'
            have hb51 := ext_of_regrown hw''
            clear hw'' pq
            have A51 := Lib.hid (show At w51 [(bx2, Obj.cells #[.int .u64 Qh, .int .u64 Ql] 106), (by2, Obj.cells #[.int .u64 0, .int .u64 0] 106), (w.heap.size, Obj.cells #[.int .i64 a1, .int .i64 a2] 23), (w.heap.size + 1, Obj.cells #[.int .i64 0, .int .i64 0, .int .i64 0, .int .i64 0] 41)] from At.ext hb51 hA.out)
            have E51 := Lib.hid ((hE).trans hb51)
            clear hb51
            obtain ⟨c51_0_0, c51_0_1, f51_0_0, f51_0_1⟩ := run_pair (At.at A51.out 0 rfl)
            have s51_0 : bx2 < w51.heap.size := At.lt A51.out 0 rfl
            obtain ⟨c51_1_0, c51_1_1, f51_1_0, f51_1_1⟩ := run_pair (At.at A51.out 1 rfl)
            have s51_1 : by2 < w51.heap.size := At.lt A51.out 1 rfl
            obtain ⟨c51_2_0, c51_2_1, f51_2_0, f51_2_1⟩ := run_pair (At.at A51.out 2 rfl)
            have s51_2 : w.heap.size < w51.heap.size := At.lt A51.out 2 rfl
            obtain ⟨⟨c51_3_0, c51_3_1, c51_3_2, c51_3_3⟩, f51_3_0, f51_3_1, f51_3_2, f51_3_3⟩ := run_four (At.at A51.out 3 rfl)
            have s51_3 : w.heap.size + 1 < w51.heap.size := At.lt A51.out 3 rfl
            go_wp2
            go_roundw
            case rel => exact ⟨(lo + hi) / 2, hi, rfl, rfl, by omega, by omega, by omega, E51.out, A51, Lib.hid ⟨hlt.out, hI.out.2⟩⟩
            case measure => simp [intOf]; omega
          · skip
            obtain ⟨c50_0_0, c50_0_1, f50_0_0, f50_0_1⟩ := run_pair (At.at hA.out 0 rfl)
            have s50_0 : bx2 < wr.heap.size := At.lt hA.out 0 rfl
            obtain ⟨c50_1_0, c50_1_1, f50_1_0, f50_1_1⟩ := run_pair (At.at hA.out 1 rfl)
            have s50_1 : by2 < wr.heap.size := At.lt hA.out 1 rfl
            obtain ⟨c50_2_0, c50_2_1, f50_2_0, f50_2_1⟩ := run_pair (At.at hA.out 2 rfl)
            have s50_2 : w.heap.size < wr.heap.size := At.lt hA.out 2 rfl
            obtain ⟨⟨c50_3_0, c50_3_1, c50_3_2, c50_3_3⟩, f50_3_0, f50_3_1, f50_3_2, f50_3_3⟩ := run_four (At.at hA.out 3 rfl)
            have s50_3 : w.heap.size + 1 < wr.heap.size := At.lt hA.out 3 rfl
            go_wp2
            refine wp_region_quiet_below (by kernel_rfl) (by kernel_rfl) ?_
            repeat (go_big_quiet_step ((first | (go_at_call 80; with_reducible exact Calls.ext_of (KT.out ((lo + hi) / 2) (by omega) (by omega) _)) | (go_at_call 82; with_reducible exact Calls.ext_of (KM.out _)))))
            refine wpQuiet_nil ?_
            intro w51 hw'
            obtain ⟨pq, hw''⟩ := hw'
            have hb51 := ext_of_regrown hw''
            clear hw'' pq
            have A51 := Lib.hid (show At w51 [(bx2, Obj.cells #[.int .u64 Qh, .int .u64 Ql] 106), (by2, Obj.cells #[.int .u64 0, .int .u64 0] 106), (w.heap.size, Obj.cells #[.int .i64 a1, .int .i64 a2] 23), (w.heap.size + 1, Obj.cells #[.int .i64 0, .int .i64 0, .int .i64 0, .int .i64 0] 41)] from At.ext hb51 hA.out)
            have E51 := Lib.hid ((hE).trans hb51)
            clear hb51
            obtain ⟨c51_0_0, c51_0_1, f51_0_0, f51_0_1⟩ := run_pair (At.at A51.out 0 rfl)
            have s51_0 : bx2 < w51.heap.size := At.lt A51.out 0 rfl
            obtain ⟨c51_1_0, c51_1_1, f51_1_0, f51_1_1⟩ := run_pair (At.at A51.out 1 rfl)
            have s51_1 : by2 < w51.heap.size := At.lt A51.out 1 rfl
            obtain ⟨c51_2_0, c51_2_1, f51_2_0, f51_2_1⟩ := run_pair (At.at A51.out 2 rfl)
            have s51_2 : w.heap.size < w51.heap.size := At.lt A51.out 2 rfl
            obtain ⟨⟨c51_3_0, c51_3_1, c51_3_2, c51_3_3⟩, f51_3_0, f51_3_1, f51_3_2, f51_3_3⟩ := run_four (At.at A51.out 3 rfl)
            have s51_3 : w.heap.size + 1 < w51.heap.size := At.lt A51.out 3 rfl
            go_wp2
            go_roundw
            case rel => exact ⟨lo, (lo + hi) / 2, rfl, rfl, by omega, by omega, by omega, E51.out, A51, Lib.hid ⟨hI.out.1, hlt.out⟩⟩
            case measure => simp [intOf]; omega
        · obtain rfl : lo = z := hz lo l0 hI.out.1 (by rw [show lo + 1 = hi by omega]; exact hI.out.2)
          obtain rfl : hi = lo + 1 := by omega
          obtain ⟨c50_0_0, c50_0_1, f50_0_0, f50_0_1⟩ := run_pair (At.at hA.out 0 rfl)
          have s50_0 : bx2 < wr.heap.size := At.lt hA.out 0 rfl
          obtain ⟨c50_1_0, c50_1_1, f50_1_0, f50_1_1⟩ := run_pair (At.at hA.out 1 rfl)
          have s50_1 : by2 < wr.heap.size := At.lt hA.out 1 rfl
          obtain ⟨c50_2_0, c50_2_1, f50_2_0, f50_2_1⟩ := run_pair (At.at hA.out 2 rfl)
          have s50_2 : w.heap.size < wr.heap.size := At.lt hA.out 2 rfl
          obtain ⟨⟨c50_3_0, c50_3_1, c50_3_2, c50_3_3⟩, f50_3_0, f50_3_1, f50_3_2, f50_3_3⟩ := run_four (At.at hA.out 3 rfl)
          have s50_3 : w.heap.size + 1 < wr.heap.size := At.lt hA.out 3 rfl
          go_wp2_with (first | (go_at_call 83; (with_reducible refine (K6.out _).mono ?_); rintro E w51 ⟨rfl, hb51⟩; have A51 := Lib.hid (show At w51 [(bx2, Obj.cells #[.int .u64 Qh, .int .u64 Ql] 106), (by2, Obj.cells #[.int .u64 0, .int .u64 0] 106), (w.heap.size, Obj.cells #[.int .i64 a1, .int .i64 a2] 23), (w.heap.size + 1, Obj.cells #[.int .i64 0, .int .i64 0, .int .i64 0, .int .i64 0] 41)] from At.ext hb51 hA.out); have E51 := Lib.hid ((hE).trans hb51); obtain ⟨c51_0_0, c51_0_1, f51_0_0, f51_0_1⟩ := run_pair (At.at A51.out 0 rfl); have s51_0 : bx2 < w51.heap.size := At.lt A51.out 0 rfl; obtain ⟨c51_1_0, c51_1_1, f51_1_0, f51_1_1⟩ := run_pair (At.at A51.out 1 rfl); have s51_1 : by2 < w51.heap.size := At.lt A51.out 1 rfl; obtain ⟨c51_2_0, c51_2_1, f51_2_0, f51_2_1⟩ := run_pair (At.at A51.out 2 rfl); have s51_2 : w.heap.size < w51.heap.size := At.lt A51.out 2 rfl; obtain ⟨⟨c51_3_0, c51_3_1, c51_3_2, c51_3_3⟩, f51_3_0, f51_3_1, f51_3_2, f51_3_3⟩ := run_four (At.at A51.out 3 rfl); have s51_3 : w.heap.size + 1 < w51.heap.size := At.lt A51.out 3 rfl) | (go_at_call 83; (with_reducible refine (K7.out _).mono ?_); rintro E w52 ⟨rfl, hb52⟩; have A52 := Lib.hid (show At w52 [(w51.heap.size, Obj.cells #[.int .i64 m1, .int .i64 m2] 23), (bx2, Obj.cells #[.int .u64 Qh, .int .u64 Ql] 106), (by2, Obj.cells #[.int .u64 0, .int .u64 0] 106), (w.heap.size, Obj.cells #[.int .i64 a1, .int .i64 a2] 23), (w.heap.size + 1, Obj.cells #[.int .i64 0, .int .i64 0, .int .i64 0, .int .i64 0] 41)] from At.ext hb52 (show At _ [(w51.heap.size, Obj.cells #[.int .i64 m1, .int .i64 m2] 23), (bx2, Obj.cells #[.int .u64 Qh, .int .u64 Ql] 106), (by2, Obj.cells #[.int .u64 0, .int .u64 0] 106), (w.heap.size, Obj.cells #[.int .i64 a1, .int .i64 a2] 23), (w.heap.size + 1, Obj.cells #[.int .i64 0, .int .i64 0, .int .i64 0, .int .i64 0] 41)] from ⟨one_first _ _, At.alloc A51.out _⟩)); have E52 := Lib.hid ((((E51.out).alloc _)).trans hb52); obtain ⟨c52_0_0, c52_0_1, f52_0_0, f52_0_1⟩ := run_pair (At.at A52.out 0 rfl); have s52_0 : w51.heap.size < w52.heap.size := At.lt A52.out 0 rfl; obtain ⟨c52_1_0, c52_1_1, f52_1_0, f52_1_1⟩ := run_pair (At.at A52.out 1 rfl); have s52_1 : bx2 < w52.heap.size := At.lt A52.out 1 rfl; obtain ⟨c52_2_0, c52_2_1, f52_2_0, f52_2_1⟩ := run_pair (At.at A52.out 2 rfl); have s52_2 : by2 < w52.heap.size := At.lt A52.out 2 rfl; obtain ⟨c52_3_0, c52_3_1, f52_3_0, f52_3_1⟩ := run_pair (At.at A52.out 3 rfl); have s52_3 : w.heap.size < w52.heap.size := At.lt A52.out 3 rfl; obtain ⟨⟨c52_4_0, c52_4_1, c52_4_2, c52_4_3⟩, f52_4_0, f52_4_1, f52_4_2, f52_4_3⟩ := run_four (At.at A52.out 4 rfl); have s52_4 : w.heap.size + 1 < w52.heap.size := At.lt A52.out 4 rfl; (try clear c51_0_0 c51_0_1 f51_0_0 f51_0_1 c51_1_0 c51_1_1 f51_1_0 f51_1_1 c51_2_0 c51_2_1 f51_2_0 f51_2_1 c51_3_0 c51_3_1 c51_3_2 c51_3_3 f51_3_0 f51_3_1 f51_3_2 f51_3_3)))
          refine wp_region_quiet_below (by kernel_rfl) (by kernel_rfl) ?_
          repeat (go_big_quiet_step ((first | (go_at_call 80; with_reducible exact Calls.ext_of (K8.out _)))))
          refine wpQuiet_nil ?_
          intro w53 hw'
          obtain ⟨pq, hw''⟩ := hw'
          have hb53 := ext_of_regrown hw''
          clear hw'' pq
          have A53 := Lib.hid (show At w53 [(w52.heap.size, Obj.cells #[.int .i64 h1, .int .i64 h2] 23), (w51.heap.size, Obj.cells #[.int .i64 m1, .int .i64 m2] 23), (bx2, Obj.cells #[.int .u64 Qh, .int .u64 Ql] 106), (by2, Obj.cells #[.int .u64 0, .int .u64 0] 106), (w.heap.size, Obj.cells #[.int .i64 a1, .int .i64 a2] 23), (w.heap.size + 1, Obj.cells #[.int .i64 0, .int .i64 0, .int .i64 0, .int .i64 0] 41)] from At.ext hb53 (show At _ [(w52.heap.size, Obj.cells #[.int .i64 h1, .int .i64 h2] 23), (w51.heap.size, Obj.cells #[.int .i64 m1, .int .i64 m2] 23), (bx2, Obj.cells #[.int .u64 Qh, .int .u64 Ql] 106), (by2, Obj.cells #[.int .u64 0, .int .u64 0] 106), (w.heap.size, Obj.cells #[.int .i64 a1, .int .i64 a2] 23), (w.heap.size + 1, Obj.cells #[.int .i64 0, .int .i64 0, .int .i64 0, .int .i64 0] 41)] from ⟨one_first _ _, At.alloc A52.out _⟩))
          have E53 := Lib.hid ((((E52.out).alloc _)).trans hb53)
          clear hb53
          obtain ⟨c53_0_0, c53_0_1, f53_0_0, f53_0_1⟩ := run_pair (At.at A53.out 0 rfl)
          have s53_0 : w52.heap.size < w53.heap.size := At.lt A53.out 0 rfl
          obtain ⟨c53_1_0, c53_1_1, f53_1_0, f53_1_1⟩ := run_pair (At.at A53.out 1 rfl)
          have s53_1 : w51.heap.size < w53.heap.size := At.lt A53.out 1 rfl
          obtain ⟨c53_2_0, c53_2_1, f53_2_0, f53_2_1⟩ := run_pair (At.at A53.out 2 rfl)
          have s53_2 : bx2 < w53.heap.size := At.lt A53.out 2 rfl
          obtain ⟨c53_3_0, c53_3_1, f53_3_0, f53_3_1⟩ := run_pair (At.at A53.out 3 rfl)
          have s53_3 : by2 < w53.heap.size := At.lt A53.out 3 rfl
          obtain ⟨c53_4_0, c53_4_1, f53_4_0, f53_4_1⟩ := run_pair (At.at A53.out 4 rfl)
          have s53_4 : w.heap.size < w53.heap.size := At.lt A53.out 4 rfl
          obtain ⟨⟨c53_5_0, c53_5_1, c53_5_2, c53_5_3⟩, f53_5_0, f53_5_1, f53_5_2, f53_5_3⟩ := run_four (At.at A53.out 5 rfl)
          have s53_5 : w.heap.size + 1 < w53.heap.size := At.lt A53.out 5 rfl
          (try clear c52_0_0 c52_0_1 f52_0_0 f52_0_1 c52_1_0 c52_1_1 f52_1_0 f52_1_1 c52_2_0 c52_2_1 f52_2_0 f52_2_1 c52_3_0 c52_3_1 f52_3_0 f52_3_1 c52_4_0 c52_4_1 c52_4_2 c52_4_3 f52_4_0 f52_4_1 f52_4_2 f52_4_3)
          go_wp2
          refine bodyPost_ret (RT.results_row2 rfl _ _ (w.heap.size + 1) 41 #[.int .i64 m1, .int .i64 m2, .int .i64 h1, .int .i64 h2] (0, 0) _ rfl (store_four (v0 := .int .i64 m1) (v1 := .int .i64 m2) (v2 := .int .i64 h1) (v3 := .int .i64 h2) (At.at A53.out 5 rfl)).1 Tryd.underlying41 rfl info_span) rfl ?_
          exact ⟨rfl, (store_four (v0 := .int .i64 m1) (v1 := .int .i64 m2) (v2 := .int .i64 h1) (v3 := .int .i64 h2) (At.at A53.out 5 rfl)).2.2 w (by omega) E53.out⟩
  · subst hs1
    have hs3 : (Sl == Ql) = false := by simpa using hs2
    clear hs2
    go_enter Tryd.func46, Tryd.ntmps46
    go_wp2_with (first | (go_at_call 50; (with_reducible refine (K1.out _).mono ?_); rintro E w1 ⟨rfl, hb1⟩; have A1 := Lib.hid (show At w1 [(w.heap.size, Obj.cells #[.int .i64 a1, .int .i64 a2] 23), (w.heap.size + 1, Obj.cells #[.int .i64 0, .int .i64 0, .int .i64 0, .int .i64 0] 41)] from At.ext hb1 (show At _ [(w.heap.size, Obj.cells #[.int .i64 a1, .int .i64 a2] 23), (w.heap.size + 1, Obj.cells #[.int .i64 0, .int .i64 0, .int .i64 0, .int .i64 0] 41)] from ⟨(by repeat (first | (refine blk_at _ _ ?_; (first | rfl | (simp only [size_one]; done))) | refine (blk_past _ _ (by simp only [size_one]; omega)).trans ?_)), (by repeat (first | (refine blk_at _ _ ?_; (first | rfl | (simp only [size_one]; done))) | refine (blk_past _ _ (by simp only [size_one]; omega)).trans ?_)), trivial⟩)); have E1 := Lib.hid (((show Ext w _ from (by repeat (first | exact Ext.refl _ | assumption | refine Ext.alloc ?_ _ | refine Ext.drewN ?_ _ | refine ext_grow ?_ _ _ | refine Ext.setCell ?_ (by first | exact Nat.le_refl _ | omega | (simp; done) | (simp; omega)) _ | refine Ext.trans ?_ (by assumption))))).trans hb1); obtain ⟨c1_0_0, c1_0_1, f1_0_0, f1_0_1⟩ := run_pair (At.at A1.out 0 rfl); have s1_0 : w.heap.size < w1.heap.size := At.lt A1.out 0 rfl; obtain ⟨⟨c1_1_0, c1_1_1, c1_1_2, c1_1_3⟩, f1_1_0, f1_1_1, f1_1_2, f1_1_3⟩ := run_four (At.at A1.out 1 rfl); have s1_1 : w.heap.size + 1 < w1.heap.size := At.lt A1.out 1 rfl))
    refine RT.region_two (aq := ?az4) (n := 16) (sx := 6) (sy := 7) (vx := 45) (vy := 46) (oz := Obj.cells #[.int .u64 0, .int .u64 0] 106) (ox := Obj.cells #[.int .u64 Sh, .int .u64 Ql] 106) (oy := Obj.cells #[.int .u64 0, .int .u64 0] 106) (qs := [_, _, _, _, _, _, _, _, _, _, _, _, _, _, _, _]) (by kernel_rfl) rfl (by kernel_rfl) (by kernel_rfl) rfl rfl (of_decide_eq_true (by kernel_rfl)) (of_decide_eq_true (by kernel_rfl)) rfl rfl rfl rfl (by kernel_rfl) (by kernel_rfl) (by kernel_rfl) (by kernel_rfl) ?_ ?_ ?_ ?_ ?_ ?_
    rotate_left
    · intro e w
      simp [execOp, go_sem, Tryd.underlying106]
    · intro e w
      simp [execOp, go_sem, Tryd.underlying106]
    · intro wq hEq
      have AQ := Lib.hid (show At wq [(w.heap.size, Obj.cells #[.int .i64 a1, .int .i64 a2] 23), (w.heap.size + 1, Obj.cells #[.int .i64 0, .int .i64 0, .int .i64 0, .int .i64 0] 41)] from At.ext hEq A1.out)
      obtain ⟨q_0_0, q_0_1, r_0_0, r_0_1⟩ := run_pair (At.at AQ.out 0 rfl)
      have sq_0 : w.heap.size < wq.heap.size := At.lt AQ.out 0 rfl
      obtain ⟨⟨q_1_0, q_1_1, q_1_2, q_1_3⟩, r_1_0, r_1_1, r_1_2, r_1_3⟩ := run_four (At.at AQ.out 1 rfl)
      have sq_1 : w.heap.size + 1 < wq.heap.size := At.lt AQ.out 1 rfl
      clear hEq
      simp only [List.cons_append, List.nil_append]
      repeat (go_big_quiet_step ((first | (go_at_call 81; with_reducible exact Calls.ext_of (K2.out _)) | (go_at_call 81; with_reducible exact Calls.ext_of (K3.out _)) | (go_at_call 80; with_reducible exact Calls.ext_of (K4.out _)) | (go_at_call 79; with_reducible exact Calls.ext_of (K5.out _)))))
      refine wpQuiet_nil ?_
      exact rfl
    · intro e w b h1 h2 h3
      obtain ⟨c0, c1, f0, f1⟩ := run_pair h3
      have h2' : e (.tmp 45) = .agg #[.int .u64 Sh, .int .u64 Ql] := h2
      apply Exists.intro
      apply And.intro
      · simp [execOp, go_sem, h1, h2', c0, c1, f0, f1, Tryd.underlying106]
        exact rfl
      · exact store_pair h3
    · intro e w b h1 h2 h3
      obtain ⟨c0, c1, f0, f1⟩ := run_pair h3
      have h2' : e (.tmp 46) = .agg #[.int .u64 0, .int .u64 0] := h2
      apply Exists.intro
      apply And.intro
      · simp [execOp, go_sem, h1, h2', c0, c1, f0, f1, Tryd.underlying106]
        exact rfl
      · exact store_pair h3
    · intro bx2 by2 w2 hE2 hbx2 hby2 hne2 hX2 hY2
      have A2 := Lib.hid (show At w2 [(bx2, Obj.cells #[.int .u64 Sh, .int .u64 Ql] 106), (by2, Obj.cells #[.int .u64 0, .int .u64 0] 106), (w.heap.size, Obj.cells #[.int .i64 a1, .int .i64 a2] 23), (w.heap.size + 1, Obj.cells #[.int .i64 0, .int .i64 0, .int .i64 0, .int .i64 0] 41)] from ⟨hX2, hY2, At.ext hE2 A1.out⟩)
      have E2 := Lib.hid ((E1.out).trans hE2)
      obtain ⟨c2_0_0, c2_0_1, f2_0_0, f2_0_1⟩ := run_pair (At.at A2.out 0 rfl)
      have s2_0 : bx2 < w2.heap.size := At.lt A2.out 0 rfl
      obtain ⟨c2_1_0, c2_1_1, f2_1_0, f2_1_1⟩ := run_pair (At.at A2.out 1 rfl)
      have s2_1 : by2 < w2.heap.size := At.lt A2.out 1 rfl
      obtain ⟨c2_2_0, c2_2_1, f2_2_0, f2_2_1⟩ := run_pair (At.at A2.out 2 rfl)
      have s2_2 : w.heap.size < w2.heap.size := At.lt A2.out 2 rfl
      obtain ⟨⟨c2_3_0, c2_3_1, c2_3_2, c2_3_3⟩, f2_3_0, f2_3_1, f2_3_2, f2_3_3⟩ := run_four (At.at A2.out 3 rfl)
      have s2_3 : w.heap.size + 1 < w2.heap.size := At.lt A2.out 3 rfl
      have y2bx_0 : w.heap.size < bx2 := Nat.lt_of_lt_of_le (At.lt A1.out 0 rfl) hbx2
      have y2bx_1 : w.heap.size + 1 < bx2 := Nat.lt_of_lt_of_le (At.lt A1.out 1 rfl) hbx2
      have y2bx_w : w.heap.size ≤ bx2 := by omega
      have y2by_0 : w.heap.size < by2 := Nat.lt_of_lt_of_le (At.lt A1.out 0 rfl) hby2
      have y2by_1 : w.heap.size + 1 < by2 := Nat.lt_of_lt_of_le (At.lt A1.out 1 rfl) hby2
      have y2by_w : w.heap.size ≤ by2 := by omega
      clear hbx2 hby2 hE2 hX2 hY2
      go_wp2
      go_loopw [8, 9] (fun x y wr => ∃ lo hi : Int, x = .int .u64 lo ∧ y = .int .u64 hi ∧ 0 ≤ lo ∧ lo < hi ∧ hi ≤ 140737488355328 ∧ Ext w wr ∧ Hid (At wr [(bx2, Obj.cells #[.int .u64 Sh, .int .u64 Ql] 106), (by2, Obj.cells #[.int .u64 0, .int .u64 0] 106), (w.heap.size, Obj.cells #[.int .i64 a1, .int .i64 a2] 23), (w.heap.size + 1, Obj.cells #[.int .i64 0, .int .i64 0, .int .i64 0, .int .i64 0] 41)]) ∧ Hid (lt lo = false ∧ lt hi = true)) (fun x y _ => (intOf y - intOf x).toNat)
      case atStart => exact ⟨0, 140737488355328, rfl, rfl, by omega, by omega, by omega, E2.out, Lib.hid A2.out, Lib.hid ⟨hl0, hl1⟩⟩
      case round =>
        obtain ⟨lo, hi, rfl, rfl, l0, l1, l2, hE, hA, hI⟩ := hrel
        by_cases hg : 1 < hi - lo
        · obtain ⟨b, hb⟩ : ∃ b, lt ((lo + hi) / 2) = b := ⟨_, rfl⟩
          have km := KL.out ((lo + hi) / 2) (by omega) (by omega)
          rw [hb] at km
          have KM := Lib.hid km
          have hlt := Lib.hid hb
          clear km hb
          cases b
          · skip
            obtain ⟨c50_0_0, c50_0_1, f50_0_0, f50_0_1⟩ := run_pair (At.at hA.out 0 rfl)
            have s50_0 : bx2 < wr.heap.size := At.lt hA.out 0 rfl
            obtain ⟨c50_1_0, c50_1_1, f50_1_0, f50_1_1⟩ := run_pair (At.at hA.out 1 rfl)
            have s50_1 : by2 < wr.heap.size := At.lt hA.out 1 rfl
            obtain ⟨c50_2_0, c50_2_1, f50_2_0, f50_2_1⟩ := run_pair (At.at hA.out 2 rfl)
            have s50_2 : w.heap.size < wr.heap.size := At.lt hA.out 2 rfl
            obtain ⟨⟨c50_3_0, c50_3_1, c50_3_2, c50_3_3⟩, f50_3_0, f50_3_1, f50_3_2, f50_3_3⟩ := run_four (At.at hA.out 3 rfl)
            have s50_3 : w.heap.size + 1 < wr.heap.size := At.lt hA.out 3 rfl
            go_wp2
            refine wp_region_quiet_below (by kernel_rfl) (by kernel_rfl) ?_
            repeat (go_big_quiet_step ((first | (go_at_call 80; with_reducible exact Calls.ext_of (KT.out ((lo + hi) / 2) (by omega) (by omega) _)) | (go_at_call 82; with_reducible exact Calls.ext_of (KM.out _)))))
            refine wpQuiet_nil ?_
            intro w51 hw'
            obtain ⟨pq, hw''⟩ := hw'
            have hb51 := ext_of_regrown hw''
            clear hw'' pq
            have A51 := Lib.hid (show At w51 [(bx2, Obj.cells #[.int .u64 Sh, .int .u64 Ql] 106), (by2, Obj.cells #[.int .u64 0, .int .u64 0] 106), (w.heap.size, Obj.cells #[.int .i64 a1, .int .i64 a2] 23), (w.heap.size + 1, Obj.cells #[.int .i64 0, .int .i64 0, .int .i64 0, .int .i64 0] 41)] from At.ext hb51 hA.out)
            have E51 := Lib.hid ((hE).trans hb51)
            clear hb51
            obtain ⟨c51_0_0, c51_0_1, f51_0_0, f51_0_1⟩ := run_pair (At.at A51.out 0 rfl)
            have s51_0 : bx2 < w51.heap.size := At.lt A51.out 0 rfl
            obtain ⟨c51_1_0, c51_1_1, f51_1_0, f51_1_1⟩ := run_pair (At.at A51.out 1 rfl)
            have s51_1 : by2 < w51.heap.size := At.lt A51.out 1 rfl
            obtain ⟨c51_2_0, c51_2_1, f51_2_0, f51_2_1⟩ := run_pair (At.at A51.out 2 rfl)
            have s51_2 : w.heap.size < w51.heap.size := At.lt A51.out 2 rfl
            obtain ⟨⟨c51_3_0, c51_3_1, c51_3_2, c51_3_3⟩, f51_3_0, f51_3_1, f51_3_2, f51_3_3⟩ := run_four (At.at A51.out 3 rfl)
            have s51_3 : w.heap.size + 1 < w51.heap.size := At.lt A51.out 3 rfl
            go_wp2
            go_roundw
            case rel => exact ⟨(lo + hi) / 2, hi, rfl, rfl, by omega, by omega, by omega, E51.out, A51, Lib.hid ⟨hlt.out, hI.out.2⟩⟩
            case measure => simp [intOf]; omega
          · skip
            obtain ⟨c50_0_0, c50_0_1, f50_0_0, f50_0_1⟩ := run_pair (At.at hA.out 0 rfl)
            have s50_0 : bx2 < wr.heap.size := At.lt hA.out 0 rfl
            obtain ⟨c50_1_0, c50_1_1, f50_1_0, f50_1_1⟩ := run_pair (At.at hA.out 1 rfl)
            have s50_1 : by2 < wr.heap.size := At.lt hA.out 1 rfl
            obtain ⟨c50_2_0, c50_2_1, f50_2_0, f50_2_1⟩ := run_pair (At.at hA.out 2 rfl)
            have s50_2 : w.heap.size < wr.heap.size := At.lt hA.out 2 rfl
            obtain ⟨⟨c50_3_0, c50_3_1, c50_3_2, c50_3_3⟩, f50_3_0, f50_3_1, f50_3_2, f50_3_3⟩ := run_four (At.at hA.out 3 rfl)
            have s50_3 : w.heap.size + 1 < wr.heap.size := At.lt hA.out 3 rfl
            go_wp2
            refine wp_region_quiet_below (by kernel_rfl) (by kernel_rfl) ?_
            repeat (go_big_quiet_step ((first | (go_at_call 80; with_reducible exact Calls.ext_of (KT.out ((lo + hi) / 2) (by omega) (by omega) _)) | (go_at_call 82; with_reducible exact Calls.ext_of (KM.out _)))))
            refine wpQuiet_nil ?_
            intro w51 hw'
            obtain ⟨pq, hw''⟩ := hw'
            have hb51 := ext_of_regrown hw''
            clear hw'' pq
            have A51 := Lib.hid (show At w51 [(bx2, Obj.cells #[.int .u64 Sh, .int .u64 Ql] 106), (by2, Obj.cells #[.int .u64 0, .int .u64 0] 106), (w.heap.size, Obj.cells #[.int .i64 a1, .int .i64 a2] 23), (w.heap.size + 1, Obj.cells #[.int .i64 0, .int .i64 0, .int .i64 0, .int .i64 0] 41)] from At.ext hb51 hA.out)
            have E51 := Lib.hid ((hE).trans hb51)
            clear hb51
            obtain ⟨c51_0_0, c51_0_1, f51_0_0, f51_0_1⟩ := run_pair (At.at A51.out 0 rfl)
            have s51_0 : bx2 < w51.heap.size := At.lt A51.out 0 rfl
            obtain ⟨c51_1_0, c51_1_1, f51_1_0, f51_1_1⟩ := run_pair (At.at A51.out 1 rfl)
            have s51_1 : by2 < w51.heap.size := At.lt A51.out 1 rfl
            obtain ⟨c51_2_0, c51_2_1, f51_2_0, f51_2_1⟩ := run_pair (At.at A51.out 2 rfl)
            have s51_2 : w.heap.size < w51.heap.size := At.lt A51.out 2 rfl
            obtain ⟨⟨c51_3_0, c51_3_1, c51_3_2, c51_3_3⟩, f51_3_0, f51_3_1, f51_3_2, f51_3_3⟩ := run_four (At.at A51.out 3 rfl)
            have s51_3 : w.heap.size + 1 < w51.heap.size := At.lt A51.out 3 rfl
            go_wp2
            go_roundw
            case rel => exact ⟨lo, (lo + hi) / 2, rfl, rfl, by omega, by omega, by omega, E51.out, A51, Lib.hid ⟨hI.out.1, hlt.out⟩⟩
            case measure => simp [intOf]; omega
        · obtain rfl : lo = z := hz lo l0 hI.out.1 (by rw [show lo + 1 = hi by omega]; exact hI.out.2)
          obtain rfl : hi = lo + 1 := by omega
          obtain ⟨c50_0_0, c50_0_1, f50_0_0, f50_0_1⟩ := run_pair (At.at hA.out 0 rfl)
          have s50_0 : bx2 < wr.heap.size := At.lt hA.out 0 rfl
          obtain ⟨c50_1_0, c50_1_1, f50_1_0, f50_1_1⟩ := run_pair (At.at hA.out 1 rfl)
          have s50_1 : by2 < wr.heap.size := At.lt hA.out 1 rfl
          obtain ⟨c50_2_0, c50_2_1, f50_2_0, f50_2_1⟩ := run_pair (At.at hA.out 2 rfl)
          have s50_2 : w.heap.size < wr.heap.size := At.lt hA.out 2 rfl
          obtain ⟨⟨c50_3_0, c50_3_1, c50_3_2, c50_3_3⟩, f50_3_0, f50_3_1, f50_3_2, f50_3_3⟩ := run_four (At.at hA.out 3 rfl)
          have s50_3 : w.heap.size + 1 < wr.heap.size := At.lt hA.out 3 rfl
          go_wp2_with (first | (go_at_call 83; (with_reducible refine (K6.out _).mono ?_); rintro E w51 ⟨rfl, hb51⟩; have A51 := Lib.hid (show At w51 [(bx2, Obj.cells #[.int .u64 Sh, .int .u64 Ql] 106), (by2, Obj.cells #[.int .u64 0, .int .u64 0] 106), (w.heap.size, Obj.cells #[.int .i64 a1, .int .i64 a2] 23), (w.heap.size + 1, Obj.cells #[.int .i64 0, .int .i64 0, .int .i64 0, .int .i64 0] 41)] from At.ext hb51 hA.out); have E51 := Lib.hid ((hE).trans hb51); obtain ⟨c51_0_0, c51_0_1, f51_0_0, f51_0_1⟩ := run_pair (At.at A51.out 0 rfl); have s51_0 : bx2 < w51.heap.size := At.lt A51.out 0 rfl; obtain ⟨c51_1_0, c51_1_1, f51_1_0, f51_1_1⟩ := run_pair (At.at A51.out 1 rfl); have s51_1 : by2 < w51.heap.size := At.lt A51.out 1 rfl; obtain ⟨c51_2_0, c51_2_1, f51_2_0, f51_2_1⟩ := run_pair (At.at A51.out 2 rfl); have s51_2 : w.heap.size < w51.heap.size := At.lt A51.out 2 rfl; obtain ⟨⟨c51_3_0, c51_3_1, c51_3_2, c51_3_3⟩, f51_3_0, f51_3_1, f51_3_2, f51_3_3⟩ := run_four (At.at A51.out 3 rfl); have s51_3 : w.heap.size + 1 < w51.heap.size := At.lt A51.out 3 rfl) | (go_at_call 83; (with_reducible refine (K7.out _).mono ?_); rintro E w52 ⟨rfl, hb52⟩; have A52 := Lib.hid (show At w52 [(w51.heap.size, Obj.cells #[.int .i64 m1, .int .i64 m2] 23), (bx2, Obj.cells #[.int .u64 Sh, .int .u64 Ql] 106), (by2, Obj.cells #[.int .u64 0, .int .u64 0] 106), (w.heap.size, Obj.cells #[.int .i64 a1, .int .i64 a2] 23), (w.heap.size + 1, Obj.cells #[.int .i64 0, .int .i64 0, .int .i64 0, .int .i64 0] 41)] from At.ext hb52 (show At _ [(w51.heap.size, Obj.cells #[.int .i64 m1, .int .i64 m2] 23), (bx2, Obj.cells #[.int .u64 Sh, .int .u64 Ql] 106), (by2, Obj.cells #[.int .u64 0, .int .u64 0] 106), (w.heap.size, Obj.cells #[.int .i64 a1, .int .i64 a2] 23), (w.heap.size + 1, Obj.cells #[.int .i64 0, .int .i64 0, .int .i64 0, .int .i64 0] 41)] from ⟨one_first _ _, At.alloc A51.out _⟩)); have E52 := Lib.hid ((((E51.out).alloc _)).trans hb52); obtain ⟨c52_0_0, c52_0_1, f52_0_0, f52_0_1⟩ := run_pair (At.at A52.out 0 rfl); have s52_0 : w51.heap.size < w52.heap.size := At.lt A52.out 0 rfl; obtain ⟨c52_1_0, c52_1_1, f52_1_0, f52_1_1⟩ := run_pair (At.at A52.out 1 rfl); have s52_1 : bx2 < w52.heap.size := At.lt A52.out 1 rfl; obtain ⟨c52_2_0, c52_2_1, f52_2_0, f52_2_1⟩ := run_pair (At.at A52.out 2 rfl); have s52_2 : by2 < w52.heap.size := At.lt A52.out 2 rfl; obtain ⟨c52_3_0, c52_3_1, f52_3_0, f52_3_1⟩ := run_pair (At.at A52.out 3 rfl); have s52_3 : w.heap.size < w52.heap.size := At.lt A52.out 3 rfl; obtain ⟨⟨c52_4_0, c52_4_1, c52_4_2, c52_4_3⟩, f52_4_0, f52_4_1, f52_4_2, f52_4_3⟩ := run_four (At.at A52.out 4 rfl); have s52_4 : w.heap.size + 1 < w52.heap.size := At.lt A52.out 4 rfl; (try clear c51_0_0 c51_0_1 f51_0_0 f51_0_1 c51_1_0 c51_1_1 f51_1_0 f51_1_1 c51_2_0 c51_2_1 f51_2_0 f51_2_1 c51_3_0 c51_3_1 c51_3_2 c51_3_3 f51_3_0 f51_3_1 f51_3_2 f51_3_3)))
          refine wp_region_quiet_below (by kernel_rfl) (by kernel_rfl) ?_
          repeat (go_big_quiet_step ((first | (go_at_call 80; with_reducible exact Calls.ext_of (K8.out _)))))
          refine wpQuiet_nil ?_
          intro w53 hw'
          obtain ⟨pq, hw''⟩ := hw'
          have hb53 := ext_of_regrown hw''
          clear hw'' pq
          have A53 := Lib.hid (show At w53 [(w52.heap.size, Obj.cells #[.int .i64 h1, .int .i64 h2] 23), (w51.heap.size, Obj.cells #[.int .i64 m1, .int .i64 m2] 23), (bx2, Obj.cells #[.int .u64 Sh, .int .u64 Ql] 106), (by2, Obj.cells #[.int .u64 0, .int .u64 0] 106), (w.heap.size, Obj.cells #[.int .i64 a1, .int .i64 a2] 23), (w.heap.size + 1, Obj.cells #[.int .i64 0, .int .i64 0, .int .i64 0, .int .i64 0] 41)] from At.ext hb53 (show At _ [(w52.heap.size, Obj.cells #[.int .i64 h1, .int .i64 h2] 23), (w51.heap.size, Obj.cells #[.int .i64 m1, .int .i64 m2] 23), (bx2, Obj.cells #[.int .u64 Sh, .int .u64 Ql] 106), (by2, Obj.cells #[.int .u64 0, .int .u64 0] 106), (w.heap.size, Obj.cells #[.int .i64 a1, .int .i64 a2] 23), (w.heap.size + 1, Obj.cells #[.int .i64 0, .int .i64 0, .int .i64 0, .int .i64 0] 41)] from ⟨one_first _ _, At.alloc A52.out _⟩))
          have E53 := Lib.hid ((((E52.out).alloc _)).trans hb53)
          clear hb53
          obtain ⟨c53_0_0, c53_0_1, f53_0_0, f53_0_1⟩ := run_pair (At.at A53.out 0 rfl)
          have s53_0 : w52.heap.size < w53.heap.size := At.lt A53.out 0 rfl
          obtain ⟨c53_1_0, c53_1_1, f53_1_0, f53_1_1⟩ := run_pair (At.at A53.out 1 rfl)
          have s53_1 : w51.heap.size < w53.heap.size := At.lt A53.out 1 rfl
          obtain ⟨c53_2_0, c53_2_1, f53_2_0, f53_2_1⟩ := run_pair (At.at A53.out 2 rfl)
          have s53_2 : bx2 < w53.heap.size := At.lt A53.out 2 rfl
          obtain ⟨c53_3_0, c53_3_1, f53_3_0, f53_3_1⟩ := run_pair (At.at A53.out 3 rfl)
          have s53_3 : by2 < w53.heap.size := At.lt A53.out 3 rfl
          obtain ⟨c53_4_0, c53_4_1, f53_4_0, f53_4_1⟩ := run_pair (At.at A53.out 4 rfl)
          have s53_4 : w.heap.size < w53.heap.size := At.lt A53.out 4 rfl
          obtain ⟨⟨c53_5_0, c53_5_1, c53_5_2, c53_5_3⟩, f53_5_0, f53_5_1, f53_5_2, f53_5_3⟩ := run_four (At.at A53.out 5 rfl)
          have s53_5 : w.heap.size + 1 < w53.heap.size := At.lt A53.out 5 rfl
          (try clear c52_0_0 c52_0_1 f52_0_0 f52_0_1 c52_1_0 c52_1_1 f52_1_0 f52_1_1 c52_2_0 c52_2_1 f52_2_0 f52_2_1 c52_3_0 c52_3_1 f52_3_0 f52_3_1 c52_4_0 c52_4_1 c52_4_2 c52_4_3 f52_4_0 f52_4_1 f52_4_2 f52_4_3)
          go_wp2
          refine bodyPost_ret (RT.results_row2 rfl _ _ (w.heap.size + 1) 41 #[.int .i64 m1, .int .i64 m2, .int .i64 h1, .int .i64 h2] (0, 0) _ rfl (store_four (v0 := .int .i64 m1) (v1 := .int .i64 m2) (v2 := .int .i64 h1) (v3 := .int .i64 h2) (At.at A53.out 5 rfl)).1 Tryd.underlying41 rfl info_span) rfl ?_
          exact ⟨rfl, (store_four (v0 := .int .i64 m1) (v1 := .int .i64 m2) (v2 := .int .i64 h1) (v3 := .int .i64 h2) (At.at A53.out 5 rfl)).2.2 w (by omega) E53.out⟩
set_option maxRecDepth 100000 in
set_option maxHeartbeats 8000000 in
theorem rRoot_yes (a1 a2 c z m1 m2 e1 h1 h2 e2 Ph Pl Qh Ql Zh Zl Sh Sl : Int) (N D : Nat) (tq : Int → Value) (lt : Int → Bool) (w : World)
    (l1 : 0 ≤ a1)
    (l2 : 1 ≤ c)
    (l3 : c ≤ 32768)
    (l4 : 0 ≤ c * c)
    (l5 : c * c ≤ 1073741824)
    (t1 : decide (a1 < 0) = false)
    (t2 : decide (c < 1) = false)
    (t3 : decide (32768 < c) = false)
    (hl0 : lt 0 = false)
    (hl1 : lt 140737488355328 = true)
    (hz : ∀ lo : Int, 0 ≤ lo → lt lo = false → lt (lo + 1) = true → lo = z)
    (hr1 : Zh = 0)
    (hr2 : Zl = 0)
    (hs1 : Sh = Qh)
    (hs2 : Sl = Ql)
    (k1 : ∀ w, Calls Tryd.prog 50 #[fracV ⟨a1, a2⟩] w fun E w' => E = .returned (.bool true) ∧ Ext w w')
    (k2 : ∀ w, Calls Tryd.prog 81 #[.int .i64 a1] w fun E w' => E = .returned (.int .u64 (N : Int)) ∧ Ext w w')
    (k3 : ∀ w, Calls Tryd.prog 81 #[.int .i64 a2] w fun E w' => E = .returned (.int .u64 (D : Int)) ∧ Ext w w')
    (k4 : ∀ w, Calls Tryd.prog 80 #[.int .u64 (N : Int), .int .u64 (c * c)] w fun E w' => E = .returned (.agg #[.int .u64 Ph, .int .u64 Pl]) ∧ Ext w w')
    (k5 : ∀ w, Calls Tryd.prog 79 #[.agg #[.int .u64 Ph, .int .u64 Pl], .agg #[.int .u64 0, .int .u64 (D : Int)]] w fun E w' => E = .returned (.tuple #[.agg #[.int .u64 Qh, .int .u64 Ql], .agg #[.int .u64 Zh, .int .u64 Zl]]) ∧ Ext w w')
    (kt : ∀ m : Int, 0 ≤ m → m ≤ 140737488355328 → ∀ w, Calls Tryd.prog 80 #[.int .u64 m, .int .u64 m] w fun E w' => E = .returned (tq m) ∧ Ext w w')
    (kl : ∀ m : Int, 0 ≤ m → m ≤ 140737488355328 → ∀ w, Calls Tryd.prog 82 #[.agg #[.int .u64 Qh, .int .u64 Ql], tq m] w fun E w' => E = .returned (.bool (lt m)) ∧ Ext w w')
    (k6 : ∀ w, Calls Tryd.prog 83 #[.int .i64 z, .int .i64 c] w fun E w' => E = .returned (fansV (⟨m1, m2⟩, e1)) ∧ Ext w w')
    (k7 : ∀ w, Calls Tryd.prog 83 #[.int .i64 (z + 1), .int .i64 c] w fun E w' => E = .returned (fansV (⟨h1, h2⟩, e2)) ∧ Ext w w')
    (k8 : ∀ w, Calls Tryd.prog 80 #[.int .u64 z, .int .u64 z] w fun E w' => E = .returned (.agg #[.int .u64 Sh, .int .u64 Sl]) ∧ Ext w w') :
    Calls Tryd.prog 46 #[fracV ⟨a1, a2⟩, .int .i64 c] w fun E w' => E = .returned (.tuple #[.agg #[.int .i64 m1, .int .i64 m2, .int .i64 m1, .int .i64 m2], .int .i64 0]) ∧ Ext w w' := by
  have K1 := Lib.hid k1
  have K2 := Lib.hid k2
  have K3 := Lib.hid k3
  have K4 := Lib.hid k4
  have K5 := Lib.hid k5
  have KT := Lib.hid kt
  have KL := Lib.hid kl
  have K6 := Lib.hid k6
  have K7 := Lib.hid k7
  have K8 := Lib.hid k8
  clear k1 k2 k3 k4 k5 kt kl k6 k7 k8
  subst hr1
  subst hr2
  subst hs1
  subst hs2
  go_enter Tryd.func46, Tryd.ntmps46
  go_wp2_with (first | (go_at_call 50; (with_reducible refine (K1.out _).mono ?_); rintro E w1 ⟨rfl, hb1⟩; have A1 := Lib.hid (show At w1 [(w.heap.size, Obj.cells #[.int .i64 a1, .int .i64 a2] 23), (w.heap.size + 1, Obj.cells #[.int .i64 0, .int .i64 0, .int .i64 0, .int .i64 0] 41)] from At.ext hb1 (show At _ [(w.heap.size, Obj.cells #[.int .i64 a1, .int .i64 a2] 23), (w.heap.size + 1, Obj.cells #[.int .i64 0, .int .i64 0, .int .i64 0, .int .i64 0] 41)] from ⟨(by repeat (first | (refine blk_at _ _ ?_; (first | rfl | (simp only [size_one]; done))) | refine (blk_past _ _ (by simp only [size_one]; omega)).trans ?_)), (by repeat (first | (refine blk_at _ _ ?_; (first | rfl | (simp only [size_one]; done))) | refine (blk_past _ _ (by simp only [size_one]; omega)).trans ?_)), trivial⟩)); have E1 := Lib.hid (((show Ext w _ from (by repeat (first | exact Ext.refl _ | assumption | refine Ext.alloc ?_ _ | refine Ext.drewN ?_ _ | refine ext_grow ?_ _ _ | refine Ext.setCell ?_ (by first | exact Nat.le_refl _ | omega | (simp; done) | (simp; omega)) _ | refine Ext.trans ?_ (by assumption))))).trans hb1); obtain ⟨c1_0_0, c1_0_1, f1_0_0, f1_0_1⟩ := run_pair (At.at A1.out 0 rfl); have s1_0 : w.heap.size < w1.heap.size := At.lt A1.out 0 rfl; obtain ⟨⟨c1_1_0, c1_1_1, c1_1_2, c1_1_3⟩, f1_1_0, f1_1_1, f1_1_2, f1_1_3⟩ := run_four (At.at A1.out 1 rfl); have s1_1 : w.heap.size + 1 < w1.heap.size := At.lt A1.out 1 rfl))
  refine RT.region_two (aq := ?az5) (n := 16) (sx := 6) (sy := 7) (vx := 45) (vy := 46) (oz := Obj.cells #[.int .u64 0, .int .u64 0] 106) (ox := Obj.cells #[.int .u64 Sh, .int .u64 Sl] 106) (oy := Obj.cells #[.int .u64 0, .int .u64 0] 106) (qs := [_, _, _, _, _, _, _, _, _, _, _, _, _, _, _, _]) (by kernel_rfl) rfl (by kernel_rfl) (by kernel_rfl) rfl rfl (of_decide_eq_true (by kernel_rfl)) (of_decide_eq_true (by kernel_rfl)) rfl rfl rfl rfl (by kernel_rfl) (by kernel_rfl) (by kernel_rfl) (by kernel_rfl) ?_ ?_ ?_ ?_ ?_ ?_
  rotate_left
  · intro e w
    simp [execOp, go_sem, Tryd.underlying106]
  · intro e w
    simp [execOp, go_sem, Tryd.underlying106]
  · intro wq hEq
    have AQ := Lib.hid (show At wq [(w.heap.size, Obj.cells #[.int .i64 a1, .int .i64 a2] 23), (w.heap.size + 1, Obj.cells #[.int .i64 0, .int .i64 0, .int .i64 0, .int .i64 0] 41)] from At.ext hEq A1.out)
    obtain ⟨q_0_0, q_0_1, r_0_0, r_0_1⟩ := run_pair (At.at AQ.out 0 rfl)
    have sq_0 : w.heap.size < wq.heap.size := At.lt AQ.out 0 rfl
    obtain ⟨⟨q_1_0, q_1_1, q_1_2, q_1_3⟩, r_1_0, r_1_1, r_1_2, r_1_3⟩ := run_four (At.at AQ.out 1 rfl)
    have sq_1 : w.heap.size + 1 < wq.heap.size := At.lt AQ.out 1 rfl
    clear hEq
    simp only [List.cons_append, List.nil_append]
    repeat (go_big_quiet_step ((first | (go_at_call 81; with_reducible exact Calls.ext_of (K2.out _)) | (go_at_call 81; with_reducible exact Calls.ext_of (K3.out _)) | (go_at_call 80; with_reducible exact Calls.ext_of (K4.out _)) | (go_at_call 79; with_reducible exact Calls.ext_of (K5.out _)))))
    refine wpQuiet_nil ?_
    exact rfl
  · intro e w b h1 h2 h3
    obtain ⟨c0, c1, f0, f1⟩ := run_pair h3
    have h2' : e (.tmp 45) = .agg #[.int .u64 Sh, .int .u64 Sl] := h2
    apply Exists.intro
    apply And.intro
    · simp [execOp, go_sem, h1, h2', c0, c1, f0, f1, Tryd.underlying106]
      exact rfl
    · exact store_pair h3
  · intro e w b h1 h2 h3
    obtain ⟨c0, c1, f0, f1⟩ := run_pair h3
    have h2' : e (.tmp 46) = .agg #[.int .u64 0, .int .u64 0] := h2
    apply Exists.intro
    apply And.intro
    · simp [execOp, go_sem, h1, h2', c0, c1, f0, f1, Tryd.underlying106]
      exact rfl
    · exact store_pair h3
  · intro bx2 by2 w2 hE2 hbx2 hby2 hne2 hX2 hY2
    have A2 := Lib.hid (show At w2 [(bx2, Obj.cells #[.int .u64 Sh, .int .u64 Sl] 106), (by2, Obj.cells #[.int .u64 0, .int .u64 0] 106), (w.heap.size, Obj.cells #[.int .i64 a1, .int .i64 a2] 23), (w.heap.size + 1, Obj.cells #[.int .i64 0, .int .i64 0, .int .i64 0, .int .i64 0] 41)] from ⟨hX2, hY2, At.ext hE2 A1.out⟩)
    have E2 := Lib.hid ((E1.out).trans hE2)
    obtain ⟨c2_0_0, c2_0_1, f2_0_0, f2_0_1⟩ := run_pair (At.at A2.out 0 rfl)
    have s2_0 : bx2 < w2.heap.size := At.lt A2.out 0 rfl
    obtain ⟨c2_1_0, c2_1_1, f2_1_0, f2_1_1⟩ := run_pair (At.at A2.out 1 rfl)
    have s2_1 : by2 < w2.heap.size := At.lt A2.out 1 rfl
    obtain ⟨c2_2_0, c2_2_1, f2_2_0, f2_2_1⟩ := run_pair (At.at A2.out 2 rfl)
    have s2_2 : w.heap.size < w2.heap.size := At.lt A2.out 2 rfl
    obtain ⟨⟨c2_3_0, c2_3_1, c2_3_2, c2_3_3⟩, f2_3_0, f2_3_1, f2_3_2, f2_3_3⟩ := run_four (At.at A2.out 3 rfl)
    have s2_3 : w.heap.size + 1 < w2.heap.size := At.lt A2.out 3 rfl
    have y2bx_0 : w.heap.size < bx2 := Nat.lt_of_lt_of_le (At.lt A1.out 0 rfl) hbx2
    have y2bx_1 : w.heap.size + 1 < bx2 := Nat.lt_of_lt_of_le (At.lt A1.out 1 rfl) hbx2
    have y2bx_w : w.heap.size ≤ bx2 := by omega
    have y2by_0 : w.heap.size < by2 := Nat.lt_of_lt_of_le (At.lt A1.out 0 rfl) hby2
    have y2by_1 : w.heap.size + 1 < by2 := Nat.lt_of_lt_of_le (At.lt A1.out 1 rfl) hby2
    have y2by_w : w.heap.size ≤ by2 := by omega
    clear hbx2 hby2 hE2 hX2 hY2
    go_wp2
    go_loopw [8, 9] (fun x y wr => ∃ lo hi : Int, x = .int .u64 lo ∧ y = .int .u64 hi ∧ 0 ≤ lo ∧ lo < hi ∧ hi ≤ 140737488355328 ∧ Ext w wr ∧ Hid (At wr [(bx2, Obj.cells #[.int .u64 Sh, .int .u64 Sl] 106), (by2, Obj.cells #[.int .u64 0, .int .u64 0] 106), (w.heap.size, Obj.cells #[.int .i64 a1, .int .i64 a2] 23), (w.heap.size + 1, Obj.cells #[.int .i64 0, .int .i64 0, .int .i64 0, .int .i64 0] 41)]) ∧ Hid (lt lo = false ∧ lt hi = true)) (fun x y _ => (intOf y - intOf x).toNat)
    case atStart => exact ⟨0, 140737488355328, rfl, rfl, by omega, by omega, by omega, E2.out, Lib.hid A2.out, Lib.hid ⟨hl0, hl1⟩⟩
    case round =>
      obtain ⟨lo, hi, rfl, rfl, l0, l1, l2, hE, hA, hI⟩ := hrel
      by_cases hg : 1 < hi - lo
      · obtain ⟨b, hb⟩ : ∃ b, lt ((lo + hi) / 2) = b := ⟨_, rfl⟩
        have km := KL.out ((lo + hi) / 2) (by omega) (by omega)
        rw [hb] at km
        have KM := Lib.hid km
        have hlt := Lib.hid hb
        clear km hb
        cases b
        · skip
          obtain ⟨c50_0_0, c50_0_1, f50_0_0, f50_0_1⟩ := run_pair (At.at hA.out 0 rfl)
          have s50_0 : bx2 < wr.heap.size := At.lt hA.out 0 rfl
          obtain ⟨c50_1_0, c50_1_1, f50_1_0, f50_1_1⟩ := run_pair (At.at hA.out 1 rfl)
          have s50_1 : by2 < wr.heap.size := At.lt hA.out 1 rfl
          obtain ⟨c50_2_0, c50_2_1, f50_2_0, f50_2_1⟩ := run_pair (At.at hA.out 2 rfl)
          have s50_2 : w.heap.size < wr.heap.size := At.lt hA.out 2 rfl
          obtain ⟨⟨c50_3_0, c50_3_1, c50_3_2, c50_3_3⟩, f50_3_0, f50_3_1, f50_3_2, f50_3_3⟩ := run_four (At.at hA.out 3 rfl)
          have s50_3 : w.heap.size + 1 < wr.heap.size := At.lt hA.out 3 rfl
          go_wp2
          refine wp_region_quiet_below (by kernel_rfl) (by kernel_rfl) ?_
          repeat (go_big_quiet_step ((first | (go_at_call 80; with_reducible exact Calls.ext_of (KT.out ((lo + hi) / 2) (by omega) (by omega) _)) | (go_at_call 82; with_reducible exact Calls.ext_of (KM.out _)))))
          refine wpQuiet_nil ?_
          intro w51 hw'
          obtain ⟨pq, hw''⟩ := hw'
          have hb51 := ext_of_regrown hw''
          clear hw'' pq
          have A51 := Lib.hid (show At w51 [(bx2, Obj.cells #[.int .u64 Sh, .int .u64 Sl] 106), (by2, Obj.cells #[.int .u64 0, .int .u64 0] 106), (w.heap.size, Obj.cells #[.int .i64 a1, .int .i64 a2] 23), (w.heap.size + 1, Obj.cells #[.int .i64 0, .int .i64 0, .int .i64 0, .int .i64 0] 41)] from At.ext hb51 hA.out)
          have E51 := Lib.hid ((hE).trans hb51)
          clear hb51
          obtain ⟨c51_0_0, c51_0_1, f51_0_0, f51_0_1⟩ := run_pair (At.at A51.out 0 rfl)
          have s51_0 : bx2 < w51.heap.size := At.lt A51.out 0 rfl
          obtain ⟨c51_1_0, c51_1_1, f51_1_0, f51_1_1⟩ := run_pair (At.at A51.out 1 rfl)
          have s51_1 : by2 < w51.heap.size := At.lt A51.out 1 rfl
          obtain ⟨c51_2_0, c51_2_1, f51_2_0, f51_2_1⟩ := run_pair (At.at A51.out 2 rfl)
          have s51_2 : w.heap.size < w51.heap.size := At.lt A51.out 2 rfl
          obtain ⟨⟨c51_3_0, c51_3_1, c51_3_2, c51_3_3⟩, f51_3_0, f51_3_1, f51_3_2, f51_3_3⟩ := run_four (At.at A51.out 3 rfl)
          have s51_3 : w.heap.size + 1 < w51.heap.size := At.lt A51.out 3 rfl
          go_wp2
          go_roundw
          case rel => exact ⟨(lo + hi) / 2, hi, rfl, rfl, by omega, by omega, by omega, E51.out, A51, Lib.hid ⟨hlt.out, hI.out.2⟩⟩
          case measure => simp [intOf]; omega
        · skip
          obtain ⟨c50_0_0, c50_0_1, f50_0_0, f50_0_1⟩ := run_pair (At.at hA.out 0 rfl)
          have s50_0 : bx2 < wr.heap.size := At.lt hA.out 0 rfl
          obtain ⟨c50_1_0, c50_1_1, f50_1_0, f50_1_1⟩ := run_pair (At.at hA.out 1 rfl)
          have s50_1 : by2 < wr.heap.size := At.lt hA.out 1 rfl
          obtain ⟨c50_2_0, c50_2_1, f50_2_0, f50_2_1⟩ := run_pair (At.at hA.out 2 rfl)
          have s50_2 : w.heap.size < wr.heap.size := At.lt hA.out 2 rfl
          obtain ⟨⟨c50_3_0, c50_3_1, c50_3_2, c50_3_3⟩, f50_3_0, f50_3_1, f50_3_2, f50_3_3⟩ := run_four (At.at hA.out 3 rfl)
          have s50_3 : w.heap.size + 1 < wr.heap.size := At.lt hA.out 3 rfl
          go_wp2
          refine wp_region_quiet_below (by kernel_rfl) (by kernel_rfl) ?_
          repeat (go_big_quiet_step ((first | (go_at_call 80; with_reducible exact Calls.ext_of (KT.out ((lo + hi) / 2) (by omega) (by omega) _)) | (go_at_call 82; with_reducible exact Calls.ext_of (KM.out _)))))
          refine wpQuiet_nil ?_
          intro w51 hw'
          obtain ⟨pq, hw''⟩ := hw'
          have hb51 := ext_of_regrown hw''
          clear hw'' pq
          have A51 := Lib.hid (show At w51 [(bx2, Obj.cells #[.int .u64 Sh, .int .u64 Sl] 106), (by2, Obj.cells #[.int .u64 0, .int .u64 0] 106), (w.heap.size, Obj.cells #[.int .i64 a1, .int .i64 a2] 23), (w.heap.size + 1, Obj.cells #[.int .i64 0, .int .i64 0, .int .i64 0, .int .i64 0] 41)] from At.ext hb51 hA.out)
          have E51 := Lib.hid ((hE).trans hb51)
          clear hb51
          obtain ⟨c51_0_0, c51_0_1, f51_0_0, f51_0_1⟩ := run_pair (At.at A51.out 0 rfl)
          have s51_0 : bx2 < w51.heap.size := At.lt A51.out 0 rfl
          obtain ⟨c51_1_0, c51_1_1, f51_1_0, f51_1_1⟩ := run_pair (At.at A51.out 1 rfl)
          have s51_1 : by2 < w51.heap.size := At.lt A51.out 1 rfl
          obtain ⟨c51_2_0, c51_2_1, f51_2_0, f51_2_1⟩ := run_pair (At.at A51.out 2 rfl)
          have s51_2 : w.heap.size < w51.heap.size := At.lt A51.out 2 rfl
          obtain ⟨⟨c51_3_0, c51_3_1, c51_3_2, c51_3_3⟩, f51_3_0, f51_3_1, f51_3_2, f51_3_3⟩ := run_four (At.at A51.out 3 rfl)
          have s51_3 : w.heap.size + 1 < w51.heap.size := At.lt A51.out 3 rfl
          go_wp2
          go_roundw
          case rel => exact ⟨lo, (lo + hi) / 2, rfl, rfl, by omega, by omega, by omega, E51.out, A51, Lib.hid ⟨hI.out.1, hlt.out⟩⟩
          case measure => simp [intOf]; omega
      · obtain rfl : lo = z := hz lo l0 hI.out.1 (by rw [show lo + 1 = hi by omega]; exact hI.out.2)
        obtain rfl : hi = lo + 1 := by omega
        obtain ⟨c50_0_0, c50_0_1, f50_0_0, f50_0_1⟩ := run_pair (At.at hA.out 0 rfl)
        have s50_0 : bx2 < wr.heap.size := At.lt hA.out 0 rfl
        obtain ⟨c50_1_0, c50_1_1, f50_1_0, f50_1_1⟩ := run_pair (At.at hA.out 1 rfl)
        have s50_1 : by2 < wr.heap.size := At.lt hA.out 1 rfl
        obtain ⟨c50_2_0, c50_2_1, f50_2_0, f50_2_1⟩ := run_pair (At.at hA.out 2 rfl)
        have s50_2 : w.heap.size < wr.heap.size := At.lt hA.out 2 rfl
        obtain ⟨⟨c50_3_0, c50_3_1, c50_3_2, c50_3_3⟩, f50_3_0, f50_3_1, f50_3_2, f50_3_3⟩ := run_four (At.at hA.out 3 rfl)
        have s50_3 : w.heap.size + 1 < wr.heap.size := At.lt hA.out 3 rfl
        go_wp2_with (first | (go_at_call 83; (with_reducible refine (K6.out _).mono ?_); rintro E w51 ⟨rfl, hb51⟩; have A51 := Lib.hid (show At w51 [(bx2, Obj.cells #[.int .u64 Sh, .int .u64 Sl] 106), (by2, Obj.cells #[.int .u64 0, .int .u64 0] 106), (w.heap.size, Obj.cells #[.int .i64 a1, .int .i64 a2] 23), (w.heap.size + 1, Obj.cells #[.int .i64 0, .int .i64 0, .int .i64 0, .int .i64 0] 41)] from At.ext hb51 hA.out); have E51 := Lib.hid ((hE).trans hb51); obtain ⟨c51_0_0, c51_0_1, f51_0_0, f51_0_1⟩ := run_pair (At.at A51.out 0 rfl); have s51_0 : bx2 < w51.heap.size := At.lt A51.out 0 rfl; obtain ⟨c51_1_0, c51_1_1, f51_1_0, f51_1_1⟩ := run_pair (At.at A51.out 1 rfl); have s51_1 : by2 < w51.heap.size := At.lt A51.out 1 rfl; obtain ⟨c51_2_0, c51_2_1, f51_2_0, f51_2_1⟩ := run_pair (At.at A51.out 2 rfl); have s51_2 : w.heap.size < w51.heap.size := At.lt A51.out 2 rfl; obtain ⟨⟨c51_3_0, c51_3_1, c51_3_2, c51_3_3⟩, f51_3_0, f51_3_1, f51_3_2, f51_3_3⟩ := run_four (At.at A51.out 3 rfl); have s51_3 : w.heap.size + 1 < w51.heap.size := At.lt A51.out 3 rfl) | (go_at_call 83; (with_reducible refine (K7.out _).mono ?_); rintro E w52 ⟨rfl, hb52⟩; have A52 := Lib.hid (show At w52 [(w51.heap.size, Obj.cells #[.int .i64 m1, .int .i64 m2] 23), (bx2, Obj.cells #[.int .u64 Sh, .int .u64 Sl] 106), (by2, Obj.cells #[.int .u64 0, .int .u64 0] 106), (w.heap.size, Obj.cells #[.int .i64 a1, .int .i64 a2] 23), (w.heap.size + 1, Obj.cells #[.int .i64 0, .int .i64 0, .int .i64 0, .int .i64 0] 41)] from At.ext hb52 (show At _ [(w51.heap.size, Obj.cells #[.int .i64 m1, .int .i64 m2] 23), (bx2, Obj.cells #[.int .u64 Sh, .int .u64 Sl] 106), (by2, Obj.cells #[.int .u64 0, .int .u64 0] 106), (w.heap.size, Obj.cells #[.int .i64 a1, .int .i64 a2] 23), (w.heap.size + 1, Obj.cells #[.int .i64 0, .int .i64 0, .int .i64 0, .int .i64 0] 41)] from ⟨one_first _ _, At.alloc A51.out _⟩)); have E52 := Lib.hid ((((E51.out).alloc _)).trans hb52); obtain ⟨c52_0_0, c52_0_1, f52_0_0, f52_0_1⟩ := run_pair (At.at A52.out 0 rfl); have s52_0 : w51.heap.size < w52.heap.size := At.lt A52.out 0 rfl; obtain ⟨c52_1_0, c52_1_1, f52_1_0, f52_1_1⟩ := run_pair (At.at A52.out 1 rfl); have s52_1 : bx2 < w52.heap.size := At.lt A52.out 1 rfl; obtain ⟨c52_2_0, c52_2_1, f52_2_0, f52_2_1⟩ := run_pair (At.at A52.out 2 rfl); have s52_2 : by2 < w52.heap.size := At.lt A52.out 2 rfl; obtain ⟨c52_3_0, c52_3_1, f52_3_0, f52_3_1⟩ := run_pair (At.at A52.out 3 rfl); have s52_3 : w.heap.size < w52.heap.size := At.lt A52.out 3 rfl; obtain ⟨⟨c52_4_0, c52_4_1, c52_4_2, c52_4_3⟩, f52_4_0, f52_4_1, f52_4_2, f52_4_3⟩ := run_four (At.at A52.out 4 rfl); have s52_4 : w.heap.size + 1 < w52.heap.size := At.lt A52.out 4 rfl; (try clear c51_0_0 c51_0_1 f51_0_0 f51_0_1 c51_1_0 c51_1_1 f51_1_0 f51_1_1 c51_2_0 c51_2_1 f51_2_0 f51_2_1 c51_3_0 c51_3_1 c51_3_2 c51_3_3 f51_3_0 f51_3_1 f51_3_2 f51_3_3)))
        refine wp_region_quiet_below (by kernel_rfl) (by kernel_rfl) ?_
        repeat (go_big_quiet_step ((first | (go_at_call 80; with_reducible exact Calls.ext_of (K8.out _)))))
        refine wpQuiet_nil ?_
        intro w53 hw'
        obtain ⟨pq, hw''⟩ := hw'
        have hb53 := ext_of_regrown hw''
        clear hw'' pq
        have A53 := Lib.hid (show At w53 [(w52.heap.size, Obj.cells #[.int .i64 h1, .int .i64 h2] 23), (w51.heap.size, Obj.cells #[.int .i64 m1, .int .i64 m2] 23), (bx2, Obj.cells #[.int .u64 Sh, .int .u64 Sl] 106), (by2, Obj.cells #[.int .u64 0, .int .u64 0] 106), (w.heap.size, Obj.cells #[.int .i64 a1, .int .i64 a2] 23), (w.heap.size + 1, Obj.cells #[.int .i64 0, .int .i64 0, .int .i64 0, .int .i64 0] 41)] from At.ext hb53 (show At _ [(w52.heap.size, Obj.cells #[.int .i64 h1, .int .i64 h2] 23), (w51.heap.size, Obj.cells #[.int .i64 m1, .int .i64 m2] 23), (bx2, Obj.cells #[.int .u64 Sh, .int .u64 Sl] 106), (by2, Obj.cells #[.int .u64 0, .int .u64 0] 106), (w.heap.size, Obj.cells #[.int .i64 a1, .int .i64 a2] 23), (w.heap.size + 1, Obj.cells #[.int .i64 0, .int .i64 0, .int .i64 0, .int .i64 0] 41)] from ⟨one_first _ _, At.alloc A52.out _⟩))
        have E53 := Lib.hid ((((E52.out).alloc _)).trans hb53)
        clear hb53
        obtain ⟨c53_0_0, c53_0_1, f53_0_0, f53_0_1⟩ := run_pair (At.at A53.out 0 rfl)
        have s53_0 : w52.heap.size < w53.heap.size := At.lt A53.out 0 rfl
        obtain ⟨c53_1_0, c53_1_1, f53_1_0, f53_1_1⟩ := run_pair (At.at A53.out 1 rfl)
        have s53_1 : w51.heap.size < w53.heap.size := At.lt A53.out 1 rfl
        obtain ⟨c53_2_0, c53_2_1, f53_2_0, f53_2_1⟩ := run_pair (At.at A53.out 2 rfl)
        have s53_2 : bx2 < w53.heap.size := At.lt A53.out 2 rfl
        obtain ⟨c53_3_0, c53_3_1, f53_3_0, f53_3_1⟩ := run_pair (At.at A53.out 3 rfl)
        have s53_3 : by2 < w53.heap.size := At.lt A53.out 3 rfl
        obtain ⟨c53_4_0, c53_4_1, f53_4_0, f53_4_1⟩ := run_pair (At.at A53.out 4 rfl)
        have s53_4 : w.heap.size < w53.heap.size := At.lt A53.out 4 rfl
        obtain ⟨⟨c53_5_0, c53_5_1, c53_5_2, c53_5_3⟩, f53_5_0, f53_5_1, f53_5_2, f53_5_3⟩ := run_four (At.at A53.out 5 rfl)
        have s53_5 : w.heap.size + 1 < w53.heap.size := At.lt A53.out 5 rfl
        (try clear c52_0_0 c52_0_1 f52_0_0 f52_0_1 c52_1_0 c52_1_1 f52_1_0 f52_1_1 c52_2_0 c52_2_1 f52_2_0 f52_2_1 c52_3_0 c52_3_1 f52_3_0 f52_3_1 c52_4_0 c52_4_1 c52_4_2 c52_4_3 f52_4_0 f52_4_1 f52_4_2 f52_4_3)
        go_wp2
        refine bodyPost_ret (RT.results_row2 rfl _ _ (w.heap.size + 1) 41 #[.int .i64 m1, .int .i64 m2, .int .i64 m1, .int .i64 m2] (0, 0) _ rfl (store_four (v0 := .int .i64 m1) (v1 := .int .i64 m2) (v2 := .int .i64 m1) (v3 := .int .i64 m2) (At.at (show At _ [(w52.heap.size, Obj.cells #[.int .i64 m1, .int .i64 m2] 23), (w51.heap.size, Obj.cells #[.int .i64 m1, .int .i64 m2] 23), (bx2, Obj.cells #[.int .u64 Sh, .int .u64 Sl] 106), (by2, Obj.cells #[.int .u64 0, .int .u64 0] 106), (w.heap.size, Obj.cells #[.int .i64 a1, .int .i64 a2] 23), (w.heap.size + 1, Obj.cells #[.int .i64 0, .int .i64 0, .int .i64 0, .int .i64 0] 41)] from ⟨(store_pair (v0 := .int .i64 m1) (v1 := .int .i64 m2) (At.at A53.out 0 rfl)).1, At.other (store_pair (v0 := .int .i64 m1) (v1 := .int .i64 m2) (At.at A53.out 0 rfl)).2.1 (by first | (simp; done) | (simp; omega)) (At.erase A53.out 0)⟩) 5 rfl)).1 Tryd.underlying41 rfl info_span) rfl ?_
        exact ⟨rfl, (store_four (v0 := .int .i64 m1) (v1 := .int .i64 m2) (v2 := .int .i64 m1) (v3 := .int .i64 m2) (At.at (show At _ [(w52.heap.size, Obj.cells #[.int .i64 m1, .int .i64 m2] 23), (w51.heap.size, Obj.cells #[.int .i64 m1, .int .i64 m2] 23), (bx2, Obj.cells #[.int .u64 Sh, .int .u64 Sl] 106), (by2, Obj.cells #[.int .u64 0, .int .u64 0] 106), (w.heap.size, Obj.cells #[.int .i64 a1, .int .i64 a2] 23), (w.heap.size + 1, Obj.cells #[.int .i64 0, .int .i64 0, .int .i64 0, .int .i64 0] 41)] from ⟨(store_pair (v0 := .int .i64 m1) (v1 := .int .i64 m2) (At.at A53.out 0 rfl)).1, At.other (store_pair (v0 := .int .i64 m1) (v1 := .int .i64 m2) (At.at A53.out 0 rfl)).2.1 (by first | (simp; done) | (simp; omega)) (At.erase A53.out 0)⟩) 5 rfl)).2.2 w (by omega) ((store_pair (v0 := .int .i64 m1) (v1 := .int .i64 m2) (At.at A53.out 0 rfl)).2.2 w (by omega) E53.out)⟩
end Go.Proofs.YtodoimeiklilhaaDoor
