/- The walks of the reference's Compare, Check, Add, Sub, Mul, Div. -/
import Derived.Test.YtodoimeiklilhaaRefSums
set_option linter.unusedVariables false
set_option linter.unusedSimpArgs false
namespace Go.Proofs.Ytodoimeiklilhaa
open Go.RowKit Go.Sort

set_option maxRecDepth 100000 in
set_option maxHeartbeats 8000000 in
theorem rAdd_walk (a1 a2 b1 b2 c1 c2 n d rn rd re : Int) (t va vb : Bool) (w : World)
    (k1 : ∀ w, Calls Try.prog 43 #[fracV ⟨a1, a2⟩] w fun E w' => E = .returned (.bool va) ∧ Ext w w')
    (k2 : ∀ w, Calls Try.prog 43 #[fracV ⟨b1, b2⟩] w fun E w' => E = .returned (.bool vb) ∧ Ext w w')
    (k3 : va = true → vb = true → ∀ w, Calls Try.prog 48 #[fracV ⟨a1, a2⟩, fracV ⟨b1, b2⟩] w fun E w' => E = .returned (.tuple #[fracV ⟨n, d⟩, .bool t]) ∧ Ext w w')
    (k9 : va = true → vb = true → ∀ w, Calls Try.prog 38 #[fracV ⟨n, d⟩, .bool t] w fun E w' => E = .returned (fansV (⟨rn, rd⟩, re)) ∧ Ext w w')
    (R1 R2 R3 : Int) (hm : (if va = true ∧ vb = true then (rn, rd, re) else (0, 0, 8)) = (R1, R2, R3)) :
    Calls Try.prog 12 #[fracV ⟨a1, a2⟩, fracV ⟨b1, b2⟩] w fun E w' => E = .returned (fansV (⟨R1, R2⟩, R3)) ∧ Ext w w' := by
  have K1 := Lib.hid k1
  have K2 := Lib.hid k2
  have K3 := Lib.hid k3
  have K9 := Lib.hid k9
  clear k1 k2 k3 k9
  cases va
  · obtain ⟨rfl, rfl, rfl⟩ : 0 = R1 ∧ 0 = R2 ∧ 8 = R3 := by simpa using hm
    clear hm
    go_enter Try.func12, Try.ntmps12
    go_wp2_with (first | (go_at_call 43; (with_reducible refine (K1.out _).mono ?_); rintro E w1 ⟨rfl, hb1⟩; have A1 := Lib.hid (show At w1 [(w.heap.size, Obj.cells #[.int .i64 a1, .int .i64 a2] 23), (w.heap.size + 1, Obj.cells #[.int .i64 b1, .int .i64 b2] 23), (w.heap.size + 1 + 1, Obj.cells #[.int .i64 0, .int .i64 0] 23)] from At.ext hb1 (show At _ [(w.heap.size, Obj.cells #[.int .i64 a1, .int .i64 a2] 23), (w.heap.size + 1, Obj.cells #[.int .i64 b1, .int .i64 b2] 23), (w.heap.size + 1 + 1, Obj.cells #[.int .i64 0, .int .i64 0] 23)] from ⟨(by repeat (first | (refine blk_at _ _ ?_; (first | rfl | (simp only [size_one]; done))) | refine (blk_past _ _ (by simp only [size_one]; omega)).trans ?_)), (by repeat (first | (refine blk_at _ _ ?_; (first | rfl | (simp only [size_one]; done))) | refine (blk_past _ _ (by simp only [size_one]; omega)).trans ?_)), (by repeat (first | (refine blk_at _ _ ?_; (first | rfl | (simp only [size_one]; done))) | refine (blk_past _ _ (by simp only [size_one]; omega)).trans ?_)), trivial⟩)); have E1 := Lib.hid (((show Ext w _ from (by repeat (first | exact Ext.refl _ | assumption | refine Ext.alloc ?_ _ | refine Ext.drewN ?_ _ | refine ext_grow ?_ _ _ | refine Ext.setCell ?_ (by first | exact Nat.le_refl _ | omega | (simp; done) | (simp; omega)) _ | refine Ext.trans ?_ (by assumption))))).trans hb1); obtain ⟨c1_0_0, c1_0_1, f1_0_0, f1_0_1⟩ := run_pair (At.at A1.out 0 rfl); have s1_0 : w.heap.size < w1.heap.size := At.lt A1.out 0 rfl; obtain ⟨c1_1_0, c1_1_1, f1_1_0, f1_1_1⟩ := run_pair (At.at A1.out 1 rfl); have s1_1 : w.heap.size + 1 < w1.heap.size := At.lt A1.out 1 rfl; obtain ⟨c1_2_0, c1_2_1, f1_2_0, f1_2_1⟩ := run_pair (At.at A1.out 2 rfl); have s1_2 : w.heap.size + 1 + 1 < w1.heap.size := At.lt A1.out 2 rfl))
    refine bodyPost_ret (RT.results_row2 rfl _ _ (w.heap.size + 1 + 1) 23 #[.int .i64 0, .int .i64 0] (0, 0) _ rfl (store_pair (At.at A1.out 2 rfl)).1 Try.underlying23 rfl info_frac) rfl ?_
    exact ⟨rfl, (store_pair (At.at A1.out 2 rfl)).2.2 w (by omega) E1.out⟩
  · cases vb
    · obtain ⟨rfl, rfl, rfl⟩ : 0 = R1 ∧ 0 = R2 ∧ 8 = R3 := by simpa using hm
      clear hm
      go_enter Try.func12, Try.ntmps12
      go_wp2_with (first | (go_at_call 43; (with_reducible refine (K1.out _).mono ?_); rintro E w1 ⟨rfl, hb1⟩; have A1 := Lib.hid (show At w1 [(w.heap.size, Obj.cells #[.int .i64 a1, .int .i64 a2] 23), (w.heap.size + 1, Obj.cells #[.int .i64 b1, .int .i64 b2] 23), (w.heap.size + 1 + 1, Obj.cells #[.int .i64 0, .int .i64 0] 23)] from At.ext hb1 (show At _ [(w.heap.size, Obj.cells #[.int .i64 a1, .int .i64 a2] 23), (w.heap.size + 1, Obj.cells #[.int .i64 b1, .int .i64 b2] 23), (w.heap.size + 1 + 1, Obj.cells #[.int .i64 0, .int .i64 0] 23)] from ⟨(by repeat (first | (refine blk_at _ _ ?_; (first | rfl | (simp only [size_one]; done))) | refine (blk_past _ _ (by simp only [size_one]; omega)).trans ?_)), (by repeat (first | (refine blk_at _ _ ?_; (first | rfl | (simp only [size_one]; done))) | refine (blk_past _ _ (by simp only [size_one]; omega)).trans ?_)), (by repeat (first | (refine blk_at _ _ ?_; (first | rfl | (simp only [size_one]; done))) | refine (blk_past _ _ (by simp only [size_one]; omega)).trans ?_)), trivial⟩)); have E1 := Lib.hid (((show Ext w _ from (by repeat (first | exact Ext.refl _ | assumption | refine Ext.alloc ?_ _ | refine Ext.drewN ?_ _ | refine ext_grow ?_ _ _ | refine Ext.setCell ?_ (by first | exact Nat.le_refl _ | omega | (simp; done) | (simp; omega)) _ | refine Ext.trans ?_ (by assumption))))).trans hb1); obtain ⟨c1_0_0, c1_0_1, f1_0_0, f1_0_1⟩ := run_pair (At.at A1.out 0 rfl); have s1_0 : w.heap.size < w1.heap.size := At.lt A1.out 0 rfl; obtain ⟨c1_1_0, c1_1_1, f1_1_0, f1_1_1⟩ := run_pair (At.at A1.out 1 rfl); have s1_1 : w.heap.size + 1 < w1.heap.size := At.lt A1.out 1 rfl; obtain ⟨c1_2_0, c1_2_1, f1_2_0, f1_2_1⟩ := run_pair (At.at A1.out 2 rfl); have s1_2 : w.heap.size + 1 + 1 < w1.heap.size := At.lt A1.out 2 rfl) | (go_at_call 43; (with_reducible refine (K2.out _).mono ?_); rintro E w2 ⟨rfl, hb2⟩; have A2 := Lib.hid (show At w2 [(w.heap.size, Obj.cells #[.int .i64 a1, .int .i64 a2] 23), (w.heap.size + 1, Obj.cells #[.int .i64 b1, .int .i64 b2] 23), (w.heap.size + 1 + 1, Obj.cells #[.int .i64 0, .int .i64 0] 23)] from At.ext hb2 A1.out); have E2 := Lib.hid ((E1.out).trans hb2); obtain ⟨c2_0_0, c2_0_1, f2_0_0, f2_0_1⟩ := run_pair (At.at A2.out 0 rfl); have s2_0 : w.heap.size < w2.heap.size := At.lt A2.out 0 rfl; obtain ⟨c2_1_0, c2_1_1, f2_1_0, f2_1_1⟩ := run_pair (At.at A2.out 1 rfl); have s2_1 : w.heap.size + 1 < w2.heap.size := At.lt A2.out 1 rfl; obtain ⟨c2_2_0, c2_2_1, f2_2_0, f2_2_1⟩ := run_pair (At.at A2.out 2 rfl); have s2_2 : w.heap.size + 1 + 1 < w2.heap.size := At.lt A2.out 2 rfl; (try clear c1_0_0 c1_0_1 f1_0_0 f1_0_1 c1_1_0 c1_1_1 f1_1_0 f1_1_1 c1_2_0 c1_2_1 f1_2_0 f1_2_1 s1_0 s1_1 s1_2)))
      refine bodyPost_ret (RT.results_row2 rfl _ _ (w.heap.size + 1 + 1) 23 #[.int .i64 0, .int .i64 0] (0, 0) _ rfl (store_pair (At.at A2.out 2 rfl)).1 Try.underlying23 rfl info_frac) rfl ?_
      exact ⟨rfl, (store_pair (At.at A2.out 2 rfl)).2.2 w (by omega) E2.out⟩
    · obtain ⟨rfl, rfl, rfl⟩ : rn = R1 ∧ rd = R2 ∧ re = R3 := by simpa using hm
      clear hm
      have K3x := Lib.hid (K3.out rfl rfl)
      clear K3
      have K9x := Lib.hid (K9.out rfl rfl)
      clear K9
      go_enter Try.func12, Try.ntmps12
      go_wp2_with (first | (go_at_call 43; (with_reducible refine (K1.out _).mono ?_); rintro E w1 ⟨rfl, hb1⟩; have A1 := Lib.hid (show At w1 [(w.heap.size, Obj.cells #[.int .i64 a1, .int .i64 a2] 23), (w.heap.size + 1, Obj.cells #[.int .i64 b1, .int .i64 b2] 23), (w.heap.size + 1 + 1, Obj.cells #[.int .i64 0, .int .i64 0] 23)] from At.ext hb1 (show At _ [(w.heap.size, Obj.cells #[.int .i64 a1, .int .i64 a2] 23), (w.heap.size + 1, Obj.cells #[.int .i64 b1, .int .i64 b2] 23), (w.heap.size + 1 + 1, Obj.cells #[.int .i64 0, .int .i64 0] 23)] from ⟨(by repeat (first | (refine blk_at _ _ ?_; (first | rfl | (simp only [size_one]; done))) | refine (blk_past _ _ (by simp only [size_one]; omega)).trans ?_)), (by repeat (first | (refine blk_at _ _ ?_; (first | rfl | (simp only [size_one]; done))) | refine (blk_past _ _ (by simp only [size_one]; omega)).trans ?_)), (by repeat (first | (refine blk_at _ _ ?_; (first | rfl | (simp only [size_one]; done))) | refine (blk_past _ _ (by simp only [size_one]; omega)).trans ?_)), trivial⟩)); have E1 := Lib.hid (((show Ext w _ from (by repeat (first | exact Ext.refl _ | assumption | refine Ext.alloc ?_ _ | refine Ext.drewN ?_ _ | refine ext_grow ?_ _ _ | refine Ext.setCell ?_ (by first | exact Nat.le_refl _ | omega | (simp; done) | (simp; omega)) _ | refine Ext.trans ?_ (by assumption))))).trans hb1); obtain ⟨c1_0_0, c1_0_1, f1_0_0, f1_0_1⟩ := run_pair (At.at A1.out 0 rfl); have s1_0 : w.heap.size < w1.heap.size := At.lt A1.out 0 rfl; obtain ⟨c1_1_0, c1_1_1, f1_1_0, f1_1_1⟩ := run_pair (At.at A1.out 1 rfl); have s1_1 : w.heap.size + 1 < w1.heap.size := At.lt A1.out 1 rfl; obtain ⟨c1_2_0, c1_2_1, f1_2_0, f1_2_1⟩ := run_pair (At.at A1.out 2 rfl); have s1_2 : w.heap.size + 1 + 1 < w1.heap.size := At.lt A1.out 2 rfl) | (go_at_call 43; (with_reducible refine (K2.out _).mono ?_); rintro E w2 ⟨rfl, hb2⟩; have A2 := Lib.hid (show At w2 [(w.heap.size, Obj.cells #[.int .i64 a1, .int .i64 a2] 23), (w.heap.size + 1, Obj.cells #[.int .i64 b1, .int .i64 b2] 23), (w.heap.size + 1 + 1, Obj.cells #[.int .i64 0, .int .i64 0] 23)] from At.ext hb2 A1.out); have E2 := Lib.hid ((E1.out).trans hb2); obtain ⟨c2_0_0, c2_0_1, f2_0_0, f2_0_1⟩ := run_pair (At.at A2.out 0 rfl); have s2_0 : w.heap.size < w2.heap.size := At.lt A2.out 0 rfl; obtain ⟨c2_1_0, c2_1_1, f2_1_0, f2_1_1⟩ := run_pair (At.at A2.out 1 rfl); have s2_1 : w.heap.size + 1 < w2.heap.size := At.lt A2.out 1 rfl; obtain ⟨c2_2_0, c2_2_1, f2_2_0, f2_2_1⟩ := run_pair (At.at A2.out 2 rfl); have s2_2 : w.heap.size + 1 + 1 < w2.heap.size := At.lt A2.out 2 rfl; (try clear c1_0_0 c1_0_1 f1_0_0 f1_0_1 c1_1_0 c1_1_1 f1_1_0 f1_1_1 c1_2_0 c1_2_1 f1_2_0 f1_2_1 s1_0 s1_1 s1_2)) | (go_at_call 48; (with_reducible refine (K3x.out _).mono ?_); rintro E w3 ⟨rfl, hb3⟩; have A3 := Lib.hid (show At w3 [(w.heap.size, Obj.cells #[.int .i64 a1, .int .i64 a2] 23), (w.heap.size + 1, Obj.cells #[.int .i64 b1, .int .i64 b2] 23), (w.heap.size + 1 + 1, Obj.cells #[.int .i64 0, .int .i64 0] 23)] from At.ext hb3 A2.out); have E3 := Lib.hid ((E2.out).trans hb3); obtain ⟨c3_0_0, c3_0_1, f3_0_0, f3_0_1⟩ := run_pair (At.at A3.out 0 rfl); have s3_0 : w.heap.size < w3.heap.size := At.lt A3.out 0 rfl; obtain ⟨c3_1_0, c3_1_1, f3_1_0, f3_1_1⟩ := run_pair (At.at A3.out 1 rfl); have s3_1 : w.heap.size + 1 < w3.heap.size := At.lt A3.out 1 rfl; obtain ⟨c3_2_0, c3_2_1, f3_2_0, f3_2_1⟩ := run_pair (At.at A3.out 2 rfl); have s3_2 : w.heap.size + 1 + 1 < w3.heap.size := At.lt A3.out 2 rfl; (try clear c2_0_0 c2_0_1 f2_0_0 f2_0_1 c2_1_0 c2_1_1 f2_1_0 f2_1_1 c2_2_0 c2_2_1 f2_2_0 f2_2_1 s2_0 s2_1 s2_2)) | (go_at_call 38; (with_reducible refine (K9x.out _).mono ?_); rintro E w4 ⟨rfl, hb4⟩; have A4 := Lib.hid (show At w4 [(w.heap.size, Obj.cells #[.int .i64 a1, .int .i64 a2] 23), (w.heap.size + 1, Obj.cells #[.int .i64 b1, .int .i64 b2] 23), (w.heap.size + 1 + 1, Obj.cells #[.int .i64 0, .int .i64 0] 23)] from At.ext hb4 A3.out); have E4 := Lib.hid ((E3.out).trans hb4); obtain ⟨c4_0_0, c4_0_1, f4_0_0, f4_0_1⟩ := run_pair (At.at A4.out 0 rfl); have s4_0 : w.heap.size < w4.heap.size := At.lt A4.out 0 rfl; obtain ⟨c4_1_0, c4_1_1, f4_1_0, f4_1_1⟩ := run_pair (At.at A4.out 1 rfl); have s4_1 : w.heap.size + 1 < w4.heap.size := At.lt A4.out 1 rfl; obtain ⟨c4_2_0, c4_2_1, f4_2_0, f4_2_1⟩ := run_pair (At.at A4.out 2 rfl); have s4_2 : w.heap.size + 1 + 1 < w4.heap.size := At.lt A4.out 2 rfl; (try clear c3_0_0 c3_0_1 f3_0_0 f3_0_1 c3_1_0 c3_1_1 f3_1_0 f3_1_1 c3_2_0 c3_2_1 f3_2_0 f3_2_1 s3_0 s3_1 s3_2)))
      refine bodyPost_ret (RT.results_row2 rfl _ _ (w.heap.size + 1 + 1) 23 #[.int .i64 rn, .int .i64 rd] (0, 0) _ rfl (store_pair (At.at A4.out 2 rfl)).1 Try.underlying23 rfl info_frac) rfl ?_
      exact ⟨rfl, (store_pair (At.at A4.out 2 rfl)).2.2 w (by omega) E4.out⟩
set_option maxRecDepth 100000 in
set_option maxHeartbeats 8000000 in
theorem rSub_walk (a1 a2 b1 b2 c1 c2 n d rn rd re : Int) (t va vb : Bool) (w : World)
    (k1 : ∀ w, Calls Try.prog 43 #[fracV ⟨a1, a2⟩] w fun E w' => E = .returned (.bool va) ∧ Ext w w')
    (k2 : ∀ w, Calls Try.prog 43 #[fracV ⟨b1, b2⟩] w fun E w' => E = .returned (.bool vb) ∧ Ext w w')
    (k3 : va = true → vb = true → ∀ w, Calls Try.prog 50 #[fracV ⟨b1, b2⟩] w fun E w' => E = .returned (fracV ⟨c1, c2⟩) ∧ Ext w w')
    (k4 : va = true → vb = true → ∀ w, Calls Try.prog 48 #[fracV ⟨a1, a2⟩, fracV ⟨c1, c2⟩] w fun E w' => E = .returned (.tuple #[fracV ⟨n, d⟩, .bool t]) ∧ Ext w w')
    (k9 : va = true → vb = true → ∀ w, Calls Try.prog 38 #[fracV ⟨n, d⟩, .bool t] w fun E w' => E = .returned (fansV (⟨rn, rd⟩, re)) ∧ Ext w w')
    (R1 R2 R3 : Int) (hm : (if va = true ∧ vb = true then (rn, rd, re) else (0, 0, 8)) = (R1, R2, R3)) :
    Calls Try.prog 14 #[fracV ⟨a1, a2⟩, fracV ⟨b1, b2⟩] w fun E w' => E = .returned (fansV (⟨R1, R2⟩, R3)) ∧ Ext w w' := by
  have K1 := Lib.hid k1
  have K2 := Lib.hid k2
  have K3 := Lib.hid k3
  have K4 := Lib.hid k4
  have K9 := Lib.hid k9
  clear k1 k2 k3 k4 k9
  cases va
  · obtain ⟨rfl, rfl, rfl⟩ : 0 = R1 ∧ 0 = R2 ∧ 8 = R3 := by simpa using hm
    clear hm
    go_enter Try.func14, Try.ntmps14
    go_wp2_with (first | (go_at_call 43; (with_reducible refine (K1.out _).mono ?_); rintro E w1 ⟨rfl, hb1⟩; have A1 := Lib.hid (show At w1 [(w.heap.size, Obj.cells #[.int .i64 a1, .int .i64 a2] 23), (w.heap.size + 1, Obj.cells #[.int .i64 b1, .int .i64 b2] 23), (w.heap.size + 1 + 1, Obj.cells #[.int .i64 0, .int .i64 0] 23)] from At.ext hb1 (show At _ [(w.heap.size, Obj.cells #[.int .i64 a1, .int .i64 a2] 23), (w.heap.size + 1, Obj.cells #[.int .i64 b1, .int .i64 b2] 23), (w.heap.size + 1 + 1, Obj.cells #[.int .i64 0, .int .i64 0] 23)] from ⟨(by repeat (first | (refine blk_at _ _ ?_; (first | rfl | (simp only [size_one]; done))) | refine (blk_past _ _ (by simp only [size_one]; omega)).trans ?_)), (by repeat (first | (refine blk_at _ _ ?_; (first | rfl | (simp only [size_one]; done))) | refine (blk_past _ _ (by simp only [size_one]; omega)).trans ?_)), (by repeat (first | (refine blk_at _ _ ?_; (first | rfl | (simp only [size_one]; done))) | refine (blk_past _ _ (by simp only [size_one]; omega)).trans ?_)), trivial⟩)); have E1 := Lib.hid (((show Ext w _ from (by repeat (first | exact Ext.refl _ | assumption | refine Ext.alloc ?_ _ | refine Ext.drewN ?_ _ | refine ext_grow ?_ _ _ | refine Ext.setCell ?_ (by first | exact Nat.le_refl _ | omega | (simp; done) | (simp; omega)) _ | refine Ext.trans ?_ (by assumption))))).trans hb1); obtain ⟨c1_0_0, c1_0_1, f1_0_0, f1_0_1⟩ := run_pair (At.at A1.out 0 rfl); have s1_0 : w.heap.size < w1.heap.size := At.lt A1.out 0 rfl; obtain ⟨c1_1_0, c1_1_1, f1_1_0, f1_1_1⟩ := run_pair (At.at A1.out 1 rfl); have s1_1 : w.heap.size + 1 < w1.heap.size := At.lt A1.out 1 rfl; obtain ⟨c1_2_0, c1_2_1, f1_2_0, f1_2_1⟩ := run_pair (At.at A1.out 2 rfl); have s1_2 : w.heap.size + 1 + 1 < w1.heap.size := At.lt A1.out 2 rfl))
    refine bodyPost_ret (RT.results_row2 rfl _ _ (w.heap.size + 1 + 1) 23 #[.int .i64 0, .int .i64 0] (0, 0) _ rfl (store_pair (At.at A1.out 2 rfl)).1 Try.underlying23 rfl info_frac) rfl ?_
    exact ⟨rfl, (store_pair (At.at A1.out 2 rfl)).2.2 w (by omega) E1.out⟩
  · cases vb
    · obtain ⟨rfl, rfl, rfl⟩ : 0 = R1 ∧ 0 = R2 ∧ 8 = R3 := by simpa using hm
      clear hm
      go_enter Try.func14, Try.ntmps14
      go_wp2_with (first | (go_at_call 43; (with_reducible refine (K1.out _).mono ?_); rintro E w1 ⟨rfl, hb1⟩; have A1 := Lib.hid (show At w1 [(w.heap.size, Obj.cells #[.int .i64 a1, .int .i64 a2] 23), (w.heap.size + 1, Obj.cells #[.int .i64 b1, .int .i64 b2] 23), (w.heap.size + 1 + 1, Obj.cells #[.int .i64 0, .int .i64 0] 23)] from At.ext hb1 (show At _ [(w.heap.size, Obj.cells #[.int .i64 a1, .int .i64 a2] 23), (w.heap.size + 1, Obj.cells #[.int .i64 b1, .int .i64 b2] 23), (w.heap.size + 1 + 1, Obj.cells #[.int .i64 0, .int .i64 0] 23)] from ⟨(by repeat (first | (refine blk_at _ _ ?_; (first | rfl | (simp only [size_one]; done))) | refine (blk_past _ _ (by simp only [size_one]; omega)).trans ?_)), (by repeat (first | (refine blk_at _ _ ?_; (first | rfl | (simp only [size_one]; done))) | refine (blk_past _ _ (by simp only [size_one]; omega)).trans ?_)), (by repeat (first | (refine blk_at _ _ ?_; (first | rfl | (simp only [size_one]; done))) | refine (blk_past _ _ (by simp only [size_one]; omega)).trans ?_)), trivial⟩)); have E1 := Lib.hid (((show Ext w _ from (by repeat (first | exact Ext.refl _ | assumption | refine Ext.alloc ?_ _ | refine Ext.drewN ?_ _ | refine ext_grow ?_ _ _ | refine Ext.setCell ?_ (by first | exact Nat.le_refl _ | omega | (simp; done) | (simp; omega)) _ | refine Ext.trans ?_ (by assumption))))).trans hb1); obtain ⟨c1_0_0, c1_0_1, f1_0_0, f1_0_1⟩ := run_pair (At.at A1.out 0 rfl); have s1_0 : w.heap.size < w1.heap.size := At.lt A1.out 0 rfl; obtain ⟨c1_1_0, c1_1_1, f1_1_0, f1_1_1⟩ := run_pair (At.at A1.out 1 rfl); have s1_1 : w.heap.size + 1 < w1.heap.size := At.lt A1.out 1 rfl; obtain ⟨c1_2_0, c1_2_1, f1_2_0, f1_2_1⟩ := run_pair (At.at A1.out 2 rfl); have s1_2 : w.heap.size + 1 + 1 < w1.heap.size := At.lt A1.out 2 rfl) | (go_at_call 43; (with_reducible refine (K2.out _).mono ?_); rintro E w2 ⟨rfl, hb2⟩; have A2 := Lib.hid (show At w2 [(w.heap.size, Obj.cells #[.int .i64 a1, .int .i64 a2] 23), (w.heap.size + 1, Obj.cells #[.int .i64 b1, .int .i64 b2] 23), (w.heap.size + 1 + 1, Obj.cells #[.int .i64 0, .int .i64 0] 23)] from At.ext hb2 A1.out); have E2 := Lib.hid ((E1.out).trans hb2); obtain ⟨c2_0_0, c2_0_1, f2_0_0, f2_0_1⟩ := run_pair (At.at A2.out 0 rfl); have s2_0 : w.heap.size < w2.heap.size := At.lt A2.out 0 rfl; obtain ⟨c2_1_0, c2_1_1, f2_1_0, f2_1_1⟩ := run_pair (At.at A2.out 1 rfl); have s2_1 : w.heap.size + 1 < w2.heap.size := At.lt A2.out 1 rfl; obtain ⟨c2_2_0, c2_2_1, f2_2_0, f2_2_1⟩ := run_pair (At.at A2.out 2 rfl); have s2_2 : w.heap.size + 1 + 1 < w2.heap.size := At.lt A2.out 2 rfl; (try clear c1_0_0 c1_0_1 f1_0_0 f1_0_1 c1_1_0 c1_1_1 f1_1_0 f1_1_1 c1_2_0 c1_2_1 f1_2_0 f1_2_1 s1_0 s1_1 s1_2)))
      refine bodyPost_ret (RT.results_row2 rfl _ _ (w.heap.size + 1 + 1) 23 #[.int .i64 0, .int .i64 0] (0, 0) _ rfl (store_pair (At.at A2.out 2 rfl)).1 Try.underlying23 rfl info_frac) rfl ?_
      exact ⟨rfl, (store_pair (At.at A2.out 2 rfl)).2.2 w (by omega) E2.out⟩
    · obtain ⟨rfl, rfl, rfl⟩ : rn = R1 ∧ rd = R2 ∧ re = R3 := by simpa using hm
      clear hm
      have K3x := Lib.hid (K3.out rfl rfl)
      clear K3
      have K4x := Lib.hid (K4.out rfl rfl)
      clear K4
      have K9x := Lib.hid (K9.out rfl rfl)
      clear K9
      go_enter Try.func14, Try.ntmps14
      go_wp2_with (first | (go_at_call 43; (with_reducible refine (K1.out _).mono ?_); rintro E w1 ⟨rfl, hb1⟩; have A1 := Lib.hid (show At w1 [(w.heap.size, Obj.cells #[.int .i64 a1, .int .i64 a2] 23), (w.heap.size + 1, Obj.cells #[.int .i64 b1, .int .i64 b2] 23), (w.heap.size + 1 + 1, Obj.cells #[.int .i64 0, .int .i64 0] 23)] from At.ext hb1 (show At _ [(w.heap.size, Obj.cells #[.int .i64 a1, .int .i64 a2] 23), (w.heap.size + 1, Obj.cells #[.int .i64 b1, .int .i64 b2] 23), (w.heap.size + 1 + 1, Obj.cells #[.int .i64 0, .int .i64 0] 23)] from ⟨(by repeat (first | (refine blk_at _ _ ?_; (first | rfl | (simp only [size_one]; done))) | refine (blk_past _ _ (by simp only [size_one]; omega)).trans ?_)), (by repeat (first | (refine blk_at _ _ ?_; (first | rfl | (simp only [size_one]; done))) | refine (blk_past _ _ (by simp only [size_one]; omega)).trans ?_)), (by repeat (first | (refine blk_at _ _ ?_; (first | rfl | (simp only [size_one]; done))) | refine (blk_past _ _ (by simp only [size_one]; omega)).trans ?_)), trivial⟩)); have E1 := Lib.hid (((show Ext w _ from (by repeat (first | exact Ext.refl _ | assumption | refine Ext.alloc ?_ _ | refine Ext.drewN ?_ _ | refine ext_grow ?_ _ _ | refine Ext.setCell ?_ (by first | exact Nat.le_refl _ | omega | (simp; done) | (simp; omega)) _ | refine Ext.trans ?_ (by assumption))))).trans hb1); obtain ⟨c1_0_0, c1_0_1, f1_0_0, f1_0_1⟩ := run_pair (At.at A1.out 0 rfl); have s1_0 : w.heap.size < w1.heap.size := At.lt A1.out 0 rfl; obtain ⟨c1_1_0, c1_1_1, f1_1_0, f1_1_1⟩ := run_pair (At.at A1.out 1 rfl); have s1_1 : w.heap.size + 1 < w1.heap.size := At.lt A1.out 1 rfl; obtain ⟨c1_2_0, c1_2_1, f1_2_0, f1_2_1⟩ := run_pair (At.at A1.out 2 rfl); have s1_2 : w.heap.size + 1 + 1 < w1.heap.size := At.lt A1.out 2 rfl) | (go_at_call 43; (with_reducible refine (K2.out _).mono ?_); rintro E w2 ⟨rfl, hb2⟩; have A2 := Lib.hid (show At w2 [(w.heap.size, Obj.cells #[.int .i64 a1, .int .i64 a2] 23), (w.heap.size + 1, Obj.cells #[.int .i64 b1, .int .i64 b2] 23), (w.heap.size + 1 + 1, Obj.cells #[.int .i64 0, .int .i64 0] 23)] from At.ext hb2 A1.out); have E2 := Lib.hid ((E1.out).trans hb2); obtain ⟨c2_0_0, c2_0_1, f2_0_0, f2_0_1⟩ := run_pair (At.at A2.out 0 rfl); have s2_0 : w.heap.size < w2.heap.size := At.lt A2.out 0 rfl; obtain ⟨c2_1_0, c2_1_1, f2_1_0, f2_1_1⟩ := run_pair (At.at A2.out 1 rfl); have s2_1 : w.heap.size + 1 < w2.heap.size := At.lt A2.out 1 rfl; obtain ⟨c2_2_0, c2_2_1, f2_2_0, f2_2_1⟩ := run_pair (At.at A2.out 2 rfl); have s2_2 : w.heap.size + 1 + 1 < w2.heap.size := At.lt A2.out 2 rfl; (try clear c1_0_0 c1_0_1 f1_0_0 f1_0_1 c1_1_0 c1_1_1 f1_1_0 f1_1_1 c1_2_0 c1_2_1 f1_2_0 f1_2_1 s1_0 s1_1 s1_2)))
      refine RT.region_store (aq := ?aq3) (n := 9) (sp := 4) (vx := 22) (b0 := w.heap.size + 1 + 1) (oz := Obj.cells #[.int .i64 0, .int .i64 0] 23) (ox := Obj.cells #[.int .i64 rn, .int .i64 rd] 23) (qs1 := [_, _, _, _, _, _, _, _, _]) (qs2 := [_]) (wb := w) (fun v => At v [(w.heap.size, Obj.cells #[.int .i64 a1, .int .i64 a2] 23), (w.heap.size + 1, Obj.cells #[.int .i64 b1, .int .i64 b2] 23)]) (by kernel_rfl) rfl (by kernel_rfl) (by kernel_rfl) rfl rfl (by kernel_rfl) (by kernel_rfl) rfl ?_ ?_ ?_ ?_ ?_ ?_ ?_ ?_ ?_
      rotate_left
      · exact At.at A2.out 2 rfl
      · exact E2.out
      · omega
      · exact At.drew (At.erase A2.out 2)
      · exact fun _ _ h hE => h.ext hE
      · exact fun _ _ h k => h.other k (by simp; omega)
      · intro wq hF
        obtain ⟨q_0_0, q_0_1, r_0_0, r_0_1⟩ := run_pair (At.at hF 0 rfl)
        have sq_0 : w.heap.size < wq.heap.size := At.lt hF 0 rfl
        obtain ⟨q_1_0, q_1_1, r_1_0, r_1_1⟩ := run_pair (At.at hF 1 rfl)
        have sq_1 : w.heap.size + 1 < wq.heap.size := At.lt hF 1 rfl
        clear hF
        simp only [List.cons_append, List.nil_append]
        repeat (go_big_quiet_step ((first | (go_at_call 50; with_reducible exact Calls.ext_of (K3x.out _)) | (go_at_call 48; with_reducible exact Calls.ext_of (K4x.out _)) | (go_at_call 38; with_reducible exact Calls.ext_of (K9x.out _)))))
        refine wpQuiet_nil ?_
        exact rfl
      · intro e w h1 h2 h3
        obtain ⟨c0, c1, f0, f1⟩ := run_pair h3
        have h2' : e (.tmp 22) = .agg #[.int .i64 rn, .int .i64 rd] := h2
        apply Exists.intro
        apply And.intro
        · simp [execOp, go_sem, h1, h2', c0, c1, f0, f1, Try.underlying23]
          exact rfl
        · exact store_pair h3
      · intro w' _ hE hX
        go_wp2
        refine bodyPost_ret (RT.results_row2 rfl _ _ (w.heap.size + 1 + 1) 23 #[.int .i64 rn, .int .i64 rd] (0, 0) _ rfl hX Try.underlying23 rfl info_frac) rfl ?_
        exact ⟨rfl, hE⟩
set_option maxRecDepth 100000 in
set_option maxHeartbeats 8000000 in
theorem rMul_walk (a1 a2 b1 b2 c1 c2 n d rn rd re : Int) (t va vb : Bool) (w : World)
    (k1 : ∀ w, Calls Try.prog 43 #[fracV ⟨a1, a2⟩] w fun E w' => E = .returned (.bool va) ∧ Ext w w')
    (k2 : ∀ w, Calls Try.prog 43 #[fracV ⟨b1, b2⟩] w fun E w' => E = .returned (.bool vb) ∧ Ext w w')
    (k3 : va = true → vb = true → ∀ w, Calls Try.prog 52 #[fracV ⟨a1, a2⟩, fracV ⟨b1, b2⟩] w fun E w' => E = .returned (.tuple #[fracV ⟨n, d⟩, .bool t]) ∧ Ext w w')
    (k9 : va = true → vb = true → ∀ w, Calls Try.prog 38 #[fracV ⟨n, d⟩, .bool t] w fun E w' => E = .returned (fansV (⟨rn, rd⟩, re)) ∧ Ext w w')
    (R1 R2 R3 : Int) (hm : (if va = true ∧ vb = true then (rn, rd, re) else (0, 0, 8)) = (R1, R2, R3)) :
    Calls Try.prog 16 #[fracV ⟨a1, a2⟩, fracV ⟨b1, b2⟩] w fun E w' => E = .returned (fansV (⟨R1, R2⟩, R3)) ∧ Ext w w' := by
  have K1 := Lib.hid k1
  have K2 := Lib.hid k2
  have K3 := Lib.hid k3
  have K9 := Lib.hid k9
  clear k1 k2 k3 k9
  cases va
  · obtain ⟨rfl, rfl, rfl⟩ : 0 = R1 ∧ 0 = R2 ∧ 8 = R3 := by simpa using hm
    clear hm
    go_enter Try.func16, Try.ntmps16
    go_wp2_with (first | (go_at_call 43; (with_reducible refine (K1.out _).mono ?_); rintro E w1 ⟨rfl, hb1⟩; have A1 := Lib.hid (show At w1 [(w.heap.size, Obj.cells #[.int .i64 a1, .int .i64 a2] 23), (w.heap.size + 1, Obj.cells #[.int .i64 b1, .int .i64 b2] 23), (w.heap.size + 1 + 1, Obj.cells #[.int .i64 0, .int .i64 0] 23)] from At.ext hb1 (show At _ [(w.heap.size, Obj.cells #[.int .i64 a1, .int .i64 a2] 23), (w.heap.size + 1, Obj.cells #[.int .i64 b1, .int .i64 b2] 23), (w.heap.size + 1 + 1, Obj.cells #[.int .i64 0, .int .i64 0] 23)] from ⟨(by repeat (first | (refine blk_at _ _ ?_; (first | rfl | (simp only [size_one]; done))) | refine (blk_past _ _ (by simp only [size_one]; omega)).trans ?_)), (by repeat (first | (refine blk_at _ _ ?_; (first | rfl | (simp only [size_one]; done))) | refine (blk_past _ _ (by simp only [size_one]; omega)).trans ?_)), (by repeat (first | (refine blk_at _ _ ?_; (first | rfl | (simp only [size_one]; done))) | refine (blk_past _ _ (by simp only [size_one]; omega)).trans ?_)), trivial⟩)); have E1 := Lib.hid (((show Ext w _ from (by repeat (first | exact Ext.refl _ | assumption | refine Ext.alloc ?_ _ | refine Ext.drewN ?_ _ | refine ext_grow ?_ _ _ | refine Ext.setCell ?_ (by first | exact Nat.le_refl _ | omega | (simp; done) | (simp; omega)) _ | refine Ext.trans ?_ (by assumption))))).trans hb1); obtain ⟨c1_0_0, c1_0_1, f1_0_0, f1_0_1⟩ := run_pair (At.at A1.out 0 rfl); have s1_0 : w.heap.size < w1.heap.size := At.lt A1.out 0 rfl; obtain ⟨c1_1_0, c1_1_1, f1_1_0, f1_1_1⟩ := run_pair (At.at A1.out 1 rfl); have s1_1 : w.heap.size + 1 < w1.heap.size := At.lt A1.out 1 rfl; obtain ⟨c1_2_0, c1_2_1, f1_2_0, f1_2_1⟩ := run_pair (At.at A1.out 2 rfl); have s1_2 : w.heap.size + 1 + 1 < w1.heap.size := At.lt A1.out 2 rfl))
    refine bodyPost_ret (RT.results_row2 rfl _ _ (w.heap.size + 1 + 1) 23 #[.int .i64 0, .int .i64 0] (0, 0) _ rfl (store_pair (At.at A1.out 2 rfl)).1 Try.underlying23 rfl info_frac) rfl ?_
    exact ⟨rfl, (store_pair (At.at A1.out 2 rfl)).2.2 w (by omega) E1.out⟩
  · cases vb
    · obtain ⟨rfl, rfl, rfl⟩ : 0 = R1 ∧ 0 = R2 ∧ 8 = R3 := by simpa using hm
      clear hm
      go_enter Try.func16, Try.ntmps16
      go_wp2_with (first | (go_at_call 43; (with_reducible refine (K1.out _).mono ?_); rintro E w1 ⟨rfl, hb1⟩; have A1 := Lib.hid (show At w1 [(w.heap.size, Obj.cells #[.int .i64 a1, .int .i64 a2] 23), (w.heap.size + 1, Obj.cells #[.int .i64 b1, .int .i64 b2] 23), (w.heap.size + 1 + 1, Obj.cells #[.int .i64 0, .int .i64 0] 23)] from At.ext hb1 (show At _ [(w.heap.size, Obj.cells #[.int .i64 a1, .int .i64 a2] 23), (w.heap.size + 1, Obj.cells #[.int .i64 b1, .int .i64 b2] 23), (w.heap.size + 1 + 1, Obj.cells #[.int .i64 0, .int .i64 0] 23)] from ⟨(by repeat (first | (refine blk_at _ _ ?_; (first | rfl | (simp only [size_one]; done))) | refine (blk_past _ _ (by simp only [size_one]; omega)).trans ?_)), (by repeat (first | (refine blk_at _ _ ?_; (first | rfl | (simp only [size_one]; done))) | refine (blk_past _ _ (by simp only [size_one]; omega)).trans ?_)), (by repeat (first | (refine blk_at _ _ ?_; (first | rfl | (simp only [size_one]; done))) | refine (blk_past _ _ (by simp only [size_one]; omega)).trans ?_)), trivial⟩)); have E1 := Lib.hid (((show Ext w _ from (by repeat (first | exact Ext.refl _ | assumption | refine Ext.alloc ?_ _ | refine Ext.drewN ?_ _ | refine ext_grow ?_ _ _ | refine Ext.setCell ?_ (by first | exact Nat.le_refl _ | omega | (simp; done) | (simp; omega)) _ | refine Ext.trans ?_ (by assumption))))).trans hb1); obtain ⟨c1_0_0, c1_0_1, f1_0_0, f1_0_1⟩ := run_pair (At.at A1.out 0 rfl); have s1_0 : w.heap.size < w1.heap.size := At.lt A1.out 0 rfl; obtain ⟨c1_1_0, c1_1_1, f1_1_0, f1_1_1⟩ := run_pair (At.at A1.out 1 rfl); have s1_1 : w.heap.size + 1 < w1.heap.size := At.lt A1.out 1 rfl; obtain ⟨c1_2_0, c1_2_1, f1_2_0, f1_2_1⟩ := run_pair (At.at A1.out 2 rfl); have s1_2 : w.heap.size + 1 + 1 < w1.heap.size := At.lt A1.out 2 rfl) | (go_at_call 43; (with_reducible refine (K2.out _).mono ?_); rintro E w2 ⟨rfl, hb2⟩; have A2 := Lib.hid (show At w2 [(w.heap.size, Obj.cells #[.int .i64 a1, .int .i64 a2] 23), (w.heap.size + 1, Obj.cells #[.int .i64 b1, .int .i64 b2] 23), (w.heap.size + 1 + 1, Obj.cells #[.int .i64 0, .int .i64 0] 23)] from At.ext hb2 A1.out); have E2 := Lib.hid ((E1.out).trans hb2); obtain ⟨c2_0_0, c2_0_1, f2_0_0, f2_0_1⟩ := run_pair (At.at A2.out 0 rfl); have s2_0 : w.heap.size < w2.heap.size := At.lt A2.out 0 rfl; obtain ⟨c2_1_0, c2_1_1, f2_1_0, f2_1_1⟩ := run_pair (At.at A2.out 1 rfl); have s2_1 : w.heap.size + 1 < w2.heap.size := At.lt A2.out 1 rfl; obtain ⟨c2_2_0, c2_2_1, f2_2_0, f2_2_1⟩ := run_pair (At.at A2.out 2 rfl); have s2_2 : w.heap.size + 1 + 1 < w2.heap.size := At.lt A2.out 2 rfl; (try clear c1_0_0 c1_0_1 f1_0_0 f1_0_1 c1_1_0 c1_1_1 f1_1_0 f1_1_1 c1_2_0 c1_2_1 f1_2_0 f1_2_1 s1_0 s1_1 s1_2)))
      refine bodyPost_ret (RT.results_row2 rfl _ _ (w.heap.size + 1 + 1) 23 #[.int .i64 0, .int .i64 0] (0, 0) _ rfl (store_pair (At.at A2.out 2 rfl)).1 Try.underlying23 rfl info_frac) rfl ?_
      exact ⟨rfl, (store_pair (At.at A2.out 2 rfl)).2.2 w (by omega) E2.out⟩
    · obtain ⟨rfl, rfl, rfl⟩ : rn = R1 ∧ rd = R2 ∧ re = R3 := by simpa using hm
      clear hm
      have K3x := Lib.hid (K3.out rfl rfl)
      clear K3
      have K9x := Lib.hid (K9.out rfl rfl)
      clear K9
      go_enter Try.func16, Try.ntmps16
      go_wp2_with (first | (go_at_call 43; (with_reducible refine (K1.out _).mono ?_); rintro E w1 ⟨rfl, hb1⟩; have A1 := Lib.hid (show At w1 [(w.heap.size, Obj.cells #[.int .i64 a1, .int .i64 a2] 23), (w.heap.size + 1, Obj.cells #[.int .i64 b1, .int .i64 b2] 23), (w.heap.size + 1 + 1, Obj.cells #[.int .i64 0, .int .i64 0] 23)] from At.ext hb1 (show At _ [(w.heap.size, Obj.cells #[.int .i64 a1, .int .i64 a2] 23), (w.heap.size + 1, Obj.cells #[.int .i64 b1, .int .i64 b2] 23), (w.heap.size + 1 + 1, Obj.cells #[.int .i64 0, .int .i64 0] 23)] from ⟨(by repeat (first | (refine blk_at _ _ ?_; (first | rfl | (simp only [size_one]; done))) | refine (blk_past _ _ (by simp only [size_one]; omega)).trans ?_)), (by repeat (first | (refine blk_at _ _ ?_; (first | rfl | (simp only [size_one]; done))) | refine (blk_past _ _ (by simp only [size_one]; omega)).trans ?_)), (by repeat (first | (refine blk_at _ _ ?_; (first | rfl | (simp only [size_one]; done))) | refine (blk_past _ _ (by simp only [size_one]; omega)).trans ?_)), trivial⟩)); have E1 := Lib.hid (((show Ext w _ from (by repeat (first | exact Ext.refl _ | assumption | refine Ext.alloc ?_ _ | refine Ext.drewN ?_ _ | refine ext_grow ?_ _ _ | refine Ext.setCell ?_ (by first | exact Nat.le_refl _ | omega | (simp; done) | (simp; omega)) _ | refine Ext.trans ?_ (by assumption))))).trans hb1); obtain ⟨c1_0_0, c1_0_1, f1_0_0, f1_0_1⟩ := run_pair (At.at A1.out 0 rfl); have s1_0 : w.heap.size < w1.heap.size := At.lt A1.out 0 rfl; obtain ⟨c1_1_0, c1_1_1, f1_1_0, f1_1_1⟩ := run_pair (At.at A1.out 1 rfl); have s1_1 : w.heap.size + 1 < w1.heap.size := At.lt A1.out 1 rfl; obtain ⟨c1_2_0, c1_2_1, f1_2_0, f1_2_1⟩ := run_pair (At.at A1.out 2 rfl); have s1_2 : w.heap.size + 1 + 1 < w1.heap.size := At.lt A1.out 2 rfl) | (go_at_call 43; (with_reducible refine (K2.out _).mono ?_); rintro E w2 ⟨rfl, hb2⟩; have A2 := Lib.hid (show At w2 [(w.heap.size, Obj.cells #[.int .i64 a1, .int .i64 a2] 23), (w.heap.size + 1, Obj.cells #[.int .i64 b1, .int .i64 b2] 23), (w.heap.size + 1 + 1, Obj.cells #[.int .i64 0, .int .i64 0] 23)] from At.ext hb2 A1.out); have E2 := Lib.hid ((E1.out).trans hb2); obtain ⟨c2_0_0, c2_0_1, f2_0_0, f2_0_1⟩ := run_pair (At.at A2.out 0 rfl); have s2_0 : w.heap.size < w2.heap.size := At.lt A2.out 0 rfl; obtain ⟨c2_1_0, c2_1_1, f2_1_0, f2_1_1⟩ := run_pair (At.at A2.out 1 rfl); have s2_1 : w.heap.size + 1 < w2.heap.size := At.lt A2.out 1 rfl; obtain ⟨c2_2_0, c2_2_1, f2_2_0, f2_2_1⟩ := run_pair (At.at A2.out 2 rfl); have s2_2 : w.heap.size + 1 + 1 < w2.heap.size := At.lt A2.out 2 rfl; (try clear c1_0_0 c1_0_1 f1_0_0 f1_0_1 c1_1_0 c1_1_1 f1_1_0 f1_1_1 c1_2_0 c1_2_1 f1_2_0 f1_2_1 s1_0 s1_1 s1_2)) | (go_at_call 52; (with_reducible refine (K3x.out _).mono ?_); rintro E w3 ⟨rfl, hb3⟩; have A3 := Lib.hid (show At w3 [(w.heap.size, Obj.cells #[.int .i64 a1, .int .i64 a2] 23), (w.heap.size + 1, Obj.cells #[.int .i64 b1, .int .i64 b2] 23), (w.heap.size + 1 + 1, Obj.cells #[.int .i64 0, .int .i64 0] 23)] from At.ext hb3 A2.out); have E3 := Lib.hid ((E2.out).trans hb3); obtain ⟨c3_0_0, c3_0_1, f3_0_0, f3_0_1⟩ := run_pair (At.at A3.out 0 rfl); have s3_0 : w.heap.size < w3.heap.size := At.lt A3.out 0 rfl; obtain ⟨c3_1_0, c3_1_1, f3_1_0, f3_1_1⟩ := run_pair (At.at A3.out 1 rfl); have s3_1 : w.heap.size + 1 < w3.heap.size := At.lt A3.out 1 rfl; obtain ⟨c3_2_0, c3_2_1, f3_2_0, f3_2_1⟩ := run_pair (At.at A3.out 2 rfl); have s3_2 : w.heap.size + 1 + 1 < w3.heap.size := At.lt A3.out 2 rfl; (try clear c2_0_0 c2_0_1 f2_0_0 f2_0_1 c2_1_0 c2_1_1 f2_1_0 f2_1_1 c2_2_0 c2_2_1 f2_2_0 f2_2_1 s2_0 s2_1 s2_2)) | (go_at_call 38; (with_reducible refine (K9x.out _).mono ?_); rintro E w4 ⟨rfl, hb4⟩; have A4 := Lib.hid (show At w4 [(w.heap.size, Obj.cells #[.int .i64 a1, .int .i64 a2] 23), (w.heap.size + 1, Obj.cells #[.int .i64 b1, .int .i64 b2] 23), (w.heap.size + 1 + 1, Obj.cells #[.int .i64 0, .int .i64 0] 23)] from At.ext hb4 A3.out); have E4 := Lib.hid ((E3.out).trans hb4); obtain ⟨c4_0_0, c4_0_1, f4_0_0, f4_0_1⟩ := run_pair (At.at A4.out 0 rfl); have s4_0 : w.heap.size < w4.heap.size := At.lt A4.out 0 rfl; obtain ⟨c4_1_0, c4_1_1, f4_1_0, f4_1_1⟩ := run_pair (At.at A4.out 1 rfl); have s4_1 : w.heap.size + 1 < w4.heap.size := At.lt A4.out 1 rfl; obtain ⟨c4_2_0, c4_2_1, f4_2_0, f4_2_1⟩ := run_pair (At.at A4.out 2 rfl); have s4_2 : w.heap.size + 1 + 1 < w4.heap.size := At.lt A4.out 2 rfl; (try clear c3_0_0 c3_0_1 f3_0_0 f3_0_1 c3_1_0 c3_1_1 f3_1_0 f3_1_1 c3_2_0 c3_2_1 f3_2_0 f3_2_1 s3_0 s3_1 s3_2)))
      refine bodyPost_ret (RT.results_row2 rfl _ _ (w.heap.size + 1 + 1) 23 #[.int .i64 rn, .int .i64 rd] (0, 0) _ rfl (store_pair (At.at A4.out 2 rfl)).1 Try.underlying23 rfl info_frac) rfl ?_
      exact ⟨rfl, (store_pair (At.at A4.out 2 rfl)).2.2 w (by omega) E4.out⟩
set_option maxRecDepth 100000 in
set_option maxHeartbeats 8000000 in
theorem rDiv_walk (a1 a2 b1 b2 c1 c2 n d rn rd re : Int) (t va vb z : Bool) (w : World) (hz : (b1 == 0) = z)
    (k1 : ∀ w, Calls Try.prog 43 #[fracV ⟨a1, a2⟩] w fun E w' => E = .returned (.bool va) ∧ Ext w w')
    (k2 : ∀ w, Calls Try.prog 43 #[fracV ⟨b1, b2⟩] w fun E w' => E = .returned (.bool vb) ∧ Ext w w')
    (k3 : va = true → vb = true → z = false → ∀ w, Calls Try.prog 54 #[fracV ⟨a1, a2⟩, fracV ⟨b1, b2⟩] w fun E w' => E = .returned (.tuple #[fracV ⟨n, d⟩, .bool t]) ∧ Ext w w')
    (k9 : va = true → vb = true → z = false → ∀ w, Calls Try.prog 38 #[fracV ⟨n, d⟩, .bool t] w fun E w' => E = .returned (fansV (⟨rn, rd⟩, re)) ∧ Ext w w')
    (R1 R2 R3 : Int) (hm : (if va = true ∧ vb = true then (if z = true then ((0 : Int), (0 : Int), (10 : Int)) else (rn, rd, re)) else (0, 0, 8)) = (R1, R2, R3)) :
    Calls Try.prog 18 #[fracV ⟨a1, a2⟩, fracV ⟨b1, b2⟩] w fun E w' => E = .returned (fansV (⟨R1, R2⟩, R3)) ∧ Ext w w' := by
  have K1 := Lib.hid k1
  have K2 := Lib.hid k2
  have K3 := Lib.hid k3
  have K9 := Lib.hid k9
  clear k1 k2 k3 k9
  cases va
  · obtain ⟨rfl, rfl, rfl⟩ : 0 = R1 ∧ 0 = R2 ∧ 8 = R3 := by simpa using hm
    clear hm
    go_enter Try.func18, Try.ntmps18
    go_wp2_with (first | (go_at_call 43; (with_reducible refine (K1.out _).mono ?_); rintro E w1 ⟨rfl, hb1⟩; have A1 := Lib.hid (show At w1 [(w.heap.size, Obj.cells #[.int .i64 a1, .int .i64 a2] 23), (w.heap.size + 1, Obj.cells #[.int .i64 b1, .int .i64 b2] 23), (w.heap.size + 1 + 1, Obj.cells #[.int .i64 0, .int .i64 0] 23)] from At.ext hb1 (show At _ [(w.heap.size, Obj.cells #[.int .i64 a1, .int .i64 a2] 23), (w.heap.size + 1, Obj.cells #[.int .i64 b1, .int .i64 b2] 23), (w.heap.size + 1 + 1, Obj.cells #[.int .i64 0, .int .i64 0] 23)] from ⟨(by repeat (first | (refine blk_at _ _ ?_; (first | rfl | (simp only [size_one]; done))) | refine (blk_past _ _ (by simp only [size_one]; omega)).trans ?_)), (by repeat (first | (refine blk_at _ _ ?_; (first | rfl | (simp only [size_one]; done))) | refine (blk_past _ _ (by simp only [size_one]; omega)).trans ?_)), (by repeat (first | (refine blk_at _ _ ?_; (first | rfl | (simp only [size_one]; done))) | refine (blk_past _ _ (by simp only [size_one]; omega)).trans ?_)), trivial⟩)); have E1 := Lib.hid (((show Ext w _ from (by repeat (first | exact Ext.refl _ | assumption | refine Ext.alloc ?_ _ | refine Ext.drewN ?_ _ | refine ext_grow ?_ _ _ | refine Ext.setCell ?_ (by first | exact Nat.le_refl _ | omega | (simp; done) | (simp; omega)) _ | refine Ext.trans ?_ (by assumption))))).trans hb1); obtain ⟨c1_0_0, c1_0_1, f1_0_0, f1_0_1⟩ := run_pair (At.at A1.out 0 rfl); have s1_0 : w.heap.size < w1.heap.size := At.lt A1.out 0 rfl; obtain ⟨c1_1_0, c1_1_1, f1_1_0, f1_1_1⟩ := run_pair (At.at A1.out 1 rfl); have s1_1 : w.heap.size + 1 < w1.heap.size := At.lt A1.out 1 rfl; obtain ⟨c1_2_0, c1_2_1, f1_2_0, f1_2_1⟩ := run_pair (At.at A1.out 2 rfl); have s1_2 : w.heap.size + 1 + 1 < w1.heap.size := At.lt A1.out 2 rfl))
    refine bodyPost_ret (RT.results_row2 rfl _ _ (w.heap.size + 1 + 1) 23 #[.int .i64 0, .int .i64 0] (0, 0) _ rfl (store_pair (At.at A1.out 2 rfl)).1 Try.underlying23 rfl info_frac) rfl ?_
    exact ⟨rfl, (store_pair (At.at A1.out 2 rfl)).2.2 w (by omega) E1.out⟩
  · cases vb
    · obtain ⟨rfl, rfl, rfl⟩ : 0 = R1 ∧ 0 = R2 ∧ 8 = R3 := by simpa using hm
      clear hm
      go_enter Try.func18, Try.ntmps18
      go_wp2_with (first | (go_at_call 43; (with_reducible refine (K1.out _).mono ?_); rintro E w1 ⟨rfl, hb1⟩; have A1 := Lib.hid (show At w1 [(w.heap.size, Obj.cells #[.int .i64 a1, .int .i64 a2] 23), (w.heap.size + 1, Obj.cells #[.int .i64 b1, .int .i64 b2] 23), (w.heap.size + 1 + 1, Obj.cells #[.int .i64 0, .int .i64 0] 23)] from At.ext hb1 (show At _ [(w.heap.size, Obj.cells #[.int .i64 a1, .int .i64 a2] 23), (w.heap.size + 1, Obj.cells #[.int .i64 b1, .int .i64 b2] 23), (w.heap.size + 1 + 1, Obj.cells #[.int .i64 0, .int .i64 0] 23)] from ⟨(by repeat (first | (refine blk_at _ _ ?_; (first | rfl | (simp only [size_one]; done))) | refine (blk_past _ _ (by simp only [size_one]; omega)).trans ?_)), (by repeat (first | (refine blk_at _ _ ?_; (first | rfl | (simp only [size_one]; done))) | refine (blk_past _ _ (by simp only [size_one]; omega)).trans ?_)), (by repeat (first | (refine blk_at _ _ ?_; (first | rfl | (simp only [size_one]; done))) | refine (blk_past _ _ (by simp only [size_one]; omega)).trans ?_)), trivial⟩)); have E1 := Lib.hid (((show Ext w _ from (by repeat (first | exact Ext.refl _ | assumption | refine Ext.alloc ?_ _ | refine Ext.drewN ?_ _ | refine ext_grow ?_ _ _ | refine Ext.setCell ?_ (by first | exact Nat.le_refl _ | omega | (simp; done) | (simp; omega)) _ | refine Ext.trans ?_ (by assumption))))).trans hb1); obtain ⟨c1_0_0, c1_0_1, f1_0_0, f1_0_1⟩ := run_pair (At.at A1.out 0 rfl); have s1_0 : w.heap.size < w1.heap.size := At.lt A1.out 0 rfl; obtain ⟨c1_1_0, c1_1_1, f1_1_0, f1_1_1⟩ := run_pair (At.at A1.out 1 rfl); have s1_1 : w.heap.size + 1 < w1.heap.size := At.lt A1.out 1 rfl; obtain ⟨c1_2_0, c1_2_1, f1_2_0, f1_2_1⟩ := run_pair (At.at A1.out 2 rfl); have s1_2 : w.heap.size + 1 + 1 < w1.heap.size := At.lt A1.out 2 rfl) | (go_at_call 43; (with_reducible refine (K2.out _).mono ?_); rintro E w2 ⟨rfl, hb2⟩; have A2 := Lib.hid (show At w2 [(w.heap.size, Obj.cells #[.int .i64 a1, .int .i64 a2] 23), (w.heap.size + 1, Obj.cells #[.int .i64 b1, .int .i64 b2] 23), (w.heap.size + 1 + 1, Obj.cells #[.int .i64 0, .int .i64 0] 23)] from At.ext hb2 A1.out); have E2 := Lib.hid ((E1.out).trans hb2); obtain ⟨c2_0_0, c2_0_1, f2_0_0, f2_0_1⟩ := run_pair (At.at A2.out 0 rfl); have s2_0 : w.heap.size < w2.heap.size := At.lt A2.out 0 rfl; obtain ⟨c2_1_0, c2_1_1, f2_1_0, f2_1_1⟩ := run_pair (At.at A2.out 1 rfl); have s2_1 : w.heap.size + 1 < w2.heap.size := At.lt A2.out 1 rfl; obtain ⟨c2_2_0, c2_2_1, f2_2_0, f2_2_1⟩ := run_pair (At.at A2.out 2 rfl); have s2_2 : w.heap.size + 1 + 1 < w2.heap.size := At.lt A2.out 2 rfl; (try clear c1_0_0 c1_0_1 f1_0_0 f1_0_1 c1_1_0 c1_1_1 f1_1_0 f1_1_1 c1_2_0 c1_2_1 f1_2_0 f1_2_1 s1_0 s1_1 s1_2)))
      refine bodyPost_ret (RT.results_row2 rfl _ _ (w.heap.size + 1 + 1) 23 #[.int .i64 0, .int .i64 0] (0, 0) _ rfl (store_pair (At.at A2.out 2 rfl)).1 Try.underlying23 rfl info_frac) rfl ?_
      exact ⟨rfl, (store_pair (At.at A2.out 2 rfl)).2.2 w (by omega) E2.out⟩
    · cases z
      · obtain ⟨rfl, rfl, rfl⟩ : rn = R1 ∧ rd = R2 ∧ re = R3 := by simpa using hm
        clear hm
        have K3x := Lib.hid (K3.out rfl rfl rfl)
        clear K3
        have K9x := Lib.hid (K9.out rfl rfl rfl)
        clear K9
        go_enter Try.func18, Try.ntmps18
        go_wp2_with (first | (go_at_call 43; (with_reducible refine (K1.out _).mono ?_); rintro E w1 ⟨rfl, hb1⟩; have A1 := Lib.hid (show At w1 [(w.heap.size, Obj.cells #[.int .i64 a1, .int .i64 a2] 23), (w.heap.size + 1, Obj.cells #[.int .i64 b1, .int .i64 b2] 23), (w.heap.size + 1 + 1, Obj.cells #[.int .i64 0, .int .i64 0] 23)] from At.ext hb1 (show At _ [(w.heap.size, Obj.cells #[.int .i64 a1, .int .i64 a2] 23), (w.heap.size + 1, Obj.cells #[.int .i64 b1, .int .i64 b2] 23), (w.heap.size + 1 + 1, Obj.cells #[.int .i64 0, .int .i64 0] 23)] from ⟨(by repeat (first | (refine blk_at _ _ ?_; (first | rfl | (simp only [size_one]; done))) | refine (blk_past _ _ (by simp only [size_one]; omega)).trans ?_)), (by repeat (first | (refine blk_at _ _ ?_; (first | rfl | (simp only [size_one]; done))) | refine (blk_past _ _ (by simp only [size_one]; omega)).trans ?_)), (by repeat (first | (refine blk_at _ _ ?_; (first | rfl | (simp only [size_one]; done))) | refine (blk_past _ _ (by simp only [size_one]; omega)).trans ?_)), trivial⟩)); have E1 := Lib.hid (((show Ext w _ from (by repeat (first | exact Ext.refl _ | assumption | refine Ext.alloc ?_ _ | refine Ext.drewN ?_ _ | refine ext_grow ?_ _ _ | refine Ext.setCell ?_ (by first | exact Nat.le_refl _ | omega | (simp; done) | (simp; omega)) _ | refine Ext.trans ?_ (by assumption))))).trans hb1); obtain ⟨c1_0_0, c1_0_1, f1_0_0, f1_0_1⟩ := run_pair (At.at A1.out 0 rfl); have s1_0 : w.heap.size < w1.heap.size := At.lt A1.out 0 rfl; obtain ⟨c1_1_0, c1_1_1, f1_1_0, f1_1_1⟩ := run_pair (At.at A1.out 1 rfl); have s1_1 : w.heap.size + 1 < w1.heap.size := At.lt A1.out 1 rfl; obtain ⟨c1_2_0, c1_2_1, f1_2_0, f1_2_1⟩ := run_pair (At.at A1.out 2 rfl); have s1_2 : w.heap.size + 1 + 1 < w1.heap.size := At.lt A1.out 2 rfl) | (go_at_call 43; (with_reducible refine (K2.out _).mono ?_); rintro E w2 ⟨rfl, hb2⟩; have A2 := Lib.hid (show At w2 [(w.heap.size, Obj.cells #[.int .i64 a1, .int .i64 a2] 23), (w.heap.size + 1, Obj.cells #[.int .i64 b1, .int .i64 b2] 23), (w.heap.size + 1 + 1, Obj.cells #[.int .i64 0, .int .i64 0] 23)] from At.ext hb2 A1.out); have E2 := Lib.hid ((E1.out).trans hb2); obtain ⟨c2_0_0, c2_0_1, f2_0_0, f2_0_1⟩ := run_pair (At.at A2.out 0 rfl); have s2_0 : w.heap.size < w2.heap.size := At.lt A2.out 0 rfl; obtain ⟨c2_1_0, c2_1_1, f2_1_0, f2_1_1⟩ := run_pair (At.at A2.out 1 rfl); have s2_1 : w.heap.size + 1 < w2.heap.size := At.lt A2.out 1 rfl; obtain ⟨c2_2_0, c2_2_1, f2_2_0, f2_2_1⟩ := run_pair (At.at A2.out 2 rfl); have s2_2 : w.heap.size + 1 + 1 < w2.heap.size := At.lt A2.out 2 rfl; (try clear c1_0_0 c1_0_1 f1_0_0 f1_0_1 c1_1_0 c1_1_1 f1_1_0 f1_1_1 c1_2_0 c1_2_1 f1_2_0 f1_2_1 s1_0 s1_1 s1_2)) | (go_at_call 54; (with_reducible refine (K3x.out _).mono ?_); rintro E w3 ⟨rfl, hb3⟩; have A3 := Lib.hid (show At w3 [(w.heap.size, Obj.cells #[.int .i64 a1, .int .i64 a2] 23), (w.heap.size + 1, Obj.cells #[.int .i64 b1, .int .i64 b2] 23), (w.heap.size + 1 + 1, Obj.cells #[.int .i64 0, .int .i64 0] 23)] from At.ext hb3 A2.out); have E3 := Lib.hid ((E2.out).trans hb3); obtain ⟨c3_0_0, c3_0_1, f3_0_0, f3_0_1⟩ := run_pair (At.at A3.out 0 rfl); have s3_0 : w.heap.size < w3.heap.size := At.lt A3.out 0 rfl; obtain ⟨c3_1_0, c3_1_1, f3_1_0, f3_1_1⟩ := run_pair (At.at A3.out 1 rfl); have s3_1 : w.heap.size + 1 < w3.heap.size := At.lt A3.out 1 rfl; obtain ⟨c3_2_0, c3_2_1, f3_2_0, f3_2_1⟩ := run_pair (At.at A3.out 2 rfl); have s3_2 : w.heap.size + 1 + 1 < w3.heap.size := At.lt A3.out 2 rfl; (try clear c2_0_0 c2_0_1 f2_0_0 f2_0_1 c2_1_0 c2_1_1 f2_1_0 f2_1_1 c2_2_0 c2_2_1 f2_2_0 f2_2_1 s2_0 s2_1 s2_2)) | (go_at_call 38; (with_reducible refine (K9x.out _).mono ?_); rintro E w4 ⟨rfl, hb4⟩; have A4 := Lib.hid (show At w4 [(w.heap.size, Obj.cells #[.int .i64 a1, .int .i64 a2] 23), (w.heap.size + 1, Obj.cells #[.int .i64 b1, .int .i64 b2] 23), (w.heap.size + 1 + 1, Obj.cells #[.int .i64 0, .int .i64 0] 23)] from At.ext hb4 A3.out); have E4 := Lib.hid ((E3.out).trans hb4); obtain ⟨c4_0_0, c4_0_1, f4_0_0, f4_0_1⟩ := run_pair (At.at A4.out 0 rfl); have s4_0 : w.heap.size < w4.heap.size := At.lt A4.out 0 rfl; obtain ⟨c4_1_0, c4_1_1, f4_1_0, f4_1_1⟩ := run_pair (At.at A4.out 1 rfl); have s4_1 : w.heap.size + 1 < w4.heap.size := At.lt A4.out 1 rfl; obtain ⟨c4_2_0, c4_2_1, f4_2_0, f4_2_1⟩ := run_pair (At.at A4.out 2 rfl); have s4_2 : w.heap.size + 1 + 1 < w4.heap.size := At.lt A4.out 2 rfl; (try clear c3_0_0 c3_0_1 f3_0_0 f3_0_1 c3_1_0 c3_1_1 f3_1_0 f3_1_1 c3_2_0 c3_2_1 f3_2_0 f3_2_1 s3_0 s3_1 s3_2)))
        refine bodyPost_ret (RT.results_row2 rfl _ _ (w.heap.size + 1 + 1) 23 #[.int .i64 rn, .int .i64 rd] (0, 0) _ rfl (store_pair (At.at A4.out 2 rfl)).1 Try.underlying23 rfl info_frac) rfl ?_
        exact ⟨rfl, (store_pair (At.at A4.out 2 rfl)).2.2 w (by omega) E4.out⟩
      · obtain ⟨rfl, rfl, rfl⟩ : 0 = R1 ∧ 0 = R2 ∧ 10 = R3 := by simpa using hm
        clear hm
        go_enter Try.func18, Try.ntmps18
        go_wp2_with (first | (go_at_call 43; (with_reducible refine (K1.out _).mono ?_); rintro E w1 ⟨rfl, hb1⟩; have A1 := Lib.hid (show At w1 [(w.heap.size, Obj.cells #[.int .i64 a1, .int .i64 a2] 23), (w.heap.size + 1, Obj.cells #[.int .i64 b1, .int .i64 b2] 23), (w.heap.size + 1 + 1, Obj.cells #[.int .i64 0, .int .i64 0] 23)] from At.ext hb1 (show At _ [(w.heap.size, Obj.cells #[.int .i64 a1, .int .i64 a2] 23), (w.heap.size + 1, Obj.cells #[.int .i64 b1, .int .i64 b2] 23), (w.heap.size + 1 + 1, Obj.cells #[.int .i64 0, .int .i64 0] 23)] from ⟨(by repeat (first | (refine blk_at _ _ ?_; (first | rfl | (simp only [size_one]; done))) | refine (blk_past _ _ (by simp only [size_one]; omega)).trans ?_)), (by repeat (first | (refine blk_at _ _ ?_; (first | rfl | (simp only [size_one]; done))) | refine (blk_past _ _ (by simp only [size_one]; omega)).trans ?_)), (by repeat (first | (refine blk_at _ _ ?_; (first | rfl | (simp only [size_one]; done))) | refine (blk_past _ _ (by simp only [size_one]; omega)).trans ?_)), trivial⟩)); have E1 := Lib.hid (((show Ext w _ from (by repeat (first | exact Ext.refl _ | assumption | refine Ext.alloc ?_ _ | refine Ext.drewN ?_ _ | refine ext_grow ?_ _ _ | refine Ext.setCell ?_ (by first | exact Nat.le_refl _ | omega | (simp; done) | (simp; omega)) _ | refine Ext.trans ?_ (by assumption))))).trans hb1); obtain ⟨c1_0_0, c1_0_1, f1_0_0, f1_0_1⟩ := run_pair (At.at A1.out 0 rfl); have s1_0 : w.heap.size < w1.heap.size := At.lt A1.out 0 rfl; obtain ⟨c1_1_0, c1_1_1, f1_1_0, f1_1_1⟩ := run_pair (At.at A1.out 1 rfl); have s1_1 : w.heap.size + 1 < w1.heap.size := At.lt A1.out 1 rfl; obtain ⟨c1_2_0, c1_2_1, f1_2_0, f1_2_1⟩ := run_pair (At.at A1.out 2 rfl); have s1_2 : w.heap.size + 1 + 1 < w1.heap.size := At.lt A1.out 2 rfl) | (go_at_call 43; (with_reducible refine (K2.out _).mono ?_); rintro E w2 ⟨rfl, hb2⟩; have A2 := Lib.hid (show At w2 [(w.heap.size, Obj.cells #[.int .i64 a1, .int .i64 a2] 23), (w.heap.size + 1, Obj.cells #[.int .i64 b1, .int .i64 b2] 23), (w.heap.size + 1 + 1, Obj.cells #[.int .i64 0, .int .i64 0] 23)] from At.ext hb2 A1.out); have E2 := Lib.hid ((E1.out).trans hb2); obtain ⟨c2_0_0, c2_0_1, f2_0_0, f2_0_1⟩ := run_pair (At.at A2.out 0 rfl); have s2_0 : w.heap.size < w2.heap.size := At.lt A2.out 0 rfl; obtain ⟨c2_1_0, c2_1_1, f2_1_0, f2_1_1⟩ := run_pair (At.at A2.out 1 rfl); have s2_1 : w.heap.size + 1 < w2.heap.size := At.lt A2.out 1 rfl; obtain ⟨c2_2_0, c2_2_1, f2_2_0, f2_2_1⟩ := run_pair (At.at A2.out 2 rfl); have s2_2 : w.heap.size + 1 + 1 < w2.heap.size := At.lt A2.out 2 rfl; (try clear c1_0_0 c1_0_1 f1_0_0 f1_0_1 c1_1_0 c1_1_1 f1_1_0 f1_1_1 c1_2_0 c1_2_1 f1_2_0 f1_2_1 s1_0 s1_1 s1_2)))
        refine bodyPost_ret (RT.results_row2 rfl _ _ (w.heap.size + 1 + 1) 23 #[.int .i64 0, .int .i64 0] (0, 0) _ rfl (store_pair (At.at A2.out 2 rfl)).1 Try.underlying23 rfl info_frac) rfl ?_
        exact ⟨rfl, (store_pair (At.at A2.out 2 rfl)).2.2 w (by omega) E2.out⟩
theorem r_Add (a b : Frac) (ha : a.wide) (hb : b.wide) (w : World) :
    Calls Try.prog 12 #[fracV a, fracV b] w fun E w' => E = .returned (fansV (opR (fun p q => answer (p + q)) a b)) ∧ Ext w w' := by
  by_cases hn : a.ok ∧ b.ok
  · obtain ⟨p, hp, rfl⟩ := Frac.of_ok hn.1
    obtain ⟨q, hq, rfl⟩ := Frac.of_ok hn.2
    rw [opR_ok _ hp hq]
    have cf := fun w => r_fit (answer (p + q)).1 (decide ((answer (p + q)).2 = 0)) w
    rw [fit_answer] at cf
    exact rAdd_walk (nm p) (dn p) (nm q) (dn q) 0 0 _ _ _ _ _ _ _ _ w (r_Valid (fracOf p) (wide_of hp)) (r_Valid (fracOf q) (wide_of hq)) (fun _ _ => r_Plus p q hp hq) (fun _ _ => cf) _ _ _ (if_pos ⟨decide_eq_true (fracOf_ok hp), decide_eq_true (fracOf_ok hq)⟩)
  · rw [show opR (fun p q => answer (p + q)) a b = (⟨0, 0⟩, 8) from if_neg hn]
    obtain ⟨a1, a2⟩ := a
    obtain ⟨b1, b2⟩ := b
    have no : ∀ P : Prop, decide (Frac.ok ⟨a1, a2⟩) = true → decide (Frac.ok ⟨b1, b2⟩) = true → P := fun P h1 h2 => absurd ⟨of_decide_eq_true h1, of_decide_eq_true h2⟩ hn
    exact rAdd_walk a1 a2 b1 b2 0 0 0 0 0 0 0 false _ _ w (r_Valid _ ha) (r_Valid _ hb) (no _) (no _) 0 0 8 (if_neg fun h => hn ⟨of_decide_eq_true h.1, of_decide_eq_true h.2⟩)
theorem r_Sub (a b : Frac) (ha : a.wide) (hb : b.wide) (w : World) :
    Calls Try.prog 14 #[fracV a, fracV b] w fun E w' => E = .returned (fansV (opR (fun p q => answer (p - q)) a b)) ∧ Ext w w' := by
  by_cases hn : a.ok ∧ b.ok
  · obtain ⟨p, hp, rfl⟩ := Frac.of_ok hn.1
    obtain ⟨q, hq, rfl⟩ := Frac.of_ok hn.2
    rw [opR_ok _ hp hq]
    have cf := fun w => r_fit (answer (p + -q)).1 (decide ((answer (p + -q)).2 = 0)) w
    rw [fit_answer] at cf
    have e : p + -q = p - q := (Rat.sub_eq_add_neg p q).symm
    have kn : ∀ w, Calls Try.prog 50 #[ratV q] w fun E w' => E = .returned (ratV (-q)) ∧ Ext w w' := fun w => by
      have h := r_Neg (fracOf q) w
      have e2 : wrap64 (-(fracOf q).num) = nm (-q) := by
        have k := (fits_i64 (fits_neg hq)).1
        rw [show nm (-q) = -(fracOf q).num from Rat.neg_num q] at k ⊢
        exact IntWalk.wrap64_in _ k
      rw [e2] at h
      exact h
    rw [← e]
    exact rSub_walk (nm p) (dn p) (nm q) (dn q) _ _ _ _ _ _ _ _ _ _ w (r_Valid (fracOf p) (wide_of hp)) (r_Valid (fracOf q) (wide_of hq)) (fun _ _ => kn) (fun _ _ => r_Plus p (-q) hp (fits_neg hq)) (fun _ _ => cf) _ _ _ (if_pos ⟨decide_eq_true (fracOf_ok hp), decide_eq_true (fracOf_ok hq)⟩)
  · rw [show opR (fun p q => answer (p - q)) a b = (⟨0, 0⟩, 8) from if_neg hn]
    obtain ⟨a1, a2⟩ := a
    obtain ⟨b1, b2⟩ := b
    have no : ∀ P : Prop, decide (Frac.ok ⟨a1, a2⟩) = true → decide (Frac.ok ⟨b1, b2⟩) = true → P := fun P h1 h2 => absurd ⟨of_decide_eq_true h1, of_decide_eq_true h2⟩ hn
    exact rSub_walk a1 a2 b1 b2 0 0 0 0 0 0 0 false _ _ w (r_Valid _ ha) (r_Valid _ hb) (no _) (no _) (no _) 0 0 8 (if_neg fun h => hn ⟨of_decide_eq_true h.1, of_decide_eq_true h.2⟩)
theorem r_Mul (a b : Frac) (ha : a.wide) (hb : b.wide) (w : World) :
    Calls Try.prog 16 #[fracV a, fracV b] w fun E w' => E = .returned (fansV (opR (fun p q => answer (p * q)) a b)) ∧ Ext w w' := by
  by_cases hn : a.ok ∧ b.ok
  · obtain ⟨p, hp, rfl⟩ := Frac.of_ok hn.1
    obtain ⟨q, hq, rfl⟩ := Frac.of_ok hn.2
    rw [opR_ok _ hp hq]
    have cf := fun w => r_fit (answer (p * q)).1 (decide ((answer (p * q)).2 = 0)) w
    rw [fit_answer] at cf
    exact rMul_walk (nm p) (dn p) (nm q) (dn q) 0 0 _ _ _ _ _ _ _ _ w (r_Valid (fracOf p) (wide_of hp)) (r_Valid (fracOf q) (wide_of hq)) (fun _ _ => r_Times p q hp hq) (fun _ _ => cf) _ _ _ (if_pos ⟨decide_eq_true (fracOf_ok hp), decide_eq_true (fracOf_ok hq)⟩)
  · rw [show opR (fun p q => answer (p * q)) a b = (⟨0, 0⟩, 8) from if_neg hn]
    obtain ⟨a1, a2⟩ := a
    obtain ⟨b1, b2⟩ := b
    have no : ∀ P : Prop, decide (Frac.ok ⟨a1, a2⟩) = true → decide (Frac.ok ⟨b1, b2⟩) = true → P := fun P h1 h2 => absurd ⟨of_decide_eq_true h1, of_decide_eq_true h2⟩ hn
    exact rMul_walk a1 a2 b1 b2 0 0 0 0 0 0 0 false _ _ w (r_Valid _ ha) (r_Valid _ hb) (no _) (no _) 0 0 8 (if_neg fun h => hn ⟨of_decide_eq_true h.1, of_decide_eq_true h.2⟩)
theorem r_Div (a b : Frac) (ha : a.wide) (hb : b.wide) (w : World) :
    Calls Try.prog 18 #[fracV a, fracV b] w fun E w' => E = .returned (fansV (opR quotR a b)) ∧ Ext w w' := by
  by_cases hn : a.ok ∧ b.ok
  · obtain ⟨p, hp, rfl⟩ := Frac.of_ok hn.1
    obtain ⟨q, hq, rfl⟩ := Frac.of_ok hn.2
    rw [opR_ok _ hp hq]
    have cf := fun w => r_fit (answer (p / q)).1 (decide ((answer (p / q)).2 = 0)) w
    rw [fit_answer] at cf
    by_cases h0 : nm q = 0
    · rw [show quotR p q = (⟨0, 0⟩, 10) from if_pos h0]
      have hz : (nm q == 0) = true := by simpa using h0
      exact rDiv_walk (nm p) (dn p) (nm q) (dn q) 0 0 0 0 0 0 0 false _ _ true w hz (r_Valid (fracOf p) (wide_of hp)) (r_Valid (fracOf q) (wide_of hq)) (fun _ _ h => by cases h) (fun _ _ h => by cases h) _ _ _ (by rw [if_pos ⟨decide_eq_true (fracOf_ok hp), decide_eq_true (fracOf_ok hq)⟩]; rfl)
    · rw [show quotR p q = answer (p / q) from if_neg h0]
      have hz : (nm q == 0) = false := by simpa using h0
      exact rDiv_walk (nm p) (dn p) (nm q) (dn q) 0 0 _ _ _ _ _ _ _ _ false w hz (r_Valid (fracOf p) (wide_of hp)) (r_Valid (fracOf q) (wide_of hq)) (fun _ _ _ => r_Over p q hp hq h0) (fun _ _ _ => cf) _ _ _ (by rw [if_pos ⟨decide_eq_true (fracOf_ok hp), decide_eq_true (fracOf_ok hq)⟩]; rfl)
  · rw [show opR quotR a b = (⟨0, 0⟩, 8) from if_neg hn]
    obtain ⟨a1, a2⟩ := a
    obtain ⟨b1, b2⟩ := b
    have no : ∀ P : Prop, decide (Frac.ok ⟨a1, a2⟩) = true → decide (Frac.ok ⟨b1, b2⟩) = true → P := fun P h1 h2 => absurd ⟨of_decide_eq_true h1, of_decide_eq_true h2⟩ hn
    exact rDiv_walk a1 a2 b1 b2 0 0 0 0 0 0 0 false _ _ _ w rfl (r_Valid _ ha) (r_Valid _ hb) (no _) (no _) 0 0 8 (if_neg fun h => hn ⟨of_decide_eq_true h.1, of_decide_eq_true h.2⟩)
set_option maxRecDepth 100000 in
set_option maxHeartbeats 8000000 in
theorem rCompare_walk (a1 a2 b1 b2 r : Int) (va vb : Bool) (w : World)
    (k1 : ∀ w, Calls Try.prog 43 #[fracV ⟨a1, a2⟩] w fun E w' => E = .returned (.bool va) ∧ Ext w w')
    (k2 : ∀ w, Calls Try.prog 43 #[fracV ⟨b1, b2⟩] w fun E w' => E = .returned (.bool vb) ∧ Ext w w')
    (k3 : va = true → vb = true → ∀ w, Calls Try.prog 45 #[fracV ⟨a1, a2⟩, fracV ⟨b1, b2⟩] w fun E w' => E = .returned (.int .i64 r) ∧ Ext w w')
    (R1 R2 : Int) (hm : (if va = true ∧ vb = true then (r, (0 : Int)) else (0, 8)) = (R1, R2)) :
    Calls Try.prog 10 #[fracV ⟨a1, a2⟩, fracV ⟨b1, b2⟩] w fun E w' => E = .returned (.tuple #[.int .i64 R1, .int .i64 R2]) ∧ Ext w w' := by
  have K1 := Lib.hid k1
  have K2 := Lib.hid k2
  have K3 := Lib.hid k3
  clear k1 k2 k3
  cases va
  · obtain ⟨rfl, rfl⟩ : 0 = R1 ∧ 8 = R2 := by simpa using hm
    clear hm
    go_enter Try.func10, Try.ntmps10
    go_wp2_with (first | (go_at_call 43; (with_reducible refine (K1.out _).mono ?_); rintro E w1 ⟨rfl, hb1⟩; have A1 := Lib.hid (show At w1 [(w.heap.size, Obj.cells #[.int .i64 a1, .int .i64 a2] 23), (w.heap.size + 1, Obj.cells #[.int .i64 b1, .int .i64 b2] 23)] from At.ext hb1 (show At _ [(w.heap.size, Obj.cells #[.int .i64 a1, .int .i64 a2] 23), (w.heap.size + 1, Obj.cells #[.int .i64 b1, .int .i64 b2] 23)] from ⟨(by repeat (first | (refine blk_at _ _ ?_; (first | rfl | (simp only [size_one]; done))) | refine (blk_past _ _ (by simp only [size_one]; omega)).trans ?_)), (by repeat (first | (refine blk_at _ _ ?_; (first | rfl | (simp only [size_one]; done))) | refine (blk_past _ _ (by simp only [size_one]; omega)).trans ?_)), trivial⟩)); have E1 := Lib.hid (((show Ext w _ from (by repeat (first | exact Ext.refl _ | assumption | refine Ext.alloc ?_ _ | refine Ext.drewN ?_ _ | refine ext_grow ?_ _ _ | refine Ext.setCell ?_ (by first | exact Nat.le_refl _ | omega | (simp; done) | (simp; omega)) _ | refine Ext.trans ?_ (by assumption))))).trans hb1); obtain ⟨c1_0_0, c1_0_1, f1_0_0, f1_0_1⟩ := run_pair (At.at A1.out 0 rfl); have s1_0 : w.heap.size < w1.heap.size := At.lt A1.out 0 rfl; obtain ⟨c1_1_0, c1_1_1, f1_1_0, f1_1_1⟩ := run_pair (At.at A1.out 1 rfl); have s1_1 : w.heap.size + 1 < w1.heap.size := At.lt A1.out 1 rfl))
    go_ret2
    exact ⟨rfl, E1.out⟩
  · cases vb
    · obtain ⟨rfl, rfl⟩ : 0 = R1 ∧ 8 = R2 := by simpa using hm
      clear hm
      go_enter Try.func10, Try.ntmps10
      go_wp2_with (first | (go_at_call 43; (with_reducible refine (K1.out _).mono ?_); rintro E w1 ⟨rfl, hb1⟩; have A1 := Lib.hid (show At w1 [(w.heap.size, Obj.cells #[.int .i64 a1, .int .i64 a2] 23), (w.heap.size + 1, Obj.cells #[.int .i64 b1, .int .i64 b2] 23)] from At.ext hb1 (show At _ [(w.heap.size, Obj.cells #[.int .i64 a1, .int .i64 a2] 23), (w.heap.size + 1, Obj.cells #[.int .i64 b1, .int .i64 b2] 23)] from ⟨(by repeat (first | (refine blk_at _ _ ?_; (first | rfl | (simp only [size_one]; done))) | refine (blk_past _ _ (by simp only [size_one]; omega)).trans ?_)), (by repeat (first | (refine blk_at _ _ ?_; (first | rfl | (simp only [size_one]; done))) | refine (blk_past _ _ (by simp only [size_one]; omega)).trans ?_)), trivial⟩)); have E1 := Lib.hid (((show Ext w _ from (by repeat (first | exact Ext.refl _ | assumption | refine Ext.alloc ?_ _ | refine Ext.drewN ?_ _ | refine ext_grow ?_ _ _ | refine Ext.setCell ?_ (by first | exact Nat.le_refl _ | omega | (simp; done) | (simp; omega)) _ | refine Ext.trans ?_ (by assumption))))).trans hb1); obtain ⟨c1_0_0, c1_0_1, f1_0_0, f1_0_1⟩ := run_pair (At.at A1.out 0 rfl); have s1_0 : w.heap.size < w1.heap.size := At.lt A1.out 0 rfl; obtain ⟨c1_1_0, c1_1_1, f1_1_0, f1_1_1⟩ := run_pair (At.at A1.out 1 rfl); have s1_1 : w.heap.size + 1 < w1.heap.size := At.lt A1.out 1 rfl) | (go_at_call 43; (with_reducible refine (K2.out _).mono ?_); rintro E w2 ⟨rfl, hb2⟩; have A2 := Lib.hid (show At w2 [(w.heap.size, Obj.cells #[.int .i64 a1, .int .i64 a2] 23), (w.heap.size + 1, Obj.cells #[.int .i64 b1, .int .i64 b2] 23)] from At.ext hb2 A1.out); have E2 := Lib.hid ((E1.out).trans hb2); obtain ⟨c2_0_0, c2_0_1, f2_0_0, f2_0_1⟩ := run_pair (At.at A2.out 0 rfl); have s2_0 : w.heap.size < w2.heap.size := At.lt A2.out 0 rfl; obtain ⟨c2_1_0, c2_1_1, f2_1_0, f2_1_1⟩ := run_pair (At.at A2.out 1 rfl); have s2_1 : w.heap.size + 1 < w2.heap.size := At.lt A2.out 1 rfl; (try clear c1_0_0 c1_0_1 f1_0_0 f1_0_1 c1_1_0 c1_1_1 f1_1_0 f1_1_1 s1_0 s1_1)))
      go_ret2
      exact ⟨rfl, E2.out⟩
    · obtain ⟨rfl, rfl⟩ : r = R1 ∧ 0 = R2 := by simpa using hm
      clear hm
      have K3x := Lib.hid (K3.out rfl rfl)
      clear K3
      go_enter Try.func10, Try.ntmps10
      go_wp2_with (first | (go_at_call 43; (with_reducible refine (K1.out _).mono ?_); rintro E w1 ⟨rfl, hb1⟩; have A1 := Lib.hid (show At w1 [(w.heap.size, Obj.cells #[.int .i64 a1, .int .i64 a2] 23), (w.heap.size + 1, Obj.cells #[.int .i64 b1, .int .i64 b2] 23)] from At.ext hb1 (show At _ [(w.heap.size, Obj.cells #[.int .i64 a1, .int .i64 a2] 23), (w.heap.size + 1, Obj.cells #[.int .i64 b1, .int .i64 b2] 23)] from ⟨(by repeat (first | (refine blk_at _ _ ?_; (first | rfl | (simp only [size_one]; done))) | refine (blk_past _ _ (by simp only [size_one]; omega)).trans ?_)), (by repeat (first | (refine blk_at _ _ ?_; (first | rfl | (simp only [size_one]; done))) | refine (blk_past _ _ (by simp only [size_one]; omega)).trans ?_)), trivial⟩)); have E1 := Lib.hid (((show Ext w _ from (by repeat (first | exact Ext.refl _ | assumption | refine Ext.alloc ?_ _ | refine Ext.drewN ?_ _ | refine ext_grow ?_ _ _ | refine Ext.setCell ?_ (by first | exact Nat.le_refl _ | omega | (simp; done) | (simp; omega)) _ | refine Ext.trans ?_ (by assumption))))).trans hb1); obtain ⟨c1_0_0, c1_0_1, f1_0_0, f1_0_1⟩ := run_pair (At.at A1.out 0 rfl); have s1_0 : w.heap.size < w1.heap.size := At.lt A1.out 0 rfl; obtain ⟨c1_1_0, c1_1_1, f1_1_0, f1_1_1⟩ := run_pair (At.at A1.out 1 rfl); have s1_1 : w.heap.size + 1 < w1.heap.size := At.lt A1.out 1 rfl) | (go_at_call 43; (with_reducible refine (K2.out _).mono ?_); rintro E w2 ⟨rfl, hb2⟩; have A2 := Lib.hid (show At w2 [(w.heap.size, Obj.cells #[.int .i64 a1, .int .i64 a2] 23), (w.heap.size + 1, Obj.cells #[.int .i64 b1, .int .i64 b2] 23)] from At.ext hb2 A1.out); have E2 := Lib.hid ((E1.out).trans hb2); obtain ⟨c2_0_0, c2_0_1, f2_0_0, f2_0_1⟩ := run_pair (At.at A2.out 0 rfl); have s2_0 : w.heap.size < w2.heap.size := At.lt A2.out 0 rfl; obtain ⟨c2_1_0, c2_1_1, f2_1_0, f2_1_1⟩ := run_pair (At.at A2.out 1 rfl); have s2_1 : w.heap.size + 1 < w2.heap.size := At.lt A2.out 1 rfl; (try clear c1_0_0 c1_0_1 f1_0_0 f1_0_1 c1_1_0 c1_1_1 f1_1_0 f1_1_1 s1_0 s1_1)) | (go_at_call 45; (with_reducible refine (K3x.out _).mono ?_); rintro E w3 ⟨rfl, hb3⟩; have A3 := Lib.hid (show At w3 [(w.heap.size, Obj.cells #[.int .i64 a1, .int .i64 a2] 23), (w.heap.size + 1, Obj.cells #[.int .i64 b1, .int .i64 b2] 23)] from At.ext hb3 A2.out); have E3 := Lib.hid ((E2.out).trans hb3); obtain ⟨c3_0_0, c3_0_1, f3_0_0, f3_0_1⟩ := run_pair (At.at A3.out 0 rfl); have s3_0 : w.heap.size < w3.heap.size := At.lt A3.out 0 rfl; obtain ⟨c3_1_0, c3_1_1, f3_1_0, f3_1_1⟩ := run_pair (At.at A3.out 1 rfl); have s3_1 : w.heap.size + 1 < w3.heap.size := At.lt A3.out 1 rfl; (try clear c2_0_0 c2_0_1 f2_0_0 f2_0_1 c2_1_0 c2_1_1 f2_1_0 f2_1_1 s2_0 s2_1)))
      go_ret2
      exact ⟨rfl, E3.out⟩
theorem r_Compare (a b : Frac) (ha : a.wide) (hb : b.wide) (w : World) :
    Calls Try.prog 10 #[fracV a, fracV b] w fun E w' => E = .returned (.tuple #[.int .i64 (compareR a b).1, .int .i64 (compareR a b).2]) ∧ Ext w w' := by
  by_cases hn : a.ok ∧ b.ok
  · have e : compareR a b = (cmp a.val b.val, 0) := if_pos hn
    rw [e]
    obtain ⟨p, hp, rfl⟩ := Frac.of_ok hn.1
    obtain ⟨q, hq, rfl⟩ := Frac.of_ok hn.2
    rw [fracOf_val, fracOf_val]
    exact rCompare_walk (nm p) (dn p) (nm q) (dn q) _ _ _ w (r_Valid (fracOf p) (wide_of hp)) (r_Valid (fracOf q) (wide_of hq)) (fun _ _ => r_Order p q hp hq) _ _ (if_pos ⟨decide_eq_true (fracOf_ok hp), decide_eq_true (fracOf_ok hq)⟩)
  · rw [show compareR a b = (0, 8) from if_neg hn]
    obtain ⟨a1, a2⟩ := a
    obtain ⟨b1, b2⟩ := b
    exact rCompare_walk a1 a2 b1 b2 0 _ _ w (r_Valid _ ha) (r_Valid _ hb) (fun h1 h2 => absurd ⟨of_decide_eq_true h1, of_decide_eq_true h2⟩ hn) 0 8 (if_neg fun h => hn ⟨of_decide_eq_true h.1, of_decide_eq_true h.2⟩)
set_option maxHeartbeats 2000000 in
theorem r_Check (a : Frac) (ha : a.wide) (w : World) :
    Calls Try.prog 8 #[fracV a] w fun E w' => E = .returned (.int .i64 (checkR a)) ∧ Ext w w' := by
  obtain ⟨a1, a2⟩ := a
  obtain ⟨t, ht⟩ : ∃ t, decide (Frac.ok ⟨a1, a2⟩) = t := ⟨_, rfl⟩
  have k1 := fun w => r_Valid ⟨a1, a2⟩ ha w
  rw [ht] at k1
  have e : checkR ⟨a1, a2⟩ = if t = true then 0 else 8 := by rw [← ht]; unfold checkR; simp
  rw [e]
  have K1 := Lib.hid k1
  clear k1 ht e ha
  cases t
  all_goals go_enter Try.func8, Try.ntmps8
  all_goals go_wp2_with (first | (go_at_call 43; (with_reducible refine (K1.out _).mono ?_); rintro E w1 ⟨rfl, hb1⟩; have A1 := Lib.hid (show At w1 [(w.heap.size, Obj.cells #[.int .i64 a1, .int .i64 a2] 23)] from At.ext hb1 (show At _ [(w.heap.size, Obj.cells #[.int .i64 a1, .int .i64 a2] 23)] from ⟨(by repeat (first | (refine blk_at _ _ ?_; (first | rfl | (simp only [size_one]; done))) | refine (blk_past _ _ (by simp only [size_one]; omega)).trans ?_)), trivial⟩)); have E1 := Lib.hid (((show Ext w _ from (by repeat (first | exact Ext.refl _ | assumption | refine Ext.alloc ?_ _ | refine Ext.drewN ?_ _ | refine ext_grow ?_ _ _ | refine Ext.setCell ?_ (by first | exact Nat.le_refl _ | omega | (simp; done) | (simp; omega)) _ | refine Ext.trans ?_ (by assumption))))).trans hb1); obtain ⟨c1_0_0, c1_0_1, f1_0_0, f1_0_1⟩ := run_pair (At.at A1.out 0 rfl); have s1_0 : w.heap.size < w1.heap.size := At.lt A1.out 0 rfl))
  all_goals go_ret
  all_goals exact ⟨rfl, E1.out⟩
end Go.Proofs.Ytodoimeiklilhaa
