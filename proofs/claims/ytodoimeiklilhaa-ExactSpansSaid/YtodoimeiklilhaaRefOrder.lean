/- The walks of the reference's Order and Plus. -/
import Derived.Test.YtodoimeiklilhaaRefTimes
set_option linter.unusedVariables false
set_option linter.unusedSimpArgs false
namespace Go.Proofs.Ytodoimeiklilhaa
open Go.RowKit Go.Sort

set_option maxRecDepth 100000 in
set_option maxHeartbeats 8000000 in
theorem rOrder_walk (a1 a2 b1 b2 s1 s2 s3 : Int) (N1 N2 D1 D2 : Nat) (Xh Xl Yh Yl R : Int) (lt : Bool) (w : World)
    (l1 : -1 ≤ s1)
    (l2 : s1 ≤ 1)
    (l3 : -1 ≤ s2)
    (l4 : s2 ≤ 1)
    (k0 : ∀ w, Calls Try.prog 40 #[.int .i64 (s1 - s2)] w fun E w' => E = .returned (.int .i64 s3) ∧ Ext w w')
    (k1 : ∀ w, Calls Try.prog 40 #[.int .i64 a1] w fun E w' => E = .returned (.int .i64 s1) ∧ Ext w w')
    (k2 : ∀ w, Calls Try.prog 40 #[.int .i64 b1] w fun E w' => E = .returned (.int .i64 s2) ∧ Ext w w')
    (k3 : ∀ w, Calls Try.prog 41 #[.int .i64 a1] w fun E w' => E = .returned (.int .u64 (N1 : Int)) ∧ Ext w w')
    (k4 : ∀ w, Calls Try.prog 41 #[.int .i64 b1] w fun E w' => E = .returned (.int .u64 (N2 : Int)) ∧ Ext w w')
    (k5 : ∀ w, Calls Try.prog 41 #[.int .i64 a2] w fun E w' => E = .returned (.int .u64 (D1 : Int)) ∧ Ext w w')
    (k6 : ∀ w, Calls Try.prog 41 #[.int .i64 b2] w fun E w' => E = .returned (.int .u64 (D2 : Int)) ∧ Ext w w')
    (k7 : ∀ w, Calls Try.prog 70 #[.int .u64 (N1 : Int), .int .u64 (D2 : Int)] w fun E w' => E = .returned (.agg #[.int .u64 Xh, .int .u64 Xl]) ∧ Ext w w')
    (k8 : ∀ w, Calls Try.prog 70 #[.int .u64 (N2 : Int), .int .u64 (D1 : Int)] w fun E w' => E = .returned (.agg #[.int .u64 Yh, .int .u64 Yl]) ∧ Ext w w')
    (k9 : ∀ w, Calls Try.prog 71 #[.agg #[.int .u64 Xh, .int .u64 Xl], .agg #[.int .u64 Yh, .int .u64 Yl]] w fun E w' => E = .returned (.bool lt) ∧ Ext w w')
    (hm : R = if s1 ≠ s2 then s3 else if Xh = Yh ∧ Xl = Yl then 0 else if lt = true then 0 - s1 else s1) :
    Calls Try.prog 45 #[fracV ⟨a1, a2⟩, fracV ⟨b1, b2⟩] w fun E w' => E = .returned (.int .i64 R) ∧ Ext w w' := by
  have K0 := Lib.hid k0
  have K1 := Lib.hid k1
  have K2 := Lib.hid k2
  have K3 := Lib.hid k3
  have K4 := Lib.hid k4
  have K5 := Lib.hid k5
  have K6 := Lib.hid k6
  have K7 := Lib.hid k7
  have K8 := Lib.hid k8
  have K9 := Lib.hid k9
  clear k0 k1 k2 k3 k4 k5 k6 k7 k8 k9
  by_cases h0 : s1 = s2
  · subst h0
    have t0 : (s1 != s1) = false := by simp
    have hm' : R = if Xh = Yh ∧ Xl = Yl then 0 else if lt = true then 0 - s1 else s1 := by rw [hm, if_neg (fun h => h rfl)]
    clear hm
    go_enter Try.func45, Try.ntmps45
    go_wp2
    refine wp_region_quiet_below (by kernel_rfl) (by kernel_rfl) ?_
    repeat (go_big_quiet_step ((first | (go_at_call 40; with_reducible exact Calls.ext_of (K1.out _)) | (go_at_call 40; with_reducible exact Calls.ext_of (K2.out _)))))
    refine wpQuiet_nil ?_
    intro w1 hw'
    obtain ⟨pq, hw''⟩ := hw'
    have hb1 := ext_of_regrown hw''
    clear hw'' pq
    have A1 := Lib.hid (show At w1 [(w.heap.size, Obj.cells #[.int .i64 a1, .int .i64 a2] 23), (w.heap.size + 1, Obj.cells #[.int .i64 b1, .int .i64 b2] 23)] from At.ext hb1 (show At _ [(w.heap.size, Obj.cells #[.int .i64 a1, .int .i64 a2] 23), (w.heap.size + 1, Obj.cells #[.int .i64 b1, .int .i64 b2] 23)] from ⟨(by repeat (first | (refine blk_at _ _ ?_; (first | rfl | (simp only [size_one]; done))) | refine (blk_past _ _ (by simp only [size_one]; omega)).trans ?_)), (by repeat (first | (refine blk_at _ _ ?_; (first | rfl | (simp only [size_one]; done))) | refine (blk_past _ _ (by simp only [size_one]; omega)).trans ?_)), trivial⟩))
    have E1 := Lib.hid (((show Ext w _ from (by repeat (first | exact Ext.refl _ | assumption | refine Ext.alloc ?_ _ | refine Ext.drewN ?_ _ | refine ext_grow ?_ _ _ | refine Ext.setCell ?_ (by first | exact Nat.le_refl _ | omega | (simp; done) | (simp; omega)) _ | refine Ext.trans ?_ (by assumption))))).trans hb1)
    clear hb1
    obtain ⟨c1_0_0, c1_0_1, f1_0_0, f1_0_1⟩ := run_pair (At.at A1.out 0 rfl)
    have s1_0 : w.heap.size < w1.heap.size := At.lt A1.out 0 rfl
    obtain ⟨c1_1_0, c1_1_1, f1_1_0, f1_1_1⟩ := run_pair (At.at A1.out 1 rfl)
    have s1_1 : w.heap.size + 1 < w1.heap.size := At.lt A1.out 1 rfl
    go_wp2
    refine RT.region_two (aq := ?aq2) (n := 14) (sx := 5) (sy := 6) (vx := 28) (vy := 35) (oz := Obj.cells #[.int .u64 0, .int .u64 0] 62) (ox := Obj.cells #[.int .u64 Xh, .int .u64 Xl] 62) (oy := Obj.cells #[.int .u64 Yh, .int .u64 Yl] 62) (qs := [_, _, _, _, _, _, _, _, _, _, _, _, _, _]) (by kernel_rfl) rfl (by kernel_rfl) (by kernel_rfl) rfl rfl (of_decide_eq_true (by kernel_rfl)) (of_decide_eq_true (by kernel_rfl)) rfl rfl rfl rfl (by kernel_rfl) (by kernel_rfl) (by kernel_rfl) (by kernel_rfl) ?_ ?_ ?_ ?_ ?_ ?_
    rotate_left
    · intro e w
      simp [execOp, go_sem, Try.underlying62]
    · intro e w
      simp [execOp, go_sem, Try.underlying62]
    · intro wq hEq
      have AQ := Lib.hid (show At wq [(w.heap.size, Obj.cells #[.int .i64 a1, .int .i64 a2] 23), (w.heap.size + 1, Obj.cells #[.int .i64 b1, .int .i64 b2] 23)] from At.ext hEq A1.out)
      obtain ⟨q_0_0, q_0_1, r_0_0, r_0_1⟩ := run_pair (At.at AQ.out 0 rfl)
      have sq_0 : w.heap.size < wq.heap.size := At.lt AQ.out 0 rfl
      obtain ⟨q_1_0, q_1_1, r_1_0, r_1_1⟩ := run_pair (At.at AQ.out 1 rfl)
      have sq_1 : w.heap.size + 1 < wq.heap.size := At.lt AQ.out 1 rfl
      clear hEq
      simp only [List.cons_append, List.nil_append]
      repeat (go_big_quiet_step ((first | (go_at_call 41; with_reducible exact Calls.ext_of (K3.out _)) | (go_at_call 41; with_reducible exact Calls.ext_of (K4.out _)) | (go_at_call 41; with_reducible exact Calls.ext_of (K5.out _)) | (go_at_call 41; with_reducible exact Calls.ext_of (K6.out _)) | (go_at_call 70; with_reducible exact Calls.ext_of (K7.out _)) | (go_at_call 70; with_reducible exact Calls.ext_of (K8.out _)))))
      refine wpQuiet_nil ?_
      exact rfl
    · intro e w b h1 h2 h3
      obtain ⟨c0, c1, f0, f1⟩ := run_pair h3
      have h2' : e (.tmp 28) = .agg #[.int .u64 Xh, .int .u64 Xl] := h2
      apply Exists.intro
      apply And.intro
      · simp [execOp, go_sem, h1, h2', c0, c1, f0, f1, Try.underlying62]
        exact rfl
      · exact store_pair h3
    · intro e w b h1 h2 h3
      obtain ⟨c0, c1, f0, f1⟩ := run_pair h3
      have h2' : e (.tmp 35) = .agg #[.int .u64 Yh, .int .u64 Yl] := h2
      apply Exists.intro
      apply And.intro
      · simp [execOp, go_sem, h1, h2', c0, c1, f0, f1, Try.underlying62]
        exact rfl
      · exact store_pair h3
    · intro bx2 by2 w2 hE2 hbx2 hby2 hne2 hX2 hY2
      have A2 := Lib.hid (show At w2 [(bx2, Obj.cells #[.int .u64 Xh, .int .u64 Xl] 62), (by2, Obj.cells #[.int .u64 Yh, .int .u64 Yl] 62), (w.heap.size, Obj.cells #[.int .i64 a1, .int .i64 a2] 23), (w.heap.size + 1, Obj.cells #[.int .i64 b1, .int .i64 b2] 23)] from ⟨hX2, hY2, At.ext hE2 A1.out⟩)
      have E2 := Lib.hid ((E1.out).trans hE2)
      obtain ⟨c2_0_0, c2_0_1, f2_0_0, f2_0_1⟩ := run_pair (At.at A2.out 0 rfl)
      have s2_0 : bx2 < w2.heap.size := At.lt A2.out 0 rfl
      obtain ⟨c2_1_0, c2_1_1, f2_1_0, f2_1_1⟩ := run_pair (At.at A2.out 1 rfl)
      have s2_1 : by2 < w2.heap.size := At.lt A2.out 1 rfl
      obtain ⟨c2_2_0, c2_2_1, f2_2_0, f2_2_1⟩ := run_pair (At.at A2.out 2 rfl)
      have s2_2 : w.heap.size < w2.heap.size := At.lt A2.out 2 rfl
      obtain ⟨c2_3_0, c2_3_1, f2_3_0, f2_3_1⟩ := run_pair (At.at A2.out 3 rfl)
      have s2_3 : w.heap.size + 1 < w2.heap.size := At.lt A2.out 3 rfl
      have y2bx_0 : w.heap.size < bx2 := Nat.lt_of_lt_of_le (At.lt A1.out 0 rfl) hbx2
      have y2bx_1 : w.heap.size + 1 < bx2 := Nat.lt_of_lt_of_le (At.lt A1.out 1 rfl) hbx2
      have y2bx_w : w.heap.size ≤ bx2 := by omega
      have y2by_0 : w.heap.size < by2 := Nat.lt_of_lt_of_le (At.lt A1.out 0 rfl) hby2
      have y2by_1 : w.heap.size + 1 < by2 := Nat.lt_of_lt_of_le (At.lt A1.out 1 rfl) hby2
      have y2by_w : w.heap.size ≤ by2 := by omega
      clear hbx2 hby2 hE2 hX2 hY2
      by_cases h1 : Xh = Yh
      · subst h1
        by_cases h2 : Xl = Yl
        · subst h2
          obtain rfl : R = 0 := by rw [hm', if_pos ⟨rfl, rfl⟩]
          clear hm'
          go_wp2
          go_ret
          exact ⟨rfl, E2.out⟩
        · have h3 : (Xl == Yl) = false := by simpa using h2
          have H2 := Lib.hid h2
          clear h2
          cases lt
          · obtain rfl : R = s1 := by rw [hm', if_neg (fun h => H2.out h.2)]; simp
            clear hm'
            go_wp2_with (first | (go_at_call 71; (with_reducible refine (K9.out _).mono ?_); rintro E w3 ⟨rfl, hb3⟩; have A3 := Lib.hid (show At w3 [(bx2, Obj.cells #[.int .u64 Xh, .int .u64 Xl] 62), (by2, Obj.cells #[.int .u64 Xh, .int .u64 Yl] 62), (w.heap.size, Obj.cells #[.int .i64 a1, .int .i64 a2] 23), (w.heap.size + 1, Obj.cells #[.int .i64 b1, .int .i64 b2] 23)] from At.ext hb3 A2.out); have E3 := Lib.hid ((E2.out).trans hb3); obtain ⟨c3_0_0, c3_0_1, f3_0_0, f3_0_1⟩ := run_pair (At.at A3.out 0 rfl); have s3_0 : bx2 < w3.heap.size := At.lt A3.out 0 rfl; obtain ⟨c3_1_0, c3_1_1, f3_1_0, f3_1_1⟩ := run_pair (At.at A3.out 1 rfl); have s3_1 : by2 < w3.heap.size := At.lt A3.out 1 rfl; obtain ⟨c3_2_0, c3_2_1, f3_2_0, f3_2_1⟩ := run_pair (At.at A3.out 2 rfl); have s3_2 : w.heap.size < w3.heap.size := At.lt A3.out 2 rfl; obtain ⟨c3_3_0, c3_3_1, f3_3_0, f3_3_1⟩ := run_pair (At.at A3.out 3 rfl); have s3_3 : w.heap.size + 1 < w3.heap.size := At.lt A3.out 3 rfl; (try clear c2_0_0 c2_0_1 f2_0_0 f2_0_1 c2_1_0 c2_1_1 f2_1_0 f2_1_1 c2_2_0 c2_2_1 f2_2_0 f2_2_1 c2_3_0 c2_3_1 f2_3_0 f2_3_1 s2_0 s2_1 s2_2 s2_3)) | (go_at_call 40; (with_reducible refine (K1.out _).mono ?_); rintro E w4 ⟨rfl, hb4⟩; have A4 := Lib.hid (show At w4 [(bx2, Obj.cells #[.int .u64 Xh, .int .u64 Xl] 62), (by2, Obj.cells #[.int .u64 Xh, .int .u64 Yl] 62), (w.heap.size, Obj.cells #[.int .i64 a1, .int .i64 a2] 23), (w.heap.size + 1, Obj.cells #[.int .i64 b1, .int .i64 b2] 23)] from At.ext hb4 A3.out); have E4 := Lib.hid ((E3.out).trans hb4); obtain ⟨c4_0_0, c4_0_1, f4_0_0, f4_0_1⟩ := run_pair (At.at A4.out 0 rfl); have s4_0 : bx2 < w4.heap.size := At.lt A4.out 0 rfl; obtain ⟨c4_1_0, c4_1_1, f4_1_0, f4_1_1⟩ := run_pair (At.at A4.out 1 rfl); have s4_1 : by2 < w4.heap.size := At.lt A4.out 1 rfl; obtain ⟨c4_2_0, c4_2_1, f4_2_0, f4_2_1⟩ := run_pair (At.at A4.out 2 rfl); have s4_2 : w.heap.size < w4.heap.size := At.lt A4.out 2 rfl; obtain ⟨c4_3_0, c4_3_1, f4_3_0, f4_3_1⟩ := run_pair (At.at A4.out 3 rfl); have s4_3 : w.heap.size + 1 < w4.heap.size := At.lt A4.out 3 rfl; (try clear c3_0_0 c3_0_1 f3_0_0 f3_0_1 c3_1_0 c3_1_1 f3_1_0 f3_1_1 c3_2_0 c3_2_1 f3_2_0 f3_2_1 c3_3_0 c3_3_1 f3_3_0 f3_3_1 s3_0 s3_1 s3_2 s3_3)))
            go_ret
            exact ⟨rfl, E4.out⟩
          · obtain rfl : R = -s1 := by rw [hm', if_neg (fun h => H2.out h.2)]; simp
            clear hm'
            go_wp2_with (first | (go_at_call 71; (with_reducible refine (K9.out _).mono ?_); rintro E w3 ⟨rfl, hb3⟩; have A3 := Lib.hid (show At w3 [(bx2, Obj.cells #[.int .u64 Xh, .int .u64 Xl] 62), (by2, Obj.cells #[.int .u64 Xh, .int .u64 Yl] 62), (w.heap.size, Obj.cells #[.int .i64 a1, .int .i64 a2] 23), (w.heap.size + 1, Obj.cells #[.int .i64 b1, .int .i64 b2] 23)] from At.ext hb3 A2.out); have E3 := Lib.hid ((E2.out).trans hb3); obtain ⟨c3_0_0, c3_0_1, f3_0_0, f3_0_1⟩ := run_pair (At.at A3.out 0 rfl); have s3_0 : bx2 < w3.heap.size := At.lt A3.out 0 rfl; obtain ⟨c3_1_0, c3_1_1, f3_1_0, f3_1_1⟩ := run_pair (At.at A3.out 1 rfl); have s3_1 : by2 < w3.heap.size := At.lt A3.out 1 rfl; obtain ⟨c3_2_0, c3_2_1, f3_2_0, f3_2_1⟩ := run_pair (At.at A3.out 2 rfl); have s3_2 : w.heap.size < w3.heap.size := At.lt A3.out 2 rfl; obtain ⟨c3_3_0, c3_3_1, f3_3_0, f3_3_1⟩ := run_pair (At.at A3.out 3 rfl); have s3_3 : w.heap.size + 1 < w3.heap.size := At.lt A3.out 3 rfl; (try clear c2_0_0 c2_0_1 f2_0_0 f2_0_1 c2_1_0 c2_1_1 f2_1_0 f2_1_1 c2_2_0 c2_2_1 f2_2_0 f2_2_1 c2_3_0 c2_3_1 f2_3_0 f2_3_1 s2_0 s2_1 s2_2 s2_3)) | (go_at_call 40; (with_reducible refine (K1.out _).mono ?_); rintro E w4 ⟨rfl, hb4⟩; have A4 := Lib.hid (show At w4 [(bx2, Obj.cells #[.int .u64 Xh, .int .u64 Xl] 62), (by2, Obj.cells #[.int .u64 Xh, .int .u64 Yl] 62), (w.heap.size, Obj.cells #[.int .i64 a1, .int .i64 a2] 23), (w.heap.size + 1, Obj.cells #[.int .i64 b1, .int .i64 b2] 23)] from At.ext hb4 A3.out); have E4 := Lib.hid ((E3.out).trans hb4); obtain ⟨c4_0_0, c4_0_1, f4_0_0, f4_0_1⟩ := run_pair (At.at A4.out 0 rfl); have s4_0 : bx2 < w4.heap.size := At.lt A4.out 0 rfl; obtain ⟨c4_1_0, c4_1_1, f4_1_0, f4_1_1⟩ := run_pair (At.at A4.out 1 rfl); have s4_1 : by2 < w4.heap.size := At.lt A4.out 1 rfl; obtain ⟨c4_2_0, c4_2_1, f4_2_0, f4_2_1⟩ := run_pair (At.at A4.out 2 rfl); have s4_2 : w.heap.size < w4.heap.size := At.lt A4.out 2 rfl; obtain ⟨c4_3_0, c4_3_1, f4_3_0, f4_3_1⟩ := run_pair (At.at A4.out 3 rfl); have s4_3 : w.heap.size + 1 < w4.heap.size := At.lt A4.out 3 rfl; (try clear c3_0_0 c3_0_1 f3_0_0 f3_0_1 c3_1_0 c3_1_1 f3_1_0 f3_1_1 c3_2_0 c3_2_1 f3_2_0 f3_2_1 c3_3_0 c3_3_1 f3_3_0 f3_3_1 s3_0 s3_1 s3_2 s3_3)))
            go_ret
            exact ⟨rfl, E4.out⟩
      · have h3 : (Xh == Yh) = false := by simpa using h1
        have H1 := Lib.hid h1
        clear h1
        cases lt
        · obtain rfl : R = s1 := by rw [hm', if_neg (fun h => H1.out h.1)]; simp
          clear hm'
          go_wp2_with (first | (go_at_call 71; (with_reducible refine (K9.out _).mono ?_); rintro E w3 ⟨rfl, hb3⟩; have A3 := Lib.hid (show At w3 [(bx2, Obj.cells #[.int .u64 Xh, .int .u64 Xl] 62), (by2, Obj.cells #[.int .u64 Yh, .int .u64 Yl] 62), (w.heap.size, Obj.cells #[.int .i64 a1, .int .i64 a2] 23), (w.heap.size + 1, Obj.cells #[.int .i64 b1, .int .i64 b2] 23)] from At.ext hb3 A2.out); have E3 := Lib.hid ((E2.out).trans hb3); obtain ⟨c3_0_0, c3_0_1, f3_0_0, f3_0_1⟩ := run_pair (At.at A3.out 0 rfl); have s3_0 : bx2 < w3.heap.size := At.lt A3.out 0 rfl; obtain ⟨c3_1_0, c3_1_1, f3_1_0, f3_1_1⟩ := run_pair (At.at A3.out 1 rfl); have s3_1 : by2 < w3.heap.size := At.lt A3.out 1 rfl; obtain ⟨c3_2_0, c3_2_1, f3_2_0, f3_2_1⟩ := run_pair (At.at A3.out 2 rfl); have s3_2 : w.heap.size < w3.heap.size := At.lt A3.out 2 rfl; obtain ⟨c3_3_0, c3_3_1, f3_3_0, f3_3_1⟩ := run_pair (At.at A3.out 3 rfl); have s3_3 : w.heap.size + 1 < w3.heap.size := At.lt A3.out 3 rfl; (try clear c2_0_0 c2_0_1 f2_0_0 f2_0_1 c2_1_0 c2_1_1 f2_1_0 f2_1_1 c2_2_0 c2_2_1 f2_2_0 f2_2_1 c2_3_0 c2_3_1 f2_3_0 f2_3_1 s2_0 s2_1 s2_2 s2_3)) | (go_at_call 40; (with_reducible refine (K1.out _).mono ?_); rintro E w4 ⟨rfl, hb4⟩; have A4 := Lib.hid (show At w4 [(bx2, Obj.cells #[.int .u64 Xh, .int .u64 Xl] 62), (by2, Obj.cells #[.int .u64 Yh, .int .u64 Yl] 62), (w.heap.size, Obj.cells #[.int .i64 a1, .int .i64 a2] 23), (w.heap.size + 1, Obj.cells #[.int .i64 b1, .int .i64 b2] 23)] from At.ext hb4 A3.out); have E4 := Lib.hid ((E3.out).trans hb4); obtain ⟨c4_0_0, c4_0_1, f4_0_0, f4_0_1⟩ := run_pair (At.at A4.out 0 rfl); have s4_0 : bx2 < w4.heap.size := At.lt A4.out 0 rfl; obtain ⟨c4_1_0, c4_1_1, f4_1_0, f4_1_1⟩ := run_pair (At.at A4.out 1 rfl); have s4_1 : by2 < w4.heap.size := At.lt A4.out 1 rfl; obtain ⟨c4_2_0, c4_2_1, f4_2_0, f4_2_1⟩ := run_pair (At.at A4.out 2 rfl); have s4_2 : w.heap.size < w4.heap.size := At.lt A4.out 2 rfl; obtain ⟨c4_3_0, c4_3_1, f4_3_0, f4_3_1⟩ := run_pair (At.at A4.out 3 rfl); have s4_3 : w.heap.size + 1 < w4.heap.size := At.lt A4.out 3 rfl; (try clear c3_0_0 c3_0_1 f3_0_0 f3_0_1 c3_1_0 c3_1_1 f3_1_0 f3_1_1 c3_2_0 c3_2_1 f3_2_0 f3_2_1 c3_3_0 c3_3_1 f3_3_0 f3_3_1 s3_0 s3_1 s3_2 s3_3)))
          go_ret
          exact ⟨rfl, E4.out⟩
        · obtain rfl : R = -s1 := by rw [hm', if_neg (fun h => H1.out h.1)]; simp
          clear hm'
          go_wp2_with (first | (go_at_call 71; (with_reducible refine (K9.out _).mono ?_); rintro E w3 ⟨rfl, hb3⟩; have A3 := Lib.hid (show At w3 [(bx2, Obj.cells #[.int .u64 Xh, .int .u64 Xl] 62), (by2, Obj.cells #[.int .u64 Yh, .int .u64 Yl] 62), (w.heap.size, Obj.cells #[.int .i64 a1, .int .i64 a2] 23), (w.heap.size + 1, Obj.cells #[.int .i64 b1, .int .i64 b2] 23)] from At.ext hb3 A2.out); have E3 := Lib.hid ((E2.out).trans hb3); obtain ⟨c3_0_0, c3_0_1, f3_0_0, f3_0_1⟩ := run_pair (At.at A3.out 0 rfl); have s3_0 : bx2 < w3.heap.size := At.lt A3.out 0 rfl; obtain ⟨c3_1_0, c3_1_1, f3_1_0, f3_1_1⟩ := run_pair (At.at A3.out 1 rfl); have s3_1 : by2 < w3.heap.size := At.lt A3.out 1 rfl; obtain ⟨c3_2_0, c3_2_1, f3_2_0, f3_2_1⟩ := run_pair (At.at A3.out 2 rfl); have s3_2 : w.heap.size < w3.heap.size := At.lt A3.out 2 rfl; obtain ⟨c3_3_0, c3_3_1, f3_3_0, f3_3_1⟩ := run_pair (At.at A3.out 3 rfl); have s3_3 : w.heap.size + 1 < w3.heap.size := At.lt A3.out 3 rfl; (try clear c2_0_0 c2_0_1 f2_0_0 f2_0_1 c2_1_0 c2_1_1 f2_1_0 f2_1_1 c2_2_0 c2_2_1 f2_2_0 f2_2_1 c2_3_0 c2_3_1 f2_3_0 f2_3_1 s2_0 s2_1 s2_2 s2_3)) | (go_at_call 40; (with_reducible refine (K1.out _).mono ?_); rintro E w4 ⟨rfl, hb4⟩; have A4 := Lib.hid (show At w4 [(bx2, Obj.cells #[.int .u64 Xh, .int .u64 Xl] 62), (by2, Obj.cells #[.int .u64 Yh, .int .u64 Yl] 62), (w.heap.size, Obj.cells #[.int .i64 a1, .int .i64 a2] 23), (w.heap.size + 1, Obj.cells #[.int .i64 b1, .int .i64 b2] 23)] from At.ext hb4 A3.out); have E4 := Lib.hid ((E3.out).trans hb4); obtain ⟨c4_0_0, c4_0_1, f4_0_0, f4_0_1⟩ := run_pair (At.at A4.out 0 rfl); have s4_0 : bx2 < w4.heap.size := At.lt A4.out 0 rfl; obtain ⟨c4_1_0, c4_1_1, f4_1_0, f4_1_1⟩ := run_pair (At.at A4.out 1 rfl); have s4_1 : by2 < w4.heap.size := At.lt A4.out 1 rfl; obtain ⟨c4_2_0, c4_2_1, f4_2_0, f4_2_1⟩ := run_pair (At.at A4.out 2 rfl); have s4_2 : w.heap.size < w4.heap.size := At.lt A4.out 2 rfl; obtain ⟨c4_3_0, c4_3_1, f4_3_0, f4_3_1⟩ := run_pair (At.at A4.out 3 rfl); have s4_3 : w.heap.size + 1 < w4.heap.size := At.lt A4.out 3 rfl; (try clear c3_0_0 c3_0_1 f3_0_0 f3_0_1 c3_1_0 c3_1_1 f3_1_0 f3_1_1 c3_2_0 c3_2_1 f3_2_0 f3_2_1 c3_3_0 c3_3_1 f3_3_0 f3_3_1 s3_0 s3_1 s3_2 s3_3)))
          go_ret
          exact ⟨rfl, E4.out⟩
  · have t0 : (s1 != s2) = true := by simpa using h0
    have t1 : (s1 == s2) = false := by simpa using h0
    obtain rfl : R = s3 := by rw [hm, if_pos h0]
    have H0 := Lib.hid h0
    clear h0 hm
    go_enter Try.func45, Try.ntmps45
    go_wp2
    refine wp_region_quiet_below (by kernel_rfl) (by kernel_rfl) ?_
    repeat (go_big_quiet_step ((first | (go_at_call 40; with_reducible exact Calls.ext_of (K1.out _)) | (go_at_call 40; with_reducible exact Calls.ext_of (K2.out _)))))
    refine wpQuiet_nil ?_
    intro w1 hw'
    obtain ⟨pq, hw''⟩ := hw'
    have hb1 := ext_of_regrown hw''
    clear hw'' pq
    have A1 := Lib.hid (show At w1 [(w.heap.size, Obj.cells #[.int .i64 a1, .int .i64 a2] 23), (w.heap.size + 1, Obj.cells #[.int .i64 b1, .int .i64 b2] 23)] from At.ext hb1 (show At _ [(w.heap.size, Obj.cells #[.int .i64 a1, .int .i64 a2] 23), (w.heap.size + 1, Obj.cells #[.int .i64 b1, .int .i64 b2] 23)] from ⟨(by repeat (first | (refine blk_at _ _ ?_; (first | rfl | (simp only [size_one]; done))) | refine (blk_past _ _ (by simp only [size_one]; omega)).trans ?_)), (by repeat (first | (refine blk_at _ _ ?_; (first | rfl | (simp only [size_one]; done))) | refine (blk_past _ _ (by simp only [size_one]; omega)).trans ?_)), trivial⟩))
    have E1 := Lib.hid (((show Ext w _ from (by repeat (first | exact Ext.refl _ | assumption | refine Ext.alloc ?_ _ | refine Ext.drewN ?_ _ | refine ext_grow ?_ _ _ | refine Ext.setCell ?_ (by first | exact Nat.le_refl _ | omega | (simp; done) | (simp; omega)) _ | refine Ext.trans ?_ (by assumption))))).trans hb1)
    clear hb1
    obtain ⟨c1_0_0, c1_0_1, f1_0_0, f1_0_1⟩ := run_pair (At.at A1.out 0 rfl)
    have s1_0 : w.heap.size < w1.heap.size := At.lt A1.out 0 rfl
    obtain ⟨c1_1_0, c1_1_1, f1_1_0, f1_1_1⟩ := run_pair (At.at A1.out 1 rfl)
    have s1_1 : w.heap.size + 1 < w1.heap.size := At.lt A1.out 1 rfl
    go_wp2
    refine wp_region_quiet_below (by kernel_rfl) (by kernel_rfl) ?_
    repeat (go_big_quiet_step ((first | (go_at_call 40; with_reducible exact Calls.ext_of (K1.out _)) | (go_at_call 40; with_reducible exact Calls.ext_of (K2.out _)) | (go_at_call 40; with_reducible exact Calls.ext_of (K0.out _)))))
    refine wpQuiet_nil ?_
    intro w2 hw'
    obtain ⟨pq, hw''⟩ := hw'
    have hb2 := ext_of_regrown hw''
    clear hw'' pq
    have A2 := Lib.hid (show At w2 [(w.heap.size, Obj.cells #[.int .i64 a1, .int .i64 a2] 23), (w.heap.size + 1, Obj.cells #[.int .i64 b1, .int .i64 b2] 23)] from At.ext hb2 A1.out)
    have E2 := Lib.hid ((E1.out).trans hb2)
    clear hb2
    obtain ⟨c2_0_0, c2_0_1, f2_0_0, f2_0_1⟩ := run_pair (At.at A2.out 0 rfl)
    have s2_0 : w.heap.size < w2.heap.size := At.lt A2.out 0 rfl
    obtain ⟨c2_1_0, c2_1_1, f2_1_0, f2_1_1⟩ := run_pair (At.at A2.out 1 rfl)
    have s2_1 : w.heap.size + 1 < w2.heap.size := At.lt A2.out 1 rfl
    (try clear c1_0_0 c1_0_1 f1_0_0 f1_0_1 c1_1_0 c1_1_1 f1_1_0 f1_1_1 s1_0 s1_1)
    go_wp2
    go_ret
    exact ⟨rfl, E2.out⟩
end Go.Proofs.Ytodoimeiklilhaa
