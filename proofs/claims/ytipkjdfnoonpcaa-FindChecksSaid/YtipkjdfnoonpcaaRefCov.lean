/- The reference's covers: the walk. -/
import Derived.Test.YtipkjdfnoonpcaaSameS
set_option linter.unusedVariables false
set_option linter.unusedSimpArgs false
namespace Go.Proofs.Ytipkjdfnoonpcaa
open Go.RowKit Go.Sort

set_option maxRecDepth 100000 in
set_option maxHeartbeats 8000000 in
theorem c101 (ms : List Match) (ar : List Area) (mv av : Value) (p : Pose) (w : World) (h1 : MatchesAt w mv ms) (h2 : AreasAt w av ar) (n1 : ms.length ≤ 13000) (n2 : ar.length ≤ 13000) :
    Calls Try.prog 101 #[searchVal mv av, poseVal p] w fun e w' => e = .returned (.bool (decide (hits ms p + hasN ar p = 1))) ∧ Ext w w' := by
  obtain ⟨m1, mc1, rfl, b1, hc1⟩ := h1.form
  obtain ⟨a1, ac1, rfl, b2, hc2⟩ := h2.form
  have H1 := Lib.hid hc1
  have H2 := Lib.hid hc2
  unfold searchVal poseVal
  clear h1 h2 hc1 hc2
  go_enter Try.func101, Try.ntmps101
  go_wp2
  go_loopw [5, 6] (fun nv iv wr => Ext w wr ∧ Hid (At wr [(w.heap.size + 1, Obj.cells #[.int .i64 p.x, .int .i64 p.y, .int .i64 p.turn, .int .i64 p.scale] 45), (w.heap.size, Obj.cells #[.slice m1 ms.length mc1, .slice a1 ar.length ac1] 63)]) ∧ ∃ (i n : Nat), i ≤ ms.length ∧ iv = .int .i64 (i : Int) ∧ nv = .int .i64 (n : Int) ∧ n ≤ i ∧ Hid (hits (ms.take i) p = n)) (fun _ iv _ => ms.length - (intOf iv).toNat)
  case atStart => exact ⟨(by repeat (first | exact Ext.refl _ | assumption | refine Ext.alloc ?_ _ | refine Ext.drewN ?_ _ | refine ext_grow ?_ _ _ | refine Ext.trans ?_ (by assumption))), Lib.hid ⟨(by repeat (first | (refine blk_at _ _ ?_; (first | rfl | (simp only [size_one]; done))) | refine (blk_past _ _ (by simp only [size_one]; omega)).trans ?_)), (by repeat (first | (refine blk_at _ _ ?_; (first | rfl | (simp only [size_one]; done))) | refine (blk_past _ _ (by simp only [size_one]; omega)).trans ?_)), trivial⟩, 0, 0, Nat.zero_le _, rfl, rfl, Nat.le_refl _, Lib.hid rfl⟩
  case round =>
    obtain ⟨hE, hA, i, n, hi, rfl, rfl, hn, hN⟩ := hrel
    obtain ⟨⟨z00, z01, z02, z03⟩, -⟩ := run_4 (At.at hA.out 0 rfl)
    obtain ⟨⟨z10, z11⟩, -⟩ := run_2 (At.at hA.out 1 rfl)
    have zz0 := At.lt hA.out 0 rfl
    have zy0 := Nat.lt_succ_of_lt zz0
    have zx0 := Nat.lt_succ_of_lt zy0
    have zz1 := At.lt hA.out 1 rfl
    have zy1 := Nat.lt_succ_of_lt zz1
    have zx1 := Nat.lt_succ_of_lt zy1
    by_cases hil : i < ms.length
    · obtain ⟨b, off, rfl, x0, x1, x2, x3, x4⟩ := H1.out i hil
      obtain ⟨x, hx⟩ : ∃ x, ms.getD i match0 = x := ⟨_, rfl⟩
      rw [hx] at x0 x1 x2 x3 x4
      have HX := Lib.hid hx
      clear hx
      replace x0 := hE.get x0
      replace x1 := hE.get x1
      replace x2 := hE.get x2
      replace x3 := hE.get x3
      replace x4 := hE.get x4
      have zx := World.block_lt_of_cell? _ _ x0
      simp only at zx
      have hili : (i : Int) < (ms.length : Int) := by omega
      by_cases g0 : x.pose.x = p.x
      case neg =>
        have e0 : (x.pose.x == p.x) = false := by simpa using g0
        have hne : ¬ x.pose = p := fun h => g0 (by rw [h])
        have HS := Lib.hid (show hits (ms.take (i + 1)) p = n by rw [take_snoc_at match0 hil, HX.out]; unfold hits; rw [countP_snoc, if_neg (by simpa using hne)]; exact hN.out)
        go_wp2
        refine wp_region_quiet_below (by kernel_rfl) (by kernel_rfl) ?_
        repeat (go_big_quiet_step (fail))
        refine wpQuiet_nil ?_
        intro w6 hw'
        obtain ⟨pq, hw''⟩ := hw'
        have hbw6 := ext_of_regrown hw''
        clear hw'' pq
        have A6 := Lib.hid (show At w6 [(w.heap.size + 1, Obj.cells #[.int .i64 p.x, .int .i64 p.y, .int .i64 p.turn, .int .i64 p.scale] 45), (w.heap.size, Obj.cells #[.slice (some ⟨b, off, none⟩) ms.length mc1, .slice a1 ar.length ac1] 63)] from At.ext hbw6 hA.out)
        obtain ⟨⟨y00, y01, y02, y03⟩, -⟩ := run_4 (At.at A6.out 0 rfl)
        obtain ⟨⟨u10, u11⟩, -⟩ := run_2 (At.at A6.out 1 rfl)
        have yz0 := At.lt A6.out 0 rfl
        have yy0 := Nat.lt_succ_of_lt yz0
        have yx0 := Nat.lt_succ_of_lt yy0
        have yz1 := At.lt A6.out 1 rfl
        have yy1 := Nat.lt_succ_of_lt yz1
        have yx1 := Nat.lt_succ_of_lt yy1
        go_wp2
        go_roundw
        case rel => exact ⟨hE.trans hbw6, A6, i + 1, n, by omega, by go_num, by go_num, by omega, HS⟩
        case measure => simp [intOf]; omega
      have e0 : (x.pose.x == p.x) = true := by simpa using g0
      by_cases g1 : x.pose.y = p.y
      case neg =>
        have e1 : (x.pose.y == p.y) = false := by simpa using g1
        have hne : ¬ x.pose = p := fun h => g1 (by rw [h])
        have HS := Lib.hid (show hits (ms.take (i + 1)) p = n by rw [take_snoc_at match0 hil, HX.out]; unfold hits; rw [countP_snoc, if_neg (by simpa using hne)]; exact hN.out)
        go_wp2
        refine wp_region_quiet_below (by kernel_rfl) (by kernel_rfl) ?_
        repeat (go_big_quiet_step (fail))
        refine wpQuiet_nil ?_
        intro w6 hw'
        obtain ⟨pq, hw''⟩ := hw'
        have hbw6 := ext_of_regrown hw''
        clear hw'' pq
        have A6 := Lib.hid (show At w6 [(w.heap.size + 1, Obj.cells #[.int .i64 p.x, .int .i64 p.y, .int .i64 p.turn, .int .i64 p.scale] 45), (w.heap.size, Obj.cells #[.slice (some ⟨b, off, none⟩) ms.length mc1, .slice a1 ar.length ac1] 63)] from At.ext hbw6 hA.out)
        obtain ⟨⟨y00, y01, y02, y03⟩, -⟩ := run_4 (At.at A6.out 0 rfl)
        obtain ⟨⟨u10, u11⟩, -⟩ := run_2 (At.at A6.out 1 rfl)
        have yz0 := At.lt A6.out 0 rfl
        have yy0 := Nat.lt_succ_of_lt yz0
        have yx0 := Nat.lt_succ_of_lt yy0
        have yz1 := At.lt A6.out 1 rfl
        have yy1 := Nat.lt_succ_of_lt yz1
        have yx1 := Nat.lt_succ_of_lt yy1
        go_wp2
        go_roundw
        case rel => exact ⟨hE.trans hbw6, A6, i + 1, n, by omega, by go_num, by go_num, by omega, HS⟩
        case measure => simp [intOf]; omega
      have e1 : (x.pose.y == p.y) = true := by simpa using g1
      by_cases g2 : x.pose.turn = p.turn
      case neg =>
        have e2 : (x.pose.turn == p.turn) = false := by simpa using g2
        have hne : ¬ x.pose = p := fun h => g2 (by rw [h])
        have HS := Lib.hid (show hits (ms.take (i + 1)) p = n by rw [take_snoc_at match0 hil, HX.out]; unfold hits; rw [countP_snoc, if_neg (by simpa using hne)]; exact hN.out)
        go_wp2
        refine wp_region_quiet_below (by kernel_rfl) (by kernel_rfl) ?_
        repeat (go_big_quiet_step (fail))
        refine wpQuiet_nil ?_
        intro w6 hw'
        obtain ⟨pq, hw''⟩ := hw'
        have hbw6 := ext_of_regrown hw''
        clear hw'' pq
        have A6 := Lib.hid (show At w6 [(w.heap.size + 1, Obj.cells #[.int .i64 p.x, .int .i64 p.y, .int .i64 p.turn, .int .i64 p.scale] 45), (w.heap.size, Obj.cells #[.slice (some ⟨b, off, none⟩) ms.length mc1, .slice a1 ar.length ac1] 63)] from At.ext hbw6 hA.out)
        obtain ⟨⟨y00, y01, y02, y03⟩, -⟩ := run_4 (At.at A6.out 0 rfl)
        obtain ⟨⟨u10, u11⟩, -⟩ := run_2 (At.at A6.out 1 rfl)
        have yz0 := At.lt A6.out 0 rfl
        have yy0 := Nat.lt_succ_of_lt yz0
        have yx0 := Nat.lt_succ_of_lt yy0
        have yz1 := At.lt A6.out 1 rfl
        have yy1 := Nat.lt_succ_of_lt yz1
        have yx1 := Nat.lt_succ_of_lt yy1
        go_wp2
        go_roundw
        case rel => exact ⟨hE.trans hbw6, A6, i + 1, n, by omega, by go_num, by go_num, by omega, HS⟩
        case measure => simp [intOf]; omega
      have e2 : (x.pose.turn == p.turn) = true := by simpa using g2
      by_cases g3 : x.pose.scale = p.scale
      case neg =>
        have e3 : (x.pose.scale == p.scale) = false := by simpa using g3
        have hne : ¬ x.pose = p := fun h => g3 (by rw [h])
        have HS := Lib.hid (show hits (ms.take (i + 1)) p = n by rw [take_snoc_at match0 hil, HX.out]; unfold hits; rw [countP_snoc, if_neg (by simpa using hne)]; exact hN.out)
        go_wp2
        refine wp_region_quiet_below (by kernel_rfl) (by kernel_rfl) ?_
        repeat (go_big_quiet_step (fail))
        refine wpQuiet_nil ?_
        intro w6 hw'
        obtain ⟨pq, hw''⟩ := hw'
        have hbw6 := ext_of_regrown hw''
        clear hw'' pq
        have A6 := Lib.hid (show At w6 [(w.heap.size + 1, Obj.cells #[.int .i64 p.x, .int .i64 p.y, .int .i64 p.turn, .int .i64 p.scale] 45), (w.heap.size, Obj.cells #[.slice (some ⟨b, off, none⟩) ms.length mc1, .slice a1 ar.length ac1] 63)] from At.ext hbw6 hA.out)
        obtain ⟨⟨y00, y01, y02, y03⟩, -⟩ := run_4 (At.at A6.out 0 rfl)
        obtain ⟨⟨u10, u11⟩, -⟩ := run_2 (At.at A6.out 1 rfl)
        have yz0 := At.lt A6.out 0 rfl
        have yy0 := Nat.lt_succ_of_lt yz0
        have yx0 := Nat.lt_succ_of_lt yy0
        have yz1 := At.lt A6.out 1 rfl
        have yy1 := Nat.lt_succ_of_lt yz1
        have yx1 := Nat.lt_succ_of_lt yy1
        go_wp2
        go_roundw
        case rel => exact ⟨hE.trans hbw6, A6, i + 1, n, by omega, by go_num, by go_num, by omega, HS⟩
        case measure => simp [intOf]; omega
      have e3 : (x.pose.scale == p.scale) = true := by simpa using g3
      have heq : x.pose = p := by
        obtain ⟨⟨x0, x1, x2, x3⟩, x4⟩ := x
        obtain ⟨p0, p1, p2, p3⟩ := p
        simp only [Pose.mk.injEq] at *
        exact ⟨g0, g1, g2, g3⟩
      have HS := Lib.hid (show hits (ms.take (i + 1)) p = n + 1 by rw [take_snoc_at match0 hil, HX.out]; unfold hits; rw [countP_snoc, if_pos (by simpa using heq)]; exact congrArg (· + 1) hN.out)
      go_wp2
      refine wp_region_quiet_below (by kernel_rfl) (by kernel_rfl) ?_
      repeat (go_big_quiet_step (fail))
      refine wpQuiet_nil ?_
      intro w6 hw'
      obtain ⟨pq, hw''⟩ := hw'
      have hbw6 := ext_of_regrown hw''
      clear hw'' pq
      have A6 := Lib.hid (show At w6 [(w.heap.size + 1, Obj.cells #[.int .i64 p.x, .int .i64 p.y, .int .i64 p.turn, .int .i64 p.scale] 45), (w.heap.size, Obj.cells #[.slice (some ⟨b, off, none⟩) ms.length mc1, .slice a1 ar.length ac1] 63)] from At.ext hbw6 hA.out)
      obtain ⟨⟨y00, y01, y02, y03⟩, -⟩ := run_4 (At.at A6.out 0 rfl)
      obtain ⟨⟨u10, u11⟩, -⟩ := run_2 (At.at A6.out 1 rfl)
      have yz0 := At.lt A6.out 0 rfl
      have yy0 := Nat.lt_succ_of_lt yz0
      have yx0 := Nat.lt_succ_of_lt yy0
      have yz1 := At.lt A6.out 1 rfl
      have yy1 := Nat.lt_succ_of_lt yz1
      have yx1 := Nat.lt_succ_of_lt yy1
      go_wp2
      go_roundw
      case rel => exact ⟨hE.trans hbw6, A6, i + 1, n + 1, by omega, by go_num, by go_num, by omega, HS⟩
      case measure => simp [intOf]; omega
    · have hii : i = ms.length := by omega
      subst hii
      have HN1 := Lib.hid (show hits ms p = n by have h9 := hN.out; rw [List.take_length] at h9; exact h9)
      obtain ⟨n0, hn0⟩ : ∃ n0 : Nat, n0 = n := ⟨_, rfl⟩
      subst hn0
      go_wp2
      obtain ⟨wp, hwp⟩ : ∃ wp : World, wp = wr := ⟨_, rfl⟩
      subst hwp
      clear z00 z01 z02 z03 z10 z11 zz0 zy0 zx0 zz1 zy1 zx1
      go_loopw [5, 7] (fun nv iv wr => Ext w wr ∧ Hid (At wr [(w.heap.size + 1, Obj.cells #[.int .i64 p.x, .int .i64 p.y, .int .i64 p.turn, .int .i64 p.scale] 45), (w.heap.size, Obj.cells #[.slice m1 ms.length mc1, .slice a1 ar.length ac1] 63)]) ∧ ∃ (i n : Nat), i ≤ ar.length ∧ iv = .int .i64 (i : Int) ∧ nv = .int .i64 (n : Int) ∧ n ≤ ms.length + i ∧ Hid (hits ms p + hasN (ar.take i) p = n)) (fun _ iv _ => ar.length - (intOf iv).toNat)
      case atStart => exact ⟨hE, hA, 0, n0, Nat.zero_le _, rfl, rfl, by omega, Lib.hid (by rw [HN1.out]; rfl)⟩
      case round =>
        clear hE hA hN hn
        obtain ⟨hE, hA, i, n, hi, rfl, rfl, hn, hN⟩ := hrel
        obtain ⟨⟨z00, z01, z02, z03⟩, -⟩ := run_4 (At.at hA.out 0 rfl)
        obtain ⟨⟨z10, z11⟩, -⟩ := run_2 (At.at hA.out 1 rfl)
        have zz0 := At.lt hA.out 0 rfl
        have zy0 := Nat.lt_succ_of_lt zz0
        have zx0 := Nat.lt_succ_of_lt zy0
        have zz1 := At.lt hA.out 1 rfl
        have zy1 := Nat.lt_succ_of_lt zz1
        have zx1 := Nat.lt_succ_of_lt zy1
        by_cases hil : i < ar.length
        · obtain ⟨b, off, rfl, x0, x1, x2, x3, x4, x5⟩ := H2.out i hil
          obtain ⟨x, hx⟩ : ∃ x, ar.getD i area0 = x := ⟨_, rfl⟩
          rw [hx] at x0 x1 x2 x3 x4 x5
          have HX := Lib.hid hx
          clear hx
          replace x0 := hE.get x0
          replace x1 := hE.get x1
          replace x2 := hE.get x2
          replace x3 := hE.get x3
          replace x4 := hE.get x4
          replace x5 := hE.get x5
          have zx := World.block_lt_of_cell? _ _ x0
          simp only at zx
          have hili : (i : Int) < (ar.length : Int) := by omega
          have K113 := Lib.hid (fun w' => c113 x p w')
          unfold areaVal poseVal at K113
          by_cases hh : x.Has p
          case neg =>
            have q1 : decide (x.Has p) = false := decide_eq_false hh
            rw [q1] at K113
            have HS := Lib.hid (show hits ms p + hasN (ar.take (i + 1)) p = n by rw [take_snoc_at area0 hil, HX.out]; unfold hasN; rw [countP_snoc, if_neg (by simpa using hh)]; exact hN.out)
            go_wp2
            refine wp_region_quiet_below (by kernel_rfl) (by kernel_rfl) ?_
            repeat (go_big_quiet_step ((go_at_call 113; with_reducible exact Calls.ext_of (K113.out _))))
            refine wpQuiet_nil ?_
            intro w6 hw'
            obtain ⟨pq, hw''⟩ := hw'
            have hbw6 := ext_of_regrown hw''
            clear hw'' pq
            have A6 := Lib.hid (show At w6 [(w.heap.size + 1, Obj.cells #[.int .i64 p.x, .int .i64 p.y, .int .i64 p.turn, .int .i64 p.scale] 45), (w.heap.size, Obj.cells #[.slice m1 ms.length mc1, .slice (some ⟨b, off, none⟩) ar.length ac1] 63)] from At.ext hbw6 hA.out)
            obtain ⟨⟨y00, y01, y02, y03⟩, -⟩ := run_4 (At.at A6.out 0 rfl)
            obtain ⟨⟨u10, u11⟩, -⟩ := run_2 (At.at A6.out 1 rfl)
            have yz0 := At.lt A6.out 0 rfl
            have yy0 := Nat.lt_succ_of_lt yz0
            have yx0 := Nat.lt_succ_of_lt yy0
            have yz1 := At.lt A6.out 1 rfl
            have yy1 := Nat.lt_succ_of_lt yz1
            have yx1 := Nat.lt_succ_of_lt yy1
            go_wp2
            go_roundw
            case rel => exact ⟨hE.trans hbw6, A6, i + 1, n, by omega, by go_num, by go_num, by omega, HS⟩
            case measure => simp [intOf]; omega
          have q1 : decide (x.Has p) = true := decide_eq_true hh
          rw [q1] at K113
          have HS := Lib.hid (show hits ms p + hasN (ar.take (i + 1)) p = n + 1 by rw [take_snoc_at area0 hil, HX.out]; unfold hasN; rw [countP_snoc, if_pos (by simpa using hh)]; exact congrArg (· + 1) hN.out)
          go_wp2
          refine wp_region_quiet_below (by kernel_rfl) (by kernel_rfl) ?_
          repeat (go_big_quiet_step ((go_at_call 113; with_reducible exact Calls.ext_of (K113.out _))))
          refine wpQuiet_nil ?_
          intro w6 hw'
          obtain ⟨pq, hw''⟩ := hw'
          have hbw6 := ext_of_regrown hw''
          clear hw'' pq
          have A6 := Lib.hid (show At w6 [(w.heap.size + 1, Obj.cells #[.int .i64 p.x, .int .i64 p.y, .int .i64 p.turn, .int .i64 p.scale] 45), (w.heap.size, Obj.cells #[.slice m1 ms.length mc1, .slice (some ⟨b, off, none⟩) ar.length ac1] 63)] from At.ext hbw6 hA.out)
          obtain ⟨⟨y00, y01, y02, y03⟩, -⟩ := run_4 (At.at A6.out 0 rfl)
          obtain ⟨⟨u10, u11⟩, -⟩ := run_2 (At.at A6.out 1 rfl)
          have yz0 := At.lt A6.out 0 rfl
          have yy0 := Nat.lt_succ_of_lt yz0
          have yx0 := Nat.lt_succ_of_lt yy0
          have yz1 := At.lt A6.out 1 rfl
          have yy1 := Nat.lt_succ_of_lt yz1
          have yx1 := Nat.lt_succ_of_lt yy1
          go_wp2
          go_roundw
          case rel => exact ⟨hE.trans hbw6, A6, i + 1, n + 1, by omega, by go_num, by go_num, by omega, HS⟩
          case measure => simp [intOf]; omega
        · have HF := Lib.hid (show decide ((n : Int) = 1) = decide (hits ms p + hasN ar p = 1) by
            have h9 := hN.out
            rw [List.take_of_length_le (by omega)] at h9
            exact decide_eq_decide.2 (by omega))
          obtain ⟨c, hc⟩ : ∃ c, ((n : Int) == 1) = c := ⟨_, rfl⟩
          have HC := Lib.hid (show c = decide ((n : Int) = 1) by rw [← hc]; rfl)
          go_wp2
          go_ret
          exact ⟨ret_bool (HC.out.trans HF.out), hE⟩
end Go.Proofs.Ytipkjdfnoonpcaa
