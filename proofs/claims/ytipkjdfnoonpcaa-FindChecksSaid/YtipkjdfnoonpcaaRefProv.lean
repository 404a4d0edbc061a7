/- The reference's proved searches: the walk. -/
import Derived.Test.YtipkjdfnoonpcaaRefCov
set_option linter.unusedVariables false
set_option linter.unusedSimpArgs false
namespace Go.Proofs.Ytipkjdfnoonpcaa
open Go.RowKit Go.Sort

set_option maxRecDepth 100000 in
set_option maxHeartbeats 16000000 in
theorem c74 (m : Img) (v : Value) (t : Tpl) (tv : Value) (limit : Int) (ms : List Match) (ar : List Area) (mv av : Value) (w : World) (hm : m.Camera) (ht : t.Ok) (hv : IntsAt w v m.pix) (htv : IntsAt w tv t.pix) (h1 : MatchesAt w mv ms) (h2 : AreasAt w av ar) (n1 : ms.length ≤ 13000) (n2 : ar.length ≤ 13000) :
    Calls Try.prog 74 #[imgVal m v, tplVal t tv, .int .i64 limit, searchVal mv av] w fun e w' => ∃ c, e = .returned (.bool c) ∧ (c = true ↔ Proved m t limit ms ar) ∧ Ext w w' := by
  have HV := Lib.hid hv
  have HTV := Lib.hid htv
  have HM := Lib.hid hm
  have HT := Lib.hid ht
  have HMS := Lib.hid h1
  have HAR := Lib.hid h2
  obtain ⟨mo, mc, rfl, -, -⟩ := hv.form
  obtain ⟨to, tc, rfl, -, -⟩ := htv.form
  obtain ⟨m1, mc1, rfl, -, hc1⟩ := h1.form
  obtain ⟨a1, ac1, rfl, -, hc2⟩ := h2.form
  have H1 := Lib.hid hc1
  have H2 := Lib.hid hc2
  obtain ⟨l1, l2⟩ := Img.len_bd hm.1
  obtain ⟨⟨w1, w2⟩, ⟨w3, w4⟩, -⟩ := hm.1
  unfold imgVal tplVal searchVal
  clear hv htv hm ht hc1 hc2 h1 h2
  go_enter Try.func74, Try.ntmps74
  go_wp2
  go_loopw [9] (fun v wr => Ext w wr ∧ Hid (At wr [(w.heap.size + 1 + 1, Obj.cells #[.slice m1 ms.length mc1, .slice a1 ar.length ac1] 63), (w.heap.size + 1, Obj.cells #[.int .i64 t.w, .int .i64 t.h, .slice to t.pix.length tc] 43), (w.heap.size, Obj.cells #[.int .i64 m.w, .int .i64 m.h, .slice mo m.pix.length mc] 24)]) ∧ ∃ i : Nat, i ≤ ms.length ∧ v = .int .i64 (i : Int) ∧ Hid (∀ x ∈ ms.take i, MatchOk m t limit x)) (fun v _ => ms.length - (intOf v).toNat)
  case atStart => exact ⟨(by repeat (first | exact Ext.refl _ | assumption | refine Ext.alloc ?_ _ | refine Ext.drewN ?_ _ | refine ext_grow ?_ _ _ | refine Ext.trans ?_ (by assumption))), Lib.hid ⟨(by repeat (first | (refine blk_at _ _ ?_; (first | rfl | (simp only [size_one]; done))) | refine (blk_past _ _ (by simp only [size_one]; omega)).trans ?_)), (by repeat (first | (refine blk_at _ _ ?_; (first | rfl | (simp only [size_one]; done))) | refine (blk_past _ _ (by simp only [size_one]; omega)).trans ?_)), (by repeat (first | (refine blk_at _ _ ?_; (first | rfl | (simp only [size_one]; done))) | refine (blk_past _ _ (by simp only [size_one]; omega)).trans ?_)), trivial⟩, 0, Nat.zero_le _, rfl, Lib.hid (fun x hx => by simp at hx)⟩
  case round =>
    obtain ⟨hE, hA, i, hi, rfl, hI⟩ := hrel
    obtain ⟨⟨z00, z01⟩, -⟩ := run_2 (At.at hA.out 0 rfl)
    obtain ⟨⟨z10, z11, z12⟩, -⟩ := run_3 (At.at hA.out 1 rfl)
    obtain ⟨⟨z20, z21, z22⟩, -⟩ := run_3 (At.at hA.out 2 rfl)
    have zz0 := At.lt hA.out 0 rfl
    have zy0 := Nat.lt_succ_of_lt zz0
    have zx0 := Nat.lt_succ_of_lt zy0
    have zz1 := At.lt hA.out 1 rfl
    have zy1 := Nat.lt_succ_of_lt zz1
    have zx1 := Nat.lt_succ_of_lt zy1
    have zz2 := At.lt hA.out 2 rfl
    have zy2 := Nat.lt_succ_of_lt zz2
    have zx2 := Nat.lt_succ_of_lt zy2
    by_cases hil : i < ms.length
    · obtain ⟨b, off, rfl, x0, x1, x2, x3, x4⟩ := H1.out i hil
      have HMEM := Lib.hid (getD_mem_at match0 hil)
      obtain ⟨x, hx⟩ : ∃ x, ms.getD i match0 = x := ⟨_, rfl⟩
      rw [hx] at x0 x1 x2 x3 x4 HMEM
      have HX := Lib.hid hx
      clear hx
      replace x0 := hE.get x0
      replace x1 := hE.get x1
      replace x2 := hE.get x2
      replace x3 := hE.get x3
      replace x4 := hE.get x4
      have zx := World.block_lt_of_cell? _ _ x0
      simp only at zx
      have hili : (i : Int) < (ms.length : Int) := by omega
      have K65 := Lib.hid (fun w' => c65 m (.slice mo m.pix.length mc) x.pose w' HM.out.1 ⟨_, _, _, rfl⟩)
      unfold imgVal poseVal at K65
      by_cases g0 : x.pose.area.Ok m
      case neg =>
        have q0 : decide (x.pose.area.Ok m) = false := decide_eq_false g0
        rw [q0] at K65
        have K66 := K65
        have HR := Lib.hid (show ¬ Proved m t limit ms ar from fun h => by have h9 := h.1 _ HMEM.out; exact g0 h9.1)
        go_wp2
        refine wp_region_quiet_below (by kernel_rfl) (by kernel_rfl) ?_
        repeat (go_big_quiet_step ((first | (go_at_call 66; with_reducible exact Calls.ext_of (K66.out _ (by repeat (first | exact Ext.refl _ | assumption | refine Ext.alloc ?_ _ | refine Ext.drewN ?_ _ | refine ext_grow ?_ _ _ | refine Ext.trans ?_ (by assumption))))) | (go_at_call 65; with_reducible exact Calls.ext_of (K65.out _)))))
        refine wpQuiet_nil ?_
        intro w6 hw'
        obtain ⟨pq, hw''⟩ := hw'
        have hbw6 := ext_of_regrown hw''
        clear hw'' pq
        go_wp2
        go_ret
        exact ⟨false, rfl, ⟨fun h => (by cases h), fun h => absurd h HR.out⟩, (hE.alloc _).trans hbw6⟩
      have q0 : decide (x.pose.area.Ok m) = true := decide_eq_true g0
      rw [q0] at K65
      have K66 := Lib.hid (fun w' (h : Ext w w') => c66 m _ t _ x.pose w' HM.out HT.out (HV.out.ext h) (HTV.out.ext h) g0)
      obtain ⟨bd, hbd⟩ : ∃ bd, bound m t x.pose.area = bd := ⟨_, rfl⟩
      rw [hbd] at K66
      unfold imgVal tplVal poseVal at K66
      have HB := Lib.hid hbd
      clear hbd q0
      by_cases g1 : limit < x.dist
      · have q1 : decide (limit < x.dist) = true := decide_eq_true g1
        have HR := Lib.hid (show ¬ Proved m t limit ms ar from fun h => by have h9 := h.1 _ HMEM.out; exact absurd h9.2.1 (by omega))
        go_wp2
        refine wp_region_quiet_below (by kernel_rfl) (by kernel_rfl) ?_
        repeat (go_big_quiet_step ((first | (go_at_call 66; with_reducible exact Calls.ext_of (K66.out _ (by repeat (first | exact Ext.refl _ | assumption | refine Ext.alloc ?_ _ | refine Ext.drewN ?_ _ | refine ext_grow ?_ _ _ | refine Ext.trans ?_ (by assumption))))) | (go_at_call 65; with_reducible exact Calls.ext_of (K65.out _)))))
        refine wpQuiet_nil ?_
        intro w6 hw'
        obtain ⟨pq, hw''⟩ := hw'
        have hbw6 := ext_of_regrown hw''
        clear hw'' pq
        go_wp2
        go_ret
        exact ⟨false, rfl, ⟨fun h => (by cases h), fun h => absurd h HR.out⟩, (hE.alloc _).trans hbw6⟩
      have q1 : decide (limit < x.dist) = false := decide_eq_false g1
      by_cases g2 : bd = x.dist
      case neg =>
        have q2 : (bd != x.dist) = true := by simpa using g2
        have HR := Lib.hid (show ¬ Proved m t limit ms ar from fun h => by have h9 := h.1 _ HMEM.out; exact g2 (HB.out.symm.trans h9.2.2))
        go_wp2
        refine wp_region_quiet_below (by kernel_rfl) (by kernel_rfl) ?_
        repeat (go_big_quiet_step ((first | (go_at_call 66; with_reducible exact Calls.ext_of (K66.out _ (by repeat (first | exact Ext.refl _ | assumption | refine Ext.alloc ?_ _ | refine Ext.drewN ?_ _ | refine ext_grow ?_ _ _ | refine Ext.trans ?_ (by assumption))))) | (go_at_call 65; with_reducible exact Calls.ext_of (K65.out _)))))
        refine wpQuiet_nil ?_
        intro w6 hw'
        obtain ⟨pq, hw''⟩ := hw'
        have hbw6 := ext_of_regrown hw''
        clear hw'' pq
        go_wp2
        go_ret
        exact ⟨false, rfl, ⟨fun h => (by cases h), fun h => absurd h HR.out⟩, (hE.alloc _).trans hbw6⟩
      have q2 : (bd != x.dist) = false := by simpa using g2
      have HS := Lib.hid (show ∀ y ∈ ms.take (i + 1), MatchOk m t limit y by
        rw [take_snoc_at match0 hil, HX.out]
        intro y hy
        rcases List.mem_append.1 hy with hy | hy
        · exact hI.out y hy
        · rw [List.mem_singleton.1 hy]
          exact ⟨g0, by omega, HB.out.trans g2⟩)
      go_wp2
      refine wp_region_quiet_below (by kernel_rfl) (by kernel_rfl) ?_
      repeat (go_big_quiet_step ((first | (go_at_call 66; with_reducible exact Calls.ext_of (K66.out _ (by repeat (first | exact Ext.refl _ | assumption | refine Ext.alloc ?_ _ | refine Ext.drewN ?_ _ | refine ext_grow ?_ _ _ | refine Ext.trans ?_ (by assumption))))) | (go_at_call 65; with_reducible exact Calls.ext_of (K65.out _)))))
      refine wpQuiet_nil ?_
      intro w6 hw'
      obtain ⟨pq, hw''⟩ := hw'
      have hbw6 := ext_of_regrown hw''
      clear hw'' pq
      have A6 := Lib.hid (show At w6 [(w.heap.size + 1 + 1, Obj.cells #[.slice (some ⟨b, off, none⟩) ms.length mc1, .slice a1 ar.length ac1] 63), (w.heap.size + 1, Obj.cells #[.int .i64 t.w, .int .i64 t.h, .slice to t.pix.length tc] 43), (w.heap.size, Obj.cells #[.int .i64 m.w, .int .i64 m.h, .slice mo m.pix.length mc] 24)] from At.ext ((Ext.alloc (Ext.refl _) _).trans hbw6) hA.out)
      have E6 := Lib.hid ((hE.alloc _).trans hbw6)
      obtain ⟨⟨u00, u01⟩, -⟩ := run_2 (At.at A6.out 0 rfl)
      obtain ⟨⟨u10, u11, u12⟩, -⟩ := run_3 (At.at A6.out 1 rfl)
      obtain ⟨⟨u20, u21, u22⟩, -⟩ := run_3 (At.at A6.out 2 rfl)
      have yz0 := At.lt A6.out 0 rfl
      have yy0 := Nat.lt_succ_of_lt yz0
      have yx0 := Nat.lt_succ_of_lt yy0
      have yz1 := At.lt A6.out 1 rfl
      have yy1 := Nat.lt_succ_of_lt yz1
      have yx1 := Nat.lt_succ_of_lt yy1
      have yz2 := At.lt A6.out 2 rfl
      have yy2 := Nat.lt_succ_of_lt yz2
      have yx2 := Nat.lt_succ_of_lt yy2
      go_wp2
      go_roundw
      case rel => exact ⟨E6.out, A6, i + 1, by omega, by go_num, HS⟩
      case measure => simp [intOf]; omega
    · have hii : i = ms.length := by omega
      have HI1 := Lib.hid (show ∀ x ∈ ms, MatchOk m t limit x by have h9 := hI.out; rw [List.take_of_length_le (by omega)] at h9; exact h9)
      clear hI
      subst hii
      go_wp2
      obtain ⟨wp, hwp⟩ : ∃ wp : World, wp = wr := ⟨_, rfl⟩
      subst hwp
      clear z00 z01 z10 z11 z12 z20 z21 z22 zz0 zy0 zx0 zz1 zy1 zx1 zz2 zy2 zx2
      go_loopw [11] (fun v wr => Ext w wr ∧ Hid (At wr [(w.heap.size + 1 + 1, Obj.cells #[.slice m1 ms.length mc1, .slice a1 ar.length ac1] 63), (w.heap.size + 1, Obj.cells #[.int .i64 t.w, .int .i64 t.h, .slice to t.pix.length tc] 43), (w.heap.size, Obj.cells #[.int .i64 m.w, .int .i64 m.h, .slice mo m.pix.length mc] 24)]) ∧ ∃ i : Nat, i ≤ ar.length ∧ v = .int .i64 (i : Int) ∧ Hid (∀ x ∈ ar.take i, AreaOk m t limit x)) (fun v _ => ar.length - (intOf v).toNat)
      case atStart => exact ⟨hE, hA, 0, Nat.zero_le _, rfl, Lib.hid (fun x hx => by simp at hx)⟩
      case round =>
        clear hE hA
        obtain ⟨hE, hA, i, hi, rfl, hI⟩ := hrel
        obtain ⟨⟨z00, z01⟩, -⟩ := run_2 (At.at hA.out 0 rfl)
        obtain ⟨⟨z10, z11, z12⟩, -⟩ := run_3 (At.at hA.out 1 rfl)
        obtain ⟨⟨z20, z21, z22⟩, -⟩ := run_3 (At.at hA.out 2 rfl)
        have zz0 := At.lt hA.out 0 rfl
        have zy0 := Nat.lt_succ_of_lt zz0
        have zx0 := Nat.lt_succ_of_lt zy0
        have zz1 := At.lt hA.out 1 rfl
        have zy1 := Nat.lt_succ_of_lt zz1
        have zx1 := Nat.lt_succ_of_lt zy1
        have zz2 := At.lt hA.out 2 rfl
        have zy2 := Nat.lt_succ_of_lt zz2
        have zx2 := Nat.lt_succ_of_lt zy2
        by_cases hil : i < ar.length
        · obtain ⟨b, off, rfl, x0, x1, x2, x3, x4, x5⟩ := H2.out i hil
          have HMEM := Lib.hid (getD_mem_at area0 hil)
          obtain ⟨x, hx⟩ : ∃ x, ar.getD i area0 = x := ⟨_, rfl⟩
          rw [hx] at x0 x1 x2 x3 x4 x5 HMEM
          have HX := Lib.hid hx
          clear hx
          replace x0 := hE.get x0
          replace x1 := hE.get x1
          replace x2 := hE.get x2
          replace x3 := hE.get x3
          replace x4 := hE.get x4
          replace x5 := hE.get x5
          have zx := World.block_lt_of_cell? _ _ x0
          simp only at zx
          have hili : (i : Int) < (ar.length : Int) := by omega
          have K71 := Lib.hid (fun w' => c71 m (.slice mo m.pix.length mc) x w' HM.out.1 ⟨_, _, _, rfl⟩)
          unfold imgVal areaVal at K71
          by_cases g0 : x.Ok m
          case neg =>
            have q0 : decide (x.Ok m) = false := decide_eq_false g0
            rw [q0] at K71
            have K72 := K71
            have HR := Lib.hid (show ¬ Proved m t limit ms ar from fun h => by have h9 := h.2.1 _ HMEM.out; exact g0 h9.1)
            go_wp2
            refine wp_region_quiet_below (by kernel_rfl) (by kernel_rfl) ?_
            repeat (go_big_quiet_step ((first | (go_at_call 72; with_reducible exact Calls.ext_of (K72.out _ (by repeat (first | exact Ext.refl _ | assumption | refine Ext.alloc ?_ _ | refine Ext.drewN ?_ _ | refine ext_grow ?_ _ _ | refine Ext.trans ?_ (by assumption))))) | (go_at_call 71; with_reducible exact Calls.ext_of (K71.out _)))))
            refine wpQuiet_nil ?_
            intro w6 hw'
            obtain ⟨pq, hw''⟩ := hw'
            have hbw6 := ext_of_regrown hw''
            clear hw'' pq
            go_wp2
            go_ret
            exact ⟨false, rfl, ⟨fun h => (by cases h), fun h => absurd h HR.out⟩, hE.trans hbw6⟩
          have q0 : decide (x.Ok m) = true := decide_eq_true g0
          rw [q0] at K71
          have K72 := Lib.hid (fun w' (h : Ext w w') => c72 m _ t _ x w' HM.out HT.out (HV.out.ext h) (HTV.out.ext h) g0)
          obtain ⟨bd, hbd⟩ : ∃ bd, bound m t x = bd := ⟨_, rfl⟩
          rw [hbd] at K72
          unfold imgVal tplVal areaVal at K72
          have HB := Lib.hid hbd
          clear hbd q0
          by_cases g1 : bd ≤ limit
          · have q1 : decide (bd ≤ limit) = true := decide_eq_true g1
            have HR := Lib.hid (show ¬ Proved m t limit ms ar from fun h => by have h9 := h.2.1 _ HMEM.out; have h8 := h9.2; rw [HB.out] at h8; omega)
            go_wp2
            refine wp_region_quiet_below (by kernel_rfl) (by kernel_rfl) ?_
            repeat (go_big_quiet_step ((first | (go_at_call 72; with_reducible exact Calls.ext_of (K72.out _ (by repeat (first | exact Ext.refl _ | assumption | refine Ext.alloc ?_ _ | refine Ext.drewN ?_ _ | refine ext_grow ?_ _ _ | refine Ext.trans ?_ (by assumption))))) | (go_at_call 71; with_reducible exact Calls.ext_of (K71.out _)))))
            refine wpQuiet_nil ?_
            intro w6 hw'
            obtain ⟨pq, hw''⟩ := hw'
            have hbw6 := ext_of_regrown hw''
            clear hw'' pq
            go_wp2
            go_ret
            exact ⟨false, rfl, ⟨fun h => (by cases h), fun h => absurd h HR.out⟩, hE.trans hbw6⟩
          have q1 : decide (bd ≤ limit) = false := decide_eq_false g1
          have HS := Lib.hid (show ∀ y ∈ ar.take (i + 1), AreaOk m t limit y by
            rw [take_snoc_at area0 hil, HX.out]
            intro y hy
            rcases List.mem_append.1 hy with hy | hy
            · exact hI.out y hy
            · rw [List.mem_singleton.1 hy]
              exact ⟨g0, by rw [HB.out]; omega⟩)
          go_wp2
          refine wp_region_quiet_below (by kernel_rfl) (by kernel_rfl) ?_
          repeat (go_big_quiet_step ((first | (go_at_call 72; with_reducible exact Calls.ext_of (K72.out _ (by repeat (first | exact Ext.refl _ | assumption | refine Ext.alloc ?_ _ | refine Ext.drewN ?_ _ | refine ext_grow ?_ _ _ | refine Ext.trans ?_ (by assumption))))) | (go_at_call 71; with_reducible exact Calls.ext_of (K71.out _)))))
          refine wpQuiet_nil ?_
          intro w6 hw'
          obtain ⟨pq, hw''⟩ := hw'
          have hbw6 := ext_of_regrown hw''
          clear hw'' pq
          have A6 := Lib.hid (show At w6 [(w.heap.size + 1 + 1, Obj.cells #[.slice m1 ms.length mc1, .slice (some ⟨b, off, none⟩) ar.length ac1] 63), (w.heap.size + 1, Obj.cells #[.int .i64 t.w, .int .i64 t.h, .slice to t.pix.length tc] 43), (w.heap.size, Obj.cells #[.int .i64 m.w, .int .i64 m.h, .slice mo m.pix.length mc] 24)] from At.ext hbw6 hA.out)
          have E6 := Lib.hid (hE.trans hbw6)
          obtain ⟨⟨u00, u01⟩, -⟩ := run_2 (At.at A6.out 0 rfl)
          obtain ⟨⟨u10, u11, u12⟩, -⟩ := run_3 (At.at A6.out 1 rfl)
          obtain ⟨⟨u20, u21, u22⟩, -⟩ := run_3 (At.at A6.out 2 rfl)
          have yz0 := At.lt A6.out 0 rfl
          have yy0 := Nat.lt_succ_of_lt yz0
          have yx0 := Nat.lt_succ_of_lt yy0
          have yz1 := At.lt A6.out 1 rfl
          have yy1 := Nat.lt_succ_of_lt yz1
          have yx1 := Nat.lt_succ_of_lt yy1
          have yz2 := At.lt A6.out 2 rfl
          have yy2 := Nat.lt_succ_of_lt yz2
          have yx2 := Nat.lt_succ_of_lt yy2
          go_wp2
          go_roundw
          case rel => exact ⟨E6.out, A6, i + 1, by omega, by go_num, HS⟩
          case measure => simp [intOf]; omega
        · have hii : i = ar.length := by omega
          have HI2 := Lib.hid (show ∀ x ∈ ar, AreaOk m t limit x by have h9 := hI.out; rw [List.take_of_length_le (by omega)] at h9; exact h9)
          clear hI
          subst hii
          go_wp2
          obtain ⟨wp, hwp⟩ : ∃ wp : World, wp = wr := ⟨_, rfl⟩
          subst hwp
          clear z00 z01 z10 z11 z12 z20 z21 z22 zz0 zy0 zx0 zz1 zy1 zx1 zz2 zy2 zx2
          go_loopw [12] (fun v wr => Ext w wr ∧ Hid (At wr [(w.heap.size + 1 + 1, Obj.cells #[.slice m1 ms.length mc1, .slice a1 ar.length ac1] 63), (w.heap.size + 1, Obj.cells #[.int .i64 t.w, .int .i64 t.h, .slice to t.pix.length tc] 43), (w.heap.size, Obj.cells #[.int .i64 m.w, .int .i64 m.h, .slice mo m.pix.length mc] 24)]) ∧ ∃ T : Int, 0 ≤ T ∧ T ≤ 12 ∧ v = .int .i64 T ∧ Hid (∀ T' S, 0 ≤ T' → T' < T → 1 ≤ S → S ≤ 4 → ∀ j, j < m.pix.length → hits ms (poseAt m T' S j) + hasN ar (poseAt m T' S j) = 1)) (fun v _ => (12 - intOf v).toNat)
          case atStart => exact ⟨hE, hA, 0, by omega, by omega, rfl, Lib.hid (fun T' S k0 k1 => absurd k1 (by omega))⟩
          case round =>
            clear hE hA
            obtain ⟨hE, hA, T, t1', t2', rfl, HT2⟩ := hrel
            obtain ⟨⟨z00, z01⟩, -⟩ := run_2 (At.at hA.out 0 rfl)
            obtain ⟨⟨z10, z11, z12⟩, -⟩ := run_3 (At.at hA.out 1 rfl)
            obtain ⟨⟨z20, z21, z22⟩, -⟩ := run_3 (At.at hA.out 2 rfl)
            have zz0 := At.lt hA.out 0 rfl
            have zy0 := Nat.lt_succ_of_lt zz0
            have zx0 := Nat.lt_succ_of_lt zy0
            have zz1 := At.lt hA.out 1 rfl
            have zy1 := Nat.lt_succ_of_lt zz1
            have zx1 := Nat.lt_succ_of_lt zy1
            have zz2 := At.lt hA.out 2 rfl
            have zy2 := Nat.lt_succ_of_lt zz2
            have zx2 := Nat.lt_succ_of_lt zy2
            by_cases hTT : T < 12
            · go_wp2
              obtain ⟨wp, hwp⟩ : ∃ wp : World, wp = wr := ⟨_, rfl⟩
              subst hwp
              clear z00 z01 z10 z11 z12 z20 z21 z22 zz0 zy0 zx0 zz1 zy1 zx1 zz2 zy2 zx2
              go_loopw [13] (fun v wr => Ext w wr ∧ Hid (At wr [(w.heap.size + 1 + 1, Obj.cells #[.slice m1 ms.length mc1, .slice a1 ar.length ac1] 63), (w.heap.size + 1, Obj.cells #[.int .i64 t.w, .int .i64 t.h, .slice to t.pix.length tc] 43), (w.heap.size, Obj.cells #[.int .i64 m.w, .int .i64 m.h, .slice mo m.pix.length mc] 24)]) ∧ ∃ S : Int, 1 ≤ S ∧ S ≤ 5 ∧ v = .int .i64 S ∧ Hid (∀ S', 1 ≤ S' → S' < S → ∀ j, j < m.pix.length → hits ms (poseAt m T S' j) + hasN ar (poseAt m T S' j) = 1)) (fun v _ => (5 - intOf v).toNat)
              case atStart => exact ⟨hE, hA, 1, by omega, by omega, rfl, Lib.hid (fun S' k1 k2 => absurd k2 (by omega))⟩
              case round =>
                clear hE hA
                obtain ⟨hE, hA, S, s1, s2, rfl, HS2⟩ := hrel
                obtain ⟨⟨z00, z01⟩, -⟩ := run_2 (At.at hA.out 0 rfl)
                obtain ⟨⟨z10, z11, z12⟩, -⟩ := run_3 (At.at hA.out 1 rfl)
                obtain ⟨⟨z20, z21, z22⟩, -⟩ := run_3 (At.at hA.out 2 rfl)
                have zz0 := At.lt hA.out 0 rfl
                have zy0 := Nat.lt_succ_of_lt zz0
                have zx0 := Nat.lt_succ_of_lt zy0
                have zz1 := At.lt hA.out 1 rfl
                have zy1 := Nat.lt_succ_of_lt zz1
                have zx1 := Nat.lt_succ_of_lt zy1
                have zz2 := At.lt hA.out 2 rfl
                have zy2 := Nat.lt_succ_of_lt zz2
                have zx2 := Nat.lt_succ_of_lt zy2
                by_cases hSS : S ≤ 4
                · go_wp2
                  obtain ⟨wp, hwp⟩ : ∃ wp : World, wp = wr := ⟨_, rfl⟩
                  subst hwp
                  clear z00 z01 z10 z11 z12 z20 z21 z22 zz0 zy0 zx0 zz1 zy1 zx1 zz2 zy2 zx2
                  go_loopw [14] (fun v wr => Ext w wr ∧ Hid (At wr [(w.heap.size + 1 + 1, Obj.cells #[.slice m1 ms.length mc1, .slice a1 ar.length ac1] 63), (w.heap.size + 1, Obj.cells #[.int .i64 t.w, .int .i64 t.h, .slice to t.pix.length tc] 43), (w.heap.size, Obj.cells #[.int .i64 m.w, .int .i64 m.h, .slice mo m.pix.length mc] 24)]) ∧ ∃ i : Nat, i ≤ m.pix.length ∧ v = .int .i64 (i : Int) ∧ Hid (∀ j, j < i → hits ms (poseAt m T S j) + hasN ar (poseAt m T S j) = 1)) (fun v _ => m.pix.length - (intOf v).toNat)
                  case atStart => exact ⟨hE, hA, 0, Nat.zero_le _, rfl, Lib.hid (fun j hj => absurd hj (Nat.not_lt_zero _))⟩
                  case round =>
                    clear hE hA
                    obtain ⟨hE, hA, i, hi, rfl, hI⟩ := hrel
                    obtain ⟨⟨z00, z01⟩, -⟩ := run_2 (At.at hA.out 0 rfl)
                    obtain ⟨⟨z10, z11, z12⟩, -⟩ := run_3 (At.at hA.out 1 rfl)
                    obtain ⟨⟨z20, z21, z22⟩, -⟩ := run_3 (At.at hA.out 2 rfl)
                    have zz0 := At.lt hA.out 0 rfl
                    have zy0 := Nat.lt_succ_of_lt zz0
                    have zx0 := Nat.lt_succ_of_lt zy0
                    have zz1 := At.lt hA.out 1 rfl
                    have zy1 := Nat.lt_succ_of_lt zz1
                    have zx1 := Nat.lt_succ_of_lt zy1
                    have zz2 := At.lt hA.out 2 rfl
                    have zy2 := Nat.lt_succ_of_lt zz2
                    have zx2 := Nat.lt_succ_of_lt zy2
                    by_cases hil : i < m.pix.length
                    · have hili : (i : Int) < (m.pix.length : Int) := by omega
                      have K101 := Lib.hid (fun w' (h : Ext wr w') => c101 ms ar _ _ (poseAt m T S i) w' (HMS.out.ext (hE.trans h)) (HAR.out.ext (hE.trans h)) n1 n2)
                      obtain ⟨n, hn⟩ : ∃ n, hits ms (poseAt m T S i) + hasN ar (poseAt m T S i) = n := ⟨_, rfl⟩
                      rw [hn] at K101
                      unfold searchVal poseVal poseAt at K101
                      dsimp only at K101
                      have e1 := Int.emod_nonneg (i : Int) (show m.w ≠ 0 by omega)
                      have e2 := Int.emod_lt_of_pos (i : Int) (show 0 < m.w by omega)
                      have e3 : 0 ≤ (i : Int) / m.w := Int.ediv_nonneg (by omega) (by omega)
                      have e4 : (i : Int) / m.w ≤ i := Int.ediv_le_self _ (by omega)
                      obtain ⟨qx, hqx⟩ : ∃ px, (i : Int) % m.w = px := ⟨_, rfl⟩
                      obtain ⟨qy, hqy⟩ : ∃ py, (i : Int) / m.w = py := ⟨_, rfl⟩
                      rw [hqx, hqy] at K101
                      rw [hqx] at e1 e2
                      rw [hqy] at e3 e4
                      have hrem : (i : Int).tmod m.w = qx := by rw [Int.tmod_eq_emod_of_nonneg (by omega)]; exact hqx
                      have hquo : (i : Int).tdiv m.w = qy := by rw [Int.tdiv_eq_ediv_of_nonneg (by omega)]; exact hqy
                      have hwq : IntKind.i64.wrap qy = qy := IntWalk.i64_in _ (by omega)
                      have htw : (m.w == 0) = false := by simp; omega
                      have HN := Lib.hid hn
                      clear hn hqx hqy
                      by_cases g : n = 1
                      case neg =>
                        have q : decide (n = 1) = false := decide_eq_false g
                        rw [q] at K101
                        have HR := Lib.hid (show ¬ Proved m t limit ms ar from fun h => g (HN.out.symm.trans (h.2.2 T S (by omega) (by omega) (by omega) (by omega) i hil)))
                        go_wp2
                        refine wp_region_quiet_below (by kernel_rfl) (by kernel_rfl) ?_
                        repeat (go_big_quiet_step ((go_at_call 101; with_reducible exact Calls.ext_of (K101.out _ (by repeat (first | exact Ext.refl _ | assumption | refine Ext.alloc ?_ _ | refine Ext.drewN ?_ _ | refine ext_grow ?_ _ _ | refine Ext.trans ?_ (by assumption)))))))
                        refine wpQuiet_nil ?_
                        intro w6 hw'
                        obtain ⟨pq, hw''⟩ := hw'
                        have hbw6 := ext_of_regrown hw''
                        clear hw'' pq
                        go_wp2
                        go_ret
                        exact ⟨false, rfl, ⟨fun h => (by cases h), fun h => absurd h HR.out⟩, hE.trans hbw6⟩
                      have q : decide (n = 1) = true := decide_eq_true g
                      rw [q] at K101
                      have HS := Lib.hid (show ∀ j, j < i + 1 → hits ms (poseAt m T S j) + hasN ar (poseAt m T S j) = 1 from fun j hj => by
                        rcases Nat.lt_succ_iff_lt_or_eq.1 hj with hj | rfl
                        · exact hI.out j hj
                        · exact HN.out.trans g)
                      go_wp2
                      refine wp_region_quiet_below (by kernel_rfl) (by kernel_rfl) ?_
                      repeat (go_big_quiet_step ((go_at_call 101; with_reducible exact Calls.ext_of (K101.out _ (by repeat (first | exact Ext.refl _ | assumption | refine Ext.alloc ?_ _ | refine Ext.drewN ?_ _ | refine ext_grow ?_ _ _ | refine Ext.trans ?_ (by assumption)))))))
                      refine wpQuiet_nil ?_
                      intro w6 hw'
                      obtain ⟨pq, hw''⟩ := hw'
                      have hbw6 := ext_of_regrown hw''
                      clear hw'' pq
                      have A6 := Lib.hid (show At w6 [(w.heap.size + 1 + 1, Obj.cells #[.slice m1 ms.length mc1, .slice a1 ar.length ac1] 63), (w.heap.size + 1, Obj.cells #[.int .i64 t.w, .int .i64 t.h, .slice to t.pix.length tc] 43), (w.heap.size, Obj.cells #[.int .i64 m.w, .int .i64 m.h, .slice mo m.pix.length mc] 24)] from At.ext hbw6 hA.out)
                      have E6 := Lib.hid (hE.trans hbw6)
                      obtain ⟨⟨u00, u01⟩, -⟩ := run_2 (At.at A6.out 0 rfl)
                      obtain ⟨⟨u10, u11, u12⟩, -⟩ := run_3 (At.at A6.out 1 rfl)
                      obtain ⟨⟨u20, u21, u22⟩, -⟩ := run_3 (At.at A6.out 2 rfl)
                      have yz0 := At.lt A6.out 0 rfl
                      have yy0 := Nat.lt_succ_of_lt yz0
                      have yx0 := Nat.lt_succ_of_lt yy0
                      have yz1 := At.lt A6.out 1 rfl
                      have yy1 := Nat.lt_succ_of_lt yz1
                      have yx1 := Nat.lt_succ_of_lt yy1
                      have yz2 := At.lt A6.out 2 rfl
                      have yy2 := Nat.lt_succ_of_lt yz2
                      have yx2 := Nat.lt_succ_of_lt yy2
                      clear hrem hquo hwq
                      go_wp2
                      go_roundw
                      case rel => exact ⟨E6.out, A6, i + 1, by omega, by go_num, HS⟩
                      case measure => simp [intOf]; omega
                    · have hii : i = m.pix.length := by omega
                      have HS := Lib.hid (show ∀ S', 1 ≤ S' → S' < S + 1 → ∀ j, j < m.pix.length → hits ms (poseAt m T S' j) + hasN ar (poseAt m T S' j) = 1 from fun S' k1 k2 j hj => by
                        by_cases k : S' < S
                        · exact HS2.out S' k1 k j hj
                        · rw [show S' = S by omega]
                          exact hI.out j (by omega))
                      go_wp2
                      go_roundw
                      case rel => exact ⟨hE, hA, S + 1, by omega, by omega, by go_num, HS⟩
                      case measure => simp [intOf]; omega
                · have HS := Lib.hid (show ∀ T' S, 0 ≤ T' → T' < T + 1 → 1 ≤ S → S ≤ 4 → ∀ j, j < m.pix.length → hits ms (poseAt m T' S j) + hasN ar (poseAt m T' S j) = 1 from fun T' S' k0 k1 k2 k3 j hj => by
                    by_cases k : T' < T
                    · exact HT2.out T' S' k0 k k2 k3 j hj
                    · rw [show T' = T by omega]
                      exact HS2.out S' k2 (by omega) j hj)
                  go_wp2
                  go_roundw
                  case rel => exact ⟨hE, hA, T + 1, by omega, by omega, by go_num, HS⟩
                  case measure => simp [intOf]; omega
            · have HR := Lib.hid (show Proved m t limit ms ar from ⟨HI1.out, HI2.out, fun T' S k0 k1 k2 k3 j hj => HT2.out T' S k0 (by omega) k2 k3 j hj⟩)
              go_wp2
              go_ret
              first | exact ⟨true, rfl, ⟨fun _ => HR.out, fun _ => rfl⟩, hE⟩ | exact .inr ⟨rfl, HR.out, hE⟩
end Go.Proofs.Ytipkjdfnoonpcaa
