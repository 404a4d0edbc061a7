/- The law FindGrows: the walk. -/
import Derived.Test.YtipkjdfnoonpcaaGrowPlain
set_option linter.unusedVariables false
set_option linter.unusedSimpArgs false
namespace Go.Proofs.Ytipkjdfnoonpcaa
open Go.RowKit Go.Sort

set_option maxRecDepth 100000 in
set_option maxHeartbeats 16000000 in
theorem c11 (m : Img) (mv : Value) (t : Tpl) (tv : Value) (limit more : Int) (w : World) (hm : IntsAt w mv m.pix) (hml : m.pix.length * 8 ≤ 140737488351232) (ht : IntsAt w tv t.pix) (htl : t.pix.length * 8 ≤ 140737488351232) :
    Calls Try.prog 11 #[imgVal m mv, tplVal t tv, .int .i64 limit, .int .i64 more] w fun e w' => e = .returned (.bool true) ∧ Ext w w' := by
  have h1m : m.pix.length ≤ maxLen := by unfold maxLen; omega
  have h1t : t.pix.length ≤ maxLen := by unfold maxLen; omega
  have HV := Lib.hid hm
  have HTV := Lib.hid ht
  obtain ⟨io, ic, rfl, -, -⟩ := hm.form
  obtain ⟨to, tc, rfl, -, -⟩ := ht.form
  have K36 := fun l w' (h : IntsAt w' (.slice io m.pix.length ic) m.pix) (h' : IntsAt w' (.slice to t.pix.length tc) t.pix) => c36b m _ t _ l w' h h1m h' h1t
  have KA := Lib.hid (K36 limit)
  have KB := Lib.hid (K36 (limit + more))
  clear K36 hm hml ht htl h1m h1t
  by_cases q0 : limit < 0
  · have d0 : decide (limit < 0) = true := decide_eq_true q0
    clear q0
    unfold imgVal tplVal at *
    go_enter Try.func11, Try.ntmps11
    go_wp2_with (first | (go_at_call 39; (with_reducible refine (c39 _).mono ?_); rintro E w1 ⟨rfl, hb1⟩; have A1 := Lib.hid (show At w1 [(w.heap.size, Obj.cells #[.int .i64 m.w, .int .i64 m.h, .slice io m.pix.length ic] 24), (w.heap.size + 1, Obj.cells #[.int .i64 t.w, .int .i64 t.h, .slice to t.pix.length tc] 43)] from At.ext hb1 (show At (World.alloc (World.alloc w (Obj.cells #[.int .i64 m.w, .int .i64 m.h, .slice io m.pix.length ic] 24)) (Obj.cells #[.int .i64 t.w, .int .i64 t.h, .slice to t.pix.length tc] 43)) [(w.heap.size, Obj.cells #[.int .i64 m.w, .int .i64 m.h, .slice io m.pix.length ic] 24), (w.heap.size + 1, Obj.cells #[.int .i64 t.w, .int .i64 t.h, .slice to t.pix.length tc] 43)] from ⟨(by repeat (first | (refine blk_at _ _ ?_; (first | rfl | (simp only [size_one]; done))) | refine (blk_past _ _ (by simp only [size_one]; omega)).trans ?_)), (by repeat (first | (refine blk_at _ _ ?_; (first | rfl | (simp only [size_one]; done))) | refine (blk_past _ _ (by simp only [size_one]; omega)).trans ?_)), trivial⟩)); have E1 := Lib.hid (((show Ext w (World.alloc (World.alloc w (Obj.cells #[.int .i64 m.w, .int .i64 m.h, .slice io m.pix.length ic] 24)) (Obj.cells #[.int .i64 t.w, .int .i64 t.h, .slice to t.pix.length tc] 43)) from (by repeat (first | exact Ext.refl _ | assumption | refine Ext.alloc ?_ _ | refine Ext.drewN ?_ _ | refine ext_grow ?_ _ _ | refine Ext.setCell ?_ (by first | exact Nat.le_refl _ | omega | (simp; done) | (simp; omega)) _ | refine Ext.trans ?_ (by assumption))))).trans hb1); obtain ⟨⟨c1_0_0, c1_0_1, c1_0_2⟩, f1_0_0, f1_0_1, f1_0_2⟩ := run_3 (At.at A1.out 0 rfl); have s1_0 : w.heap.size < w1.heap.size := At.lt A1.out 0 rfl; obtain ⟨⟨c1_1_0, c1_1_1, c1_1_2⟩, f1_1_0, f1_1_1, f1_1_2⟩ := run_3 (At.at A1.out 1 rfl); have s1_1 : w.heap.size + 1 < w1.heap.size := At.lt A1.out 1 rfl; have HM_1 := Lib.hid (IntsAt.ext ((IntsAt.ext HV.out (by repeat (first | exact Ext.refl _ | assumption | refine Ext.alloc ?_ _ | refine Ext.drewN ?_ _ | refine ext_grow ?_ _ _ | refine Ext.setCell ?_ (by first | exact Nat.le_refl _ | omega | (simp; done) | (simp; omega)) _ | refine Ext.trans ?_ (by assumption))))) hb1); have HT_1 := Lib.hid (IntsAt.ext ((IntsAt.ext HTV.out (by repeat (first | exact Ext.refl _ | assumption | refine Ext.alloc ?_ _ | refine Ext.drewN ?_ _ | refine ext_grow ?_ _ _ | refine Ext.setCell ?_ (by first | exact Nat.le_refl _ | omega | (simp; done) | (simp; omega)) _ | refine Ext.trans ?_ (by assumption))))) hb1)))
    go_ret
    exact ⟨rfl, E1.out⟩
  have d0 : decide (limit < 0) = false := decide_eq_false q0
  by_cases q1 : more < 0
  · have d1 : decide (more < 0) = true := decide_eq_true q1
    clear q1
    unfold imgVal tplVal at *
    go_enter Try.func11, Try.ntmps11
    go_wp2_with (first | (go_at_call 39; (with_reducible refine (c39 _).mono ?_); rintro E w1 ⟨rfl, hb1⟩; have A1 := Lib.hid (show At w1 [(w.heap.size, Obj.cells #[.int .i64 m.w, .int .i64 m.h, .slice io m.pix.length ic] 24), (w.heap.size + 1, Obj.cells #[.int .i64 t.w, .int .i64 t.h, .slice to t.pix.length tc] 43)] from At.ext hb1 (show At (World.alloc (World.alloc w (Obj.cells #[.int .i64 m.w, .int .i64 m.h, .slice io m.pix.length ic] 24)) (Obj.cells #[.int .i64 t.w, .int .i64 t.h, .slice to t.pix.length tc] 43)) [(w.heap.size, Obj.cells #[.int .i64 m.w, .int .i64 m.h, .slice io m.pix.length ic] 24), (w.heap.size + 1, Obj.cells #[.int .i64 t.w, .int .i64 t.h, .slice to t.pix.length tc] 43)] from ⟨(by repeat (first | (refine blk_at _ _ ?_; (first | rfl | (simp only [size_one]; done))) | refine (blk_past _ _ (by simp only [size_one]; omega)).trans ?_)), (by repeat (first | (refine blk_at _ _ ?_; (first | rfl | (simp only [size_one]; done))) | refine (blk_past _ _ (by simp only [size_one]; omega)).trans ?_)), trivial⟩)); have E1 := Lib.hid (((show Ext w (World.alloc (World.alloc w (Obj.cells #[.int .i64 m.w, .int .i64 m.h, .slice io m.pix.length ic] 24)) (Obj.cells #[.int .i64 t.w, .int .i64 t.h, .slice to t.pix.length tc] 43)) from (by repeat (first | exact Ext.refl _ | assumption | refine Ext.alloc ?_ _ | refine Ext.drewN ?_ _ | refine ext_grow ?_ _ _ | refine Ext.setCell ?_ (by first | exact Nat.le_refl _ | omega | (simp; done) | (simp; omega)) _ | refine Ext.trans ?_ (by assumption))))).trans hb1); obtain ⟨⟨c1_0_0, c1_0_1, c1_0_2⟩, f1_0_0, f1_0_1, f1_0_2⟩ := run_3 (At.at A1.out 0 rfl); have s1_0 : w.heap.size < w1.heap.size := At.lt A1.out 0 rfl; obtain ⟨⟨c1_1_0, c1_1_1, c1_1_2⟩, f1_1_0, f1_1_1, f1_1_2⟩ := run_3 (At.at A1.out 1 rfl); have s1_1 : w.heap.size + 1 < w1.heap.size := At.lt A1.out 1 rfl; have HM_1 := Lib.hid (IntsAt.ext ((IntsAt.ext HV.out (by repeat (first | exact Ext.refl _ | assumption | refine Ext.alloc ?_ _ | refine Ext.drewN ?_ _ | refine ext_grow ?_ _ _ | refine Ext.setCell ?_ (by first | exact Nat.le_refl _ | omega | (simp; done) | (simp; omega)) _ | refine Ext.trans ?_ (by assumption))))) hb1); have HT_1 := Lib.hid (IntsAt.ext ((IntsAt.ext HTV.out (by repeat (first | exact Ext.refl _ | assumption | refine Ext.alloc ?_ _ | refine Ext.drewN ?_ _ | refine ext_grow ?_ _ _ | refine Ext.setCell ?_ (by first | exact Nat.le_refl _ | omega | (simp; done) | (simp; omega)) _ | refine Ext.trans ?_ (by assumption))))) hb1)))
    go_ret
    exact ⟨rfl, E1.out⟩
  have d1 : decide (more < 0) = false := decide_eq_false q1
  by_cases q2 : 16320 < more
  · have d2 : decide (16320 < more) = true := decide_eq_true q2
    clear q2
    unfold imgVal tplVal at *
    go_enter Try.func11, Try.ntmps11
    go_wp2_with (first | (go_at_call 39; (with_reducible refine (c39 _).mono ?_); rintro E w1 ⟨rfl, hb1⟩; have A1 := Lib.hid (show At w1 [(w.heap.size, Obj.cells #[.int .i64 m.w, .int .i64 m.h, .slice io m.pix.length ic] 24), (w.heap.size + 1, Obj.cells #[.int .i64 t.w, .int .i64 t.h, .slice to t.pix.length tc] 43)] from At.ext hb1 (show At (World.alloc (World.alloc w (Obj.cells #[.int .i64 m.w, .int .i64 m.h, .slice io m.pix.length ic] 24)) (Obj.cells #[.int .i64 t.w, .int .i64 t.h, .slice to t.pix.length tc] 43)) [(w.heap.size, Obj.cells #[.int .i64 m.w, .int .i64 m.h, .slice io m.pix.length ic] 24), (w.heap.size + 1, Obj.cells #[.int .i64 t.w, .int .i64 t.h, .slice to t.pix.length tc] 43)] from ⟨(by repeat (first | (refine blk_at _ _ ?_; (first | rfl | (simp only [size_one]; done))) | refine (blk_past _ _ (by simp only [size_one]; omega)).trans ?_)), (by repeat (first | (refine blk_at _ _ ?_; (first | rfl | (simp only [size_one]; done))) | refine (blk_past _ _ (by simp only [size_one]; omega)).trans ?_)), trivial⟩)); have E1 := Lib.hid (((show Ext w (World.alloc (World.alloc w (Obj.cells #[.int .i64 m.w, .int .i64 m.h, .slice io m.pix.length ic] 24)) (Obj.cells #[.int .i64 t.w, .int .i64 t.h, .slice to t.pix.length tc] 43)) from (by repeat (first | exact Ext.refl _ | assumption | refine Ext.alloc ?_ _ | refine Ext.drewN ?_ _ | refine ext_grow ?_ _ _ | refine Ext.setCell ?_ (by first | exact Nat.le_refl _ | omega | (simp; done) | (simp; omega)) _ | refine Ext.trans ?_ (by assumption))))).trans hb1); obtain ⟨⟨c1_0_0, c1_0_1, c1_0_2⟩, f1_0_0, f1_0_1, f1_0_2⟩ := run_3 (At.at A1.out 0 rfl); have s1_0 : w.heap.size < w1.heap.size := At.lt A1.out 0 rfl; obtain ⟨⟨c1_1_0, c1_1_1, c1_1_2⟩, f1_1_0, f1_1_1, f1_1_2⟩ := run_3 (At.at A1.out 1 rfl); have s1_1 : w.heap.size + 1 < w1.heap.size := At.lt A1.out 1 rfl; have HM_1 := Lib.hid (IntsAt.ext ((IntsAt.ext HV.out (by repeat (first | exact Ext.refl _ | assumption | refine Ext.alloc ?_ _ | refine Ext.drewN ?_ _ | refine ext_grow ?_ _ _ | refine Ext.setCell ?_ (by first | exact Nat.le_refl _ | omega | (simp; done) | (simp; omega)) _ | refine Ext.trans ?_ (by assumption))))) hb1); have HT_1 := Lib.hid (IntsAt.ext ((IntsAt.ext HTV.out (by repeat (first | exact Ext.refl _ | assumption | refine Ext.alloc ?_ _ | refine Ext.drewN ?_ _ | refine ext_grow ?_ _ _ | refine Ext.setCell ?_ (by first | exact Nat.le_refl _ | omega | (simp; done) | (simp; omega)) _ | refine Ext.trans ?_ (by assumption))))) hb1)))
    go_ret
    exact ⟨rfl, E1.out⟩
  have d2 : decide (16320 < more) = false := decide_eq_false q2
  by_cases q3 : 16320 - more < limit
  · have d3 : decide (16320 - more < limit) = true := decide_eq_true q3
    clear q3
    unfold imgVal tplVal at *
    go_enter Try.func11, Try.ntmps11
    go_wp2_with (first | (go_at_call 39; (with_reducible refine (c39 _).mono ?_); rintro E w1 ⟨rfl, hb1⟩; have A1 := Lib.hid (show At w1 [(w.heap.size, Obj.cells #[.int .i64 m.w, .int .i64 m.h, .slice io m.pix.length ic] 24), (w.heap.size + 1, Obj.cells #[.int .i64 t.w, .int .i64 t.h, .slice to t.pix.length tc] 43)] from At.ext hb1 (show At (World.alloc (World.alloc w (Obj.cells #[.int .i64 m.w, .int .i64 m.h, .slice io m.pix.length ic] 24)) (Obj.cells #[.int .i64 t.w, .int .i64 t.h, .slice to t.pix.length tc] 43)) [(w.heap.size, Obj.cells #[.int .i64 m.w, .int .i64 m.h, .slice io m.pix.length ic] 24), (w.heap.size + 1, Obj.cells #[.int .i64 t.w, .int .i64 t.h, .slice to t.pix.length tc] 43)] from ⟨(by repeat (first | (refine blk_at _ _ ?_; (first | rfl | (simp only [size_one]; done))) | refine (blk_past _ _ (by simp only [size_one]; omega)).trans ?_)), (by repeat (first | (refine blk_at _ _ ?_; (first | rfl | (simp only [size_one]; done))) | refine (blk_past _ _ (by simp only [size_one]; omega)).trans ?_)), trivial⟩)); have E1 := Lib.hid (((show Ext w (World.alloc (World.alloc w (Obj.cells #[.int .i64 m.w, .int .i64 m.h, .slice io m.pix.length ic] 24)) (Obj.cells #[.int .i64 t.w, .int .i64 t.h, .slice to t.pix.length tc] 43)) from (by repeat (first | exact Ext.refl _ | assumption | refine Ext.alloc ?_ _ | refine Ext.drewN ?_ _ | refine ext_grow ?_ _ _ | refine Ext.setCell ?_ (by first | exact Nat.le_refl _ | omega | (simp; done) | (simp; omega)) _ | refine Ext.trans ?_ (by assumption))))).trans hb1); obtain ⟨⟨c1_0_0, c1_0_1, c1_0_2⟩, f1_0_0, f1_0_1, f1_0_2⟩ := run_3 (At.at A1.out 0 rfl); have s1_0 : w.heap.size < w1.heap.size := At.lt A1.out 0 rfl; obtain ⟨⟨c1_1_0, c1_1_1, c1_1_2⟩, f1_1_0, f1_1_1, f1_1_2⟩ := run_3 (At.at A1.out 1 rfl); have s1_1 : w.heap.size + 1 < w1.heap.size := At.lt A1.out 1 rfl; have HM_1 := Lib.hid (IntsAt.ext ((IntsAt.ext HV.out (by repeat (first | exact Ext.refl _ | assumption | refine Ext.alloc ?_ _ | refine Ext.drewN ?_ _ | refine ext_grow ?_ _ _ | refine Ext.setCell ?_ (by first | exact Nat.le_refl _ | omega | (simp; done) | (simp; omega)) _ | refine Ext.trans ?_ (by assumption))))) hb1); have HT_1 := Lib.hid (IntsAt.ext ((IntsAt.ext HTV.out (by repeat (first | exact Ext.refl _ | assumption | refine Ext.alloc ?_ _ | refine Ext.drewN ?_ _ | refine ext_grow ?_ _ _ | refine Ext.setCell ?_ (by first | exact Nat.le_refl _ | omega | (simp; done) | (simp; omega)) _ | refine Ext.trans ?_ (by assumption))))) hb1)))
    go_ret
    exact ⟨rfl, E1.out⟩
  have d3 : decide (16320 - more < limit) = false := decide_eq_false q3
  have hfe := (foundM_grow (m := m) (t := t) (a := limit) (b := limit + more) (by omega) (by omega) (by omega))
  obtain ⟨fe, hfm⟩ := hfe
  have hlenM : (foundM m t (limit + more)).length ≤ 13000 := by
    by_cases h : findE m t (limit + more) = 0
    · refine foundM_len ?_ t _
      unfold findE at h
      by_cases h0 : checkE m t = 0
      · exact (check_ok h0).1.1
      · rw [if_neg h0] at h; exact absurd h h0
    · unfold foundM; rw [if_neg h]; simp
  rw [fe] at KB
  obtain ⟨E9, hE9⟩ : ∃ e, findE m t limit = e := ⟨_, rfl⟩
  rw [hE9] at KA KB
  obtain ⟨Ms, hMs⟩ : ∃ l, foundM m t (limit + more) = l := ⟨_, rfl⟩
  obtain ⟨ms, hms⟩ : ∃ l, foundM m t limit = l := ⟨_, rfl⟩
  obtain ⟨ar, har⟩ : ∃ l, foundA m t limit = l := ⟨_, rfl⟩
  obtain ⟨br, hbr⟩ : ∃ l, foundA m t (limit + more) = l := ⟨_, rfl⟩
  rw [hms, har] at KA
  rw [hMs, hbr] at KB
  rw [hms, hMs] at hfm
  rw [hMs] at hlenM
  have hlenm : ms.length ≤ 13000 := by rw [hfm]; exact Nat.le_trans (List.length_filter_le _ _) hlenM
  have FM := Lib.hid hfm
  have u2 : (E9 == E9) = true := by simp
  clear fe hE9 hMs hms har hbr hfm
  unfold imgVal tplVal at *
  by_cases h0 : E9 = 0
  case neg =>
    have u1 : (E9 != 0) = true := by simp [h0]
    clear h0
    go_enter Try.func11, Try.ntmps11
    go_wp2_with (first | (have _q := E2; go_at_call 36; (with_reducible refine (KB.out _ (IntsAt.ext (HM_2.out) ((Ext.refl _).alloc _)) (IntsAt.ext (HT_2.out) ((Ext.refl _).alloc _))).mono ?_); rintro E w3 ⟨no, nc, bo, bc, rfl, o3, -, hb3⟩; have A3 := Lib.hid (show At w3 [(w2.heap.size, Obj.cells #[.slice mo ms.length mc, .slice ao ar.length ac] 63), (w.heap.size, Obj.cells #[.int .i64 m.w, .int .i64 m.h, .slice io m.pix.length ic] 24), (w.heap.size + 1, Obj.cells #[.int .i64 t.w, .int .i64 t.h, .slice to t.pix.length tc] 43)] from At.ext hb3 (show At (World.alloc w2 (Obj.cells #[.slice mo ms.length mc, .slice ao ar.length ac] 63)) [(w2.heap.size, Obj.cells #[.slice mo ms.length mc, .slice ao ar.length ac] 63), (w.heap.size, Obj.cells #[.int .i64 m.w, .int .i64 m.h, .slice io m.pix.length ic] 24), (w.heap.size + 1, Obj.cells #[.int .i64 t.w, .int .i64 t.h, .slice to t.pix.length tc] 43)] from ⟨one_first _ _, At.alloc A2.out _⟩)); have E3 := Lib.hid ((((E2.out).alloc _)).trans hb3); obtain ⟨⟨c3_0_0, c3_0_1⟩, f3_0_0, f3_0_1⟩ := run_2 (At.at A3.out 0 rfl); have s3_0 : w2.heap.size < w3.heap.size := At.lt A3.out 0 rfl; obtain ⟨⟨c3_1_0, c3_1_1, c3_1_2⟩, f3_1_0, f3_1_1, f3_1_2⟩ := run_3 (At.at A3.out 1 rfl); have s3_1 : w.heap.size < w3.heap.size := At.lt A3.out 1 rfl; obtain ⟨⟨c3_2_0, c3_2_1, c3_2_2⟩, f3_2_0, f3_2_1, f3_2_2⟩ := run_3 (At.at A3.out 2 rfl); have s3_2 : w.heap.size + 1 < w3.heap.size := At.lt A3.out 2 rfl; (try clear c2_0_0 c2_0_1 c2_0_2 f2_0_0 f2_0_1 f2_0_2 c2_1_0 c2_1_1 c2_1_2 f2_1_0 f2_1_1 f2_1_2); have HM_3 := Lib.hid (IntsAt.ext ((IntsAt.ext (HM_2.out) ((Ext.refl _).alloc _))) hb3); have HT_3 := Lib.hid (IntsAt.ext ((IntsAt.ext (HT_2.out) ((Ext.refl _).alloc _))) hb3); have MA_3 := Lib.hid (MatchesAt.ext ((MatchesAt.ext (MA.out) ((Ext.refl _).alloc _))) hb3); have MB := Lib.hid o3; clear o3) | (have _q := E1; go_at_call 36; (with_reducible refine (KA.out _ HM_1.out HT_1.out).mono ?_); rintro E w2 ⟨mo, mc, ao, ac, rfl, o2, -, hb2⟩; have A2 := Lib.hid (show At w2 [(w.heap.size, Obj.cells #[.int .i64 m.w, .int .i64 m.h, .slice io m.pix.length ic] 24), (w.heap.size + 1, Obj.cells #[.int .i64 t.w, .int .i64 t.h, .slice to t.pix.length tc] 43)] from At.ext hb2 A1.out); have E2 := Lib.hid ((E1.out).trans hb2); obtain ⟨⟨c2_0_0, c2_0_1, c2_0_2⟩, f2_0_0, f2_0_1, f2_0_2⟩ := run_3 (At.at A2.out 0 rfl); have s2_0 : w.heap.size < w2.heap.size := At.lt A2.out 0 rfl; obtain ⟨⟨c2_1_0, c2_1_1, c2_1_2⟩, f2_1_0, f2_1_1, f2_1_2⟩ := run_3 (At.at A2.out 1 rfl); have s2_1 : w.heap.size + 1 < w2.heap.size := At.lt A2.out 1 rfl; (try clear c1_0_0 c1_0_1 c1_0_2 f1_0_0 f1_0_1 f1_0_2 c1_1_0 c1_1_1 c1_1_2 f1_1_0 f1_1_1 f1_1_2 s1_0 s1_1); have HM_2 := Lib.hid (IntsAt.ext (HM_1.out) hb2); have HT_2 := Lib.hid (IntsAt.ext (HT_1.out) hb2); have MA := Lib.hid o2; clear o2) | (go_at_call 39; (with_reducible refine (c39 _).mono ?_); rintro E w1 ⟨rfl, hb1⟩; have A1 := Lib.hid (show At w1 [(w.heap.size, Obj.cells #[.int .i64 m.w, .int .i64 m.h, .slice io m.pix.length ic] 24), (w.heap.size + 1, Obj.cells #[.int .i64 t.w, .int .i64 t.h, .slice to t.pix.length tc] 43)] from At.ext hb1 (show At (World.alloc (World.alloc w (Obj.cells #[.int .i64 m.w, .int .i64 m.h, .slice io m.pix.length ic] 24)) (Obj.cells #[.int .i64 t.w, .int .i64 t.h, .slice to t.pix.length tc] 43)) [(w.heap.size, Obj.cells #[.int .i64 m.w, .int .i64 m.h, .slice io m.pix.length ic] 24), (w.heap.size + 1, Obj.cells #[.int .i64 t.w, .int .i64 t.h, .slice to t.pix.length tc] 43)] from ⟨(by repeat (first | (refine blk_at _ _ ?_; (first | rfl | (simp only [size_one]; done))) | refine (blk_past _ _ (by simp only [size_one]; omega)).trans ?_)), (by repeat (first | (refine blk_at _ _ ?_; (first | rfl | (simp only [size_one]; done))) | refine (blk_past _ _ (by simp only [size_one]; omega)).trans ?_)), trivial⟩)); have E1 := Lib.hid (((show Ext w (World.alloc (World.alloc w (Obj.cells #[.int .i64 m.w, .int .i64 m.h, .slice io m.pix.length ic] 24)) (Obj.cells #[.int .i64 t.w, .int .i64 t.h, .slice to t.pix.length tc] 43)) from (by repeat (first | exact Ext.refl _ | assumption | refine Ext.alloc ?_ _ | refine Ext.drewN ?_ _ | refine ext_grow ?_ _ _ | refine Ext.setCell ?_ (by first | exact Nat.le_refl _ | omega | (simp; done) | (simp; omega)) _ | refine Ext.trans ?_ (by assumption))))).trans hb1); obtain ⟨⟨c1_0_0, c1_0_1, c1_0_2⟩, f1_0_0, f1_0_1, f1_0_2⟩ := run_3 (At.at A1.out 0 rfl); have s1_0 : w.heap.size < w1.heap.size := At.lt A1.out 0 rfl; obtain ⟨⟨c1_1_0, c1_1_1, c1_1_2⟩, f1_1_0, f1_1_1, f1_1_2⟩ := run_3 (At.at A1.out 1 rfl); have s1_1 : w.heap.size + 1 < w1.heap.size := At.lt A1.out 1 rfl; have HM_1 := Lib.hid (IntsAt.ext ((IntsAt.ext HV.out (by repeat (first | exact Ext.refl _ | assumption | refine Ext.alloc ?_ _ | refine Ext.drewN ?_ _ | refine ext_grow ?_ _ _ | refine Ext.setCell ?_ (by first | exact Nat.le_refl _ | omega | (simp; done) | (simp; omega)) _ | refine Ext.trans ?_ (by assumption))))) hb1); have HT_1 := Lib.hid (IntsAt.ext ((IntsAt.ext HTV.out (by repeat (first | exact Ext.refl _ | assumption | refine Ext.alloc ?_ _ | refine Ext.drewN ?_ _ | refine ext_grow ?_ _ _ | refine Ext.setCell ?_ (by first | exact Nat.le_refl _ | omega | (simp; done) | (simp; omega)) _ | refine Ext.trans ?_ (by assumption))))) hb1)))
    go_ret
    exact ⟨rfl, ((E3.out).alloc _)⟩
  have u1 : (E9 != 0) = false := by simp [h0]
  have u3 : (E9 == 0) = true := by simp [h0]
  clear h0
  go_enter Try.func11, Try.ntmps11
  go_wp2_with (first | (have _q := E2; go_at_call 36; (with_reducible refine (KB.out _ (IntsAt.ext (HM_2.out) ((Ext.refl _).alloc _)) (IntsAt.ext (HT_2.out) ((Ext.refl _).alloc _))).mono ?_); rintro E w3 ⟨no, nc, bo, bc, rfl, o3, -, hb3⟩; have A3 := Lib.hid (show At w3 [(w2.heap.size, Obj.cells #[.slice mo ms.length mc, .slice ao ar.length ac] 63), (w.heap.size, Obj.cells #[.int .i64 m.w, .int .i64 m.h, .slice io m.pix.length ic] 24), (w.heap.size + 1, Obj.cells #[.int .i64 t.w, .int .i64 t.h, .slice to t.pix.length tc] 43)] from At.ext hb3 (show At (World.alloc w2 (Obj.cells #[.slice mo ms.length mc, .slice ao ar.length ac] 63)) [(w2.heap.size, Obj.cells #[.slice mo ms.length mc, .slice ao ar.length ac] 63), (w.heap.size, Obj.cells #[.int .i64 m.w, .int .i64 m.h, .slice io m.pix.length ic] 24), (w.heap.size + 1, Obj.cells #[.int .i64 t.w, .int .i64 t.h, .slice to t.pix.length tc] 43)] from ⟨one_first _ _, At.alloc A2.out _⟩)); have E3 := Lib.hid ((((E2.out).alloc _)).trans hb3); obtain ⟨⟨c3_0_0, c3_0_1⟩, f3_0_0, f3_0_1⟩ := run_2 (At.at A3.out 0 rfl); have s3_0 : w2.heap.size < w3.heap.size := At.lt A3.out 0 rfl; obtain ⟨⟨c3_1_0, c3_1_1, c3_1_2⟩, f3_1_0, f3_1_1, f3_1_2⟩ := run_3 (At.at A3.out 1 rfl); have s3_1 : w.heap.size < w3.heap.size := At.lt A3.out 1 rfl; obtain ⟨⟨c3_2_0, c3_2_1, c3_2_2⟩, f3_2_0, f3_2_1, f3_2_2⟩ := run_3 (At.at A3.out 2 rfl); have s3_2 : w.heap.size + 1 < w3.heap.size := At.lt A3.out 2 rfl; (try clear c2_0_0 c2_0_1 c2_0_2 f2_0_0 f2_0_1 f2_0_2 c2_1_0 c2_1_1 c2_1_2 f2_1_0 f2_1_1 f2_1_2); have HM_3 := Lib.hid (IntsAt.ext ((IntsAt.ext (HM_2.out) ((Ext.refl _).alloc _))) hb3); have HT_3 := Lib.hid (IntsAt.ext ((IntsAt.ext (HT_2.out) ((Ext.refl _).alloc _))) hb3); have MA_3 := Lib.hid (MatchesAt.ext ((MatchesAt.ext (MA.out) ((Ext.refl _).alloc _))) hb3); have MB := Lib.hid o3; clear o3) | (have _q := E1; go_at_call 36; (with_reducible refine (KA.out _ HM_1.out HT_1.out).mono ?_); rintro E w2 ⟨mo, mc, ao, ac, rfl, o2, -, hb2⟩; have A2 := Lib.hid (show At w2 [(w.heap.size, Obj.cells #[.int .i64 m.w, .int .i64 m.h, .slice io m.pix.length ic] 24), (w.heap.size + 1, Obj.cells #[.int .i64 t.w, .int .i64 t.h, .slice to t.pix.length tc] 43)] from At.ext hb2 A1.out); have E2 := Lib.hid ((E1.out).trans hb2); obtain ⟨⟨c2_0_0, c2_0_1, c2_0_2⟩, f2_0_0, f2_0_1, f2_0_2⟩ := run_3 (At.at A2.out 0 rfl); have s2_0 : w.heap.size < w2.heap.size := At.lt A2.out 0 rfl; obtain ⟨⟨c2_1_0, c2_1_1, c2_1_2⟩, f2_1_0, f2_1_1, f2_1_2⟩ := run_3 (At.at A2.out 1 rfl); have s2_1 : w.heap.size + 1 < w2.heap.size := At.lt A2.out 1 rfl; (try clear c1_0_0 c1_0_1 c1_0_2 f1_0_0 f1_0_1 f1_0_2 c1_1_0 c1_1_1 c1_1_2 f1_1_0 f1_1_1 f1_1_2 s1_0 s1_1); have HM_2 := Lib.hid (IntsAt.ext (HM_1.out) hb2); have HT_2 := Lib.hid (IntsAt.ext (HT_1.out) hb2); have MA := Lib.hid o2; clear o2) | (go_at_call 39; (with_reducible refine (c39 _).mono ?_); rintro E w1 ⟨rfl, hb1⟩; have A1 := Lib.hid (show At w1 [(w.heap.size, Obj.cells #[.int .i64 m.w, .int .i64 m.h, .slice io m.pix.length ic] 24), (w.heap.size + 1, Obj.cells #[.int .i64 t.w, .int .i64 t.h, .slice to t.pix.length tc] 43)] from At.ext hb1 (show At (World.alloc (World.alloc w (Obj.cells #[.int .i64 m.w, .int .i64 m.h, .slice io m.pix.length ic] 24)) (Obj.cells #[.int .i64 t.w, .int .i64 t.h, .slice to t.pix.length tc] 43)) [(w.heap.size, Obj.cells #[.int .i64 m.w, .int .i64 m.h, .slice io m.pix.length ic] 24), (w.heap.size + 1, Obj.cells #[.int .i64 t.w, .int .i64 t.h, .slice to t.pix.length tc] 43)] from ⟨(by repeat (first | (refine blk_at _ _ ?_; (first | rfl | (simp only [size_one]; done))) | refine (blk_past _ _ (by simp only [size_one]; omega)).trans ?_)), (by repeat (first | (refine blk_at _ _ ?_; (first | rfl | (simp only [size_one]; done))) | refine (blk_past _ _ (by simp only [size_one]; omega)).trans ?_)), trivial⟩)); have E1 := Lib.hid (((show Ext w (World.alloc (World.alloc w (Obj.cells #[.int .i64 m.w, .int .i64 m.h, .slice io m.pix.length ic] 24)) (Obj.cells #[.int .i64 t.w, .int .i64 t.h, .slice to t.pix.length tc] 43)) from (by repeat (first | exact Ext.refl _ | assumption | refine Ext.alloc ?_ _ | refine Ext.drewN ?_ _ | refine ext_grow ?_ _ _ | refine Ext.setCell ?_ (by first | exact Nat.le_refl _ | omega | (simp; done) | (simp; omega)) _ | refine Ext.trans ?_ (by assumption))))).trans hb1); obtain ⟨⟨c1_0_0, c1_0_1, c1_0_2⟩, f1_0_0, f1_0_1, f1_0_2⟩ := run_3 (At.at A1.out 0 rfl); have s1_0 : w.heap.size < w1.heap.size := At.lt A1.out 0 rfl; obtain ⟨⟨c1_1_0, c1_1_1, c1_1_2⟩, f1_1_0, f1_1_1, f1_1_2⟩ := run_3 (At.at A1.out 1 rfl); have s1_1 : w.heap.size + 1 < w1.heap.size := At.lt A1.out 1 rfl; have HM_1 := Lib.hid (IntsAt.ext ((IntsAt.ext HV.out (by repeat (first | exact Ext.refl _ | assumption | refine Ext.alloc ?_ _ | refine Ext.drewN ?_ _ | refine ext_grow ?_ _ _ | refine Ext.setCell ?_ (by first | exact Nat.le_refl _ | omega | (simp; done) | (simp; omega)) _ | refine Ext.trans ?_ (by assumption))))) hb1); have HT_1 := Lib.hid (IntsAt.ext ((IntsAt.ext HTV.out (by repeat (first | exact Ext.refl _ | assumption | refine Ext.alloc ?_ _ | refine Ext.drewN ?_ _ | refine ext_grow ?_ _ _ | refine Ext.setCell ?_ (by first | exact Nat.le_refl _ | omega | (simp; done) | (simp; omega)) _ | refine Ext.trans ?_ (by assumption))))) hb1)))
  go_loopw [14, 15] (fun kv iv wr => Hid (Ext w wr) ∧ Hid (At wr [(w3.heap.size, Obj.cells #[.slice no Ms.length nc, .slice bo br.length bc] 63), (w2.heap.size, Obj.cells #[.slice mo ms.length mc, .slice ao ar.length ac] 63), (w.heap.size, Obj.cells #[.int .i64 m.w, .int .i64 m.h, .slice io m.pix.length ic] 24), (w.heap.size + 1, Obj.cells #[.int .i64 t.w, .int .i64 t.h, .slice to t.pix.length tc] 43)]) ∧ Hid (MatchesAt wr (.slice mo ms.length mc) ms) ∧ Hid (MatchesAt wr (.slice no Ms.length nc) Ms) ∧ ∃ i : Nat, i ≤ Ms.length ∧ iv = .int .i64 (i : Int) ∧ kv = .int .i64 (((Ms.take i).countP (fun x => decide (x.dist ≤ limit)) : Nat) : Int)) (fun _ iv _ => Ms.length - (intOf iv).toNat)
  case atStart => exact ⟨Lib.hid ((E3.out).alloc _), Lib.hid (show At (World.alloc w3 (Obj.cells #[.slice no Ms.length nc, .slice bo br.length bc] 63)) [(w3.heap.size, Obj.cells #[.slice no Ms.length nc, .slice bo br.length bc] 63), (w2.heap.size, Obj.cells #[.slice mo ms.length mc, .slice ao ar.length ac] 63), (w.heap.size, Obj.cells #[.int .i64 m.w, .int .i64 m.h, .slice io m.pix.length ic] 24), (w.heap.size + 1, Obj.cells #[.int .i64 t.w, .int .i64 t.h, .slice to t.pix.length tc] 43)] from ⟨one_first _ _, At.alloc A3.out _⟩), Lib.hid (MatchesAt.ext (MA_3.out) ((Ext.refl _).alloc _)), Lib.hid (MatchesAt.ext (MB.out) ((Ext.refl _).alloc _)), 0, Nat.zero_le _, rfl, rfl⟩
  case round =>
    obtain ⟨hE, hA, hMA, hMB, i, hi, rfl, rfl⟩ := hrel
    obtain ⟨⟨cr_0_0, cr_0_1⟩, fr_0_0, fr_0_1⟩ := run_2 (At.at hA.out 0 rfl)
    have sr_0 : w3.heap.size < wr.heap.size := At.lt hA.out 0 rfl
    obtain ⟨⟨cr_1_0, cr_1_1⟩, fr_1_0, fr_1_1⟩ := run_2 (At.at hA.out 1 rfl)
    have sr_1 : w2.heap.size < wr.heap.size := At.lt hA.out 1 rfl
    obtain ⟨⟨cr_2_0, cr_2_1, cr_2_2⟩, fr_2_0, fr_2_1, fr_2_2⟩ := run_3 (At.at hA.out 2 rfl)
    have sr_2 : w.heap.size < wr.heap.size := At.lt hA.out 2 rfl
    obtain ⟨⟨cr_3_0, cr_3_1, cr_3_2⟩, fr_3_0, fr_3_1, fr_3_2⟩ := run_3 (At.at hA.out 3 rfl)
    have sr_3 : w.heap.size + 1 < wr.heap.size := At.lt hA.out 3 rfl
    by_cases hil : i < Ms.length
    · have hili : (i : Int) < (Ms.length : Int) := by omega
      have HC := Lib.hid (count_step (fun x : Match => decide (x.dist ≤ limit)) match0 hil)
      have HY := Lib.hid (filter_yes (fun x : Match => decide (x.dist ≤ limit)) match0 hil)
      have HG := Lib.hid (fun k (hk : k < (Ms.filter (fun x : Match => decide (x.dist ≤ limit))).length) => filter_get (fun x : Match => decide (x.dist ≤ limit)) match0 hk)
      rw [← FM.out] at HY HG
      have hkk : (Ms.take i).countP (fun x => decide (x.dist ≤ limit)) ≤ 13000 := Nat.le_trans List.countP_le_length (by rw [List.length_take]; omega)
      obtain ⟨k, hk⟩ : ∃ k, (Ms.take i).countP (fun x => decide (x.dist ≤ limit)) = k := ⟨_, rfl⟩
      rw [hk] at HC HY hkk ⊢
      clear hk
      obtain ⟨_, _, hfx, -, hcx⟩ := MatchesAt.form hMB.out
      obtain ⟨yb, yf, hxb, y0, y1, y2, y3, y4⟩ := hcx (i) hil
      simp only [Value.slice.injEq] at hfx
      obtain ⟨hfx, -, -⟩ := hfx
      subst hfx
      subst hxb
      clear hcx
      have yz := World.block_lt_of_cell? _ _ y0
      simp only at yz
      generalize Ms.getD i match0 = x at y0 y1 y2 y3 y4 HC HY
      by_cases hq : x.dist ≤ limit
      · have q1 : decide (x.dist ≤ limit) = true := decide_eq_true hq
        obtain ⟨hkl, hke⟩ := HY.out q1
        rw [q1] at HC
        have hkli : (k : Int) < (ms.length : Int) := by omega
        have q2 : decide (k < ms.length) = true := decide_eq_true hkl
        have q3 : decide ((k : Int) < (ms.length : Int)) = true := decide_eq_true hkli
        obtain ⟨_, _, hfx, -, hcx⟩ := MatchesAt.form hMA.out
        obtain ⟨zb, zf, hxb, z0, z1, z2, z3, z4⟩ := hcx (k) hkl
        simp only [Value.slice.injEq] at hfx
        obtain ⟨hfx, -, -⟩ := hfx
        subst hfx
        subst hxb
        clear hcx
        have zz := World.block_lt_of_cell? _ _ z0
        simp only at zz
        rw [hke] at z0 z1 z2 z3 z4
        clear hke hq
        go_wp2_with fail
        go_quiet (fail)
        go_wp2
        go_roundw
        case rel => exact ⟨Lib.hid (hE.out.drewN _), Lib.hid (At.drewN hA.out _), Lib.hid (MatchesAt.ext hMA.out ((Ext.refl _).drewN _)), Lib.hid (MatchesAt.ext hMB.out ((Ext.refl _).drewN _)), i + 1, by omega, by go_num, by rw [HC.out]; go_num⟩
        case measure => simp [intOf]; omega
      · have q1 : decide (x.dist ≤ limit) = false := decide_eq_false hq
        rw [q1] at HC
        clear HY
        by_cases hkl : k < ms.length
        · have hkli : (k : Int) < (ms.length : Int) := by omega
          have q2 : decide (k < ms.length) = true := decide_eq_true hkl
          have q3 : decide ((k : Int) < (ms.length : Int)) = true := decide_eq_true hkli
          have hg := of_decide_eq_true (HG.out k hkl)
          obtain ⟨_, _, hfx, -, hcx⟩ := MatchesAt.form hMA.out
          obtain ⟨zb, zf, hxb, z0, z1, z2, z3, z4⟩ := hcx (k) hkl
          simp only [Value.slice.injEq] at hfx
          obtain ⟨hfx, -, -⟩ := hfx
          subst hfx
          subst hxb
          clear hcx
          have zz := World.block_lt_of_cell? _ _ z0
          simp only at zz
          generalize ms.getD k match0 = y at z0 z1 z2 z3 z4 hg
          have q4 : (y.dist == x.dist) = false := by simp; omega
          clear hg hq
          go_wp2_with fail
          go_quiet (fail)
          go_wp2
          go_roundw
          case rel => exact ⟨Lib.hid (hE.out.drewN _), Lib.hid (At.drewN hA.out _), Lib.hid (MatchesAt.ext hMA.out ((Ext.refl _).drewN _)), Lib.hid (MatchesAt.ext hMB.out ((Ext.refl _).drewN _)), i + 1, by omega, by go_num, by rw [HC.out]; rfl⟩
          case measure => simp [intOf]; omega
        · have q2 : decide (k < ms.length) = false := decide_eq_false hkl
          have q3 : decide ((k : Int) < (ms.length : Int)) = false := decide_eq_false (by omega)
          clear hkl hq
          go_wp2_with fail
          go_quiet (fail)
          go_wp2
          go_roundw
          case rel => exact ⟨Lib.hid (hE.out.drewN _), Lib.hid (At.drewN hA.out _), Lib.hid (MatchesAt.ext hMA.out ((Ext.refl _).drewN _)), Lib.hid (MatchesAt.ext hMB.out ((Ext.refl _).drewN _)), i + 1, by omega, by go_num, by rw [HC.out]; rfl⟩
          case measure => simp [intOf]; omega
    · obtain rfl : i = Ms.length := by omega
      have e1 : (Ms.take Ms.length).countP (fun x => decide (x.dist ≤ limit)) = ms.length := by rw [List.take_length, FM.out, List.countP_eq_length_filter]
      rw [e1]
      have u4 : ((ms.length : Int) == (ms.length : Int)) = true := by simp
      clear e1
      go_wp2
      go_ret
      exact ⟨rfl, hE.out⟩
theorem g11 (m : Img) (mv : Value) (t : Tpl) (tv : Value) (limit more : Int) (w : World) (hm : IntsAt w mv m.pix) (hml : m.pix.length * 8 ≤ 140737488351232) (ht : IntsAt w tv t.pix) (htl : t.pix.length * 8 ≤ 140737488351232)
    (_h1 : (Lit.int .i64 limit).wf = true) (_h2 : (Lit.int .i64 more).wf = true) :
    Calls Try.prog 11 #[imgVal m mv, tplVal t tv, .int .i64 limit, .int .i64 more] w fun e w' => e = .returned (.bool true) ∧ Ext w w' := c11 m mv t tv limit more w hm hml ht htl
end Go.Proofs.Ytipkjdfnoonpcaa
