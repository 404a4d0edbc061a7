/- The walk of the reference's Tell. -/
import Derived.Test.YtcbimfaneinpkaaTell
import Derived.Test.YtcbimfaneinpkaaCheckRef
import Derived.Test.YtcbimfaneinpkaaTwin
set_option linter.unusedVariables false
set_option linter.unusedSimpArgs false
namespace Go.Proofs.Ytcbimfaneinpkaa
open Go.RowKit Go.Sort

set_option maxRecDepth 100000 in
set_option maxHeartbeats 8000000 in
theorem w34 (t : Track) (vp : Value) (id v : Int) (w : World) (hv : SeensAt w vp t.parts) (hl50 : t.parts.length ≤ 50) :
    Calls Try.prog 34 #[trackVal t vp, .int .i64 id, .int .u8 v] w (OwnTell (tellR t id v) w) := by
  have HV := Lib.hid hv
  obtain ⟨q1, ao, cap, rfl, k1, k2, -⟩ := hv
  have hl : t.parts.length ≤ 1000000 := by omega
  by_cases hok : t.ok
  case neg =>
    rw [show tellR t id v = (noTrack', checkTrack t) from if_neg hok]
    have hct : checkTrack t ≠ 0 := fun h => hok (checkTrack_zero.1 h)
    have hcf : (checkTrack t == 0) = false := by simp [hct]
    have hcf2 : (checkTrack t != 0) = true := by simp [hct]
    obtain ⟨ct, hct9⟩ : ∃ ct, checkTrack t = ct := ⟨_, rfl⟩
    have K36 := Lib.hid (fun w' (h : SeensAt w' (.slice ao t.parts.length cap) t.parts) => w36 t _ w' h)
    rw [hct9] at hcf hcf2 K36 ⊢
    clear hct hct9
    go_enter Try.func34, Try.ntmps34
    go_wp2_with (first | (go_at_call 36; (with_reducible refine (K36.out _ (SeensAt.ext HV.out (by repeat (first | exact Ext.refl _ | assumption | refine Ext.alloc ?_ _ | refine Ext.drewN ?_ _ | refine ext_grow ?_ _ _ | refine Ext.setCell ?_ (by first | exact Nat.le_refl _ | omega | (simp; done) | (simp; omega)) _ | refine Ext.trans ?_ (by assumption))))).mono ?_); rintro E w1 ⟨rfl, hb1⟩; have A1 := Lib.hid (show At w1 [(w.heap.size, Obj.cells #[.int .i64 t.belt.step, .int .i64 t.belt.slip, .int .i64 t.belt.gate, .int .i64 t.belt.length, .int .i64 t.count, .int .i64 t.next, (.slice ao t.parts.length cap)] 47), (w.heap.size + 1, Obj.cells #[.int .i64 0, .int .i64 0, .int .i64 0, .int .i64 0, .int .i64 0, .int .i64 0, (.slice none 0 0)] 47)] from At.ext hb1 (show At _ [(w.heap.size, Obj.cells #[.int .i64 t.belt.step, .int .i64 t.belt.slip, .int .i64 t.belt.gate, .int .i64 t.belt.length, .int .i64 t.count, .int .i64 t.next, (.slice ao t.parts.length cap)] 47), (w.heap.size + 1, Obj.cells #[.int .i64 0, .int .i64 0, .int .i64 0, .int .i64 0, .int .i64 0, .int .i64 0, (.slice none 0 0)] 47)] from ⟨(by repeat (first | (refine blk_at _ _ ?_; (first | rfl | (simp only [size_one]; done))) | refine (blk_past _ _ (by simp only [size_one]; omega)).trans ?_)), (by repeat (first | (refine blk_at _ _ ?_; (first | rfl | (simp only [size_one]; done))) | refine (blk_past _ _ (by simp only [size_one]; omega)).trans ?_)), trivial⟩)); have E1 := Lib.hid (((show Ext w _ from (by repeat (first | exact Ext.refl _ | assumption | refine Ext.alloc ?_ _ | refine Ext.drewN ?_ _ | refine ext_grow ?_ _ _ | refine Ext.setCell ?_ (by first | exact Nat.le_refl _ | omega | (simp; done) | (simp; omega)) _ | refine Ext.trans ?_ (by assumption))))).trans hb1); obtain ⟨⟨c1_0_0, c1_0_1, c1_0_2, c1_0_3, c1_0_4, c1_0_5, c1_0_6⟩, f1_0_0, f1_0_1, f1_0_2, f1_0_3, f1_0_4, f1_0_5, f1_0_6⟩ := run_7 (At.at A1.out 0 rfl); have s1_0 : w.heap.size < w1.heap.size := At.lt A1.out 0 rfl; obtain ⟨⟨c1_1_0, c1_1_1, c1_1_2, c1_1_3, c1_1_4, c1_1_5, c1_1_6⟩, f1_1_0, f1_1_1, f1_1_2, f1_1_3, f1_1_4, f1_1_5, f1_1_6⟩ := run_7 (At.at A1.out 1 rfl); have s1_1 : w.heap.size + 1 < w1.heap.size := At.lt A1.out 1 rfl; have HS_1 := Lib.hid (SeensAt.ext ((SeensAt.ext HV.out (by repeat (first | exact Ext.refl _ | assumption | refine Ext.alloc ?_ _ | refine Ext.drewN ?_ _ | refine ext_grow ?_ _ _ | refine Ext.setCell ?_ (by first | exact Nat.le_refl _ | omega | (simp; done) | (simp; omega)) _ | refine Ext.trans ?_ (by assumption))))) hb1)))
    refine bodyPost_ret (results_row2 rfl _ _ (w.heap.size + 1) 47 _ (0, 0) _ rfl (store_7 (v0 := .int .i64 0) (v1 := .int .i64 0) (v2 := .int .i64 0) (v3 := .int .i64 0) (v4 := .int .i64 0) (v5 := .int .i64 0) (v6 := .slice none 0 0) (At.at A1.out 1 rfl)).1 Try.underlying47 rfl info47) rfl ?_
    exact OwnTell.bare ((store_7 (v0 := .int .i64 0) (v1 := .int .i64 0) (v2 := .int .i64 0) (v3 := .int .i64 0) (v4 := .int .i64 0) (v5 := .int .i64 0) (v6 := .slice none 0 0) (At.at A1.out 1 rfl)).2.2 w (by omega) E1.out)
  have hr := Lib.hid (parts_iff.1 hok.2.2).2
  have hpi := Lib.hid (parts_iff.1 hok.2.2).1
  obtain ⟨s1, s2, -⟩ := hok.2.1
  have K36 := Lib.hid (fun w' (h : SeensAt w' (.slice ao t.parts.length cap) t.parts) => w36 t _ w' h)
  rw [checkTrack_ok hok] at K36
  by_cases hv13 : 1 ≤ v ∧ v ≤ 3
  case neg =>
    rw [show tellR t id v = (noTrack', 2) by unfold tellR; rw [if_pos hok, if_neg hv13]]
    rcases Int.lt_or_le v 1 with h1 | h1
    · clear hv13
      go_enter Try.func34, Try.ntmps34
      go_wp2_with (first | (go_at_call 36; (with_reducible refine (K36.out _ (SeensAt.ext HV.out (by repeat (first | exact Ext.refl _ | assumption | refine Ext.alloc ?_ _ | refine Ext.drewN ?_ _ | refine ext_grow ?_ _ _ | refine Ext.setCell ?_ (by first | exact Nat.le_refl _ | omega | (simp; done) | (simp; omega)) _ | refine Ext.trans ?_ (by assumption))))).mono ?_); rintro E w1 ⟨rfl, hb1⟩; have A1 := Lib.hid (show At w1 [(w.heap.size, Obj.cells #[.int .i64 t.belt.step, .int .i64 t.belt.slip, .int .i64 t.belt.gate, .int .i64 t.belt.length, .int .i64 t.count, .int .i64 t.next, (.slice ao t.parts.length cap)] 47), (w.heap.size + 1, Obj.cells #[.int .i64 0, .int .i64 0, .int .i64 0, .int .i64 0, .int .i64 0, .int .i64 0, (.slice none 0 0)] 47)] from At.ext hb1 (show At _ [(w.heap.size, Obj.cells #[.int .i64 t.belt.step, .int .i64 t.belt.slip, .int .i64 t.belt.gate, .int .i64 t.belt.length, .int .i64 t.count, .int .i64 t.next, (.slice ao t.parts.length cap)] 47), (w.heap.size + 1, Obj.cells #[.int .i64 0, .int .i64 0, .int .i64 0, .int .i64 0, .int .i64 0, .int .i64 0, (.slice none 0 0)] 47)] from ⟨(by repeat (first | (refine blk_at _ _ ?_; (first | rfl | (simp only [size_one]; done))) | refine (blk_past _ _ (by simp only [size_one]; omega)).trans ?_)), (by repeat (first | (refine blk_at _ _ ?_; (first | rfl | (simp only [size_one]; done))) | refine (blk_past _ _ (by simp only [size_one]; omega)).trans ?_)), trivial⟩)); have E1 := Lib.hid (((show Ext w _ from (by repeat (first | exact Ext.refl _ | assumption | refine Ext.alloc ?_ _ | refine Ext.drewN ?_ _ | refine ext_grow ?_ _ _ | refine Ext.setCell ?_ (by first | exact Nat.le_refl _ | omega | (simp; done) | (simp; omega)) _ | refine Ext.trans ?_ (by assumption))))).trans hb1); obtain ⟨⟨c1_0_0, c1_0_1, c1_0_2, c1_0_3, c1_0_4, c1_0_5, c1_0_6⟩, f1_0_0, f1_0_1, f1_0_2, f1_0_3, f1_0_4, f1_0_5, f1_0_6⟩ := run_7 (At.at A1.out 0 rfl); have s1_0 : w.heap.size < w1.heap.size := At.lt A1.out 0 rfl; obtain ⟨⟨c1_1_0, c1_1_1, c1_1_2, c1_1_3, c1_1_4, c1_1_5, c1_1_6⟩, f1_1_0, f1_1_1, f1_1_2, f1_1_3, f1_1_4, f1_1_5, f1_1_6⟩ := run_7 (At.at A1.out 1 rfl); have s1_1 : w.heap.size + 1 < w1.heap.size := At.lt A1.out 1 rfl; have HS_1 := Lib.hid (SeensAt.ext ((SeensAt.ext HV.out (by repeat (first | exact Ext.refl _ | assumption | refine Ext.alloc ?_ _ | refine Ext.drewN ?_ _ | refine ext_grow ?_ _ _ | refine Ext.setCell ?_ (by first | exact Nat.le_refl _ | omega | (simp; done) | (simp; omega)) _ | refine Ext.trans ?_ (by assumption))))) hb1)))
      refine bodyPost_ret (results_row2 rfl _ _ (w.heap.size + 1) 47 _ (0, 0) _ rfl (store_7 (v0 := .int .i64 0) (v1 := .int .i64 0) (v2 := .int .i64 0) (v3 := .int .i64 0) (v4 := .int .i64 0) (v5 := .int .i64 0) (v6 := .slice none 0 0) (At.at A1.out 1 rfl)).1 Try.underlying47 rfl info47) rfl ?_
      exact OwnTell.bare ((store_7 (v0 := .int .i64 0) (v1 := .int .i64 0) (v2 := .int .i64 0) (v3 := .int .i64 0) (v4 := .int .i64 0) (v5 := .int .i64 0) (v6 := .slice none 0 0) (At.at A1.out 1 rfl)).2.2 w (by omega) E1.out)
    · have h3 : 3 < v := by omega
      clear hv13
      go_enter Try.func34, Try.ntmps34
      go_wp2_with (first | (go_at_call 36; (with_reducible refine (K36.out _ (SeensAt.ext HV.out (by repeat (first | exact Ext.refl _ | assumption | refine Ext.alloc ?_ _ | refine Ext.drewN ?_ _ | refine ext_grow ?_ _ _ | refine Ext.setCell ?_ (by first | exact Nat.le_refl _ | omega | (simp; done) | (simp; omega)) _ | refine Ext.trans ?_ (by assumption))))).mono ?_); rintro E w1 ⟨rfl, hb1⟩; have A1 := Lib.hid (show At w1 [(w.heap.size, Obj.cells #[.int .i64 t.belt.step, .int .i64 t.belt.slip, .int .i64 t.belt.gate, .int .i64 t.belt.length, .int .i64 t.count, .int .i64 t.next, (.slice ao t.parts.length cap)] 47), (w.heap.size + 1, Obj.cells #[.int .i64 0, .int .i64 0, .int .i64 0, .int .i64 0, .int .i64 0, .int .i64 0, (.slice none 0 0)] 47)] from At.ext hb1 (show At _ [(w.heap.size, Obj.cells #[.int .i64 t.belt.step, .int .i64 t.belt.slip, .int .i64 t.belt.gate, .int .i64 t.belt.length, .int .i64 t.count, .int .i64 t.next, (.slice ao t.parts.length cap)] 47), (w.heap.size + 1, Obj.cells #[.int .i64 0, .int .i64 0, .int .i64 0, .int .i64 0, .int .i64 0, .int .i64 0, (.slice none 0 0)] 47)] from ⟨(by repeat (first | (refine blk_at _ _ ?_; (first | rfl | (simp only [size_one]; done))) | refine (blk_past _ _ (by simp only [size_one]; omega)).trans ?_)), (by repeat (first | (refine blk_at _ _ ?_; (first | rfl | (simp only [size_one]; done))) | refine (blk_past _ _ (by simp only [size_one]; omega)).trans ?_)), trivial⟩)); have E1 := Lib.hid (((show Ext w _ from (by repeat (first | exact Ext.refl _ | assumption | refine Ext.alloc ?_ _ | refine Ext.drewN ?_ _ | refine ext_grow ?_ _ _ | refine Ext.setCell ?_ (by first | exact Nat.le_refl _ | omega | (simp; done) | (simp; omega)) _ | refine Ext.trans ?_ (by assumption))))).trans hb1); obtain ⟨⟨c1_0_0, c1_0_1, c1_0_2, c1_0_3, c1_0_4, c1_0_5, c1_0_6⟩, f1_0_0, f1_0_1, f1_0_2, f1_0_3, f1_0_4, f1_0_5, f1_0_6⟩ := run_7 (At.at A1.out 0 rfl); have s1_0 : w.heap.size < w1.heap.size := At.lt A1.out 0 rfl; obtain ⟨⟨c1_1_0, c1_1_1, c1_1_2, c1_1_3, c1_1_4, c1_1_5, c1_1_6⟩, f1_1_0, f1_1_1, f1_1_2, f1_1_3, f1_1_4, f1_1_5, f1_1_6⟩ := run_7 (At.at A1.out 1 rfl); have s1_1 : w.heap.size + 1 < w1.heap.size := At.lt A1.out 1 rfl; have HS_1 := Lib.hid (SeensAt.ext ((SeensAt.ext HV.out (by repeat (first | exact Ext.refl _ | assumption | refine Ext.alloc ?_ _ | refine Ext.drewN ?_ _ | refine ext_grow ?_ _ _ | refine Ext.setCell ?_ (by first | exact Nat.le_refl _ | omega | (simp; done) | (simp; omega)) _ | refine Ext.trans ?_ (by assumption))))) hb1)))
      refine bodyPost_ret (results_row2 rfl _ _ (w.heap.size + 1) 47 _ (0, 0) _ rfl (store_7 (v0 := .int .i64 0) (v1 := .int .i64 0) (v2 := .int .i64 0) (v3 := .int .i64 0) (v4 := .int .i64 0) (v5 := .int .i64 0) (v6 := .slice none 0 0) (At.at A1.out 1 rfl)).1 Try.underlying47 rfl info47) rfl ?_
      exact OwnTell.bare ((store_7 (v0 := .int .i64 0) (v1 := .int .i64 0) (v2 := .int .i64 0) (v3 := .int .i64 0) (v4 := .int .i64 0) (v5 := .int .i64 0) (v6 := .slice none 0 0) (At.at A1.out 1 rfl)).2.2 w (by omega) E1.out)
  have hlate : tellR t id v = if place t.parts id < t.parts.length then if (t.parts.getD (place t.parts id) seen0).verdict ≠ 0 ∨ (t.parts.getD (place t.parts id) seen0).at_ + first t.belt ≤ t.count then (noTrack', 91) else (told t (place t.parts id) v, 0) else (noTrack', 6) := by
    unfold tellR; rw [if_pos hok, if_pos hv13]
  obtain ⟨hv1, hv3⟩ := hv13
  obtain ⟨⟨f1, f2⟩, -⟩ := win_bd hok.1
  have hg := And.intro hok.1.2.2.2.2.1 hok.1.2.2.2.2.2.1
  replace hok := hok.1
  have fdef : first t.belt = winFrom t.belt t.belt.gate := rfl
  have W53 := Lib.hid (fun w => w53 t.belt hok t.belt.gate hg.1 hg.2 w)
  obtain ⟨fi, hfi⟩ : ∃ fi, winFrom t.belt t.belt.gate = fi := ⟨_, rfl⟩
  rw [fdef, hfi] at f1 f2 hlate
  rw [hfi] at W53
  clear fdef hfi
  obtain ⟨r, hr9⟩ : ∃ r, tellR t id v = r := ⟨_, rfl⟩
  rw [hr9] at hlate ⊢
  have HR := Lib.hid hlate
  have HOK := Lib.hid hok
  clear hlate hr9 hok hg
  go_enter Try.func34, Try.ntmps34
  go_wp2_with (first | (go_at_call 28; (with_reducible refine (w28 t _ _ HS_2.out hl).mono ?_); rintro E w3 ⟨v3, rfl, o3, hb3⟩; have A3 := Lib.hid (show At w3 [(w.heap.size, Obj.cells #[.int .i64 t.belt.step, .int .i64 t.belt.slip, .int .i64 t.belt.gate, .int .i64 t.belt.length, .int .i64 t.count, .int .i64 t.next, (.slice ao t.parts.length cap)] 47), (w.heap.size + 1, Obj.cells #[.int .i64 0, .int .i64 0, .int .i64 0, .int .i64 0, .int .i64 0, .int .i64 0, (.slice none 0 0)] 47)] from At.ext hb3 A2.out); have E3 := Lib.hid ((E2.out).trans hb3); obtain ⟨⟨c3_0_0, c3_0_1, c3_0_2, c3_0_3, c3_0_4, c3_0_5, c3_0_6⟩, f3_0_0, f3_0_1, f3_0_2, f3_0_3, f3_0_4, f3_0_5, f3_0_6⟩ := run_7 (At.at A3.out 0 rfl); have s3_0 : w.heap.size < w3.heap.size := At.lt A3.out 0 rfl; obtain ⟨⟨c3_1_0, c3_1_1, c3_1_2, c3_1_3, c3_1_4, c3_1_5, c3_1_6⟩, f3_1_0, f3_1_1, f3_1_2, f3_1_3, f3_1_4, f3_1_5, f3_1_6⟩ := run_7 (At.at A3.out 1 rfl); have s3_1 : w.heap.size + 1 < w3.heap.size := At.lt A3.out 1 rfl; (try clear c2_0_0 c2_0_1 c2_0_2 c2_0_3 c2_0_4 c2_0_5 c2_0_6 f2_0_0 f2_0_1 f2_0_2 f2_0_3 f2_0_4 f2_0_5 f2_0_6 c2_1_0 c2_1_1 c2_1_2 c2_1_3 c2_1_4 c2_1_5 c2_1_6 f2_1_0 f2_1_1 f2_1_2 f2_1_3 f2_1_4 f2_1_5 f2_1_6 s2_0 s2_1); have HS_3 := Lib.hid (SeensAt.ext (HS_2.out) hb3); obtain ⟨-, sa, sc, hv3, -⟩ := SlAt.of_owns o3; subst hv3; have O3 := Lib.hid (owns_base (base' := w.heap.size + 2) o3 (by have := At.lt A2.out 1 rfl; omega)); clear o3) | (go_at_call 53; (with_reducible refine (W53.out _).mono ?_); rintro E w2 ⟨rfl, hb2⟩; have A2 := Lib.hid (show At w2 [(w.heap.size, Obj.cells #[.int .i64 t.belt.step, .int .i64 t.belt.slip, .int .i64 t.belt.gate, .int .i64 t.belt.length, .int .i64 t.count, .int .i64 t.next, (.slice ao t.parts.length cap)] 47), (w.heap.size + 1, Obj.cells #[.int .i64 0, .int .i64 0, .int .i64 0, .int .i64 0, .int .i64 0, .int .i64 0, (.slice none 0 0)] 47)] from At.ext hb2 A1.out); have E2 := Lib.hid ((E1.out).trans hb2); obtain ⟨⟨c2_0_0, c2_0_1, c2_0_2, c2_0_3, c2_0_4, c2_0_5, c2_0_6⟩, f2_0_0, f2_0_1, f2_0_2, f2_0_3, f2_0_4, f2_0_5, f2_0_6⟩ := run_7 (At.at A2.out 0 rfl); have s2_0 : w.heap.size < w2.heap.size := At.lt A2.out 0 rfl; obtain ⟨⟨c2_1_0, c2_1_1, c2_1_2, c2_1_3, c2_1_4, c2_1_5, c2_1_6⟩, f2_1_0, f2_1_1, f2_1_2, f2_1_3, f2_1_4, f2_1_5, f2_1_6⟩ := run_7 (At.at A2.out 1 rfl); have s2_1 : w.heap.size + 1 < w2.heap.size := At.lt A2.out 1 rfl; (try clear c1_0_0 c1_0_1 c1_0_2 c1_0_3 c1_0_4 c1_0_5 c1_0_6 f1_0_0 f1_0_1 f1_0_2 f1_0_3 f1_0_4 f1_0_5 f1_0_6 c1_1_0 c1_1_1 c1_1_2 c1_1_3 c1_1_4 c1_1_5 c1_1_6 f1_1_0 f1_1_1 f1_1_2 f1_1_3 f1_1_4 f1_1_5 f1_1_6 s1_0 s1_1); have HS_2 := Lib.hid (SeensAt.ext (HS_1.out) hb2)) | (go_at_call 36; (with_reducible refine (K36.out _ (SeensAt.ext HV.out (by repeat (first | exact Ext.refl _ | assumption | refine Ext.alloc ?_ _ | refine Ext.drewN ?_ _ | refine ext_grow ?_ _ _ | refine Ext.setCell ?_ (by first | exact Nat.le_refl _ | omega | (simp; done) | (simp; omega)) _ | refine Ext.trans ?_ (by assumption))))).mono ?_); rintro E w1 ⟨rfl, hb1⟩; have A1 := Lib.hid (show At w1 [(w.heap.size, Obj.cells #[.int .i64 t.belt.step, .int .i64 t.belt.slip, .int .i64 t.belt.gate, .int .i64 t.belt.length, .int .i64 t.count, .int .i64 t.next, (.slice ao t.parts.length cap)] 47), (w.heap.size + 1, Obj.cells #[.int .i64 0, .int .i64 0, .int .i64 0, .int .i64 0, .int .i64 0, .int .i64 0, (.slice none 0 0)] 47)] from At.ext hb1 (show At _ [(w.heap.size, Obj.cells #[.int .i64 t.belt.step, .int .i64 t.belt.slip, .int .i64 t.belt.gate, .int .i64 t.belt.length, .int .i64 t.count, .int .i64 t.next, (.slice ao t.parts.length cap)] 47), (w.heap.size + 1, Obj.cells #[.int .i64 0, .int .i64 0, .int .i64 0, .int .i64 0, .int .i64 0, .int .i64 0, (.slice none 0 0)] 47)] from ⟨(by repeat (first | (refine blk_at _ _ ?_; (first | rfl | (simp only [size_one]; done))) | refine (blk_past _ _ (by simp only [size_one]; omega)).trans ?_)), (by repeat (first | (refine blk_at _ _ ?_; (first | rfl | (simp only [size_one]; done))) | refine (blk_past _ _ (by simp only [size_one]; omega)).trans ?_)), trivial⟩)); have E1 := Lib.hid (((show Ext w _ from (by repeat (first | exact Ext.refl _ | assumption | refine Ext.alloc ?_ _ | refine Ext.drewN ?_ _ | refine ext_grow ?_ _ _ | refine Ext.setCell ?_ (by first | exact Nat.le_refl _ | omega | (simp; done) | (simp; omega)) _ | refine Ext.trans ?_ (by assumption))))).trans hb1); obtain ⟨⟨c1_0_0, c1_0_1, c1_0_2, c1_0_3, c1_0_4, c1_0_5, c1_0_6⟩, f1_0_0, f1_0_1, f1_0_2, f1_0_3, f1_0_4, f1_0_5, f1_0_6⟩ := run_7 (At.at A1.out 0 rfl); have s1_0 : w.heap.size < w1.heap.size := At.lt A1.out 0 rfl; obtain ⟨⟨c1_1_0, c1_1_1, c1_1_2, c1_1_3, c1_1_4, c1_1_5, c1_1_6⟩, f1_1_0, f1_1_1, f1_1_2, f1_1_3, f1_1_4, f1_1_5, f1_1_6⟩ := run_7 (At.at A1.out 1 rfl); have s1_1 : w.heap.size + 1 < w1.heap.size := At.lt A1.out 1 rfl; have HS_1 := Lib.hid (SeensAt.ext ((SeensAt.ext HV.out (by repeat (first | exact Ext.refl _ | assumption | refine Ext.alloc ?_ _ | refine Ext.drewN ?_ _ | refine ext_grow ?_ _ _ | refine Ext.setCell ?_ (by first | exact Nat.le_refl _ | omega | (simp; done) | (simp; omega)) _ | refine Ext.trans ?_ (by assumption))))) hb1)))
  go_loopw [11] (fun v wr => Ext w wr ∧ Hid (At wr [(w.heap.size, Obj.cells #[.int .i64 t.belt.step, .int .i64 t.belt.slip, .int .i64 t.belt.gate, .int .i64 t.belt.length, .int .i64 t.count, .int .i64 t.next, (.slice sa t.parts.length sc)] 47), (w.heap.size + 1, Obj.cells #[.int .i64 0, .int .i64 0, .int .i64 0, .int .i64 0, .int .i64 0, .int .i64 0, (.slice none 0 0)] 47)]) ∧ Hid (wr.ownsRow (w.heap.size + 2) 63 4 (.slice sa t.parts.length sc) t.parts.length (seens t.parts)) ∧ ∃ i : Nat, i ≤ t.parts.length ∧ v = .int .i64 i ∧ Hid (∀ j, j < i → (t.parts.getD j seen0).id ≠ id)) (fun v _ => t.parts.length - (intOf v).toNat)
  case atStart => exact ⟨((store_7 (v0 := .int .i64 t.belt.step) (v1 := .int .i64 t.belt.slip) (v2 := .int .i64 t.belt.gate) (v3 := .int .i64 t.belt.length) (v4 := .int .i64 t.count) (v5 := .int .i64 t.next) (v6 := (.slice sa t.parts.length sc)) (At.at A3.out 0 rfl)).2.2 w (by omega) E3.out), Lib.hid (show At _ [(w.heap.size, Obj.cells #[.int .i64 t.belt.step, .int .i64 t.belt.slip, .int .i64 t.belt.gate, .int .i64 t.belt.length, .int .i64 t.count, .int .i64 t.next, (.slice sa t.parts.length sc)] 47), (w.heap.size + 1, Obj.cells #[.int .i64 0, .int .i64 0, .int .i64 0, .int .i64 0, .int .i64 0, .int .i64 0, (.slice none 0 0)] 47)] from ⟨(store_7 (v0 := .int .i64 t.belt.step) (v1 := .int .i64 t.belt.slip) (v2 := .int .i64 t.belt.gate) (v3 := .int .i64 t.belt.length) (v4 := .int .i64 t.count) (v5 := .int .i64 t.next) (v6 := (.slice sa t.parts.length sc)) (At.at A3.out 0 rfl)).1, At.other (store_7 (v0 := .int .i64 t.belt.step) (v1 := .int .i64 t.belt.slip) (v2 := .int .i64 t.belt.gate) (v3 := .int .i64 t.belt.length) (v4 := .int .i64 t.count) (v5 := .int .i64 t.next) (v6 := (.slice sa t.parts.length sc)) (At.at A3.out 0 rfl)).2.1 (by first | (simp; done) | (simp; omega)) (At.erase A3.out 0)⟩), Lib.hid (own_seven O3.out (by omega)), 0, Nat.zero_le _, rfl, Lib.hid (fun j hj => by omega)⟩
  case round =>
    obtain ⟨hE, hA, hO, i, hi, rfl, hN⟩ := hrel
    obtain ⟨⟨c0, c1, c2, c3, c4, c5, c6⟩, d0, d1, d2, d3, d4, d5, d6⟩ := run_7 (At.at hA.out 0 rfl)
    obtain ⟨⟨e0, e1, e2, e3, e4, e5, e6⟩, p0, p1, p2, p3, p4, p5, p6⟩ := run_7 (At.at hA.out 1 rfl)
    have z0 := At.lt hA.out 0 rfl
    have z1 := At.lt hA.out 1 rfl
    by_cases hil : i < t.parts.length
    · obtain ⟨g, cp, e9, hgs, hcp⟩ := owns_some hO.out (by omega)
      injection e9 with e9 _ e8
      subst e9
      subst e8
      have y0 := (hO.out.cellAt (i * 4) (by omega)).trans (seens_get t.parts i 0 hil (by omega))
      have y1 := (hO.out.cellAt (i * 4 + 1) (by omega)).trans (seens_get t.parts i 1 hil (by omega))
      have y2 := (hO.out.cellAt (i * 4 + 2) (by omega)).trans (seens_get t.parts i 2 hil (by omega))
      obtain ⟨x, hx⟩ : ∃ x, t.parts.getD i seen0 = x := ⟨_, rfl⟩
      rw [hx] at y0 y1 y2
      have HX := Lib.hid hx
      have hin : partIn t x := hpi.out x (by rw [← hx, getD_get hil]; exact List.getElem_mem hil)
      have hplace : Hid (x.id = id → r = if x.verdict ≠ 0 ∨ x.at_ + fi ≤ t.count then (noTrack', 91) else (told t i v, 0)) := Lib.hid fun h => by
        have h1 := found_yes (id := id) hr.out hil (by rw [hx]; exact h)
        rw [HR.out, h1, if_pos hil, hx]
      obtain ⟨xi, xa, xv, xh⟩ := x
      obtain ⟨n1, n2, n3, n4, n5, n6, -⟩ := hin
      simp only [seenCells, List.getElem?_cons_zero, List.getElem?_cons_succ] at y0 y1 y2 n1 n2 n3 n4 n5 n6 hplace
      clear hx
      by_cases hid : xi = id
      · have HL := Lib.hid (hplace.out hid)
        have t0 : (xi != id) = false := by simp [hid]
        clear hid hplace
        by_cases g1 : xv = 0
        · by_cases g2 : xa + fi ≤ t.count
          · have LEAF : r = (noTrack', 91) := by rw [HL.out, if_pos (.inr g2)]
            have t1 : (xv != 0) = false := by simp [g1]
            have t2 : decide (xa + fi ≤ t.count) = true := decide_eq_true g2
            subst LEAF
            clear g1
            go_wp2_with fail
            go_quiet (fail)
            have hb4 : Ext wr (wr.drewN nq) := (Ext.refl _).drewN nq
            generalize hw4 : wr.drewN nq = w4 at hb4 ⊢
            clear hw4
            have A4 := Lib.hid (show At w4 [(w.heap.size, Obj.cells #[.int .i64 t.belt.step, .int .i64 t.belt.slip, .int .i64 t.belt.gate, .int .i64 t.belt.length, .int .i64 t.count, .int .i64 t.next, (.slice (some ⟨g, 0, none⟩) t.parts.length sc)] 47), (w.heap.size + 1, Obj.cells #[.int .i64 0, .int .i64 0, .int .i64 0, .int .i64 0, .int .i64 0, .int .i64 0, (.slice none 0 0)] 47)] from At.ext hb4 hA.out)
            have E4 := Lib.hid ((hE).trans hb4)
            obtain ⟨⟨c4_0_0, c4_0_1, c4_0_2, c4_0_3, c4_0_4, c4_0_5, c4_0_6⟩, f4_0_0, f4_0_1, f4_0_2, f4_0_3, f4_0_4, f4_0_5, f4_0_6⟩ := run_7 (At.at A4.out 0 rfl)
            have s4_0 : w.heap.size < w4.heap.size := At.lt A4.out 0 rfl
            obtain ⟨⟨c4_1_0, c4_1_1, c4_1_2, c4_1_3, c4_1_4, c4_1_5, c4_1_6⟩, f4_1_0, f4_1_1, f4_1_2, f4_1_3, f4_1_4, f4_1_5, f4_1_6⟩ := run_7 (At.at A4.out 1 rfl)
            have s4_1 : w.heap.size + 1 < w4.heap.size := At.lt A4.out 1 rfl
            clear hb4
            go_wp2_with fail
            refine bodyPost_ret (results_row2 rfl _ _ (w.heap.size + 1) 47 _ (0, 0) _ rfl (store_7 (v0 := .int .i64 0) (v1 := .int .i64 0) (v2 := .int .i64 0) (v3 := .int .i64 0) (v4 := .int .i64 0) (v5 := .int .i64 0) (v6 := .slice none 0 0) (At.at A4.out 1 rfl)).1 Try.underlying47 rfl info47) rfl ?_
            exact OwnTell.bare ((store_7 (v0 := .int .i64 0) (v1 := .int .i64 0) (v2 := .int .i64 0) (v3 := .int .i64 0) (v4 := .int .i64 0) (v5 := .int .i64 0) (v6 := .slice none 0 0) (At.at A4.out 1 rfl)).2.2 w (by omega) E4.out)
          · have LEAFok : r = (told t i v, 0) := by rw [HL.out, if_neg (by rintro (h | h) <;> omega)]
            have t1 : (xv != 0) = false := by simp [g1]
            have t2 : decide (xa + fi ≤ t.count) = false := decide_eq_false g2
            have LEAFok := Lib.hid LEAFok
            clear g1
            go_wp2_with fail
            go_quiet (fail)
            have hb4 : Ext wr (wr.drewN nq) := (Ext.refl _).drewN nq
            generalize hw4 : wr.drewN nq = w4 at hb4 ⊢
            have HB4 := hb4
            clear hw4
            have A4 := Lib.hid (show At w4 [(w.heap.size, Obj.cells #[.int .i64 t.belt.step, .int .i64 t.belt.slip, .int .i64 t.belt.gate, .int .i64 t.belt.length, .int .i64 t.count, .int .i64 t.next, (.slice (some ⟨g, 0, none⟩) t.parts.length sc)] 47), (w.heap.size + 1, Obj.cells #[.int .i64 0, .int .i64 0, .int .i64 0, .int .i64 0, .int .i64 0, .int .i64 0, (.slice none 0 0)] 47)] from At.ext hb4 hA.out)
            have E4 := Lib.hid ((hE).trans hb4)
            obtain ⟨⟨c4_0_0, c4_0_1, c4_0_2, c4_0_3, c4_0_4, c4_0_5, c4_0_6⟩, f4_0_0, f4_0_1, f4_0_2, f4_0_3, f4_0_4, f4_0_5, f4_0_6⟩ := run_7 (At.at A4.out 0 rfl)
            have s4_0 : w.heap.size < w4.heap.size := At.lt A4.out 0 rfl
            obtain ⟨⟨c4_1_0, c4_1_1, c4_1_2, c4_1_3, c4_1_4, c4_1_5, c4_1_6⟩, f4_1_0, f4_1_1, f4_1_2, f4_1_3, f4_1_4, f4_1_5, f4_1_6⟩ := run_7 (At.at A4.out 1 rfl)
            have s4_1 : w.heap.size + 1 < w4.heap.size := At.lt A4.out 1 rfl
            clear hb4
            have hO4 := owns_ext hO.out HB4
            have q1 := (hO4.cellAt (i * 4 + 2) (by omega)).trans (seens_get t.parts i 2 hil (by omega))
            have q2 := hO4.frozenAt (i * 4 + 2)
            rw [HX.out] at q1
            go_wp2_with fail
            refine bodyPost_ret (results_row2 rfl _ _ (w.heap.size + 1) 47 _ (0, 0) _ rfl (store_7 (v0 := .int .i64 t.belt.step) (v1 := .int .i64 t.belt.slip) (v2 := .int .i64 t.belt.gate) (v3 := .int .i64 t.belt.length) (v4 := .int .i64 t.count) (v5 := .int .i64 t.next) (v6 := (.slice (some ⟨g, 0, none⟩) t.parts.length sc)) (At.at (At.other (b := g) (set_at _ g (i * 4 + 2) (.int .u8 v)) (by simp; omega) A4.out) 1 rfl)).1 Try.underlying47 rfl info47) rfl ?_
            rw [LEAFok.out]
            refine ⟨(.slice (some ⟨g, 0, none⟩) t.parts.length sc), rfl, (show World.ownsRow _ _ 63 4 _ (told t i v).parts.length (seens (told t i v).parts) from ?_), (store_7 (v0 := .int .i64 t.belt.step) (v1 := .int .i64 t.belt.slip) (v2 := .int .i64 t.belt.gate) (v3 := .int .i64 t.belt.length) (v4 := .int .i64 t.count) (v5 := .int .i64 t.next) (v6 := (.slice (some ⟨g, 0, none⟩) t.parts.length sc)) (At.at (At.other (b := g) (set_at _ g (i * 4 + 2) (.int .u8 v)) (by simp; omega) A4.out) 1 rfl)).2.2 w (by omega) ((E4.out).setCell (by simp; omega) _)⟩
            have h := ((hO4).stored (i * 4 + 2) (.int .u8 v)).1
            rw [← seens_verdict t i v hil HX.out] at h
            rw [told_len]
            exact owns_base (own_seven h (by omega)) (by omega)
        · have LEAF : r = (noTrack', 91) := by rw [HL.out, if_pos (.inl g1)]
          have t1 : (xv != 0) = true := by simpa using g1
          subst LEAF
          clear g1
          go_wp2_with fail
          go_quiet (fail)
          have hb4 : Ext wr (wr.drewN nq) := (Ext.refl _).drewN nq
          generalize hw4 : wr.drewN nq = w4 at hb4 ⊢
          clear hw4
          have A4 := Lib.hid (show At w4 [(w.heap.size, Obj.cells #[.int .i64 t.belt.step, .int .i64 t.belt.slip, .int .i64 t.belt.gate, .int .i64 t.belt.length, .int .i64 t.count, .int .i64 t.next, (.slice (some ⟨g, 0, none⟩) t.parts.length sc)] 47), (w.heap.size + 1, Obj.cells #[.int .i64 0, .int .i64 0, .int .i64 0, .int .i64 0, .int .i64 0, .int .i64 0, (.slice none 0 0)] 47)] from At.ext hb4 hA.out)
          have E4 := Lib.hid ((hE).trans hb4)
          obtain ⟨⟨c4_0_0, c4_0_1, c4_0_2, c4_0_3, c4_0_4, c4_0_5, c4_0_6⟩, f4_0_0, f4_0_1, f4_0_2, f4_0_3, f4_0_4, f4_0_5, f4_0_6⟩ := run_7 (At.at A4.out 0 rfl)
          have s4_0 : w.heap.size < w4.heap.size := At.lt A4.out 0 rfl
          obtain ⟨⟨c4_1_0, c4_1_1, c4_1_2, c4_1_3, c4_1_4, c4_1_5, c4_1_6⟩, f4_1_0, f4_1_1, f4_1_2, f4_1_3, f4_1_4, f4_1_5, f4_1_6⟩ := run_7 (At.at A4.out 1 rfl)
          have s4_1 : w.heap.size + 1 < w4.heap.size := At.lt A4.out 1 rfl
          clear hb4
          go_wp2_with fail
          refine bodyPost_ret (results_row2 rfl _ _ (w.heap.size + 1) 47 _ (0, 0) _ rfl (store_7 (v0 := .int .i64 0) (v1 := .int .i64 0) (v2 := .int .i64 0) (v3 := .int .i64 0) (v4 := .int .i64 0) (v5 := .int .i64 0) (v6 := .slice none 0 0) (At.at A4.out 1 rfl)).1 Try.underlying47 rfl info47) rfl ?_
          exact OwnTell.bare ((store_7 (v0 := .int .i64 0) (v1 := .int .i64 0) (v2 := .int .i64 0) (v3 := .int .i64 0) (v4 := .int .i64 0) (v5 := .int .i64 0) (v6 := .slice none 0 0) (At.at A4.out 1 rfl)).2.2 w (by omega) E4.out)
      · have t0 : (xi != id) = true := by simpa using hid
        go_wp2_with fail
        go_roundw
        case rel => exact ⟨hE, hA, hO, i + 1, hil, by go_num, Lib.hid (fun j hj => by
          rcases Nat.lt_or_ge j i with h9 | h9
          · exact hN.out j h9
          · obtain rfl : j = i := by omega
            rw [HX.out]; exact hid)⟩
        case measure => simp [intOf]; omega
    · have LEAF : r = (noTrack', 6) := by
        rw [HR.out, if_neg (found_no fun k hk => hN.out k (by omega))]
      subst LEAF
      go_wp2_with fail
      refine bodyPost_ret (results_row2 rfl _ _ (w.heap.size + 1) 47 _ (0, 0) _ rfl (store_7 (v0 := .int .i64 0) (v1 := .int .i64 0) (v2 := .int .i64 0) (v3 := .int .i64 0) (v4 := .int .i64 0) (v5 := .int .i64 0) (v6 := .slice none 0 0) (At.at hA.out 1 rfl)).1 Try.underlying47 rfl info47) rfl ?_
      exact OwnTell.bare ((store_7 (v0 := .int .i64 0) (v1 := .int .i64 0) (v2 := .int .i64 0) (v3 := .int .i64 0) (v4 := .int .i64 0) (v5 := .int .i64 0) (v6 := .slice none 0 0) (At.at hA.out 1 rfl)).2.2 w (by omega) hE)
end Go.Proofs.Ytcbimfaneinpkaa
