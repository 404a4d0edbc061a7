/- 'Check': the walk. -/
import Derived.Test.YtipkjdfnoonpcaaCheckR
import Derived.Test.YtipkjdfnoonpcaaProved
set_option linter.unusedVariables false
set_option linter.unusedSimpArgs false
namespace Go.Proofs.Ytipkjdfnoonpcaa
open Go.RowKit Go.Sort

set_option maxRecDepth 100000 in
set_option maxHeartbeats 16000000 in
theorem c33 (m : Img) (v : Value) (t : Tpl) (tv : Value) (limit : Int) (ms : List Match) (ar : List Area) (mv av : Value) (w : World) (hv : IntsAt w v m.pix) (hml : m.pix.length ≤ maxLen) (htv : IntsAt w tv t.pix) (htl : t.pix.length ≤ maxLen) (h1 : MatchesAt w mv ms) (h2 : AreasAt w av ar) (n1 : ms.length ≤ 13000) (n2 : ar.length ≤ 13000) :
    Calls Try.prog 33 #[imgVal m v, tplVal t tv, .int .i64 limit, searchVal mv av] w fun e w' => e = .returned (.int .i64 (checkR m t limit ms ar)) ∧ Ext w w' := by
  have HV := Lib.hid hv
  have HTV := Lib.hid htv
  have HMS := Lib.hid h1
  have HAR := Lib.hid h2
  obtain ⟨mo, mc, rfl, -, -⟩ := hv.form
  obtain ⟨to, tc, rfl, -, -⟩ := htv.form
  obtain ⟨m1, mc1, rfl, -, -⟩ := h1.form
  obtain ⟨a1, ac1, rfl, -, -⟩ := h2.form
  have K67 := Lib.hid (fun w' (h : Ext w w') => c67 m _ t _ w' (HV.out.ext h) hml (HTV.out.ext h) htl)
  have K74 := fun (g1 : m.Camera) (g2 : t.Ok) (g3 : 0 ≤ limit ∧ limit ≤ 16320) => Lib.hid (fun w' (h : Ext w w') => c73 m _ t _ limit ms ar _ _ w' g1 g2 g3 (HV.out.ext h) (HTV.out.ext h) (HMS.out.ext h) (HAR.out.ext h) n1 n2)
  unfold imgVal tplVal searchVal at *
  clear hv htv h1 h2 hml htl
  by_cases h0 : checkE m t = 0
  case neg =>
    obtain ⟨r, hr⟩ : ∃ r, checkE m t = r := ⟨_, rfl⟩
    have q0 : (r != 0) = true := by simpa [hr] using h0
    have hR := Lib.hid (show checkR m t limit ms ar = r from by unfold checkR; rw [if_neg h0, hr])
    rw [hr] at K67
    clear h0 hr K74
    go_enter Try.func33, Try.ntmps33
    go_wp2_with (go_at_call 67; (with_reducible refine (K67.out _ (by repeat (first | exact Ext.refl _ | assumption | refine Ext.alloc ?_ _ | refine Ext.drewN ?_ _ | refine ext_grow ?_ _ _ | refine Ext.trans ?_ (by assumption)))).mono ?_); rintro E w1 ⟨rfl, hb1⟩; have A1 := Lib.hid (show At w1 [(w.heap.size + 1 + 1, Obj.cells #[.slice m1 ms.length mc1, .slice a1 ar.length ac1] 63), (w.heap.size + 1, Obj.cells #[.int .i64 t.w, .int .i64 t.h, .slice to t.pix.length tc] 43), (w.heap.size, Obj.cells #[.int .i64 m.w, .int .i64 m.h, .slice mo m.pix.length mc] 24)] from At.ext hb1 ⟨(by repeat (first | (refine blk_at _ _ ?_; (first | rfl | (simp only [size_one]; done))) | refine (blk_past _ _ (by simp only [size_one]; omega)).trans ?_)), (by repeat (first | (refine blk_at _ _ ?_; (first | rfl | (simp only [size_one]; done))) | refine (blk_past _ _ (by simp only [size_one]; omega)).trans ?_)), (by repeat (first | (refine blk_at _ _ ?_; (first | rfl | (simp only [size_one]; done))) | refine (blk_past _ _ (by simp only [size_one]; omega)).trans ?_)), trivial⟩); have E1 := Lib.hid (show Ext w w1 from (by repeat (first | exact Ext.refl _ | assumption | refine Ext.alloc ?_ _ | refine Ext.drewN ?_ _ | refine ext_grow ?_ _ _ | refine Ext.trans ?_ (by assumption)))); obtain ⟨⟨x00, x01⟩, -⟩ := run_2 (At.at A1.out 0 rfl); obtain ⟨⟨x10, x11, x12⟩, -⟩ := run_3 (At.at A1.out 1 rfl); obtain ⟨⟨x20, x21, x22⟩, -⟩ := run_3 (At.at A1.out 2 rfl); have xz0 := At.lt A1.out 0 rfl; have xy0 := Nat.lt_succ_of_lt xz0; have xx0 := Nat.lt_succ_of_lt xy0; have xz1 := At.lt A1.out 1 rfl; have xy1 := Nat.lt_succ_of_lt xz1; have xx1 := Nat.lt_succ_of_lt xy1; have xz2 := At.lt A1.out 2 rfl; have xy2 := Nat.lt_succ_of_lt xz2; have xx2 := Nat.lt_succ_of_lt xy2)
    go_ret
    exact ⟨ret_int hR.out.symm, E1.out⟩
  obtain ⟨g1, g2⟩ := check_ok h0
  rw [h0] at K67
  by_cases h1 : 0 ≤ limit ∧ limit ≤ 16320
  case neg =>
    have q1 : decide (0 ≤ limit ∧ limit ≤ 16320) = false := decide_eq_false h1
    have hR := Lib.hid (show checkR m t limit ms ar = 2 from by unfold checkR; rw [if_pos h0, if_neg h1])
    clear h0 h1 K74 g1 g2
    go_enter Try.func33, Try.ntmps33
    go_wp2_with (first | (go_at_call 50; (with_reducible refine (within_one_same 50 (.inl rfl) _ _ _ _ _ (by simp)).mono ?_); rintro e w' ⟨rfl, rfl⟩) | (go_at_call 67; (with_reducible refine (K67.out _ (by repeat (first | exact Ext.refl _ | assumption | refine Ext.alloc ?_ _ | refine Ext.drewN ?_ _ | refine ext_grow ?_ _ _ | refine Ext.trans ?_ (by assumption)))).mono ?_); rintro E w1 ⟨rfl, hb1⟩; have A1 := Lib.hid (show At w1 [(w.heap.size + 1 + 1, Obj.cells #[.slice m1 ms.length mc1, .slice a1 ar.length ac1] 63), (w.heap.size + 1, Obj.cells #[.int .i64 t.w, .int .i64 t.h, .slice to t.pix.length tc] 43), (w.heap.size, Obj.cells #[.int .i64 m.w, .int .i64 m.h, .slice mo m.pix.length mc] 24)] from At.ext hb1 ⟨(by repeat (first | (refine blk_at _ _ ?_; (first | rfl | (simp only [size_one]; done))) | refine (blk_past _ _ (by simp only [size_one]; omega)).trans ?_)), (by repeat (first | (refine blk_at _ _ ?_; (first | rfl | (simp only [size_one]; done))) | refine (blk_past _ _ (by simp only [size_one]; omega)).trans ?_)), (by repeat (first | (refine blk_at _ _ ?_; (first | rfl | (simp only [size_one]; done))) | refine (blk_past _ _ (by simp only [size_one]; omega)).trans ?_)), trivial⟩); have E1 := Lib.hid (show Ext w w1 from (by repeat (first | exact Ext.refl _ | assumption | refine Ext.alloc ?_ _ | refine Ext.drewN ?_ _ | refine ext_grow ?_ _ _ | refine Ext.trans ?_ (by assumption)))); obtain ⟨⟨x00, x01⟩, -⟩ := run_2 (At.at A1.out 0 rfl); obtain ⟨⟨x10, x11, x12⟩, -⟩ := run_3 (At.at A1.out 1 rfl); obtain ⟨⟨x20, x21, x22⟩, -⟩ := run_3 (At.at A1.out 2 rfl); have xz0 := At.lt A1.out 0 rfl; have xy0 := Nat.lt_succ_of_lt xz0; have xx0 := Nat.lt_succ_of_lt xy0; have xz1 := At.lt A1.out 1 rfl; have xy1 := Nat.lt_succ_of_lt xz1; have xx1 := Nat.lt_succ_of_lt xy1; have xz2 := At.lt A1.out 2 rfl; have xy2 := Nat.lt_succ_of_lt xz2; have xx2 := Nat.lt_succ_of_lt xy2))
    go_ret
    exact ⟨ret_int hR.out.symm, E1.out.trans (by repeat (first | exact Ext.refl _ | assumption | refine Ext.alloc ?_ _ | refine Ext.drewN ?_ _ | refine ext_grow ?_ _ _ | refine Ext.trans ?_ (by assumption)))⟩
  have q1 : decide (0 ≤ limit ∧ limit ≤ 16320) = true := decide_eq_true h1
  have hR := Lib.hid (show checkR m t limit ms ar = provedR m t limit ms ar from by unfold checkR; rw [if_pos h0, if_pos h1])
  replace K74 := K74 g1 g2 h1
  clear h0 h1 g1 g2
  go_enter Try.func33, Try.ntmps33
  go_wp2_with (first | (go_at_call 50; (with_reducible refine (within_one_same 50 (.inl rfl) _ _ _ _ _ (by simp)).mono ?_); rintro e w' ⟨rfl, rfl⟩) | (have _q := E1; go_at_call 73; (with_reducible refine (K74.out _ (E1.out.trans (by repeat (first | exact Ext.refl _ | assumption | refine Ext.alloc ?_ _ | refine Ext.drewN ?_ _ | refine ext_grow ?_ _ _ | refine Ext.trans ?_ (by assumption))))).mono ?_); rintro E w3 ⟨c, rfl, hc, hb3⟩; have HC := Lib.hid hc; clear hc; have E3 := Lib.hid (show Ext w w3 from E1.out.trans (Ext.trans (by repeat (first | exact Ext.refl _ | assumption | refine Ext.alloc ?_ _ | refine Ext.drewN ?_ _ | refine ext_grow ?_ _ _ | refine Ext.trans ?_ (by assumption))) hb3)); cases c) | (go_at_call 67; (with_reducible refine (K67.out _ (by repeat (first | exact Ext.refl _ | assumption | refine Ext.alloc ?_ _ | refine Ext.drewN ?_ _ | refine ext_grow ?_ _ _ | refine Ext.trans ?_ (by assumption)))).mono ?_); rintro E w1 ⟨rfl, hb1⟩; have A1 := Lib.hid (show At w1 [(w.heap.size + 1 + 1, Obj.cells #[.slice m1 ms.length mc1, .slice a1 ar.length ac1] 63), (w.heap.size + 1, Obj.cells #[.int .i64 t.w, .int .i64 t.h, .slice to t.pix.length tc] 43), (w.heap.size, Obj.cells #[.int .i64 m.w, .int .i64 m.h, .slice mo m.pix.length mc] 24)] from At.ext hb1 ⟨(by repeat (first | (refine blk_at _ _ ?_; (first | rfl | (simp only [size_one]; done))) | refine (blk_past _ _ (by simp only [size_one]; omega)).trans ?_)), (by repeat (first | (refine blk_at _ _ ?_; (first | rfl | (simp only [size_one]; done))) | refine (blk_past _ _ (by simp only [size_one]; omega)).trans ?_)), (by repeat (first | (refine blk_at _ _ ?_; (first | rfl | (simp only [size_one]; done))) | refine (blk_past _ _ (by simp only [size_one]; omega)).trans ?_)), trivial⟩); have E1 := Lib.hid (show Ext w w1 from (by repeat (first | exact Ext.refl _ | assumption | refine Ext.alloc ?_ _ | refine Ext.drewN ?_ _ | refine ext_grow ?_ _ _ | refine Ext.trans ?_ (by assumption)))); obtain ⟨⟨x00, x01⟩, -⟩ := run_2 (At.at A1.out 0 rfl); obtain ⟨⟨x10, x11, x12⟩, -⟩ := run_3 (At.at A1.out 1 rfl); obtain ⟨⟨x20, x21, x22⟩, -⟩ := run_3 (At.at A1.out 2 rfl); have xz0 := At.lt A1.out 0 rfl; have xy0 := Nat.lt_succ_of_lt xz0; have xx0 := Nat.lt_succ_of_lt xy0; have xz1 := At.lt A1.out 1 rfl; have xy1 := Nat.lt_succ_of_lt xz1; have xx1 := Nat.lt_succ_of_lt xy1; have xz2 := At.lt A1.out 2 rfl; have xy2 := Nat.lt_succ_of_lt xz2; have xx2 := Nat.lt_succ_of_lt xy2))
  · go_ret
    exact ⟨ret_int (by rw [hR.out, provedR_no (fun h => by cases HC.out.2 h)]), E3.out⟩
  · go_ret
    exact ⟨ret_int (by rw [hR.out, provedR_yes (HC.out.1 (by first | rfl | trivial))]), E3.out⟩
end Go.Proofs.Ytipkjdfnoonpcaa
