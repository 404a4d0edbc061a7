/- The walk of layer 1's Parse, and what it answers. -/
import Derived.Test.YtodoimeiklilhaaDoorGWhole
import Derived.Test.YtodoimeiklilhaaDoorGRef
import Derived.Test.YtodoimeiklilhaaDoorShelfParse
import Derived.Lib.AtoiErrMem
import Derived.Lib.AtoiAllCases
set_option linter.unusedVariables false
set_option linter.unusedSimpArgs false
namespace Go.Proofs.YtodoimeiklilhaaDoor
open Go.RowKit Go.Sort

/-- the library's own variables that Cut and Atoi read hold something of their kind -/
def LibV (w : World) : Prop := (∃ m, w.cell? ⟨2, 0, none⟩ = some (.int .i64 m)) ∧ (∃ ev, w.cell? ⟨3, 0, none⟩ = some ev ∧ (ev = .nilIface ∨ ∃ te pe, ev = .iface te pe)) ∧
  ∃ ev, w.cell? ⟨4, 0, none⟩ = some ev ∧ (ev = .nilIface ∨ ∃ te pe, ev = .iface te pe)
theorem LibV.ext {w w' : World} (h : LibV w) (hE : Ext w w') : LibV w' := by
  obtain ⟨⟨m, hm⟩, ⟨a, ha, ka⟩, ⟨b, hb, kb⟩⟩ := h
  exact ⟨⟨m, hE.get hm⟩, ⟨a, hE.get ha, ka⟩, ⟨b, hE.get hb, kb⟩⟩
theorem c_cut (s sep : ByteArray) (hs : s.size < 4294967281) (w : World) (h : LibV w) :
    Calls Tryd.prog 51 #[.string s, .string sep] w fun e w' => e = .returned (.tuple #[.string ⟨(Lib.cut s.data.toList sep.data.toList).1.toArray⟩, .string ⟨(Lib.cut s.data.toList sep.data.toList).2.1.toArray⟩, .bool (Lib.cut s.data.toList sep.data.toList).2.2]) ∧ Ext w w' := by
  obtain ⟨m, hm⟩ := h.1
  refine (Tryd.strings_Cut s sep m w hs hm).mono ?_
  rintro e w' ⟨rfl, n, rfl⟩
  exact ⟨rfl, (Ext.refl w).drewN n⟩
theorem c_atoi_ok (s : ByteArray) (hs : s.size ≤ 4294967281) (v : Int) (h : Lib.atoiAll s.data.toList = .ok v) (w : World) :
    Calls Tryd.prog 52 #[.string s] w fun e w' => e = .returned (.tuple #[.int .i64 v, .nilIface]) ∧ Ext w w' := by
  refine (Tryd.strconv_Atoi_ok s (by omega) v h w).mono ?_
  rintro e w' ⟨rfl, rfl | ⟨t, rfl⟩⟩
  · exact ⟨rfl, Ext.refl _⟩
  · exact ⟨rfl, Lib.bytesWorld_below _ _ _⟩
theorem c_atoi_bad (s : ByteArray) (hs : s.size ≤ 4294967281) (h : ∀ v, Lib.atoiAll s.data.toList ≠ .ok v) (w : World) (hv : LibV w) :
    Calls Tryd.prog 52 #[.string s] w fun E w' => ∃ (v : Int) (n : Nat), E = .returned (.tuple #[.int .i64 v, .iface 133 (.pointer (some ⟨n, 0, none⟩))]) ∧ Ext w w' := by
  obtain ⟨-, ⟨a, ha, ka⟩, ⟨b, hb, kb⟩⟩ := hv
  cases e : Lib.atoiAll s.data.toList with
  | ok v => exact absurd e (h v)
  | range =>
    refine (Tryd.strconv_Atoi_range s (by omega) e b w hb kb).mono ?_
    rintro E w' ⟨n, rfl, -, -, hE⟩
    exact ⟨_, n, rfl, hE⟩
  | _ =>
    refine (Tryd.strconv_Atoi_syntax s (by omega) (fun v h => by rw [e] at h; cases h) (fun h => by rw [e] at h; cases h) a w ha ka).mono ?_
    rintro E w' ⟨n, rfl, -, -, hE⟩
    exact ⟨_, n, rfl, hE⟩
set_option maxRecDepth 100000 in
set_option maxHeartbeats 8000000 in
theorem parse_ll (s L R0 R tx : ByteArray) (t : Bool) (n d : Int) (w : World) (hL : LibV w) (hP : Pow w) (hR : R = if t = true then R0 else ⟨#[49]⟩)
    (kc : ∀ w, LibV w → Calls Tryd.prog 51 #[.string s, .string ⟨#[47]⟩] w fun E w' => E = .returned (.tuple #[.string L, .string R0, .bool t]) ∧ Ext w w')
    (k1 : ∀ w, LibV w → Calls Tryd.prog 52 #[.string L] w fun E w' => ∃ (v : Int) (n : Nat), E = .returned (.tuple #[.int .i64 v, .iface 133 (.pointer (some ⟨n, 0, none⟩))]) ∧ Ext w w')
    (k2 : ∀ w, LibV w → Calls Tryd.prog 52 #[.string R] w fun E w' => E = .returned (.tuple #[.int .i64 d, .nilIface]) ∧ Ext w w') :
    Calls Tryd.prog 19 #[.string s] w fun e w' => e = .returned (fansV (⟨0, 0⟩, 11)) ∧ Ext w w' := by
  have HL := Lib.hid hL
  have HP := Lib.hid hP
  have KC := Lib.hid kc
  have K1 := Lib.hid k1
  have K2 := Lib.hid k2
  clear hL hP kc k1 k2
  cases t
  · obtain rfl : R = ⟨#[49]⟩ := hR
    go_enter Tryd.func19, Tryd.ntmps19
    go_wp2_with (first | (go_at_call 51; (with_reducible refine (KC.out _ (HL.out.ext (show Ext w _ from (by repeat (first | exact Ext.refl _ | assumption | refine Ext.alloc ?_ _ | refine Ext.drewN ?_ _ | refine ext_grow ?_ _ _ | refine Ext.setCell ?_ (by first | exact Nat.le_refl _ | omega | (simp; done) | (simp; omega)) _ | refine Ext.trans ?_ (by assumption)))))).mono ?_); rintro E w1 ⟨rfl, hb1⟩; have A1 := Lib.hid (show At w1 [(w.heap.size, Obj.cells #[.int .i64 0, .int .i64 0] 23)] from At.ext hb1 (show At _ [(w.heap.size, Obj.cells #[.int .i64 0, .int .i64 0] 23)] from ⟨(by repeat (first | (refine blk_at _ _ ?_; (first | rfl | (simp only [size_one]; done))) | refine (blk_past _ _ (by simp only [size_one]; omega)).trans ?_)), trivial⟩)); have E1 := Lib.hid (((show Ext w _ from (by repeat (first | exact Ext.refl _ | assumption | refine Ext.alloc ?_ _ | refine Ext.drewN ?_ _ | refine ext_grow ?_ _ _ | refine Ext.setCell ?_ (by first | exact Nat.le_refl _ | omega | (simp; done) | (simp; omega)) _ | refine Ext.trans ?_ (by assumption))))).trans hb1); obtain ⟨c1_0_0, c1_0_1, f1_0_0, f1_0_1⟩ := run_pair (At.at A1.out 0 rfl); have s1_0 : w.heap.size < w1.heap.size := At.lt A1.out 0 rfl) | (go_at_call 52; (with_reducible refine (K1.out _ (HL.out.ext E1.out)).mono ?_); rintro E w2 ⟨v2, n2, rfl, hb2⟩; have A2 := Lib.hid (show At w2 [(w.heap.size, Obj.cells #[.int .i64 0, .int .i64 0] 23)] from At.ext hb2 A1.out); have E2 := Lib.hid ((E1.out).trans hb2); obtain ⟨c2_0_0, c2_0_1, f2_0_0, f2_0_1⟩ := run_pair (At.at A2.out 0 rfl); have s2_0 : w.heap.size < w2.heap.size := At.lt A2.out 0 rfl; (try clear c1_0_0 c1_0_1 f1_0_0 f1_0_1 s1_0)) | (go_at_call 52; (with_reducible refine (K2.out _ (HL.out.ext E2.out)).mono ?_); rintro E w3 ⟨rfl, hb3⟩; have A3 := Lib.hid (show At w3 [(w.heap.size, Obj.cells #[.int .i64 0, .int .i64 0] 23)] from At.ext hb3 A2.out); have E3 := Lib.hid ((E2.out).trans hb3); obtain ⟨c3_0_0, c3_0_1, f3_0_0, f3_0_1⟩ := run_pair (At.at A3.out 0 rfl); have s3_0 : w.heap.size < w3.heap.size := At.lt A3.out 0 rfl; (try clear c2_0_0 c2_0_1 f2_0_0 f2_0_1 s2_0)))
    refine bodyPost_ret (RT.results_row2 rfl _ _ (w.heap.size) 23 #[.int .i64 0, .int .i64 0] (0, 0) _ rfl (store_pair (v0 := .int .i64 0) (v1 := .int .i64 0) (At.at A3.out 0 rfl)).1 Tryd.underlying23 rfl info_frac) rfl ?_
    exact ⟨rfl, (store_pair (v0 := .int .i64 0) (v1 := .int .i64 0) (At.at A3.out 0 rfl)).2.2 w (Nat.le_refl _) E3.out⟩
  · obtain rfl : R = R0 := hR
    go_enter Tryd.func19, Tryd.ntmps19
    go_wp2_with (first | (go_at_call 51; (with_reducible refine (KC.out _ (HL.out.ext (show Ext w _ from (by repeat (first | exact Ext.refl _ | assumption | refine Ext.alloc ?_ _ | refine Ext.drewN ?_ _ | refine ext_grow ?_ _ _ | refine Ext.setCell ?_ (by first | exact Nat.le_refl _ | omega | (simp; done) | (simp; omega)) _ | refine Ext.trans ?_ (by assumption)))))).mono ?_); rintro E w1 ⟨rfl, hb1⟩; have A1 := Lib.hid (show At w1 [(w.heap.size, Obj.cells #[.int .i64 0, .int .i64 0] 23)] from At.ext hb1 (show At _ [(w.heap.size, Obj.cells #[.int .i64 0, .int .i64 0] 23)] from ⟨(by repeat (first | (refine blk_at _ _ ?_; (first | rfl | (simp only [size_one]; done))) | refine (blk_past _ _ (by simp only [size_one]; omega)).trans ?_)), trivial⟩)); have E1 := Lib.hid (((show Ext w _ from (by repeat (first | exact Ext.refl _ | assumption | refine Ext.alloc ?_ _ | refine Ext.drewN ?_ _ | refine ext_grow ?_ _ _ | refine Ext.setCell ?_ (by first | exact Nat.le_refl _ | omega | (simp; done) | (simp; omega)) _ | refine Ext.trans ?_ (by assumption))))).trans hb1); obtain ⟨c1_0_0, c1_0_1, f1_0_0, f1_0_1⟩ := run_pair (At.at A1.out 0 rfl); have s1_0 : w.heap.size < w1.heap.size := At.lt A1.out 0 rfl) | (go_at_call 52; (with_reducible refine (K1.out _ (HL.out.ext E1.out)).mono ?_); rintro E w2 ⟨v2, n2, rfl, hb2⟩; have A2 := Lib.hid (show At w2 [(w.heap.size, Obj.cells #[.int .i64 0, .int .i64 0] 23)] from At.ext hb2 A1.out); have E2 := Lib.hid ((E1.out).trans hb2); obtain ⟨c2_0_0, c2_0_1, f2_0_0, f2_0_1⟩ := run_pair (At.at A2.out 0 rfl); have s2_0 : w.heap.size < w2.heap.size := At.lt A2.out 0 rfl; (try clear c1_0_0 c1_0_1 f1_0_0 f1_0_1 s1_0)) | (go_at_call 52; (with_reducible refine (K2.out _ (HL.out.ext E2.out)).mono ?_); rintro E w3 ⟨rfl, hb3⟩; have A3 := Lib.hid (show At w3 [(w.heap.size, Obj.cells #[.int .i64 0, .int .i64 0] 23)] from At.ext hb3 A2.out); have E3 := Lib.hid ((E2.out).trans hb3); obtain ⟨c3_0_0, c3_0_1, f3_0_0, f3_0_1⟩ := run_pair (At.at A3.out 0 rfl); have s3_0 : w.heap.size < w3.heap.size := At.lt A3.out 0 rfl; (try clear c2_0_0 c2_0_1 f2_0_0 f2_0_1 s2_0)))
    refine bodyPost_ret (RT.results_row2 rfl _ _ (w.heap.size) 23 #[.int .i64 0, .int .i64 0] (0, 0) _ rfl (store_pair (v0 := .int .i64 0) (v1 := .int .i64 0) (At.at A3.out 0 rfl)).1 Tryd.underlying23 rfl info_frac) rfl ?_
    exact ⟨rfl, (store_pair (v0 := .int .i64 0) (v1 := .int .i64 0) (At.at A3.out 0 rfl)).2.2 w (Nat.le_refl _) E3.out⟩
set_option maxRecDepth 100000 in
set_option maxHeartbeats 8000000 in
theorem parse_lb (s L R0 R tx : ByteArray) (t : Bool) (n d : Int) (w : World) (hL : LibV w) (hP : Pow w) (hR : R = if t = true then R0 else ⟨#[49]⟩)
    (kc : ∀ w, LibV w → Calls Tryd.prog 51 #[.string s, .string ⟨#[47]⟩] w fun E w' => E = .returned (.tuple #[.string L, .string R0, .bool t]) ∧ Ext w w')
    (k1 : ∀ w, LibV w → Calls Tryd.prog 52 #[.string L] w fun E w' => ∃ (v : Int) (n : Nat), E = .returned (.tuple #[.int .i64 v, .iface 133 (.pointer (some ⟨n, 0, none⟩))]) ∧ Ext w w')
    (k2 : ∀ w, LibV w → Calls Tryd.prog 52 #[.string R] w fun E w' => ∃ (v : Int) (n : Nat), E = .returned (.tuple #[.int .i64 v, .iface 133 (.pointer (some ⟨n, 0, none⟩))]) ∧ Ext w w') :
    Calls Tryd.prog 19 #[.string s] w fun e w' => e = .returned (fansV (⟨0, 0⟩, 11)) ∧ Ext w w' := by
  have HL := Lib.hid hL
  have HP := Lib.hid hP
  have KC := Lib.hid kc
  have K1 := Lib.hid k1
  have K2 := Lib.hid k2
  clear hL hP kc k1 k2
  cases t
  · obtain rfl : R = ⟨#[49]⟩ := hR
    go_enter Tryd.func19, Tryd.ntmps19
    go_wp2_with (first | (go_at_call 51; (with_reducible refine (KC.out _ (HL.out.ext (show Ext w _ from (by repeat (first | exact Ext.refl _ | assumption | refine Ext.alloc ?_ _ | refine Ext.drewN ?_ _ | refine ext_grow ?_ _ _ | refine Ext.setCell ?_ (by first | exact Nat.le_refl _ | omega | (simp; done) | (simp; omega)) _ | refine Ext.trans ?_ (by assumption)))))).mono ?_); rintro E w1 ⟨rfl, hb1⟩; have A1 := Lib.hid (show At w1 [(w.heap.size, Obj.cells #[.int .i64 0, .int .i64 0] 23)] from At.ext hb1 (show At _ [(w.heap.size, Obj.cells #[.int .i64 0, .int .i64 0] 23)] from ⟨(by repeat (first | (refine blk_at _ _ ?_; (first | rfl | (simp only [size_one]; done))) | refine (blk_past _ _ (by simp only [size_one]; omega)).trans ?_)), trivial⟩)); have E1 := Lib.hid (((show Ext w _ from (by repeat (first | exact Ext.refl _ | assumption | refine Ext.alloc ?_ _ | refine Ext.drewN ?_ _ | refine ext_grow ?_ _ _ | refine Ext.setCell ?_ (by first | exact Nat.le_refl _ | omega | (simp; done) | (simp; omega)) _ | refine Ext.trans ?_ (by assumption))))).trans hb1); obtain ⟨c1_0_0, c1_0_1, f1_0_0, f1_0_1⟩ := run_pair (At.at A1.out 0 rfl); have s1_0 : w.heap.size < w1.heap.size := At.lt A1.out 0 rfl) | (go_at_call 52; (with_reducible refine (K1.out _ (HL.out.ext E1.out)).mono ?_); rintro E w2 ⟨v2, n2, rfl, hb2⟩; have A2 := Lib.hid (show At w2 [(w.heap.size, Obj.cells #[.int .i64 0, .int .i64 0] 23)] from At.ext hb2 A1.out); have E2 := Lib.hid ((E1.out).trans hb2); obtain ⟨c2_0_0, c2_0_1, f2_0_0, f2_0_1⟩ := run_pair (At.at A2.out 0 rfl); have s2_0 : w.heap.size < w2.heap.size := At.lt A2.out 0 rfl; (try clear c1_0_0 c1_0_1 f1_0_0 f1_0_1 s1_0)) | (go_at_call 52; (with_reducible refine (K2.out _ (HL.out.ext E2.out)).mono ?_); rintro E w3 ⟨v3, n3, rfl, hb3⟩; have A3 := Lib.hid (show At w3 [(w.heap.size, Obj.cells #[.int .i64 0, .int .i64 0] 23)] from At.ext hb3 A2.out); have E3 := Lib.hid ((E2.out).trans hb3); obtain ⟨c3_0_0, c3_0_1, f3_0_0, f3_0_1⟩ := run_pair (At.at A3.out 0 rfl); have s3_0 : w.heap.size < w3.heap.size := At.lt A3.out 0 rfl; (try clear c2_0_0 c2_0_1 f2_0_0 f2_0_1 s2_0)))
    refine bodyPost_ret (RT.results_row2 rfl _ _ (w.heap.size) 23 #[.int .i64 0, .int .i64 0] (0, 0) _ rfl (store_pair (v0 := .int .i64 0) (v1 := .int .i64 0) (At.at A3.out 0 rfl)).1 Tryd.underlying23 rfl info_frac) rfl ?_
    exact ⟨rfl, (store_pair (v0 := .int .i64 0) (v1 := .int .i64 0) (At.at A3.out 0 rfl)).2.2 w (Nat.le_refl _) E3.out⟩
  · obtain rfl : R = R0 := hR
    go_enter Tryd.func19, Tryd.ntmps19
    go_wp2_with (first | (go_at_call 51; (with_reducible refine (KC.out _ (HL.out.ext (show Ext w _ from (by repeat (first | exact Ext.refl _ | assumption | refine Ext.alloc ?_ _ | refine Ext.drewN ?_ _ | refine ext_grow ?_ _ _ | refine Ext.setCell ?_ (by first | exact Nat.le_refl _ | omega | (simp; done) | (simp; omega)) _ | refine Ext.trans ?_ (by assumption)))))).mono ?_); rintro E w1 ⟨rfl, hb1⟩; have A1 := Lib.hid (show At w1 [(w.heap.size, Obj.cells #[.int .i64 0, .int .i64 0] 23)] from At.ext hb1 (show At _ [(w.heap.size, Obj.cells #[.int .i64 0, .int .i64 0] 23)] from ⟨(by repeat (first | (refine blk_at _ _ ?_; (first | rfl | (simp only [size_one]; done))) | refine (blk_past _ _ (by simp only [size_one]; omega)).trans ?_)), trivial⟩)); have E1 := Lib.hid (((show Ext w _ from (by repeat (first | exact Ext.refl _ | assumption | refine Ext.alloc ?_ _ | refine Ext.drewN ?_ _ | refine ext_grow ?_ _ _ | refine Ext.setCell ?_ (by first | exact Nat.le_refl _ | omega | (simp; done) | (simp; omega)) _ | refine Ext.trans ?_ (by assumption))))).trans hb1); obtain ⟨c1_0_0, c1_0_1, f1_0_0, f1_0_1⟩ := run_pair (At.at A1.out 0 rfl); have s1_0 : w.heap.size < w1.heap.size := At.lt A1.out 0 rfl) | (go_at_call 52; (with_reducible refine (K1.out _ (HL.out.ext E1.out)).mono ?_); rintro E w2 ⟨v2, n2, rfl, hb2⟩; have A2 := Lib.hid (show At w2 [(w.heap.size, Obj.cells #[.int .i64 0, .int .i64 0] 23)] from At.ext hb2 A1.out); have E2 := Lib.hid ((E1.out).trans hb2); obtain ⟨c2_0_0, c2_0_1, f2_0_0, f2_0_1⟩ := run_pair (At.at A2.out 0 rfl); have s2_0 : w.heap.size < w2.heap.size := At.lt A2.out 0 rfl; (try clear c1_0_0 c1_0_1 f1_0_0 f1_0_1 s1_0)) | (go_at_call 52; (with_reducible refine (K2.out _ (HL.out.ext E2.out)).mono ?_); rintro E w3 ⟨v3, n3, rfl, hb3⟩; have A3 := Lib.hid (show At w3 [(w.heap.size, Obj.cells #[.int .i64 0, .int .i64 0] 23)] from At.ext hb3 A2.out); have E3 := Lib.hid ((E2.out).trans hb3); obtain ⟨c3_0_0, c3_0_1, f3_0_0, f3_0_1⟩ := run_pair (At.at A3.out 0 rfl); have s3_0 : w.heap.size < w3.heap.size := At.lt A3.out 0 rfl; (try clear c2_0_0 c2_0_1 f2_0_0 f2_0_1 s2_0)))
    refine bodyPost_ret (RT.results_row2 rfl _ _ (w.heap.size) 23 #[.int .i64 0, .int .i64 0] (0, 0) _ rfl (store_pair (v0 := .int .i64 0) (v1 := .int .i64 0) (At.at A3.out 0 rfl)).1 Tryd.underlying23 rfl info_frac) rfl ?_
    exact ⟨rfl, (store_pair (v0 := .int .i64 0) (v1 := .int .i64 0) (At.at A3.out 0 rfl)).2.2 w (Nat.le_refl _) E3.out⟩
set_option maxRecDepth 100000 in
set_option maxHeartbeats 8000000 in
theorem parse_rr (s L R0 R tx : ByteArray) (t : Bool) (n d : Int) (w : World) (hL : LibV w) (hP : Pow w) (hR : R = if t = true then R0 else ⟨#[49]⟩)
    (kc : ∀ w, LibV w → Calls Tryd.prog 51 #[.string s, .string ⟨#[47]⟩] w fun E w' => E = .returned (.tuple #[.string L, .string R0, .bool t]) ∧ Ext w w')
    (k1 : ∀ w, LibV w → Calls Tryd.prog 52 #[.string L] w fun E w' => E = .returned (.tuple #[.int .i64 n, .nilIface]) ∧ Ext w w')
    (k2 : ∀ w, LibV w → Calls Tryd.prog 52 #[.string R] w fun E w' => ∃ (v : Int) (n : Nat), E = .returned (.tuple #[.int .i64 v, .iface 133 (.pointer (some ⟨n, 0, none⟩))]) ∧ Ext w w') :
    Calls Tryd.prog 19 #[.string s] w fun e w' => e = .returned (fansV (⟨0, 0⟩, 11)) ∧ Ext w w' := by
  have HL := Lib.hid hL
  have HP := Lib.hid hP
  have KC := Lib.hid kc
  have K1 := Lib.hid k1
  have K2 := Lib.hid k2
  clear hL hP kc k1 k2
  cases t
  · obtain rfl : R = ⟨#[49]⟩ := hR
    go_enter Tryd.func19, Tryd.ntmps19
    go_wp2_with (first | (go_at_call 51; (with_reducible refine (KC.out _ (HL.out.ext (show Ext w _ from (by repeat (first | exact Ext.refl _ | assumption | refine Ext.alloc ?_ _ | refine Ext.drewN ?_ _ | refine ext_grow ?_ _ _ | refine Ext.setCell ?_ (by first | exact Nat.le_refl _ | omega | (simp; done) | (simp; omega)) _ | refine Ext.trans ?_ (by assumption)))))).mono ?_); rintro E w1 ⟨rfl, hb1⟩; have A1 := Lib.hid (show At w1 [(w.heap.size, Obj.cells #[.int .i64 0, .int .i64 0] 23)] from At.ext hb1 (show At _ [(w.heap.size, Obj.cells #[.int .i64 0, .int .i64 0] 23)] from ⟨(by repeat (first | (refine blk_at _ _ ?_; (first | rfl | (simp only [size_one]; done))) | refine (blk_past _ _ (by simp only [size_one]; omega)).trans ?_)), trivial⟩)); have E1 := Lib.hid (((show Ext w _ from (by repeat (first | exact Ext.refl _ | assumption | refine Ext.alloc ?_ _ | refine Ext.drewN ?_ _ | refine ext_grow ?_ _ _ | refine Ext.setCell ?_ (by first | exact Nat.le_refl _ | omega | (simp; done) | (simp; omega)) _ | refine Ext.trans ?_ (by assumption))))).trans hb1); obtain ⟨c1_0_0, c1_0_1, f1_0_0, f1_0_1⟩ := run_pair (At.at A1.out 0 rfl); have s1_0 : w.heap.size < w1.heap.size := At.lt A1.out 0 rfl) | (go_at_call 52; (with_reducible refine (K1.out _ (HL.out.ext E1.out)).mono ?_); rintro E w2 ⟨rfl, hb2⟩; have A2 := Lib.hid (show At w2 [(w.heap.size, Obj.cells #[.int .i64 0, .int .i64 0] 23)] from At.ext hb2 A1.out); have E2 := Lib.hid ((E1.out).trans hb2); obtain ⟨c2_0_0, c2_0_1, f2_0_0, f2_0_1⟩ := run_pair (At.at A2.out 0 rfl); have s2_0 : w.heap.size < w2.heap.size := At.lt A2.out 0 rfl; (try clear c1_0_0 c1_0_1 f1_0_0 f1_0_1 s1_0)) | (go_at_call 52; (with_reducible refine (K2.out _ (HL.out.ext E2.out)).mono ?_); rintro E w3 ⟨v3, n3, rfl, hb3⟩; have A3 := Lib.hid (show At w3 [(w.heap.size, Obj.cells #[.int .i64 0, .int .i64 0] 23)] from At.ext hb3 A2.out); have E3 := Lib.hid ((E2.out).trans hb3); obtain ⟨c3_0_0, c3_0_1, f3_0_0, f3_0_1⟩ := run_pair (At.at A3.out 0 rfl); have s3_0 : w.heap.size < w3.heap.size := At.lt A3.out 0 rfl; (try clear c2_0_0 c2_0_1 f2_0_0 f2_0_1 s2_0)))
    refine bodyPost_ret (RT.results_row2 rfl _ _ (w.heap.size) 23 #[.int .i64 0, .int .i64 0] (0, 0) _ rfl (store_pair (v0 := .int .i64 0) (v1 := .int .i64 0) (At.at A3.out 0 rfl)).1 Tryd.underlying23 rfl info_frac) rfl ?_
    exact ⟨rfl, (store_pair (v0 := .int .i64 0) (v1 := .int .i64 0) (At.at A3.out 0 rfl)).2.2 w (Nat.le_refl _) E3.out⟩
  · obtain rfl : R = R0 := hR
    go_enter Tryd.func19, Tryd.ntmps19
    go_wp2_with (first | (go_at_call 51; (with_reducible refine (KC.out _ (HL.out.ext (show Ext w _ from (by repeat (first | exact Ext.refl _ | assumption | refine Ext.alloc ?_ _ | refine Ext.drewN ?_ _ | refine ext_grow ?_ _ _ | refine Ext.setCell ?_ (by first | exact Nat.le_refl _ | omega | (simp; done) | (simp; omega)) _ | refine Ext.trans ?_ (by assumption)))))).mono ?_); rintro E w1 ⟨rfl, hb1⟩; have A1 := Lib.hid (show At w1 [(w.heap.size, Obj.cells #[.int .i64 0, .int .i64 0] 23)] from At.ext hb1 (show At _ [(w.heap.size, Obj.cells #[.int .i64 0, .int .i64 0] 23)] from ⟨(by repeat (first | (refine blk_at _ _ ?_; (first | rfl | (simp only [size_one]; done))) | refine (blk_past _ _ (by simp only [size_one]; omega)).trans ?_)), trivial⟩)); have E1 := Lib.hid (((show Ext w _ from (by repeat (first | exact Ext.refl _ | assumption | refine Ext.alloc ?_ _ | refine Ext.drewN ?_ _ | refine ext_grow ?_ _ _ | refine Ext.setCell ?_ (by first | exact Nat.le_refl _ | omega | (simp; done) | (simp; omega)) _ | refine Ext.trans ?_ (by assumption))))).trans hb1); obtain ⟨c1_0_0, c1_0_1, f1_0_0, f1_0_1⟩ := run_pair (At.at A1.out 0 rfl); have s1_0 : w.heap.size < w1.heap.size := At.lt A1.out 0 rfl) | (go_at_call 52; (with_reducible refine (K1.out _ (HL.out.ext E1.out)).mono ?_); rintro E w2 ⟨rfl, hb2⟩; have A2 := Lib.hid (show At w2 [(w.heap.size, Obj.cells #[.int .i64 0, .int .i64 0] 23)] from At.ext hb2 A1.out); have E2 := Lib.hid ((E1.out).trans hb2); obtain ⟨c2_0_0, c2_0_1, f2_0_0, f2_0_1⟩ := run_pair (At.at A2.out 0 rfl); have s2_0 : w.heap.size < w2.heap.size := At.lt A2.out 0 rfl; (try clear c1_0_0 c1_0_1 f1_0_0 f1_0_1 s1_0)) | (go_at_call 52; (with_reducible refine (K2.out _ (HL.out.ext E2.out)).mono ?_); rintro E w3 ⟨v3, n3, rfl, hb3⟩; have A3 := Lib.hid (show At w3 [(w.heap.size, Obj.cells #[.int .i64 0, .int .i64 0] 23)] from At.ext hb3 A2.out); have E3 := Lib.hid ((E2.out).trans hb3); obtain ⟨c3_0_0, c3_0_1, f3_0_0, f3_0_1⟩ := run_pair (At.at A3.out 0 rfl); have s3_0 : w.heap.size < w3.heap.size := At.lt A3.out 0 rfl; (try clear c2_0_0 c2_0_1 f2_0_0 f2_0_1 s2_0)))
    refine bodyPost_ret (RT.results_row2 rfl _ _ (w.heap.size) 23 #[.int .i64 0, .int .i64 0] (0, 0) _ rfl (store_pair (v0 := .int .i64 0) (v1 := .int .i64 0) (At.at A3.out 0 rfl)).1 Tryd.underlying23 rfl info_frac) rfl ?_
    exact ⟨rfl, (store_pair (v0 := .int .i64 0) (v1 := .int .i64 0) (At.at A3.out 0 rfl)).2.2 w (Nat.le_refl _) E3.out⟩
set_option maxRecDepth 100000 in
set_option maxHeartbeats 8000000 in
theorem parse_no (s L R0 R tx : ByteArray) (t : Bool) (n d : Int) (w : World) (hL : LibV w) (hP : Pow w) (hR : R = if t = true then R0 else ⟨#[49]⟩)
    (kc : ∀ w, LibV w → Calls Tryd.prog 51 #[.string s, .string ⟨#[47]⟩] w fun E w' => E = .returned (.tuple #[.string L, .string R0, .bool t]) ∧ Ext w w')
    (k1 : ∀ w, LibV w → Calls Tryd.prog 52 #[.string L] w fun E w' => E = .returned (.tuple #[.int .i64 n, .nilIface]) ∧ Ext w w')
    (k2 : ∀ w, LibV w → Calls Tryd.prog 52 #[.string R] w fun E w' => E = .returned (.tuple #[.int .i64 d, .nilIface]) ∧ Ext w w')
    (kt : ∀ w, Pow w → Calls Tryd.prog 17 #[fracV ⟨n, d⟩] w fun E w' => E = .returned (.tuple #[.string tx, .int .i64 8]) ∧ Ext w w') :
    Calls Tryd.prog 19 #[.string s] w fun e w' => e = .returned (fansV (⟨0, 0⟩, 11)) ∧ Ext w w' := by
  have HL := Lib.hid hL
  have HP := Lib.hid hP
  have KC := Lib.hid kc
  have K1 := Lib.hid k1
  have K2 := Lib.hid k2
  have KT := Lib.hid kt
  clear hL hP kc k1 k2 kt
  cases t
  · obtain rfl : R = ⟨#[49]⟩ := hR
    go_enter Tryd.func19, Tryd.ntmps19
    go_wp2_with (first | (go_at_call 51; (with_reducible refine (KC.out _ (HL.out.ext (show Ext w _ from (by repeat (first | exact Ext.refl _ | assumption | refine Ext.alloc ?_ _ | refine Ext.drewN ?_ _ | refine ext_grow ?_ _ _ | refine Ext.setCell ?_ (by first | exact Nat.le_refl _ | omega | (simp; done) | (simp; omega)) _ | refine Ext.trans ?_ (by assumption)))))).mono ?_); rintro E w1 ⟨rfl, hb1⟩; have A1 := Lib.hid (show At w1 [(w.heap.size, Obj.cells #[.int .i64 0, .int .i64 0] 23)] from At.ext hb1 (show At _ [(w.heap.size, Obj.cells #[.int .i64 0, .int .i64 0] 23)] from ⟨(by repeat (first | (refine blk_at _ _ ?_; (first | rfl | (simp only [size_one]; done))) | refine (blk_past _ _ (by simp only [size_one]; omega)).trans ?_)), trivial⟩)); have E1 := Lib.hid (((show Ext w _ from (by repeat (first | exact Ext.refl _ | assumption | refine Ext.alloc ?_ _ | refine Ext.drewN ?_ _ | refine ext_grow ?_ _ _ | refine Ext.setCell ?_ (by first | exact Nat.le_refl _ | omega | (simp; done) | (simp; omega)) _ | refine Ext.trans ?_ (by assumption))))).trans hb1); obtain ⟨c1_0_0, c1_0_1, f1_0_0, f1_0_1⟩ := run_pair (At.at A1.out 0 rfl); have s1_0 : w.heap.size < w1.heap.size := At.lt A1.out 0 rfl) | (go_at_call 52; (with_reducible refine (K1.out _ (HL.out.ext E1.out)).mono ?_); rintro E w2 ⟨rfl, hb2⟩; have A2 := Lib.hid (show At w2 [(w.heap.size, Obj.cells #[.int .i64 0, .int .i64 0] 23)] from At.ext hb2 A1.out); have E2 := Lib.hid ((E1.out).trans hb2); obtain ⟨c2_0_0, c2_0_1, f2_0_0, f2_0_1⟩ := run_pair (At.at A2.out 0 rfl); have s2_0 : w.heap.size < w2.heap.size := At.lt A2.out 0 rfl; (try clear c1_0_0 c1_0_1 f1_0_0 f1_0_1 s1_0)) | (go_at_call 52; (with_reducible refine (K2.out _ (HL.out.ext E2.out)).mono ?_); rintro E w3 ⟨rfl, hb3⟩; have A3 := Lib.hid (show At w3 [(w.heap.size, Obj.cells #[.int .i64 0, .int .i64 0] 23)] from At.ext hb3 A2.out); have E3 := Lib.hid ((E2.out).trans hb3); obtain ⟨c3_0_0, c3_0_1, f3_0_0, f3_0_1⟩ := run_pair (At.at A3.out 0 rfl); have s3_0 : w.heap.size < w3.heap.size := At.lt A3.out 0 rfl; (try clear c2_0_0 c2_0_1 f2_0_0 f2_0_1 s2_0)) | (go_at_call 17; (with_reducible refine (KT.out _ (HP.out.ext ((E3.out).alloc _))).mono ?_); rintro E w4 ⟨rfl, hb4⟩; have A4 := Lib.hid (show At w4 [(w3.heap.size, Obj.cells #[.int .i64 n, .int .i64 d] 23), (w.heap.size, Obj.cells #[.int .i64 0, .int .i64 0] 23)] from At.ext hb4 (show At _ [(w3.heap.size, Obj.cells #[.int .i64 n, .int .i64 d] 23), (w.heap.size, Obj.cells #[.int .i64 0, .int .i64 0] 23)] from ⟨one_first _ _, At.alloc A3.out _⟩)); have E4 := Lib.hid ((((E3.out).alloc _)).trans hb4); obtain ⟨c4_0_0, c4_0_1, f4_0_0, f4_0_1⟩ := run_pair (At.at A4.out 0 rfl); have s4_0 : w3.heap.size < w4.heap.size := At.lt A4.out 0 rfl; obtain ⟨c4_1_0, c4_1_1, f4_1_0, f4_1_1⟩ := run_pair (At.at A4.out 1 rfl); have s4_1 : w.heap.size < w4.heap.size := At.lt A4.out 1 rfl; (try clear c3_0_0 c3_0_1 f3_0_0 f3_0_1)))
    refine bodyPost_ret (RT.results_row2 rfl _ _ (w.heap.size) 23 #[.int .i64 0, .int .i64 0] (0, 0) _ rfl (store_pair (v0 := .int .i64 0) (v1 := .int .i64 0) (At.at A4.out 1 rfl)).1 Tryd.underlying23 rfl info_frac) rfl ?_
    exact ⟨rfl, (store_pair (v0 := .int .i64 0) (v1 := .int .i64 0) (At.at A4.out 1 rfl)).2.2 w (Nat.le_refl _) E4.out⟩
  · obtain rfl : R = R0 := hR
    go_enter Tryd.func19, Tryd.ntmps19
    go_wp2_with (first | (go_at_call 51; (with_reducible refine (KC.out _ (HL.out.ext (show Ext w _ from (by repeat (first | exact Ext.refl _ | assumption | refine Ext.alloc ?_ _ | refine Ext.drewN ?_ _ | refine ext_grow ?_ _ _ | refine Ext.setCell ?_ (by first | exact Nat.le_refl _ | omega | (simp; done) | (simp; omega)) _ | refine Ext.trans ?_ (by assumption)))))).mono ?_); rintro E w1 ⟨rfl, hb1⟩; have A1 := Lib.hid (show At w1 [(w.heap.size, Obj.cells #[.int .i64 0, .int .i64 0] 23)] from At.ext hb1 (show At _ [(w.heap.size, Obj.cells #[.int .i64 0, .int .i64 0] 23)] from ⟨(by repeat (first | (refine blk_at _ _ ?_; (first | rfl | (simp only [size_one]; done))) | refine (blk_past _ _ (by simp only [size_one]; omega)).trans ?_)), trivial⟩)); have E1 := Lib.hid (((show Ext w _ from (by repeat (first | exact Ext.refl _ | assumption | refine Ext.alloc ?_ _ | refine Ext.drewN ?_ _ | refine ext_grow ?_ _ _ | refine Ext.setCell ?_ (by first | exact Nat.le_refl _ | omega | (simp; done) | (simp; omega)) _ | refine Ext.trans ?_ (by assumption))))).trans hb1); obtain ⟨c1_0_0, c1_0_1, f1_0_0, f1_0_1⟩ := run_pair (At.at A1.out 0 rfl); have s1_0 : w.heap.size < w1.heap.size := At.lt A1.out 0 rfl) | (go_at_call 52; (with_reducible refine (K1.out _ (HL.out.ext E1.out)).mono ?_); rintro E w2 ⟨rfl, hb2⟩; have A2 := Lib.hid (show At w2 [(w.heap.size, Obj.cells #[.int .i64 0, .int .i64 0] 23)] from At.ext hb2 A1.out); have E2 := Lib.hid ((E1.out).trans hb2); obtain ⟨c2_0_0, c2_0_1, f2_0_0, f2_0_1⟩ := run_pair (At.at A2.out 0 rfl); have s2_0 : w.heap.size < w2.heap.size := At.lt A2.out 0 rfl; (try clear c1_0_0 c1_0_1 f1_0_0 f1_0_1 s1_0)) | (go_at_call 52; (with_reducible refine (K2.out _ (HL.out.ext E2.out)).mono ?_); rintro E w3 ⟨rfl, hb3⟩; have A3 := Lib.hid (show At w3 [(w.heap.size, Obj.cells #[.int .i64 0, .int .i64 0] 23)] from At.ext hb3 A2.out); have E3 := Lib.hid ((E2.out).trans hb3); obtain ⟨c3_0_0, c3_0_1, f3_0_0, f3_0_1⟩ := run_pair (At.at A3.out 0 rfl); have s3_0 : w.heap.size < w3.heap.size := At.lt A3.out 0 rfl; (try clear c2_0_0 c2_0_1 f2_0_0 f2_0_1 s2_0)) | (go_at_call 17; (with_reducible refine (KT.out _ (HP.out.ext ((E3.out).alloc _))).mono ?_); rintro E w4 ⟨rfl, hb4⟩; have A4 := Lib.hid (show At w4 [(w3.heap.size, Obj.cells #[.int .i64 n, .int .i64 d] 23), (w.heap.size, Obj.cells #[.int .i64 0, .int .i64 0] 23)] from At.ext hb4 (show At _ [(w3.heap.size, Obj.cells #[.int .i64 n, .int .i64 d] 23), (w.heap.size, Obj.cells #[.int .i64 0, .int .i64 0] 23)] from ⟨one_first _ _, At.alloc A3.out _⟩)); have E4 := Lib.hid ((((E3.out).alloc _)).trans hb4); obtain ⟨c4_0_0, c4_0_1, f4_0_0, f4_0_1⟩ := run_pair (At.at A4.out 0 rfl); have s4_0 : w3.heap.size < w4.heap.size := At.lt A4.out 0 rfl; obtain ⟨c4_1_0, c4_1_1, f4_1_0, f4_1_1⟩ := run_pair (At.at A4.out 1 rfl); have s4_1 : w.heap.size < w4.heap.size := At.lt A4.out 1 rfl; (try clear c3_0_0 c3_0_1 f3_0_0 f3_0_1)))
    refine bodyPost_ret (RT.results_row2 rfl _ _ (w.heap.size) 23 #[.int .i64 0, .int .i64 0] (0, 0) _ rfl (store_pair (v0 := .int .i64 0) (v1 := .int .i64 0) (At.at A4.out 1 rfl)).1 Tryd.underlying23 rfl info_frac) rfl ?_
    exact ⟨rfl, (store_pair (v0 := .int .i64 0) (v1 := .int .i64 0) (At.at A4.out 1 rfl)).2.2 w (Nat.le_refl _) E4.out⟩
set_option maxRecDepth 100000 in
set_option maxHeartbeats 8000000 in
theorem parse_other (s L R0 R tx : ByteArray) (t : Bool) (n d : Int) (w : World) (hL : LibV w) (hP : Pow w) (hR : R = if t = true then R0 else ⟨#[49]⟩)
    (kc : ∀ w, LibV w → Calls Tryd.prog 51 #[.string s, .string ⟨#[47]⟩] w fun E w' => E = .returned (.tuple #[.string L, .string R0, .bool t]) ∧ Ext w w')
    (k1 : ∀ w, LibV w → Calls Tryd.prog 52 #[.string L] w fun E w' => E = .returned (.tuple #[.int .i64 n, .nilIface]) ∧ Ext w w')
    (k2 : ∀ w, LibV w → Calls Tryd.prog 52 #[.string R] w fun E w' => E = .returned (.tuple #[.int .i64 d, .nilIface]) ∧ Ext w w')
    (kt : ∀ w, Pow w → Calls Tryd.prog 17 #[fracV ⟨n, d⟩] w fun E w' => E = .returned (.tuple #[.string tx, .int .i64 0]) ∧ Ext w w')
    (hs : (tx.toList == s.toList) = false) :
    Calls Tryd.prog 19 #[.string s] w fun e w' => e = .returned (fansV (⟨0, 0⟩, 11)) ∧ Ext w w' := by
  have HL := Lib.hid hL
  have HP := Lib.hid hP
  have KC := Lib.hid kc
  have K1 := Lib.hid k1
  have K2 := Lib.hid k2
  have KT := Lib.hid kt
  clear hL hP kc k1 k2 kt
  cases t
  · obtain rfl : R = ⟨#[49]⟩ := hR
    go_enter Tryd.func19, Tryd.ntmps19
    go_wp2_with (first | (go_at_call 51; (with_reducible refine (KC.out _ (HL.out.ext (show Ext w _ from (by repeat (first | exact Ext.refl _ | assumption | refine Ext.alloc ?_ _ | refine Ext.drewN ?_ _ | refine ext_grow ?_ _ _ | refine Ext.setCell ?_ (by first | exact Nat.le_refl _ | omega | (simp; done) | (simp; omega)) _ | refine Ext.trans ?_ (by assumption)))))).mono ?_); rintro E w1 ⟨rfl, hb1⟩; have A1 := Lib.hid (show At w1 [(w.heap.size, Obj.cells #[.int .i64 0, .int .i64 0] 23)] from At.ext hb1 (show At _ [(w.heap.size, Obj.cells #[.int .i64 0, .int .i64 0] 23)] from ⟨(by repeat (first | (refine blk_at _ _ ?_; (first | rfl | (simp only [size_one]; done))) | refine (blk_past _ _ (by simp only [size_one]; omega)).trans ?_)), trivial⟩)); have E1 := Lib.hid (((show Ext w _ from (by repeat (first | exact Ext.refl _ | assumption | refine Ext.alloc ?_ _ | refine Ext.drewN ?_ _ | refine ext_grow ?_ _ _ | refine Ext.setCell ?_ (by first | exact Nat.le_refl _ | omega | (simp; done) | (simp; omega)) _ | refine Ext.trans ?_ (by assumption))))).trans hb1); obtain ⟨c1_0_0, c1_0_1, f1_0_0, f1_0_1⟩ := run_pair (At.at A1.out 0 rfl); have s1_0 : w.heap.size < w1.heap.size := At.lt A1.out 0 rfl) | (go_at_call 52; (with_reducible refine (K1.out _ (HL.out.ext E1.out)).mono ?_); rintro E w2 ⟨rfl, hb2⟩; have A2 := Lib.hid (show At w2 [(w.heap.size, Obj.cells #[.int .i64 0, .int .i64 0] 23)] from At.ext hb2 A1.out); have E2 := Lib.hid ((E1.out).trans hb2); obtain ⟨c2_0_0, c2_0_1, f2_0_0, f2_0_1⟩ := run_pair (At.at A2.out 0 rfl); have s2_0 : w.heap.size < w2.heap.size := At.lt A2.out 0 rfl; (try clear c1_0_0 c1_0_1 f1_0_0 f1_0_1 s1_0)) | (go_at_call 52; (with_reducible refine (K2.out _ (HL.out.ext E2.out)).mono ?_); rintro E w3 ⟨rfl, hb3⟩; have A3 := Lib.hid (show At w3 [(w.heap.size, Obj.cells #[.int .i64 0, .int .i64 0] 23)] from At.ext hb3 A2.out); have E3 := Lib.hid ((E2.out).trans hb3); obtain ⟨c3_0_0, c3_0_1, f3_0_0, f3_0_1⟩ := run_pair (At.at A3.out 0 rfl); have s3_0 : w.heap.size < w3.heap.size := At.lt A3.out 0 rfl; (try clear c2_0_0 c2_0_1 f2_0_0 f2_0_1 s2_0)) | (go_at_call 17; (with_reducible refine (KT.out _ (HP.out.ext ((E3.out).alloc _))).mono ?_); rintro E w4 ⟨rfl, hb4⟩; have A4 := Lib.hid (show At w4 [(w3.heap.size, Obj.cells #[.int .i64 n, .int .i64 d] 23), (w.heap.size, Obj.cells #[.int .i64 0, .int .i64 0] 23)] from At.ext hb4 (show At _ [(w3.heap.size, Obj.cells #[.int .i64 n, .int .i64 d] 23), (w.heap.size, Obj.cells #[.int .i64 0, .int .i64 0] 23)] from ⟨one_first _ _, At.alloc A3.out _⟩)); have E4 := Lib.hid ((((E3.out).alloc _)).trans hb4); obtain ⟨c4_0_0, c4_0_1, f4_0_0, f4_0_1⟩ := run_pair (At.at A4.out 0 rfl); have s4_0 : w3.heap.size < w4.heap.size := At.lt A4.out 0 rfl; obtain ⟨c4_1_0, c4_1_1, f4_1_0, f4_1_1⟩ := run_pair (At.at A4.out 1 rfl); have s4_1 : w.heap.size < w4.heap.size := At.lt A4.out 1 rfl; (try clear c3_0_0 c3_0_1 f3_0_0 f3_0_1)))
    refine bodyPost_ret (RT.results_row2 rfl _ _ (w.heap.size) 23 #[.int .i64 0, .int .i64 0] (0, 0) _ rfl (store_pair (v0 := .int .i64 0) (v1 := .int .i64 0) (At.at A4.out 1 rfl)).1 Tryd.underlying23 rfl info_frac) rfl ?_
    exact ⟨rfl, (store_pair (v0 := .int .i64 0) (v1 := .int .i64 0) (At.at A4.out 1 rfl)).2.2 w (Nat.le_refl _) E4.out⟩
  · obtain rfl : R = R0 := hR
    go_enter Tryd.func19, Tryd.ntmps19
    go_wp2_with (first | (go_at_call 51; (with_reducible refine (KC.out _ (HL.out.ext (show Ext w _ from (by repeat (first | exact Ext.refl _ | assumption | refine Ext.alloc ?_ _ | refine Ext.drewN ?_ _ | refine ext_grow ?_ _ _ | refine Ext.setCell ?_ (by first | exact Nat.le_refl _ | omega | (simp; done) | (simp; omega)) _ | refine Ext.trans ?_ (by assumption)))))).mono ?_); rintro E w1 ⟨rfl, hb1⟩; have A1 := Lib.hid (show At w1 [(w.heap.size, Obj.cells #[.int .i64 0, .int .i64 0] 23)] from At.ext hb1 (show At _ [(w.heap.size, Obj.cells #[.int .i64 0, .int .i64 0] 23)] from ⟨(by repeat (first | (refine blk_at _ _ ?_; (first | rfl | (simp only [size_one]; done))) | refine (blk_past _ _ (by simp only [size_one]; omega)).trans ?_)), trivial⟩)); have E1 := Lib.hid (((show Ext w _ from (by repeat (first | exact Ext.refl _ | assumption | refine Ext.alloc ?_ _ | refine Ext.drewN ?_ _ | refine ext_grow ?_ _ _ | refine Ext.setCell ?_ (by first | exact Nat.le_refl _ | omega | (simp; done) | (simp; omega)) _ | refine Ext.trans ?_ (by assumption))))).trans hb1); obtain ⟨c1_0_0, c1_0_1, f1_0_0, f1_0_1⟩ := run_pair (At.at A1.out 0 rfl); have s1_0 : w.heap.size < w1.heap.size := At.lt A1.out 0 rfl) | (go_at_call 52; (with_reducible refine (K1.out _ (HL.out.ext E1.out)).mono ?_); rintro E w2 ⟨rfl, hb2⟩; have A2 := Lib.hid (show At w2 [(w.heap.size, Obj.cells #[.int .i64 0, .int .i64 0] 23)] from At.ext hb2 A1.out); have E2 := Lib.hid ((E1.out).trans hb2); obtain ⟨c2_0_0, c2_0_1, f2_0_0, f2_0_1⟩ := run_pair (At.at A2.out 0 rfl); have s2_0 : w.heap.size < w2.heap.size := At.lt A2.out 0 rfl; (try clear c1_0_0 c1_0_1 f1_0_0 f1_0_1 s1_0)) | (go_at_call 52; (with_reducible refine (K2.out _ (HL.out.ext E2.out)).mono ?_); rintro E w3 ⟨rfl, hb3⟩; have A3 := Lib.hid (show At w3 [(w.heap.size, Obj.cells #[.int .i64 0, .int .i64 0] 23)] from At.ext hb3 A2.out); have E3 := Lib.hid ((E2.out).trans hb3); obtain ⟨c3_0_0, c3_0_1, f3_0_0, f3_0_1⟩ := run_pair (At.at A3.out 0 rfl); have s3_0 : w.heap.size < w3.heap.size := At.lt A3.out 0 rfl; (try clear c2_0_0 c2_0_1 f2_0_0 f2_0_1 s2_0)) | (go_at_call 17; (with_reducible refine (KT.out _ (HP.out.ext ((E3.out).alloc _))).mono ?_); rintro E w4 ⟨rfl, hb4⟩; have A4 := Lib.hid (show At w4 [(w3.heap.size, Obj.cells #[.int .i64 n, .int .i64 d] 23), (w.heap.size, Obj.cells #[.int .i64 0, .int .i64 0] 23)] from At.ext hb4 (show At _ [(w3.heap.size, Obj.cells #[.int .i64 n, .int .i64 d] 23), (w.heap.size, Obj.cells #[.int .i64 0, .int .i64 0] 23)] from ⟨one_first _ _, At.alloc A3.out _⟩)); have E4 := Lib.hid ((((E3.out).alloc _)).trans hb4); obtain ⟨c4_0_0, c4_0_1, f4_0_0, f4_0_1⟩ := run_pair (At.at A4.out 0 rfl); have s4_0 : w3.heap.size < w4.heap.size := At.lt A4.out 0 rfl; obtain ⟨c4_1_0, c4_1_1, f4_1_0, f4_1_1⟩ := run_pair (At.at A4.out 1 rfl); have s4_1 : w.heap.size < w4.heap.size := At.lt A4.out 1 rfl; (try clear c3_0_0 c3_0_1 f3_0_0 f3_0_1)))
    refine bodyPost_ret (RT.results_row2 rfl _ _ (w.heap.size) 23 #[.int .i64 0, .int .i64 0] (0, 0) _ rfl (store_pair (v0 := .int .i64 0) (v1 := .int .i64 0) (At.at A4.out 1 rfl)).1 Tryd.underlying23 rfl info_frac) rfl ?_
    exact ⟨rfl, (store_pair (v0 := .int .i64 0) (v1 := .int .i64 0) (At.at A4.out 1 rfl)).2.2 w (Nat.le_refl _) E4.out⟩
set_option maxRecDepth 100000 in
set_option maxHeartbeats 8000000 in
theorem parse_yes (s L R0 R tx : ByteArray) (t : Bool) (n d : Int) (w : World) (hL : LibV w) (hP : Pow w) (hR : R = if t = true then R0 else ⟨#[49]⟩)
    (kc : ∀ w, LibV w → Calls Tryd.prog 51 #[.string s, .string ⟨#[47]⟩] w fun E w' => E = .returned (.tuple #[.string L, .string R0, .bool t]) ∧ Ext w w')
    (k1 : ∀ w, LibV w → Calls Tryd.prog 52 #[.string L] w fun E w' => E = .returned (.tuple #[.int .i64 n, .nilIface]) ∧ Ext w w')
    (k2 : ∀ w, LibV w → Calls Tryd.prog 52 #[.string R] w fun E w' => E = .returned (.tuple #[.int .i64 d, .nilIface]) ∧ Ext w w')
    (kt : ∀ w, Pow w → Calls Tryd.prog 17 #[fracV ⟨n, d⟩] w fun E w' => E = .returned (.tuple #[.string tx, .int .i64 0]) ∧ Ext w w')
    (hs : (tx.toList == s.toList) = true) :
    Calls Tryd.prog 19 #[.string s] w fun e w' => e = .returned (fansV (⟨n, d⟩, 0)) ∧ Ext w w' := by
  have HL := Lib.hid hL
  have HP := Lib.hid hP
  have KC := Lib.hid kc
  have K1 := Lib.hid k1
  have K2 := Lib.hid k2
  have KT := Lib.hid kt
  clear hL hP kc k1 k2 kt
  cases t
  · obtain rfl : R = ⟨#[49]⟩ := hR
    go_enter Tryd.func19, Tryd.ntmps19
    go_wp2_with (first | (go_at_call 51; (with_reducible refine (KC.out _ (HL.out.ext (show Ext w _ from (by repeat (first | exact Ext.refl _ | assumption | refine Ext.alloc ?_ _ | refine Ext.drewN ?_ _ | refine ext_grow ?_ _ _ | refine Ext.setCell ?_ (by first | exact Nat.le_refl _ | omega | (simp; done) | (simp; omega)) _ | refine Ext.trans ?_ (by assumption)))))).mono ?_); rintro E w1 ⟨rfl, hb1⟩; have A1 := Lib.hid (show At w1 [(w.heap.size, Obj.cells #[.int .i64 0, .int .i64 0] 23)] from At.ext hb1 (show At _ [(w.heap.size, Obj.cells #[.int .i64 0, .int .i64 0] 23)] from ⟨(by repeat (first | (refine blk_at _ _ ?_; (first | rfl | (simp only [size_one]; done))) | refine (blk_past _ _ (by simp only [size_one]; omega)).trans ?_)), trivial⟩)); have E1 := Lib.hid (((show Ext w _ from (by repeat (first | exact Ext.refl _ | assumption | refine Ext.alloc ?_ _ | refine Ext.drewN ?_ _ | refine ext_grow ?_ _ _ | refine Ext.setCell ?_ (by first | exact Nat.le_refl _ | omega | (simp; done) | (simp; omega)) _ | refine Ext.trans ?_ (by assumption))))).trans hb1); obtain ⟨c1_0_0, c1_0_1, f1_0_0, f1_0_1⟩ := run_pair (At.at A1.out 0 rfl); have s1_0 : w.heap.size < w1.heap.size := At.lt A1.out 0 rfl) | (go_at_call 52; (with_reducible refine (K1.out _ (HL.out.ext E1.out)).mono ?_); rintro E w2 ⟨rfl, hb2⟩; have A2 := Lib.hid (show At w2 [(w.heap.size, Obj.cells #[.int .i64 0, .int .i64 0] 23)] from At.ext hb2 A1.out); have E2 := Lib.hid ((E1.out).trans hb2); obtain ⟨c2_0_0, c2_0_1, f2_0_0, f2_0_1⟩ := run_pair (At.at A2.out 0 rfl); have s2_0 : w.heap.size < w2.heap.size := At.lt A2.out 0 rfl; (try clear c1_0_0 c1_0_1 f1_0_0 f1_0_1 s1_0)) | (go_at_call 52; (with_reducible refine (K2.out _ (HL.out.ext E2.out)).mono ?_); rintro E w3 ⟨rfl, hb3⟩; have A3 := Lib.hid (show At w3 [(w.heap.size, Obj.cells #[.int .i64 0, .int .i64 0] 23)] from At.ext hb3 A2.out); have E3 := Lib.hid ((E2.out).trans hb3); obtain ⟨c3_0_0, c3_0_1, f3_0_0, f3_0_1⟩ := run_pair (At.at A3.out 0 rfl); have s3_0 : w.heap.size < w3.heap.size := At.lt A3.out 0 rfl; (try clear c2_0_0 c2_0_1 f2_0_0 f2_0_1 s2_0)) | (go_at_call 17; (with_reducible refine (KT.out _ (HP.out.ext ((E3.out).alloc _))).mono ?_); rintro E w4 ⟨rfl, hb4⟩; have A4 := Lib.hid (show At w4 [(w3.heap.size, Obj.cells #[.int .i64 n, .int .i64 d] 23), (w.heap.size, Obj.cells #[.int .i64 0, .int .i64 0] 23)] from At.ext hb4 (show At _ [(w3.heap.size, Obj.cells #[.int .i64 n, .int .i64 d] 23), (w.heap.size, Obj.cells #[.int .i64 0, .int .i64 0] 23)] from ⟨one_first _ _, At.alloc A3.out _⟩)); have E4 := Lib.hid ((((E3.out).alloc _)).trans hb4); obtain ⟨c4_0_0, c4_0_1, f4_0_0, f4_0_1⟩ := run_pair (At.at A4.out 0 rfl); have s4_0 : w3.heap.size < w4.heap.size := At.lt A4.out 0 rfl; obtain ⟨c4_1_0, c4_1_1, f4_1_0, f4_1_1⟩ := run_pair (At.at A4.out 1 rfl); have s4_1 : w.heap.size < w4.heap.size := At.lt A4.out 1 rfl; (try clear c3_0_0 c3_0_1 f3_0_0 f3_0_1)))
    refine bodyPost_ret (RT.results_row2 rfl _ _ (w.heap.size) 23 #[.int .i64 n, .int .i64 d] (0, 0) _ rfl (store_pair (v0 := .int .i64 n) (v1 := .int .i64 d) (At.at A4.out 1 rfl)).1 Tryd.underlying23 rfl info_frac) rfl ?_
    exact ⟨rfl, (store_pair (v0 := .int .i64 n) (v1 := .int .i64 d) (At.at A4.out 1 rfl)).2.2 w (Nat.le_refl _) E4.out⟩
  · obtain rfl : R = R0 := hR
    go_enter Tryd.func19, Tryd.ntmps19
    go_wp2_with (first | (go_at_call 51; (with_reducible refine (KC.out _ (HL.out.ext (show Ext w _ from (by repeat (first | exact Ext.refl _ | assumption | refine Ext.alloc ?_ _ | refine Ext.drewN ?_ _ | refine ext_grow ?_ _ _ | refine Ext.setCell ?_ (by first | exact Nat.le_refl _ | omega | (simp; done) | (simp; omega)) _ | refine Ext.trans ?_ (by assumption)))))).mono ?_); rintro E w1 ⟨rfl, hb1⟩; have A1 := Lib.hid (show At w1 [(w.heap.size, Obj.cells #[.int .i64 0, .int .i64 0] 23)] from At.ext hb1 (show At _ [(w.heap.size, Obj.cells #[.int .i64 0, .int .i64 0] 23)] from ⟨(by repeat (first | (refine blk_at _ _ ?_; (first | rfl | (simp only [size_one]; done))) | refine (blk_past _ _ (by simp only [size_one]; omega)).trans ?_)), trivial⟩)); have E1 := Lib.hid (((show Ext w _ from (by repeat (first | exact Ext.refl _ | assumption | refine Ext.alloc ?_ _ | refine Ext.drewN ?_ _ | refine ext_grow ?_ _ _ | refine Ext.setCell ?_ (by first | exact Nat.le_refl _ | omega | (simp; done) | (simp; omega)) _ | refine Ext.trans ?_ (by assumption))))).trans hb1); obtain ⟨c1_0_0, c1_0_1, f1_0_0, f1_0_1⟩ := run_pair (At.at A1.out 0 rfl); have s1_0 : w.heap.size < w1.heap.size := At.lt A1.out 0 rfl) | (go_at_call 52; (with_reducible refine (K1.out _ (HL.out.ext E1.out)).mono ?_); rintro E w2 ⟨rfl, hb2⟩; have A2 := Lib.hid (show At w2 [(w.heap.size, Obj.cells #[.int .i64 0, .int .i64 0] 23)] from At.ext hb2 A1.out); have E2 := Lib.hid ((E1.out).trans hb2); obtain ⟨c2_0_0, c2_0_1, f2_0_0, f2_0_1⟩ := run_pair (At.at A2.out 0 rfl); have s2_0 : w.heap.size < w2.heap.size := At.lt A2.out 0 rfl; (try clear c1_0_0 c1_0_1 f1_0_0 f1_0_1 s1_0)) | (go_at_call 52; (with_reducible refine (K2.out _ (HL.out.ext E2.out)).mono ?_); rintro E w3 ⟨rfl, hb3⟩; have A3 := Lib.hid (show At w3 [(w.heap.size, Obj.cells #[.int .i64 0, .int .i64 0] 23)] from At.ext hb3 A2.out); have E3 := Lib.hid ((E2.out).trans hb3); obtain ⟨c3_0_0, c3_0_1, f3_0_0, f3_0_1⟩ := run_pair (At.at A3.out 0 rfl); have s3_0 : w.heap.size < w3.heap.size := At.lt A3.out 0 rfl; (try clear c2_0_0 c2_0_1 f2_0_0 f2_0_1 s2_0)) | (go_at_call 17; (with_reducible refine (KT.out _ (HP.out.ext ((E3.out).alloc _))).mono ?_); rintro E w4 ⟨rfl, hb4⟩; have A4 := Lib.hid (show At w4 [(w3.heap.size, Obj.cells #[.int .i64 n, .int .i64 d] 23), (w.heap.size, Obj.cells #[.int .i64 0, .int .i64 0] 23)] from At.ext hb4 (show At _ [(w3.heap.size, Obj.cells #[.int .i64 n, .int .i64 d] 23), (w.heap.size, Obj.cells #[.int .i64 0, .int .i64 0] 23)] from ⟨one_first _ _, At.alloc A3.out _⟩)); have E4 := Lib.hid ((((E3.out).alloc _)).trans hb4); obtain ⟨c4_0_0, c4_0_1, f4_0_0, f4_0_1⟩ := run_pair (At.at A4.out 0 rfl); have s4_0 : w3.heap.size < w4.heap.size := At.lt A4.out 0 rfl; obtain ⟨c4_1_0, c4_1_1, f4_1_0, f4_1_1⟩ := run_pair (At.at A4.out 1 rfl); have s4_1 : w.heap.size < w4.heap.size := At.lt A4.out 1 rfl; (try clear c3_0_0 c3_0_1 f3_0_0 f3_0_1)))
    refine bodyPost_ret (RT.results_row2 rfl _ _ (w.heap.size) 23 #[.int .i64 n, .int .i64 d] (0, 0) _ rfl (store_pair (v0 := .int .i64 n) (v1 := .int .i64 d) (At.at A4.out 1 rfl)).1 Tryd.underlying23 rfl info_frac) rfl ?_
    exact ⟨rfl, (store_pair (v0 := .int .i64 n) (v1 := .int .i64 d) (At.at A4.out 1 rfl)).2.2 w (Nat.le_refl _) E4.out⟩
/-- what stands behind the '/', or 1 -/
def rightOf (s : List UInt8) : List UInt8 := if (Lib.cut s [47]).2.2 = true then (Lib.cut s [47]).2.1 else [49]
def parseOf (s : ByteArray) : Lib.NumEnd Int → Lib.NumEnd Int → Frac × Int
  | .ok n, .ok d => if (textR ⟨n, d⟩).2 = 0 ∧ (textR ⟨n, d⟩).1.data = s.data then (⟨n, d⟩, 0) else (⟨0, 0⟩, 11)
  | _, _ => (⟨0, 0⟩, 11)
/-- the fraction of a text -/
def parseR (s : ByteArray) : Frac × Int := parseOf s (Lib.atoiAll (Lib.cut s.data.toList [47]).1) (Lib.atoiAll (rightOf s.data.toList))
theorem cut_le (s sep : List UInt8) : (Lib.cut s sep).1.length ≤ s.length ∧ (Lib.cut s sep).2.1.length ≤ s.length := by
  unfold Lib.cut
  split
  · exact ⟨by rw [List.length_take]; omega, by rw [List.length_drop]; omega⟩
  · simp
theorem c_Parse (s : ByteArray) (hs : s.size ≤ 1000000) (w : World) (hL : LibV w) (hP : Pow w) :
    Calls Tryd.prog 19 #[.string s] w fun e w' => e = .returned (fansV (parseR s)) ∧ Ext w w' := by
  have kc := c_cut s ⟨#[47]⟩ (by omega)
  have hle := cut_le s.data.toList [47]
  have hsz : s.data.toList.length = s.size := by rw [Array.length_toList]; rfl
  have hr : (⟨(rightOf s.data.toList).toArray⟩ : ByteArray) = if (Lib.cut s.data.toList [47]).2.2 = true then ⟨(Lib.cut s.data.toList [47]).2.1.toArray⟩ else ⟨#[49]⟩ := by
    unfold rightOf; split <;> rfl
  have hrl : (rightOf s.data.toList).length ≤ 1000000 := by
    unfold rightOf
    split
    · omega
    · simp
  unfold parseR
  have z1 : (⟨(Lib.cut s.data.toList [47]).1.toArray⟩ : ByteArray).size ≤ 4294967281 := by
    show (Lib.cut s.data.toList [47]).1.toArray.size ≤ _
    rw [List.size_toArray]; omega
  have z2 : (⟨(rightOf s.data.toList).toArray⟩ : ByteArray).size ≤ 4294967281 := by
    show (rightOf s.data.toList).toArray.size ≤ _
    rw [List.size_toArray]; omega
  have k1 := c_atoi_ok ⟨(Lib.cut s.data.toList [47]).1.toArray⟩ z1
  have k2 := c_atoi_ok ⟨(rightOf s.data.toList).toArray⟩ z2
  have b1 := c_atoi_bad ⟨(Lib.cut s.data.toList [47]).1.toArray⟩ z1
  have b2 := c_atoi_bad ⟨(rightOf s.data.toList).toArray⟩ z2
  simp only at k1 k2 b1 b2
  cases e1 : Lib.atoiAll (Lib.cut s.data.toList [47]).1 with
  | ok n =>
    have k1 := fun w (_ : LibV w) => k1 n e1 w
    have i1 := Lib.atoiAll_bounds e1
    cases e2 : Lib.atoiAll (rightOf s.data.toList) with
    | ok d =>
      have k2 := fun w (_ : LibV w) => k2 d e2 w
      have i2 := Lib.atoiAll_bounds e2
      have kt := fun w h => c_Text ⟨n, d⟩ ⟨i1, i2⟩ w h
      show Calls Tryd.prog _ _ w fun e w' => e = .returned (fansV (if (textR ⟨n, d⟩).2 = 0 ∧ (textR ⟨n, d⟩).1.data = s.data then (⟨n, d⟩, 0) else (⟨0, 0⟩, 11))) ∧ Ext w w'
      by_cases hok : Frac.ok ⟨n, d⟩
      · have et : textR ⟨n, d⟩ = ((textR ⟨n, d⟩).1, 0) := by unfold textR; rw [if_pos hok]
        rw [et] at kt
        have e0 : (textR ⟨n, d⟩).2 = 0 := by rw [et]
        by_cases hx : (textR ⟨n, d⟩).1.data = s.data
        · rw [if_pos ⟨e0, hx⟩]
          have hx' : (textR ⟨n, d⟩).1 = s := ByteArray.ext hx
          exact parse_yes s _ _ _ _ _ n d w hL hP hr kc k1 k2 kt (by rw [hx']; exact beq_self_eq_true _)
        · rw [if_neg (fun h => hx h.2)]
          exact parse_other s _ _ _ _ _ n d w hL hP hr kc k1 k2 kt (by rw [ByteArray.toList_eq, ByteArray.toList_eq]; exact beq_eq_false_iff_ne.2 (fun h => hx (Array.toList_inj.1 h)))
      · have et : textR ⟨n, d⟩ = (⟨#[]⟩, 8) := by unfold textR; rw [if_neg hok]
        rw [et] at kt
        rw [if_neg (fun h => by rw [et] at h; exact absurd h.1 (by decide))]
        exact parse_no s _ _ _ ⟨#[]⟩ _ n d w hL hP hr kc k1 k2 kt
    | _ => exact parse_rr s _ _ _ ⟨#[]⟩ _ n 0 w hL hP hr kc k1 (b2 (fun v h => by rw [e2] at h; cases h))
  | _ =>
    have b1 := b1 (fun v h => by rw [e1] at h; cases h)
    cases e2 : Lib.atoiAll (rightOf s.data.toList) with
    | ok d => exact parse_ll s _ _ _ ⟨#[]⟩ _ 0 d w hL hP hr kc b1 (fun w _ => k2 d e2 w)
    | _ => exact parse_lb s _ _ _ ⟨#[]⟩ _ 0 0 w hL hP hr kc b1 (b2 (fun v h => by rw [e2] at h; cases h))
end Go.Proofs.YtodoimeiklilhaaDoor
