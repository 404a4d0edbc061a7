/- The walk of 'ExactTextBack'. -/
import Derived.Test.YtodoimeiklilhaaDoorGAlive
import Derived.Test.YtodoimeiklilhaaDoorLawValid
import Derived.Test.YtodoimeiklilhaaDoorParseLaw
set_option linter.unusedVariables false
set_option linter.unusedSimpArgs false
namespace Go.Proofs.YtodoimeiklilhaaDoor
open Go.RowKit Go.Sort

set_option maxRecDepth 100000 in
set_option maxHeartbeats 8000000 in
theorem textback_vl (a1 a2 r1 r2 : Int) (s tx : ByteArray) (w : World) (hP : Pow w) (hL : LibV w) (hl : decide (100 < (s.size : Int)) = true)
    (kv : ∀ (k : Nat) (w : World), w.heap[k]? = some (.cells #[.int .i64 a1, .int .i64 a2] 23) → Calls Tryd.prog 18 #[.slice (some ⟨k, 0, none⟩) 1 1] w fun E w' => E = .returned (.bool true) ∧ Ext w w')
    (k1 : ∀ w, Pow w → Calls Tryd.prog 17 #[fracV ⟨a1, a2⟩] w fun E w' => E = .returned (.tuple #[.string tx, .int .i64 0]) ∧ Ext w w')
    (k2 : ∀ w, LibV w → Pow w → Calls Tryd.prog 19 #[.string tx] w fun E w' => E = .returned (fansV (⟨a1, a2⟩, 0)) ∧ Ext w w') :
    Calls Tryd.prog 3 #[fracV ⟨a1, a2⟩, .string s] w fun e w' => e = .returned (.bool true) ∧ Ext w w' := by
  have HP := Lib.hid hP
  have HL := Lib.hid hL
  have KV := Lib.hid kv
  have K1 := Lib.hid k1
  have K2 := Lib.hid k2
  clear hP hL kv k1 k2
  go_enter Tryd.func3, Tryd.ntmps3
  go_wp2_with (first | (go_at_call 16; (with_reducible refine (c_alive _ (HP.out.ext (by repeat (first | exact Ext.refl _ | assumption | refine Ext.alloc ?_ _ | refine Ext.drewN ?_ _ | refine ext_grow ?_ _ _ | refine Ext.setCell ?_ (by first | exact Nat.le_refl _ | omega | (simp; done) | (simp; omega)) _ | refine Ext.trans ?_ (by assumption))))).mono ?_); rintro E w1 ⟨rfl, hb1⟩; have A1 := Lib.hid (show At w1 [(w.heap.size, Obj.cells #[.int .i64 a1, .int .i64 a2] 23)] from At.ext hb1 (show At _ [(w.heap.size, Obj.cells #[.int .i64 a1, .int .i64 a2] 23)] from ⟨(by repeat (first | (refine blk_at _ _ ?_; (first | rfl | (simp only [size_one]; done))) | refine (blk_past _ _ (by simp only [size_one]; omega)).trans ?_)), trivial⟩)); have E1 := Lib.hid (((show Ext w _ from (by repeat (first | exact Ext.refl _ | assumption | refine Ext.alloc ?_ _ | refine Ext.drewN ?_ _ | refine ext_grow ?_ _ _ | refine Ext.setCell ?_ (by first | exact Nat.le_refl _ | omega | (simp; done) | (simp; omega)) _ | refine Ext.trans ?_ (by assumption))))).trans hb1); obtain ⟨c1_0_0, c1_0_1, f1_0_0, f1_0_1⟩ := run_pair (At.at A1.out 0 rfl); have s1_0 : w.heap.size < w1.heap.size := At.lt A1.out 0 rfl) | (go_at_call 17; (with_reducible refine (K1.out _ (HP.out.ext E1.out)).mono ?_); rintro E w2 ⟨rfl, hb2⟩; have A2 := Lib.hid (show At w2 [(w.heap.size, Obj.cells #[.int .i64 a1, .int .i64 a2] 23)] from At.ext hb2 A1.out); have E2 := Lib.hid ((E1.out).trans hb2); obtain ⟨c2_0_0, c2_0_1, f2_0_0, f2_0_1⟩ := run_pair (At.at A2.out 0 rfl); have s2_0 : w.heap.size < w2.heap.size := At.lt A2.out 0 rfl; (try clear c1_0_0 c1_0_1 f1_0_0 f1_0_1 s1_0)) | (go_at_call 18; (refine (KV.out _ _ (by exact blk_at _ _ (by simp))).mono ?_); rintro E w3 ⟨rfl, hb3⟩; have A3 := Lib.hid (show At w3 [(w.heap.size, Obj.cells #[.int .i64 a1, .int .i64 a2] 23)] from At.ext hb3 (At.alloc A2.out _)); have E3 := Lib.hid ((((E2.out).alloc _)).trans hb3); obtain ⟨c3_0_0, c3_0_1, f3_0_0, f3_0_1⟩ := run_pair (At.at A3.out 0 rfl); have s3_0 : w.heap.size < w3.heap.size := At.lt A3.out 0 rfl; (try clear c2_0_0 c2_0_1 f2_0_0 f2_0_1 s2_0)) | (go_at_call 19; (with_reducible refine (K2.out _ (HL.out.ext E3.out) (HP.out.ext E3.out)).mono ?_); rintro E w4 ⟨rfl, hb4⟩; have A4 := Lib.hid (show At w4 [(w.heap.size, Obj.cells #[.int .i64 a1, .int .i64 a2] 23)] from At.ext hb4 A3.out); have E4 := Lib.hid ((E3.out).trans hb4); obtain ⟨c4_0_0, c4_0_1, f4_0_0, f4_0_1⟩ := run_pair (At.at A4.out 0 rfl); have s4_0 : w.heap.size < w4.heap.size := At.lt A4.out 0 rfl; (try clear c3_0_0 c3_0_1 f3_0_0 f3_0_1 s3_0)))
  go_ret
  exact ⟨ret_bool (by simp), ((E4.out).alloc _)⟩
set_option maxRecDepth 100000 in
set_option maxHeartbeats 8000000 in
theorem textback_vb (a1 a2 r1 r2 : Int) (s tx : ByteArray) (w : World) (hP : Pow w) (hL : LibV w) (hl : decide (100 < (s.size : Int)) = false)
    (kv : ∀ (k : Nat) (w : World), w.heap[k]? = some (.cells #[.int .i64 a1, .int .i64 a2] 23) → Calls Tryd.prog 18 #[.slice (some ⟨k, 0, none⟩) 1 1] w fun E w' => E = .returned (.bool true) ∧ Ext w w')
    (k1 : ∀ w, Pow w → Calls Tryd.prog 17 #[fracV ⟨a1, a2⟩] w fun E w' => E = .returned (.tuple #[.string tx, .int .i64 0]) ∧ Ext w w')
    (k2 : ∀ w, LibV w → Pow w → Calls Tryd.prog 19 #[.string tx] w fun E w' => E = .returned (fansV (⟨a1, a2⟩, 0)) ∧ Ext w w')
    (k3 : ∀ w, LibV w → Pow w → Calls Tryd.prog 19 #[.string s] w fun E w' => E = .returned (fansV (⟨0, 0⟩, 11)) ∧ Ext w w') :
    Calls Tryd.prog 3 #[fracV ⟨a1, a2⟩, .string s] w fun e w' => e = .returned (.bool true) ∧ Ext w w' := by
  have HP := Lib.hid hP
  have HL := Lib.hid hL
  have KV := Lib.hid kv
  have K1 := Lib.hid k1
  have K2 := Lib.hid k2
  have K3 := Lib.hid k3
  clear hP hL kv k1 k2 k3
  go_enter Tryd.func3, Tryd.ntmps3
  go_wp2_with (first | (go_at_call 16; (with_reducible refine (c_alive _ (HP.out.ext (by repeat (first | exact Ext.refl _ | assumption | refine Ext.alloc ?_ _ | refine Ext.drewN ?_ _ | refine ext_grow ?_ _ _ | refine Ext.setCell ?_ (by first | exact Nat.le_refl _ | omega | (simp; done) | (simp; omega)) _ | refine Ext.trans ?_ (by assumption))))).mono ?_); rintro E w1 ⟨rfl, hb1⟩; have A1 := Lib.hid (show At w1 [(w.heap.size, Obj.cells #[.int .i64 a1, .int .i64 a2] 23)] from At.ext hb1 (show At _ [(w.heap.size, Obj.cells #[.int .i64 a1, .int .i64 a2] 23)] from ⟨(by repeat (first | (refine blk_at _ _ ?_; (first | rfl | (simp only [size_one]; done))) | refine (blk_past _ _ (by simp only [size_one]; omega)).trans ?_)), trivial⟩)); have E1 := Lib.hid (((show Ext w _ from (by repeat (first | exact Ext.refl _ | assumption | refine Ext.alloc ?_ _ | refine Ext.drewN ?_ _ | refine ext_grow ?_ _ _ | refine Ext.setCell ?_ (by first | exact Nat.le_refl _ | omega | (simp; done) | (simp; omega)) _ | refine Ext.trans ?_ (by assumption))))).trans hb1); obtain ⟨c1_0_0, c1_0_1, f1_0_0, f1_0_1⟩ := run_pair (At.at A1.out 0 rfl); have s1_0 : w.heap.size < w1.heap.size := At.lt A1.out 0 rfl) | (go_at_call 17; (with_reducible refine (K1.out _ (HP.out.ext E1.out)).mono ?_); rintro E w2 ⟨rfl, hb2⟩; have A2 := Lib.hid (show At w2 [(w.heap.size, Obj.cells #[.int .i64 a1, .int .i64 a2] 23)] from At.ext hb2 A1.out); have E2 := Lib.hid ((E1.out).trans hb2); obtain ⟨c2_0_0, c2_0_1, f2_0_0, f2_0_1⟩ := run_pair (At.at A2.out 0 rfl); have s2_0 : w.heap.size < w2.heap.size := At.lt A2.out 0 rfl; (try clear c1_0_0 c1_0_1 f1_0_0 f1_0_1 s1_0)) | (go_at_call 18; (refine (KV.out _ _ (by exact blk_at _ _ (by simp))).mono ?_); rintro E w3 ⟨rfl, hb3⟩; have A3 := Lib.hid (show At w3 [(w.heap.size, Obj.cells #[.int .i64 a1, .int .i64 a2] 23)] from At.ext hb3 (At.alloc A2.out _)); have E3 := Lib.hid ((((E2.out).alloc _)).trans hb3); obtain ⟨c3_0_0, c3_0_1, f3_0_0, f3_0_1⟩ := run_pair (At.at A3.out 0 rfl); have s3_0 : w.heap.size < w3.heap.size := At.lt A3.out 0 rfl; (try clear c2_0_0 c2_0_1 f2_0_0 f2_0_1 s2_0)) | (go_at_call 19; (with_reducible refine (K2.out _ (HL.out.ext E3.out) (HP.out.ext E3.out)).mono ?_); rintro E w4 ⟨rfl, hb4⟩; have A4 := Lib.hid (show At w4 [(w.heap.size, Obj.cells #[.int .i64 a1, .int .i64 a2] 23)] from At.ext hb4 A3.out); have E4 := Lib.hid ((E3.out).trans hb4); obtain ⟨c4_0_0, c4_0_1, f4_0_0, f4_0_1⟩ := run_pair (At.at A4.out 0 rfl); have s4_0 : w.heap.size < w4.heap.size := At.lt A4.out 0 rfl; (try clear c3_0_0 c3_0_1 f3_0_0 f3_0_1 s3_0)) | (go_at_call 19; (with_reducible refine (K3.out _ (HL.out.ext ((E4.out).alloc _)) (HP.out.ext ((E4.out).alloc _))).mono ?_); rintro E w5 ⟨rfl, hb5⟩; have A5 := Lib.hid (show At w5 [(w4.heap.size, Obj.cells #[.int .i64 a1, .int .i64 a2] 23), (w.heap.size, Obj.cells #[.int .i64 a1, .int .i64 a2] 23)] from At.ext hb5 (show At _ [(w4.heap.size, Obj.cells #[.int .i64 a1, .int .i64 a2] 23), (w.heap.size, Obj.cells #[.int .i64 a1, .int .i64 a2] 23)] from ⟨one_first _ _, At.alloc A4.out _⟩)); have E5 := Lib.hid ((((E4.out).alloc _)).trans hb5); obtain ⟨c5_0_0, c5_0_1, f5_0_0, f5_0_1⟩ := run_pair (At.at A5.out 0 rfl); have s5_0 : w4.heap.size < w5.heap.size := At.lt A5.out 0 rfl; obtain ⟨c5_1_0, c5_1_1, f5_1_0, f5_1_1⟩ := run_pair (At.at A5.out 1 rfl); have s5_1 : w.heap.size < w5.heap.size := At.lt A5.out 1 rfl; (try clear c4_0_0 c4_0_1 f4_0_0 f4_0_1)))
  go_ret
  exact ⟨ret_bool (by simp), ((E5.out).alloc _)⟩
set_option maxRecDepth 100000 in
set_option maxHeartbeats 8000000 in
theorem textback_vg (a1 a2 r1 r2 : Int) (s tx : ByteArray) (w : World) (hP : Pow w) (hL : LibV w) (hl : decide (100 < (s.size : Int)) = false)
    (kv : ∀ (k : Nat) (w : World), w.heap[k]? = some (.cells #[.int .i64 a1, .int .i64 a2] 23) → Calls Tryd.prog 18 #[.slice (some ⟨k, 0, none⟩) 1 1] w fun E w' => E = .returned (.bool true) ∧ Ext w w')
    (k1 : ∀ w, Pow w → Calls Tryd.prog 17 #[fracV ⟨a1, a2⟩] w fun E w' => E = .returned (.tuple #[.string tx, .int .i64 0]) ∧ Ext w w')
    (k2 : ∀ w, LibV w → Pow w → Calls Tryd.prog 19 #[.string tx] w fun E w' => E = .returned (fansV (⟨a1, a2⟩, 0)) ∧ Ext w w')
    (k3 : ∀ w, LibV w → Pow w → Calls Tryd.prog 19 #[.string s] w fun E w' => E = .returned (fansV (⟨r1, r2⟩, 0)) ∧ Ext w w')
    (k4 : ∀ w, Pow w → Calls Tryd.prog 17 #[fracV ⟨r1, r2⟩] w fun E w' => E = .returned (.tuple #[.string s, .int .i64 0]) ∧ Ext w w') :
    Calls Tryd.prog 3 #[fracV ⟨a1, a2⟩, .string s] w fun e w' => e = .returned (.bool true) ∧ Ext w w' := by
  have HP := Lib.hid hP
  have HL := Lib.hid hL
  have KV := Lib.hid kv
  have K1 := Lib.hid k1
  have K2 := Lib.hid k2
  have K3 := Lib.hid k3
  have K4 := Lib.hid k4
  clear hP hL kv k1 k2 k3 k4
  go_enter Tryd.func3, Tryd.ntmps3
  go_wp2_with (first | (go_at_call 16; (with_reducible refine (c_alive _ (HP.out.ext (by repeat (first | exact Ext.refl _ | assumption | refine Ext.alloc ?_ _ | refine Ext.drewN ?_ _ | refine ext_grow ?_ _ _ | refine Ext.setCell ?_ (by first | exact Nat.le_refl _ | omega | (simp; done) | (simp; omega)) _ | refine Ext.trans ?_ (by assumption))))).mono ?_); rintro E w1 ⟨rfl, hb1⟩; have A1 := Lib.hid (show At w1 [(w.heap.size, Obj.cells #[.int .i64 a1, .int .i64 a2] 23)] from At.ext hb1 (show At _ [(w.heap.size, Obj.cells #[.int .i64 a1, .int .i64 a2] 23)] from ⟨(by repeat (first | (refine blk_at _ _ ?_; (first | rfl | (simp only [size_one]; done))) | refine (blk_past _ _ (by simp only [size_one]; omega)).trans ?_)), trivial⟩)); have E1 := Lib.hid (((show Ext w _ from (by repeat (first | exact Ext.refl _ | assumption | refine Ext.alloc ?_ _ | refine Ext.drewN ?_ _ | refine ext_grow ?_ _ _ | refine Ext.setCell ?_ (by first | exact Nat.le_refl _ | omega | (simp; done) | (simp; omega)) _ | refine Ext.trans ?_ (by assumption))))).trans hb1); obtain ⟨c1_0_0, c1_0_1, f1_0_0, f1_0_1⟩ := run_pair (At.at A1.out 0 rfl); have s1_0 : w.heap.size < w1.heap.size := At.lt A1.out 0 rfl) | (go_at_call 17; (with_reducible refine (K1.out _ (HP.out.ext E1.out)).mono ?_); rintro E w2 ⟨rfl, hb2⟩; have A2 := Lib.hid (show At w2 [(w.heap.size, Obj.cells #[.int .i64 a1, .int .i64 a2] 23)] from At.ext hb2 A1.out); have E2 := Lib.hid ((E1.out).trans hb2); obtain ⟨c2_0_0, c2_0_1, f2_0_0, f2_0_1⟩ := run_pair (At.at A2.out 0 rfl); have s2_0 : w.heap.size < w2.heap.size := At.lt A2.out 0 rfl; (try clear c1_0_0 c1_0_1 f1_0_0 f1_0_1 s1_0)) | (go_at_call 18; (refine (KV.out _ _ (by exact blk_at _ _ (by simp))).mono ?_); rintro E w3 ⟨rfl, hb3⟩; have A3 := Lib.hid (show At w3 [(w.heap.size, Obj.cells #[.int .i64 a1, .int .i64 a2] 23)] from At.ext hb3 (At.alloc A2.out _)); have E3 := Lib.hid ((((E2.out).alloc _)).trans hb3); obtain ⟨c3_0_0, c3_0_1, f3_0_0, f3_0_1⟩ := run_pair (At.at A3.out 0 rfl); have s3_0 : w.heap.size < w3.heap.size := At.lt A3.out 0 rfl; (try clear c2_0_0 c2_0_1 f2_0_0 f2_0_1 s2_0)) | (go_at_call 19; (with_reducible refine (K2.out _ (HL.out.ext E3.out) (HP.out.ext E3.out)).mono ?_); rintro E w4 ⟨rfl, hb4⟩; have A4 := Lib.hid (show At w4 [(w.heap.size, Obj.cells #[.int .i64 a1, .int .i64 a2] 23)] from At.ext hb4 A3.out); have E4 := Lib.hid ((E3.out).trans hb4); obtain ⟨c4_0_0, c4_0_1, f4_0_0, f4_0_1⟩ := run_pair (At.at A4.out 0 rfl); have s4_0 : w.heap.size < w4.heap.size := At.lt A4.out 0 rfl; (try clear c3_0_0 c3_0_1 f3_0_0 f3_0_1 s3_0)) | (go_at_call 19; (with_reducible refine (K3.out _ (HL.out.ext ((E4.out).alloc _)) (HP.out.ext ((E4.out).alloc _))).mono ?_); rintro E w5 ⟨rfl, hb5⟩; have A5 := Lib.hid (show At w5 [(w4.heap.size, Obj.cells #[.int .i64 a1, .int .i64 a2] 23), (w.heap.size, Obj.cells #[.int .i64 a1, .int .i64 a2] 23)] from At.ext hb5 (show At _ [(w4.heap.size, Obj.cells #[.int .i64 a1, .int .i64 a2] 23), (w.heap.size, Obj.cells #[.int .i64 a1, .int .i64 a2] 23)] from ⟨one_first _ _, At.alloc A4.out _⟩)); have E5 := Lib.hid ((((E4.out).alloc _)).trans hb5); obtain ⟨c5_0_0, c5_0_1, f5_0_0, f5_0_1⟩ := run_pair (At.at A5.out 0 rfl); have s5_0 : w4.heap.size < w5.heap.size := At.lt A5.out 0 rfl; obtain ⟨c5_1_0, c5_1_1, f5_1_0, f5_1_1⟩ := run_pair (At.at A5.out 1 rfl); have s5_1 : w.heap.size < w5.heap.size := At.lt A5.out 1 rfl; (try clear c4_0_0 c4_0_1 f4_0_0 f4_0_1)) | (go_at_call 17; (with_reducible refine (K4.out _ (HP.out.ext ((E5.out).alloc _))).mono ?_); rintro E w6 ⟨rfl, hb6⟩; have A6 := Lib.hid (show At w6 [(w5.heap.size, Obj.cells #[.int .i64 r1, .int .i64 r2] 23), (w4.heap.size, Obj.cells #[.int .i64 a1, .int .i64 a2] 23), (w.heap.size, Obj.cells #[.int .i64 a1, .int .i64 a2] 23)] from At.ext hb6 (show At _ [(w5.heap.size, Obj.cells #[.int .i64 r1, .int .i64 r2] 23), (w4.heap.size, Obj.cells #[.int .i64 a1, .int .i64 a2] 23), (w.heap.size, Obj.cells #[.int .i64 a1, .int .i64 a2] 23)] from ⟨one_first _ _, At.alloc A5.out _⟩)); have E6 := Lib.hid ((((E5.out).alloc _)).trans hb6); obtain ⟨c6_0_0, c6_0_1, f6_0_0, f6_0_1⟩ := run_pair (At.at A6.out 0 rfl); have s6_0 : w5.heap.size < w6.heap.size := At.lt A6.out 0 rfl; obtain ⟨c6_1_0, c6_1_1, f6_1_0, f6_1_1⟩ := run_pair (At.at A6.out 1 rfl); have s6_1 : w4.heap.size < w6.heap.size := At.lt A6.out 1 rfl; obtain ⟨c6_2_0, c6_2_1, f6_2_0, f6_2_1⟩ := run_pair (At.at A6.out 2 rfl); have s6_2 : w.heap.size < w6.heap.size := At.lt A6.out 2 rfl; (try clear c5_0_0 c5_0_1 f5_0_0 f5_0_1 c5_1_0 c5_1_1 f5_1_0 f5_1_1)))
  go_ret
  exact ⟨ret_bool (by simp), E6.out⟩
set_option maxRecDepth 100000 in
set_option maxHeartbeats 8000000 in
theorem textback_nl (a1 a2 r1 r2 : Int) (s tx : ByteArray) (w : World) (hP : Pow w) (hL : LibV w) (hl : decide (100 < (s.size : Int)) = true)
    (kv : ∀ (k : Nat) (w : World), w.heap[k]? = some (.cells #[.int .i64 a1, .int .i64 a2] 23) → Calls Tryd.prog 18 #[.slice (some ⟨k, 0, none⟩) 1 1] w fun E w' => E = .returned (.bool false) ∧ Ext w w')
    (k1 : ∀ w, Pow w → Calls Tryd.prog 17 #[fracV ⟨a1, a2⟩] w fun E w' => E = .returned (.tuple #[.string tx, .int .i64 8]) ∧ Ext w w') :
    Calls Tryd.prog 3 #[fracV ⟨a1, a2⟩, .string s] w fun e w' => e = .returned (.bool true) ∧ Ext w w' := by
  have HP := Lib.hid hP
  have HL := Lib.hid hL
  have KV := Lib.hid kv
  have K1 := Lib.hid k1
  clear hP hL kv k1
  go_enter Tryd.func3, Tryd.ntmps3
  go_wp2_with (first | (go_at_call 16; (with_reducible refine (c_alive _ (HP.out.ext (by repeat (first | exact Ext.refl _ | assumption | refine Ext.alloc ?_ _ | refine Ext.drewN ?_ _ | refine ext_grow ?_ _ _ | refine Ext.setCell ?_ (by first | exact Nat.le_refl _ | omega | (simp; done) | (simp; omega)) _ | refine Ext.trans ?_ (by assumption))))).mono ?_); rintro E w1 ⟨rfl, hb1⟩; have A1 := Lib.hid (show At w1 [(w.heap.size, Obj.cells #[.int .i64 a1, .int .i64 a2] 23)] from At.ext hb1 (show At _ [(w.heap.size, Obj.cells #[.int .i64 a1, .int .i64 a2] 23)] from ⟨(by repeat (first | (refine blk_at _ _ ?_; (first | rfl | (simp only [size_one]; done))) | refine (blk_past _ _ (by simp only [size_one]; omega)).trans ?_)), trivial⟩)); have E1 := Lib.hid (((show Ext w _ from (by repeat (first | exact Ext.refl _ | assumption | refine Ext.alloc ?_ _ | refine Ext.drewN ?_ _ | refine ext_grow ?_ _ _ | refine Ext.setCell ?_ (by first | exact Nat.le_refl _ | omega | (simp; done) | (simp; omega)) _ | refine Ext.trans ?_ (by assumption))))).trans hb1); obtain ⟨c1_0_0, c1_0_1, f1_0_0, f1_0_1⟩ := run_pair (At.at A1.out 0 rfl); have s1_0 : w.heap.size < w1.heap.size := At.lt A1.out 0 rfl) | (go_at_call 17; (with_reducible refine (K1.out _ (HP.out.ext E1.out)).mono ?_); rintro E w2 ⟨rfl, hb2⟩; have A2 := Lib.hid (show At w2 [(w.heap.size, Obj.cells #[.int .i64 a1, .int .i64 a2] 23)] from At.ext hb2 A1.out); have E2 := Lib.hid ((E1.out).trans hb2); obtain ⟨c2_0_0, c2_0_1, f2_0_0, f2_0_1⟩ := run_pair (At.at A2.out 0 rfl); have s2_0 : w.heap.size < w2.heap.size := At.lt A2.out 0 rfl; (try clear c1_0_0 c1_0_1 f1_0_0 f1_0_1 s1_0)) | (go_at_call 18; (refine (KV.out _ _ (by exact blk_at _ _ (by simp))).mono ?_); rintro E w3 ⟨rfl, hb3⟩; have A3 := Lib.hid (show At w3 [(w.heap.size, Obj.cells #[.int .i64 a1, .int .i64 a2] 23)] from At.ext hb3 (At.alloc A2.out _)); have E3 := Lib.hid ((((E2.out).alloc _)).trans hb3); obtain ⟨c3_0_0, c3_0_1, f3_0_0, f3_0_1⟩ := run_pair (At.at A3.out 0 rfl); have s3_0 : w.heap.size < w3.heap.size := At.lt A3.out 0 rfl; (try clear c2_0_0 c2_0_1 f2_0_0 f2_0_1 s2_0)))
  go_ret
  exact ⟨ret_bool (by simp), E3.out⟩
set_option maxRecDepth 100000 in
set_option maxHeartbeats 8000000 in
theorem textback_nb (a1 a2 r1 r2 : Int) (s tx : ByteArray) (w : World) (hP : Pow w) (hL : LibV w) (hl : decide (100 < (s.size : Int)) = false)
    (kv : ∀ (k : Nat) (w : World), w.heap[k]? = some (.cells #[.int .i64 a1, .int .i64 a2] 23) → Calls Tryd.prog 18 #[.slice (some ⟨k, 0, none⟩) 1 1] w fun E w' => E = .returned (.bool false) ∧ Ext w w')
    (k1 : ∀ w, Pow w → Calls Tryd.prog 17 #[fracV ⟨a1, a2⟩] w fun E w' => E = .returned (.tuple #[.string tx, .int .i64 8]) ∧ Ext w w')
    (k3 : ∀ w, LibV w → Pow w → Calls Tryd.prog 19 #[.string s] w fun E w' => E = .returned (fansV (⟨0, 0⟩, 11)) ∧ Ext w w') :
    Calls Tryd.prog 3 #[fracV ⟨a1, a2⟩, .string s] w fun e w' => e = .returned (.bool true) ∧ Ext w w' := by
  have HP := Lib.hid hP
  have HL := Lib.hid hL
  have KV := Lib.hid kv
  have K1 := Lib.hid k1
  have K3 := Lib.hid k3
  clear hP hL kv k1 k3
  go_enter Tryd.func3, Tryd.ntmps3
  go_wp2_with (first | (go_at_call 16; (with_reducible refine (c_alive _ (HP.out.ext (by repeat (first | exact Ext.refl _ | assumption | refine Ext.alloc ?_ _ | refine Ext.drewN ?_ _ | refine ext_grow ?_ _ _ | refine Ext.setCell ?_ (by first | exact Nat.le_refl _ | omega | (simp; done) | (simp; omega)) _ | refine Ext.trans ?_ (by assumption))))).mono ?_); rintro E w1 ⟨rfl, hb1⟩; have A1 := Lib.hid (show At w1 [(w.heap.size, Obj.cells #[.int .i64 a1, .int .i64 a2] 23)] from At.ext hb1 (show At _ [(w.heap.size, Obj.cells #[.int .i64 a1, .int .i64 a2] 23)] from ⟨(by repeat (first | (refine blk_at _ _ ?_; (first | rfl | (simp only [size_one]; done))) | refine (blk_past _ _ (by simp only [size_one]; omega)).trans ?_)), trivial⟩)); have E1 := Lib.hid (((show Ext w _ from (by repeat (first | exact Ext.refl _ | assumption | refine Ext.alloc ?_ _ | refine Ext.drewN ?_ _ | refine ext_grow ?_ _ _ | refine Ext.setCell ?_ (by first | exact Nat.le_refl _ | omega | (simp; done) | (simp; omega)) _ | refine Ext.trans ?_ (by assumption))))).trans hb1); obtain ⟨c1_0_0, c1_0_1, f1_0_0, f1_0_1⟩ := run_pair (At.at A1.out 0 rfl); have s1_0 : w.heap.size < w1.heap.size := At.lt A1.out 0 rfl) | (go_at_call 17; (with_reducible refine (K1.out _ (HP.out.ext E1.out)).mono ?_); rintro E w2 ⟨rfl, hb2⟩; have A2 := Lib.hid (show At w2 [(w.heap.size, Obj.cells #[.int .i64 a1, .int .i64 a2] 23)] from At.ext hb2 A1.out); have E2 := Lib.hid ((E1.out).trans hb2); obtain ⟨c2_0_0, c2_0_1, f2_0_0, f2_0_1⟩ := run_pair (At.at A2.out 0 rfl); have s2_0 : w.heap.size < w2.heap.size := At.lt A2.out 0 rfl; (try clear c1_0_0 c1_0_1 f1_0_0 f1_0_1 s1_0)) | (go_at_call 18; (refine (KV.out _ _ (by exact blk_at _ _ (by simp))).mono ?_); rintro E w3 ⟨rfl, hb3⟩; have A3 := Lib.hid (show At w3 [(w.heap.size, Obj.cells #[.int .i64 a1, .int .i64 a2] 23)] from At.ext hb3 (At.alloc A2.out _)); have E3 := Lib.hid ((((E2.out).alloc _)).trans hb3); obtain ⟨c3_0_0, c3_0_1, f3_0_0, f3_0_1⟩ := run_pair (At.at A3.out 0 rfl); have s3_0 : w.heap.size < w3.heap.size := At.lt A3.out 0 rfl; (try clear c2_0_0 c2_0_1 f2_0_0 f2_0_1 s2_0)) | (go_at_call 19; (with_reducible refine (K3.out _ (HL.out.ext E3.out) (HP.out.ext E3.out)).mono ?_); rintro E w4 ⟨rfl, hb4⟩; have A4 := Lib.hid (show At w4 [(w.heap.size, Obj.cells #[.int .i64 a1, .int .i64 a2] 23)] from At.ext hb4 A3.out); have E4 := Lib.hid ((E3.out).trans hb4); obtain ⟨c4_0_0, c4_0_1, f4_0_0, f4_0_1⟩ := run_pair (At.at A4.out 0 rfl); have s4_0 : w.heap.size < w4.heap.size := At.lt A4.out 0 rfl; (try clear c3_0_0 c3_0_1 f3_0_0 f3_0_1 s3_0)))
  go_ret
  exact ⟨ret_bool (by simp), ((E4.out).alloc _)⟩
set_option maxRecDepth 100000 in
set_option maxHeartbeats 8000000 in
theorem textback_ng (a1 a2 r1 r2 : Int) (s tx : ByteArray) (w : World) (hP : Pow w) (hL : LibV w) (hl : decide (100 < (s.size : Int)) = false)
    (kv : ∀ (k : Nat) (w : World), w.heap[k]? = some (.cells #[.int .i64 a1, .int .i64 a2] 23) → Calls Tryd.prog 18 #[.slice (some ⟨k, 0, none⟩) 1 1] w fun E w' => E = .returned (.bool false) ∧ Ext w w')
    (k1 : ∀ w, Pow w → Calls Tryd.prog 17 #[fracV ⟨a1, a2⟩] w fun E w' => E = .returned (.tuple #[.string tx, .int .i64 8]) ∧ Ext w w')
    (k3 : ∀ w, LibV w → Pow w → Calls Tryd.prog 19 #[.string s] w fun E w' => E = .returned (fansV (⟨r1, r2⟩, 0)) ∧ Ext w w')
    (k4 : ∀ w, Pow w → Calls Tryd.prog 17 #[fracV ⟨r1, r2⟩] w fun E w' => E = .returned (.tuple #[.string s, .int .i64 0]) ∧ Ext w w') :
    Calls Tryd.prog 3 #[fracV ⟨a1, a2⟩, .string s] w fun e w' => e = .returned (.bool true) ∧ Ext w w' := by
  have HP := Lib.hid hP
  have HL := Lib.hid hL
  have KV := Lib.hid kv
  have K1 := Lib.hid k1
  have K3 := Lib.hid k3
  have K4 := Lib.hid k4
  clear hP hL kv k1 k3 k4
  go_enter Tryd.func3, Tryd.ntmps3
  go_wp2_with (first | (go_at_call 16; (with_reducible refine (c_alive _ (HP.out.ext (by repeat (first | exact Ext.refl _ | assumption | refine Ext.alloc ?_ _ | refine Ext.drewN ?_ _ | refine ext_grow ?_ _ _ | refine Ext.setCell ?_ (by first | exact Nat.le_refl _ | omega | (simp; done) | (simp; omega)) _ | refine Ext.trans ?_ (by assumption))))).mono ?_); rintro E w1 ⟨rfl, hb1⟩; have A1 := Lib.hid (show At w1 [(w.heap.size, Obj.cells #[.int .i64 a1, .int .i64 a2] 23)] from At.ext hb1 (show At _ [(w.heap.size, Obj.cells #[.int .i64 a1, .int .i64 a2] 23)] from ⟨(by repeat (first | (refine blk_at _ _ ?_; (first | rfl | (simp only [size_one]; done))) | refine (blk_past _ _ (by simp only [size_one]; omega)).trans ?_)), trivial⟩)); have E1 := Lib.hid (((show Ext w _ from (by repeat (first | exact Ext.refl _ | assumption | refine Ext.alloc ?_ _ | refine Ext.drewN ?_ _ | refine ext_grow ?_ _ _ | refine Ext.setCell ?_ (by first | exact Nat.le_refl _ | omega | (simp; done) | (simp; omega)) _ | refine Ext.trans ?_ (by assumption))))).trans hb1); obtain ⟨c1_0_0, c1_0_1, f1_0_0, f1_0_1⟩ := run_pair (At.at A1.out 0 rfl); have s1_0 : w.heap.size < w1.heap.size := At.lt A1.out 0 rfl) | (go_at_call 17; (with_reducible refine (K1.out _ (HP.out.ext E1.out)).mono ?_); rintro E w2 ⟨rfl, hb2⟩; have A2 := Lib.hid (show At w2 [(w.heap.size, Obj.cells #[.int .i64 a1, .int .i64 a2] 23)] from At.ext hb2 A1.out); have E2 := Lib.hid ((E1.out).trans hb2); obtain ⟨c2_0_0, c2_0_1, f2_0_0, f2_0_1⟩ := run_pair (At.at A2.out 0 rfl); have s2_0 : w.heap.size < w2.heap.size := At.lt A2.out 0 rfl; (try clear c1_0_0 c1_0_1 f1_0_0 f1_0_1 s1_0)) | (go_at_call 18; (refine (KV.out _ _ (by exact blk_at _ _ (by simp))).mono ?_); rintro E w3 ⟨rfl, hb3⟩; have A3 := Lib.hid (show At w3 [(w.heap.size, Obj.cells #[.int .i64 a1, .int .i64 a2] 23)] from At.ext hb3 (At.alloc A2.out _)); have E3 := Lib.hid ((((E2.out).alloc _)).trans hb3); obtain ⟨c3_0_0, c3_0_1, f3_0_0, f3_0_1⟩ := run_pair (At.at A3.out 0 rfl); have s3_0 : w.heap.size < w3.heap.size := At.lt A3.out 0 rfl; (try clear c2_0_0 c2_0_1 f2_0_0 f2_0_1 s2_0)) | (go_at_call 19; (with_reducible refine (K3.out _ (HL.out.ext E3.out) (HP.out.ext E3.out)).mono ?_); rintro E w4 ⟨rfl, hb4⟩; have A4 := Lib.hid (show At w4 [(w.heap.size, Obj.cells #[.int .i64 a1, .int .i64 a2] 23)] from At.ext hb4 A3.out); have E4 := Lib.hid ((E3.out).trans hb4); obtain ⟨c4_0_0, c4_0_1, f4_0_0, f4_0_1⟩ := run_pair (At.at A4.out 0 rfl); have s4_0 : w.heap.size < w4.heap.size := At.lt A4.out 0 rfl; (try clear c3_0_0 c3_0_1 f3_0_0 f3_0_1 s3_0)) | (go_at_call 17; (with_reducible refine (K4.out _ (HP.out.ext ((E4.out).alloc _))).mono ?_); rintro E w5 ⟨rfl, hb5⟩; have A5 := Lib.hid (show At w5 [(w4.heap.size, Obj.cells #[.int .i64 r1, .int .i64 r2] 23), (w.heap.size, Obj.cells #[.int .i64 a1, .int .i64 a2] 23)] from At.ext hb5 (show At _ [(w4.heap.size, Obj.cells #[.int .i64 r1, .int .i64 r2] 23), (w.heap.size, Obj.cells #[.int .i64 a1, .int .i64 a2] 23)] from ⟨one_first _ _, At.alloc A4.out _⟩)); have E5 := Lib.hid ((((E4.out).alloc _)).trans hb5); obtain ⟨c5_0_0, c5_0_1, f5_0_0, f5_0_1⟩ := run_pair (At.at A5.out 0 rfl); have s5_0 : w4.heap.size < w5.heap.size := At.lt A5.out 0 rfl; obtain ⟨c5_1_0, c5_1_1, f5_1_0, f5_1_1⟩ := run_pair (At.at A5.out 1 rfl); have s5_1 : w.heap.size < w5.heap.size := At.lt A5.out 1 rfl; (try clear c4_0_0 c4_0_1 f4_0_0 f4_0_1)))
  go_ret
  exact ⟨ret_bool (by simp), E5.out⟩
theorem textback_law_true (a : Frac) (ha : a.wide) (s : ByteArray) (w : World) (hP : Pow w) (hL : LibV w) :
    Calls Tryd.prog 3 #[fracV a, .string s] w fun e w' => e = .returned (.bool true) ∧ Ext w w' := by
  obtain ⟨a1, a2⟩ := a
  have kv := fun k w h => l_valid1 ⟨a1, a2⟩ ha k w h
  have k1 := fun w h => c_Text ⟨a1, a2⟩ ha w h
  have k2 := fun w h1 h2 => c_Parse (textR ⟨a1, a2⟩).1 (by have := text_size ⟨a1, a2⟩; omega) w h1 h2
  have rest : ∀ va : Bool, decide (Frac.ok ⟨a1, a2⟩) = va → Calls Tryd.prog 3 #[fracV ⟨a1, a2⟩, .string s] w fun e w' => e = .returned (.bool true) ∧ Ext w w' := by
    intro va hva
    rw [hva] at kv
    have hlen : ∀ h : ¬ 100 < (s.size : Int), s.size ≤ 1000000 := fun h => by omega
    cases va with
    | true =>
      have hok := of_decide_eq_true hva
      have et : (textR ⟨a1, a2⟩).2 = 0 := by unfold textR; rw [if_pos hok]
      rw [et] at k1
      rw [parse_text hok] at k2
      by_cases hl : 100 < (s.size : Int)
      · exact textback_vl a1 a2 0 0 s _ w hP hL (decide_eq_true hl) kv k1 k2
      · have k3 := fun w h1 h2 => c_Parse s (hlen hl) w h1 h2
        by_cases hf : (parseR s).2 = 0
        · have k4 := fun w h => c_Text (parseR s).1 (parse_wide s) w h
          rw [(text_parse hf).1] at k4
          rw [show parseR s = ((parseR s).1, 0) from Prod.ext rfl hf] at k3
          exact textback_vg a1 a2 _ _ s _ w hP hL (decide_eq_false hl) kv k1 k2 k3 k4
        · rw [parse_not hf] at k3
          exact textback_vb a1 a2 0 0 s _ w hP hL (decide_eq_false hl) kv k1 k2 k3
    | false =>
      have hok := of_decide_eq_false hva
      have et : (textR ⟨a1, a2⟩).2 = 8 := by unfold textR; rw [if_neg hok]
      rw [et] at k1
      by_cases hl : 100 < (s.size : Int)
      · exact textback_nl a1 a2 0 0 s _ w hP hL (decide_eq_true hl) kv k1
      · have k3 := fun w h1 h2 => c_Parse s (hlen hl) w h1 h2
        by_cases hf : (parseR s).2 = 0
        · have k4 := fun w h => c_Text (parseR s).1 (parse_wide s) w h
          rw [(text_parse hf).1] at k4
          rw [show parseR s = ((parseR s).1, 0) from Prod.ext rfl hf] at k3
          exact textback_ng a1 a2 _ _ s _ w hP hL (decide_eq_false hl) kv k1 k3 k4
        · rw [parse_not hf] at k3
          exact textback_nb a1 a2 0 0 s _ w hP hL (decide_eq_false hl) kv k1 k3
  exact rest _ rfl
end Go.Proofs.YtodoimeiklilhaaDoor
