/- The walk of 'ExactWholes'. -/
import Derived.Test.YtodoimeiklilhaaDoorRefRootC
set_option linter.unusedVariables false
set_option linter.unusedSimpArgs false
namespace Go.Proofs.YtodoimeiklilhaaDoor
open Go.RowKit Go.Sort

set_option maxRecDepth 100000 in
set_option maxHeartbeats 8000000 in
theorem wholes_long (a1 a2 c : Int) (s : ByteArray) (w : World) (hl : decide (100 < (s.size : Int)) = true) :
    Calls Tryd.prog 15 #[fracV ⟨a1, a2⟩, .string s, .int .i64 c] w fun e w' => e = .returned (.bool true) ∧ Ext w w' := by
  go_enter Tryd.func15, Tryd.ntmps15
  go_wp2
  go_ret
  exact ⟨ret_bool rfl, (show Ext w _ from (by repeat (first | exact Ext.refl _ | assumption | refine Ext.alloc ?_ _ | refine Ext.drewN ?_ _ | refine ext_grow ?_ _ _ | refine Ext.setCell ?_ (by first | exact Nat.le_refl _ | omega | (simp; done) | (simp; omega)) _ | refine Ext.trans ?_ (by assumption))))⟩
set_option maxRecDepth 100000 in
set_option maxHeartbeats 8000000 in
theorem wholes_walk (a1 a2 c f1 f2 c1 c2 te x1 x2 xe p1 p2 p3 p4 pe : Int) (s tx : ByteArray) (w : World) (hP : Pow w) (hL : LibV w) (hl : decide (100 < (s.size : Int)) = false)
    (k0 : ∀ w, Calls Tryd.prog 29 #[fracV ⟨a1, a2⟩] w fun E w' => E = .returned (.tuple #[.int .i64 f1, .int .i64 f2]) ∧ Ext w w')
    (r0 : ∀ w, Calls Tryd.prog 42 #[fracV ⟨a1, a2⟩] w fun E w' => E = .returned (.tuple #[.int .i64 f1, .int .i64 f2]) ∧ Ext w w')
    (k1 : ∀ w, Calls Tryd.prog 28 #[fracV ⟨a1, a2⟩] w fun E w' => E = .returned (.tuple #[.int .i64 c1, .int .i64 c2]) ∧ Ext w w')
    (r1 : ∀ w, Calls Tryd.prog 43 #[fracV ⟨a1, a2⟩] w fun E w' => E = .returned (.tuple #[.int .i64 c1, .int .i64 c2]) ∧ Ext w w')
    (k2 : ∀ w, Pow w → Calls Tryd.prog 17 #[fracV ⟨a1, a2⟩] w fun E w' => E = .returned (.tuple #[.string tx, .int .i64 te]) ∧ Ext w w')
    (r2 : ∀ w, Calls Tryd.prog 44 #[fracV ⟨a1, a2⟩] w fun E w' => E = .returned (.tuple #[.string tx, .int .i64 te]) ∧ Ext w w')
    (k3 : ∀ w, LibV w → Pow w → Calls Tryd.prog 19 #[.string s] w fun E w' => E = .returned (fansV (⟨x1, x2⟩, xe)) ∧ Ext w w')
    (r3 : ∀ w, Calls Tryd.prog 45 #[.string s] w fun E w' => E = .returned (fansV (⟨x1, x2⟩, xe)) ∧ Ext w w')
    (k4 : ∀ w, Calls Tryd.prog 36 #[fracV ⟨a1, a2⟩, .int .i64 c] w fun E w' => E = .returned (.tuple #[.agg #[.int .i64 p1, .int .i64 p2, .int .i64 p3, .int .i64 p4], .int .i64 pe]) ∧ Ext w w')
    (r4 : ∀ w, Calls Tryd.prog 46 #[fracV ⟨a1, a2⟩, .int .i64 c] w fun E w' => E = .returned (.tuple #[.agg #[.int .i64 p1, .int .i64 p2, .int .i64 p3, .int .i64 p4], .int .i64 pe]) ∧ Ext w w') :
    Calls Tryd.prog 15 #[fracV ⟨a1, a2⟩, .string s, .int .i64 c] w fun e w' => e = .returned (.bool true) ∧ Ext w w' := by
  have HP := Lib.hid hP
  have HL := Lib.hid hL
  have K0 := Lib.hid k0
  have R0 := Lib.hid r0
  have K1 := Lib.hid k1
  have R1 := Lib.hid r1
  have K2 := Lib.hid k2
  have R2 := Lib.hid r2
  have K3 := Lib.hid k3
  have R3 := Lib.hid r3
  have K4 := Lib.hid k4
  have R4 := Lib.hid r4
  clear hP hL k0 r0 k1 r1 k2 r2 k3 r3 k4 r4
  go_enter Tryd.func15, Tryd.ntmps15
  go_wp2_with (first | (go_at_call 29; (with_reducible refine (K0.out _).mono ?_); rintro E w1 ⟨rfl, hb1⟩; have A1 := Lib.hid (show At w1 [(w.heap.size, Obj.cells #[.int .i64 a1, .int .i64 a2] 23)] from At.ext hb1 (show At _ [(w.heap.size, Obj.cells #[.int .i64 a1, .int .i64 a2] 23)] from ⟨(by repeat (first | (refine blk_at _ _ ?_; (first | rfl | (simp only [size_one]; done))) | refine (blk_past _ _ (by simp only [size_one]; omega)).trans ?_)), trivial⟩)); have E1 := Lib.hid (((show Ext w _ from (by repeat (first | exact Ext.refl _ | assumption | refine Ext.alloc ?_ _ | refine Ext.drewN ?_ _ | refine ext_grow ?_ _ _ | refine Ext.setCell ?_ (by first | exact Nat.le_refl _ | omega | (simp; done) | (simp; omega)) _ | refine Ext.trans ?_ (by assumption))))).trans hb1); obtain ⟨c1_0_0, c1_0_1, f1_0_0, f1_0_1⟩ := run_pair (At.at A1.out 0 rfl); have s1_0 : w.heap.size < w1.heap.size := At.lt A1.out 0 rfl) | (go_at_call 42; (with_reducible refine (R0.out _).mono ?_); rintro E w2 ⟨rfl, hb2⟩; have A2 := Lib.hid (show At w2 [(w.heap.size, Obj.cells #[.int .i64 a1, .int .i64 a2] 23)] from At.ext hb2 A1.out); have E2 := Lib.hid ((E1.out).trans hb2); obtain ⟨c2_0_0, c2_0_1, f2_0_0, f2_0_1⟩ := run_pair (At.at A2.out 0 rfl); have s2_0 : w.heap.size < w2.heap.size := At.lt A2.out 0 rfl; (try clear c1_0_0 c1_0_1 f1_0_0 f1_0_1 s1_0)) | (go_at_call 28; (with_reducible refine (K1.out _).mono ?_); rintro E w3 ⟨rfl, hb3⟩; have A3 := Lib.hid (show At w3 [(w.heap.size, Obj.cells #[.int .i64 a1, .int .i64 a2] 23)] from At.ext hb3 A2.out); have E3 := Lib.hid ((E2.out).trans hb3); obtain ⟨c3_0_0, c3_0_1, f3_0_0, f3_0_1⟩ := run_pair (At.at A3.out 0 rfl); have s3_0 : w.heap.size < w3.heap.size := At.lt A3.out 0 rfl; (try clear c2_0_0 c2_0_1 f2_0_0 f2_0_1 s2_0)) | (go_at_call 43; (with_reducible refine (R1.out _).mono ?_); rintro E w4 ⟨rfl, hb4⟩; have A4 := Lib.hid (show At w4 [(w.heap.size, Obj.cells #[.int .i64 a1, .int .i64 a2] 23)] from At.ext hb4 A3.out); have E4 := Lib.hid ((E3.out).trans hb4); obtain ⟨c4_0_0, c4_0_1, f4_0_0, f4_0_1⟩ := run_pair (At.at A4.out 0 rfl); have s4_0 : w.heap.size < w4.heap.size := At.lt A4.out 0 rfl; (try clear c3_0_0 c3_0_1 f3_0_0 f3_0_1 s3_0)) | (go_at_call 17; (with_reducible refine (K2.out _ (HP.out.ext E4.out)).mono ?_); rintro E w5 ⟨rfl, hb5⟩; have A5 := Lib.hid (show At w5 [(w.heap.size, Obj.cells #[.int .i64 a1, .int .i64 a2] 23)] from At.ext hb5 A4.out); have E5 := Lib.hid ((E4.out).trans hb5); obtain ⟨c5_0_0, c5_0_1, f5_0_0, f5_0_1⟩ := run_pair (At.at A5.out 0 rfl); have s5_0 : w.heap.size < w5.heap.size := At.lt A5.out 0 rfl; (try clear c4_0_0 c4_0_1 f4_0_0 f4_0_1 s4_0)) | (go_at_call 44; (with_reducible refine (R2.out _).mono ?_); rintro E w6 ⟨rfl, hb6⟩; have A6 := Lib.hid (show At w6 [(w.heap.size, Obj.cells #[.int .i64 a1, .int .i64 a2] 23)] from At.ext hb6 A5.out); have E6 := Lib.hid ((E5.out).trans hb6); obtain ⟨c6_0_0, c6_0_1, f6_0_0, f6_0_1⟩ := run_pair (At.at A6.out 0 rfl); have s6_0 : w.heap.size < w6.heap.size := At.lt A6.out 0 rfl; (try clear c5_0_0 c5_0_1 f5_0_0 f5_0_1 s5_0)) | (go_at_call 19; (with_reducible refine (K3.out _ (HL.out.ext E6.out) (HP.out.ext E6.out)).mono ?_); rintro E w7 ⟨rfl, hb7⟩; have A7 := Lib.hid (show At w7 [(w.heap.size, Obj.cells #[.int .i64 a1, .int .i64 a2] 23)] from At.ext hb7 A6.out); have E7 := Lib.hid ((E6.out).trans hb7); obtain ⟨c7_0_0, c7_0_1, f7_0_0, f7_0_1⟩ := run_pair (At.at A7.out 0 rfl); have s7_0 : w.heap.size < w7.heap.size := At.lt A7.out 0 rfl; (try clear c6_0_0 c6_0_1 f6_0_0 f6_0_1 s6_0)) | (go_at_call 45; (with_reducible refine (R3.out _).mono ?_); rintro E w8 ⟨rfl, hb8⟩; have A8 := Lib.hid (show At w8 [(w7.heap.size, Obj.cells #[.int .i64 x1, .int .i64 x2] 23), (w.heap.size, Obj.cells #[.int .i64 a1, .int .i64 a2] 23)] from At.ext hb8 (show At _ [(w7.heap.size, Obj.cells #[.int .i64 x1, .int .i64 x2] 23), (w.heap.size, Obj.cells #[.int .i64 a1, .int .i64 a2] 23)] from ⟨one_first _ _, At.alloc A7.out _⟩)); have E8 := Lib.hid ((((E7.out).alloc _)).trans hb8); obtain ⟨c8_0_0, c8_0_1, f8_0_0, f8_0_1⟩ := run_pair (At.at A8.out 0 rfl); have s8_0 : w7.heap.size < w8.heap.size := At.lt A8.out 0 rfl; obtain ⟨c8_1_0, c8_1_1, f8_1_0, f8_1_1⟩ := run_pair (At.at A8.out 1 rfl); have s8_1 : w.heap.size < w8.heap.size := At.lt A8.out 1 rfl; (try clear c7_0_0 c7_0_1 f7_0_0 f7_0_1)) | (go_at_call 36; (with_reducible refine (K4.out _).mono ?_); rintro E w9 ⟨rfl, hb9⟩; have A9 := Lib.hid (show At w9 [(w8.heap.size, Obj.cells #[.int .i64 x1, .int .i64 x2] 23), (w7.heap.size, Obj.cells #[.int .i64 x1, .int .i64 x2] 23), (w.heap.size, Obj.cells #[.int .i64 a1, .int .i64 a2] 23)] from At.ext hb9 (show At _ [(w8.heap.size, Obj.cells #[.int .i64 x1, .int .i64 x2] 23), (w7.heap.size, Obj.cells #[.int .i64 x1, .int .i64 x2] 23), (w.heap.size, Obj.cells #[.int .i64 a1, .int .i64 a2] 23)] from ⟨one_first _ _, At.alloc A8.out _⟩)); have E9 := Lib.hid ((((E8.out).alloc _)).trans hb9); obtain ⟨c9_0_0, c9_0_1, f9_0_0, f9_0_1⟩ := run_pair (At.at A9.out 0 rfl); have s9_0 : w8.heap.size < w9.heap.size := At.lt A9.out 0 rfl; obtain ⟨c9_1_0, c9_1_1, f9_1_0, f9_1_1⟩ := run_pair (At.at A9.out 1 rfl); have s9_1 : w7.heap.size < w9.heap.size := At.lt A9.out 1 rfl; obtain ⟨c9_2_0, c9_2_1, f9_2_0, f9_2_1⟩ := run_pair (At.at A9.out 2 rfl); have s9_2 : w.heap.size < w9.heap.size := At.lt A9.out 2 rfl; (try clear c8_0_0 c8_0_1 f8_0_0 f8_0_1 c8_1_0 c8_1_1 f8_1_0 f8_1_1)) | (go_at_call 46; (with_reducible refine (R4.out _).mono ?_); rintro E w10 ⟨rfl, hb10⟩; have A10 := Lib.hid (show At w10 [(w9.heap.size, Obj.cells #[.int .i64 p1, .int .i64 p2, .int .i64 p3, .int .i64 p4] 41), (w8.heap.size, Obj.cells #[.int .i64 x1, .int .i64 x2] 23), (w7.heap.size, Obj.cells #[.int .i64 x1, .int .i64 x2] 23), (w.heap.size, Obj.cells #[.int .i64 a1, .int .i64 a2] 23)] from At.ext hb10 (show At _ [(w9.heap.size, Obj.cells #[.int .i64 p1, .int .i64 p2, .int .i64 p3, .int .i64 p4] 41), (w8.heap.size, Obj.cells #[.int .i64 x1, .int .i64 x2] 23), (w7.heap.size, Obj.cells #[.int .i64 x1, .int .i64 x2] 23), (w.heap.size, Obj.cells #[.int .i64 a1, .int .i64 a2] 23)] from ⟨one_first _ _, At.alloc A9.out _⟩)); have E10 := Lib.hid ((((E9.out).alloc _)).trans hb10); obtain ⟨⟨c10_0_0, c10_0_1, c10_0_2, c10_0_3⟩, f10_0_0, f10_0_1, f10_0_2, f10_0_3⟩ := run_four (At.at A10.out 0 rfl); have s10_0 : w9.heap.size < w10.heap.size := At.lt A10.out 0 rfl; obtain ⟨c10_1_0, c10_1_1, f10_1_0, f10_1_1⟩ := run_pair (At.at A10.out 1 rfl); have s10_1 : w8.heap.size < w10.heap.size := At.lt A10.out 1 rfl; obtain ⟨c10_2_0, c10_2_1, f10_2_0, f10_2_1⟩ := run_pair (At.at A10.out 2 rfl); have s10_2 : w7.heap.size < w10.heap.size := At.lt A10.out 2 rfl; obtain ⟨c10_3_0, c10_3_1, f10_3_0, f10_3_1⟩ := run_pair (At.at A10.out 3 rfl); have s10_3 : w.heap.size < w10.heap.size := At.lt A10.out 3 rfl; (try clear c9_0_0 c9_0_1 f9_0_0 f9_0_1 c9_1_0 c9_1_1 f9_1_0 f9_1_1 c9_2_0 c9_2_1 f9_2_0 f9_2_1)))
  go_ret
  exact ⟨ret_bool (by simp), ((E10.out).alloc _)⟩
def boxF : Box → Span
  | none => ⟨⟨0, 0⟩, ⟨0, 0⟩⟩
  | some (lo, hi) => ⟨⟨nm lo, dn lo⟩, ⟨nm hi, dn hi⟩⟩
theorem boxV_F (s : Box) : boxV s = fspanV (boxF s) := by cases s <;> rfl
theorem wholes_law_true (a : Frac) (ha : a.wide) (s : ByteArray) (c : Int) (hc : InI64 c) (w : World) (hP : Pow w) (hL : LibV w) :
    Calls Tryd.prog 15 #[fracV a, .string s, .int .i64 c] w fun e w' => e = .returned (.bool true) ∧ Ext w w' := by
  obtain ⟨a1, a2⟩ := a
  by_cases hl : 100 < (s.size : Int)
  · exact wholes_long a1 a2 c s w (decide_eq_true hl)
  · have kr := fun w => c_Root ⟨a1, a2⟩ c ha hc w
    have rr := fun w => r_Root ⟨a1, a2⟩ c ha w
    simp only [sansV, boxV_F] at kr rr
    exact wholes_walk a1 a2 c _ _ _ _ _ _ _ _ _ _ _ _ _ s _ w hP hL (decide_eq_false hl) (c_Floor _ ha) (r_Floor _ ha) (c_Ceil _ ha) (r_Ceil _ ha) (c_Text _ ha) (r_Text _ ha) (c_Parse s (by omega)) (r_Parse s (by omega)) kr rr
end Go.Proofs.YtodoimeiklilhaaDoor
