/- The walks of layer 9's functions on belts: windows, reaches, clear distances; the program's and the reference's. -/
import Derived.Test.YtcbimfaneinpkaaProg
import Derived.Test.YtcbimfaneinpkaaBase
import Derived.Test.YtcbimfaneinpkaaSpec
namespace Go.Proofs.Ytcbimfaneinpkaa
open Go.RowKit Go.Sort

set_option maxHeartbeats 1000000 in
theorem w23 (b : Belt) (w : World) :
    Calls Try.prog 23 #[.agg #[.int .i64 b.step, .int .i64 b.slip, .int .i64 b.gate, .int .i64 b.length]] w fun e w' => e = .returned (.int .i64 (checkBelt b)) ∧ Ext w w' := by
  go_enter Try.func23, Try.ntmps23
  go_wp2
  all_goals (go_ret; refine ⟨ret_int ?_, (Ext.refl _).alloc _⟩; first | exact (checkBelt_ok (by unfold Belt.ok; omega)).symm | exact (checkBelt_no (by unfold Belt.ok; omega)).symm)

set_option maxHeartbeats 1000000 in
theorem w56 (n lo hi : Int) (w : World) :
    Calls Try.prog 56 #[.int .i64 n, .int .i64 lo, .int .i64 hi] w fun e w' => e = .returned (.bool (decide (lo ≤ n ∧ n ≤ hi))) ∧ Ext w w' := by
  go_enter Try.func56, Try.ntmps56
  go_wp2
  all_goals (go_ret; refine ⟨ret_bool ?_, Ext.refl _⟩; simp; omega)

set_option maxHeartbeats 1000000 in
theorem w44 (b : Belt) (w : World) :
    Calls Try.prog 44 #[.agg #[.int .i64 b.step, .int .i64 b.slip, .int .i64 b.gate, .int .i64 b.length]] w fun e w' => e = .returned (.bool (decide b.ok)) ∧ Ext w w' := by
  go_enter Try.func44, Try.ntmps44
  go_wp2_with (go_at_call 56; refine (Ext.lift (w56 _ _ _ _) (by first | assumption | exact Ext.refl _)).mono ?_; rintro e w' ⟨rfl, hb⟩; have hc := hb.cell)
  all_goals (go_ret; refine ⟨ret_bool ?_, ((Ext.refl _).alloc _).trans (by assumption)⟩; refine dec_of ?_; first | (simp [Belt.ok]; done) | (simp [Belt.ok]; omega))
set_option maxHeartbeats 1000000 in
theorem w24 (b : Belt) (w : World) :
    Calls Try.prog 24 #[.agg #[.int .i64 b.step, .int .i64 b.slip, .int .i64 b.gate, .int .i64 b.length]] w fun e w' => e = .returned (.int .i64 (checkBelt b)) ∧ Ext w w' := by
  by_cases hok : b.ok
  all_goals go_enter Try.func24, Try.ntmps24
  all_goals go_wp2_with (go_at_call 44; refine (Ext.lift (w44 _ _) (by first | assumption | exact Ext.refl _)).mono ?_; rintro e w' ⟨rfl, hb⟩; have hc := hb.cell)
  all_goals (go_ret; refine ⟨ret_int ?_, ((Ext.refl _).alloc _).trans (by assumption)⟩; first | exact (checkBelt_ok hok).symm | exact (checkBelt_no hok).symm)

set_option maxHeartbeats 1000000 in
theorem w54 (b : Belt) (hok : b.ok) (w : World) :
    Calls Try.prog 54 #[.agg #[.int .i64 b.step, .int .i64 b.slip, .int .i64 b.gate, .int .i64 b.length]] w fun e w' => e = .returned (.agg #[.int .i64 b.step, .int .i64 b.slip, .int .i64 b.gate, .int .i64 b.length, .int .i64 (least b), .int .i64 (most b)]) ∧ Ext w w' := by
  obtain ⟨a1, a2, a3, a4, a5, a6, a7, a8⟩ := hok
  go_enter Try.func54, Try.ntmps54
  go_wp2
  refine bodyPost_ret (v := .agg #[.int .i64 b.step, .int .i64 b.slip, .int .i64 b.gate, .int .i64 b.length, .int .i64 (b.step - b.slip), .int .i64 (b.step + b.slip)]) (by simp [results, Try.results54, go_sem]) rfl ⟨rfl, ((Ext.refl _).alloc _).alloc _⟩

set_option maxHeartbeats 1000000 in
theorem w55 (b : Belt) (hok : b.ok) (p : Int) (h1 : 1 ≤ p) (h2 : p ≤ 1000000) (w : World) :
    Calls Try.prog 55 #[.agg #[.int .i64 b.step, .int .i64 b.slip, .int .i64 b.gate, .int .i64 b.length, .int .i64 (least b), .int .i64 (most b)], .int .i64 p] w fun e w' => e = .returned (.tuple #[.int .i64 (winFrom b p), .int .i64 (winTo b p)]) ∧ Ext w w' := by
  obtain ⟨a1, a2, a3, a4, a5, a6, a7, a8⟩ := hok
  have k1 : 1 ≤ least b := by unfold least; omega
  have k2 : 1 ≤ most b := by unfold most; omega
  obtain ⟨q1, q2⟩ := div_bd (a := p - 1) (b := most b) (by omega) k2
  obtain ⟨q3, q4⟩ := div_bd (a := p + b.length) (b := least b) (by omega) k1
  go_enter Try.func55, Try.ntmps55
  go_wp2_with fail
  go_quiet (fail)
  go_wp2
  go_ret2
  exact ⟨rfl, ((Ext.refl _).alloc _).drewN _⟩

set_option maxHeartbeats 1000000 in
theorem w53 (b : Belt) (hok : b.ok) (p : Int) (h1 : 1 ≤ p) (h2 : p ≤ 1000000) (w : World) :
    Calls Try.prog 53 #[.agg #[.int .i64 b.step, .int .i64 b.slip, .int .i64 b.gate, .int .i64 b.length], .int .i64 p] w fun e w' => e = .returned (.tuple #[.int .i64 (winFrom b p), .int .i64 (winTo b p)]) ∧ Ext w w' := by
  obtain ⟨a1, a2, a3, a4, a5, a6, a7, a8⟩ := hok
  have k1 : 1 ≤ least b := by unfold least; omega
  have k2 : 1 ≤ most b := by unfold most; omega
  obtain ⟨q1, q2⟩ := div_bd (a := p + most b - 1) (b := most b) (by omega) k2
  obtain ⟨q3, q4⟩ := div_bd (a := p + b.length) (b := least b) (by omega) k1
  have ce := ceil_eq (a := p) k2
  unfold least at k1 q3 q4
  unfold most at k2 q1 q2 ce
  have CE := Lib.hid ce
  clear ce
  go_enter Try.func53, Try.ntmps53
  go_wp2_with fail
  go_quiet (fail)
  go_wp2_with fail
  go_quiet (fail)
  go_wp2
  go_ret2
  exact ⟨ret_two CE.out rfl, (((Ext.refl _).alloc _).drewN _).drewN _⟩
set_option maxHeartbeats 1000000 in
theorem w17 (b : Belt) (p : Int) (w : World) :
    Calls Try.prog 17 #[.agg #[.int .i64 b.step, .int .i64 b.slip, .int .i64 b.gate, .int .i64 b.length], .int .i64 p] w fun e w' => e = .returned (.tuple #[.int .i64 (window b p).1, .int .i64 (window b p).2.1, .int .i64 (window b p).2.2]) ∧ Ext w w' := by
  by_cases hok : b.ok
  · have hz := checkBelt_ok hok
    by_cases hp : 1 ≤ p ∧ p ≤ 1000000
    · obtain ⟨hp1, hp2⟩ := hp
      go_enter Try.func17, Try.ntmps17
      go_wp2_with (first | (go_at_call 23; refine (Ext.lift (w23 _ _) (by first | assumption | exact Ext.refl _)).mono ?_; rintro e w' ⟨rfl, hb⟩; have hc := hb.cell) | (go_at_call 54; refine (Ext.lift (w54 _ hok _) (by first | assumption | exact Ext.refl _)).mono ?_; rintro e w' ⟨rfl, hb⟩; have hc := hb.cell) | (go_at_call 55; refine (Ext.lift (w55 _ hok _ hp1 hp2 _) (by first | assumption | exact Ext.refl _)).mono ?_; rintro e w' ⟨rfl, hb⟩; have hc := hb.cell))
      go_ret3
      refine ⟨?_, ((Ext.refl _).alloc _).trans (by assumption)⟩
      simp [window, hok, hp1, hp2]
    · go_enter Try.func17, Try.ntmps17
      go_wp2_with (first | (go_at_call 23; refine (Ext.lift (w23 _ _) (by first | assumption | exact Ext.refl _)).mono ?_; rintro e w' ⟨rfl, hb⟩; have hc := hb.cell))
      all_goals (go_ret3; refine ⟨?_, ((Ext.refl _).alloc _).trans (by assumption)⟩; simp [window, hok, hp])
  · have hz := checkBelt_no hok
    go_enter Try.func17, Try.ntmps17
    go_wp2_with (first | (go_at_call 23; refine (Ext.lift (w23 _ _) (by first | assumption | exact Ext.refl _)).mono ?_; rintro e w' ⟨rfl, hb⟩; have hc := hb.cell))
    all_goals (go_ret3; refine ⟨?_, ((Ext.refl _).alloc _).trans (by assumption)⟩; simp [window, hok])
end Go.Proofs.Ytcbimfaneinpkaa
