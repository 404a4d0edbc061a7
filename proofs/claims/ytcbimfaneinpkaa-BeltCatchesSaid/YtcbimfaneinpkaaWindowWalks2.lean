/- The walks of layer 9's functions on belts, continued. -/
import Derived.Test.YtcbimfaneinpkaaWindowWalks
namespace Go.Proofs.Ytcbimfaneinpkaa
open Go.RowKit Go.Sort

set_option maxHeartbeats 1000000 in
theorem w18 (b : Belt) (p : Int) (w : World) :
    Calls Try.prog 18 #[.agg #[.int .i64 b.step, .int .i64 b.slip, .int .i64 b.gate, .int .i64 b.length], .int .i64 p] w fun e w' => e = .returned (.tuple #[.int .i64 (window b p).1, .int .i64 (window b p).2.1, .int .i64 (window b p).2.2]) ∧ Ext w w' := by
  by_cases hok : b.ok
  · by_cases hp : 1 ≤ p ∧ p ≤ 1000000
    · have hp' := hp
      obtain ⟨hp1, hp2⟩ := hp'
      go_enter Try.func18, Try.ntmps18
      go_wp2_with (first | (go_at_call 44; refine (Ext.lift (w44 _ _) (by first | assumption | exact Ext.refl _)).mono ?_; rintro e w' ⟨rfl, hb⟩; have hc := hb.cell) | (go_at_call 56; refine (Ext.lift (w56 _ _ _ _) (by first | assumption | exact Ext.refl _)).mono ?_; rintro e w' ⟨rfl, hb⟩; have hc := hb.cell) | (go_at_call 53; refine (Ext.lift (w53 _ hok _ hp1 hp2 _) (by first | assumption | exact Ext.refl _)).mono ?_; rintro e w' ⟨rfl, hb⟩; have hc := hb.cell))
      go_ret3
      refine ⟨?_, ((Ext.refl _).alloc _).trans (by assumption)⟩
      simp [window, hok, hp1, hp2]
    · go_enter Try.func18, Try.ntmps18
      go_wp2_with (first | (go_at_call 44; refine (Ext.lift (w44 _ _) (by first | assumption | exact Ext.refl _)).mono ?_; rintro e w' ⟨rfl, hb⟩; have hc := hb.cell) | (go_at_call 56; refine (Ext.lift (w56 _ _ _ _) (by first | assumption | exact Ext.refl _)).mono ?_; rintro e w' ⟨rfl, hb⟩; have hc := hb.cell))
      all_goals (go_ret3; refine ⟨?_, ((Ext.refl _).alloc _).trans (by assumption)⟩; simp [window, hok, hp])
  · go_enter Try.func18, Try.ntmps18
    go_wp2_with (first | (go_at_call 44; refine (Ext.lift (w44 _ _) (by first | assumption | exact Ext.refl _)).mono ?_; rintro e w' ⟨rfl, hb⟩; have hc := hb.cell))
    all_goals (go_ret3; refine ⟨?_, ((Ext.refl _).alloc _).trans (by assumption)⟩; simp [window, hok])

theorem mul_bd {n k m : Int} (h1 : 0 ≤ n) (h2 : n ≤ 1000000) (h3 : 1 ≤ k) (h4 : k ≤ m) (h5 : m ≤ 2000) : 0 ≤ n * k ∧ n * k ≤ 2000000000 := by
  refine ⟨Int.mul_nonneg h1 (by omega), ?_⟩
  have a := Int.mul_le_mul_of_nonneg_left (show k ≤ 2000 by omega) h1
  omega

set_option maxHeartbeats 1000000 in
theorem w19 (b : Belt) (n : Int) (w : World) :
    Calls Try.prog 19 #[.agg #[.int .i64 b.step, .int .i64 b.slip, .int .i64 b.gate, .int .i64 b.length], .int .i64 n] w fun e w' => e = .returned (.tuple #[.int .i64 (reach b n).1, .int .i64 (reach b n).2.1, .int .i64 (reach b n).2.2]) ∧ Ext w w' := by
  by_cases hok : b.ok
  · have hz := checkBelt_ok hok
    by_cases hp : 0 ≤ n ∧ n ≤ 1000000
    · obtain ⟨hp1, hp2⟩ := hp
      obtain ⟨m1, m2⟩ := mul_bd hp1 hp2 (k := least b) (m := most b) (by unfold least; have := hok; unfold Belt.ok at this; omega) (by unfold least most; have := hok; unfold Belt.ok at this; omega) (by unfold most; have := hok; unfold Belt.ok at this; omega)
      obtain ⟨m3, m4⟩ := mul_bd hp1 hp2 (k := most b) (m := most b) (by unfold most; have := hok; unfold Belt.ok at this; omega) (by omega) (by unfold most; have := hok; unfold Belt.ok at this; omega)
      go_enter Try.func19, Try.ntmps19
      go_wp2_with (first | (go_at_call 23; refine (Ext.lift (w23 _ _) (by first | assumption | exact Ext.refl _)).mono ?_; rintro e w' ⟨rfl, hb⟩; have hc := hb.cell) | (go_at_call 54; refine (Ext.lift (w54 _ hok _) (by first | assumption | exact Ext.refl _)).mono ?_; rintro e w' ⟨rfl, hb⟩; have hc := hb.cell))
      go_quiet (fail)
      go_wp2
      go_ret3
      refine ⟨?_, (((((Ext.refl _).alloc _).trans (by assumption)).alloc _).drewN _)⟩
      simp [reach, hok, hp1, hp2]
    · go_enter Try.func19, Try.ntmps19
      go_wp2_with (first | (go_at_call 23; refine (Ext.lift (w23 _ _) (by first | assumption | exact Ext.refl _)).mono ?_; rintro e w' ⟨rfl, hb⟩; have hc := hb.cell))
      all_goals (go_ret3; refine ⟨?_, ((Ext.refl _).alloc _).trans (by assumption)⟩; simp [reach, hok, hp])
  · have hz := checkBelt_no hok
    go_enter Try.func19, Try.ntmps19
    go_wp2_with (first | (go_at_call 23; refine (Ext.lift (w23 _ _) (by first | assumption | exact Ext.refl _)).mono ?_; rintro e w' ⟨rfl, hb⟩; have hc := hb.cell))
    all_goals (go_ret3; refine ⟨?_, ((Ext.refl _).alloc _).trans (by assumption)⟩; simp [reach, hok])

set_option maxHeartbeats 1000000 in
theorem w20 (b : Belt) (n : Int) (w : World) :
    Calls Try.prog 20 #[.agg #[.int .i64 b.step, .int .i64 b.slip, .int .i64 b.gate, .int .i64 b.length], .int .i64 n] w fun e w' => e = .returned (.tuple #[.int .i64 (reach b n).1, .int .i64 (reach b n).2.1, .int .i64 (reach b n).2.2]) ∧ Ext w w' := by
  by_cases hok : b.ok
  · by_cases hp : 0 ≤ n ∧ n ≤ 1000000
    · have hp' := hp
      obtain ⟨hp1, hp2⟩ := hp'
      have hok' := hok
      obtain ⟨a1, a2, a3, a4, a5, a6, a7, a8⟩ := hok'
      obtain ⟨m1, m2⟩ := mul_bd hp1 hp2 (k := b.step - b.slip) (m := 1000) (by omega) (by omega) (by omega)
      obtain ⟨m3, m4⟩ := mul_bd hp1 hp2 (k := b.step + b.slip) (m := 2000) (by omega) (by omega) (by omega)
      go_enter Try.func20, Try.ntmps20
      go_wp2_with (first | (go_at_call 44; refine (Ext.lift (w44 _ _) (by first | assumption | exact Ext.refl _)).mono ?_; rintro e w' ⟨rfl, hb⟩; have hc := hb.cell) | (go_at_call 56; refine (Ext.lift (w56 _ _ _ _) (by first | assumption | exact Ext.refl _)).mono ?_; rintro e w' ⟨rfl, hb⟩; have hc := hb.cell))
      go_quiet (fail)
      go_wp2
      go_ret3
      refine ⟨?_, ((((Ext.refl _).alloc _).trans (by assumption)).drewN _)⟩
      simp [reach, hok, hp1, hp2, least, most]
    · go_enter Try.func20, Try.ntmps20
      go_wp2_with (first | (go_at_call 44; refine (Ext.lift (w44 _ _) (by first | assumption | exact Ext.refl _)).mono ?_; rintro e w' ⟨rfl, hb⟩; have hc := hb.cell) | (go_at_call 56; refine (Ext.lift (w56 _ _ _ _) (by first | assumption | exact Ext.refl _)).mono ?_; rintro e w' ⟨rfl, hb⟩; have hc := hb.cell))
      all_goals (go_ret3; refine ⟨?_, ((Ext.refl _).alloc _).trans (by assumption)⟩; simp [reach, hok, hp])
  · go_enter Try.func20, Try.ntmps20
    go_wp2_with (first | (go_at_call 44; refine (Ext.lift (w44 _ _) (by first | assumption | exact Ext.refl _)).mono ?_; rintro e w' ⟨rfl, hb⟩; have hc := hb.cell))
    all_goals (go_ret3; refine ⟨?_, ((Ext.refl _).alloc _).trans (by assumption)⟩; simp [reach, hok])

set_option maxHeartbeats 1000000 in
theorem w21 (b : Belt) (w : World) :
    Calls Try.prog 21 #[.agg #[.int .i64 b.step, .int .i64 b.slip, .int .i64 b.gate, .int .i64 b.length]] w fun e w' => e = .returned (.tuple #[.int .i64 (clear b).1, .int .i64 (clear b).2]) ∧ Ext w w' := by
  by_cases hok : b.ok
  · have hz := checkBelt_ok hok
    have hok' := hok
    obtain ⟨a1, a2, a3, a4, a5, a6, a7, a8⟩ := hok'
    obtain ⟨m1, m2⟩ := from_bd hok a5 a6
    obtain ⟨m3, m4⟩ := to_bd hok a5 a6
    go_enter Try.func21, Try.ntmps21
    go_wp2_with (first | (go_at_call 23; refine (Ext.lift (w23 _ _) (by first | assumption | exact Ext.refl _)).mono ?_; rintro e w' ⟨rfl, hb⟩; have hc := hb.cell))
    have hs : w.heap.size < w'.heap.size := by have := hb.size; simp at this; omega
    refine wp_region_quiet_below (by kernel_rfl) (by kernel_rfl) ?_
    repeat (go_big_quiet_step (((first | (go_at_call 54; exact Calls.ext_of (w54 b hok _)) | (go_at_call 55; exact Calls.ext_of (w55 b hok _ a5 a6 _))))))
    refine wpQuiet_nil ?_
    intro _ hw'
    obtain ⟨⟨dq, osq⟩, hw''⟩ := hw'
    subst hw''
    go_wp2
    go_ret2
    refine ⟨?_, (((Ext.refl _).alloc _).trans (by assumption)).trans (Ext.grow _ _ _)⟩
    simp [clear, hok, first, final]
  · have hz := checkBelt_no hok
    go_enter Try.func21, Try.ntmps21
    go_wp2_with (first | (go_at_call 23; refine (Ext.lift (w23 _ _) (by first | assumption | exact Ext.refl _)).mono ?_; rintro e w' ⟨rfl, hb⟩; have hc := hb.cell))
    all_goals (go_ret2; refine ⟨?_, ((Ext.refl _).alloc _).trans (by assumption)⟩; simp [clear, hok])
end Go.Proofs.Ytcbimfaneinpkaa
