/- The walks of layer 9's functions on belts, continued; the statement on windows. -/
import Derived.Test.YtcbimfaneinpkaaWindowWalks2
namespace Go.Proofs.Ytcbimfaneinpkaa
open Go.RowKit Go.Sort

set_option maxHeartbeats 1000000 in
theorem w22 (b : Belt) (w : World) :
    Calls Try.prog 22 #[.agg #[.int .i64 b.step, .int .i64 b.slip, .int .i64 b.gate, .int .i64 b.length]] w fun e w' => e = .returned (.tuple #[.int .i64 (clear b).1, .int .i64 (clear b).2]) ∧ Ext w w' := by
  by_cases hok : b.ok
  · have hok' := hok
    obtain ⟨a1, a2, a3, a4, a5, a6, a7, a8⟩ := hok'
    obtain ⟨m1, m2⟩ := from_bd hok a5 a6
    obtain ⟨m3, m4⟩ := to_bd hok a5 a6
    have m5 := from_le_to hok a5
    go_enter Try.func22, Try.ntmps22
    go_wp2_with (first | (go_at_call 44; refine (Ext.lift (w44 _ _) (by first | assumption | exact Ext.refl _)).mono ?_; rintro e w' ⟨rfl, hb⟩; have hc := hb.cell) | (go_at_call 53; refine (Ext.lift (w53 _ hok _ a5 a6 _) (by first | assumption | exact Ext.refl _)).mono ?_; rintro e w' ⟨rfl, hb⟩; have hc := hb.cell))
    go_loop [6] (fun v => ∃ n : Int, v = .int .i64 n ∧ 1 ≤ n ∧ n ≤ winTo b b.gate - winFrom b b.gate + 1) (fun v => (winTo b b.gate - winFrom b b.gate + 1 - intOf v).toNat)
    case atStart => exact ⟨1, rfl, by omega, by omega⟩
    case round =>
      obtain ⟨n, rfl, n1, n2⟩ := hrel
      go_wp2
      · go_round
        case rel => exact ⟨n + 1, by go_num, by omega, by omega⟩
        case measure => simp [intOf]; omega
      · have hn : n = winTo b b.gate - winFrom b b.gate + 1 := by omega
        go_ret2
        refine ⟨?_, ((Ext.refl _).alloc _).trans (by assumption)⟩
        simp [clear, hok, first, final]
        omega
  · go_enter Try.func22, Try.ntmps22
    go_wp2_with (first | (go_at_call 44; refine (Ext.lift (w44 _ _) (by first | assumption | exact Ext.refl _)).mono ?_; rintro e w' ⟨rfl, hb⟩; have hc := hb.cell))
    all_goals (go_ret2; refine ⟨?_, ((Ext.refl _).alloc _).trans (by assumption)⟩; simp [clear, hok])

def slow (b : Belt) : Prop := b.ok ∧ 100000 < final b - first b
instance (b : Belt) : Decidable (slow b) := by unfold slow; infer_instance

set_option maxHeartbeats 1000000 in
theorem w16 (b : Belt) (w : World) :
    Calls Try.prog 16 #[.agg #[.int .i64 b.step, .int .i64 b.slip, .int .i64 b.gate, .int .i64 b.length]] w fun e w' => e = .returned (.bool (decide (slow b))) ∧ Ext w w' := by
  by_cases hok : b.ok
  · have hok' := hok
    obtain ⟨a1, a2, a3, a4, a5, a6, a7, a8⟩ := hok'
    obtain ⟨m1, m2⟩ := from_bd hok a5 a6
    obtain ⟨m3, m4⟩ := to_bd hok a5 a6
    go_enter Try.func16, Try.ntmps16
    go_wp2_with (first | (go_at_call 44; refine (Ext.lift (w44 _ _) (by first | assumption | exact Ext.refl _)).mono ?_; rintro e w' ⟨rfl, hb⟩; have hc := hb.cell) | (go_at_call 53; refine (Ext.lift (w53 _ hok _ a5 a6 _) (by first | assumption | exact Ext.refl _)).mono ?_; rintro e w' ⟨rfl, hb⟩; have hc := hb.cell))
    go_ret
    refine ⟨ret_bool ?_, ((Ext.refl _).alloc _).trans (by assumption)⟩
    refine dec_of ?_
    simp [slow, hok, first, final]
  · go_enter Try.func16, Try.ntmps16
    go_wp2_with (first | (go_at_call 44; refine (Ext.lift (w44 _ _) (by first | assumption | exact Ext.refl _)).mono ?_; rintro e w' ⟨rfl, hb⟩; have hc := hb.cell))
    all_goals (go_ret; refine ⟨ret_bool ?_, ((Ext.refl _).alloc _).trans (by assumption)⟩; refine dec_of ?_; simp [slow, hok])

set_option maxHeartbeats 2000000 in
theorem w3 (b : Belt) (p n : Int) (w : World) :
    Calls Try.prog 3 #[.agg #[.int .i64 b.step, .int .i64 b.slip, .int .i64 b.gate, .int .i64 b.length], .int .i64 p, .int .i64 n] w fun e w' => e = .returned (.bool true) ∧ Ext w w' := by
  by_cases hs : slow b
  · go_enter Try.func3, Try.ntmps3
    go_wp2_with (first | (go_at_call 16; refine (Ext.lift (w16 _ _) (by first | assumption | exact Ext.refl _)).mono ?_; rintro e w' ⟨rfl, hb⟩; have hc := hb.cell))
    go_ret
    exact ⟨rfl, ((Ext.refl _).alloc _).trans (by assumption)⟩
  · go_enter Try.func3, Try.ntmps3
    go_wp2_with (first | (go_at_call 16; refine (Ext.lift (w16 _ _) (by first | assumption | exact Ext.refl _)).mono ?_; rintro e w' ⟨rfl, hb⟩; have hc := hb.cell) | (go_at_call 17; refine (Ext.lift (w17 _ _ _) (by first | assumption | exact Ext.refl _)).mono ?_; rintro e w' ⟨rfl, hb⟩; have hc := hb.cell) | (go_at_call 18; refine (Ext.lift (w18 _ _ _) (by first | assumption | exact Ext.refl _)).mono ?_; rintro e w' ⟨rfl, hb⟩; have hc := hb.cell) | (go_at_call 19; refine (Ext.lift (w19 _ _ _) (by first | assumption | exact Ext.refl _)).mono ?_; rintro e w' ⟨rfl, hb⟩; have hc := hb.cell) | (go_at_call 20; refine (Ext.lift (w20 _ _ _) (by first | assumption | exact Ext.refl _)).mono ?_; rintro e w' ⟨rfl, hb⟩; have hc := hb.cell) | (go_at_call 21; refine (Ext.lift (w21 _ _) (by first | assumption | exact Ext.refl _)).mono ?_; rintro e w' ⟨rfl, hb⟩; have hc := hb.cell) | (go_at_call 22; refine (Ext.lift (w22 _ _) (by first | assumption | exact Ext.refl _)).mono ?_; rintro e w' ⟨rfl, hb⟩; have hc := hb.cell))
    have hz : w.heap.size < w'.heap.size := by have := hb.size; simp at this; omega
    refine wp_region_quiet_below (by kernel_rfl) (by kernel_rfl) ?_
    repeat (go_big_quiet_step ((first | (go_at_call 23; exact Calls.ext_of (w23 b _)) | (go_at_call 24; exact Calls.ext_of (w24 b _)))))
    refine wpQuiet_nil ?_
    intro _ hw'
    obtain ⟨⟨dq, osq⟩, hw''⟩ := hw'
    subst hw''
    go_wp2
    go_ret
    exact ⟨rfl, (((Ext.refl _).alloc _).trans (by assumption)).trans (Ext.grow _ _ _)⟩
end Go.Proofs.Ytcbimfaneinpkaa
