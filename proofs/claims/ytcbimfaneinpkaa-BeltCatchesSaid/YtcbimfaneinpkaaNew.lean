/- The walks of NewTrack, of the program and of the reference. -/
import Derived.Test.YtcbimfaneinpkaaResults
import Derived.Test.YtcbimfaneinpkaaBlocks
import Derived.Test.YtcbimfaneinpkaaWindowWalks
set_option linter.unusedVariables false
set_option linter.unusedSimpArgs false
namespace Go.Proofs.Ytcbimfaneinpkaa
open Go.RowKit Go.Sort

/-- a track without parts, or none -/
def newTrack (b : Belt) : Track × Int := if b.ok then (⟨b, 0, 0, []⟩, 0) else (⟨⟨0, 0, 0, 0⟩, 0, 0, []⟩, 90)

theorem w29 (b : Belt) (w : World) :
    Calls Try.prog 29 #[.agg #[.int .i64 b.step, .int .i64 b.slip, .int .i64 b.gate, .int .i64 b.length]] w fun e w' => e = .returned (.tuple #[.agg #[.int .i64 (newTrack b).1.belt.step, .int .i64 (newTrack b).1.belt.slip, .int .i64 (newTrack b).1.belt.gate, .int .i64 (newTrack b).1.belt.length, .int .i64 (newTrack b).1.count, .int .i64 (newTrack b).1.next, .slice none 0 0], .int .i64 (newTrack b).2]) ∧ Ext w w' := by
  by_cases hok : b.ok
  · have hcb : checkBelt b = 0 := checkBelt_ok hok
    rw [show newTrack b = (⟨b, 0, 0, []⟩, 0) from if_pos hok]
    go_enter Try.func29, Try.ntmps29
    go_wp2_with ((go_at_call 23; refine (Ext.lift (w23 b _) (by first | assumption | exact Ext.refl _)).mono ?_; rintro e w' ⟨rfl, hb⟩; have hc := hb.cell; have hf := hb.frozen))
    refine bodyPost_ret (results_row2 rfl _ _ (w.heap.size + 1) 47 _ (0, 0) _ rfl (set_seven (by rw [hb.block (w.heap.size + 1) (by simp)]; exact blk_at _ _ (by simp))) Try.underlying47 rfl info47) rfl ?_
    exact ⟨rfl, ext_seven ((((Ext.refl _).alloc _).alloc _).trans hb) (by simp)⟩
  · have hcb : checkBelt b = 90 := checkBelt_no hok
    rw [show newTrack b = (⟨⟨0, 0, 0, 0⟩, 0, 0, []⟩, 90) from if_neg hok]
    go_enter Try.func29, Try.ntmps29
    go_wp2_with ((go_at_call 23; refine (Ext.lift (w23 b _) (by first | assumption | exact Ext.refl _)).mono ?_; rintro e w' ⟨rfl, hb⟩; have hc := hb.cell; have hf := hb.frozen))
    refine bodyPost_ret (results_row2 rfl _ _ (w.heap.size + 1) 47 _ (0, 0) _ rfl (set_seven (by rw [hb.block (w.heap.size + 1) (by simp)]; exact blk_at _ _ (by simp))) Try.underlying47 rfl info47) rfl ?_
    exact ⟨rfl, ext_seven ((((Ext.refl _).alloc _).alloc _).trans hb) (by simp)⟩

theorem w30 (b : Belt) (w : World) :
    Calls Try.prog 30 #[.agg #[.int .i64 b.step, .int .i64 b.slip, .int .i64 b.gate, .int .i64 b.length]] w fun e w' => e = .returned (.tuple #[.agg #[.int .i64 (newTrack b).1.belt.step, .int .i64 (newTrack b).1.belt.slip, .int .i64 (newTrack b).1.belt.gate, .int .i64 (newTrack b).1.belt.length, .int .i64 (newTrack b).1.count, .int .i64 (newTrack b).1.next, .slice none 0 0], .int .i64 (newTrack b).2]) ∧ Ext w w' := by
  by_cases hok : b.ok
  · have hcb : decide b.ok = true := decide_eq_true hok
    rw [show newTrack b = (⟨b, 0, 0, []⟩, 0) from if_pos hok]
    go_enter Try.func30, Try.ntmps30
    go_wp2_with ((go_at_call 44; refine (Ext.lift (w44 b _) (by first | assumption | exact Ext.refl _)).mono ?_; rintro e w' ⟨rfl, hb⟩; have hc := hb.cell; have hf := hb.frozen))
    refine bodyPost_ret (results_row2 rfl _ _ (w.heap.size + 1) 47 _ (0, 0) _ rfl (set_seven (by rw [hb.block (w.heap.size + 1) (by simp)]; exact blk_at _ _ (by simp))) Try.underlying47 rfl info47) rfl ?_
    exact ⟨rfl, ext_seven ((((Ext.refl _).alloc _).alloc _).trans hb) (by simp)⟩
  · have hcb : decide b.ok = false := decide_eq_false hok
    rw [show newTrack b = (⟨⟨0, 0, 0, 0⟩, 0, 0, []⟩, 90) from if_neg hok]
    go_enter Try.func30, Try.ntmps30
    go_wp2_with ((go_at_call 44; refine (Ext.lift (w44 b _) (by first | assumption | exact Ext.refl _)).mono ?_; rintro e w' ⟨rfl, hb⟩; have hc := hb.cell; have hf := hb.frozen))
    refine bodyPost_ret (results_row2 rfl _ _ (w.heap.size + 1) 47 _ (0, 0) _ rfl (set_seven (by rw [hb.block (w.heap.size + 1) (by simp)]; exact blk_at _ _ (by simp))) Try.underlying47 rfl info47) rfl ?_
    exact ⟨rfl, ext_seven ((((Ext.refl _).alloc _).alloc _).trans hb) (by simp)⟩
end Go.Proofs.Ytcbimfaneinpkaa
