/- The walk of Twin: a track in new memory. -/
import Derived.Test.YtcbimfaneinpkaaResults
import Derived.Test.YtcbimfaneinpkaaBlocks
import Derived.Test.YtcbimfaneinpkaaAppend
import Derived.WalkSpells
set_option linter.unusedVariables false
set_option linter.unusedSimpArgs false
namespace Go.Proofs.Ytcbimfaneinpkaa
open Go.RowKit Go.Sort

theorem info63 : (Try.prog.info? 63).map (fun i => (i.zero, i.size, i.bytes)) = some (some (.agg #[.int .i64 0, .int .i64 0, .int .u8 0, .bool false]), 4, 24) := by kernel_rfl
theorem seens_one (l : List Seen) : ∀ u ∈ seens l, u.oneCell' = true := by
  intro u hu
  simp only [seens, List.mem_flatMap, seenCells, List.mem_cons, List.not_mem_nil, or_false] at hu
  obtain ⟨x, -, h⟩ := hu
  rcases h with rfl | rfl | rfl | rfl <;> rfl

/-- a track's value -/
abbrev trackVal (t : Track) (v : Value) : Value := .agg #[.int .i64 t.belt.step, .int .i64 t.belt.slip, .int .i64 t.belt.gate, .int .i64 t.belt.length, .int .i64 t.count, .int .i64 t.next, v]
/-- a track in memory of its own -/
def OwnTrack (t : Track) (w : World) (e : Ending) (w' : World) : Prop :=
  ∃ v', e = .returned (trackVal t v') ∧ w'.ownsRow w.heap.size 63 4 v' t.parts.length (seens t.parts) ∧ Ext w w'

set_option maxRecDepth 100000 in
set_option maxHeartbeats 4000000 in
theorem w28 (t : Track) (v : Value) (w : World) (hv : SeensAt w v t.parts) (hl : t.parts.length ≤ 1000000) :
    Calls Try.prog 28 #[trackVal t v] w (OwnTrack t w) := by
  have HV := Lib.hid hv
  obtain ⟨q1, ao, cap, rfl, k1, k2, -⟩ := hv
  obtain ⟨i0, hi, hz0, hz1, hz2⟩ := info_parts info63
  have ho0 : ∀ A B, (((w.alloc A).alloc B).alloc (.cells #[] 63)).ownsRow (w.heap.size + 1 + 1) 63 4 (.slice (some ⟨w.heap.size + 1 + 1, 0, none⟩) 0 0) 0 [] := by
    intro A B
    have h := owns_lit ((w.alloc A).alloc B) [] 63 0 4 (w.heap.size + 1 + 1) (Nat.le_of_eq (by rw [size_one, size_one])) (by unfold maxLen; omega) rfl
    have e : ((w.alloc A).alloc B).heap.size = w.heap.size + 1 + 1 := by rw [size_one, size_one]
    rw [e] at h
    exact h
  go_enter Try.func28, Try.ntmps28
  go_wp2_with (first | (at_builtin; refine wpList_append_sl rfl _ _ 45 rfl (w.heap.size + 1 + 1) 63 i0 (.agg #[.int .i64 0, .int .i64 0, .int .u8 0, .bool false]) 4 24 Try.underlying45 hi hz0 hz1 hz2 rfl (by omega) (.slice (some ⟨w.heap.size + 1 + 1, 0, none⟩) 0 0) 0 [] rfl (ho0 _ _) _ t.parts.length (seens t.parts) rfl (HV.out.ext ((((Ext.refl _).alloc _).alloc _).alloc _)) (seens_one _) (by unfold maxLen; omega) (by omega) (by rw [size_one, size_one, size_one]; omega) ?_; intro v' w' ho hg; have hsl := SlAt.of_owns ho; obtain ⟨-, sa, sc, hvv, -⟩ := hsl; subst hvv; have b0 : w'.heap[w.heap.size]? = some (.cells #[.int .i64 t.belt.step, .int .i64 t.belt.slip, .int .i64 t.belt.gate, .int .i64 t.belt.length, .int .i64 t.count, .int .i64 t.next, .slice ao t.parts.length cap] 47 (0, 0)) := (hg.block w.heap.size (by rw [size_one, size_one, size_one]; omega) (by simp [Value.ownBlock]; omega)).trans (three_first w _ _ _); have b1 : w'.heap[w.heap.size + 1]? = some (.cells #[.int .i64 0, .int .i64 0, .int .i64 0, .int .i64 0, .int .i64 0, .int .i64 0, .slice none 0 0] 47 (0, 0)) := (hg.block (w.heap.size + 1) (by rw [size_one, size_one, size_one]; omega) (by simp [Value.ownBlock])).trans (three_second w _ _ _); have hE : Ext w w' := ((((Ext.refl _).alloc _).alloc _).alloc _).grown hg (fun k hk => (by simp [Value.ownBlock] at hk; omega)); clear hg; have c0 := cell_of_at b0 0 rfl; have r0 := cell_of_at b1 0 rfl; have n0 := free_of_at b0 0; have m0 := free_of_at b1 0; have c1 := cell_of_at b0 1 rfl; have r1 := cell_of_at b1 1 rfl; have n1 := free_of_at b0 1; have m1 := free_of_at b1 1; have c2 := cell_of_at b0 2 rfl; have r2 := cell_of_at b1 2 rfl; have n2 := free_of_at b0 2; have m2 := free_of_at b1 2; have c3 := cell_of_at b0 3 rfl; have r3 := cell_of_at b1 3 rfl; have n3 := free_of_at b0 3; have m3 := free_of_at b1 3; have c4 := cell_of_at b0 4 rfl; have r4 := cell_of_at b1 4 rfl; have n4 := free_of_at b0 4; have m4 := free_of_at b1 4; have c5 := cell_of_at b0 5 rfl; have r5 := cell_of_at b1 5 rfl; have n5 := free_of_at b0 5; have m5 := free_of_at b1 5; have c6 := cell_of_at b0 6 rfl; have r6 := cell_of_at b1 6 rfl; have n6 := free_of_at b0 6; have m6 := free_of_at b1 6; have HO := Lib.hid ho; have B1 := Lib.hid b1; clear ho b0 b1))
  refine bodyPost_ret (results_cell_row rfl _ _ (w.heap.size + 1) 47 _ (0, 0) _ rfl (set_seven (by rw [Below.heap_setCell _ _ _ _ (by simp)]; exact B1.out)) Try.underlying47 rfl info47) rfl ?_
  refine ⟨_, rfl, owns_base (base := w.heap.size + 1 + 1) (own_seven (b := w.heap.size + 1) (own_set (bo := w.heap.size) (o := 6) (by simpa using HO.out) (by omega)) (by omega)) (by omega), ext_seven (hE.setCell (Nat.le_refl _) _) (by omega)⟩
end Go.Proofs.Ytcbimfaneinpkaa
