/- The digit's modules, with the row's owner: the program's. -/
import Derived.Test.YtlnofbdhamingaaDoorGDraw
set_option linter.unusedVariables false
set_option linter.unusedSimpArgs false
namespace Go.Proofs.YtlnofbdhamingaaDoor
open Go.RowKit Go.Sort

set_option maxRecDepth 100000 in
set_option maxHeartbeats 4000000 in
theorem c_GlyphO (k : Nat) (hk : k < 10) (w : World) : Calls Tryd.prog 51 #[.int .i64 (k : Int)] w fun e w' => ∃ v', e = .returned (.tuple #[v', .int .i64 0]) ∧ w'.ownsRow w.heap.size 112 1 v' 15 (bytesL (glyphR k)) ∧ Ext w w' := by
  have hgl := glyphR_length k hk
  have K := Lib.hid (c_glyph k hk w)
  obtain ⟨g, hg⟩ : ∃ g, glyphR k = g := ⟨_, rfl⟩
  rw [hg] at K hgl ⊢
  have HG := Lib.hid hgl
  obtain ⟨z0, z1⟩ := zero_of_info info_arr
  have hst : ∀ w' : World, (storeCells ⟨w'.heap.size, 0, none⟩ (bytesL g) 0).run Tryd.prog (w'.alloc (.cells (Array.replicate 15 (.int .u8 0)) 112)) = .ok () (w'.alloc (.cells (bytesL g).toArray 112)) := fun (w' : World) => run_storeCells_new (P := Tryd.prog) w' 112 (Array.replicate 15 (.int .u8 0)) (bytesL g).toArray (by rw [List.size_toArray, bytesL_length, HG.out]; exact z1) (by show 15 = (bytesL g).length; rw [bytesL_length, HG.out]) (by rw [Array.all_eq_true']; intro x hx; exact bytes_oneCell' g x (by simpa using hx))
  have hbl : (bytesL g).length = 15 := by rw [bytesL_length, HG.out]
  have q1 : ¬ ((k : Int) < 0) := by omega
  have q2 : ¬ ((9 : Int) < (k : Int)) := by omega
  clear hg hgl
  go_enter Tryd.func51, Tryd.ntmps51
  go_wp2_with (go_at_call 82; (with_reducible refine K.out.mono ?_); rintro E w1 ⟨rfl, h1⟩)
  go_ret2
  exact ⟨_, rfl, owns_lit w1 (bytesL g) 112 15 1 w.heap.size h1.size (by unfold maxLen; omega) (by rw [bytesL_length, HG.out]), h1.alloc _⟩
end Go.Proofs.YtlnofbdhamingaaDoor
