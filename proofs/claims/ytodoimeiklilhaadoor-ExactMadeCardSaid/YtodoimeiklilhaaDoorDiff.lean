/- The walks of layer 1's difference and quotient. -/
import Derived.Test.YtodoimeiklilhaaDoorSum
set_option linter.unusedVariables false
set_option linter.unusedSimpArgs false
namespace Go.Proofs.YtodoimeiklilhaaDoor
open Go.RowKit Go.Sort

set_option maxRecDepth 100000 in
set_option maxHeartbeats 2000000 in
theorem c_difference (p q : Rat) (hp : Fits p) (hq : Fits q) (w : World) :
    Calls Tryd.prog 57 #[ratV p, ratV q] w fun e w' => e = .returned (fansV (answer (p - q))) ∧ Ext w w' := by
  obtain ⟨r, hr⟩ : ∃ r, answer (p - q) = r := ⟨_, rfl⟩
  rw [hr]
  obtain ⟨q', hq'⟩ : ∃ q', -q = q' := ⟨_, rfl⟩
  have cn := Lib.hid (fun w => hq' ▸ c_minus q hq w)
  have hr' : answer (p + q') = r := by rw [← hq', ← Rat.sub_eq_add_neg]; exact hr
  have cs := Lib.hid (fun w => hr' ▸ c_sum p q' hp (hq' ▸ fits_neg hq) w)
  clear hr hr' hq'
  go_enter Tryd.func57, Tryd.ntmps57
  go_wp2
  refine RT.region_store (aq := ?aqs1) (n := 6) (sp := 4) (vx := 10) (b0 := w.heap.size + 1 + 1) (oz := .cells #[.int .i64 0, .int .i64 0] 23) (ox := .cells #[.int .i64 r.1.num, .int .i64 r.1.den] 23) (qs1 := [_, _, _, _, _, _]) (qs2 := [_]) (wb := w) (RT.Has [(w.heap.size, 0, .int .i64 (nm p)), (w.heap.size, 1, .int .i64 (dn p)), (w.heap.size + 1, 0, .int .i64 (nm q)), (w.heap.size + 1, 1, .int .i64 (dn q))]) (by kernel_rfl) rfl (by kernel_rfl) (by kernel_rfl) rfl rfl (by kernel_rfl) (by kernel_rfl) rfl ?_ ?_ ?_ ?_ ?_ ?_ ?_ ?_ ?_
  rotate_left
  · exact three_third _ _ _ _
  · exact (by repeat (first | exact Ext.refl _ | assumption | refine Ext.alloc ?_ _ | refine Ext.drewN ?_ _ | refine ext_grow ?_ _ _ | refine Ext.setCell ?_ (by first | exact Nat.le_refl _ | omega | (simp; done) | (simp; omega)) _ | refine Ext.trans ?_ (by assumption)))
  · omega
  · refine RT.Has.ext (w := ((w.alloc (.cells #[.int .i64 (nm p), .int .i64 (dn p)] 23)).alloc (.cells #[.int .i64 (nm q), .int .i64 (dn q)] 23)).alloc (.cells #[.int .i64 0, .int .i64 0] 23)) ?_ (Ext.refl _).drew
    exact ⟨cell_of_at (three_first _ _ _ _) 0 rfl, cell_of_at (three_first _ _ _ _) 1 rfl, cell_of_at (three_second _ _ _ _) 0 rfl, cell_of_at (three_second _ _ _ _) 1 rfl, trivial⟩
  · exact fun _ _ h => h.ext
  · exact fun _ _ h k => h.other (by simp; omega) k
  · rintro w1 ⟨m0, m1, n0, n1, -⟩
    simp only [List.cons_append, List.nil_append]
    have z0 := World.block_lt_of_cell? _ _ m0
    have z1 := World.block_lt_of_cell? _ _ n0
    simp only at z0 z1
    repeat (go_big_quiet_step ((first | (go_at_call 62; with_reducible exact Calls.ext_of (cn.out _)) | (go_at_call 60; with_reducible exact Calls.ext_of (cs.out _)))))
    refine wpQuiet_nil ?_
    exact rfl
  · intro e w h1 h2 h3
    obtain ⟨c0, c1, f0, f1⟩ := run_pair h3
    have h2' : e (.tmp 10) = .agg #[.int .i64 r.1.num, .int .i64 r.1.den] := h2
    apply Exists.intro
    apply And.intro
    · simp [execOp, go_sem, h1, h2', c0, c1, f0, f1]
      exact rfl
    · exact store_pair h3
  · intro w' _ hE hX
    go_wp2
    refine bodyPost_ret (RT.results_row2 rfl _ _ (w.heap.size + 1 + 1) 23 _ (0, 0) _ rfl hX Tryd.underlying23 rfl info_frac) rfl ?_
    exact ⟨rfl, hE⟩
def quotR (p q : Rat) : Frac × Int := if nm q = 0 then (⟨0, 0⟩, 10) else answer (p / q)
set_option maxRecDepth 100000 in
set_option maxHeartbeats 2000000 in
theorem c_quotient (p q : Rat) (hp : Fits p) (hq : Fits q) (w : World) :
    Calls Tryd.prog 59 #[ratV p, ratV q] w fun e w' => e = .returned (fansV (quotR p q)) ∧ Ext w w' := by
  obtain ⟨r, hr⟩ : ∃ r, quotR p q = r := ⟨_, rfl⟩
  rw [hr]
  by_cases h0 : nm q = 0
  · have HR : Hid (((⟨0, 0⟩, 10) : Frac × Int) = r) := by rw [← hr]; exact (if_pos h0).symm
    have t0 : (nm q == 0) = true := by simpa using h0
    have T0 := Lib.hid h0
    clear hr h0
    go_enter Tryd.func59, Tryd.ntmps59
    go_wp2
    refine bp_ret rfl ?_
    apply Exists.intro
    apply And.intro
    · simp [results, Tryd.results59, go_sem]; rfl
    exact ⟨ret_val (by rw [← HR.out]), (by repeat (first | exact Ext.refl _ | assumption | refine Ext.alloc ?_ _ | refine Ext.drewN ?_ _ | refine ext_grow ?_ _ _ | refine Ext.setCell ?_ (by first | exact Nat.le_refl _ | omega | (simp; done) | (simp; omega)) _ | refine Ext.trans ?_ (by assumption)))⟩
  obtain ⟨q', hq'⟩ : ∃ q', q⁻¹ = q' := ⟨_, rfl⟩
  have cn := Lib.hid (fun w => hq' ▸ c_over q hq h0 w)
  have hr' : answer (p * q') = r := by rw [← hr, ← hq']; unfold quotR; rw [if_neg h0]; rfl
  have cs := Lib.hid (fun w => hr' ▸ c_times p q' hp (hq' ▸ fits_inv hq h0) w)
  have t0 : (nm q == 0) = false := by simpa using h0
  clear hr hr' hq' h0
  go_enter Tryd.func59, Tryd.ntmps59
  go_wp2
  refine RT.region_store (aq := ?aqs2) (n := 6) (sp := 4) (vx := 14) (b0 := w.heap.size + 1 + 1) (oz := .cells #[.int .i64 0, .int .i64 0] 23) (ox := .cells #[.int .i64 r.1.num, .int .i64 r.1.den] 23) (qs1 := [_, _, _, _, _, _]) (qs2 := [_]) (wb := w) (RT.Has [(w.heap.size, 0, .int .i64 (nm p)), (w.heap.size, 1, .int .i64 (dn p)), (w.heap.size + 1, 0, .int .i64 (nm q)), (w.heap.size + 1, 1, .int .i64 (dn q))]) (by kernel_rfl) rfl (by kernel_rfl) (by kernel_rfl) rfl rfl (by kernel_rfl) (by kernel_rfl) rfl ?_ ?_ ?_ ?_ ?_ ?_ ?_ ?_ ?_
  rotate_left
  · exact three_third _ _ _ _
  · exact (by repeat (first | exact Ext.refl _ | assumption | refine Ext.alloc ?_ _ | refine Ext.drewN ?_ _ | refine ext_grow ?_ _ _ | refine Ext.setCell ?_ (by first | exact Nat.le_refl _ | omega | (simp; done) | (simp; omega)) _ | refine Ext.trans ?_ (by assumption)))
  · omega
  · refine RT.Has.ext (w := ((w.alloc (.cells #[.int .i64 (nm p), .int .i64 (dn p)] 23)).alloc (.cells #[.int .i64 (nm q), .int .i64 (dn q)] 23)).alloc (.cells #[.int .i64 0, .int .i64 0] 23)) ?_ (Ext.refl _).drew
    exact ⟨cell_of_at (three_first _ _ _ _) 0 rfl, cell_of_at (three_first _ _ _ _) 1 rfl, cell_of_at (three_second _ _ _ _) 0 rfl, cell_of_at (three_second _ _ _ _) 1 rfl, trivial⟩
  · exact fun _ _ h => h.ext
  · exact fun _ _ h k => h.other (by simp; omega) k
  · rintro w1 ⟨m0, m1, n0, n1, -⟩
    simp only [List.cons_append, List.nil_append]
    have z0 := World.block_lt_of_cell? _ _ m0
    have z1 := World.block_lt_of_cell? _ _ n0
    simp only at z0 z1
    repeat (go_big_quiet_step ((first | (go_at_call 89; with_reducible exact Calls.ext_of (cn.out _)) | (go_at_call 58; with_reducible exact Calls.ext_of (cs.out _)))))
    refine wpQuiet_nil ?_
    exact rfl
  · intro e w h1 h2 h3
    obtain ⟨c0, c1, f0, f1⟩ := run_pair h3
    have h2' : e (.tmp 14) = .agg #[.int .i64 r.1.num, .int .i64 r.1.den] := h2
    apply Exists.intro
    apply And.intro
    · simp [execOp, go_sem, h1, h2', c0, c1, f0, f1]
      exact rfl
    · exact store_pair h3
  · intro w' _ hE hX
    go_wp2
    refine bodyPost_ret (RT.results_row2 rfl _ _ (w.heap.size + 1 + 1) 23 _ (0, 0) _ rfl hX Tryd.underlying23 rfl info_frac) rfl ?_
    exact ⟨rfl, hE⟩
end Go.Proofs.YtodoimeiklilhaaDoor
