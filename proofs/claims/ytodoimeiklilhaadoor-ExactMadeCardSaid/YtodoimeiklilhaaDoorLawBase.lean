/- The walks of the law's small functions: whole, span, is, from. -/
import Derived.Test.YtodoimeiklilhaaDoorOps2
import Derived.Test.YtodoimeiklilhaaDoorSpanOps
set_option linter.unusedVariables false
set_option linter.unusedSimpArgs false
namespace Go.Proofs.YtodoimeiklilhaaDoor
open Go.RowKit Go.Sort

set_option maxHeartbeats 1000000 in
theorem c_whole (n : Int) (w : World) :
    Calls Tryd.prog 24 #[.int .i64 n] w fun e w' => e = .returned (fracV ⟨n, 1⟩) ∧ Ext w w' := by
  go_enter Tryd.func24, Tryd.ntmps24
  go_wp2
  refine bodyPost_ret (RT.results_row1 rfl _ _ w.heap.size 23 _ (0, 0) _ rfl (one_first _ _) Tryd.underlying23 rfl info_frac) rfl ?_
  exact ⟨rfl, (by repeat (first | exact Ext.refl _ | assumption | refine Ext.alloc ?_ _ | refine Ext.drewN ?_ _ | refine ext_grow ?_ _ _ | refine Ext.setCell ?_ (by first | exact Nat.le_refl _ | omega | (simp; done) | (simp; omega)) _ | refine Ext.trans ?_ (by assumption)))⟩
set_option maxRecDepth 100000 in
set_option maxHeartbeats 1000000 in
theorem c_span (m n : Int) (w : World) :
    Calls Tryd.prog 31 #[.int .i64 m, .int .i64 n] w fun e w' => e = .returned (fspanV ⟨⟨m, 1⟩, ⟨n, 1⟩⟩) ∧ Ext w w' := by
  go_enter Tryd.func31, Tryd.ntmps31
  go_wp2_with (first | (go_at_call 24; refine (c_whole m _).mono ?_; rintro e w' ⟨rfl, hb⟩; have hc := hb.cell; have hf := hb.frozen; have hz := hb.size; (try simp at hz); have z0 : w.heap.size < w'.heap.size := (by omega); have B1 := Lib.hid (hb.blk (one_first _ _))) | (go_at_call 24; refine (c_whole n _).mono ?_; rintro e w' ⟨rfl, hb2⟩; have hc2 := hb2.cell; have hf2 := hb2.frozen; have hz2 := hb2.size; have z1 : w.heap.size < w'.heap.size := (by omega); have B2 := Lib.hid (hb2.blk B1.out)))
  refine bodyPost_ret (RT.results_row1 rfl _ _ w.heap.size 41 _ (0, 0) _ rfl (store_four B2.out).1 Tryd.underlying41 rfl info_span) rfl ?_
  exact ⟨rfl, (by repeat (first | exact Ext.refl _ | assumption | refine Ext.alloc ?_ _ | refine Ext.drewN ?_ _ | refine ext_grow ?_ _ _ | refine Ext.setCell ?_ (by first | exact Nat.le_refl _ | omega | (simp; done) | (simp; omega)) _ | refine Ext.trans ?_ (by assumption)))⟩
set_option maxHeartbeats 1000000 in
theorem c_is (a : Frac) (e n d : Int) (w : World) :
    Calls Tryd.prog 25 #[fracV a, .int .i64 e, .int .i64 n, .int .i64 d] w fun e' w' => e' = .returned (.bool (decide (e = 0 ∧ a = ⟨n, d⟩))) ∧ Ext w w' := by
  obtain ⟨p, q⟩ := a
  by_cases h : e = 0
  · have t1 : (e == 0) = true := by simpa using h
    have H := Lib.hid h
    clear h
    go_enter Tryd.func25, Tryd.ntmps25
    go_wp2
    all_goals go_ret
    all_goals exact ⟨ret_bool (by rw [Bool.eq_iff_iff]; simp [H.out]; try omega), (by repeat (first | exact Ext.refl _ | assumption | refine Ext.alloc ?_ _ | refine Ext.drewN ?_ _ | refine ext_grow ?_ _ _ | refine Ext.setCell ?_ (by first | exact Nat.le_refl _ | omega | (simp; done) | (simp; omega)) _ | refine Ext.trans ?_ (by assumption)))⟩
  · have t1 : (e == 0) = false := by simpa using h
    have H := Lib.hid h
    clear h
    go_enter Tryd.func25, Tryd.ntmps25
    go_wp2
    go_ret
    exact ⟨ret_bool (decide_eq_false (fun k => H.out k.1)).symm, (by repeat (first | exact Ext.refl _ | assumption | refine Ext.alloc ?_ _ | refine Ext.drewN ?_ _ | refine ext_grow ?_ _ _ | refine Ext.setCell ?_ (by first | exact Nat.le_refl _ | omega | (simp; done) | (simp; omega)) _ | refine Ext.trans ?_ (by assumption)))⟩
set_option maxHeartbeats 1000000 in
theorem c_from (s : Span) (e n d m k : Int) (w : World) :
    Calls Tryd.prog 35 #[fspanV s, .int .i64 e, .int .i64 n, .int .i64 d, .int .i64 m, .int .i64 k] w fun e' w' => e' = .returned (.bool (decide (e = 0 ∧ s = ⟨⟨n, d⟩, ⟨m, k⟩⟩))) ∧ Ext w w' := by
  obtain ⟨⟨p, q⟩, ⟨u, v⟩⟩ := s
  by_cases h : e = 0
  · have t1 : (e == 0) = true := by simpa using h
    have H := Lib.hid h
    clear h
    go_enter Tryd.func35, Tryd.ntmps35
    go_wp2
    all_goals go_ret
    all_goals exact ⟨ret_bool (by rw [Bool.eq_iff_iff]; simp [H.out, and_assoc]; try omega), (by repeat (first | exact Ext.refl _ | assumption | refine Ext.alloc ?_ _ | refine Ext.drewN ?_ _ | refine ext_grow ?_ _ _ | refine Ext.setCell ?_ (by first | exact Nat.le_refl _ | omega | (simp; done) | (simp; omega)) _ | refine Ext.trans ?_ (by assumption)))⟩
  · have t1 : (e == 0) = false := by simpa using h
    have H := Lib.hid h
    clear h
    go_enter Tryd.func35, Tryd.ntmps35
    go_wp2
    go_ret
    exact ⟨ret_bool (decide_eq_false (fun k => H.out k.1)).symm, (by repeat (first | exact Ext.refl _ | assumption | refine Ext.alloc ?_ _ | refine Ext.drewN ?_ _ | refine ext_grow ?_ _ _ | refine Ext.setCell ?_ (by first | exact Nat.le_refl _ | omega | (simp; done) | (simp; omega)) _ | refine Ext.trans ?_ (by assumption)))⟩
end Go.Proofs.YtodoimeiklilhaaDoor
