/- The walks of layer 1's Join, Meet. -/
import Derived.Test.YtodoimeiklilhaaDoorGSpanOps
import Derived.Test.YtodoimeiklilhaaDoorGRegions
set_option linter.unusedVariables false
set_option linter.unusedSimpArgs false
namespace Go.Proofs.YtodoimeiklilhaaDoor
open Go.RowKit Go.Sort

set_option maxRecDepth 100000 in
set_option maxHeartbeats 2000000 in
theorem c_Join_no (a b : Span) (ha : a.wide) (hb : b.wide) (hn : ¬ (a.ok ∧ b.ok)) (w : World) :
    Calls Tryd.prog 34 #[fspanV a, fspanV b] w fun e w' => e = .returned (sansV (none, 8)) ∧ Ext w w' := by
  have hd : decide (a.ok ∧ b.ok) = false := decide_eq_false hn
  clear hn
  go_enter Tryd.func34, Tryd.ntmps34
  go_wp2_with (go_at_call 63; refine (c_spans2 a b ha hb _ _ (by exact blk_at _ _ (by simp))).mono ?_; rintro e w' ⟨rfl, hb⟩; have hc := hb.cell; have hf := hb.frozen; have hz := hb.size; (try simp at hz); have z0 : w.heap.size < w'.heap.size := (by omega); have z1 : w.heap.size + 1 < w'.heap.size := (by omega); have z2 : w.heap.size + 1 + 1 < w'.heap.size := (by omega); have BB := Lib.hid (hb.blk ((blk_past _ _ (by simp)).trans (three_third _ _ _ _))))
  refine bodyPost_ret (RT.results_row2 rfl _ _ (w.heap.size + 1 + 1) 41 _ (0, 0) _ rfl (store_four BB.out).1 Tryd.underlying41 rfl info_span) rfl ?_
  exact ⟨rfl, (store_four BB.out).2.2 w (by omega) (by repeat (first | exact Ext.refl _ | assumption | refine Ext.alloc ?_ _ | refine Ext.drewN ?_ _ | refine ext_grow ?_ _ _ | refine Ext.setCell ?_ (by first | exact Nat.le_refl _ | omega | (simp; done) | (simp; omega)) _ | refine Ext.trans ?_ (by assumption)))⟩
set_option maxRecDepth 100000 in
set_option maxHeartbeats 4000000 in
theorem c_Join_ok (al ah bl bh : Rat) (hal : Fits al) (hah : Fits ah) (hbl : Fits bl) (hbh : Fits bh) (ha : al ≤ ah) (hb : bl ≤ bh) (w : World) :
    Calls Tryd.prog 34 #[spanV al ah, spanV bl bh] w fun e w' => e = .returned (sansV (some (ratMin al bl, ratMax ah bh), 0)) ∧ Ext w w' := by
  have hd : decide ((mkSpan al ah).ok ∧ (mkSpan bl bh).ok) = true := decide_eq_true ⟨mkSpan_ok hal hah ha, mkSpan_ok hbl hbh hb⟩
  obtain ⟨lo, hlo⟩ : ∃ lo, ratMin al bl = lo := ⟨_, rfl⟩
  obtain ⟨hi, hhi⟩ : ∃ hi, ratMax ah bh = hi := ⟨_, rfl⟩
  rw [hlo, hhi]
  have CL := Lib.hid (fun w => hlo ▸ c_lesser al bl hal hbl w)
  have CG := Lib.hid (fun w => hhi ▸ c_greater ah bh hah hbh w)
  clear hlo hhi ha hb
  go_enter Tryd.func34, Tryd.ntmps34
  go_wp2_with (go_at_call 63; refine (c_spans2 (mkSpan al ah) (mkSpan bl bh) (mkSpan_wide hal hah) (mkSpan_wide hbl hbh) _ _ (by exact blk_at _ _ (by simp))).mono ?_; rintro e w' ⟨rfl, hb⟩; have hc := hb.cell; have hf := hb.frozen; have hz := hb.size; (try simp at hz); have z0 : w.heap.size < w'.heap.size := (by omega); have z1 : w.heap.size + 1 < w'.heap.size := (by omega); have z2 : w.heap.size + 1 + 1 < w'.heap.size := (by omega); have BB := Lib.hid (hb.blk ((blk_past _ _ (by simp)).trans (three_third _ _ _ _))); have BA := Lib.hid (hb.blk ((blk_past _ _ (by simp <;> omega)).trans (three_first _ _ _ _))); have BD := Lib.hid (hb.blk ((blk_past _ _ (by simp <;> omega)).trans (three_second _ _ _ _))))
  refine RT.region_store (aq := ?aqs1) (n := 11) (sp := 4) (vx := 22) (b0 := w.heap.size + 1 + 1) (oz := .cells #[.int .i64 0, .int .i64 0, .int .i64 0, .int .i64 0] 41) (ox := .cells #[.int .i64 (nm lo), .int .i64 (dn lo), .int .i64 (nm hi), .int .i64 (dn hi)] 41) (qs1 := [_, _, _, _, _, _, _, _, _, _, _]) (qs2 := [_]) (wb := w) (RT.Has [(w.heap.size, 0, .int .i64 (nm al)), (w.heap.size, 1, .int .i64 (dn al)), (w.heap.size, 2, .int .i64 (nm ah)), (w.heap.size, 3, .int .i64 (dn ah)), (w.heap.size + 1, 0, .int .i64 (nm bl)), (w.heap.size + 1, 1, .int .i64 (dn bl)), (w.heap.size + 1, 2, .int .i64 (nm bh)), (w.heap.size + 1, 3, .int .i64 (dn bh))]) (by kernel_rfl) rfl (by kernel_rfl) (by kernel_rfl) rfl rfl (by kernel_rfl) (by kernel_rfl) rfl ?_ ?_ ?_ ?_ ?_ ?_ ?_ ?_ ?_
  rotate_left
  · exact BB.out
  · exact (by repeat (first | exact Ext.refl _ | assumption | refine Ext.alloc ?_ _ | refine Ext.drewN ?_ _ | refine ext_grow ?_ _ _ | refine Ext.setCell ?_ (by first | exact Nat.le_refl _ | omega | (simp; done) | (simp; omega)) _ | refine Ext.trans ?_ (by assumption)))
  · omega
  · refine RT.Has.ext (w := w') ?_ (Ext.refl _).drew
    exact ⟨cell_of_at BA.out 0 rfl, cell_of_at BA.out 1 rfl, cell_of_at BA.out 2 rfl, cell_of_at BA.out 3 rfl, cell_of_at BD.out 0 rfl, cell_of_at BD.out 1 rfl, cell_of_at BD.out 2 rfl, cell_of_at BD.out 3 rfl, trivial⟩
  · exact fun _ _ h => h.ext
  · exact fun _ _ h k => h.other (by simp; omega) k
  · rintro w1 ⟨m0, m1, m2, m3, n0, n1, n2, n3, -⟩
    simp only [List.cons_append, List.nil_append]
    have z0 := World.block_lt_of_cell? _ _ m0
    have z1 := World.block_lt_of_cell? _ _ n0
    simp only at z0 z1
    repeat (go_big_quiet_step ((first | (go_at_call 68; with_reducible exact Calls.ext_of (CL.out _)) | (go_at_call 67; with_reducible exact Calls.ext_of (CG.out _)))))
    refine wpQuiet_nil ?_
    exact rfl
  · intro e w h1 h2 h3
    obtain ⟨⟨c0, c1, c2, c3⟩, f0, f1, f2, f3⟩ := run_four h3
    have h2' : e (.tmp 22) = spanV lo hi := h2
    apply Exists.intro
    apply And.intro
    · simp [execOp, go_sem, h1, h2', c0, c1, c2, c3, f0, f1, f2, f3]
      exact rfl
    · exact store_four h3
  · intro w' _ hE hX
    go_wp2
    refine bodyPost_ret (RT.results_row2 rfl _ _ (w.heap.size + 1 + 1) 41 _ (0, 0) _ rfl hX Tryd.underlying41 rfl info_span) rfl ?_
    exact ⟨rfl, hE⟩
theorem c_Join (a b : Span) (ha : a.wide) (hb : b.wide) (w : World) :
    Calls Tryd.prog 34 #[fspanV a, fspanV b] w fun e w' => e = .returned (sansV (joinR a b)) ∧ Ext w w' := by
  by_cases hn : a.ok ∧ b.ok
  · obtain ⟨al, ah, h1, h2, h3, rfl⟩ := Span.of_ok hn.1
    obtain ⟨bl, bh, k1, k2, k3, rfl⟩ := Span.of_ok hn.2
    have e : joinR (mkSpan al ah) (mkSpan bl bh) = (some (ratMin al bl, ratMax ah bh), 0) := by
      unfold joinR
      rw [if_pos hn]
      show (some (ratMin (fracOf al).val (fracOf bl).val, ratMax (fracOf ah).val (fracOf bh).val), 0) = _
      simp only [fracOf_val]
    rw [e]
    exact c_Join_ok al ah bl bh h1 h2 k1 k2 h3 k3 w
  · rw [show joinR a b = (none, 8) from if_neg hn]
    exact c_Join_no a b ha hb hn w
def meetR (a b : Span) : Box × Int :=
  if a.ok ∧ b.ok then if ratMax a.lo.val b.lo.val ≤ ratMin a.hi.val b.hi.val then (some (ratMax a.lo.val b.lo.val, ratMin a.hi.val b.hi.val), 0) else (none, 6) else (none, 8)
set_option maxRecDepth 100000 in
set_option maxHeartbeats 2000000 in
theorem c_Meet_no (a b : Span) (ha : a.wide) (hb : b.wide) (hn : ¬ (a.ok ∧ b.ok)) (w : World) :
    Calls Tryd.prog 33 #[fspanV a, fspanV b] w fun e w' => e = .returned (sansV (none, 8)) ∧ Ext w w' := by
  have hd : decide (a.ok ∧ b.ok) = false := decide_eq_false hn
  clear hn
  go_enter Tryd.func33, Tryd.ntmps33
  go_wp2_with (go_at_call 63; refine (c_spans2 a b ha hb _ _ (by exact blk_at _ _ (by simp))).mono ?_; rintro e w' ⟨rfl, hb⟩; have hc := hb.cell; have hf := hb.frozen; have hz := hb.size; (try simp at hz); have z0 : w.heap.size < w'.heap.size := (by omega); have z1 : w.heap.size + 1 < w'.heap.size := (by omega); have z2 : w.heap.size + 1 + 1 < w'.heap.size := (by omega); have BB := Lib.hid (hb.blk ((blk_past _ _ (by simp)).trans (three_third _ _ _ _))))
  refine bodyPost_ret (RT.results_row2 rfl _ _ (w.heap.size + 1 + 1) 41 _ (0, 0) _ rfl (store_four BB.out).1 Tryd.underlying41 rfl info_span) rfl ?_
  exact ⟨rfl, (store_four BB.out).2.2 w (by omega) (by repeat (first | exact Ext.refl _ | assumption | refine Ext.alloc ?_ _ | refine Ext.drewN ?_ _ | refine ext_grow ?_ _ _ | refine Ext.setCell ?_ (by first | exact Nat.le_refl _ | omega | (simp; done) | (simp; omega)) _ | refine Ext.trans ?_ (by assumption)))⟩
set_option maxRecDepth 100000 in
set_option maxHeartbeats 4000000 in
theorem c_Meet_ok (al ah bl bh : Rat) (hal : Fits al) (hah : Fits ah) (hbl : Fits bl) (hbh : Fits bh) (ha : al ≤ ah) (hb : bl ≤ bh) (w : World) :
    Calls Tryd.prog 33 #[spanV al ah, spanV bl bh] w fun e w' => e = .returned (sansV (if ratMax al bl ≤ ratMin ah bh then (some (ratMax al bl, ratMin ah bh), 0) else (none, 6))) ∧ Ext w w' := by
  have hd : decide ((mkSpan al ah).ok ∧ (mkSpan bl bh).ok) = true := decide_eq_true ⟨mkSpan_ok hal hah ha, mkSpan_ok hbl hbh hb⟩
  have flo : Fits (ratMax al bl) := by unfold ratMax; split <;> assumption
  have fhi : Fits (ratMin ah bh) := by unfold ratMin; split <;> assumption
  have CG := Lib.hid (fun w => c_greater al bl hal hbl w)
  have CL := Lib.hid (fun w => c_lesser ah bh hah hbh w)
  generalize ratMax al bl = lo at *
  generalize ratMin ah bh = hi at *
  obtain ⟨t, ht⟩ : ∃ t, decide (lo ≤ hi) = t := ⟨_, rfl⟩
  have hdt : decide (mkSpan lo hi).ok = t := by
    rw [← ht]
    by_cases h : lo ≤ hi
    · rw [decide_eq_true h, decide_eq_true (mkSpan_ok flo fhi h)]
    · rw [decide_eq_false h, decide_eq_false]
      intro k
      exact h (by have := k.2.2; rwa [show (mkSpan lo hi).lo.val = lo from fracOf_val lo, show (mkSpan lo hi).hi.val = hi from fracOf_val hi] at this)
  have CS := Lib.hid (fun k w h => (hdt ▸ c_spans1 (mkSpan lo hi) (mkSpan_wide flo fhi) k w h : Calls Tryd.prog 63 #[.slice (some ⟨k, 0, none⟩) 1 1] w fun e w' => e = .returned (.bool t) ∧ Ext w w'))
  obtain ⟨r, hr⟩ : ∃ r : Box × Int, (if lo ≤ hi then (some (lo, hi), 0) else (none, 6)) = r := ⟨_, rfl⟩
  rw [hr]
  have HR := Lib.hid (show (if t = true then ((some (lo, hi), 0) : Box × Int) else (none, 6)) = r by rw [← hr, ← ht]; simp)
  clear hr ht hdt ha hb
  go_enter Tryd.func33, Tryd.ntmps33
  go_wp2_with (go_at_call 63; refine (c_spans2 (mkSpan al ah) (mkSpan bl bh) (mkSpan_wide hal hah) (mkSpan_wide hbl hbh) _ _ (by exact blk_at _ _ (by simp))).mono ?_; rintro e w' ⟨rfl, hb⟩; have hc := hb.cell; have hf := hb.frozen; have hz := hb.size; (try simp at hz); have z0 : w.heap.size < w'.heap.size := (by omega); have z1 : w.heap.size + 1 < w'.heap.size := (by omega); have z2 : w.heap.size + 1 + 1 < w'.heap.size := (by omega); have BB := Lib.hid (hb.blk ((blk_past _ _ (by simp)).trans (three_third _ _ _ _))); have BA := Lib.hid (hb.blk ((blk_past _ _ (by simp <;> omega)).trans (three_first _ _ _ _))); have BD := Lib.hid (hb.blk ((blk_past _ _ (by simp <;> omega)).trans (three_second _ _ _ _))))
  refine RT.region_one (aq := ?aq) (n := 11) (sx := 6) (vx := 23) (oz := .cells #[.int .i64 0, .int .i64 0, .int .i64 0, .int .i64 0] 41) (ox := .cells #[.int .i64 (nm lo), .int .i64 (dn lo), .int .i64 (nm hi), .int .i64 (dn hi)] 41) (qs1 := [_, _, _, _, _, _, _, _, _, _, _]) (qs2 := []) (by kernel_rfl) rfl (by kernel_rfl) (by kernel_rfl) rfl (of_decide_eq_true (by kernel_rfl)) rfl rfl (by kernel_rfl) (by kernel_rfl) (by kernel_rfl) ?_ ?_ ?_ ?_
  rotate_left
  · intro e w
    simp [execOp, go_sem, Tryd.underlying41]
  · intro w1 hE1
    obtain ⟨⟨m0, m1, m2, m3⟩, -⟩ := run_four (hE1.blk BA.out)
    obtain ⟨⟨n0, n1, n2, n3⟩, -⟩ := run_four (hE1.blk BD.out)
    have v0 := World.block_lt_of_cell? _ _ m0
    have v1 := World.block_lt_of_cell? _ _ n0
    simp only at v0 v1
    clear hE1
    simp only [List.cons_append, List.nil_append]
    repeat (go_big_quiet_step ((first | (go_at_call 67; with_reducible exact Calls.ext_of (CG.out _)) | (go_at_call 68; with_reducible exact Calls.ext_of (CL.out _)))))
    refine wpQuiet_nil ?_
    exact rfl
  · intro e w b h1 h2 h3
    obtain ⟨⟨c0, c1, c2, c3⟩, f0, f1, f2, f3⟩ := run_four h3
    have h2' : e (.tmp 23) = spanV lo hi := h2
    apply Exists.intro
    apply And.intro
    · simp [execOp, go_sem, h1, h2', c0, c1, c2, c3, f0, f1, f2, f3]
      exact rfl
    · exact store_four h3
  · intro bq w1 hE1 hbq hX
    have BR1 := Lib.hid (hE1.blk BB.out)
    have hEw : Ext w w1 := Ext.trans ((by repeat (first | exact Ext.refl _ | assumption | refine Ext.alloc ?_ _ | refine Ext.drewN ?_ _ | refine ext_grow ?_ _ _ | refine Ext.setCell ?_ (by first | exact Nat.le_refl _ | omega | (simp; done) | (simp; omega)) _ | refine Ext.trans ?_ (by assumption)))) hE1
    have HX := Lib.hid hX
    obtain ⟨⟨q0, q1, q2, q3⟩, -⟩ := run_four hX
    obtain ⟨⟨s0, s1, s2, s3⟩, k0, k1, k2, k3⟩ := run_four BR1.out
    have v0 : w.heap.size + 1 + 1 < w1.heap.size := (Array.getElem?_eq_some_iff.1 BR1.out).1
    have v1 : bq < w1.heap.size := (Array.getElem?_eq_some_iff.1 hX).1
    clear hc hf hz z0 z1 z2 hb hbq hE1 hX
    cases t
    all_goals go_wp2_with (go_at_call 63; refine (CS.out _ _ (by exact blk_at _ _ (by simp))).mono ?_; rintro e w' ⟨rfl, hb⟩; have hc := hb.cell; have hf := hb.frozen; have hz := hb.size; (try simp at hz); have z0 : w.heap.size + 1 + 1 < w'.heap.size := (by omega); have z1 : bq < w'.heap.size := (by omega); have B2 := Lib.hid (hb.blk ((blk_past _ _ (by omega)).trans BR1.out)); obtain ⟨⟨q0', q1', q2', q3'⟩, -⟩ := run_four (hb.blk ((blk_past _ _ (by omega)).trans HX.out)); obtain ⟨⟨s0', s1', s2', s3'⟩, k0', k1', k2', k3'⟩ := run_four B2.out)
    all_goals refine bodyPost_ret (RT.results_row2 rfl _ _ (w.heap.size + 1 + 1) 41 _ (0, 0) _ rfl (store_four B2.out).1 Tryd.underlying41 rfl info_span) rfl ?_
    all_goals exact ⟨by rw [← HR.out]; rfl, (store_four B2.out).2.2 w (by omega) ((hEw.alloc _).trans hb)⟩
theorem c_Meet (a b : Span) (ha : a.wide) (hb : b.wide) (w : World) :
    Calls Tryd.prog 33 #[fspanV a, fspanV b] w fun e w' => e = .returned (sansV (meetR a b)) ∧ Ext w w' := by
  by_cases hn : a.ok ∧ b.ok
  · obtain ⟨al, ah, h1, h2, h3, rfl⟩ := Span.of_ok hn.1
    obtain ⟨bl, bh, k1, k2, k3, rfl⟩ := Span.of_ok hn.2
    have e : meetR (mkSpan al ah) (mkSpan bl bh) = if ratMax al bl ≤ ratMin ah bh then (some (ratMax al bl, ratMin ah bh), 0) else (none, 6) := by
      unfold meetR
      rw [if_pos hn]
      show (if ratMax (fracOf al).val (fracOf bl).val ≤ ratMin (fracOf ah).val (fracOf bh).val then (some (ratMax (fracOf al).val (fracOf bl).val, ratMin (fracOf ah).val (fracOf bh).val), (0 : Int)) else (none, 6)) = _
      simp only [fracOf_val]
    rw [e]
    exact c_Meet_ok al ah bl bh h1 h2 k1 k2 h3 k3 w
  · rw [show meetR a b = (none, 8) from if_neg hn]
    exact c_Meet_no a b ha hb hn w
end Go.Proofs.YtodoimeiklilhaaDoor
