/- The walk of layer 1's DivSpans. -/
import Derived.Test.YtodoimeiklilhaaDoorSpanBase
set_option linter.unusedVariables false
set_option linter.unusedSimpArgs false
namespace Go.Proofs.YtodoimeiklilhaaDoor
open Go.RowKit Go.Sort

set_option maxRecDepth 100000 in
set_option maxHeartbeats 2000000 in
theorem c_DivSpans_no (a b : Span) (ha : a.wide) (hb : b.wide) (hn : ¬ (a.ok ∧ b.ok)) (w : World) :
    Calls Tryd.prog 30 #[fspanV a, fspanV b] w fun e w' => e = .returned (sansV (none, 8)) ∧ Ext w w' := by
  have hd : decide (a.ok ∧ b.ok) = false := decide_eq_false hn
  have HN := Lib.hid hn
  clear hn
  go_enter Tryd.func30, Tryd.ntmps30
  go_wp2_with (go_at_call 63; refine (c_spans2 a b ha hb _ _ (by exact blk_at _ _ (by simp))).mono ?_; rintro e w' ⟨rfl, hb⟩; have hc := hb.cell; have hf := hb.frozen; have hz := hb.size; (try simp at hz); have z0 : w.heap.size < w'.heap.size := (by omega); have z1 : w.heap.size + 1 < w'.heap.size := (by omega); have z2 : w.heap.size + 1 + 1 < w'.heap.size := (by omega); have BB := Lib.hid (hb.blk ((blk_past _ _ (by simp)).trans (three_third _ _ _ _))))
  refine bodyPost_ret (RT.results_row2 rfl _ _ (w.heap.size + 1 + 1) 41 _ (0, 0) _ rfl (store_four BB.out).1 Tryd.underlying41 rfl info_span) rfl ?_
  exact ⟨rfl, (store_four BB.out).2.2 w (by omega) (by repeat (first | exact Ext.refl _ | assumption | refine Ext.alloc ?_ _ | refine Ext.drewN ?_ _ | refine ext_grow ?_ _ _ | refine Ext.setCell ?_ (by first | exact Nat.le_refl _ | omega | (simp; done) | (simp; omega)) _ | refine Ext.trans ?_ (by assumption)))⟩
set_option maxRecDepth 100000 in
set_option maxHeartbeats 4000000 in
theorem c_DivSpans_ok (al ah bl bh : Rat) (hal : Fits al) (hah : Fits ah) (hbl : Fits bl) (hbh : Fits bh) (ha : al ≤ ah) (hb : bl ≤ bh) (hzero : ¬ (bl ≤ 0 ∧ 0 ≤ bh)) (w : World) :
    Calls Tryd.prog 30 #[spanV al ah, spanV bl bh] w fun e w' => e = .returned (sansV (endsR (quotR) none (pairsAll al ah bl bh))) ∧ Ext w w' := by
  have hd : decide ((mkSpan al ah).ok ∧ (mkSpan bl bh).ok) = true := decide_eq_true ⟨mkSpan_ok hal hah ha, mkSpan_ok hbl hbh hb⟩
  obtain ⟨r, hr⟩ : ∃ r, endsR (quotR) none (pairsAll al ah bl bh) = r := ⟨_, rfl⟩
  rw [hr]
  have CE := Lib.hid (fun k t w h => (hr ▸ c_ends4_quotient al ah bl bh hal hah hbl hbh k t w h : Calls Tryd.prog 65 #[.func (.func 59) #[] #[], .slice (some ⟨k, 0, none⟩) 4 4] w fun e w' => e = .returned (sansV r) ∧ Ext w w'))
  have CH := Lib.hid (fun w => (decide_eq_false hzero ▸ c_has bl bh 0 hbl hbh (by decide) w : Calls Tryd.prog 64 #[spanV bl bh, .agg #[.int .i64 0, .int .i64 1]] w fun e w' => e = .returned (.bool false) ∧ Ext w w'))
  clear hr ha hb
  rcases r with ⟨_ | ⟨lo, hi⟩, e0⟩
  all_goals
    go_enter Tryd.func30, Tryd.ntmps30
    go_wp2_with (first | (go_at_call 63; refine (c_spans2 (mkSpan al ah) (mkSpan bl bh) (mkSpan_wide hal hah) (mkSpan_wide hbl hbh) _ _ (by exact blk_at _ _ (by simp))).mono ?_; rintro e w' ⟨rfl, hb⟩; have hc := hb.cell; have hf := hb.frozen; have hz := hb.size; (try simp at hz); have z0 : w.heap.size < w'.heap.size := (by omega); have z1 : w.heap.size + 1 < w'.heap.size := (by omega); have z2 : w.heap.size + 1 + 1 < w'.heap.size := (by omega); have BB := Lib.hid (hb.blk ((blk_past _ _ (by simp)).trans (three_third _ _ _ _)))) | (go_at_call 66; refine (c_all al ah bl bh _).mono ?_; rintro e w' ⟨k, rfl, hk, hb3⟩; have hc3 := hb3.cell; have hf3 := hb3.frozen; have hz3 := hb3.size; (try simp at hz3); have z6 : w.heap.size + 1 + 1 < w'.heap.size := (by omega); have B3 := Lib.hid (hb3.blk BB4.out)) | (go_at_call 65; refine (CE.out _ _ _ hk).mono ?_; rintro e w' ⟨rfl, hb2⟩; have hc2 := hb2.cell; have hf2 := hb2.frozen; have hz2 := hb2.size; (try simp at hz2); have z4 : w.heap.size + 1 + 1 < w'.heap.size := (by omega); have B2 := Lib.hid (hb2.blk B3.out)) | (go_at_call 64; refine (CH.out _).mono ?_; rintro e w' ⟨rfl, hb4⟩; have hc4 := hb4.cell; have hf4 := hb4.frozen; have hz4 := hb4.size; (try simp at hz4); have z7 : w.heap.size < w'.heap.size := (by omega); have z8 : w.heap.size + 1 < w'.heap.size := (by omega); have z9 : w.heap.size + 1 + 1 < w'.heap.size := (by omega); have BB4 := Lib.hid (hb4.blk BB.out)))
    refine bodyPost_ret (RT.results_row2 rfl _ _ (w.heap.size + 1 + 1) 41 _ (0, 0) _ rfl (store_four B2.out).1 Tryd.underlying41 rfl info_span) rfl ?_
    exact ⟨rfl, (store_four B2.out).2.2 w (by omega) (by repeat (first | exact Ext.refl _ | assumption | refine Ext.alloc ?_ _ | refine Ext.drewN ?_ _ | refine ext_grow ?_ _ _ | refine Ext.setCell ?_ (by first | exact Nat.le_refl _ | omega | (simp; done) | (simp; omega)) _ | refine Ext.trans ?_ (by assumption)))⟩
end Go.Proofs.YtodoimeiklilhaaDoor
