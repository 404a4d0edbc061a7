/- Joined from the parts AddSpans, SubSpans, MulSpans, DivSpans, SpanOps. -/
import Derived.Test.YtodoimeiklilhaaDoorGEnds
import Derived.Test.YtodoimeiklilhaaDoorGOps
set_option linter.unusedVariables false
set_option linter.unusedSimpArgs false
/- The walk of layer 1's AddSpans. -/
namespace Go.Proofs.YtodoimeiklilhaaDoor
open Go.RowKit Go.Sort

set_option maxRecDepth 100000 in
set_option maxHeartbeats 2000000 in
theorem c_AddSpans_no (a b : Span) (ha : a.wide) (hb : b.wide) (hn : ¬ (a.ok ∧ b.ok)) (w : World) :
    Calls Tryd.prog 74 #[fspanV a, fspanV b] w fun e w' => e = .returned (sansV (none, 8)) ∧ Ext w w' := by
  have hd : decide (a.ok ∧ b.ok) = false := decide_eq_false hn
  have HN := Lib.hid hn
  clear hn
  go_enter Tryd.func74, Tryd.ntmps74
  go_wp2_with (go_at_call 63; refine (c_spans2 a b ha hb _ _ (by exact blk_at _ _ (by simp))).mono ?_; rintro e w' ⟨rfl, hb⟩; have hc := hb.cell; have hf := hb.frozen; have hz := hb.size; (try simp at hz); have z0 : w.heap.size < w'.heap.size := (by omega); have z1 : w.heap.size + 1 < w'.heap.size := (by omega); have z2 : w.heap.size + 1 + 1 < w'.heap.size := (by omega); have BB := Lib.hid (hb.blk ((blk_past _ _ (by simp)).trans (three_third _ _ _ _))))
  refine bodyPost_ret (RT.results_row2 rfl _ _ (w.heap.size + 1 + 1) 41 _ (0, 0) _ rfl (store_four BB.out).1 Tryd.underlying41 rfl info_span) rfl ?_
  exact ⟨rfl, (store_four BB.out).2.2 w (by omega) (by repeat (first | exact Ext.refl _ | assumption | refine Ext.alloc ?_ _ | refine Ext.drewN ?_ _ | refine ext_grow ?_ _ _ | refine Ext.setCell ?_ (by first | exact Nat.le_refl _ | omega | (simp; done) | (simp; omega)) _ | refine Ext.trans ?_ (by assumption)))⟩
set_option maxRecDepth 100000 in
set_option maxHeartbeats 4000000 in
theorem c_AddSpans_ok (al ah bl bh : Rat) (hal : Fits al) (hah : Fits ah) (hbl : Fits bl) (hbh : Fits bh) (ha : al ≤ ah) (hb : bl ≤ bh) (w : World) :
    Calls Tryd.prog 74 #[spanV al ah, spanV bl bh] w fun e w' => e = .returned (sansV (endsR (fun p q => answer (p + q)) none (pairsAdd al ah bl bh))) ∧ Ext w w' := by
  have hd : decide ((mkSpan al ah).ok ∧ (mkSpan bl bh).ok) = true := decide_eq_true ⟨mkSpan_ok hal hah ha, mkSpan_ok hbl hbh hb⟩
  obtain ⟨r, hr⟩ : ∃ r, endsR (fun p q => answer (p + q)) none (pairsAdd al ah bl bh) = r := ⟨_, rfl⟩
  rw [hr]
  have CE := Lib.hid (fun k t w h => (hr ▸ c_ends2_sum al bl ah bh hal hbl hah hbh k t w h : Calls Tryd.prog 65 #[.func (.func 60) #[] #[], .slice (some ⟨k, 0, none⟩) 2 2] w fun e w' => e = .returned (sansV r) ∧ Ext w w'))
  clear hr ha hb
  rcases r with ⟨_ | ⟨lo, hi⟩, e0⟩
  all_goals
    go_enter Tryd.func74, Tryd.ntmps74
    go_wp2_with (first | (go_at_call 63; refine (c_spans2 (mkSpan al ah) (mkSpan bl bh) (mkSpan_wide hal hah) (mkSpan_wide hbl hbh) _ _ (by exact blk_at _ _ (by simp))).mono ?_; rintro e w' ⟨rfl, hb⟩; have hc := hb.cell; have hf := hb.frozen; have hz := hb.size; (try simp at hz); have z0 : w.heap.size < w'.heap.size := (by omega); have z1 : w.heap.size + 1 < w'.heap.size := (by omega); have z2 : w.heap.size + 1 + 1 < w'.heap.size := (by omega); have BB := Lib.hid (hb.blk ((blk_past _ _ (by simp)).trans (three_third _ _ _ _)))) | (go_at_call 65; refine (CE.out _ _ _ (by exact blk_at _ _ (by simp))).mono ?_; rintro e w' ⟨rfl, hb2⟩; have hc2 := hb2.cell; have hf2 := hb2.frozen; have hz2 := hb2.size; (try simp at hz2); have z4 : w.heap.size + 1 + 1 < w'.heap.size := (by omega); have B2 := Lib.hid (hb2.blk ((blk_past _ _ (by omega)).trans BB.out))))
    refine bodyPost_ret (RT.results_row2 rfl _ _ (w.heap.size + 1 + 1) 41 _ (0, 0) _ rfl (store_four B2.out).1 Tryd.underlying41 rfl info_span) rfl ?_
    exact ⟨rfl, (store_four B2.out).2.2 w (by omega) (by repeat (first | exact Ext.refl _ | assumption | refine Ext.alloc ?_ _ | refine Ext.drewN ?_ _ | refine ext_grow ?_ _ _ | refine Ext.setCell ?_ (by first | exact Nat.le_refl _ | omega | (simp; done) | (simp; omega)) _ | refine Ext.trans ?_ (by assumption)))⟩
theorem c_AddSpans (a b : Span) (ha : a.wide) (hb : b.wide) (w : World) :
    Calls Tryd.prog 74 #[fspanV a, fspanV b] w fun e w' => e = .returned (sansV (spanR (fun p q => answer (p + q)) pairsAdd a b)) ∧ Ext w w' := by
  by_cases hn : a.ok ∧ b.ok
  · obtain ⟨al, ah, h1, h2, h3, rfl⟩ := Span.of_ok hn.1
    obtain ⟨bl, bh, k1, k2, k3, rfl⟩ := Span.of_ok hn.2
    rw [spanR_ok _ _ hn.1 hn.2]
    exact c_AddSpans_ok al ah bl bh h1 h2 k1 k2 h3 k3 w
  · rw [show spanR (fun p q => answer (p + q)) pairsAdd a b = (none, 8) from if_neg hn]
    exact c_AddSpans_no a b ha hb hn w
end Go.Proofs.YtodoimeiklilhaaDoor

/- The walk of layer 1's SubSpans. -/
namespace Go.Proofs.YtodoimeiklilhaaDoor
open Go.RowKit Go.Sort

set_option maxRecDepth 100000 in
set_option maxHeartbeats 2000000 in
theorem c_SubSpans_no (a b : Span) (ha : a.wide) (hb : b.wide) (hn : ¬ (a.ok ∧ b.ok)) (w : World) :
    Calls Tryd.prog 32 #[fspanV a, fspanV b] w fun e w' => e = .returned (sansV (none, 8)) ∧ Ext w w' := by
  have hd : decide (a.ok ∧ b.ok) = false := decide_eq_false hn
  have HN := Lib.hid hn
  clear hn
  go_enter Tryd.func32, Tryd.ntmps32
  go_wp2_with (go_at_call 63; refine (c_spans2 a b ha hb _ _ (by exact blk_at _ _ (by simp))).mono ?_; rintro e w' ⟨rfl, hb⟩; have hc := hb.cell; have hf := hb.frozen; have hz := hb.size; (try simp at hz); have z0 : w.heap.size < w'.heap.size := (by omega); have z1 : w.heap.size + 1 < w'.heap.size := (by omega); have z2 : w.heap.size + 1 + 1 < w'.heap.size := (by omega); have BB := Lib.hid (hb.blk ((blk_past _ _ (by simp)).trans (three_third _ _ _ _))))
  refine bodyPost_ret (RT.results_row2 rfl _ _ (w.heap.size + 1 + 1) 41 _ (0, 0) _ rfl (store_four BB.out).1 Tryd.underlying41 rfl info_span) rfl ?_
  exact ⟨rfl, (store_four BB.out).2.2 w (by omega) (by repeat (first | exact Ext.refl _ | assumption | refine Ext.alloc ?_ _ | refine Ext.drewN ?_ _ | refine ext_grow ?_ _ _ | refine Ext.setCell ?_ (by first | exact Nat.le_refl _ | omega | (simp; done) | (simp; omega)) _ | refine Ext.trans ?_ (by assumption)))⟩
set_option maxRecDepth 100000 in
set_option maxHeartbeats 4000000 in
theorem c_SubSpans_ok (al ah bl bh : Rat) (hal : Fits al) (hah : Fits ah) (hbl : Fits bl) (hbh : Fits bh) (ha : al ≤ ah) (hb : bl ≤ bh) (w : World) :
    Calls Tryd.prog 32 #[spanV al ah, spanV bl bh] w fun e w' => e = .returned (sansV (endsR (fun p q => answer (p - q)) none (pairsSub al ah bl bh))) ∧ Ext w w' := by
  have hd : decide ((mkSpan al ah).ok ∧ (mkSpan bl bh).ok) = true := decide_eq_true ⟨mkSpan_ok hal hah ha, mkSpan_ok hbl hbh hb⟩
  obtain ⟨r, hr⟩ : ∃ r, endsR (fun p q => answer (p - q)) none (pairsSub al ah bl bh) = r := ⟨_, rfl⟩
  rw [hr]
  have CE := Lib.hid (fun k t w h => (hr ▸ c_ends2_difference al bh ah bl hal hbh hah hbl k t w h : Calls Tryd.prog 65 #[.func (.func 57) #[] #[], .slice (some ⟨k, 0, none⟩) 2 2] w fun e w' => e = .returned (sansV r) ∧ Ext w w'))
  clear hr ha hb
  rcases r with ⟨_ | ⟨lo, hi⟩, e0⟩
  all_goals
    go_enter Tryd.func32, Tryd.ntmps32
    go_wp2_with (first | (go_at_call 63; refine (c_spans2 (mkSpan al ah) (mkSpan bl bh) (mkSpan_wide hal hah) (mkSpan_wide hbl hbh) _ _ (by exact blk_at _ _ (by simp))).mono ?_; rintro e w' ⟨rfl, hb⟩; have hc := hb.cell; have hf := hb.frozen; have hz := hb.size; (try simp at hz); have z0 : w.heap.size < w'.heap.size := (by omega); have z1 : w.heap.size + 1 < w'.heap.size := (by omega); have z2 : w.heap.size + 1 + 1 < w'.heap.size := (by omega); have BB := Lib.hid (hb.blk ((blk_past _ _ (by simp)).trans (three_third _ _ _ _)))) | (go_at_call 65; refine (CE.out _ _ _ (by exact blk_at _ _ (by simp))).mono ?_; rintro e w' ⟨rfl, hb2⟩; have hc2 := hb2.cell; have hf2 := hb2.frozen; have hz2 := hb2.size; (try simp at hz2); have z4 : w.heap.size + 1 + 1 < w'.heap.size := (by omega); have B2 := Lib.hid (hb2.blk ((blk_past _ _ (by omega)).trans BB.out))))
    refine bodyPost_ret (RT.results_row2 rfl _ _ (w.heap.size + 1 + 1) 41 _ (0, 0) _ rfl (store_four B2.out).1 Tryd.underlying41 rfl info_span) rfl ?_
    exact ⟨rfl, (store_four B2.out).2.2 w (by omega) (by repeat (first | exact Ext.refl _ | assumption | refine Ext.alloc ?_ _ | refine Ext.drewN ?_ _ | refine ext_grow ?_ _ _ | refine Ext.setCell ?_ (by first | exact Nat.le_refl _ | omega | (simp; done) | (simp; omega)) _ | refine Ext.trans ?_ (by assumption)))⟩
theorem c_SubSpans (a b : Span) (ha : a.wide) (hb : b.wide) (w : World) :
    Calls Tryd.prog 32 #[fspanV a, fspanV b] w fun e w' => e = .returned (sansV (spanR (fun p q => answer (p - q)) pairsSub a b)) ∧ Ext w w' := by
  by_cases hn : a.ok ∧ b.ok
  · obtain ⟨al, ah, h1, h2, h3, rfl⟩ := Span.of_ok hn.1
    obtain ⟨bl, bh, k1, k2, k3, rfl⟩ := Span.of_ok hn.2
    rw [spanR_ok _ _ hn.1 hn.2]
    exact c_SubSpans_ok al ah bl bh h1 h2 k1 k2 h3 k3 w
  · rw [show spanR (fun p q => answer (p - q)) pairsSub a b = (none, 8) from if_neg hn]
    exact c_SubSpans_no a b ha hb hn w
end Go.Proofs.YtodoimeiklilhaaDoor

/- The walk of layer 1's MulSpans. -/
namespace Go.Proofs.YtodoimeiklilhaaDoor
open Go.RowKit Go.Sort

set_option maxRecDepth 100000 in
set_option maxHeartbeats 2000000 in
theorem c_MulSpans_no (a b : Span) (ha : a.wide) (hb : b.wide) (hn : ¬ (a.ok ∧ b.ok)) (w : World) :
    Calls Tryd.prog 47 #[fspanV a, fspanV b] w fun e w' => e = .returned (sansV (none, 8)) ∧ Ext w w' := by
  have hd : decide (a.ok ∧ b.ok) = false := decide_eq_false hn
  have HN := Lib.hid hn
  clear hn
  go_enter Tryd.func47, Tryd.ntmps47
  go_wp2_with (go_at_call 63; refine (c_spans2 a b ha hb _ _ (by exact blk_at _ _ (by simp))).mono ?_; rintro e w' ⟨rfl, hb⟩; have hc := hb.cell; have hf := hb.frozen; have hz := hb.size; (try simp at hz); have z0 : w.heap.size < w'.heap.size := (by omega); have z1 : w.heap.size + 1 < w'.heap.size := (by omega); have z2 : w.heap.size + 1 + 1 < w'.heap.size := (by omega); have BB := Lib.hid (hb.blk ((blk_past _ _ (by simp)).trans (three_third _ _ _ _))))
  refine bodyPost_ret (RT.results_row2 rfl _ _ (w.heap.size + 1 + 1) 41 _ (0, 0) _ rfl (store_four BB.out).1 Tryd.underlying41 rfl info_span) rfl ?_
  exact ⟨rfl, (store_four BB.out).2.2 w (by omega) (by repeat (first | exact Ext.refl _ | assumption | refine Ext.alloc ?_ _ | refine Ext.drewN ?_ _ | refine ext_grow ?_ _ _ | refine Ext.setCell ?_ (by first | exact Nat.le_refl _ | omega | (simp; done) | (simp; omega)) _ | refine Ext.trans ?_ (by assumption)))⟩
set_option maxRecDepth 100000 in
set_option maxHeartbeats 4000000 in
theorem c_MulSpans_ok (al ah bl bh : Rat) (hal : Fits al) (hah : Fits ah) (hbl : Fits bl) (hbh : Fits bh) (ha : al ≤ ah) (hb : bl ≤ bh) (w : World) :
    Calls Tryd.prog 47 #[spanV al ah, spanV bl bh] w fun e w' => e = .returned (sansV (endsR (fun p q => answer (p * q)) none (pairsAll al ah bl bh))) ∧ Ext w w' := by
  have hd : decide ((mkSpan al ah).ok ∧ (mkSpan bl bh).ok) = true := decide_eq_true ⟨mkSpan_ok hal hah ha, mkSpan_ok hbl hbh hb⟩
  obtain ⟨r, hr⟩ : ∃ r, endsR (fun p q => answer (p * q)) none (pairsAll al ah bl bh) = r := ⟨_, rfl⟩
  rw [hr]
  have CE := Lib.hid (fun k t w h => (hr ▸ c_ends4_times al ah bl bh hal hah hbl hbh k t w h : Calls Tryd.prog 65 #[.func (.func 58) #[] #[], .slice (some ⟨k, 0, none⟩) 4 4] w fun e w' => e = .returned (sansV r) ∧ Ext w w'))
  clear hr ha hb
  rcases r with ⟨_ | ⟨lo, hi⟩, e0⟩
  all_goals
    go_enter Tryd.func47, Tryd.ntmps47
    go_wp2_with (first | (go_at_call 63; refine (c_spans2 (mkSpan al ah) (mkSpan bl bh) (mkSpan_wide hal hah) (mkSpan_wide hbl hbh) _ _ (by exact blk_at _ _ (by simp))).mono ?_; rintro e w' ⟨rfl, hb⟩; have hc := hb.cell; have hf := hb.frozen; have hz := hb.size; (try simp at hz); have z0 : w.heap.size < w'.heap.size := (by omega); have z1 : w.heap.size + 1 < w'.heap.size := (by omega); have z2 : w.heap.size + 1 + 1 < w'.heap.size := (by omega); have BB := Lib.hid (hb.blk ((blk_past _ _ (by simp)).trans (three_third _ _ _ _)))) | (go_at_call 66; refine (c_all al ah bl bh _).mono ?_; rintro e w' ⟨k, rfl, hk, hb3⟩; have hc3 := hb3.cell; have hf3 := hb3.frozen; have hz3 := hb3.size; (try simp at hz3); have z6 : w.heap.size + 1 + 1 < w'.heap.size := (by omega); have B3 := Lib.hid (hb3.blk BB.out)) | (go_at_call 65; refine (CE.out _ _ _ hk).mono ?_; rintro e w' ⟨rfl, hb2⟩; have hc2 := hb2.cell; have hf2 := hb2.frozen; have hz2 := hb2.size; (try simp at hz2); have z4 : w.heap.size + 1 + 1 < w'.heap.size := (by omega); have B2 := Lib.hid (hb2.blk B3.out)) | fail)
    refine bodyPost_ret (RT.results_row2 rfl _ _ (w.heap.size + 1 + 1) 41 _ (0, 0) _ rfl (store_four B2.out).1 Tryd.underlying41 rfl info_span) rfl ?_
    exact ⟨rfl, (store_four B2.out).2.2 w (by omega) (by repeat (first | exact Ext.refl _ | assumption | refine Ext.alloc ?_ _ | refine Ext.drewN ?_ _ | refine ext_grow ?_ _ _ | refine Ext.setCell ?_ (by first | exact Nat.le_refl _ | omega | (simp; done) | (simp; omega)) _ | refine Ext.trans ?_ (by assumption)))⟩
theorem c_MulSpans (a b : Span) (ha : a.wide) (hb : b.wide) (w : World) :
    Calls Tryd.prog 47 #[fspanV a, fspanV b] w fun e w' => e = .returned (sansV (spanR (fun p q => answer (p * q)) pairsAll a b)) ∧ Ext w w' := by
  by_cases hn : a.ok ∧ b.ok
  · obtain ⟨al, ah, h1, h2, h3, rfl⟩ := Span.of_ok hn.1
    obtain ⟨bl, bh, k1, k2, k3, rfl⟩ := Span.of_ok hn.2
    rw [spanR_ok _ _ hn.1 hn.2]
    exact c_MulSpans_ok al ah bl bh h1 h2 k1 k2 h3 k3 w
  · rw [show spanR (fun p q => answer (p * q)) pairsAll a b = (none, 8) from if_neg hn]
    exact c_MulSpans_no a b ha hb hn w
end Go.Proofs.YtodoimeiklilhaaDoor

/- The walk of layer 1's DivSpans. -/
namespace Go.Proofs.YtodoimeiklilhaaDoor
open Go.RowKit Go.Sort

set_option maxRecDepth 100000 in
set_option maxHeartbeats 2000000 in
theorem c_DivSpans_no (a b : Span) (ha : a.wide) (hb : b.wide) (hn : ¬ (a.ok ∧ b.ok)) (w : World) :
    Calls Tryd.prog 30 #[fspanV a, fspanV b] w fun e w' => e = .returned (sansV (none, 8)) ∧ Ext w w' := by
  have hd : decide (a.ok ∧ b.ok) = false := decide_eq_false hn
  have HN := Lib.hid hn
  clear hn
  go_enter Tryd.func30, Tryd.ntmps30
  go_wp2_with (go_at_call 63; refine (c_spans2 a b ha hb _ _ (by exact blk_at _ _ (by simp))).mono ?_; rintro e w' ⟨rfl, hb⟩; have hc := hb.cell; have hf := hb.frozen; have hz := hb.size; (try simp at hz); have z0 : w.heap.size < w'.heap.size := (by omega); have z1 : w.heap.size + 1 < w'.heap.size := (by omega); have z2 : w.heap.size + 1 + 1 < w'.heap.size := (by omega); have BB := Lib.hid (hb.blk ((blk_past _ _ (by simp)).trans (three_third _ _ _ _))))
  refine bodyPost_ret (RT.results_row2 rfl _ _ (w.heap.size + 1 + 1) 41 _ (0, 0) _ rfl (store_four BB.out).1 Tryd.underlying41 rfl info_span) rfl ?_
  exact ⟨rfl, (store_four BB.out).2.2 w (by omega) (by repeat (first | exact Ext.refl _ | assumption | refine Ext.alloc ?_ _ | refine Ext.drewN ?_ _ | refine ext_grow ?_ _ _ | refine Ext.setCell ?_ (by first | exact Nat.le_refl _ | omega | (simp; done) | (simp; omega)) _ | refine Ext.trans ?_ (by assumption)))⟩
set_option maxRecDepth 100000 in
set_option maxHeartbeats 4000000 in
theorem c_DivSpans_ok (al ah bl bh : Rat) (hal : Fits al) (hah : Fits ah) (hbl : Fits bl) (hbh : Fits bh) (ha : al ≤ ah) (hb : bl ≤ bh) (hzero : ¬ (bl ≤ 0 ∧ 0 ≤ bh)) (w : World) :
    Calls Tryd.prog 30 #[spanV al ah, spanV bl bh] w fun e w' => e = .returned (sansV (endsR (quotR) none (pairsAll al ah bl bh))) ∧ Ext w w' := by
  have hd : decide ((mkSpan al ah).ok ∧ (mkSpan bl bh).ok) = true := decide_eq_true ⟨mkSpan_ok hal hah ha, mkSpan_ok hbl hbh hb⟩
  obtain ⟨r, hr⟩ : ∃ r, endsR (quotR) none (pairsAll al ah bl bh) = r := ⟨_, rfl⟩
  rw [hr]
  have CE := Lib.hid (fun k t w h => (hr ▸ c_ends4_quotient al ah bl bh hal hah hbl hbh k t w h : Calls Tryd.prog 65 #[.func (.func 59) #[] #[], .slice (some ⟨k, 0, none⟩) 4 4] w fun e w' => e = .returned (sansV r) ∧ Ext w w'))
  have CH := Lib.hid (fun w => (decide_eq_false hzero ▸ c_has bl bh 0 hbl hbh (by decide) w : Calls Tryd.prog 64 #[spanV bl bh, .agg #[.int .i64 0, .int .i64 1]] w fun e w' => e = .returned (.bool false) ∧ Ext w w'))
  clear hr ha hb
  rcases r with ⟨_ | ⟨lo, hi⟩, e0⟩
  all_goals
    go_enter Tryd.func30, Tryd.ntmps30
    go_wp2_with (first | (go_at_call 63; refine (c_spans2 (mkSpan al ah) (mkSpan bl bh) (mkSpan_wide hal hah) (mkSpan_wide hbl hbh) _ _ (by exact blk_at _ _ (by simp))).mono ?_; rintro e w' ⟨rfl, hb⟩; have hc := hb.cell; have hf := hb.frozen; have hz := hb.size; (try simp at hz); have z0 : w.heap.size < w'.heap.size := (by omega); have z1 : w.heap.size + 1 < w'.heap.size := (by omega); have z2 : w.heap.size + 1 + 1 < w'.heap.size := (by omega); have BB := Lib.hid (hb.blk ((blk_past _ _ (by simp)).trans (three_third _ _ _ _)))) | (go_at_call 66; refine (c_all al ah bl bh _).mono ?_; rintro e w' ⟨k, rfl, hk, hb3⟩; have hc3 := hb3.cell; have hf3 := hb3.frozen; have hz3 := hb3.size; (try simp at hz3); have z6 : w.heap.size + 1 + 1 < w'.heap.size := (by omega); have B3 := Lib.hid (hb3.blk BB4.out)) | (go_at_call 65; refine (CE.out _ _ _ hk).mono ?_; rintro e w' ⟨rfl, hb2⟩; have hc2 := hb2.cell; have hf2 := hb2.frozen; have hz2 := hb2.size; (try simp at hz2); have z4 : w.heap.size + 1 + 1 < w'.heap.size := (by omega); have B2 := Lib.hid (hb2.blk B3.out)) | (go_at_call 64; refine (CH.out _).mono ?_; rintro e w' ⟨rfl, hb4⟩; have hc4 := hb4.cell; have hf4 := hb4.frozen; have hz4 := hb4.size; (try simp at hz4); have z7 : w.heap.size < w'.heap.size := (by omega); have z8 : w.heap.size + 1 < w'.heap.size := (by omega); have z9 : w.heap.size + 1 + 1 < w'.heap.size := (by omega); have BB4 := Lib.hid (hb4.blk BB.out)))
    refine bodyPost_ret (RT.results_row2 rfl _ _ (w.heap.size + 1 + 1) 41 _ (0, 0) _ rfl (store_four B2.out).1 Tryd.underlying41 rfl info_span) rfl ?_
    exact ⟨rfl, (store_four B2.out).2.2 w (by omega) (by repeat (first | exact Ext.refl _ | assumption | refine Ext.alloc ?_ _ | refine Ext.drewN ?_ _ | refine ext_grow ?_ _ _ | refine Ext.setCell ?_ (by first | exact Nat.le_refl _ | omega | (simp; done) | (simp; omega)) _ | refine Ext.trans ?_ (by assumption)))⟩
end Go.Proofs.YtodoimeiklilhaaDoor

/- The walks of layer 1's DivSpans in full, CheckSpan, In, Ceil. -/
namespace Go.Proofs.YtodoimeiklilhaaDoor
open Go.RowKit Go.Sort

set_option maxRecDepth 100000 in
set_option maxHeartbeats 2000000 in
theorem c_DivSpans_zero (al ah bl bh : Rat) (hal : Fits al) (hah : Fits ah) (hbl : Fits bl) (hbh : Fits bh) (ha : al ≤ ah) (hb : bl ≤ bh) (hzero : bl ≤ 0 ∧ 0 ≤ bh) (w : World) :
    Calls Tryd.prog 30 #[spanV al ah, spanV bl bh] w fun e w' => e = .returned (sansV (none, 10)) ∧ Ext w w' := by
  have hd : decide ((mkSpan al ah).ok ∧ (mkSpan bl bh).ok) = true := decide_eq_true ⟨mkSpan_ok hal hah ha, mkSpan_ok hbl hbh hb⟩
  have CH := Lib.hid (fun w => (decide_eq_true hzero ▸ c_has bl bh 0 hbl hbh (by decide) w : Calls Tryd.prog 64 #[spanV bl bh, .agg #[.int .i64 0, .int .i64 1]] w fun e w' => e = .returned (.bool true) ∧ Ext w w'))
  clear hzero ha hb
  go_enter Tryd.func30, Tryd.ntmps30
  go_wp2_with (first | (go_at_call 63; refine (c_spans2 (mkSpan al ah) (mkSpan bl bh) (mkSpan_wide hal hah) (mkSpan_wide hbl hbh) _ _ (by exact blk_at _ _ (by simp))).mono ?_; rintro e w' ⟨rfl, hb⟩; have hc := hb.cell; have hf := hb.frozen; have hz := hb.size; (try simp at hz); have z0 : w.heap.size < w'.heap.size := (by omega); have z1 : w.heap.size + 1 < w'.heap.size := (by omega); have z2 : w.heap.size + 1 + 1 < w'.heap.size := (by omega); have BB := Lib.hid (hb.blk ((blk_past _ _ (by simp)).trans (three_third _ _ _ _)))) | (go_at_call 64; refine (CH.out _).mono ?_; rintro e w' ⟨rfl, hb4⟩; have hc4 := hb4.cell; have hf4 := hb4.frozen; have hz4 := hb4.size; have z9 : w.heap.size + 1 + 1 < w'.heap.size := (by omega); have B2 := Lib.hid (hb4.blk BB.out)))
  refine bodyPost_ret (RT.results_row2 rfl _ _ (w.heap.size + 1 + 1) 41 _ (0, 0) _ rfl (store_four B2.out).1 Tryd.underlying41 rfl info_span) rfl ?_
  exact ⟨rfl, (store_four B2.out).2.2 w (by omega) (by repeat (first | exact Ext.refl _ | assumption | refine Ext.alloc ?_ _ | refine Ext.drewN ?_ _ | refine ext_grow ?_ _ _ | refine Ext.setCell ?_ (by first | exact Nat.le_refl _ | omega | (simp; done) | (simp; omega)) _ | refine Ext.trans ?_ (by assumption)))⟩
def divSpanR (a b : Span) : Box × Int := if a.ok ∧ b.ok then if b.lo.val ≤ 0 ∧ 0 ≤ b.hi.val then (none, 10) else endsR quotR none (pairsAll a.lo.val a.hi.val b.lo.val b.hi.val) else (none, 8)
theorem c_DivSpans (a b : Span) (ha : a.wide) (hb : b.wide) (w : World) :
    Calls Tryd.prog 30 #[fspanV a, fspanV b] w fun e w' => e = .returned (sansV (divSpanR a b)) ∧ Ext w w' := by
  by_cases hn : a.ok ∧ b.ok
  · obtain ⟨al, ah, h1, h2, h3, rfl⟩ := Span.of_ok hn.1
    obtain ⟨bl, bh, k1, k2, k3, rfl⟩ := Span.of_ok hn.2
    have e : divSpanR (mkSpan al ah) (mkSpan bl bh) = if bl ≤ 0 ∧ 0 ≤ bh then (none, 10) else endsR quotR none (pairsAll al ah bl bh) := by
      unfold divSpanR
      rw [if_pos hn]
      show (if (fracOf bl).val ≤ 0 ∧ 0 ≤ (fracOf bh).val then _ else endsR quotR none (pairsAll (fracOf al).val (fracOf ah).val (fracOf bl).val (fracOf bh).val)) = _
      simp only [fracOf_val]
    rw [e]
    by_cases hz : bl ≤ 0 ∧ 0 ≤ bh
    · rw [if_pos hz]
      exact c_DivSpans_zero al ah bl bh h1 h2 k1 k2 h3 k3 hz w
    · rw [if_neg hz]
      exact c_DivSpans_ok al ah bl bh h1 h2 k1 k2 h3 k3 hz w
  · rw [show divSpanR a b = (none, 8) from if_neg hn]
    exact c_DivSpans_no a b ha hb hn w
def checkSpanR (a : Span) : Int := if a.ok then 0 else 8
set_option maxHeartbeats 2000000 in
theorem c_CheckSpan (a : Span) (ha : a.wide) (w : World) :
    Calls Tryd.prog 38 #[fspanV a] w fun e w' => e = .returned (.int .i64 (checkSpanR a)) ∧ Ext w w' := by
  obtain ⟨r, hr⟩ : ∃ r, checkSpanR a = r := ⟨_, rfl⟩
  rw [hr]
  obtain ⟨t, ht⟩ : ∃ t, decide a.ok = t := ⟨_, rfl⟩
  have HR := Lib.hid (show (if t = true then (0 : Int) else 8) = r by rw [← hr, ← ht]; unfold checkSpanR; simp)
  have CV := Lib.hid (fun k w h => (ht ▸ c_spans1 a ha k w h : Calls Tryd.prog 63 #[.slice (some ⟨k, 0, none⟩) 1 1] w fun e w' => e = .returned (.bool t) ∧ Ext w w'))
  clear hr ht
  cases t
  all_goals go_enter Tryd.func38, Tryd.ntmps38
  all_goals go_wp2_with (go_at_call 63; refine (CV.out _ _ (by exact blk_at _ _ (by simp))).mono ?_; rintro e w' ⟨rfl, hb⟩; have hc := hb.cell; have hf := hb.frozen; have hz := hb.size)
  all_goals go_ret
  all_goals exact ⟨ret_int (by rw [← HR.out]; first | done | rfl), (by repeat (first | exact Ext.refl _ | assumption | refine Ext.alloc ?_ _ | refine Ext.drewN ?_ _ | refine ext_grow ?_ _ _ | refine Ext.setCell ?_ (by first | exact Nat.le_refl _ | omega | (simp; done) | (simp; omega)) _ | refine Ext.trans ?_ (by assumption)))⟩
def inR (s : Span) (x : Frac) : Bool × Int := if s.ok ∧ x.ok then (decide (s.lo.val ≤ x.val ∧ x.val ≤ s.hi.val), 0) else (false, 8)
set_option maxRecDepth 100000 in
set_option maxHeartbeats 2000000 in
theorem c_In (s : Span) (x : Frac) (hs : s.wide) (hx : x.wide) (w : World) :
    Calls Tryd.prog 39 #[fspanV s, fracV x] w fun e w' => e = .returned (.tuple #[.bool (inR s x).1, .int .i64 (inR s x).2]) ∧ Ext w w' := by
  obtain ⟨r, hr⟩ : ∃ r, inR s x = r := ⟨_, rfl⟩
  rw [hr]
  by_cases h1 : s.ok
  · have t1 : decide s.ok = true := decide_eq_true h1
    by_cases h2 : x.ok
    · obtain ⟨lo, hi, f1, f2, f3, rfl⟩ := Span.of_ok h1
      obtain ⟨q, hq, rfl⟩ := Frac.of_ok h2
      have t2 : decide (fracOf q).ok = true := decide_eq_true h2
      obtain ⟨t, ht⟩ : ∃ t, decide (lo ≤ q ∧ q ≤ hi) = t := ⟨_, rfl⟩
      have HR := Lib.hid (show (t, (0 : Int)) = r by
        rw [← hr]; unfold inR; rw [if_pos ⟨h1, h2⟩]
        show _ = (decide ((fracOf lo).val ≤ (fracOf q).val ∧ (fracOf q).val ≤ (fracOf hi).val), (0 : Int))
        simp only [fracOf_val]; rw [ht])
      have CH := Lib.hid (fun w => (ht ▸ c_has lo hi q f1 f2 hq w : Calls Tryd.prog 64 #[spanV lo hi, ratV q] w fun e w' => e = .returned (.bool t) ∧ Ext w w'))
      clear hr ht h1 h2 f3
      show Calls Tryd.prog 39 #[spanV lo hi, ratV q] w _
      go_enter Tryd.func39, Tryd.ntmps39
      go_wp2_with (first | (go_at_call 63; refine (c_spans1 (mkSpan lo hi) (mkSpan_wide f1 f2) _ _ (by exact blk_at _ _ (by simp))).mono ?_; rintro e w' ⟨rfl, hb⟩; have hc := hb.cell; have hz := hb.size; (try simp at hz); have z0 : w.heap.size < w'.heap.size := (by omega); have z1 : w.heap.size + 1 < w'.heap.size := (by omega)) | (go_at_call 48; refine (c_valid1 (fracOf q) (wide_of hq) _ _ (by exact blk_at _ _ (by simp))).mono ?_; rintro e w' ⟨rfl, hb2⟩; have hc2 := hb2.cell; have hz2 := hb2.size; (try simp at hz2); have z2 : w.heap.size < w'.heap.size := (by omega); have z3 : w.heap.size + 1 < w'.heap.size := (by omega)) | (go_at_call 64; refine (CH.out _).mono ?_; rintro e w' ⟨rfl, hb3⟩))
      go_ret2
      exact ⟨(by rw [← HR.out]; first | done | rfl), (by repeat (first | exact Ext.refl _ | assumption | refine Ext.alloc ?_ _ | refine Ext.drewN ?_ _ | refine ext_grow ?_ _ _ | refine Ext.setCell ?_ (by first | exact Nat.le_refl _ | omega | (simp; done) | (simp; omega)) _ | refine Ext.trans ?_ (by assumption)))⟩
    · have t2 : decide x.ok = false := decide_eq_false h2
      have HR := Lib.hid (show (false, (8 : Int)) = r by rw [← hr]; unfold inR; rw [if_neg (fun h => h2 h.2)])
      clear hr h1 h2
      go_enter Tryd.func39, Tryd.ntmps39
      go_wp2_with (first | (go_at_call 63; refine (c_spans1 s hs _ _ (by exact blk_at _ _ (by simp))).mono ?_; rintro e w' ⟨rfl, hb⟩; have hc := hb.cell; have hz := hb.size; (try simp at hz); have z0 : w.heap.size < w'.heap.size := (by omega); have z1 : w.heap.size + 1 < w'.heap.size := (by omega)) | (go_at_call 48; refine (c_valid1 x hx _ _ (by exact blk_at _ _ (by simp))).mono ?_; rintro e w' ⟨rfl, hb2⟩))
      go_ret2
      exact ⟨(by rw [← HR.out]; first | done | rfl), (by repeat (first | exact Ext.refl _ | assumption | refine Ext.alloc ?_ _ | refine Ext.drewN ?_ _ | refine ext_grow ?_ _ _ | refine Ext.setCell ?_ (by first | exact Nat.le_refl _ | omega | (simp; done) | (simp; omega)) _ | refine Ext.trans ?_ (by assumption)))⟩
  · have t1 : decide s.ok = false := decide_eq_false h1
    have HR := Lib.hid (show (false, (8 : Int)) = r by rw [← hr]; unfold inR; rw [if_neg (fun h => h1 h.1)])
    clear hr h1
    go_enter Tryd.func39, Tryd.ntmps39
    go_wp2_with (go_at_call 63; refine (c_spans1 s hs _ _ (by exact blk_at _ _ (by simp))).mono ?_; rintro e w' ⟨rfl, hb⟩)
    go_ret2
    exact ⟨(by rw [← HR.out]; first | done | rfl), (by repeat (first | exact Ext.refl _ | assumption | refine Ext.alloc ?_ _ | refine Ext.drewN ?_ _ | refine ext_grow ?_ _ _ | refine Ext.setCell ?_ (by first | exact Nat.le_refl _ | omega | (simp; done) | (simp; omega)) _ | refine Ext.trans ?_ (by assumption)))⟩
def joinR (a b : Span) : Box × Int := if a.ok ∧ b.ok then (some (ratMin a.lo.val b.lo.val, ratMax a.hi.val b.hi.val), 0) else (none, 8)
end Go.Proofs.YtodoimeiklilhaaDoor
