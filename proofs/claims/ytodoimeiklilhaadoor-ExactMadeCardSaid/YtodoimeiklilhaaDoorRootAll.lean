/- The walk of layer 1's Root, whatever the input. -/
import Derived.Test.YtodoimeiklilhaaDoorRoot
set_option linter.unusedVariables false
set_option linter.unusedSimpArgs false
namespace Go.Proofs.YtodoimeiklilhaaDoor
open Go.RowKit Go.Sort

set_option maxRecDepth 100000 in
set_option maxHeartbeats 2000000 in
theorem c_Root_bad (a : Frac) (c : Int) (ha : a.wide) (hc : InI64 c) (hn : ¬ a.ok) (w : World) :
    Calls Tryd.prog 36 #[fracV a, .int .i64 c] w fun e w' => e = .returned (sansV (none, 8)) ∧ Ext w w' := by
  have hd : decide a.ok = false := decide_eq_false hn
  clear hn
  go_enter Tryd.func36, Tryd.ntmps36
  go_wp2_with (go_at_call 48; refine (c_valid1 a ha _ _ (by exact blk_at _ _ (by simp))).mono ?_; rintro e w' ⟨rfl, hb⟩; have hc := hb.cell; have hf := hb.frozen; have hz := hb.size; (try simp at hz); have z0 : w.heap.size < w'.heap.size := (by omega); have z1 : w.heap.size + 1 < w'.heap.size := (by omega); have BB := Lib.hid (hb.blk ((blk_past _ _ (by simp)).trans (two_second _ _ _))))
  refine bodyPost_ret (RT.results_row2 rfl _ _ (w.heap.size + 1) 41 _ (0, 0) _ rfl (store_four BB.out).1 Tryd.underlying41 rfl info_span) rfl ?_
  exact ⟨rfl, (store_four BB.out).2.2 w (by omega) (by repeat (first | exact Ext.refl _ | assumption | refine Ext.alloc ?_ _ | refine Ext.drewN ?_ _ | refine ext_grow ?_ _ _ | refine Ext.setCell ?_ (by first | exact Nat.le_refl _ | omega | (simp; done) | (simp; omega)) _ | refine Ext.trans ?_ (by assumption)))⟩
set_option maxRecDepth 100000 in
set_option maxHeartbeats 2000000 in
theorem c_Root_arg (p : Rat) (c : Int) (hp : Fits p) (hc : InI64 c) (hn : nm p < 0 ∨ 0 ≤ nm p ∧ (c < 1 ∨ 1 ≤ c ∧ 32768 < c)) (w : World) :
    Calls Tryd.prog 36 #[ratV p, .int .i64 c] w fun e w' => e = .returned (sansV (none, 2)) ∧ Ext w w' := by
  obtain ⟨a, h⟩ : ∃ a, fracOf p = a := ⟨_, rfl⟩
  have ha : a.wide := h ▸ wide_of hp
  have hd : decide a.ok = true := decide_eq_true (h ▸ fracOf_ok hp)
  have en : a.num = nm p := by rw [← h]; rfl
  have hn : a.num < 0 ∨ 0 ≤ a.num ∧ (c < 1 ∨ 1 ≤ c ∧ 32768 < c) := by rw [en]; exact hn
  show Calls Tryd.prog 36 #[fracV (fracOf p), .int .i64 c] w _
  rw [h]
  clear h en
  rcases hn with h1 | ⟨h1, h2 | ⟨h2, h3⟩⟩
  · have t1 : decide (a.num < 0) = true := decide_eq_true h1
    clear h1
    go_enter Tryd.func36, Tryd.ntmps36
    go_wp2_with (go_at_call 48; refine (c_valid1 a ha _ _ (by exact blk_at _ _ (by simp))).mono ?_; rintro e w' ⟨rfl, hb⟩; have hc := hb.cell; have hf := hb.frozen; have hz := hb.size; (try simp at hz); have z0 : w.heap.size < w'.heap.size := (by omega); have z1 : w.heap.size + 1 < w'.heap.size := (by omega); have BB := Lib.hid (hb.blk ((blk_past _ _ (by simp)).trans (two_second _ _ _))))
    refine bodyPost_ret (RT.results_row2 rfl _ _ (w.heap.size + 1) 41 _ (0, 0) _ rfl (store_four BB.out).1 Tryd.underlying41 rfl info_span) rfl ?_
    exact ⟨rfl, (store_four BB.out).2.2 w (by omega) (by repeat (first | exact Ext.refl _ | assumption | refine Ext.alloc ?_ _ | refine Ext.drewN ?_ _ | refine ext_grow ?_ _ _ | refine Ext.setCell ?_ (by first | exact Nat.le_refl _ | omega | (simp; done) | (simp; omega)) _ | refine Ext.trans ?_ (by assumption)))⟩
  · have t1 : decide (a.num < 0) = false := decide_eq_false (by omega)
    have t2 : decide (c < 1) = true := decide_eq_true h2
    clear h1 h2
    go_enter Tryd.func36, Tryd.ntmps36
    go_wp2_with (go_at_call 48; refine (c_valid1 a ha _ _ (by exact blk_at _ _ (by simp))).mono ?_; rintro e w' ⟨rfl, hb⟩; have hc := hb.cell; have hf := hb.frozen; have hz := hb.size; (try simp at hz); have z0 : w.heap.size < w'.heap.size := (by omega); have z1 : w.heap.size + 1 < w'.heap.size := (by omega); have BB := Lib.hid (hb.blk ((blk_past _ _ (by simp)).trans (two_second _ _ _))))
    refine bodyPost_ret (RT.results_row2 rfl _ _ (w.heap.size + 1) 41 _ (0, 0) _ rfl (store_four BB.out).1 Tryd.underlying41 rfl info_span) rfl ?_
    exact ⟨rfl, (store_four BB.out).2.2 w (by omega) (by repeat (first | exact Ext.refl _ | assumption | refine Ext.alloc ?_ _ | refine Ext.drewN ?_ _ | refine ext_grow ?_ _ _ | refine Ext.setCell ?_ (by first | exact Nat.le_refl _ | omega | (simp; done) | (simp; omega)) _ | refine Ext.trans ?_ (by assumption)))⟩
  · have t1 : decide (a.num < 0) = false := decide_eq_false (by omega)
    have t2 : decide (c < 1) = false := decide_eq_false (by omega)
    have t3 : decide (32768 < c) = true := decide_eq_true h3
    clear h1 h2 h3
    go_enter Tryd.func36, Tryd.ntmps36
    go_wp2_with (go_at_call 48; refine (c_valid1 a ha _ _ (by exact blk_at _ _ (by simp))).mono ?_; rintro e w' ⟨rfl, hb⟩; have hc := hb.cell; have hf := hb.frozen; have hz := hb.size; (try simp at hz); have z0 : w.heap.size < w'.heap.size := (by omega); have z1 : w.heap.size + 1 < w'.heap.size := (by omega); have BB := Lib.hid (hb.blk ((blk_past _ _ (by simp)).trans (two_second _ _ _))))
    refine bodyPost_ret (RT.results_row2 rfl _ _ (w.heap.size + 1) 41 _ (0, 0) _ rfl (store_four BB.out).1 Tryd.underlying41 rfl info_span) rfl ?_
    exact ⟨rfl, (store_four BB.out).2.2 w (by omega) (by repeat (first | exact Ext.refl _ | assumption | refine Ext.alloc ?_ _ | refine Ext.drewN ?_ _ | refine ext_grow ?_ _ _ | refine Ext.setCell ?_ (by first | exact Nat.le_refl _ | omega | (simp; done) | (simp; omega)) _ | refine Ext.trans ?_ (by assumption)))⟩
noncomputable def rootAll (a : Frac) (c : Int) : Box × Int :=
  if a.ok then if nm a.val < 0 ∨ c < 1 ∨ 32768 < c then (none, 2) else rootR a.val c.toNat else (none, 8)
theorem c_Root (a : Frac) (c : Int) (ha : a.wide) (hc : InI64 c) (w : World) :
    Calls Tryd.prog 36 #[fracV a, .int .i64 c] w fun e w' => e = .returned (sansV (rootAll a c)) ∧ Ext w w' := by
  by_cases hn : a.ok
  · obtain ⟨p, hp, rfl⟩ := Frac.of_ok hn
    by_cases hz : nm p < 0 ∨ c < 1 ∨ 32768 < c
    · rw [show rootAll (fracOf p) c = (none, 2) by unfold rootAll; rw [if_pos hn, fracOf_val, if_pos hz]]
      exact c_Root_arg p c hp hc (by omega) w
    · obtain ⟨k, rfl⟩ := Int.eq_ofNat_of_zero_le (show 0 ≤ c by omega)
      rw [show rootAll (fracOf p) (k : Int) = rootR p k by unfold rootAll; rw [if_pos hn, fracOf_val, if_neg hz, Int.toNat_natCast]]
      exact c_Root_ok p k hp (by omega) (by omega) (by omega) w
  · rw [show rootAll a c = (none, 8) from if_neg hn]
    exact c_Root_bad a c ha hc hn w
end Go.Proofs.YtodoimeiklilhaaDoor
