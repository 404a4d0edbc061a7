/- The walks of layer 1's lesser, greater, has. -/
import Derived.Test.YtodoimeiklilhaaDoorOps
set_option linter.unusedVariables false
set_option linter.unusedSimpArgs false
namespace Go.Proofs.YtodoimeiklilhaaDoor
open Go.RowKit Go.Sort

theorem cmp_neg_iff (p q : Rat) : cmp p q < 0 ↔ p < q := by
  unfold cmp; split
  · simp [*]
  · split <;> simp [*]
theorem cmp_pos_iff (p q : Rat) : 0 < cmp p q ↔ q < p := by
  unfold cmp
  by_cases h1 : p < q
  · rw [if_pos h1]; simp; exact Rat.not_lt.2 (Rat.le_of_lt h1)
  · rw [if_neg h1]
    by_cases h2 : p = q
    · rw [if_pos h2]; subst h2; simp
    · rw [if_neg h2]; simp; exact Rat.lt_of_le_of_ne (Rat.not_lt.1 h1) (fun e => h2 e.symm)
def ratMin (p q : Rat) : Rat := if q < p then q else p
def ratMax (p q : Rat) : Rat := if p < q then q else p
set_option maxHeartbeats 2000000 in
theorem c_lesser (p q : Rat) (hp : Fits p) (hq : Fits q) (w : World) :
    Calls Tryd.prog 68 #[ratV p, ratV q] w fun e w' => e = .returned (ratV (ratMin p q)) ∧ Ext w w' := by
  have CO := Lib.hid (fun w => c_order q p hq hp w)
  obtain ⟨m, hm⟩ : ∃ m, cmp q p = m := ⟨_, rfl⟩
  have hlt : m < 0 ↔ q < p := hm ▸ cmp_neg_iff q p
  rw [hm] at CO
  have HLT := Lib.hid hlt
  clear hm hlt
  by_cases h : m < 0
  · have t : decide (m < 0) = true := decide_eq_true h
    rw [show ratMin p q = q from if_pos (HLT.out.1 h)]
    go_enter Tryd.func68, Tryd.ntmps68
    go_wp2_with (go_at_call 61; refine (CO.out _).mono ?_; rintro e w' ⟨rfl, hb⟩; have hc := hb.cell; have hf := hb.frozen; have hz := hb.size; (try simp at hz); have z0 : w.heap.size < w'.heap.size := (by omega); have z1 : w.heap.size + 1 < w'.heap.size := (by omega); have z2 : w.heap.size + 1 + 1 < w'.heap.size := (by omega))
    have hB := hb.blk (three_third _ _ _ _)
    refine bodyPost_ret (RT.results_row1 rfl _ _ (w.heap.size + 1 + 1) 23 _ (0, 0) _ rfl (store_pair hB).1 Tryd.underlying23 rfl info_frac) rfl ?_
    exact ⟨rfl, (store_pair hB).2.2 w (by omega) (by repeat (first | exact Ext.refl _ | assumption | refine Ext.alloc ?_ _ | refine Ext.drewN ?_ _ | refine ext_grow ?_ _ _ | refine Ext.setCell ?_ (by first | exact Nat.le_refl _ | omega | (simp; done) | (simp; omega)) _ | refine Ext.trans ?_ (by assumption)))⟩
  · have t : decide (m < 0) = false := decide_eq_false h
    rw [show ratMin p q = p from if_neg (fun k => h (HLT.out.2 k))]
    go_enter Tryd.func68, Tryd.ntmps68
    go_wp2_with (go_at_call 61; refine (CO.out _).mono ?_; rintro e w' ⟨rfl, hb⟩; have hc := hb.cell; have hf := hb.frozen; have hz := hb.size; (try simp at hz); have z0 : w.heap.size < w'.heap.size := (by omega); have z1 : w.heap.size + 1 < w'.heap.size := (by omega); have z2 : w.heap.size + 1 + 1 < w'.heap.size := (by omega))
    have hB := hb.blk (three_third _ _ _ _)
    refine bodyPost_ret (RT.results_row1 rfl _ _ (w.heap.size + 1 + 1) 23 _ (0, 0) _ rfl (store_pair hB).1 Tryd.underlying23 rfl info_frac) rfl ?_
    exact ⟨rfl, (store_pair hB).2.2 w (by omega) (by repeat (first | exact Ext.refl _ | assumption | refine Ext.alloc ?_ _ | refine Ext.drewN ?_ _ | refine ext_grow ?_ _ _ | refine Ext.setCell ?_ (by first | exact Nat.le_refl _ | omega | (simp; done) | (simp; omega)) _ | refine Ext.trans ?_ (by assumption)))⟩
set_option maxHeartbeats 2000000 in
theorem c_greater (p q : Rat) (hp : Fits p) (hq : Fits q) (w : World) :
    Calls Tryd.prog 67 #[ratV p, ratV q] w fun e w' => e = .returned (ratV (ratMax p q)) ∧ Ext w w' := by
  have CO := Lib.hid (fun w => c_order q p hq hp w)
  obtain ⟨m, hm⟩ : ∃ m, cmp q p = m := ⟨_, rfl⟩
  have hlt : 0 < m ↔ p < q := hm ▸ cmp_pos_iff q p
  rw [hm] at CO
  have HLT := Lib.hid hlt
  clear hm hlt
  by_cases h : 0 < m
  · have t : decide (0 < m) = true := decide_eq_true h
    rw [show ratMax p q = q from if_pos (HLT.out.1 h)]
    go_enter Tryd.func67, Tryd.ntmps67
    go_wp2_with (go_at_call 61; refine (CO.out _).mono ?_; rintro e w' ⟨rfl, hb⟩; have hc := hb.cell; have hf := hb.frozen; have hz := hb.size; (try simp at hz); have z0 : w.heap.size < w'.heap.size := (by omega); have z1 : w.heap.size + 1 < w'.heap.size := (by omega); have z2 : w.heap.size + 1 + 1 < w'.heap.size := (by omega))
    have hB := hb.blk (three_third _ _ _ _)
    refine bodyPost_ret (RT.results_row1 rfl _ _ (w.heap.size + 1 + 1) 23 _ (0, 0) _ rfl (store_pair hB).1 Tryd.underlying23 rfl info_frac) rfl ?_
    exact ⟨rfl, (store_pair hB).2.2 w (by omega) (by repeat (first | exact Ext.refl _ | assumption | refine Ext.alloc ?_ _ | refine Ext.drewN ?_ _ | refine ext_grow ?_ _ _ | refine Ext.setCell ?_ (by first | exact Nat.le_refl _ | omega | (simp; done) | (simp; omega)) _ | refine Ext.trans ?_ (by assumption)))⟩
  · have t : decide (0 < m) = false := decide_eq_false h
    rw [show ratMax p q = p from if_neg (fun k => h (HLT.out.2 k))]
    go_enter Tryd.func67, Tryd.ntmps67
    go_wp2_with (go_at_call 61; refine (CO.out _).mono ?_; rintro e w' ⟨rfl, hb⟩; have hc := hb.cell; have hf := hb.frozen; have hz := hb.size; (try simp at hz); have z0 : w.heap.size < w'.heap.size := (by omega); have z1 : w.heap.size + 1 < w'.heap.size := (by omega); have z2 : w.heap.size + 1 + 1 < w'.heap.size := (by omega))
    have hB := hb.blk (three_third _ _ _ _)
    refine bodyPost_ret (RT.results_row1 rfl _ _ (w.heap.size + 1 + 1) 23 _ (0, 0) _ rfl (store_pair hB).1 Tryd.underlying23 rfl info_frac) rfl ?_
    exact ⟨rfl, (store_pair hB).2.2 w (by omega) (by repeat (first | exact Ext.refl _ | assumption | refine Ext.alloc ?_ _ | refine Ext.drewN ?_ _ | refine ext_grow ?_ _ _ | refine Ext.setCell ?_ (by first | exact Nat.le_refl _ | omega | (simp; done) | (simp; omega)) _ | refine Ext.trans ?_ (by assumption)))⟩
/-- an enclosure's value -/
abbrev spanV (lo hi : Rat) : Value := .agg #[.int .i64 (nm lo), .int .i64 (dn lo), .int .i64 (nm hi), .int .i64 (dn hi)]
set_option maxHeartbeats 2000000 in
theorem c_has (lo hi x : Rat) (hl : Fits lo) (hh : Fits hi) (hx : Fits x) (w : World) :
    Calls Tryd.prog 64 #[spanV lo hi, ratV x] w fun e w' => e = .returned (.bool (decide (lo ≤ x ∧ x ≤ hi))) ∧ Ext w w' := by
  have CA := Lib.hid (fun w => c_order lo x hl hx w)
  have CB := Lib.hid (fun w => c_order x hi hx hh w)
  obtain ⟨m, hm⟩ : ∃ m, cmp lo x = m := ⟨_, rfl⟩
  obtain ⟨k, hk⟩ : ∃ k, cmp x hi = k := ⟨_, rfl⟩
  have h1 : lo ≤ x ↔ m ≤ 0 := by rw [← hm, ← Rat.not_lt, ← cmp_pos_iff]; omega
  have h2 : x ≤ hi ↔ k ≤ 0 := by rw [← hk, ← Rat.not_lt, ← cmp_pos_iff]; omega
  rw [hm] at CA
  rw [hk] at CB
  have HA := Lib.hid h1
  have HB := Lib.hid h2
  clear h1 h2 hm hk
  by_cases g1 : m ≤ 0
  · have t1 : decide (m ≤ 0) = true := decide_eq_true g1
    go_enter Tryd.func64, Tryd.ntmps64
    go_wp2_with (first | (have tok : m ≤ 0 := g1; go_at_call 61; with_reducible refine (CA.out _).mono ?_; rintro e w' ⟨rfl, hb⟩; have hc := hb.cell; have hz := hb.size; (try simp at hz); have z0 : w.heap.size < w'.heap.size := (by omega); have z1 : w.heap.size + 1 < w'.heap.size := (by omega)) | (go_at_call 61; with_reducible refine (CB.out _).mono ?_; rintro e w' ⟨rfl, hb2⟩))
    go_ret
    refine ⟨ret_bool ?_, (by repeat (first | exact Ext.refl _ | assumption | refine Ext.alloc ?_ _ | refine Ext.drewN ?_ _ | refine ext_grow ?_ _ _ | refine Ext.setCell ?_ (by first | exact Nat.le_refl _ | omega | (simp; done) | (simp; omega)) _ | refine Ext.trans ?_ (by assumption)))⟩
    rw [Bool.eq_iff_iff]
    simp [HA.out, HB.out, g1]
  · have t1 : decide (m ≤ 0) = false := decide_eq_false g1
    go_enter Tryd.func64, Tryd.ntmps64
    go_wp2_with (go_at_call 61; with_reducible refine (CA.out _).mono ?_; rintro e w' ⟨rfl, hb⟩; have hc := hb.cell; have hz := hb.size; (try simp at hz); have z0 : w.heap.size < w'.heap.size := (by omega); have z1 : w.heap.size + 1 < w'.heap.size := (by omega))
    go_ret
    refine ⟨ret_bool ?_, (by repeat (first | exact Ext.refl _ | assumption | refine Ext.alloc ?_ _ | refine Ext.drewN ?_ _ | refine ext_grow ?_ _ _ | refine Ext.setCell ?_ (by first | exact Nat.le_refl _ | omega | (simp; done) | (simp; omega)) _ | refine Ext.trans ?_ (by assumption)))⟩
    exact (decide_eq_false (fun h => by have := HA.out.1 h.1; omega)).symm
end Go.Proofs.YtodoimeiklilhaaDoor
