/- Joined from the parts Ops, Ops2, Text. -/
import Derived.Test.YtodoimeiklilhaaDoorGFracs
import Derived.Test.YtodoimeiklilhaaDoorGSums
import Derived.Test.YtodoimeiklilhaaDoorShelfText
import Derived.Lib.SmallJoins
import Derived.Lib.ItoaLen
set_option linter.unusedVariables false
set_option linter.unusedSimpArgs false
/- The walks of layer 1's operations on any two fractions: both, Add, Sub, Mul, Div; Check and Compare. -/
namespace Go.Proofs.YtodoimeiklilhaaDoor
open Go.RowKit Go.Sort

theorem c_valid1 (a : Frac) (ha : a.wide) (k : Nat) (w : World) (h : w.heap[k]? = some (.cells #[.int .i64 a.num, .int .i64 a.den] 23)) :
    Calls Tryd.prog 48 #[.slice (some ⟨k, 0, none⟩) 1 1] w fun e w' => e = .returned (.bool (decide a.ok)) ∧ Ext w w' := by
  have := c_valid [a] k 0 (by simp) (by simpa using ha) w (fun j hj => by
    simp at hj
    subst hj
    exact ⟨cell_of_at h 0 rfl, cell_of_at h 1 rfl⟩)
  simpa using this
theorem c_valid2 (a b : Frac) (ha : a.wide) (hb : b.wide) (k : Nat) (w : World) (h : w.heap[k]? = some (.cells #[.int .i64 a.num, .int .i64 a.den, .int .i64 b.num, .int .i64 b.den] 23)) :
    Calls Tryd.prog 48 #[.slice (some ⟨k, 0, none⟩) 2 2] w fun e w' => e = .returned (.bool (decide (a.ok ∧ b.ok))) ∧ Ext w w' := by
  have := c_valid [a, b] k 0 (by simp) (by simpa using ⟨ha, hb⟩) w (fun j hj => by
    match j, hj with
    | 0, _ => exact ⟨cell_of_at h 0 rfl, cell_of_at h 1 rfl⟩
    | 1, _ => exact ⟨cell_of_at h 2 rfl, cell_of_at h 3 rfl⟩)
  simpa [Bool.decide_and] using this
/-- an operation on any two fractions -/
def opR (f : Rat → Rat → Frac × Int) (a b : Frac) : Frac × Int := if a.ok ∧ b.ok then f a.val b.val else (⟨0, 0⟩, 8)
theorem opR_ok (f : Rat → Rat → Frac × Int) {p q : Rat} (hp : Fits p) (hq : Fits q) : opR f (fracOf p) (fracOf q) = f p q := by
  unfold opR
  rw [if_pos ⟨fracOf_ok hp, fracOf_ok hq⟩, fracOf_val, fracOf_val]
theorem wide_of {p : Rat} (hp : Fits p) : (fracOf p).wide := fits_i64 hp
theorem wide_i64 {n d : Int} (hn : InI64 n) (hd : InI64 d) : Frac.wide ⟨n, d⟩ := ⟨hn, hd⟩

set_option maxRecDepth 100000 in
set_option maxHeartbeats 2000000 in
theorem c_both_no (a b : Frac) (ha : a.wide) (hb : b.wide) (hn : ¬ (a.ok ∧ b.ok)) (f : Value) (w : World) :
    Calls Tryd.prog 56 #[fracV a, fracV b, f] w fun e w' => e = .returned (fansV (⟨0, 0⟩, 8)) ∧ Ext w w' := by
  have hd : decide (a.ok ∧ b.ok) = false := decide_eq_false hn
  have HN := Lib.hid hn
  clear hn
  go_enter Tryd.func56, Tryd.ntmps56
  go_wp2_with (go_at_call 48; refine (c_valid2 a b ha hb _ _ (by exact blk_at _ _ (by simp))).mono ?_; rintro e w' ⟨rfl, hb⟩; have hc := hb.cell; have hf := hb.frozen; have hz := hb.size; (try simp at hz); have z0 : w.heap.size < w'.heap.size := (by omega); have z1 : w.heap.size + 1 < w'.heap.size := (by omega); have z2 : w.heap.size + 1 + 1 < w'.heap.size := (by omega))
  have hB := hb.blk ((blk_past _ _ (by simp)).trans (three_third _ _ _ _))
  refine bodyPost_ret (RT.results_row2 rfl _ _ (w.heap.size + 1 + 1) 23 _ (0, 0) _ rfl (store_pair hB).1 Tryd.underlying23 rfl info_frac) rfl ?_
  exact ⟨rfl, (store_pair hB).2.2 w (by omega) (by repeat (first | exact Ext.refl _ | assumption | refine Ext.alloc ?_ _ | refine Ext.drewN ?_ _ | refine ext_grow ?_ _ _ | refine Ext.setCell ?_ (by first | exact Nat.le_refl _ | omega | (simp; done) | (simp; omega)) _ | refine Ext.trans ?_ (by assumption)))⟩

set_option maxRecDepth 100000 in
set_option maxHeartbeats 2000000 in
theorem c_both_sum (p q : Rat) (hp : Fits p) (hq : Fits q) (w : World) :
    Calls Tryd.prog 56 #[ratV p, ratV q, .func (.func 60) #[] #[]] w fun e w' => e = .returned (fansV ((fun p q => answer (p + q)) p q)) ∧ Ext w w' := by
  have hd : decide ((fracOf p).ok ∧ (fracOf q).ok) = true := decide_eq_true ⟨fracOf_ok hp, fracOf_ok hq⟩
  obtain ⟨r, hr⟩ : ∃ r, (fun p q => answer (p + q)) p q = r := ⟨_, rfl⟩
  rw [hr]
  have CS := Lib.hid (fun w => (hr ▸ c_sum p q hp hq w : Calls Tryd.prog 60 #[ratV p, ratV q] w fun e w' => e = .returned (fansV r) ∧ Ext w w'))
  clear hr
  go_enter Tryd.func56, Tryd.ntmps56
  go_wp2_with (first | (go_at_call 48; refine (c_valid2 (fracOf p) (fracOf q) (wide_of hp) (wide_of hq) _ _ (by exact blk_at _ _ (by simp))).mono ?_; rintro e w' ⟨rfl, hb⟩; have hc := hb.cell; have hf := hb.frozen; have hz := hb.size; (try simp at hz); have z0 : w.heap.size < w'.heap.size := (by omega); have z1 : w.heap.size + 1 < w'.heap.size := (by omega); have z2 : w.heap.size + 1 + 1 < w'.heap.size := (by omega)) | (go_at_call 60; refine (CS.out _).mono ?_; rintro e w' ⟨rfl, hb2⟩; have hc2 := hb2.cell; have hf2 := hb2.frozen; have hz2 := hb2.size; have z4 : w.heap.size + 1 + 1 < w'.heap.size := (by omega)))
  have hB := hb2.blk (hb.blk ((blk_past _ _ (by simp)).trans (three_third _ _ _ _)))
  refine bodyPost_ret (RT.results_row2 rfl _ _ (w.heap.size + 1 + 1) 23 _ (0, 0) _ rfl (store_pair hB).1 Tryd.underlying23 rfl info_frac) rfl ?_
  exact ⟨rfl, (store_pair hB).2.2 w (by omega) (by repeat (first | exact Ext.refl _ | assumption | refine Ext.alloc ?_ _ | refine Ext.drewN ?_ _ | refine ext_grow ?_ _ _ | refine Ext.setCell ?_ (by first | exact Nat.le_refl _ | omega | (simp; done) | (simp; omega)) _ | refine Ext.trans ?_ (by assumption)))⟩
set_option maxRecDepth 100000 in
set_option maxHeartbeats 2000000 in
theorem c_Add (a b : Frac) (ha : a.wide) (hb : b.wide) (w : World) :
    Calls Tryd.prog 26 #[fracV a, fracV b] w fun e w' => e = .returned (fansV (opR (fun p q => answer (p + q)) a b)) ∧ Ext w w' := by
  have cb : ∀ w, Calls Tryd.prog 56 #[fracV a, fracV b, .func (.func 60) #[] #[]] w fun e w' => e = .returned (fansV (opR (fun p q => answer (p + q)) a b)) ∧ Ext w w' := by
    intro w
    by_cases hn : a.ok ∧ b.ok
    · obtain ⟨p, hp, rfl⟩ := Frac.of_ok hn.1
      obtain ⟨q, hq, rfl⟩ := Frac.of_ok hn.2
      rw [opR_ok _ hp hq]
      exact c_both_sum p q hp hq w
    · rw [show opR (fun p q => answer (p + q)) a b = (⟨0, 0⟩, 8) from if_neg hn]
      exact c_both_no a b ha hb hn _ w
  obtain ⟨r, hr⟩ : ∃ r, opR (fun p q => answer (p + q)) a b = r := ⟨_, rfl⟩
  rw [hr] at cb ⊢
  have CB := Lib.hid cb
  clear cb hr
  go_enter Tryd.func26, Tryd.ntmps26
  go_wp2_with (go_at_call 56; refine (CB.out _).mono ?_; rintro e w' ⟨rfl, hb⟩; have hc := hb.cell; have hf := hb.frozen; have hz := hb.size; (try simp at hz); have z2 : w.heap.size + 1 + 1 < w'.heap.size := (by omega))
  have hB := hb.blk (three_third _ _ _ _)
  refine bodyPost_ret (RT.results_row2 rfl _ _ (w.heap.size + 1 + 1) 23 _ (0, 0) _ rfl (store_pair hB).1 Tryd.underlying23 rfl info_frac) rfl ?_
  exact ⟨rfl, (store_pair hB).2.2 w (by omega) (by repeat (first | exact Ext.refl _ | assumption | refine Ext.alloc ?_ _ | refine Ext.drewN ?_ _ | refine ext_grow ?_ _ _ | refine Ext.setCell ?_ (by first | exact Nat.le_refl _ | omega | (simp; done) | (simp; omega)) _ | refine Ext.trans ?_ (by assumption)))⟩

set_option maxRecDepth 100000 in
set_option maxHeartbeats 2000000 in
theorem c_both_difference (p q : Rat) (hp : Fits p) (hq : Fits q) (w : World) :
    Calls Tryd.prog 56 #[ratV p, ratV q, .func (.func 57) #[] #[]] w fun e w' => e = .returned (fansV ((fun p q => answer (p - q)) p q)) ∧ Ext w w' := by
  have hd : decide ((fracOf p).ok ∧ (fracOf q).ok) = true := decide_eq_true ⟨fracOf_ok hp, fracOf_ok hq⟩
  obtain ⟨r, hr⟩ : ∃ r, (fun p q => answer (p - q)) p q = r := ⟨_, rfl⟩
  rw [hr]
  have CS := Lib.hid (fun w => (hr ▸ c_difference p q hp hq w : Calls Tryd.prog 57 #[ratV p, ratV q] w fun e w' => e = .returned (fansV r) ∧ Ext w w'))
  clear hr
  go_enter Tryd.func56, Tryd.ntmps56
  go_wp2_with (first | (go_at_call 48; refine (c_valid2 (fracOf p) (fracOf q) (wide_of hp) (wide_of hq) _ _ (by exact blk_at _ _ (by simp))).mono ?_; rintro e w' ⟨rfl, hb⟩; have hc := hb.cell; have hf := hb.frozen; have hz := hb.size; (try simp at hz); have z0 : w.heap.size < w'.heap.size := (by omega); have z1 : w.heap.size + 1 < w'.heap.size := (by omega); have z2 : w.heap.size + 1 + 1 < w'.heap.size := (by omega)) | (go_at_call 57; refine (CS.out _).mono ?_; rintro e w' ⟨rfl, hb2⟩; have hc2 := hb2.cell; have hf2 := hb2.frozen; have hz2 := hb2.size; have z4 : w.heap.size + 1 + 1 < w'.heap.size := (by omega)))
  have hB := hb2.blk (hb.blk ((blk_past _ _ (by simp)).trans (three_third _ _ _ _)))
  refine bodyPost_ret (RT.results_row2 rfl _ _ (w.heap.size + 1 + 1) 23 _ (0, 0) _ rfl (store_pair hB).1 Tryd.underlying23 rfl info_frac) rfl ?_
  exact ⟨rfl, (store_pair hB).2.2 w (by omega) (by repeat (first | exact Ext.refl _ | assumption | refine Ext.alloc ?_ _ | refine Ext.drewN ?_ _ | refine ext_grow ?_ _ _ | refine Ext.setCell ?_ (by first | exact Nat.le_refl _ | omega | (simp; done) | (simp; omega)) _ | refine Ext.trans ?_ (by assumption)))⟩
set_option maxRecDepth 100000 in
set_option maxHeartbeats 2000000 in
theorem c_Sub (a b : Frac) (ha : a.wide) (hb : b.wide) (w : World) :
    Calls Tryd.prog 21 #[fracV a, fracV b] w fun e w' => e = .returned (fansV (opR (fun p q => answer (p - q)) a b)) ∧ Ext w w' := by
  have cb : ∀ w, Calls Tryd.prog 56 #[fracV a, fracV b, .func (.func 57) #[] #[]] w fun e w' => e = .returned (fansV (opR (fun p q => answer (p - q)) a b)) ∧ Ext w w' := by
    intro w
    by_cases hn : a.ok ∧ b.ok
    · obtain ⟨p, hp, rfl⟩ := Frac.of_ok hn.1
      obtain ⟨q, hq, rfl⟩ := Frac.of_ok hn.2
      rw [opR_ok _ hp hq]
      exact c_both_difference p q hp hq w
    · rw [show opR (fun p q => answer (p - q)) a b = (⟨0, 0⟩, 8) from if_neg hn]
      exact c_both_no a b ha hb hn _ w
  obtain ⟨r, hr⟩ : ∃ r, opR (fun p q => answer (p - q)) a b = r := ⟨_, rfl⟩
  rw [hr] at cb ⊢
  have CB := Lib.hid cb
  clear cb hr
  go_enter Tryd.func21, Tryd.ntmps21
  go_wp2_with (go_at_call 56; refine (CB.out _).mono ?_; rintro e w' ⟨rfl, hb⟩; have hc := hb.cell; have hf := hb.frozen; have hz := hb.size; (try simp at hz); have z2 : w.heap.size + 1 + 1 < w'.heap.size := (by omega))
  have hB := hb.blk (three_third _ _ _ _)
  refine bodyPost_ret (RT.results_row2 rfl _ _ (w.heap.size + 1 + 1) 23 _ (0, 0) _ rfl (store_pair hB).1 Tryd.underlying23 rfl info_frac) rfl ?_
  exact ⟨rfl, (store_pair hB).2.2 w (by omega) (by repeat (first | exact Ext.refl _ | assumption | refine Ext.alloc ?_ _ | refine Ext.drewN ?_ _ | refine ext_grow ?_ _ _ | refine Ext.setCell ?_ (by first | exact Nat.le_refl _ | omega | (simp; done) | (simp; omega)) _ | refine Ext.trans ?_ (by assumption)))⟩

set_option maxRecDepth 100000 in
set_option maxHeartbeats 2000000 in
theorem c_both_times (p q : Rat) (hp : Fits p) (hq : Fits q) (w : World) :
    Calls Tryd.prog 56 #[ratV p, ratV q, .func (.func 58) #[] #[]] w fun e w' => e = .returned (fansV ((fun p q => answer (p * q)) p q)) ∧ Ext w w' := by
  have hd : decide ((fracOf p).ok ∧ (fracOf q).ok) = true := decide_eq_true ⟨fracOf_ok hp, fracOf_ok hq⟩
  obtain ⟨r, hr⟩ : ∃ r, (fun p q => answer (p * q)) p q = r := ⟨_, rfl⟩
  rw [hr]
  have CS := Lib.hid (fun w => (hr ▸ c_times p q hp hq w : Calls Tryd.prog 58 #[ratV p, ratV q] w fun e w' => e = .returned (fansV r) ∧ Ext w w'))
  clear hr
  go_enter Tryd.func56, Tryd.ntmps56
  go_wp2_with (first | (go_at_call 48; refine (c_valid2 (fracOf p) (fracOf q) (wide_of hp) (wide_of hq) _ _ (by exact blk_at _ _ (by simp))).mono ?_; rintro e w' ⟨rfl, hb⟩; have hc := hb.cell; have hf := hb.frozen; have hz := hb.size; (try simp at hz); have z0 : w.heap.size < w'.heap.size := (by omega); have z1 : w.heap.size + 1 < w'.heap.size := (by omega); have z2 : w.heap.size + 1 + 1 < w'.heap.size := (by omega)) | (go_at_call 58; refine (CS.out _).mono ?_; rintro e w' ⟨rfl, hb2⟩; have hc2 := hb2.cell; have hf2 := hb2.frozen; have hz2 := hb2.size; have z4 : w.heap.size + 1 + 1 < w'.heap.size := (by omega)))
  have hB := hb2.blk (hb.blk ((blk_past _ _ (by simp)).trans (three_third _ _ _ _)))
  refine bodyPost_ret (RT.results_row2 rfl _ _ (w.heap.size + 1 + 1) 23 _ (0, 0) _ rfl (store_pair hB).1 Tryd.underlying23 rfl info_frac) rfl ?_
  exact ⟨rfl, (store_pair hB).2.2 w (by omega) (by repeat (first | exact Ext.refl _ | assumption | refine Ext.alloc ?_ _ | refine Ext.drewN ?_ _ | refine ext_grow ?_ _ _ | refine Ext.setCell ?_ (by first | exact Nat.le_refl _ | omega | (simp; done) | (simp; omega)) _ | refine Ext.trans ?_ (by assumption)))⟩
set_option maxRecDepth 100000 in
set_option maxHeartbeats 2000000 in
theorem c_Mul (a b : Frac) (ha : a.wide) (hb : b.wide) (w : World) :
    Calls Tryd.prog 22 #[fracV a, fracV b] w fun e w' => e = .returned (fansV (opR (fun p q => answer (p * q)) a b)) ∧ Ext w w' := by
  have cb : ∀ w, Calls Tryd.prog 56 #[fracV a, fracV b, .func (.func 58) #[] #[]] w fun e w' => e = .returned (fansV (opR (fun p q => answer (p * q)) a b)) ∧ Ext w w' := by
    intro w
    by_cases hn : a.ok ∧ b.ok
    · obtain ⟨p, hp, rfl⟩ := Frac.of_ok hn.1
      obtain ⟨q, hq, rfl⟩ := Frac.of_ok hn.2
      rw [opR_ok _ hp hq]
      exact c_both_times p q hp hq w
    · rw [show opR (fun p q => answer (p * q)) a b = (⟨0, 0⟩, 8) from if_neg hn]
      exact c_both_no a b ha hb hn _ w
  obtain ⟨r, hr⟩ : ∃ r, opR (fun p q => answer (p * q)) a b = r := ⟨_, rfl⟩
  rw [hr] at cb ⊢
  have CB := Lib.hid cb
  clear cb hr
  go_enter Tryd.func22, Tryd.ntmps22
  go_wp2_with (go_at_call 56; refine (CB.out _).mono ?_; rintro e w' ⟨rfl, hb⟩; have hc := hb.cell; have hf := hb.frozen; have hz := hb.size; (try simp at hz); have z2 : w.heap.size + 1 + 1 < w'.heap.size := (by omega))
  have hB := hb.blk (three_third _ _ _ _)
  refine bodyPost_ret (RT.results_row2 rfl _ _ (w.heap.size + 1 + 1) 23 _ (0, 0) _ rfl (store_pair hB).1 Tryd.underlying23 rfl info_frac) rfl ?_
  exact ⟨rfl, (store_pair hB).2.2 w (by omega) (by repeat (first | exact Ext.refl _ | assumption | refine Ext.alloc ?_ _ | refine Ext.drewN ?_ _ | refine ext_grow ?_ _ _ | refine Ext.setCell ?_ (by first | exact Nat.le_refl _ | omega | (simp; done) | (simp; omega)) _ | refine Ext.trans ?_ (by assumption)))⟩

set_option maxRecDepth 100000 in
set_option maxHeartbeats 2000000 in
theorem c_both_quotient (p q : Rat) (hp : Fits p) (hq : Fits q) (w : World) :
    Calls Tryd.prog 56 #[ratV p, ratV q, .func (.func 59) #[] #[]] w fun e w' => e = .returned (fansV ((quotR) p q)) ∧ Ext w w' := by
  have hd : decide ((fracOf p).ok ∧ (fracOf q).ok) = true := decide_eq_true ⟨fracOf_ok hp, fracOf_ok hq⟩
  obtain ⟨r, hr⟩ : ∃ r, (quotR) p q = r := ⟨_, rfl⟩
  rw [hr]
  have CS := Lib.hid (fun w => (hr ▸ c_quotient p q hp hq w : Calls Tryd.prog 59 #[ratV p, ratV q] w fun e w' => e = .returned (fansV r) ∧ Ext w w'))
  clear hr
  go_enter Tryd.func56, Tryd.ntmps56
  go_wp2_with (first | (go_at_call 48; refine (c_valid2 (fracOf p) (fracOf q) (wide_of hp) (wide_of hq) _ _ (by exact blk_at _ _ (by simp))).mono ?_; rintro e w' ⟨rfl, hb⟩; have hc := hb.cell; have hf := hb.frozen; have hz := hb.size; (try simp at hz); have z0 : w.heap.size < w'.heap.size := (by omega); have z1 : w.heap.size + 1 < w'.heap.size := (by omega); have z2 : w.heap.size + 1 + 1 < w'.heap.size := (by omega)) | (go_at_call 59; refine (CS.out _).mono ?_; rintro e w' ⟨rfl, hb2⟩; have hc2 := hb2.cell; have hf2 := hb2.frozen; have hz2 := hb2.size; have z4 : w.heap.size + 1 + 1 < w'.heap.size := (by omega)))
  have hB := hb2.blk (hb.blk ((blk_past _ _ (by simp)).trans (three_third _ _ _ _)))
  refine bodyPost_ret (RT.results_row2 rfl _ _ (w.heap.size + 1 + 1) 23 _ (0, 0) _ rfl (store_pair hB).1 Tryd.underlying23 rfl info_frac) rfl ?_
  exact ⟨rfl, (store_pair hB).2.2 w (by omega) (by repeat (first | exact Ext.refl _ | assumption | refine Ext.alloc ?_ _ | refine Ext.drewN ?_ _ | refine ext_grow ?_ _ _ | refine Ext.setCell ?_ (by first | exact Nat.le_refl _ | omega | (simp; done) | (simp; omega)) _ | refine Ext.trans ?_ (by assumption)))⟩
set_option maxRecDepth 100000 in
set_option maxHeartbeats 2000000 in
theorem c_Div (a b : Frac) (ha : a.wide) (hb : b.wide) (w : World) :
    Calls Tryd.prog 23 #[fracV a, fracV b] w fun e w' => e = .returned (fansV (opR (quotR) a b)) ∧ Ext w w' := by
  have cb : ∀ w, Calls Tryd.prog 56 #[fracV a, fracV b, .func (.func 59) #[] #[]] w fun e w' => e = .returned (fansV (opR (quotR) a b)) ∧ Ext w w' := by
    intro w
    by_cases hn : a.ok ∧ b.ok
    · obtain ⟨p, hp, rfl⟩ := Frac.of_ok hn.1
      obtain ⟨q, hq, rfl⟩ := Frac.of_ok hn.2
      rw [opR_ok _ hp hq]
      exact c_both_quotient p q hp hq w
    · rw [show opR (quotR) a b = (⟨0, 0⟩, 8) from if_neg hn]
      exact c_both_no a b ha hb hn _ w
  obtain ⟨r, hr⟩ : ∃ r, opR (quotR) a b = r := ⟨_, rfl⟩
  rw [hr] at cb ⊢
  have CB := Lib.hid cb
  clear cb hr
  go_enter Tryd.func23, Tryd.ntmps23
  go_wp2_with (go_at_call 56; refine (CB.out _).mono ?_; rintro e w' ⟨rfl, hb⟩; have hc := hb.cell; have hf := hb.frozen; have hz := hb.size; (try simp at hz); have z2 : w.heap.size + 1 + 1 < w'.heap.size := (by omega))
  have hB := hb.blk (three_third _ _ _ _)
  refine bodyPost_ret (RT.results_row2 rfl _ _ (w.heap.size + 1 + 1) 23 _ (0, 0) _ rfl (store_pair hB).1 Tryd.underlying23 rfl info_frac) rfl ?_
  exact ⟨rfl, (store_pair hB).2.2 w (by omega) (by repeat (first | exact Ext.refl _ | assumption | refine Ext.alloc ?_ _ | refine Ext.drewN ?_ _ | refine ext_grow ?_ _ _ | refine Ext.setCell ?_ (by first | exact Nat.le_refl _ | omega | (simp; done) | (simp; omega)) _ | refine Ext.trans ?_ (by assumption)))⟩
end Go.Proofs.YtodoimeiklilhaaDoor

/- The walks of layer 1's Check, Compare, Floor, Ceil, lesser, greater. -/
namespace Go.Proofs.YtodoimeiklilhaaDoor
open Go.RowKit Go.Sort

def checkR (a : Frac) : Int := if a.ok then 0 else 8
set_option maxHeartbeats 2000000 in
theorem c_Check (a : Frac) (ha : a.wide) (w : World) :
    Calls Tryd.prog 37 #[fracV a] w fun e w' => e = .returned (.int .i64 (checkR a)) ∧ Ext w w' := by
  obtain ⟨r, hr⟩ : ∃ r, checkR a = r := ⟨_, rfl⟩
  rw [hr]
  obtain ⟨t, ht⟩ : ∃ t, decide a.ok = t := ⟨_, rfl⟩
  have HR := Lib.hid (show (if t = true then (0 : Int) else 8) = r by rw [← hr, ← ht]; unfold checkR; simp)
  have CV := Lib.hid (fun k w h => (ht ▸ c_valid1 a ha k w h : Calls Tryd.prog 48 #[.slice (some ⟨k, 0, none⟩) 1 1] w fun e w' => e = .returned (.bool t) ∧ Ext w w'))
  clear hr ht
  cases t
  all_goals go_enter Tryd.func37, Tryd.ntmps37
  all_goals go_wp2_with (go_at_call 48; refine (CV.out _ _ (by exact blk_at _ _ (by simp))).mono ?_; rintro e w' ⟨rfl, hb⟩; have hc := hb.cell; have hf := hb.frozen; have hz := hb.size)
  all_goals go_ret
  all_goals exact ⟨ret_int (by rw [← HR.out]; first | done | rfl), (by repeat (first | exact Ext.refl _ | assumption | refine Ext.alloc ?_ _ | refine Ext.drewN ?_ _ | refine ext_grow ?_ _ _ | refine Ext.setCell ?_ (by first | exact Nat.le_refl _ | omega | (simp; done) | (simp; omega)) _ | refine Ext.trans ?_ (by assumption)))⟩
def compareR (a b : Frac) : Int × Int := if a.ok ∧ b.ok then (cmp a.val b.val, 0) else (0, 8)
set_option maxHeartbeats 2000000 in
theorem c_Compare (a b : Frac) (ha : a.wide) (hb : b.wide) (w : World) :
    Calls Tryd.prog 27 #[fracV a, fracV b] w fun e w' => e = .returned (.tuple #[.int .i64 (compareR a b).1, .int .i64 (compareR a b).2]) ∧ Ext w w' := by
  obtain ⟨r, hr⟩ : ∃ r, compareR a b = r := ⟨_, rfl⟩
  rw [hr]
  by_cases hn : a.ok ∧ b.ok
  · obtain ⟨p, hp, rfl⟩ := Frac.of_ok hn.1
    obtain ⟨q, hq, rfl⟩ := Frac.of_ok hn.2
    have hd : decide ((fracOf p).ok ∧ (fracOf q).ok) = true := decide_eq_true hn
    have HR := Lib.hid (show (cmp p q, (0 : Int)) = r by rw [← hr]; unfold compareR; rw [if_pos hn, fracOf_val, fracOf_val])
    obtain ⟨m, hm⟩ : ∃ m, cmp p q = m := ⟨_, rfl⟩
    have HR := Lib.hid (hm ▸ HR.out)
    have CO := Lib.hid (fun w => (hm ▸ c_order p q hp hq w : Calls Tryd.prog 61 #[ratV p, ratV q] w fun e w' => e = .returned (.int .i64 m) ∧ Ext w w'))
    clear hr hn hm
    go_enter Tryd.func27, Tryd.ntmps27
    go_wp2_with (first | (go_at_call 48; refine (c_valid2 (fracOf p) (fracOf q) (wide_of hp) (wide_of hq) _ _ (by exact blk_at _ _ (by simp))).mono ?_; rintro e w' ⟨rfl, hb⟩; have hc := hb.cell; have hz := hb.size; (try simp at hz); have z0 : w.heap.size < w'.heap.size := (by omega); have z1 : w.heap.size + 1 < w'.heap.size := (by omega)) | (go_at_call 61; refine (CO.out _).mono ?_; rintro e w' ⟨rfl, hb2⟩))
    go_ret2
    exact ⟨(by rw [← HR.out]; first | done | rfl), (by repeat (first | exact Ext.refl _ | assumption | refine Ext.alloc ?_ _ | refine Ext.drewN ?_ _ | refine ext_grow ?_ _ _ | refine Ext.setCell ?_ (by first | exact Nat.le_refl _ | omega | (simp; done) | (simp; omega)) _ | refine Ext.trans ?_ (by assumption)))⟩
  · have hd : decide (a.ok ∧ b.ok) = false := decide_eq_false hn
    have HR := Lib.hid (show ((0 : Int), (8 : Int)) = r by rw [← hr]; unfold compareR; rw [if_neg hn])
    clear hr hn
    go_enter Tryd.func27, Tryd.ntmps27
    go_wp2_with (go_at_call 48; refine (c_valid2 a b ha hb _ _ (by exact blk_at _ _ (by simp))).mono ?_; rintro e w' ⟨rfl, hb⟩)
    go_ret2
    exact ⟨(by rw [← HR.out]; first | done | rfl), (by repeat (first | exact Ext.refl _ | assumption | refine Ext.alloc ?_ _ | refine Ext.drewN ?_ _ | refine ext_grow ?_ _ _ | refine Ext.setCell ?_ (by first | exact Nat.le_refl _ | omega | (simp; done) | (simp; omega)) _ | refine Ext.trans ?_ (by assumption)))⟩
/-- the greatest whole number that is at most q -/
def floorR (a : Frac) : Int × Int := if a.ok then (a.val.floor, 0) else (0, 8)
theorem tdiv_floor (n d : Int) (hd : 0 < d) : (if n < n.tdiv d * d then n.tdiv d - 1 else n.tdiv d) = n / d := by
  have h1 := Int.mul_tdiv_add_tmod n d
  have h2 := Int.mul_ediv_add_emod n d
  have h3 := Int.emod_nonneg n (Int.ne_of_gt hd)
  have h4 := Int.emod_lt_of_pos n hd
  rcases Int.lt_or_le n 0 with hn | hn
  · have h5 : n.tmod d ≤ 0 := by
      have := Int.tmod_nonneg d (a := -n) (by omega)
      rw [Int.neg_tmod] at this
      omega
    have h6 : -d < n.tmod d := by
      have := Int.tmod_lt_of_pos (-n) hd
      rw [Int.neg_tmod] at this
      omega
    rw [Int.mul_comm] at h1 h2
    generalize n.tdiv d = q at *
    generalize n / d = e at *
    have e1 : (q - e) * d = n % d - n.tmod d := by rw [Int.sub_mul]; omega
    split
    · rename_i hlt
      have e2 : q - e = 1 := by
        have a1 : 0 < (q - e) * d := by omega
        have a2 : (q - e) * d < 2 * d := by omega
        have a3 : 0 < q - e := by
          rcases Int.lt_or_le 0 (q - e) with h | h
          · exact h
          · have := Int.mul_nonpos_of_nonpos_of_nonneg h (Int.le_of_lt hd); omega
        have a4 : q - e < 2 := Int.lt_of_mul_lt_mul_right a2 (Int.le_of_lt hd)
        omega
      omega
    · rename_i hlt
      have e2 : (q - e) * d < 1 * d := by omega
      have a4 : q - e < 1 := Int.lt_of_mul_lt_mul_right e2 (Int.le_of_lt hd)
      have a5 : -1 * d < (q - e) * d := by omega
      have a6 : -1 < q - e := Int.lt_of_mul_lt_mul_right a5 (Int.le_of_lt hd)
      omega
  · rw [Int.tdiv_eq_ediv_of_nonneg hn]
    rw [if_neg]
    have := Int.ediv_mul_le n (Int.ne_of_gt hd)
    omega
theorem tdiv_small {q : Rat} (h : Fits q) : -4611686018427387903 ≤ (nm q).tdiv (dn q) ∧ (nm q).tdiv (dn q) ≤ 4611686018427387903 ∧ -4611686018427387903 ≤ (nm q).tdiv (dn q) * dn q ∧ (nm q).tdiv (dn q) * dn q ≤ 4611686018427387903 := by
  have hd : 0 < dn q := by have := q.den_pos; unfold dn; omega
  have hn : -4611686018427387903 ≤ nm q ∧ nm q ≤ 4611686018427387903 := by unfold Fits maxP at h; unfold nm; omega
  have h1 := Int.mul_tdiv_add_tmod (nm q) (dn q)
  have a1 : ((nm q).tdiv (dn q)).natAbs ≤ (nm q).natAbs := by
    rw [Int.natAbs_tdiv]; exact Nat.div_le_self _ _
  have a2 : ((nm q).tdiv (dn q) * dn q).natAbs ≤ (nm q).natAbs := by
    rw [Int.natAbs_mul, Int.natAbs_tdiv]; exact Nat.div_mul_le_self _ _
  omega
set_option maxHeartbeats 2000000 in
theorem c_Floor (a : Frac) (ha : a.wide) (w : World) :
    Calls Tryd.prog 29 #[fracV a] w fun e w' => e = .returned (.tuple #[.int .i64 (floorR a).1, .int .i64 (floorR a).2]) ∧ Ext w w' := by
  obtain ⟨r, hr⟩ : ∃ r, floorR a = r := ⟨_, rfl⟩
  rw [hr]
  by_cases hn : a.ok
  · obtain ⟨p, hp, rfl⟩ := Frac.of_ok hn
    have hd : decide ((fracOf p).ok) = true := decide_eq_true hn
    have d0 : 0 < dn p := by have := p.den_pos; unfold dn; omega
    have HR := Lib.hid (show ((if nm p < (nm p).tdiv (dn p) * dn p then (nm p).tdiv (dn p) - 1 else (nm p).tdiv (dn p)), (0 : Int)) = r by
      rw [← hr, tdiv_floor _ _ d0]; unfold floorR; rw [if_pos hn, fracOf_val, Rat.floor_def]; rfl)
    obtain ⟨b1, b2, b3, b4⟩ := tdiv_small hp
    have q1 : wrap64 ((nm p).tdiv (dn p)) = (nm p).tdiv (dn p) := IntWalk.wrap64_in _ (by omega)
    have q2 : wrap64 ((nm p).tdiv (dn p) * dn p) = (nm p).tdiv (dn p) * dn p := IntWalk.wrap64_in _ (by omega)
    have q3 : wrap64 ((nm p).tdiv (dn p) - 1) = (nm p).tdiv (dn p) - 1 := IntWalk.wrap64_in _ (by omega)
    have t1 : (dn p == 0) = false := by simp; omega
    have t2 : ¬ dn p = 0 := by omega
    clear hr hn b1 b2 b3 b4
    show Calls Tryd.prog 29 #[ratV p] w _
    go_enter Tryd.func29, Tryd.ntmps29
    go_wp2_with (go_at_call 48; refine (c_valid1 (fracOf p) (wide_of hp) _ _ (by exact blk_at _ _ (by simp))).mono ?_; rintro e w' ⟨rfl, hb⟩; have hc := hb.cell; have hz := hb.size; (try simp at hz); have z0 : w.heap.size < w'.heap.size := (by omega))
    all_goals go_ret2
    all_goals refine ⟨?_, (by repeat (first | exact Ext.refl _ | assumption | refine Ext.alloc ?_ _ | refine Ext.drewN ?_ _ | refine ext_grow ?_ _ _ | refine Ext.setCell ?_ (by first | exact Nat.le_refl _ | omega | (simp; done) | (simp; omega)) _ | refine Ext.trans ?_ (by assumption)))⟩
    all_goals rw [← HR.out]
    · rw [if_pos (by assumption)]; first | done | rfl | (show Ending.returned (.tuple #[.int .i64 (wrap64 ((nm p).tdiv (dn p) - 1)), .int .i64 0]) = _; rw [q3])
    · rw [if_neg (by omega)]; first | done | rfl | (show Ending.returned (.tuple #[.int .i64 (wrap64 ((nm p).tdiv (dn p))), .int .i64 0]) = _; rw [q1])
  · have hd : decide a.ok = false := decide_eq_false hn
    have HR := Lib.hid (show ((0 : Int), (8 : Int)) = r by rw [← hr]; unfold floorR; rw [if_neg hn])
    clear hr hn
    go_enter Tryd.func29, Tryd.ntmps29
    go_wp2_with (go_at_call 48; refine (c_valid1 a ha _ _ (by exact blk_at _ _ (by simp))).mono ?_; rintro e w' ⟨rfl, hb⟩)
    go_ret2
    exact ⟨(by rw [← HR.out]; first | done | rfl), (by repeat (first | exact Ext.refl _ | assumption | refine Ext.alloc ?_ _ | refine Ext.drewN ?_ _ | refine ext_grow ?_ _ _ | refine Ext.setCell ?_ (by first | exact Nat.le_refl _ | omega | (simp; done) | (simp; omega)) _ | refine Ext.trans ?_ (by assumption)))⟩
end Go.Proofs.YtodoimeiklilhaaDoor

/- The walk of layer 1's Text. -/
namespace Go.Proofs.YtodoimeiklilhaaDoor
open Go.RowKit Go.Sort

theorem grow_ext (w : World) (k : Nat) (os : Array Obj) : Ext w (grow (w.drewN k) os) :=
  ⟨rfl, rfl, rfl, by show _ ≤ (w.heap ++ os).size; rw [Array.size_append]; omega, fun b hb => by show (w.heap ++ os)[b]? = _; rw [Array.getElem?_append_left hb]⟩
/-- the table of the powers of ten lies where the program left it -/
abbrev Pow (w : World) : Prop := Lib.TabIs Tryd.prog w "internal/strconv.uint64pow10" .u64 Lib.pow10Tab
theorem Pow.ext {w w' : World} (h : Pow w) (hE : Ext w w') : Pow w' := by
  obtain ⟨g, hg⟩ : ∃ g, Tryd.prog.globalNamed "internal/strconv.uint64pow10" = some g := Option.isSome_iff_exists.1 (by kernel_rfl)
  exact Joins.tab_stays (w := w) (w' := w') hg h hE (Nat.le_refl _)
theorem c_itoa (n : Int) (h : InI64 n) (w : World) (hp : Pow w) :
    Calls Tryd.prog 49 #[.int .i64 n] w fun e w' => e = .returned (.string ⟨(Lib.itoa n).toArray⟩) ∧ Ext w w' := by
  refine (Tryd.strconv_Itoa n h.1 h.2 w hp).mono ?_
  rintro e w' ⟨rfl, k, os, rfl⟩
  exact ⟨rfl, grow_ext _ _ _⟩
/-- the text of a fraction -/
def numText (n : Int) : ByteArray := ⟨(Lib.itoa n).toArray⟩
def ratText (p : Rat) : ByteArray := if 1 < dn p then numText (nm p) ++ (⟨#[47]⟩ ++ numText (dn p)) else numText (nm p)
def textR (a : Frac) : ByteArray × Int := if a.ok then (ratText a.val, 0) else (⟨#[]⟩, 8)
set_option maxRecDepth 100000 in
set_option maxHeartbeats 2000000 in
theorem c_Text (a : Frac) (ha : a.wide) (w : World) (hP : Pow w) :
    Calls Tryd.prog 17 #[fracV a] w fun e w' => e = .returned (.tuple #[.string (textR a).1, .int .i64 (textR a).2]) ∧ Ext w w' := by
  obtain ⟨r, hr⟩ : ∃ r, textR a = r := ⟨_, rfl⟩
  rw [hr]
  by_cases hn : a.ok
  · obtain ⟨p, hp, rfl⟩ := Frac.of_ok hn
    have hd : decide ((fracOf p).ok) = true := decide_eq_true hn
    have HR := Lib.hid (show (ratText p, (0 : Int)) = r by rw [← hr]; unfold textR; rw [if_pos hn, fracOf_val])
    have CA := Lib.hid (fun w h => c_itoa (nm p) (fits_i64 hp).1 w h)
    have CB := Lib.hid (fun w h => c_itoa (dn p) (fits_i64 hp).2 w h)
    have l1 := Lib.itoa_length_le (nm p) (fits_i64 hp).1.1 (fits_i64 hp).1.2
    have l2 := Lib.itoa_length_le (dn p) (fits_i64 hp).2.1 (fits_i64 hp).2.2
    clear hr hn
    by_cases h1 : 1 < dn p
    · have t1 : decide (1 < dn p) = true := decide_eq_true h1
      have H1 := Lib.hid h1
      clear h1
      show Calls Tryd.prog 17 #[ratV p] w _
      go_enter Tryd.func17, Tryd.ntmps17
      have PW := Lib.hid hP
      clear hP
      go_wp2_with (first | (go_at_call 48; refine (c_valid1 (fracOf p) (wide_of hp) _ _ (by exact blk_at _ _ (by simp))).mono ?_; rintro e w' ⟨rfl, hb⟩; have hc := hb.cell; have hz := hb.size; (try simp at hz); have z0 : w.heap.size < w'.heap.size := (by omega); have hE1 : Ext w w' := ((by repeat (first | exact Ext.refl _ | assumption | refine Ext.alloc ?_ _ | refine Ext.drewN ?_ _ | refine ext_grow ?_ _ _ | refine Ext.setCell ?_ (by first | exact Nat.le_refl _ | omega | (simp; done) | (simp; omega)) _ | refine Ext.trans ?_ (by assumption)))); have PW1 := Lib.hid (PW.out.ext hE1)) | (go_at_call 49; with_reducible refine (CA.out _ PW1.out).mono ?_; rintro e w' ⟨rfl, hb2⟩; have hc2 := hb2.cell; have hz2 := hb2.size; have z1 : w.heap.size < w'.heap.size := (by omega); have PW2 := Lib.hid (PW1.out.ext hb2)) | (go_at_call 49; with_reducible refine (CB.out _ PW2.out).mono ?_; rintro e w' ⟨rfl, hb3⟩; have hc3 := hb3.cell; have hz3 := hb3.size; have z2 : w.heap.size < w'.heap.size := (by omega)))
      all_goals first | (exfalso; omega) | skip
      go_ret2
      exact ⟨(by rw [← HR.out]; unfold ratText; rw [if_pos H1.out]; first | done | rfl), (by repeat (first | exact Ext.refl _ | assumption | refine Ext.alloc ?_ _ | refine Ext.drewN ?_ _ | refine ext_grow ?_ _ _ | refine Ext.setCell ?_ (by first | exact Nat.le_refl _ | omega | (simp; done) | (simp; omega)) _ | refine Ext.trans ?_ (by assumption)))⟩
    · have t1 : decide (1 < dn p) = false := decide_eq_false h1
      have H1 := Lib.hid h1
      clear h1
      show Calls Tryd.prog 17 #[ratV p] w _
      go_enter Tryd.func17, Tryd.ntmps17
      have PW := Lib.hid hP
      clear hP
      go_wp2_with (first | (go_at_call 48; refine (c_valid1 (fracOf p) (wide_of hp) _ _ (by exact blk_at _ _ (by simp))).mono ?_; rintro e w' ⟨rfl, hb⟩; have hc := hb.cell; have hz := hb.size; (try simp at hz); have z0 : w.heap.size < w'.heap.size := (by omega); have hE1 : Ext w w' := ((by repeat (first | exact Ext.refl _ | assumption | refine Ext.alloc ?_ _ | refine Ext.drewN ?_ _ | refine ext_grow ?_ _ _ | refine Ext.setCell ?_ (by first | exact Nat.le_refl _ | omega | (simp; done) | (simp; omega)) _ | refine Ext.trans ?_ (by assumption)))); have PW1 := Lib.hid (PW.out.ext hE1)) | (go_at_call 49; with_reducible refine (CA.out _ PW1.out).mono ?_; rintro e w' ⟨rfl, hb2⟩; have hc2 := hb2.cell; have hz2 := hb2.size; have z1 : w.heap.size < w'.heap.size := (by omega); have PW2 := Lib.hid (PW1.out.ext hb2)))
      go_ret2
      exact ⟨(by rw [← HR.out]; unfold ratText; rw [if_neg (by have := H1.out; omega)]; first | done | rfl), (by repeat (first | exact Ext.refl _ | assumption | refine Ext.alloc ?_ _ | refine Ext.drewN ?_ _ | refine ext_grow ?_ _ _ | refine Ext.setCell ?_ (by first | exact Nat.le_refl _ | omega | (simp; done) | (simp; omega)) _ | refine Ext.trans ?_ (by assumption)))⟩
  · have hd : decide a.ok = false := decide_eq_false hn
    have HR := Lib.hid (show ((⟨#[]⟩ : ByteArray), (8 : Int)) = r by rw [← hr]; unfold textR; rw [if_neg hn])
    clear hr hn
    go_enter Tryd.func17, Tryd.ntmps17
    go_wp2_with (go_at_call 48; refine (c_valid1 a ha _ _ (by exact blk_at _ _ (by simp))).mono ?_; rintro e w' ⟨rfl, hb⟩)
    go_ret2
    exact ⟨(by rw [← HR.out]; first | done | rfl), (by repeat (first | exact Ext.refl _ | assumption | refine Ext.alloc ?_ _ | refine Ext.drewN ?_ _ | refine ext_grow ?_ _ _ | refine Ext.setCell ?_ (by first | exact Nat.le_refl _ | omega | (simp; done) | (simp; omega)) _ | refine Ext.trans ?_ (by assumption)))⟩
end Go.Proofs.YtodoimeiklilhaaDoor
