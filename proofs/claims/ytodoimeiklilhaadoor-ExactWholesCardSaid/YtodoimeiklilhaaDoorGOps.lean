/- Joined from the parts Ops, Ops2. -/
import Derived.Test.YtodoimeiklilhaaDoorGFracs
import Derived.Test.YtodoimeiklilhaaDoorGSums
set_option linter.unusedVariables false
set_option linter.unusedSimpArgs false
/- The walks of layer 1's operations on any two fractions: both, Add, Sub, Mul, Div; Check and Compare. -/
namespace Go.Proofs.YtodoimeiklilhaaDoor
open Go.RowKit Go.Sort

theorem c_valid1 (a : Frac) (ha : a.wide) (k : Nat) (w : World) (h : w.heap[k]? = some (.cells #[.int .i64 a.num, .int .i64 a.den] 23)) :
    Calls Tryd.prog 48 #[.slice (some ⟨k, 0, none⟩) 1 1] w fun e w' => e = .returned (.bool (decide a.ok)) ∧ Ext w w' := by
  have := c_valid [a] k 0 (by simp) (by simpa using ha) w (fun j hj => by
    simp at hj
    subst hj
    exact ⟨cell_of_at h 0 rfl, cell_of_at h 1 rfl⟩)
  simpa using this
theorem c_valid2 (a b : Frac) (ha : a.wide) (hb : b.wide) (k : Nat) (w : World) (h : w.heap[k]? = some (.cells #[.int .i64 a.num, .int .i64 a.den, .int .i64 b.num, .int .i64 b.den] 23)) :
    Calls Tryd.prog 48 #[.slice (some ⟨k, 0, none⟩) 2 2] w fun e w' => e = .returned (.bool (decide (a.ok ∧ b.ok))) ∧ Ext w w' := by
  have := c_valid [a, b] k 0 (by simp) (by simpa using ⟨ha, hb⟩) w (fun j hj => by
    match j, hj with
    | 0, _ => exact ⟨cell_of_at h 0 rfl, cell_of_at h 1 rfl⟩
    | 1, _ => exact ⟨cell_of_at h 2 rfl, cell_of_at h 3 rfl⟩)
  simpa [Bool.decide_and] using this
/-- an operation on any two fractions -/
def opR (f : Rat → Rat → Frac × Int) (a b : Frac) : Frac × Int := if a.ok ∧ b.ok then f a.val b.val else (⟨0, 0⟩, 8)
theorem opR_ok (f : Rat → Rat → Frac × Int) {p q : Rat} (hp : Fits p) (hq : Fits q) : opR f (fracOf p) (fracOf q) = f p q := by
  unfold opR
  rw [if_pos ⟨fracOf_ok hp, fracOf_ok hq⟩, fracOf_val, fracOf_val]
theorem wide_of {p : Rat} (hp : Fits p) : (fracOf p).wide := fits_i64 hp
theorem wide_i64 {n d : Int} (hn : InI64 n) (hd : InI64 d) : Frac.wide ⟨n, d⟩ := ⟨hn, hd⟩

set_option maxRecDepth 100000 in
set_option maxHeartbeats 2000000 in
theorem c_both_no (a b : Frac) (ha : a.wide) (hb : b.wide) (hn : ¬ (a.ok ∧ b.ok)) (f : Value) (w : World) :
    Calls Tryd.prog 56 #[fracV a, fracV b, f] w fun e w' => e = .returned (fansV (⟨0, 0⟩, 8)) ∧ Ext w w' := by
  have hd : decide (a.ok ∧ b.ok) = false := decide_eq_false hn
  have HN := Lib.hid hn
  clear hn
  go_enter Tryd.func56, Tryd.ntmps56
  go_wp2_with (go_at_call 48; refine (c_valid2 a b ha hb _ _ (by exact blk_at _ _ (by simp))).mono ?_; rintro e w' ⟨rfl, hb⟩; have hc := hb.cell; have hf := hb.frozen; have hz := hb.size; (try simp at hz); have z0 : w.heap.size < w'.heap.size := (by omega); have z1 : w.heap.size + 1 < w'.heap.size := (by omega); have z2 : w.heap.size + 1 + 1 < w'.heap.size := (by omega))
  have hB := hb.blk ((blk_past _ _ (by simp)).trans (three_third _ _ _ _))
  refine bodyPost_ret (RT.results_row2 rfl _ _ (w.heap.size + 1 + 1) 23 _ (0, 0) _ rfl (store_pair hB).1 Tryd.underlying23 rfl info_frac) rfl ?_
  exact ⟨rfl, (store_pair hB).2.2 w (by omega) (by repeat (first | exact Ext.refl _ | assumption | refine Ext.alloc ?_ _ | refine Ext.drewN ?_ _ | refine ext_grow ?_ _ _ | refine Ext.setCell ?_ (by first | exact Nat.le_refl _ | omega | (simp; done) | (simp; omega)) _ | refine Ext.trans ?_ (by assumption)))⟩

set_option maxRecDepth 100000 in
set_option maxHeartbeats 2000000 in
theorem c_both_sum (p q : Rat) (hp : Fits p) (hq : Fits q) (w : World) :
    Calls Tryd.prog 56 #[ratV p, ratV q, .func (.func 60) #[] #[]] w fun e w' => e = .returned (fansV ((fun p q => answer (p + q)) p q)) ∧ Ext w w' := by
  have hd : decide ((fracOf p).ok ∧ (fracOf q).ok) = true := decide_eq_true ⟨fracOf_ok hp, fracOf_ok hq⟩
  obtain ⟨r, hr⟩ : ∃ r, (fun p q => answer (p + q)) p q = r := ⟨_, rfl⟩
  rw [hr]
  have CS := Lib.hid (fun w => (hr ▸ c_sum p q hp hq w : Calls Tryd.prog 60 #[ratV p, ratV q] w fun e w' => e = .returned (fansV r) ∧ Ext w w'))
  clear hr
  go_enter Tryd.func56, Tryd.ntmps56
  go_wp2_with (first | (go_at_call 48; refine (c_valid2 (fracOf p) (fracOf q) (wide_of hp) (wide_of hq) _ _ (by exact blk_at _ _ (by simp))).mono ?_; rintro e w' ⟨rfl, hb⟩; have hc := hb.cell; have hf := hb.frozen; have hz := hb.size; (try simp at hz); have z0 : w.heap.size < w'.heap.size := (by omega); have z1 : w.heap.size + 1 < w'.heap.size := (by omega); have z2 : w.heap.size + 1 + 1 < w'.heap.size := (by omega)) | (go_at_call 60; refine (CS.out _).mono ?_; rintro e w' ⟨rfl, hb2⟩; have hc2 := hb2.cell; have hf2 := hb2.frozen; have hz2 := hb2.size; have z4 : w.heap.size + 1 + 1 < w'.heap.size := (by omega)))
  have hB := hb2.blk (hb.blk ((blk_past _ _ (by simp)).trans (three_third _ _ _ _)))
  refine bodyPost_ret (RT.results_row2 rfl _ _ (w.heap.size + 1 + 1) 23 _ (0, 0) _ rfl (store_pair hB).1 Tryd.underlying23 rfl info_frac) rfl ?_
  exact ⟨rfl, (store_pair hB).2.2 w (by omega) (by repeat (first | exact Ext.refl _ | assumption | refine Ext.alloc ?_ _ | refine Ext.drewN ?_ _ | refine ext_grow ?_ _ _ | refine Ext.setCell ?_ (by first | exact Nat.le_refl _ | omega | (simp; done) | (simp; omega)) _ | refine Ext.trans ?_ (by assumption)))⟩
set_option maxRecDepth 100000 in
set_option maxHeartbeats 2000000 in
theorem c_Add (a b : Frac) (ha : a.wide) (hb : b.wide) (w : World) :
    Calls Tryd.prog 26 #[fracV a, fracV b] w fun e w' => e = .returned (fansV (opR (fun p q => answer (p + q)) a b)) ∧ Ext w w' := by
  have cb : ∀ w, Calls Tryd.prog 56 #[fracV a, fracV b, .func (.func 60) #[] #[]] w fun e w' => e = .returned (fansV (opR (fun p q => answer (p + q)) a b)) ∧ Ext w w' := by
    intro w
    by_cases hn : a.ok ∧ b.ok
    · obtain ⟨p, hp, rfl⟩ := Frac.of_ok hn.1
      obtain ⟨q, hq, rfl⟩ := Frac.of_ok hn.2
      rw [opR_ok _ hp hq]
      exact c_both_sum p q hp hq w
    · rw [show opR (fun p q => answer (p + q)) a b = (⟨0, 0⟩, 8) from if_neg hn]
      exact c_both_no a b ha hb hn _ w
  obtain ⟨r, hr⟩ : ∃ r, opR (fun p q => answer (p + q)) a b = r := ⟨_, rfl⟩
  rw [hr] at cb ⊢
  have CB := Lib.hid cb
  clear cb hr
  go_enter Tryd.func26, Tryd.ntmps26
  go_wp2_with (go_at_call 56; refine (CB.out _).mono ?_; rintro e w' ⟨rfl, hb⟩; have hc := hb.cell; have hf := hb.frozen; have hz := hb.size; (try simp at hz); have z2 : w.heap.size + 1 + 1 < w'.heap.size := (by omega))
  have hB := hb.blk (three_third _ _ _ _)
  refine bodyPost_ret (RT.results_row2 rfl _ _ (w.heap.size + 1 + 1) 23 _ (0, 0) _ rfl (store_pair hB).1 Tryd.underlying23 rfl info_frac) rfl ?_
  exact ⟨rfl, (store_pair hB).2.2 w (by omega) (by repeat (first | exact Ext.refl _ | assumption | refine Ext.alloc ?_ _ | refine Ext.drewN ?_ _ | refine ext_grow ?_ _ _ | refine Ext.setCell ?_ (by first | exact Nat.le_refl _ | omega | (simp; done) | (simp; omega)) _ | refine Ext.trans ?_ (by assumption)))⟩

set_option maxRecDepth 100000 in
set_option maxHeartbeats 2000000 in
theorem c_both_difference (p q : Rat) (hp : Fits p) (hq : Fits q) (w : World) :
    Calls Tryd.prog 56 #[ratV p, ratV q, .func (.func 57) #[] #[]] w fun e w' => e = .returned (fansV ((fun p q => answer (p - q)) p q)) ∧ Ext w w' := by
  have hd : decide ((fracOf p).ok ∧ (fracOf q).ok) = true := decide_eq_true ⟨fracOf_ok hp, fracOf_ok hq⟩
  obtain ⟨r, hr⟩ : ∃ r, (fun p q => answer (p - q)) p q = r := ⟨_, rfl⟩
  rw [hr]
  have CS := Lib.hid (fun w => (hr ▸ c_difference p q hp hq w : Calls Tryd.prog 57 #[ratV p, ratV q] w fun e w' => e = .returned (fansV r) ∧ Ext w w'))
  clear hr
  go_enter Tryd.func56, Tryd.ntmps56
  go_wp2_with (first | (go_at_call 48; refine (c_valid2 (fracOf p) (fracOf q) (wide_of hp) (wide_of hq) _ _ (by exact blk_at _ _ (by simp))).mono ?_; rintro e w' ⟨rfl, hb⟩; have hc := hb.cell; have hf := hb.frozen; have hz := hb.size; (try simp at hz); have z0 : w.heap.size < w'.heap.size := (by omega); have z1 : w.heap.size + 1 < w'.heap.size := (by omega); have z2 : w.heap.size + 1 + 1 < w'.heap.size := (by omega)) | (go_at_call 57; refine (CS.out _).mono ?_; rintro e w' ⟨rfl, hb2⟩; have hc2 := hb2.cell; have hf2 := hb2.frozen; have hz2 := hb2.size; have z4 : w.heap.size + 1 + 1 < w'.heap.size := (by omega)))
  have hB := hb2.blk (hb.blk ((blk_past _ _ (by simp)).trans (three_third _ _ _ _)))
  refine bodyPost_ret (RT.results_row2 rfl _ _ (w.heap.size + 1 + 1) 23 _ (0, 0) _ rfl (store_pair hB).1 Tryd.underlying23 rfl info_frac) rfl ?_
  exact ⟨rfl, (store_pair hB).2.2 w (by omega) (by repeat (first | exact Ext.refl _ | assumption | refine Ext.alloc ?_ _ | refine Ext.drewN ?_ _ | refine ext_grow ?_ _ _ | refine Ext.setCell ?_ (by first | exact Nat.le_refl _ | omega | (simp; done) | (simp; omega)) _ | refine Ext.trans ?_ (by assumption)))⟩
set_option maxRecDepth 100000 in
set_option maxHeartbeats 2000000 in
theorem c_Sub (a b : Frac) (ha : a.wide) (hb : b.wide) (w : World) :
    Calls Tryd.prog 21 #[fracV a, fracV b] w fun e w' => e = .returned (fansV (opR (fun p q => answer (p - q)) a b)) ∧ Ext w w' := by
  have cb : ∀ w, Calls Tryd.prog 56 #[fracV a, fracV b, .func (.func 57) #[] #[]] w fun e w' => e = .returned (fansV (opR (fun p q => answer (p - q)) a b)) ∧ Ext w w' := by
    intro w
    by_cases hn : a.ok ∧ b.ok
    · obtain ⟨p, hp, rfl⟩ := Frac.of_ok hn.1
      obtain ⟨q, hq, rfl⟩ := Frac.of_ok hn.2
      rw [opR_ok _ hp hq]
      exact c_both_difference p q hp hq w
    · rw [show opR (fun p q => answer (p - q)) a b = (⟨0, 0⟩, 8) from if_neg hn]
      exact c_both_no a b ha hb hn _ w
  obtain ⟨r, hr⟩ : ∃ r, opR (fun p q => answer (p - q)) a b = r := ⟨_, rfl⟩
  rw [hr] at cb ⊢
  have CB := Lib.hid cb
  clear cb hr
  go_enter Tryd.func21, Tryd.ntmps21
  go_wp2_with (go_at_call 56; refine (CB.out _).mono ?_; rintro e w' ⟨rfl, hb⟩; have hc := hb.cell; have hf := hb.frozen; have hz := hb.size; (try simp at hz); have z2 : w.heap.size + 1 + 1 < w'.heap.size := (by omega))
  have hB := hb.blk (three_third _ _ _ _)
  refine bodyPost_ret (RT.results_row2 rfl _ _ (w.heap.size + 1 + 1) 23 _ (0, 0) _ rfl (store_pair hB).1 Tryd.underlying23 rfl info_frac) rfl ?_
  exact ⟨rfl, (store_pair hB).2.2 w (by omega) (by repeat (first | exact Ext.refl _ | assumption | refine Ext.alloc ?_ _ | refine Ext.drewN ?_ _ | refine ext_grow ?_ _ _ | refine Ext.setCell ?_ (by first | exact Nat.le_refl _ | omega | (simp; done) | (simp; omega)) _ | refine Ext.trans ?_ (by assumption)))⟩

set_option maxRecDepth 100000 in
set_option maxHeartbeats 2000000 in
theorem c_both_times (p q : Rat) (hp : Fits p) (hq : Fits q) (w : World) :
    Calls Tryd.prog 56 #[ratV p, ratV q, .func (.func 58) #[] #[]] w fun e w' => e = .returned (fansV ((fun p q => answer (p * q)) p q)) ∧ Ext w w' := by
  have hd : decide ((fracOf p).ok ∧ (fracOf q).ok) = true := decide_eq_true ⟨fracOf_ok hp, fracOf_ok hq⟩
  obtain ⟨r, hr⟩ : ∃ r, (fun p q => answer (p * q)) p q = r := ⟨_, rfl⟩
  rw [hr]
  have CS := Lib.hid (fun w => (hr ▸ c_times p q hp hq w : Calls Tryd.prog 58 #[ratV p, ratV q] w fun e w' => e = .returned (fansV r) ∧ Ext w w'))
  clear hr
  go_enter Tryd.func56, Tryd.ntmps56
  go_wp2_with (first | (go_at_call 48; refine (c_valid2 (fracOf p) (fracOf q) (wide_of hp) (wide_of hq) _ _ (by exact blk_at _ _ (by simp))).mono ?_; rintro e w' ⟨rfl, hb⟩; have hc := hb.cell; have hf := hb.frozen; have hz := hb.size; (try simp at hz); have z0 : w.heap.size < w'.heap.size := (by omega); have z1 : w.heap.size + 1 < w'.heap.size := (by omega); have z2 : w.heap.size + 1 + 1 < w'.heap.size := (by omega)) | (go_at_call 58; refine (CS.out _).mono ?_; rintro e w' ⟨rfl, hb2⟩; have hc2 := hb2.cell; have hf2 := hb2.frozen; have hz2 := hb2.size; have z4 : w.heap.size + 1 + 1 < w'.heap.size := (by omega)))
  have hB := hb2.blk (hb.blk ((blk_past _ _ (by simp)).trans (three_third _ _ _ _)))
  refine bodyPost_ret (RT.results_row2 rfl _ _ (w.heap.size + 1 + 1) 23 _ (0, 0) _ rfl (store_pair hB).1 Tryd.underlying23 rfl info_frac) rfl ?_
  exact ⟨rfl, (store_pair hB).2.2 w (by omega) (by repeat (first | exact Ext.refl _ | assumption | refine Ext.alloc ?_ _ | refine Ext.drewN ?_ _ | refine ext_grow ?_ _ _ | refine Ext.setCell ?_ (by first | exact Nat.le_refl _ | omega | (simp; done) | (simp; omega)) _ | refine Ext.trans ?_ (by assumption)))⟩
set_option maxRecDepth 100000 in
set_option maxHeartbeats 2000000 in
theorem c_Mul (a b : Frac) (ha : a.wide) (hb : b.wide) (w : World) :
    Calls Tryd.prog 22 #[fracV a, fracV b] w fun e w' => e = .returned (fansV (opR (fun p q => answer (p * q)) a b)) ∧ Ext w w' := by
  have cb : ∀ w, Calls Tryd.prog 56 #[fracV a, fracV b, .func (.func 58) #[] #[]] w fun e w' => e = .returned (fansV (opR (fun p q => answer (p * q)) a b)) ∧ Ext w w' := by
    intro w
    by_cases hn : a.ok ∧ b.ok
    · obtain ⟨p, hp, rfl⟩ := Frac.of_ok hn.1
      obtain ⟨q, hq, rfl⟩ := Frac.of_ok hn.2
      rw [opR_ok _ hp hq]
      exact c_both_times p q hp hq w
    · rw [show opR (fun p q => answer (p * q)) a b = (⟨0, 0⟩, 8) from if_neg hn]
      exact c_both_no a b ha hb hn _ w
  obtain ⟨r, hr⟩ : ∃ r, opR (fun p q => answer (p * q)) a b = r := ⟨_, rfl⟩
  rw [hr] at cb ⊢
  have CB := Lib.hid cb
  clear cb hr
  go_enter Tryd.func22, Tryd.ntmps22
  go_wp2_with (go_at_call 56; refine (CB.out _).mono ?_; rintro e w' ⟨rfl, hb⟩; have hc := hb.cell; have hf := hb.frozen; have hz := hb.size; (try simp at hz); have z2 : w.heap.size + 1 + 1 < w'.heap.size := (by omega))
  have hB := hb.blk (three_third _ _ _ _)
  refine bodyPost_ret (RT.results_row2 rfl _ _ (w.heap.size + 1 + 1) 23 _ (0, 0) _ rfl (store_pair hB).1 Tryd.underlying23 rfl info_frac) rfl ?_
  exact ⟨rfl, (store_pair hB).2.2 w (by omega) (by repeat (first | exact Ext.refl _ | assumption | refine Ext.alloc ?_ _ | refine Ext.drewN ?_ _ | refine ext_grow ?_ _ _ | refine Ext.setCell ?_ (by first | exact Nat.le_refl _ | omega | (simp; done) | (simp; omega)) _ | refine Ext.trans ?_ (by assumption)))⟩

set_option maxRecDepth 100000 in
set_option maxHeartbeats 2000000 in
theorem c_both_quotient (p q : Rat) (hp : Fits p) (hq : Fits q) (w : World) :
    Calls Tryd.prog 56 #[ratV p, ratV q, .func (.func 59) #[] #[]] w fun e w' => e = .returned (fansV ((quotR) p q)) ∧ Ext w w' := by
  have hd : decide ((fracOf p).ok ∧ (fracOf q).ok) = true := decide_eq_true ⟨fracOf_ok hp, fracOf_ok hq⟩
  obtain ⟨r, hr⟩ : ∃ r, (quotR) p q = r := ⟨_, rfl⟩
  rw [hr]
  have CS := Lib.hid (fun w => (hr ▸ c_quotient p q hp hq w : Calls Tryd.prog 59 #[ratV p, ratV q] w fun e w' => e = .returned (fansV r) ∧ Ext w w'))
  clear hr
  go_enter Tryd.func56, Tryd.ntmps56
  go_wp2_with (first | (go_at_call 48; refine (c_valid2 (fracOf p) (fracOf q) (wide_of hp) (wide_of hq) _ _ (by exact blk_at _ _ (by simp))).mono ?_; rintro e w' ⟨rfl, hb⟩; have hc := hb.cell; have hf := hb.frozen; have hz := hb.size; (try simp at hz); have z0 : w.heap.size < w'.heap.size := (by omega); have z1 : w.heap.size + 1 < w'.heap.size := (by omega); have z2 : w.heap.size + 1 + 1 < w'.heap.size := (by omega)) | (go_at_call 59; refine (CS.out _).mono ?_; rintro e w' ⟨rfl, hb2⟩; have hc2 := hb2.cell; have hf2 := hb2.frozen; have hz2 := hb2.size; have z4 : w.heap.size + 1 + 1 < w'.heap.size := (by omega)))
  have hB := hb2.blk (hb.blk ((blk_past _ _ (by simp)).trans (three_third _ _ _ _)))
  refine bodyPost_ret (RT.results_row2 rfl _ _ (w.heap.size + 1 + 1) 23 _ (0, 0) _ rfl (store_pair hB).1 Tryd.underlying23 rfl info_frac) rfl ?_
  exact ⟨rfl, (store_pair hB).2.2 w (by omega) (by repeat (first | exact Ext.refl _ | assumption | refine Ext.alloc ?_ _ | refine Ext.drewN ?_ _ | refine ext_grow ?_ _ _ | refine Ext.setCell ?_ (by first | exact Nat.le_refl _ | omega | (simp; done) | (simp; omega)) _ | refine Ext.trans ?_ (by assumption)))⟩
set_option maxRecDepth 100000 in
set_option maxHeartbeats 2000000 in
theorem c_Div (a b : Frac) (ha : a.wide) (hb : b.wide) (w : World) :
    Calls Tryd.prog 23 #[fracV a, fracV b] w fun e w' => e = .returned (fansV (opR (quotR) a b)) ∧ Ext w w' := by
  have cb : ∀ w, Calls Tryd.prog 56 #[fracV a, fracV b, .func (.func 59) #[] #[]] w fun e w' => e = .returned (fansV (opR (quotR) a b)) ∧ Ext w w' := by
    intro w
    by_cases hn : a.ok ∧ b.ok
    · obtain ⟨p, hp, rfl⟩ := Frac.of_ok hn.1
      obtain ⟨q, hq, rfl⟩ := Frac.of_ok hn.2
      rw [opR_ok _ hp hq]
      exact c_both_quotient p q hp hq w
    · rw [show opR (quotR) a b = (⟨0, 0⟩, 8) from if_neg hn]
      exact c_both_no a b ha hb hn _ w
  obtain ⟨r, hr⟩ : ∃ r, opR (quotR) a b = r := ⟨_, rfl⟩
  rw [hr] at cb ⊢
  have CB := Lib.hid cb
  clear cb hr
  go_enter Tryd.func23, Tryd.ntmps23
  go_wp2_with (go_at_call 56; refine (CB.out _).mono ?_; rintro e w' ⟨rfl, hb⟩; have hc := hb.cell; have hf := hb.frozen; have hz := hb.size; (try simp at hz); have z2 : w.heap.size + 1 + 1 < w'.heap.size := (by omega))
  have hB := hb.blk (three_third _ _ _ _)
  refine bodyPost_ret (RT.results_row2 rfl _ _ (w.heap.size + 1 + 1) 23 _ (0, 0) _ rfl (store_pair hB).1 Tryd.underlying23 rfl info_frac) rfl ?_
  exact ⟨rfl, (store_pair hB).2.2 w (by omega) (by repeat (first | exact Ext.refl _ | assumption | refine Ext.alloc ?_ _ | refine Ext.drewN ?_ _ | refine ext_grow ?_ _ _ | refine Ext.setCell ?_ (by first | exact Nat.le_refl _ | omega | (simp; done) | (simp; omega)) _ | refine Ext.trans ?_ (by assumption)))⟩
end Go.Proofs.YtodoimeiklilhaaDoor

/- The walks of layer 1's Check, Compare. -/
namespace Go.Proofs.YtodoimeiklilhaaDoor
open Go.RowKit Go.Sort

def checkR (a : Frac) : Int := if a.ok then 0 else 8
set_option maxHeartbeats 2000000 in
theorem c_Check (a : Frac) (ha : a.wide) (w : World) :
    Calls Tryd.prog 37 #[fracV a] w fun e w' => e = .returned (.int .i64 (checkR a)) ∧ Ext w w' := by
  obtain ⟨r, hr⟩ : ∃ r, checkR a = r := ⟨_, rfl⟩
  rw [hr]
  obtain ⟨t, ht⟩ : ∃ t, decide a.ok = t := ⟨_, rfl⟩
  have HR := Lib.hid (show (if t = true then (0 : Int) else 8) = r by rw [← hr, ← ht]; unfold checkR; simp)
  have CV := Lib.hid (fun k w h => (ht ▸ c_valid1 a ha k w h : Calls Tryd.prog 48 #[.slice (some ⟨k, 0, none⟩) 1 1] w fun e w' => e = .returned (.bool t) ∧ Ext w w'))
  clear hr ht
  cases t
  all_goals go_enter Tryd.func37, Tryd.ntmps37
  all_goals go_wp2_with (go_at_call 48; refine (CV.out _ _ (by exact blk_at _ _ (by simp))).mono ?_; rintro e w' ⟨rfl, hb⟩; have hc := hb.cell; have hf := hb.frozen; have hz := hb.size)
  all_goals go_ret
  all_goals exact ⟨ret_int (by rw [← HR.out]; first | done | rfl), (by repeat (first | exact Ext.refl _ | assumption | refine Ext.alloc ?_ _ | refine Ext.drewN ?_ _ | refine ext_grow ?_ _ _ | refine Ext.setCell ?_ (by first | exact Nat.le_refl _ | omega | (simp; done) | (simp; omega)) _ | refine Ext.trans ?_ (by assumption)))⟩
def compareR (a b : Frac) : Int × Int := if a.ok ∧ b.ok then (cmp a.val b.val, 0) else (0, 8)
set_option maxHeartbeats 2000000 in
theorem c_Compare (a b : Frac) (ha : a.wide) (hb : b.wide) (w : World) :
    Calls Tryd.prog 27 #[fracV a, fracV b] w fun e w' => e = .returned (.tuple #[.int .i64 (compareR a b).1, .int .i64 (compareR a b).2]) ∧ Ext w w' := by
  obtain ⟨r, hr⟩ : ∃ r, compareR a b = r := ⟨_, rfl⟩
  rw [hr]
  by_cases hn : a.ok ∧ b.ok
  · obtain ⟨p, hp, rfl⟩ := Frac.of_ok hn.1
    obtain ⟨q, hq, rfl⟩ := Frac.of_ok hn.2
    have hd : decide ((fracOf p).ok ∧ (fracOf q).ok) = true := decide_eq_true hn
    have HR := Lib.hid (show (cmp p q, (0 : Int)) = r by rw [← hr]; unfold compareR; rw [if_pos hn, fracOf_val, fracOf_val])
    obtain ⟨m, hm⟩ : ∃ m, cmp p q = m := ⟨_, rfl⟩
    have HR := Lib.hid (hm ▸ HR.out)
    have CO := Lib.hid (fun w => (hm ▸ c_order p q hp hq w : Calls Tryd.prog 61 #[ratV p, ratV q] w fun e w' => e = .returned (.int .i64 m) ∧ Ext w w'))
    clear hr hn hm
    go_enter Tryd.func27, Tryd.ntmps27
    go_wp2_with (first | (go_at_call 48; refine (c_valid2 (fracOf p) (fracOf q) (wide_of hp) (wide_of hq) _ _ (by exact blk_at _ _ (by simp))).mono ?_; rintro e w' ⟨rfl, hb⟩; have hc := hb.cell; have hz := hb.size; (try simp at hz); have z0 : w.heap.size < w'.heap.size := (by omega); have z1 : w.heap.size + 1 < w'.heap.size := (by omega)) | (go_at_call 61; refine (CO.out _).mono ?_; rintro e w' ⟨rfl, hb2⟩))
    go_ret2
    exact ⟨(by rw [← HR.out]; first | done | rfl), (by repeat (first | exact Ext.refl _ | assumption | refine Ext.alloc ?_ _ | refine Ext.drewN ?_ _ | refine ext_grow ?_ _ _ | refine Ext.setCell ?_ (by first | exact Nat.le_refl _ | omega | (simp; done) | (simp; omega)) _ | refine Ext.trans ?_ (by assumption)))⟩
  · have hd : decide (a.ok ∧ b.ok) = false := decide_eq_false hn
    have HR := Lib.hid (show ((0 : Int), (8 : Int)) = r by rw [← hr]; unfold compareR; rw [if_neg hn])
    clear hr hn
    go_enter Tryd.func27, Tryd.ntmps27
    go_wp2_with (go_at_call 48; refine (c_valid2 a b ha hb _ _ (by exact blk_at _ _ (by simp))).mono ?_; rintro e w' ⟨rfl, hb⟩)
    go_ret2
    exact ⟨(by rw [← HR.out]; first | done | rfl), (by repeat (first | exact Ext.refl _ | assumption | refine Ext.alloc ?_ _ | refine Ext.drewN ?_ _ | refine ext_grow ?_ _ _ | refine Ext.setCell ?_ (by first | exact Nat.le_refl _ | omega | (simp; done) | (simp; omega)) _ | refine Ext.trans ?_ (by assumption)))⟩
end Go.Proofs.YtodoimeiklilhaaDoor
