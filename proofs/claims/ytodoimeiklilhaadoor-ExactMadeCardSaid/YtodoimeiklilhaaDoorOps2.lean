/- The walks of layer 1's Check, Compare, Floor, Ceil, lesser, greater. -/
import Derived.Test.YtodoimeiklilhaaDoorOps
set_option linter.unusedVariables false
set_option linter.unusedSimpArgs false
namespace Go.Proofs.YtodoimeiklilhaaDoor
open Go.RowKit Go.Sort

def checkR (a : Frac) : Int := if a.ok then 0 else 8
set_option maxHeartbeats 2000000 in
theorem c_Check (a : Frac) (ha : a.wide) (w : World) :
    Calls Tryd.prog 37 #[fracV a] w fun e w' => e = .returned (.int .i64 (checkR a)) ∧ Ext w w' := by
  obtain ⟨r, hr⟩ : ∃ r, checkR a = r := ⟨_, rfl⟩
  rw [hr]
  obtain ⟨t, ht⟩ : ∃ t, decide a.ok = t := ⟨_, rfl⟩
  have HR := Lib.hid (show (if t = true then (0 : Int) else 8) = r by rw [← hr, ← ht]; unfold checkR; simp)
  have CV := Lib.hid (fun k w h => (ht ▸ c_valid1 a ha k w h : Calls Tryd.prog 48 #[.slice (some ⟨k, 0, none⟩) 1 1] w fun e w' => e = .returned (.bool t) ∧ Ext w w'))
  clear hr ht
  cases t
  all_goals go_enter Tryd.func37, Tryd.ntmps37
  all_goals go_wp2_with (go_at_call 48; refine (CV.out _ _ (by exact blk_at _ _ (by simp))).mono ?_; rintro e w' ⟨rfl, hb⟩; have hc := hb.cell; have hf := hb.frozen; have hz := hb.size)
  all_goals go_ret
  all_goals exact ⟨ret_int (by rw [← HR.out]; first | done | rfl), (by repeat (first | exact Ext.refl _ | assumption | refine Ext.alloc ?_ _ | refine Ext.drewN ?_ _ | refine ext_grow ?_ _ _ | refine Ext.setCell ?_ (by first | exact Nat.le_refl _ | omega | (simp; done) | (simp; omega)) _ | refine Ext.trans ?_ (by assumption)))⟩
def compareR (a b : Frac) : Int × Int := if a.ok ∧ b.ok then (cmp a.val b.val, 0) else (0, 8)
set_option maxHeartbeats 2000000 in
theorem c_Compare (a b : Frac) (ha : a.wide) (hb : b.wide) (w : World) :
    Calls Tryd.prog 27 #[fracV a, fracV b] w fun e w' => e = .returned (.tuple #[.int .i64 (compareR a b).1, .int .i64 (compareR a b).2]) ∧ Ext w w' := by
  obtain ⟨r, hr⟩ : ∃ r, compareR a b = r := ⟨_, rfl⟩
  rw [hr]
  by_cases hn : a.ok ∧ b.ok
  · obtain ⟨p, hp, rfl⟩ := Frac.of_ok hn.1
    obtain ⟨q, hq, rfl⟩ := Frac.of_ok hn.2
    have hd : decide ((fracOf p).ok ∧ (fracOf q).ok) = true := decide_eq_true hn
    have HR := Lib.hid (show (cmp p q, (0 : Int)) = r by rw [← hr]; unfold compareR; rw [if_pos hn, fracOf_val, fracOf_val])
    obtain ⟨m, hm⟩ : ∃ m, cmp p q = m := ⟨_, rfl⟩
    have HR := Lib.hid (hm ▸ HR.out)
    have CO := Lib.hid (fun w => (hm ▸ c_order p q hp hq w : Calls Tryd.prog 61 #[ratV p, ratV q] w fun e w' => e = .returned (.int .i64 m) ∧ Ext w w'))
    clear hr hn hm
    go_enter Tryd.func27, Tryd.ntmps27
    go_wp2_with (first | (go_at_call 48; refine (c_valid2 (fracOf p) (fracOf q) (wide_of hp) (wide_of hq) _ _ (by exact blk_at _ _ (by simp))).mono ?_; rintro e w' ⟨rfl, hb⟩; have hc := hb.cell; have hz := hb.size; (try simp at hz); have z0 : w.heap.size < w'.heap.size := (by omega); have z1 : w.heap.size + 1 < w'.heap.size := (by omega)) | (go_at_call 61; refine (CO.out _).mono ?_; rintro e w' ⟨rfl, hb2⟩))
    go_ret2
    exact ⟨(by rw [← HR.out]; first | done | rfl), (by repeat (first | exact Ext.refl _ | assumption | refine Ext.alloc ?_ _ | refine Ext.drewN ?_ _ | refine ext_grow ?_ _ _ | refine Ext.setCell ?_ (by first | exact Nat.le_refl _ | omega | (simp; done) | (simp; omega)) _ | refine Ext.trans ?_ (by assumption)))⟩
  · have hd : decide (a.ok ∧ b.ok) = false := decide_eq_false hn
    have HR := Lib.hid (show ((0 : Int), (8 : Int)) = r by rw [← hr]; unfold compareR; rw [if_neg hn])
    clear hr hn
    go_enter Tryd.func27, Tryd.ntmps27
    go_wp2_with (go_at_call 48; refine (c_valid2 a b ha hb _ _ (by exact blk_at _ _ (by simp))).mono ?_; rintro e w' ⟨rfl, hb⟩)
    go_ret2
    exact ⟨(by rw [← HR.out]; first | done | rfl), (by repeat (first | exact Ext.refl _ | assumption | refine Ext.alloc ?_ _ | refine Ext.drewN ?_ _ | refine ext_grow ?_ _ _ | refine Ext.setCell ?_ (by first | exact Nat.le_refl _ | omega | (simp; done) | (simp; omega)) _ | refine Ext.trans ?_ (by assumption)))⟩
/-- the greatest whole number that is at most q -/
def floorR (a : Frac) : Int × Int := if a.ok then (a.val.floor, 0) else (0, 8)
theorem tdiv_floor (n d : Int) (hd : 0 < d) : (if n < n.tdiv d * d then n.tdiv d - 1 else n.tdiv d) = n / d := by
  have h1 := Int.mul_tdiv_add_tmod n d
  have h2 := Int.mul_ediv_add_emod n d
  have h3 := Int.emod_nonneg n (Int.ne_of_gt hd)
  have h4 := Int.emod_lt_of_pos n hd
  rcases Int.lt_or_le n 0 with hn | hn
  · have h5 : n.tmod d ≤ 0 := by
      have := Int.tmod_nonneg d (a := -n) (by omega)
      rw [Int.neg_tmod] at this
      omega
    have h6 : -d < n.tmod d := by
      have := Int.tmod_lt_of_pos (-n) hd
      rw [Int.neg_tmod] at this
      omega
    rw [Int.mul_comm] at h1 h2
    generalize n.tdiv d = q at *
    generalize n / d = e at *
    have e1 : (q - e) * d = n % d - n.tmod d := by rw [Int.sub_mul]; omega
    split
    · rename_i hlt
      have e2 : q - e = 1 := by
        have a1 : 0 < (q - e) * d := by omega
        have a2 : (q - e) * d < 2 * d := by omega
        have a3 : 0 < q - e := by
          rcases Int.lt_or_le 0 (q - e) with h | h
          · exact h
          · have := Int.mul_nonpos_of_nonpos_of_nonneg h (Int.le_of_lt hd); omega
        have a4 : q - e < 2 := Int.lt_of_mul_lt_mul_right a2 (Int.le_of_lt hd)
        omega
      omega
    · rename_i hlt
      have e2 : (q - e) * d < 1 * d := by omega
      have a4 : q - e < 1 := Int.lt_of_mul_lt_mul_right e2 (Int.le_of_lt hd)
      have a5 : -1 * d < (q - e) * d := by omega
      have a6 : -1 < q - e := Int.lt_of_mul_lt_mul_right a5 (Int.le_of_lt hd)
      omega
  · rw [Int.tdiv_eq_ediv_of_nonneg hn]
    rw [if_neg]
    have := Int.ediv_mul_le n (Int.ne_of_gt hd)
    omega
theorem tdiv_small {q : Rat} (h : Fits q) : -4611686018427387903 ≤ (nm q).tdiv (dn q) ∧ (nm q).tdiv (dn q) ≤ 4611686018427387903 ∧ -4611686018427387903 ≤ (nm q).tdiv (dn q) * dn q ∧ (nm q).tdiv (dn q) * dn q ≤ 4611686018427387903 := by
  have hd : 0 < dn q := by have := q.den_pos; unfold dn; omega
  have hn : -4611686018427387903 ≤ nm q ∧ nm q ≤ 4611686018427387903 := by unfold Fits maxP at h; unfold nm; omega
  have h1 := Int.mul_tdiv_add_tmod (nm q) (dn q)
  have a1 : ((nm q).tdiv (dn q)).natAbs ≤ (nm q).natAbs := by
    rw [Int.natAbs_tdiv]; exact Nat.div_le_self _ _
  have a2 : ((nm q).tdiv (dn q) * dn q).natAbs ≤ (nm q).natAbs := by
    rw [Int.natAbs_mul, Int.natAbs_tdiv]; exact Nat.div_mul_le_self _ _
  omega
set_option maxHeartbeats 2000000 in
theorem c_Floor (a : Frac) (ha : a.wide) (w : World) :
    Calls Tryd.prog 29 #[fracV a] w fun e w' => e = .returned (.tuple #[.int .i64 (floorR a).1, .int .i64 (floorR a).2]) ∧ Ext w w' := by
  obtain ⟨r, hr⟩ : ∃ r, floorR a = r := ⟨_, rfl⟩
  rw [hr]
  by_cases hn : a.ok
  · obtain ⟨p, hp, rfl⟩ := Frac.of_ok hn
    have hd : decide ((fracOf p).ok) = true := decide_eq_true hn
    have d0 : 0 < dn p := by have := p.den_pos; unfold dn; omega
    have HR := Lib.hid (show ((if nm p < (nm p).tdiv (dn p) * dn p then (nm p).tdiv (dn p) - 1 else (nm p).tdiv (dn p)), (0 : Int)) = r by
      rw [← hr, tdiv_floor _ _ d0]; unfold floorR; rw [if_pos hn, fracOf_val, Rat.floor_def]; rfl)
    obtain ⟨b1, b2, b3, b4⟩ := tdiv_small hp
    have q1 : wrap64 ((nm p).tdiv (dn p)) = (nm p).tdiv (dn p) := IntWalk.wrap64_in _ (by omega)
    have q2 : wrap64 ((nm p).tdiv (dn p) * dn p) = (nm p).tdiv (dn p) * dn p := IntWalk.wrap64_in _ (by omega)
    have q3 : wrap64 ((nm p).tdiv (dn p) - 1) = (nm p).tdiv (dn p) - 1 := IntWalk.wrap64_in _ (by omega)
    have t1 : (dn p == 0) = false := by simp; omega
    have t2 : ¬ dn p = 0 := by omega
    clear hr hn b1 b2 b3 b4
    show Calls Tryd.prog 29 #[ratV p] w _
    go_enter Tryd.func29, Tryd.ntmps29
    go_wp2_with (go_at_call 48; refine (c_valid1 (fracOf p) (wide_of hp) _ _ (by exact blk_at _ _ (by simp))).mono ?_; rintro e w' ⟨rfl, hb⟩; have hc := hb.cell; have hz := hb.size; (try simp at hz); have z0 : w.heap.size < w'.heap.size := (by omega))
    all_goals go_ret2
    all_goals refine ⟨?_, (by repeat (first | exact Ext.refl _ | assumption | refine Ext.alloc ?_ _ | refine Ext.drewN ?_ _ | refine ext_grow ?_ _ _ | refine Ext.setCell ?_ (by first | exact Nat.le_refl _ | omega | (simp; done) | (simp; omega)) _ | refine Ext.trans ?_ (by assumption)))⟩
    all_goals rw [← HR.out]
    · rw [if_pos (by assumption)]; first | done | rfl | (show Ending.returned (.tuple #[.int .i64 (wrap64 ((nm p).tdiv (dn p) - 1)), .int .i64 0]) = _; rw [q3])
    · rw [if_neg (by omega)]; first | done | rfl | (show Ending.returned (.tuple #[.int .i64 (wrap64 ((nm p).tdiv (dn p))), .int .i64 0]) = _; rw [q1])
  · have hd : decide a.ok = false := decide_eq_false hn
    have HR := Lib.hid (show ((0 : Int), (8 : Int)) = r by rw [← hr]; unfold floorR; rw [if_neg hn])
    clear hr hn
    go_enter Tryd.func29, Tryd.ntmps29
    go_wp2_with (go_at_call 48; refine (c_valid1 a ha _ _ (by exact blk_at _ _ (by simp))).mono ?_; rintro e w' ⟨rfl, hb⟩)
    go_ret2
    exact ⟨(by rw [← HR.out]; first | done | rfl), (by repeat (first | exact Ext.refl _ | assumption | refine Ext.alloc ?_ _ | refine Ext.drewN ?_ _ | refine ext_grow ?_ _ _ | refine Ext.setCell ?_ (by first | exact Nat.le_refl _ | omega | (simp; done) | (simp; omega)) _ | refine Ext.trans ?_ (by assumption)))⟩
end Go.Proofs.YtodoimeiklilhaaDoor
