/- The reference's Root answers what layer 1's does. -/
import Derived.Test.YtodoimeiklilhaaDoorRefRoot
set_option linter.unusedVariables false
set_option linter.unusedSimpArgs false
namespace Go.Proofs.YtodoimeiklilhaaDoor
open Go.RowKit Go.Sort

theorem words_zero (n : Nat) (h : n ≠ 0) : ((hiW n : Int) == 0) = false ∨ (loW n : Int) ≠ 0 ∧ (hiW n : Int) = 0 := by
  by_cases h1 : hiW n = 0
  · exact .inr ⟨fun k => h (hiW_zero.1 ⟨by omega, k⟩), by omega⟩
  · exact .inl (by simp; omega)
theorem words_ne {x y : Nat} (h : x ≠ y) : ((hiW x : Int) == (hiW y : Int)) = false ∨ (hiW x : Int) = (hiW y : Int) ∧ (loW x : Int) ≠ (loW y : Int) := by
  by_cases h1 : (hiW x : Int) = (hiW y : Int)
  · refine .inr ⟨h1, fun k => h ?_⟩
    rw [← pair_eta x, ← pair_eta y]
    omega
  · exact .inl (by simpa using h1)
set_option maxHeartbeats 1000000 in
theorem r_Root_ok (p : Rat) (k : Nat) (hp : Fits p) (hn : 0 ≤ nm p) (hc1 : 1 ≤ k) (hc2 : k ≤ 32768) (w : World) :
    Calls Tryd.prog 46 #[ratV p, .int .i64 (k : Int)] w fun E w' => E = .returned (sansV (rootR p k)) ∧ Ext w w' := by
  obtain ⟨a1, a2, a3⟩ : an p ≤ 4611686018427387903 ∧ dw p ≤ 4611686018427387903 ∧ 0 < dw p := by
    have h := hp
    unfold Fits maxP at h
    refine ⟨?_, ?_, p.den_pos⟩
    · show p.num.natAbs ≤ _; omega
    · show p.den ≤ _; omega
  have hkk : k * k ≤ 1073741824 := Nat.mul_le_mul hc2 hc2
  have hkk0 : 0 ≤ (k : Int) * (k : Int) := Int.mul_nonneg (by omega) (by omega)
  have hkk2 : (k : Int) * (k : Int) ≤ 1073741824 := by rw [← Int.natCast_mul]; omega
  have hP : an p * (k * k) ≤ 4951760157141521099596496896 := Nat.le_trans (Nat.mul_le_mul a1 hkk) (by decide)
  obtain ⟨q, hq⟩ : ∃ q, an p * (k * k) / dw p = q := ⟨_, rfl⟩
  obtain ⟨r, hr⟩ : ∃ r, an p * (k * k) % dw p = r := ⟨_, rfl⟩
  have hqb : q ≤ 4951760157141521099596496896 := by rw [← hq]; exact Nat.le_trans (Nat.div_le_self _ _) hP
  obtain ⟨g1, g2⟩ := isq_spec q
  obtain ⟨x, hx⟩ : ∃ x, x = isq q := ⟨_, rfl⟩
  rw [← hx] at g1 g2
  have hxb : x ≤ 140737488355327 := by
    rcases Nat.lt_or_ge 140737488355327 x with h | h
    · have := Nat.mul_le_mul (show 140737488355328 ≤ x from h) (show 140737488355328 ≤ x from h); omega
    · exact h
  have kv := r_Valid (fracOf p) (wide_of hp)
  rw [decide_eq_true (fracOf_ok hp)] at kv
  have k2 := r_size (nm p) (fits_i64 hp).1
  have k3 := r_size (dn p) (fits_i64 hp).2
  have ed : (dn p).natAbs = dw p := Int.natAbs_natCast _
  rw [ed] at k3
  have k4 := r_times (an p) (k * k) (by unfold W64; omega) (by unfold W64; omega)
  rw [Int.natCast_mul] at k4
  have k5 := r_parted (an p * (k * k)) (dw p) (by unfold W128; omega) a3 (by omega)
  rw [hq, hr, pair_small (n := dw p) (by omega)] at k5
  have kt : ∀ m : Int, 0 ≤ m → m ≤ 140737488355328 → ∀ w, Calls Tryd.prog 80 #[.int .u64 m, .int .u64 m] w fun E w' => E = .returned (pairV (m.toNat * m.toNat)) ∧ Ext w w' := by
    intro m m0 m1 w
    have h := r_times m.toNat m.toNat (by unfold W64; omega) (by unfold W64; omega) w
    rw [Int.toNat_of_nonneg m0] at h
    exact h
  have kl : ∀ m : Int, 0 ≤ m → m ≤ 140737488355328 → ∀ w, Calls Tryd.prog 82 #[pairV q, pairV (m.toNat * m.toNat)] w fun E w' => E = .returned (.bool (decide (q < m.toNat * m.toNat))) ∧ Ext w w' := fun m _ _ w => r_less q _ w
  obtain ⟨f1, f2⟩ := make_small (s := x) (c := k) (by omega) hc1 hc2
  obtain ⟨f3, f4⟩ := make_small (s := x + 1) (c := k) (by omega) hc1 hc2
  have ic : InI64 (k : Int) := by unfold InI64; omega
  have k6 := r_Make (x : Int) (k : Int) (by unfold InI64; omega) ic
  rw [f1] at k6
  have k7 := r_Make ((x + 1 : Nat) : Int) (k : Int) (by unfold InI64; omega) ic
  rw [f3, Int.natCast_add] at k7
  have k8 := r_times x x (by unfold W64; omega) (by unfold W64; omega)
  have hz : ∀ lo : Int, 0 ≤ lo → decide (q < lo.toNat * lo.toNat) = false → decide (q < (lo + 1).toNat * (lo + 1).toNat) = true → lo = (x : Int) := by
    intro lo l0 h1 h2
    have h1' := of_decide_eq_false h1
    have h2' := of_decide_eq_true h2
    rw [show (lo + 1).toNat = lo.toNat + 1 by omega] at h2'
    have := isq_eq (q := q) (s := lo.toNat) (by omega) h2'
    rw [← hx] at this
    omega
  have e := rootR_eq (p := p) (c := k) rfl hq hr hx rfl rfl
  have hl0 : decide (q < (0 : Int).toNat * (0 : Int).toNat) = false := by simp
  have hl1 : decide (q < (140737488355328 : Int).toNat * (140737488355328 : Int).toNat) = true := decide_eq_true (by
    show q < 140737488355328 * 140737488355328
    omega)
  have t1 : decide (nm p < 0) = false := decide_eq_false (by omega)
  have t2 : decide ((k : Int) < 1) = false := decide_eq_false (by omega)
  have t3 : decide (32768 < (k : Int)) = false := decide_eq_false (by omega)
  by_cases hr0 : r = 0
  · by_cases hs : x * x = q
    · rw [e, if_pos ⟨hr0, hs⟩]
      rw [hr0] at k5
      exact rRoot_yes (nm p) (dn p) (k : Int) (x : Int) _ _ _ _ _ _ _ _ _ _ _ _ _ _ _ _ _ (fun m => decide (q < m.toNat * m.toNat)) w hn (by omega) (by omega) hkk0 hkk2 t1 t2 t3 hl0 hl1 hz rfl rfl (by rw [hs]) (by rw [hs]) kv k2 k3 k4 k5 kt kl k6 k7 k8
    · rw [e, if_neg (fun h => hs h.2)]
      rw [hr0] at k5
      exact rRoot_no (nm p) (dn p) (k : Int) (x : Int) _ _ _ _ _ _ _ _ _ _ _ _ _ _ _ _ _ (fun m => decide (q < m.toNat * m.toNat)) w hn (by omega) (by omega) hkk0 hkk2 t1 t2 t3 hl0 hl1 hz rfl rfl (words_ne hs) kv k2 k3 k4 k5 kt kl k6 k7 k8
  · rw [e, if_neg (fun h => hr0 h.1)]
    exact rRoot_rest (nm p) (dn p) (k : Int) (x : Int) _ _ _ _ _ _ _ _ _ _ _ _ _ _ _ _ _ (fun m => decide (q < m.toNat * m.toNat)) w hn (by omega) (by omega) hkk0 hkk2 t1 t2 t3 hl0 hl1 hz (words_zero r hr0) kv k2 k3 k4 k5 kt kl k6 k7 k8
theorem r_Root (a : Frac) (c : Int) (ha : a.wide) (w : World) :
    Calls Tryd.prog 46 #[fracV a, .int .i64 c] w fun E w' => E = .returned (sansV (rootAll a c)) ∧ Ext w w' := by
  by_cases hn : a.ok
  · obtain ⟨p, hp, rfl⟩ := Frac.of_ok hn
    by_cases hz : nm p < 0 ∨ c < 1 ∨ 32768 < c
    · rw [show rootAll (fracOf p) c = (none, 2) by unfold rootAll; rw [if_pos hn, fracOf_val, if_pos hz]]
      have kv := r_Valid (fracOf p) (wide_of hp)
      rw [decide_eq_true (fracOf_ok hp)] at kv
      exact rRoot_arg (nm p) (dn p) c w hz kv
    · obtain ⟨k, rfl⟩ := Int.eq_ofNat_of_zero_le (show 0 ≤ c by omega)
      rw [show rootAll (fracOf p) (k : Int) = rootR p k by unfold rootAll; rw [if_pos hn, fracOf_val, if_neg hz, Int.toNat_natCast]]
      exact r_Root_ok p k hp (by omega) (by omega) (by omega) w
  · rw [show rootAll a c = (none, 8) from if_neg hn]
    have kv := r_Valid a ha
    rw [decide_eq_false hn] at kv
    obtain ⟨a1, a2⟩ := a
    exact rRoot_bad a1 a2 c w kv
end Go.Proofs.YtodoimeiklilhaaDoor
