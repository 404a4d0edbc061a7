/- Camera images, pixels and contrasts: the program's functions and the reference's. -/
import Derived.Test.YtlnofbdhamingaaImgFn
import Derived.Test.YtlnofbdhamingaaByteFn
set_option linter.unusedVariables false
set_option linter.unusedSimpArgs false
namespace Go.Proofs.Ytlnofbdhamingaa
open Go.RowKit Go.Sort

set_option maxHeartbeats 1000000 in
theorem rwithin_same (n lo hi : Int) (w : World) :
    Calls Try.prog 36 #[.int .i64 n, .int .i64 lo, .int .i64 hi] w fun e w' => e = .returned (.bool (decide (lo ≤ n ∧ n ≤ hi))) ∧ w = w' := by
  go_enter Try.func36, Try.ntmps36
  go_wp2
  all_goals (go_ret; refine ⟨ret_bool ?_, rfl⟩; simp; omega)
set_option maxHeartbeats 1000000 in
theorem r_At (m : Img) (v : Value) (x y : Int) (w : World) (hm : m.Sized) (hi : m.In x y) (hv : IntsAt w v m.pix) :
    Calls Try.prog 37 #[imgVal m v, .int .i64 x, .int .i64 y] w fun e w' => e = .returned (.int .i64 (m.at x y)) ∧ Ext w w' := by
  obtain ⟨i1, i2, i3, i4⟩ := Img.idx hm hi
  obtain ⟨k1, k2⟩ := Img.len_bd hm
  obtain ⟨ao, cap, rfl, ⟨g1, g2⟩, hc⟩ := hv.form
  obtain ⟨b, off, rfl, c0⟩ := hc (y * m.w + x).toNat (by omega)
  have hx : m.pix.getD (y * m.w + x).toNat 0 = m.at x y := rfl
  rw [hx] at c0
  have z0 := World.block_lt_of_cell? _ _ c0
  simp only at z0
  obtain ⟨h1, h2⟩ := hi
  unfold imgVal
  obtain ⟨r, hr⟩ : ∃ r, m.at x y = r := ⟨_, rfl⟩
  rw [hr] at c0 ⊢
  have HC := Lib.hid hc
  clear hr hx hc hv hm
  go_enter Try.func37, Try.ntmps37
  go_wp2
  go_ret
  exact ⟨rfl, (by repeat (first | exact Ext.refl _ | assumption | refine Ext.alloc ?_ _ | refine Ext.drewN ?_ _ | refine ext_grow ?_ _ _ | refine Ext.trans ?_ (by assumption)))⟩
set_option maxHeartbeats 2000000 in
theorem r_Valid (m : Img) (v : Value) (w : World) (hv : IntsAt w v m.pix) (hl : m.pix.length ≤ maxLen) :
    Calls Try.prog 33 #[imgVal m v] w fun e w' => e = .returned (.bool (decide m.Valid)) ∧ Ext w w' := by
  obtain ⟨ao, cap, rfl, -, hc⟩ := hv.form
  have HC := Lib.hid hc
  have hlm : m.pix.length ≤ 9223372036854775807 := hl
  unfold imgVal
  clear hv hc
  by_cases hs : 1 ≤ m.w ∧ m.w ≤ 16
  case neg =>
    have q1 : decide (1 ≤ m.w ∧ m.w ≤ 16) = false := decide_eq_false hs
    have HS := Lib.hid hs
    clear hs
    go_enter Try.func33, Try.ntmps33
    go_wp2_with (go_at_call 36; (with_reducible refine (rwithin_same _ _ _ _).mono ?_); rintro e w' ⟨rfl, rfl⟩)
    go_ret
    exact ⟨ret_bool (decide_eq_false (fun h => HS.out h.1.1)).symm, (by repeat (first | exact Ext.refl _ | assumption | refine Ext.alloc ?_ _ | refine Ext.drewN ?_ _ | refine ext_grow ?_ _ _ | refine Ext.trans ?_ (by assumption)))⟩
  by_cases ht : 1 ≤ m.h ∧ m.h ≤ 16
  case neg =>
    have q1 : decide (1 ≤ m.w ∧ m.w ≤ 16) = true := decide_eq_true hs
    have q2 : decide (1 ≤ m.h ∧ m.h ≤ 16) = false := decide_eq_false ht
    have HS := Lib.hid ht
    clear hs ht
    go_enter Try.func33, Try.ntmps33
    go_wp2_with (go_at_call 36; (with_reducible refine (rwithin_same _ _ _ _).mono ?_); rintro e w' ⟨rfl, rfl⟩)
    go_ret
    exact ⟨ret_bool (decide_eq_false (fun h => HS.out h.1.2.1)).symm, (by repeat (first | exact Ext.refl _ | assumption | refine Ext.alloc ?_ _ | refine Ext.drewN ?_ _ | refine ext_grow ?_ _ _ | refine Ext.trans ?_ (by assumption)))⟩
  obtain ⟨p1, p2⟩ := mul_side ⟨hs, ht⟩
  have q1 : decide (1 ≤ m.w ∧ m.w ≤ 16) = true := decide_eq_true hs
  have q2 : decide (1 ≤ m.h ∧ m.h ≤ 16) = true := decide_eq_true ht
  have HS := Lib.hid hs
  have HT := Lib.hid ht
  clear hs ht
  by_cases hn : (m.pix.length : Int) = m.w * m.h
  case neg =>
    have q3 : ((m.pix.length : Int) != m.w * m.h) = true := by simpa using hn
    have HN := Lib.hid hn
    clear hn
    go_enter Try.func33, Try.ntmps33
    go_wp2_with (go_at_call 36; (with_reducible refine (rwithin_same _ _ _ _).mono ?_); rintro e w' ⟨rfl, rfl⟩)
    go_ret
    exact ⟨ret_bool (decide_eq_false (fun h => HN.out h.1.2.2)).symm, (by repeat (first | exact Ext.refl _ | assumption | refine Ext.alloc ?_ _ | refine Ext.drewN ?_ _ | refine ext_grow ?_ _ _ | refine Ext.trans ?_ (by assumption)))⟩
  have q3 : ((m.pix.length : Int) != m.w * m.h) = false := by simpa using hn
  have HN := Lib.hid hn
  clear hn
  go_enter Try.func33, Try.ntmps33
  go_wp2_with (go_at_call 36; (with_reducible refine (rwithin_same _ _ _ _).mono ?_); rintro e w' ⟨rfl, rfl⟩)
  go_loop [3] (fun i => ∃ k : Nat, k ≤ m.pix.length ∧ i = .int .i64 (k : Int) ∧ Hid (allIn (-2147483648) 2147483648 (m.pix.take k))) (fun i => m.pix.length - (intOf i).toNat)
  case atStart => exact ⟨0, Nat.zero_le _, rfl, Lib.hid (fun n hn => by simp at hn)⟩
  case round =>
    obtain ⟨k, hk, rfl, hI⟩ := hrel
    by_cases hkl : k < m.pix.length
    · obtain ⟨b, off, rfl, c0⟩ := HC.out k hkl
      obtain ⟨x, hx⟩ : ∃ x, m.pix.getD k 0 = x := ⟨_, rfl⟩
      rw [hx] at c0
      have HX := Lib.hid hx
      have z0 := World.block_lt_of_cell? _ _ c0
      simp only at z0
      clear hx
      by_cases h1 : -2147483648 ≤ x ∧ x ≤ 2147483648
      · have q4 : decide (-2147483648 ≤ x ∧ x ≤ 2147483648) = true := decide_eq_true h1
        have H1 := Lib.hid h1
        clear h1
        go_wp2_with (go_at_call 36; (with_reducible refine (rwithin_same _ _ _ _).mono ?_); rintro e w' ⟨rfl, rfl⟩)
        go_round
        case rel => exact ⟨k + 1, by omega, by go_num, Lib.hid ((allIn_snoc hkl).2 ⟨hI.out, by rw [HX.out]; exact H1.out⟩)⟩
        case measure => simp [intOf]; omega
      · have q4 : decide (-2147483648 ≤ x ∧ x ≤ 2147483648) = false := decide_eq_false h1
        have H1 := Lib.hid h1
        clear h1
        go_wp2_with (go_at_call 36; (with_reducible refine (rwithin_same _ _ _ _).mono ?_); rintro e w' ⟨rfl, rfl⟩)
        go_ret
        exact ⟨ret_bool (decide_eq_false (fun h => allIn_not hkl (by rw [HX.out]; exact H1.out) h.2)).symm, (by repeat (first | exact Ext.refl _ | assumption | refine Ext.alloc ?_ _ | refine Ext.drewN ?_ _ | refine ext_grow ?_ _ _ | refine Ext.trans ?_ (by assumption)))⟩
    · go_wp2
      go_ret
      have := hI.out
      rw [List.take_of_length_le (by omega)] at this
      exact ⟨ret_bool (decide_eq_true ⟨⟨HS.out, HT.out, HN.out⟩, this⟩).symm, (by repeat (first | exact Ext.refl _ | assumption | refine Ext.alloc ?_ _ | refine Ext.drewN ?_ _ | refine ext_grow ?_ _ _ | refine Ext.trans ?_ (by assumption)))⟩
set_option maxHeartbeats 2000000 in
theorem r_Camera (m : Img) (v : Value) (w : World) (hv : IntsAt w v m.pix) (hl : m.pix.length ≤ maxLen) :
    Calls Try.prog 26 #[imgVal m v] w fun e w' => e = .returned (.bool (decide m.Camera)) ∧ Ext w w' := by
  have HV := Lib.hid hv
  obtain ⟨ao, cap, rfl, -, -⟩ := hv.form
  have K := Lib.hid (fun w' (h : Ext w w') => r_Valid m _ w' (HV.out.ext h) hl)
  have hlm : m.pix.length ≤ 9223372036854775807 := hl
  unfold imgVal at K ⊢
  clear hv
  by_cases hs : m.Valid
  case neg =>
    have hk : decide m.Valid = false := decide_eq_false hs
    rw [hk] at K
    have HS := Lib.hid hs
    clear hs hk
    go_enter Try.func26, Try.ntmps26
    go_wp2_with (go_at_call 33; (with_reducible refine (K.out _ (by repeat (first | exact Ext.refl _ | assumption | refine Ext.alloc ?_ _ | refine Ext.drewN ?_ _ | refine ext_grow ?_ _ _ | refine Ext.trans ?_ (by assumption)))).mono ?_); rintro e w1 ⟨rfl, hb⟩)
    go_ret
    exact ⟨ret_bool (decide_eq_false (fun h => HS.out ((Img.camera_iff m).1 h).1)).symm, (by repeat (first | exact Ext.refl _ | assumption | refine Ext.alloc ?_ _ | refine Ext.drewN ?_ _ | refine ext_grow ?_ _ _ | refine Ext.trans ?_ (by assumption)))⟩
  have hk : decide m.Valid = true := decide_eq_true hs
  rw [hk] at K
  have HS := Lib.hid hs
  clear hs hk
  go_enter Try.func26, Try.ntmps26
  go_wp2_with (go_at_call 33; (with_reducible refine (K.out _ (by repeat (first | exact Ext.refl _ | assumption | refine Ext.alloc ?_ _ | refine Ext.drewN ?_ _ | refine ext_grow ?_ _ _ | refine Ext.trans ?_ (by assumption)))).mono ?_); rintro e w1 ⟨rfl, hb⟩; have hc := hb.cell; have hf := hb.frozen; have hz := hb.size)
  have hE : Ext w w1 := (by repeat (first | exact Ext.refl _ | assumption | refine Ext.alloc ?_ _ | refine Ext.drewN ?_ _ | refine ext_grow ?_ _ _ | refine Ext.trans ?_ (by assumption)))
  obtain ⟨⟨c0, c1, c2⟩, f0, f1, f2⟩ := run_3 (hb.blk (one_first w _))
  have HV1 := Lib.hid (HV.out.ext hE)
  clear hc hf
  go_loop [3] (fun i => ∃ k : Nat, k ≤ m.pix.length ∧ i = .int .i64 (k : Int) ∧ Hid (allIn 0 255 (m.pix.take k))) (fun i => m.pix.length - (intOf i).toNat)
  case atStart => exact ⟨0, Nat.zero_le _, rfl, Lib.hid (fun n hn => by simp at hn)⟩
  case round =>
    obtain ⟨k, hk, rfl, hI⟩ := hrel
    by_cases hkl : k < m.pix.length
    · obtain ⟨ao2, cap2, he, -, hc2⟩ := HV1.out.form
      injection he with e1 _ e2
      subst e1
      subst e2
      obtain ⟨b, off, rfl, c3⟩ := hc2 k hkl
      obtain ⟨x, hx⟩ : ∃ x, m.pix.getD k 0 = x := ⟨_, rfl⟩
      rw [hx] at c3
      have HX := Lib.hid hx
      clear hx hc2
      by_cases h1 : x < 0
      · have H1 := Lib.hid h1
        go_wp2
        go_ret
        exact ⟨ret_bool (decide_eq_false (fun h => allIn_not hkl (by rw [HX.out]; have := H1.out; omega) h.2)).symm, (by repeat (first | exact Ext.refl _ | assumption | refine Ext.alloc ?_ _ | refine Ext.drewN ?_ _ | refine ext_grow ?_ _ _ | refine Ext.trans ?_ (by assumption)))⟩
      · by_cases h2 : 255 < x
        · have H2 := Lib.hid h2
          go_wp2
          go_ret
          exact ⟨ret_bool (decide_eq_false (fun h => allIn_not hkl (by rw [HX.out]; have := H2.out; omega) h.2)).symm, (by repeat (first | exact Ext.refl _ | assumption | refine Ext.alloc ?_ _ | refine Ext.drewN ?_ _ | refine ext_grow ?_ _ _ | refine Ext.trans ?_ (by assumption)))⟩
        · have H1 := Lib.hid (show 0 ≤ x ∧ x ≤ 255 by omega)
          go_wp2
          go_round
          case rel => exact ⟨k + 1, by omega, by go_num, Lib.hid ((allIn_snoc hkl).2 ⟨hI.out, by rw [HX.out]; exact H1.out⟩)⟩
          case measure => simp [intOf]; omega
    · go_wp2
      go_ret
      have := hI.out
      rw [List.take_of_length_le (by omega)] at this
      exact ⟨ret_bool (decide_eq_true ((Img.camera_iff m).2 ⟨HS.out, this⟩)).symm, (by repeat (first | exact Ext.refl _ | assumption | refine Ext.alloc ?_ _ | refine Ext.drewN ?_ _ | refine ext_grow ?_ _ _ | refine Ext.trans ?_ (by assumption)))⟩
/-- the least of a list -/
def minI (l : List Int) : Nat → Int
  | 0 => l.getD 0 0
  | k + 1 => min (minI l k) (l.getD (k + 1) 0)
theorem minI_in (l : List Int) : ∀ k, ∃ j ≤ k, minI l k = l.getD j 0
  | 0 => ⟨0, Nat.le_refl _, rfl⟩
  | k + 1 => by
    obtain ⟨j, hj, e⟩ := minI_in l k
    rcases Int.le_total (minI l k) (l.getD (k + 1) 0) with h | h
    · exact ⟨j, by omega, (Int.min_eq_left h).trans e⟩
    · exact ⟨k + 1, Nat.le_refl _, Int.min_eq_right h⟩
theorem minI_all (l : List Int) : ∀ k, ∀ j ≤ k, minI l k ≤ l.getD j 0
  | 0, j, h => by obtain rfl : j = 0 := by omega
                  exact Int.le_refl _
  | k + 1, j, h => by
    rcases Nat.lt_or_ge k j with h9 | h9
    · obtain rfl : j = k + 1 := by omega
      exact Int.min_le_right _ _
    · exact Int.le_trans (Int.min_le_left _ _) (minI_all l k j h9)
set_option maxRecDepth 100000 in
set_option maxHeartbeats 4000000 in
theorem c_minI (v : Value) (l : List Int) (w : World) (hv : IntsAt w v l) (hl : 1 ≤ l.length) (hm : l.length ≤ 1000) :
    Calls Try.prog 30 #[v] w fun e w' => e = .returned (.int .i64 (minI l (l.length - 1))) ∧ w = w' := by
  obtain ⟨ao, cap, rfl, -, hc⟩ := hv.form
  have c00 := hc 0 (by omega)
  have HC := Lib.hid hc
  clear hc hv
  obtain ⟨b0, off0, rfl, c0⟩ := c00
  obtain ⟨x0, hx0⟩ : ∃ x, l.getD 0 0 = x := ⟨_, rfl⟩
  rw [hx0, Nat.add_zero] at c0
  have HX := Lib.hid hx0
  clear hx0
  have q0 : ¬ ((l.length : Int) < 1) := by omega
  go_enter Try.func30, Try.ntmps30
  go_wp2
  go_loop [3, 4] (fun m i => ∃ k : Nat, k + 1 ≤ l.length ∧ i = .int .i64 ((k + 1 : Nat) : Int) ∧ m = .int .i64 (minI l k)) (fun _ i => l.length - (intOf i).toNat)
  case atStart => exact ⟨0, hl, rfl, by rw [← HX.out]; rfl⟩
  case round =>
    obtain ⟨k, hk, rfl, rfl⟩ := hrel
    by_cases hkl : k + 1 < l.length
    · obtain ⟨b, off, hbo, c1⟩ := HC.out (k + 1) hkl
      obtain ⟨rfl, rfl⟩ : b0 = b ∧ off0 = off := by injection hbo with h; injection h with h1 h2; exact ⟨h1, h2⟩
      have HM := Lib.hid (show minI l (k + 1) = min (minI l k) (l.getD (k + 1) 0) from rfl)
      obtain ⟨x, hx⟩ : ∃ x, l.getD (k + 1) 0 = x := ⟨_, rfl⟩
      rw [hx] at c1 HM
      obtain ⟨m, hm'⟩ : ∃ m, minI l k = m := ⟨_, rfl⟩
      rw [hm'] at HM ⊢
      have HH := Lib.hid (And.intro hx hm')
      clear hx hm' hbo
      go_wp2
      all_goals
        go_round
        case rel => exact ⟨k + 1, by omega, by go_num, by rw [HM.out]; first | rfl | (congr 1; omega)⟩
        case measure => simp [intOf]; omega
    · obtain rfl : k = l.length - 1 := by omega
      go_wp2
      go_ret
      exact ⟨rfl, rfl⟩
/-- the greatest of a list -/
def maxI (l : List Int) : Nat → Int
  | 0 => l.getD 0 0
  | k + 1 => max (maxI l k) (l.getD (k + 1) 0)
theorem maxI_in (l : List Int) : ∀ k, ∃ j ≤ k, maxI l k = l.getD j 0
  | 0 => ⟨0, Nat.le_refl _, rfl⟩
  | k + 1 => by
    obtain ⟨j, hj, e⟩ := maxI_in l k
    rcases Int.le_total (maxI l k) (l.getD (k + 1) 0) with h | h
    · exact ⟨k + 1, Nat.le_refl _, Int.max_eq_right h⟩
    · exact ⟨j, by omega, (Int.max_eq_left h).trans e⟩
theorem maxI_all (l : List Int) : ∀ k, ∀ j ≤ k, l.getD j 0 ≤ maxI l k
  | 0, j, h => by obtain rfl : j = 0 := by omega
                  exact Int.le_refl _
  | k + 1, j, h => by
    rcases Nat.lt_or_ge k j with h9 | h9
    · obtain rfl : j = k + 1 := by omega
      exact Int.le_max_right _ _
    · exact Int.le_trans (maxI_all l k j h9) (Int.le_max_left _ _)
set_option maxRecDepth 100000 in
set_option maxHeartbeats 4000000 in
theorem c_maxI (v : Value) (l : List Int) (w : World) (hv : IntsAt w v l) (hl : 1 ≤ l.length) (hm : l.length ≤ 1000) :
    Calls Try.prog 31 #[v] w fun e w' => e = .returned (.int .i64 (maxI l (l.length - 1))) ∧ w = w' := by
  obtain ⟨ao, cap, rfl, -, hc⟩ := hv.form
  have c00 := hc 0 (by omega)
  have HC := Lib.hid hc
  clear hc hv
  obtain ⟨b0, off0, rfl, c0⟩ := c00
  obtain ⟨x0, hx0⟩ : ∃ x, l.getD 0 0 = x := ⟨_, rfl⟩
  rw [hx0, Nat.add_zero] at c0
  have HX := Lib.hid hx0
  clear hx0
  have q0 : ¬ ((l.length : Int) < 1) := by omega
  go_enter Try.func31, Try.ntmps31
  go_wp2
  go_loop [3, 4] (fun m i => ∃ k : Nat, k + 1 ≤ l.length ∧ i = .int .i64 ((k + 1 : Nat) : Int) ∧ m = .int .i64 (maxI l k)) (fun _ i => l.length - (intOf i).toNat)
  case atStart => exact ⟨0, hl, rfl, by rw [← HX.out]; rfl⟩
  case round =>
    obtain ⟨k, hk, rfl, rfl⟩ := hrel
    by_cases hkl : k + 1 < l.length
    · obtain ⟨b, off, hbo, c1⟩ := HC.out (k + 1) hkl
      obtain ⟨rfl, rfl⟩ : b0 = b ∧ off0 = off := by injection hbo with h; injection h with h1 h2; exact ⟨h1, h2⟩
      have HM := Lib.hid (show maxI l (k + 1) = max (maxI l k) (l.getD (k + 1) 0) from rfl)
      obtain ⟨x, hx⟩ : ∃ x, l.getD (k + 1) 0 = x := ⟨_, rfl⟩
      rw [hx] at c1 HM
      obtain ⟨m, hm'⟩ : ∃ m, maxI l k = m := ⟨_, rfl⟩
      rw [hm'] at HM ⊢
      have HH := Lib.hid (And.intro hx hm')
      clear hx hm' hbo
      go_wp2
      all_goals
        go_round
        case rel => exact ⟨k + 1, by omega, by go_num, by rw [HM.out]; first | rfl | (congr 1; omega)⟩
        case measure => simp [intOf]; omega
    · obtain rfl : k = l.length - 1 := by omega
      go_wp2
      go_ret
      exact ⟨rfl, rfl⟩
theorem allIn_ext {l : List Int} (hl : 1 ≤ l.length) : allIn 0 255 l ↔ 0 ≤ minI l (l.length - 1) ∧ maxI l (l.length - 1) ≤ 255 := by
  constructor
  · intro h
    obtain ⟨j, hj, e⟩ := minI_in l (l.length - 1)
    obtain ⟨i, hi, e2⟩ := maxI_in l (l.length - 1)
    rw [e, e2, List.getD_eq_getElem?_getD, List.getElem?_eq_getElem (by omega), List.getD_eq_getElem?_getD, List.getElem?_eq_getElem (by omega)]
    exact ⟨(h _ (List.getElem_mem _)).1, (h _ (List.getElem_mem _)).2⟩
  · rintro ⟨h1, h2⟩ n hn
    obtain ⟨j, hj, rfl⟩ := List.getElem_of_mem hn
    have a := minI_all l (l.length - 1) j (by omega)
    have b := maxI_all l (l.length - 1) j (by omega)
    rw [List.getD_eq_getElem?_getD, List.getElem?_eq_getElem hj] at a b
    simp only [Option.getD_some] at a b
    omega
set_option maxHeartbeats 2000000 in
theorem c_camera (m : Img) (v : Value) (w : World) (hv : IntsAt w v m.pix) (hl : m.pix.length ≤ maxLen) :
    Calls Try.prog 22 #[imgVal m v] w fun e w' => e = .returned (.bool (decide m.Camera)) ∧ Ext w w' := by
  have HV := Lib.hid hv
  obtain ⟨ao, cap, rfl, -, -⟩ := hv.form
  have K := Lib.hid (fun w' (h : Ext w w') => c_imgCheck m _ w' (HV.out.ext h) hl)
  unfold imgVal at K ⊢
  clear hv
  by_cases hs : m.Valid
  case neg =>
    have hk : checkImg m = 20 := if_neg hs
    rw [hk] at K
    have HS := Lib.hid hs
    clear hs hk
    go_enter Try.func22, Try.ntmps22
    go_wp2_with (go_at_call 29; (with_reducible refine (K.out _ (by repeat (first | exact Ext.refl _ | assumption | refine Ext.alloc ?_ _ | refine Ext.drewN ?_ _ | refine ext_grow ?_ _ _ | refine Ext.trans ?_ (by assumption)))).mono ?_); rintro e w1 ⟨rfl, hb⟩; have hc := hb.cell; have hf := hb.frozen; have hz := hb.size)
    go_ret
    exact ⟨ret_bool (decide_eq_false (fun h => HS.out ((Img.camera_iff m).1 h).1)).symm, (by repeat (first | exact Ext.refl _ | assumption | refine Ext.alloc ?_ _ | refine Ext.drewN ?_ _ | refine ext_grow ?_ _ _ | refine Ext.trans ?_ (by assumption)))⟩
  have hk : checkImg m = 0 := if_pos hs
  have hb := Img.len_bd hs.1
  have hx := allIn_ext hb.1
  rw [hk] at K
  have HS := Lib.hid hs
  have K1 := Lib.hid (fun w' (h : Ext w w') => c_minI _ m.pix w' (HV.out.ext h) hb.1 (by omega))
  have K2 := Lib.hid (fun w' (h : Ext w w') => c_maxI _ m.pix w' (HV.out.ext h) hb.1 (by omega))
  obtain ⟨lo, hlo⟩ : ∃ lo, minI m.pix (m.pix.length - 1) = lo := ⟨_, rfl⟩
  obtain ⟨hi, hhi⟩ : ∃ hi, maxI m.pix (m.pix.length - 1) = hi := ⟨_, rfl⟩
  rw [hlo, hhi] at hx
  rw [hlo] at K1
  rw [hhi] at K2
  have HC := Lib.hid (show m.Camera ↔ 0 ≤ lo ∧ hi ≤ 255 from (Img.camera_iff m).trans ⟨fun h => hx.1 h.2, fun h => ⟨hs, hx.2 h⟩⟩)
  clear hs hk hx hlo hhi hb
  by_cases h1 : 0 ≤ lo
  case neg =>
    have H1 := Lib.hid h1
    go_enter Try.func22, Try.ntmps22
    go_wp2_with (first
      | (go_at_call 29; (with_reducible refine (K.out _ (by repeat (first | exact Ext.refl _ | assumption | refine Ext.alloc ?_ _ | refine Ext.drewN ?_ _ | refine ext_grow ?_ _ _ | refine Ext.trans ?_ (by assumption)))).mono ?_); rintro e w1 ⟨rfl, hb⟩; have hc := hb.cell; have hf := hb.frozen; have hz := hb.size)
      | (go_at_call 30; (with_reducible refine (K1.out _ (by repeat (first | exact Ext.refl _ | assumption | refine Ext.alloc ?_ _ | refine Ext.drewN ?_ _ | refine ext_grow ?_ _ _ | refine Ext.trans ?_ (by assumption)))).mono ?_); rintro e w2 ⟨rfl, rfl⟩))
    go_ret
    exact ⟨ret_bool (decide_eq_false (fun h => by have h8 := H1.out; have h9 := (HC.out.1 h).1; omega)).symm, (by repeat (first | exact Ext.refl _ | assumption | refine Ext.alloc ?_ _ | refine Ext.drewN ?_ _ | refine ext_grow ?_ _ _ | refine Ext.trans ?_ (by assumption)))⟩
  by_cases h2 : hi ≤ 255
  case neg =>
    have H2 := Lib.hid h2
    have H1 := Lib.hid h1
    go_enter Try.func22, Try.ntmps22
    go_wp2_with (first
      | (go_at_call 29; (with_reducible refine (K.out _ (by repeat (first | exact Ext.refl _ | assumption | refine Ext.alloc ?_ _ | refine Ext.drewN ?_ _ | refine ext_grow ?_ _ _ | refine Ext.trans ?_ (by assumption)))).mono ?_); rintro e w1 ⟨rfl, hb⟩; have hc := hb.cell; have hf := hb.frozen; have hz := hb.size)
      | (go_at_call 30; (with_reducible refine (K1.out _ (by repeat (first | exact Ext.refl _ | assumption | refine Ext.alloc ?_ _ | refine Ext.drewN ?_ _ | refine ext_grow ?_ _ _ | refine Ext.trans ?_ (by assumption)))).mono ?_); rintro e w2 ⟨rfl, rfl⟩)
      | (go_at_call 31; (with_reducible refine (K2.out _ (by repeat (first | exact Ext.refl _ | assumption | refine Ext.alloc ?_ _ | refine Ext.drewN ?_ _ | refine ext_grow ?_ _ _ | refine Ext.trans ?_ (by assumption)))).mono ?_); rintro e w2 ⟨rfl, rfl⟩))
    go_ret
    exact ⟨ret_bool (decide_eq_decide.2 ⟨fun h => HC.out.2 ⟨H1.out, h⟩, fun h => (HC.out.1 h).2⟩), (by repeat (first | exact Ext.refl _ | assumption | refine Ext.alloc ?_ _ | refine Ext.drewN ?_ _ | refine ext_grow ?_ _ _ | refine Ext.trans ?_ (by assumption)))⟩
  have H := Lib.hid (And.intro h1 h2)
  go_enter Try.func22, Try.ntmps22
  go_wp2_with (first
    | (go_at_call 29; (with_reducible refine (K.out _ (by repeat (first | exact Ext.refl _ | assumption | refine Ext.alloc ?_ _ | refine Ext.drewN ?_ _ | refine ext_grow ?_ _ _ | refine Ext.trans ?_ (by assumption)))).mono ?_); rintro e w1 ⟨rfl, hb⟩; have hc := hb.cell; have hf := hb.frozen; have hz := hb.size)
    | (go_at_call 30; (with_reducible refine (K1.out _ (by repeat (first | exact Ext.refl _ | assumption | refine Ext.alloc ?_ _ | refine Ext.drewN ?_ _ | refine ext_grow ?_ _ _ | refine Ext.trans ?_ (by assumption)))).mono ?_); rintro e w2 ⟨rfl, rfl⟩)
    | (go_at_call 31; (with_reducible refine (K2.out _ (by repeat (first | exact Ext.refl _ | assumption | refine Ext.alloc ?_ _ | refine Ext.drewN ?_ _ | refine ext_grow ?_ _ _ | refine Ext.trans ?_ (by assumption)))).mono ?_); rintro e w2 ⟨rfl, rfl⟩))
  go_ret
  exact ⟨ret_bool (decide_eq_true (HC.out.2 H.out)).symm, (by repeat (first | exact Ext.refl _ | assumption | refine Ext.alloc ?_ _ | refine Ext.drewN ?_ _ | refine ext_grow ?_ _ _ | refine Ext.trans ?_ (by assumption)))⟩
structure Con where
  lo : Int
  hi : Int
def conVal (c : Con) : Value := .agg #[.int .i64 c.lo, .int .i64 c.hi]
def Con.Ok (c : Con) : Prop := 0 ≤ c.lo ∧ c.lo < c.hi ∧ c.hi ≤ 255
instance (c : Con) : Decidable c.Ok := by unfold Con.Ok; infer_instance
set_option maxHeartbeats 1000000 in
theorem c_contrast (c : Con) (w : World) : Calls Try.prog 23 #[conVal c] w fun e w' => e = .returned (.bool (decide c.Ok)) ∧ Ext w w' := by
  unfold conVal
  obtain ⟨a, b⟩ := c
  go_enter Try.func23, Try.ntmps23
  go_wp2
  all_goals (go_ret; refine ⟨ret_bool ?_, (by repeat (first | exact Ext.refl _ | assumption | refine Ext.alloc ?_ _ | refine Ext.drewN ?_ _ | refine ext_grow ?_ _ _ | refine Ext.trans ?_ (by assumption)))⟩; first | (symm; refine decide_eq_false ?_; unfold Con.Ok; dsimp only; omega) | (refine decide_eq_decide.2 ?_; unfold Con.Ok; dsimp only; omega))
set_option maxHeartbeats 1000000 in
theorem r_contrast (c : Con) (w : World) : Calls Try.prog 27 #[conVal c] w fun e w' => e = .returned (.bool (decide c.Ok)) ∧ Ext w w' := by
  unfold conVal
  obtain ⟨a, b⟩ := c
  go_enter Try.func27, Try.ntmps27
  go_wp2
  all_goals (go_ret; refine ⟨ret_bool ?_, (by repeat (first | exact Ext.refl _ | assumption | refine Ext.alloc ?_ _ | refine Ext.drewN ?_ _ | refine ext_grow ?_ _ _ | refine Ext.trans ?_ (by assumption)))⟩; first | (symm; refine decide_eq_false ?_; unfold Con.Ok; dsimp only; omega) | (refine decide_eq_decide.2 ?_; unfold Con.Ok; dsimp only; omega))
end Go.Proofs.Ytlnofbdhamingaa
