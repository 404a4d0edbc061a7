/- Joined from the parts CamFn, SeeFn. -/
import Derived.Test.YtlnofbdhamingaaDoorGDraw
import Derived.Test.YtlnofbdhamingaaDoorTail
set_option linter.unusedVariables false
set_option linter.unusedSimpArgs false
/- Camera images, pixels and contrasts: the program's functions and the reference's. -/
namespace Go.Proofs.YtlnofbdhamingaaDoor
open Go.RowKit Go.Sort

set_option maxHeartbeats 1000000 in
theorem rwithin_same (n lo hi : Int) (w : World) :
    Calls Tryd.prog 123 #[.int .i64 n, .int .i64 lo, .int .i64 hi] w fun e w' => e = .returned (.bool (decide (lo ≤ n ∧ n ≤ hi))) ∧ w = w' := by
  go_enter Tryd.func123, Tryd.ntmps123
  go_wp2
  all_goals (go_ret; refine ⟨ret_bool ?_, rfl⟩; simp; omega)
set_option maxHeartbeats 1000000 in
theorem r_At (m : Img) (v : Value) (x y : Int) (w : World) (hm : m.Sized) (hi : m.In x y) (hv : IntsAt w v m.pix) :
    Calls Tryd.prog 111 #[imgVal m v, .int .i64 x, .int .i64 y] w fun e w' => e = .returned (.int .i64 (m.at x y)) ∧ Ext w w' := by
  obtain ⟨i1, i2, i3, i4⟩ := Img.idx hm hi
  obtain ⟨k1, k2⟩ := Img.len_bd hm
  obtain ⟨ao, cap, rfl, ⟨g1, g2⟩, hc⟩ := hv.form
  obtain ⟨b, off, rfl, c0⟩ := hc (y * m.w + x).toNat (by omega)
  have hx : m.pix.getD (y * m.w + x).toNat 0 = m.at x y := rfl
  rw [hx] at c0
  have z0 := World.block_lt_of_cell? _ _ c0
  simp only at z0
  obtain ⟨h1, h2⟩ := hi
  unfold imgVal
  obtain ⟨r, hr⟩ : ∃ r, m.at x y = r := ⟨_, rfl⟩
  rw [hr] at c0 ⊢
  have HC := Lib.hid hc
  clear hr hx hc hv hm
  go_enter Tryd.func111, Tryd.ntmps111
  go_wp2
  go_ret
  exact ⟨rfl, (by repeat (first | exact Ext.refl _ | assumption | refine Ext.alloc ?_ _ | refine Ext.drewN ?_ _ | refine ext_grow ?_ _ _ | refine Ext.trans ?_ (by assumption)))⟩
set_option maxHeartbeats 2000000 in
theorem r_Valid (m : Img) (v : Value) (w : World) (hv : IntsAt w v m.pix) (hl : m.pix.length ≤ maxLen) :
    Calls Tryd.prog 103 #[imgVal m v] w fun e w' => e = .returned (.bool (decide m.Valid)) ∧ Ext w w' := by
  obtain ⟨ao, cap, rfl, -, hc⟩ := hv.form
  have HC := Lib.hid hc
  have hlm : m.pix.length ≤ 9223372036854775807 := hl
  unfold imgVal
  clear hv hc
  by_cases hs : 1 ≤ m.w ∧ m.w ≤ 16
  case neg =>
    have q1 : decide (1 ≤ m.w ∧ m.w ≤ 16) = false := decide_eq_false hs
    have HS := Lib.hid hs
    clear hs
    go_enter Tryd.func103, Tryd.ntmps103
    go_wp2_with (go_at_call 123; (with_reducible refine (rwithin_same _ _ _ _).mono ?_); rintro e w' ⟨rfl, rfl⟩)
    go_ret
    exact ⟨ret_bool (decide_eq_false (fun h => HS.out h.1.1)).symm, (by repeat (first | exact Ext.refl _ | assumption | refine Ext.alloc ?_ _ | refine Ext.drewN ?_ _ | refine ext_grow ?_ _ _ | refine Ext.trans ?_ (by assumption)))⟩
  by_cases ht : 1 ≤ m.h ∧ m.h ≤ 16
  case neg =>
    have q1 : decide (1 ≤ m.w ∧ m.w ≤ 16) = true := decide_eq_true hs
    have q2 : decide (1 ≤ m.h ∧ m.h ≤ 16) = false := decide_eq_false ht
    have HS := Lib.hid ht
    clear hs ht
    go_enter Tryd.func103, Tryd.ntmps103
    go_wp2_with (go_at_call 123; (with_reducible refine (rwithin_same _ _ _ _).mono ?_); rintro e w' ⟨rfl, rfl⟩)
    go_ret
    exact ⟨ret_bool (decide_eq_false (fun h => HS.out h.1.2.1)).symm, (by repeat (first | exact Ext.refl _ | assumption | refine Ext.alloc ?_ _ | refine Ext.drewN ?_ _ | refine ext_grow ?_ _ _ | refine Ext.trans ?_ (by assumption)))⟩
  obtain ⟨p1, p2⟩ := mul_side ⟨hs, ht⟩
  have q1 : decide (1 ≤ m.w ∧ m.w ≤ 16) = true := decide_eq_true hs
  have q2 : decide (1 ≤ m.h ∧ m.h ≤ 16) = true := decide_eq_true ht
  have HS := Lib.hid hs
  have HT := Lib.hid ht
  clear hs ht
  by_cases hn : (m.pix.length : Int) = m.w * m.h
  case neg =>
    have q3 : ((m.pix.length : Int) != m.w * m.h) = true := by simpa using hn
    have HN := Lib.hid hn
    clear hn
    go_enter Tryd.func103, Tryd.ntmps103
    go_wp2_with (go_at_call 123; (with_reducible refine (rwithin_same _ _ _ _).mono ?_); rintro e w' ⟨rfl, rfl⟩)
    go_ret
    exact ⟨ret_bool (decide_eq_false (fun h => HN.out h.1.2.2)).symm, (by repeat (first | exact Ext.refl _ | assumption | refine Ext.alloc ?_ _ | refine Ext.drewN ?_ _ | refine ext_grow ?_ _ _ | refine Ext.trans ?_ (by assumption)))⟩
  have q3 : ((m.pix.length : Int) != m.w * m.h) = false := by simpa using hn
  have HN := Lib.hid hn
  clear hn
  go_enter Tryd.func103, Tryd.ntmps103
  go_wp2_with (go_at_call 123; (with_reducible refine (rwithin_same _ _ _ _).mono ?_); rintro e w' ⟨rfl, rfl⟩)
  go_loop [3] (fun i => ∃ k : Nat, k ≤ m.pix.length ∧ i = .int .i64 (k : Int) ∧ Hid (allIn (-2147483648) 2147483648 (m.pix.take k))) (fun i => m.pix.length - (intOf i).toNat)
  case atStart => exact ⟨0, Nat.zero_le _, rfl, Lib.hid (fun n hn => by simp at hn)⟩
  case round =>
    obtain ⟨k, hk, rfl, hI⟩ := hrel
    by_cases hkl : k < m.pix.length
    · obtain ⟨b, off, rfl, c0⟩ := HC.out k hkl
      obtain ⟨x, hx⟩ : ∃ x, m.pix.getD k 0 = x := ⟨_, rfl⟩
      rw [hx] at c0
      have HX := Lib.hid hx
      have z0 := World.block_lt_of_cell? _ _ c0
      simp only at z0
      clear hx
      by_cases h1 : -2147483648 ≤ x ∧ x ≤ 2147483648
      · have q4 : decide (-2147483648 ≤ x ∧ x ≤ 2147483648) = true := decide_eq_true h1
        have H1 := Lib.hid h1
        clear h1
        go_wp2_with (go_at_call 123; (with_reducible refine (rwithin_same _ _ _ _).mono ?_); rintro e w' ⟨rfl, rfl⟩)
        go_round
        case rel => exact ⟨k + 1, by omega, by go_num, Lib.hid ((allIn_snoc hkl).2 ⟨hI.out, by rw [HX.out]; exact H1.out⟩)⟩
        case measure => simp [intOf]; omega
      · have q4 : decide (-2147483648 ≤ x ∧ x ≤ 2147483648) = false := decide_eq_false h1
        have H1 := Lib.hid h1
        clear h1
        go_wp2_with (go_at_call 123; (with_reducible refine (rwithin_same _ _ _ _).mono ?_); rintro e w' ⟨rfl, rfl⟩)
        go_ret
        exact ⟨ret_bool (decide_eq_false (fun h => allIn_not hkl (by rw [HX.out]; exact H1.out) h.2)).symm, (by repeat (first | exact Ext.refl _ | assumption | refine Ext.alloc ?_ _ | refine Ext.drewN ?_ _ | refine ext_grow ?_ _ _ | refine Ext.trans ?_ (by assumption)))⟩
    · go_wp2
      go_ret
      have := hI.out
      rw [List.take_of_length_le (by omega)] at this
      exact ⟨ret_bool (decide_eq_true ⟨⟨HS.out, HT.out, HN.out⟩, this⟩).symm, (by repeat (first | exact Ext.refl _ | assumption | refine Ext.alloc ?_ _ | refine Ext.drewN ?_ _ | refine ext_grow ?_ _ _ | refine Ext.trans ?_ (by assumption)))⟩
set_option maxHeartbeats 2000000 in
theorem r_Camera (m : Img) (v : Value) (w : World) (hv : IntsAt w v m.pix) (hl : m.pix.length ≤ maxLen) :
    Calls Tryd.prog 68 #[imgVal m v] w fun e w' => e = .returned (.bool (decide m.Camera)) ∧ Ext w w' := by
  have HV := Lib.hid hv
  obtain ⟨ao, cap, rfl, -, -⟩ := hv.form
  have K := Lib.hid (fun w' (h : Ext w w') => r_Valid m _ w' (HV.out.ext h) hl)
  have hlm : m.pix.length ≤ 9223372036854775807 := hl
  unfold imgVal at K ⊢
  clear hv
  by_cases hs : m.Valid
  case neg =>
    have hk : decide m.Valid = false := decide_eq_false hs
    rw [hk] at K
    have HS := Lib.hid hs
    clear hs hk
    go_enter Tryd.func68, Tryd.ntmps68
    go_wp2_with (go_at_call 103; (with_reducible refine (K.out _ (by repeat (first | exact Ext.refl _ | assumption | refine Ext.alloc ?_ _ | refine Ext.drewN ?_ _ | refine ext_grow ?_ _ _ | refine Ext.trans ?_ (by assumption)))).mono ?_); rintro e w1 ⟨rfl, hb⟩)
    go_ret
    exact ⟨ret_bool (decide_eq_false (fun h => HS.out ((Img.camera_iff m).1 h).1)).symm, (by repeat (first | exact Ext.refl _ | assumption | refine Ext.alloc ?_ _ | refine Ext.drewN ?_ _ | refine ext_grow ?_ _ _ | refine Ext.trans ?_ (by assumption)))⟩
  have hk : decide m.Valid = true := decide_eq_true hs
  rw [hk] at K
  have HS := Lib.hid hs
  clear hs hk
  go_enter Tryd.func68, Tryd.ntmps68
  go_wp2_with (go_at_call 103; (with_reducible refine (K.out _ (by repeat (first | exact Ext.refl _ | assumption | refine Ext.alloc ?_ _ | refine Ext.drewN ?_ _ | refine ext_grow ?_ _ _ | refine Ext.trans ?_ (by assumption)))).mono ?_); rintro e w1 ⟨rfl, hb⟩; have hc := hb.cell; have hf := hb.frozen; have hz := hb.size)
  have hE : Ext w w1 := (by repeat (first | exact Ext.refl _ | assumption | refine Ext.alloc ?_ _ | refine Ext.drewN ?_ _ | refine ext_grow ?_ _ _ | refine Ext.trans ?_ (by assumption)))
  obtain ⟨⟨c0, c1, c2⟩, f0, f1, f2⟩ := run_3 (hb.blk (one_first w _))
  have HV1 := Lib.hid (HV.out.ext hE)
  clear hc hf
  go_loop [3] (fun i => ∃ k : Nat, k ≤ m.pix.length ∧ i = .int .i64 (k : Int) ∧ Hid (allIn 0 255 (m.pix.take k))) (fun i => m.pix.length - (intOf i).toNat)
  case atStart => exact ⟨0, Nat.zero_le _, rfl, Lib.hid (fun n hn => by simp at hn)⟩
  case round =>
    obtain ⟨k, hk, rfl, hI⟩ := hrel
    by_cases hkl : k < m.pix.length
    · obtain ⟨ao2, cap2, he, -, hc2⟩ := HV1.out.form
      injection he with e1 _ e2
      subst e1
      subst e2
      obtain ⟨b, off, rfl, c3⟩ := hc2 k hkl
      obtain ⟨x, hx⟩ : ∃ x, m.pix.getD k 0 = x := ⟨_, rfl⟩
      rw [hx] at c3
      have HX := Lib.hid hx
      clear hx hc2
      by_cases h1 : x < 0
      · have H1 := Lib.hid h1
        go_wp2
        go_ret
        exact ⟨ret_bool (decide_eq_false (fun h => allIn_not hkl (by rw [HX.out]; have := H1.out; omega) h.2)).symm, (by repeat (first | exact Ext.refl _ | assumption | refine Ext.alloc ?_ _ | refine Ext.drewN ?_ _ | refine ext_grow ?_ _ _ | refine Ext.trans ?_ (by assumption)))⟩
      · by_cases h2 : 255 < x
        · have H2 := Lib.hid h2
          go_wp2
          go_ret
          exact ⟨ret_bool (decide_eq_false (fun h => allIn_not hkl (by rw [HX.out]; have := H2.out; omega) h.2)).symm, (by repeat (first | exact Ext.refl _ | assumption | refine Ext.alloc ?_ _ | refine Ext.drewN ?_ _ | refine ext_grow ?_ _ _ | refine Ext.trans ?_ (by assumption)))⟩
        · have H1 := Lib.hid (show 0 ≤ x ∧ x ≤ 255 by omega)
          go_wp2
          go_round
          case rel => exact ⟨k + 1, by omega, by go_num, Lib.hid ((allIn_snoc hkl).2 ⟨hI.out, by rw [HX.out]; exact H1.out⟩)⟩
          case measure => simp [intOf]; omega
    · go_wp2
      go_ret
      have := hI.out
      rw [List.take_of_length_le (by omega)] at this
      exact ⟨ret_bool (decide_eq_true ((Img.camera_iff m).2 ⟨HS.out, this⟩)).symm, (by repeat (first | exact Ext.refl _ | assumption | refine Ext.alloc ?_ _ | refine Ext.drewN ?_ _ | refine ext_grow ?_ _ _ | refine Ext.trans ?_ (by assumption)))⟩
/-- the least of a list -/
def minI (l : List Int) : Nat → Int
  | 0 => l.getD 0 0
  | k + 1 => min (minI l k) (l.getD (k + 1) 0)
theorem minI_in (l : List Int) : ∀ k, ∃ j ≤ k, minI l k = l.getD j 0
  | 0 => ⟨0, Nat.le_refl _, rfl⟩
  | k + 1 => by
    obtain ⟨j, hj, e⟩ := minI_in l k
    rcases Int.le_total (minI l k) (l.getD (k + 1) 0) with h | h
    · exact ⟨j, by omega, (Int.min_eq_left h).trans e⟩
    · exact ⟨k + 1, Nat.le_refl _, Int.min_eq_right h⟩
theorem minI_all (l : List Int) : ∀ k, ∀ j ≤ k, minI l k ≤ l.getD j 0
  | 0, j, h => by obtain rfl : j = 0 := by omega
                  exact Int.le_refl _
  | k + 1, j, h => by
    rcases Nat.lt_or_ge k j with h9 | h9
    · obtain rfl : j = k + 1 := by omega
      exact Int.min_le_right _ _
    · exact Int.le_trans (Int.min_le_left _ _) (minI_all l k j h9)
set_option maxRecDepth 100000 in
set_option maxHeartbeats 4000000 in
theorem c_minI (v : Value) (l : List Int) (w : World) (hv : IntsAt w v l) (hl : 1 ≤ l.length) (hm : l.length ≤ 1000) :
    Calls Tryd.prog 101 #[v] w fun e w' => e = .returned (.int .i64 (minI l (l.length - 1))) ∧ w = w' := by
  obtain ⟨ao, cap, rfl, -, hc⟩ := hv.form
  have c00 := hc 0 (by omega)
  have HC := Lib.hid hc
  clear hc hv
  obtain ⟨b0, off0, rfl, c0⟩ := c00
  obtain ⟨x0, hx0⟩ : ∃ x, l.getD 0 0 = x := ⟨_, rfl⟩
  rw [hx0, Nat.add_zero] at c0
  have HX := Lib.hid hx0
  clear hx0
  have q0 : ¬ ((l.length : Int) < 1) := by omega
  go_enter Tryd.func101, Tryd.ntmps101
  go_wp2
  go_loop [3, 4] (fun m i => ∃ k : Nat, k + 1 ≤ l.length ∧ i = .int .i64 ((k + 1 : Nat) : Int) ∧ m = .int .i64 (minI l k)) (fun _ i => l.length - (intOf i).toNat)
  case atStart => exact ⟨0, hl, rfl, by rw [← HX.out]; rfl⟩
  case round =>
    obtain ⟨k, hk, rfl, rfl⟩ := hrel
    by_cases hkl : k + 1 < l.length
    · obtain ⟨b, off, hbo, c1⟩ := HC.out (k + 1) hkl
      obtain ⟨rfl, rfl⟩ : b0 = b ∧ off0 = off := by injection hbo with h; injection h with h1 h2; exact ⟨h1, h2⟩
      have HM := Lib.hid (show minI l (k + 1) = min (minI l k) (l.getD (k + 1) 0) from rfl)
      obtain ⟨x, hx⟩ : ∃ x, l.getD (k + 1) 0 = x := ⟨_, rfl⟩
      rw [hx] at c1 HM
      obtain ⟨m, hm'⟩ : ∃ m, minI l k = m := ⟨_, rfl⟩
      rw [hm'] at HM ⊢
      have HH := Lib.hid (And.intro hx hm')
      clear hx hm' hbo
      go_wp2
      all_goals
        go_round
        case rel => exact ⟨k + 1, by omega, by go_num, by rw [HM.out]; first | rfl | (congr 1; omega)⟩
        case measure => simp [intOf]; omega
    · obtain rfl : k = l.length - 1 := by omega
      go_wp2
      go_ret
      exact ⟨rfl, rfl⟩
/-- the greatest of a list -/
def maxI (l : List Int) : Nat → Int
  | 0 => l.getD 0 0
  | k + 1 => max (maxI l k) (l.getD (k + 1) 0)
theorem maxI_in (l : List Int) : ∀ k, ∃ j ≤ k, maxI l k = l.getD j 0
  | 0 => ⟨0, Nat.le_refl _, rfl⟩
  | k + 1 => by
    obtain ⟨j, hj, e⟩ := maxI_in l k
    rcases Int.le_total (maxI l k) (l.getD (k + 1) 0) with h | h
    · exact ⟨k + 1, Nat.le_refl _, Int.max_eq_right h⟩
    · exact ⟨j, by omega, (Int.max_eq_left h).trans e⟩
theorem maxI_all (l : List Int) : ∀ k, ∀ j ≤ k, l.getD j 0 ≤ maxI l k
  | 0, j, h => by obtain rfl : j = 0 := by omega
                  exact Int.le_refl _
  | k + 1, j, h => by
    rcases Nat.lt_or_ge k j with h9 | h9
    · obtain rfl : j = k + 1 := by omega
      exact Int.le_max_right _ _
    · exact Int.le_trans (maxI_all l k j h9) (Int.le_max_left _ _)
set_option maxRecDepth 100000 in
set_option maxHeartbeats 4000000 in
theorem c_maxI (v : Value) (l : List Int) (w : World) (hv : IntsAt w v l) (hl : 1 ≤ l.length) (hm : l.length ≤ 1000) :
    Calls Tryd.prog 102 #[v] w fun e w' => e = .returned (.int .i64 (maxI l (l.length - 1))) ∧ w = w' := by
  obtain ⟨ao, cap, rfl, -, hc⟩ := hv.form
  have c00 := hc 0 (by omega)
  have HC := Lib.hid hc
  clear hc hv
  obtain ⟨b0, off0, rfl, c0⟩ := c00
  obtain ⟨x0, hx0⟩ : ∃ x, l.getD 0 0 = x := ⟨_, rfl⟩
  rw [hx0, Nat.add_zero] at c0
  have HX := Lib.hid hx0
  clear hx0
  have q0 : ¬ ((l.length : Int) < 1) := by omega
  go_enter Tryd.func102, Tryd.ntmps102
  go_wp2
  go_loop [3, 4] (fun m i => ∃ k : Nat, k + 1 ≤ l.length ∧ i = .int .i64 ((k + 1 : Nat) : Int) ∧ m = .int .i64 (maxI l k)) (fun _ i => l.length - (intOf i).toNat)
  case atStart => exact ⟨0, hl, rfl, by rw [← HX.out]; rfl⟩
  case round =>
    obtain ⟨k, hk, rfl, rfl⟩ := hrel
    by_cases hkl : k + 1 < l.length
    · obtain ⟨b, off, hbo, c1⟩ := HC.out (k + 1) hkl
      obtain ⟨rfl, rfl⟩ : b0 = b ∧ off0 = off := by injection hbo with h; injection h with h1 h2; exact ⟨h1, h2⟩
      have HM := Lib.hid (show maxI l (k + 1) = max (maxI l k) (l.getD (k + 1) 0) from rfl)
      obtain ⟨x, hx⟩ : ∃ x, l.getD (k + 1) 0 = x := ⟨_, rfl⟩
      rw [hx] at c1 HM
      obtain ⟨m, hm'⟩ : ∃ m, maxI l k = m := ⟨_, rfl⟩
      rw [hm'] at HM ⊢
      have HH := Lib.hid (And.intro hx hm')
      clear hx hm' hbo
      go_wp2
      all_goals
        go_round
        case rel => exact ⟨k + 1, by omega, by go_num, by rw [HM.out]; first | rfl | (congr 1; omega)⟩
        case measure => simp [intOf]; omega
    · obtain rfl : k = l.length - 1 := by omega
      go_wp2
      go_ret
      exact ⟨rfl, rfl⟩
theorem allIn_ext {l : List Int} (hl : 1 ≤ l.length) : allIn 0 255 l ↔ 0 ≤ minI l (l.length - 1) ∧ maxI l (l.length - 1) ≤ 255 := by
  constructor
  · intro h
    obtain ⟨j, hj, e⟩ := minI_in l (l.length - 1)
    obtain ⟨i, hi, e2⟩ := maxI_in l (l.length - 1)
    rw [e, e2, List.getD_eq_getElem?_getD, List.getElem?_eq_getElem (by omega), List.getD_eq_getElem?_getD, List.getElem?_eq_getElem (by omega)]
    exact ⟨(h _ (List.getElem_mem _)).1, (h _ (List.getElem_mem _)).2⟩
  · rintro ⟨h1, h2⟩ n hn
    obtain ⟨j, hj, rfl⟩ := List.getElem_of_mem hn
    have a := minI_all l (l.length - 1) j (by omega)
    have b := maxI_all l (l.length - 1) j (by omega)
    rw [List.getD_eq_getElem?_getD, List.getElem?_eq_getElem hj] at a b
    simp only [Option.getD_some] at a b
    omega
set_option maxHeartbeats 2000000 in
theorem c_camera (m : Img) (v : Value) (w : World) (hv : IntsAt w v m.pix) (hl : m.pix.length ≤ maxLen) :
    Calls Tryd.prog 65 #[imgVal m v] w fun e w' => e = .returned (.bool (decide m.Camera)) ∧ Ext w w' := by
  have HV := Lib.hid hv
  obtain ⟨ao, cap, rfl, -, -⟩ := hv.form
  have K := Lib.hid (fun w' (h : Ext w w') => c_imgCheck m _ w' (HV.out.ext h) hl)
  unfold imgVal at K ⊢
  clear hv
  by_cases hs : m.Valid
  case neg =>
    have hk : checkImg m = 20 := if_neg hs
    rw [hk] at K
    have HS := Lib.hid hs
    clear hs hk
    go_enter Tryd.func65, Tryd.ntmps65
    go_wp2_with (go_at_call 100; (with_reducible refine (K.out _ (by repeat (first | exact Ext.refl _ | assumption | refine Ext.alloc ?_ _ | refine Ext.drewN ?_ _ | refine ext_grow ?_ _ _ | refine Ext.trans ?_ (by assumption)))).mono ?_); rintro e w1 ⟨rfl, hb⟩; have hc := hb.cell; have hf := hb.frozen; have hz := hb.size)
    go_ret
    exact ⟨ret_bool (decide_eq_false (fun h => HS.out ((Img.camera_iff m).1 h).1)).symm, (by repeat (first | exact Ext.refl _ | assumption | refine Ext.alloc ?_ _ | refine Ext.drewN ?_ _ | refine ext_grow ?_ _ _ | refine Ext.trans ?_ (by assumption)))⟩
  have hk : checkImg m = 0 := if_pos hs
  have hb := Img.len_bd hs.1
  have hx := allIn_ext hb.1
  rw [hk] at K
  have HS := Lib.hid hs
  have K1 := Lib.hid (fun w' (h : Ext w w') => c_minI _ m.pix w' (HV.out.ext h) hb.1 (by omega))
  have K2 := Lib.hid (fun w' (h : Ext w w') => c_maxI _ m.pix w' (HV.out.ext h) hb.1 (by omega))
  obtain ⟨lo, hlo⟩ : ∃ lo, minI m.pix (m.pix.length - 1) = lo := ⟨_, rfl⟩
  obtain ⟨hi, hhi⟩ : ∃ hi, maxI m.pix (m.pix.length - 1) = hi := ⟨_, rfl⟩
  rw [hlo, hhi] at hx
  rw [hlo] at K1
  rw [hhi] at K2
  have HC := Lib.hid (show m.Camera ↔ 0 ≤ lo ∧ hi ≤ 255 from (Img.camera_iff m).trans ⟨fun h => hx.1 h.2, fun h => ⟨hs, hx.2 h⟩⟩)
  clear hs hk hx hlo hhi hb
  by_cases h1 : 0 ≤ lo
  case neg =>
    have H1 := Lib.hid h1
    go_enter Tryd.func65, Tryd.ntmps65
    go_wp2_with (first
      | (go_at_call 100; (with_reducible refine (K.out _ (by repeat (first | exact Ext.refl _ | assumption | refine Ext.alloc ?_ _ | refine Ext.drewN ?_ _ | refine ext_grow ?_ _ _ | refine Ext.trans ?_ (by assumption)))).mono ?_); rintro e w1 ⟨rfl, hb⟩; have hc := hb.cell; have hf := hb.frozen; have hz := hb.size)
      | (go_at_call 101; (with_reducible refine (K1.out _ (by repeat (first | exact Ext.refl _ | assumption | refine Ext.alloc ?_ _ | refine Ext.drewN ?_ _ | refine ext_grow ?_ _ _ | refine Ext.trans ?_ (by assumption)))).mono ?_); rintro e w2 ⟨rfl, rfl⟩))
    go_ret
    exact ⟨ret_bool (decide_eq_false (fun h => by have h8 := H1.out; have h9 := (HC.out.1 h).1; omega)).symm, (by repeat (first | exact Ext.refl _ | assumption | refine Ext.alloc ?_ _ | refine Ext.drewN ?_ _ | refine ext_grow ?_ _ _ | refine Ext.trans ?_ (by assumption)))⟩
  by_cases h2 : hi ≤ 255
  case neg =>
    have H2 := Lib.hid h2
    have H1 := Lib.hid h1
    go_enter Tryd.func65, Tryd.ntmps65
    go_wp2_with (first
      | (go_at_call 100; (with_reducible refine (K.out _ (by repeat (first | exact Ext.refl _ | assumption | refine Ext.alloc ?_ _ | refine Ext.drewN ?_ _ | refine ext_grow ?_ _ _ | refine Ext.trans ?_ (by assumption)))).mono ?_); rintro e w1 ⟨rfl, hb⟩; have hc := hb.cell; have hf := hb.frozen; have hz := hb.size)
      | (go_at_call 101; (with_reducible refine (K1.out _ (by repeat (first | exact Ext.refl _ | assumption | refine Ext.alloc ?_ _ | refine Ext.drewN ?_ _ | refine ext_grow ?_ _ _ | refine Ext.trans ?_ (by assumption)))).mono ?_); rintro e w2 ⟨rfl, rfl⟩)
      | (go_at_call 102; (with_reducible refine (K2.out _ (by repeat (first | exact Ext.refl _ | assumption | refine Ext.alloc ?_ _ | refine Ext.drewN ?_ _ | refine ext_grow ?_ _ _ | refine Ext.trans ?_ (by assumption)))).mono ?_); rintro e w2 ⟨rfl, rfl⟩))
    go_ret
    exact ⟨ret_bool (decide_eq_decide.2 ⟨fun h => HC.out.2 ⟨H1.out, h⟩, fun h => (HC.out.1 h).2⟩), (by repeat (first | exact Ext.refl _ | assumption | refine Ext.alloc ?_ _ | refine Ext.drewN ?_ _ | refine ext_grow ?_ _ _ | refine Ext.trans ?_ (by assumption)))⟩
  have H := Lib.hid (And.intro h1 h2)
  go_enter Tryd.func65, Tryd.ntmps65
  go_wp2_with (first
    | (go_at_call 100; (with_reducible refine (K.out _ (by repeat (first | exact Ext.refl _ | assumption | refine Ext.alloc ?_ _ | refine Ext.drewN ?_ _ | refine ext_grow ?_ _ _ | refine Ext.trans ?_ (by assumption)))).mono ?_); rintro e w1 ⟨rfl, hb⟩; have hc := hb.cell; have hf := hb.frozen; have hz := hb.size)
    | (go_at_call 101; (with_reducible refine (K1.out _ (by repeat (first | exact Ext.refl _ | assumption | refine Ext.alloc ?_ _ | refine Ext.drewN ?_ _ | refine ext_grow ?_ _ _ | refine Ext.trans ?_ (by assumption)))).mono ?_); rintro e w2 ⟨rfl, rfl⟩)
    | (go_at_call 102; (with_reducible refine (K2.out _ (by repeat (first | exact Ext.refl _ | assumption | refine Ext.alloc ?_ _ | refine Ext.drewN ?_ _ | refine ext_grow ?_ _ _ | refine Ext.trans ?_ (by assumption)))).mono ?_); rintro e w2 ⟨rfl, rfl⟩))
  go_ret
  exact ⟨ret_bool (decide_eq_true (HC.out.2 H.out)).symm, (by repeat (first | exact Ext.refl _ | assumption | refine Ext.alloc ?_ _ | refine Ext.drewN ?_ _ | refine ext_grow ?_ _ _ | refine Ext.trans ?_ (by assumption)))⟩
structure Con where
  lo : Int
  hi : Int
def conVal (c : Con) : Value := .agg #[.int .i64 c.lo, .int .i64 c.hi]
def Con.Ok (c : Con) : Prop := 0 ≤ c.lo ∧ c.lo < c.hi ∧ c.hi ≤ 255
instance (c : Con) : Decidable c.Ok := by unfold Con.Ok; infer_instance
set_option maxHeartbeats 1000000 in
theorem c_contrast (c : Con) (w : World) : Calls Tryd.prog 66 #[conVal c] w fun e w' => e = .returned (.bool (decide c.Ok)) ∧ Ext w w' := by
  unfold conVal
  obtain ⟨a, b⟩ := c
  go_enter Tryd.func66, Tryd.ntmps66
  go_wp2
  all_goals (go_ret; refine ⟨ret_bool ?_, (by repeat (first | exact Ext.refl _ | assumption | refine Ext.alloc ?_ _ | refine Ext.drewN ?_ _ | refine ext_grow ?_ _ _ | refine Ext.trans ?_ (by assumption)))⟩; first | (symm; refine decide_eq_false ?_; unfold Con.Ok; dsimp only; omega) | (refine decide_eq_decide.2 ?_; unfold Con.Ok; dsimp only; omega))
set_option maxHeartbeats 1000000 in
theorem r_contrast (c : Con) (w : World) : Calls Tryd.prog 44 #[conVal c] w fun e w' => e = .returned (.bool (decide c.Ok)) ∧ Ext w w' := by
  unfold conVal
  obtain ⟨a, b⟩ := c
  go_enter Tryd.func44, Tryd.ntmps44
  go_wp2
  all_goals (go_ret; refine ⟨ret_bool ?_, (by repeat (first | exact Ext.refl _ | assumption | refine Ext.alloc ?_ _ | refine Ext.drewN ?_ _ | refine ext_grow ?_ _ _ | refine Ext.trans ?_ (by assumption)))⟩; first | (symm; refine decide_eq_false ?_; unfold Con.Ok; dsimp only; omega) | (refine decide_eq_decide.2 ?_; unfold Con.Ok; dsimp only; omega))
end Go.Proofs.YtlnofbdhamingaaDoor

/- The modules of a camera image: the program's. -/
namespace Go.Proofs.YtlnofbdhamingaaDoor
open Go.RowKit Go.Sort

theorem info_intS : (Tryd.prog.info? 3).map (fun i => (i.zero, i.size, i.bytes)) = some (some (.int .i64 0), 1, 8) := by kernel_rfl
theorem made_ints (n : Nat) : (madeCells (Value.int .i64 0).cells (n * 1)).toList = ints (List.replicate n 0) := by
  rw [Nat.mul_one, ints, List.map_replicate]
  exact toList_madeCells_one _ _
theorem rowK_skip {l : List Nat} {n k : Nat} (hk : k < n) (hn : n = l.length) (h0 : l.getD k 0 = 0) : rowK l n (k + 1) = rowK l n k := by
  have h1 := rowK_get hk hn
  have h2 := rowK_set hk hn
  rw [h0] at h2
  rw [← h2]
  obtain ⟨hlt, e⟩ := List.getElem?_eq_some_iff.1 h1
  have : (Value.int .u8 ((0 : Nat) : Int)) = (rowK l n k)[k] := by rw [e]; rfl
  rw [this, List.set_getElem_self]
theorem ints_set (l : List Int) (k : Nat) (x : Int) : (ints l).set k (.int .i64 x) = ints (l.set k x) := by
  rw [ints, ints, List.map_set]
/-- the two boxes of the walk -/
abbrev boxes (B : Nat) (ww hh : Nat) (pv : Value) (lo hi : Int) : List (Nat × Obj) :=
  [(B, .cells #[.int .i64 (ww : Int), .int .i64 (hh : Int), pv] 44), (B + 1, .cells #[.int .i64 lo, .int .i64 hi] 46)]
theorem boxes_set {w : World} {B ww hh g o : Nat} {pv u : Value} {lo hi : Int} (h : At w (boxes B ww hh pv lo hi)) (hg : B + 1 < g) : At (w.setCell ⟨g, o, none⟩ u) (boxes B ww hh pv lo hi) :=
  ⟨(set_at w g o u B (by omega)).trans (At.at h 0 rfl), (set_at w g o u (B + 1) (by omega)).trans (At.at h 1 rfl), trivial⟩
set_option maxRecDepth 100000 in
set_option maxHeartbeats 8000000 in
theorem c_see (W H S : Nat) (pix : List Int) (v : Value) (c : Con) (w : World) (hv : IntsAt w v pix) (hS : 1 ≤ S ∧ S ≤ 2) (hW : 1 ≤ W ∧ W * S ≤ 16) (hH : 1 ≤ H ∧ H * S ≤ 16) (hl : pix.length = H * S * (W * S)) (hp : allIn 0 255 pix) (hc : c.Ok) :
    Calls Tryd.prog 67 #[imgVal ⟨(W * S : Nat), (H * S : Nat), pix⟩ v, .int .i64 (S : Int), conVal c] w (OwnBytes (seenR pix W H S c.lo c.hi) w) := by
  obtain ⟨i0, hi, hz0, hz1, hz2⟩ := info_parts3 info_intS
  obtain ⟨i1, ki, kz0, kz1, kz2⟩ := info_parts3 info_byte
  obtain ⟨lo, hi'⟩ := c
  have q1 : ((W * S : Nat) : Int) / (S : Int) = W := by rw [Int.natCast_mul]; exact Int.mul_ediv_cancel _ (by omega)
  have q2 : ((H * S : Nat) : Int) / (S : Int) = H := by rw [Int.natCast_mul]; exact Int.mul_ediv_cancel _ (by omega)
  obtain ⟨ww, hww⟩ : ∃ ww, W * S = ww := ⟨_, rfl⟩
  obtain ⟨hh, hhh⟩ : ∃ hh, H * S = hh := ⟨_, rfl⟩
  rw [hww] at q1 hW
  rw [hhh] at q2 hH
  simp only [hww, hhh] at hl ⊢
  have q3 : (ww : Int).tdiv (S : Int) = W := by rw [← q1]; exact Int.tdiv_eq_ediv_of_nonneg (by omega)
  have q4 : (hh : Int).tdiv (S : Int) = H := by rw [← q2]; exact Int.tdiv_eq_ediv_of_nonneg (by omega)
  have HWS := Lib.hid (And.intro hww hhh)
  have HV := Lib.hid hv
  have HP := Lib.hid hp
  have HCO := Lib.hid hc
  unfold imgVal conVal
  obtain ⟨ao, cap, rfl, -, -⟩ := hv.form
  dsimp only
  have hWl : W ≤ 16 := by obtain ⟨h1, h2⟩ := hW; have := Nat.le_mul_of_pos_right W (show 0 < S by omega); omega
  have hHl : H ≤ 16 := by obtain ⟨h1, h2⟩ := hH; have := Nat.le_mul_of_pos_right H (show 0 < S by omega); omega
  have hWH : W * H ≤ 256 := Nat.mul_le_mul hWl hHl
  have HL := Lib.hid hl
  clear hv hp hc hww hhh hl
  obtain ⟨N, hN⟩ : ∃ N, W * H = N := ⟨_, rfl⟩
  have qN : (W : Int) * (H : Int) = (N : Int) := by rw [← hN]; exact (Int.natCast_mul W H).symm
  rw [hN] at hWH
  have hw1 : 1 ≤ ww := by have := HWS.out.1; rw [← this]; exact Nat.mul_pos hW.1 hS.1
  have HN := Lib.hid hN
  have hnl : pix.length ≤ 256 := by rw [HL.out]; exact Nat.mul_le_mul hH.2 hW.2
  clear hN
  go_enter Tryd.func67, Tryd.ntmps67
  go_wp2_with (at_make; refine wpList_make_full _ rfl _ _ 42 rfl w.heap.size 3 i0 (.int .i64 0) 1 Tryd.underlying42 hi hz0 hz1 .i64 .i64 _ _ N rfl rfl rfl rfl (by rw [hz2]; omega) (by unfold maxLen; omega) (Ext.size (((Ext.refl w).alloc _).alloc _)) ?_; intro w1 ho1 hg1; have hA1 : At w1 (boxes w.heap.size ww hh (.slice ao pix.length cap) lo hi') := At.ext (ext_of_grownNone hg1) ⟨heap_alloc2_old w _ _, heap_alloc2_new w _ _, trivial⟩; obtain ⟨⟨c0, c1, c2⟩, -⟩ := run_3 (At.at hA1 0 rfl))
  have hE1 : Ext w w1 := (((Ext.refl w).alloc _).alloc _).grownNone hg1
  rw [made_ints, ← sumsL_zero pix ww S N] at ho1
  have HA1 := Lib.hid hA1
  have HO1 := Lib.hid ho1
  have e2 : ∀ o1 o2 : Obj, ((w.alloc o1).alloc o2).heap.size = w.heap.size + 1 + 1 := fun o1 o2 => (Array.size_push _).trans (congrArg (· + 1) (Array.size_push _))
  rw [e2] at HO1
  clear ho1 hg1 hA1 e2
  clear c0 c1 c2
  go_loopw [28] (fun i wr => ∃ k : Nat, k ≤ pix.length ∧ i = .int .i64 (k : Int) ∧ Ext w wr ∧ Hid (At wr (boxes w.heap.size ww hh (.slice ao pix.length cap) lo hi')) ∧ Hid (wr.ownsRow w.heap.size 3 1 (.slice (some ⟨w.heap.size + 1 + 1, 0, none⟩) N N) N (ints (sumsL pix ww S N k)))) (fun i _ => pix.length - (intOf i).toNat)
  case atStart => exact ⟨0, Nat.zero_le _, rfl, hE1, HA1, HO1⟩
  case round =>
    clear HA1 HO1 hE1
    obtain ⟨k, hk, rfl, hE, hA, hO⟩ := hrel
    obtain ⟨⟨c0, c1, c2⟩, -⟩ := run_3 (At.at hA.out 0 rfl)
    obtain ⟨⟨d0, d1⟩, -⟩ := run_2 (At.at hA.out 1 rfl)
    by_cases hkl : k < pix.length
    · have hkl2 : k < ww * hh := by have := HL.out; rw [Nat.mul_comm] at this; omega
      obtain ⟨ao2, cap2, he, -, hc2⟩ := (HV.out.ext hE).form
      injection he with e1 _ e2
      subst e1
      subst e2
      obtain ⟨b, off, rfl, c3⟩ := hc2 k hkl
      have hx0 := HP.out (pix.getD k 0) (by rw [List.getD_eq_getElem?_getD, List.getElem?_eq_getElem hkl]; exact List.getElem_mem hkl)
      have hcl : cellOf ww S k < N := by
        have h := cellOf_lt (W := W) (H := H) (S := S) (k := k) hS.1 hW.1 (by rw [HWS.out.1, HWS.out.2]; exact hkl2)
        rw [HWS.out.1, HN.out] at h
        exact h
      have HS := Lib.hid (sumsL_succ (pix := pix) hcl)
      have HC := Lib.hid (show cellOf ww S k = k / ww / S * W + k % ww / S by
        unfold cellOf
        rw [← HWS.out.1, Nat.mul_div_cancel _ hS.1])
      have HB := Lib.hid (sumN_bd (f := fun i => if cellOf ww S i = cellOf ww S k then pix.getD i 0 else 0) (b := 255) k (fun i hi => by
        split
        · exact HP.out _ (by rw [List.getD_eq_getElem?_getD, List.getElem?_eq_getElem (by omega)]; exact List.getElem_mem _)
        · omega))
      have r0 : wr.cell? ⟨w.heap.size + 1 + 1, cellOf ww S k, none⟩ = some (.int .i64 (psum pix ww S k (cellOf ww S k))) := by
        rw [hO.out.cellAt _ (by omega), ints_get (by rw [sumsL_length]; exact hcl), sumsL_get hcl]
      have r1 := hO.out.frozenAt (cellOf ww S k)
      have hps : 0 ≤ psum pix ww S k (cellOf ww S k) ∧ psum pix ww S k (cellOf ww S k) ≤ 65280 := by have := HB.out; unfold psum; omega
      obtain ⟨t, ht⟩ : ∃ t, cellOf ww S k = t := ⟨_, rfl⟩
      rw [ht] at r0 r1 hps hcl HS HC
      obtain ⟨y, hy⟩ : ∃ y, psum pix ww S k t = y := ⟨_, rfl⟩
      obtain ⟨x, hx⟩ : ∃ x, pix.getD k 0 = x := ⟨_, rfl⟩
      rw [hy] at r0 hps HS
      rw [hx] at c3 hx0 HS
      have hm1 := Nat.mod_lt k (show 0 < ww by omega)
      have t1 : (k : Int).tdiv (ww : Int) = ((k / ww : Nat) : Int) := by rw [Int.tdiv_eq_ediv_of_nonneg (by omega)]; exact (Int.natCast_ediv k ww).symm
      have t4 : (k : Int).tmod (ww : Int) = ((k % ww : Nat) : Int) := by rw [Int.tmod_eq_emod_of_nonneg (by omega)]; exact (Int.natCast_emod k ww).symm
      have ha : k / ww ≤ k := Nat.div_le_self _ _
      obtain ⟨a, haa⟩ : ∃ a, k / ww = a := ⟨_, rfl⟩
      obtain ⟨d, hdd⟩ : ∃ d, k % ww = d := ⟨_, rfl⟩
      rw [haa] at t1 HC ha
      rw [hdd] at t4 HC hm1
      have t2 : (a : Int).tdiv (S : Int) = ((a / S : Nat) : Int) := by rw [Int.tdiv_eq_ediv_of_nonneg (by omega)]; exact (Int.natCast_ediv a S).symm
      have t5 : (d : Int).tdiv (S : Int) = ((d / S : Nat) : Int) := by rw [Int.tdiv_eq_ediv_of_nonneg (by omega)]; exact (Int.natCast_ediv d S).symm
      have hb : a / S ≤ a := Nat.div_le_self _ _
      have he : d / S ≤ d := Nat.div_le_self _ _
      obtain ⟨a2, ha2⟩ : ∃ a2, a / S = a2 := ⟨_, rfl⟩
      obtain ⟨d2, hd2⟩ : ∃ d2, d / S = d2 := ⟨_, rfl⟩
      rw [ha2] at t2 HC hb
      rw [hd2] at t5 HC he
      obtain ⟨p, hp⟩ : ∃ p, a2 * W = p := ⟨_, rfl⟩
      rw [hp] at HC
      have t3 : (a2 : Int) * (W : Int) = (p : Int) := by rw [← hp]; exact (Int.natCast_mul a2 W).symm
      have t6 : (p : Int) + (d2 : Int) = (t : Int) := by have := HC.out; omega
      have hpt : p ≤ t ∧ d2 ≤ t := by have := HC.out; omega
      have HZ := Lib.hid (And.intro ht (And.intro hy (And.intro hx (And.intro haa (And.intro hdd (And.intro ha2 (And.intro hd2 hp)))))))
      clear ht hy hx haa hdd ha2 hd2 hp hc2 HB
      go_wp2
      refine RG.region_tail (aq := ?aqn) 21 (by kernel_rfl) (by kernel_rfl) (by kernel_rfl) (by kernel_rfl) ?_ ?_
      rotate_left
      · intro wq hEq
        have q0 := hEq.get c0
        have q1 := hEq.get c1
        have q2 := hEq.get c2
        have q3 := hEq.get r0
        have zq := hEq.size
        have z0 := World.block_lt_of_cell? _ _ q0
        have z1 := World.block_lt_of_cell? _ _ q3
        simp only at z0 z1
        simp only [List.take_succ_cons, List.take_zero]
        repeat (go_big_quiet_step (fail))
        refine wpQuiet_nil ?_
        exact rfl
      · intro wt hEt
        simp only [List.drop_succ_cons, List.drop_zero]
        have hAt := Lib.hid (At.ext hEt hA.out)
        have hOt := Lib.hid (owns_ext hO.out hEt)
        have hE9 := Lib.hid (hE.trans hEt)
        have s0 := hEt.get r0
        have s1 := hOt.out.frozenAt t
        clear hEt
        go_wp2
        exact ⟨⟨k + 1, by omega, by go_num, hE9.out.setCell (p := ⟨_, t, none⟩) (Nat.le_succ_of_le (Nat.le_succ _)) _, Lib.hid (boxes_set hAt.out (Nat.lt_succ_self _)), Lib.hid (by
          have h := (hOt.out.stored t (.int .i64 (y + x))).1
          rw [ints_set, HS.out] at h
          exact h)⟩, by simp [intOf]; omega⟩
    · obtain rfl : k = pix.length := by omega
      have HSN : Hid (∀ t, t < N → (seenR pix W H S lo hi').getD t 0 = colR lo hi' S (psum pix ww S pix.length t)) := Lib.hid (fun t ht => by
        rw [seenR_get (by rw [HN.out]; exact ht), HL.out, ← HWS.out.1, ← HWS.out.2])
      have HSL : Hid (N = (seenR pix W H S lo hi').length) := Lib.hid (by rw [seenR_length, HN.out])
      obtain ⟨sn, hsn⟩ : ∃ sn, seenR pix W H S lo hi' = sn := ⟨_, rfl⟩
      rw [hsn] at HSN HSL
      have HSE := Lib.hid hsn
      obtain ⟨sl, hsl⟩ : ∃ sl, sumsL pix ww S N pix.length = sl := ⟨_, rfl⟩
      have HSU : Hid (∀ t, t < N → sl.getD t 0 = psum pix ww S pix.length t) := Lib.hid (fun t ht => by rw [← hsl]; exact sumsL_get ht)
      have HSW : Hid (sl.length = N) := Lib.hid (by rw [← hsl]; exact sumsL_length _ _ _ _ _)
      rw [hsl] at hO
      have HBD : Hid (∀ t, t < N → 0 ≤ sl.getD t 0 ∧ sl.getD t 0 ≤ 65280) := Lib.hid (fun t ht => by
        rw [HSU.out t ht]
        have h := sumN_bd (f := fun i => if cellOf ww S i = t then pix.getD i 0 else 0) (b := 255) pix.length (fun i hi => by
          split
          · exact HP.out _ (by rw [List.getD_eq_getElem?_getD, List.getElem?_eq_getElem hi]; exact List.getElem_mem _)
          · omega)
        unfold psum
        omega)
      have HCB : Hid (0 ≤ lo * (S : Int) ∧ lo * (S : Int) ≤ 510 ∧ 0 ≤ lo * (S : Int) * (S : Int) ∧ lo * (S : Int) * (S : Int) ≤ 1020 ∧ 0 ≤ hi' * (S : Int) ∧ hi' * (S : Int) ≤ 510 ∧ 0 ≤ hi' * (S : Int) * (S : Int) ∧ hi' * (S : Int) * (S : Int) ≤ 1020) := Lib.hid (by
        obtain ⟨h1, h2, h3⟩ := HCO.out
        dsimp only at h1 h2 h3
        rcases (show S = 1 ∨ S = 2 by omega) with rfl | rfl
        · simp only [Int.natCast_one, Int.mul_one]; omega
        · have : ((2 : Nat) : Int) = 2 := rfl
          rw [this]; omega)
      clear hsn hsl d0 d1
      have hsz := hA.out.lt 1 rfl
      go_wp2_with (at_make; refine wpList_make_full _ rfl _ _ 22 rfl w.heap.size 5 i1 (.int .u8 0) 1 Tryd.underlying22 ki kz0 kz1 .i64 .i64 _ _ N rfl rfl rfl rfl (by rw [kz2]; omega) (by unfold maxLen; omega) hE.size ?_; intro w2 ho2 hg2)
      rw [made_zero sn] at ho2
      have hE2 : Ext w w2 := hE.grownNone hg2
      have HA2 := Lib.hid (At.ext (ext_of_grownNone hg2) hA.out)
      have HR2 := Lib.hid (owns_ext hO.out (ext_of_grownNone hg2))
      have HO2 := Lib.hid ho2
      obtain ⟨B2, hB2⟩ : ∃ B2, wr.heap.size = B2 := ⟨_, rfl⟩
      rw [hB2] at HO2 hsz ⊢
      have hlb : w.heap.size + 1 + 1 < B2 := by
        have h : w.heap.size + 1 + 1 < wr.heap.size := (owns_block hO.out (w.heap.size + 1 + 1) rfl).2
        omega
      obtain ⟨wc, hwc⟩ : ∃ wc, wc = w2 := ⟨_, rfl⟩
      clear ho2 hg2 hA hO hB2 hE c0 c1 c2 hwc wc
      go_loopw [60] (fun i wr => ∃ k : Nat, k ≤ N ∧ i = .int .i64 (k : Int) ∧ Ext w wr ∧ Hid (At wr (boxes w.heap.size ww hh (.slice ao pix.length cap) lo hi')) ∧ Hid (wr.ownsRow w.heap.size 3 1 (.slice (some ⟨w.heap.size + 1 + 1, 0, none⟩) N N) N (ints sl)) ∧ Hid (wr.ownsRow w.heap.size 5 1 (.slice (some ⟨B2, 0, none⟩) N N) N (rowK sn N k))) (fun i _ => N - (intOf i).toNat)
      case atStart => exact ⟨0, Nat.zero_le _, rfl, hE2, HA2, HR2, HO2⟩
      case round =>
        clear HA2 HR2 HO2 hE2
        obtain ⟨k, hk, rfl, hE, hA, hR, hO⟩ := hrel
        obtain ⟨⟨d0, d1⟩, -⟩ := run_2 (At.at hA.out 1 rfl)
        by_cases hkN : k < N
        · have c0 : wr.cell? ⟨w.heap.size + 1 + 1, k, none⟩ = some (.int .i64 (sl.getD k 0)) := by rw [hR.out.cellAt k (by omega), ints_get (by rw [HSW.out]; exact hkN)]
          have r0 : wr.cell? ⟨B2, k, none⟩ = some (.int .u8 0) := by rw [hO.out.cellAt k (by omega)]; exact rowK_get hkN HSL.out
          have r1 := hO.out.frozenAt k
          have hbd := HBD.out k hkN
          have HG := Lib.hid (show sn.getD k 0 = colR lo hi' S (sl.getD k 0) by rw [HSN.out k hkN, HSU.out k hkN])
          obtain ⟨x, hx⟩ : ∃ x, sl.getD k 0 = x := ⟨_, rfl⟩
          rw [hx] at c0 hbd HG
          obtain ⟨m1, m2, m3, m4, m5, m6, m7, m8⟩ := HCB.out
          obtain ⟨p1, hp1⟩ : ∃ p, lo * (S : Int) = p := ⟨_, rfl⟩
          obtain ⟨p3, hp3⟩ : ∃ p, hi' * (S : Int) = p := ⟨_, rfl⟩
          have HG2 := HG.out
          unfold colR at HG2
          rw [hp1] at m1 m2 m3 m4 HG2
          rw [hp3] at m5 m6 m7 m8 HG2
          obtain ⟨p2, hp2⟩ : ∃ p, p1 * (S : Int) = p := ⟨_, rfl⟩
          obtain ⟨p4, hp4⟩ : ∃ p, p3 * (S : Int) = p := ⟨_, rfl⟩
          rw [hp2] at m3 m4 HG2
          rw [hp4] at m7 m8 HG2
          have HG3 := Lib.hid HG2
          have HX := Lib.hid hx
          clear HG2 HG hx
          by_cases h1 : x ≤ p2
          · have HV1 := Lib.hid (show sn.getD k 0 = 1 by rw [HG3.out, if_pos h1])
            go_wp2
            exact ⟨⟨k + 1, by omega, by go_num, hE.setCell (p := ⟨_, k, none⟩) (by show w.heap.size ≤ B2; omega) _, Lib.hid (boxes_set hA.out (by omega)), Lib.hid (ownsRow_setCell_other hR.out (fun h9 => absurd (Option.some.inj h9) (by show ¬ w.heap.size + 1 + 1 = B2; omega)) _), Lib.hid (by
              have h := (hO.out.stored k (.int .u8 (sn.getD k 0 : Nat))).1
              rw [rowK_set hkN HSL.out, HV1.out] at h
              exact h)⟩, by simp [intOf]; omega⟩
          · by_cases h2 : x < p4
            · have HV1 := Lib.hid (show sn.getD k 0 = 2 by rw [HG3.out, if_neg h1, if_pos h2])
              go_wp2
              exact ⟨⟨k + 1, by omega, by go_num, hE.setCell (p := ⟨_, k, none⟩) (by show w.heap.size ≤ B2; omega) _, Lib.hid (boxes_set hA.out (by omega)), Lib.hid (ownsRow_setCell_other hR.out (fun h9 => absurd (Option.some.inj h9) (by show ¬ w.heap.size + 1 + 1 = B2; omega)) _), Lib.hid (by
                have h := (hO.out.stored k (.int .u8 (sn.getD k 0 : Nat))).1
                rw [rowK_set hkN HSL.out, HV1.out] at h
                exact h)⟩, by simp [intOf]; omega⟩
            · have HV1 := Lib.hid (show sn.getD k 0 = 0 by rw [HG3.out, if_neg h1, if_neg h2])
              go_wp2
              exact ⟨⟨k + 1, by omega, by go_num, hE, hA, hR, Lib.hid (by rw [rowK_skip hkN HSL.out HV1.out]; exact hO.out)⟩, by simp [intOf]; omega⟩
        · obtain rfl : k = N := by omega
          have ho := hO.out
          have HF := rowK_full (l := sn)
          rw [← HSL.out] at HF
          rw [HF] at ho
          have HO := Lib.hid ho
          clear hO HF ho
          go_wp2
          go_ret
          refine ⟨_, rfl, ?_, hE⟩
          rw [HSE.out, ← HSL.out]
          exact HO.out
end Go.Proofs.YtlnofbdhamingaaDoor
