/- The walks of math/bits.Div64, in full, and of the division of a number of two words by a word. -/
import Derived.Test.YtodoimeiklilhaaDoorDivWalk
import Derived.Lib.ItoaNum
import Derived.Test.YtodoimeiklilhaaDoorOrder
set_option linter.unusedVariables false
set_option linter.unusedSimpArgs false
namespace Go.Proofs.YtodoimeiklilhaaDoor
open Go.RowKit Go.Sort

theorem div_wrap {u d Q Y v : Nat} (h : Y * Q + v = u * 4294967296 + d) (hv : v < 18446744073709551616) :
    IntKind.u64.wrap (IntKind.u64.wrap (IntKind.u64.wrap ((u : Int) * 4294967296) + (d : Int)) - IntKind.u64.wrap ((Q : Int) * (Y : Int))) = (v : Int) := by
  rw [wrap_u64_eq, wrap_u64_eq, wrap_u64_eq, wrap_u64_eq]
  have e : (Q : Int) * (Y : Int) = ((Y * Q : Nat) : Int) := by rw [Nat.mul_comm]; exact (Int.natCast_mul _ _).symm
  rw [e]
  generalize Y * Q = P at *
  omega
theorem join_wrap {a b : Nat} (ha : a < 4294967296) (hb : b < 4294967296) : IntKind.u64.wrap (IntKind.u64.wrap ((a : Int) * 4294967296) + (b : Int)) = ((a * 4294967296 + b : Nat) : Int) := by
  rw [wrap_u64_eq, wrap_u64_eq]
  omega
theorem c_div64_small (lo y : Nat) (hy0 : 0 < y) (hlo : W64 lo) (w : World) :
    Calls Tryd.prog 93 #[.int .u64 0, .int .u64 (lo : Int), .int .u64 (y : Int)] w fun e w' => e = .returned (.tuple #[.int .u64 ((lo / y : Nat) : Int), .int .u64 ((lo % y : Nat) : Int)]) ∧ Ext w w' := by
  have b1 : ((y : Int) == 0) = false := by simp; omega
  have b2 : decide ((y : Int) ≤ 0) = false := by simp; omega
  have b3 : ¬ (y : Int) = 0 := by omega
  have b4 : ¬ y = 0 := by omega
  have q1 : IntKind.u64.wrap ((lo : Int) / (y : Int)) = (lo : Int) / (y : Int) := w64_in (Nat.lt_of_le_of_lt (Nat.div_le_self _ _) hlo)
  set_option maxRecDepth 100000 in
  go_enter Tryd.func93, Tryd.ntmps93
  go_wp2
  go_quiet (fail)
  go_wp2
  go_ret2
  exact ⟨rfl, (by repeat (first | exact Ext.refl _ | assumption | refine Ext.alloc ?_ _ | refine Ext.drewN ?_ _ | refine ext_grow ?_ _ _ | refine Ext.setCell ?_ (by first | exact Nat.le_refl _ | omega | (simp; done) | (simp; omega)) _ | refine Ext.trans ?_ (by assumption)))⟩
theorem c_div64 (hi lo y : Nat) (hy : W64 y) (hlo : W64 lo) (h : hi < y) (w : World) :
    Calls Tryd.prog 93 #[.int .u64 (hi : Int), .int .u64 (lo : Int), .int .u64 (y : Int)] w fun e w' => e = .returned (.tuple #[.int .u64 (((hi * 18446744073709551616 + lo) / y : Nat) : Int), .int .u64 (((hi * 18446744073709551616 + lo) % y : Nat) : Int)]) ∧ Ext w w' := by
  rcases Nat.eq_zero_or_pos hi with h0 | h0
  · subst h0
    rw [show 0 * 18446744073709551616 + lo = lo by omega]
    exact c_div64_small lo y h hlo w
  · have hy2 : y < 2 ^ 64 := hy
    obtain ⟨l1, l2, l3⟩ := Lib.bitLenAux_bounds 64 y hy2 (by omega)
    have l4 := Lib.bitLen_le y 64 (by omega) hy2
    obtain ⟨n, hn⟩ : ∃ n, Lib.bitLenAux 64 y = n := ⟨_, rfl⟩
    have hn' : Lib.bitLen y = n := hn
    rw [hn] at l1 l2 l3
    rw [hn'] at l4
    obtain ⟨s, hs⟩ : ∃ s, s = 64 - n := ⟨_, rfl⟩
    have hs64 : s < 64 := by omega
    have hlz : ∀ w, Calls Tryd.prog 110 #[.int .u64 (y : Int)] w fun e w' => e = .returned (.int .i64 (s : Int)) ∧ w' = w := by
      intro w
      have := Tryd.bits_LeadingZeros64 (y : Int) w (by omega) (by unfold W64 at hy; omega)
      rw [Int.toNat_natCast, hn', show (64 : Int) - (n : Int) = (s : Int) by omega] at this
      exact this
    have p1 : (2 : Nat) ^ (n - 1) * 2 ^ s = 9223372036854775808 := by rw [← Nat.pow_add, show n - 1 + s = 63 by omega]
    have p2 : (2 : Nat) ^ n * 2 ^ s = 18446744073709551616 := by rw [← Nat.pow_add, show n + s = 64 by omega]
    have sp : 0 < (2 : Nat) ^ s := Nat.two_pow_pos s
    have y1' : 9223372036854775808 ≤ y * 2 ^ s := by rw [← p1]; exact Nat.mul_le_mul_right _ l2
    have y2' : y * 2 ^ s < 18446744073709551616 := by rw [← p2]; exact (Nat.mul_lt_mul_right sp).2 l3
    have hX := split_high (hi := hi) (lo := lo) (s := s) (by omega)
    have u1 : hi * 2 ^ s + lo / 2 ^ (64 - s) < y * 2 ^ s := by
      have h1 : lo / 2 ^ (64 - s) < 2 ^ s := by
        rw [Nat.div_lt_iff_lt_mul (Nat.two_pow_pos _), ← Nat.pow_add, show s + (64 - s) = 64 by omega]
        exact hlo
      have h2 : (hi + 1) * 2 ^ s ≤ y * 2 ^ s := Nat.mul_le_mul_right _ h
      rw [Nat.add_mul] at h2
      omega
    have hhi : hi * 2 ^ s < 18446744073709551616 := Nat.lt_of_le_of_lt (Nat.le_add_right _ _) (Nat.lt_trans u1 y2')
    have eor := or_high hs64 hlo (show W64 (hi * 2 ^ s) from hhi)
    have pc : ((2 : Int) ^ s) = ((2 ^ s : Nat) : Int) := by simp
    have pc2 : ((2 : Int) ^ (64 - s)) = ((2 ^ (64 - s) : Nat) : Int) := by simp
    obtain ⟨Y, hY⟩ : ∃ Y, y * 2 ^ s = Y := ⟨_, rfl⟩
    obtain ⟨u, hu⟩ : ∃ u, hi * 2 ^ s + lo / 2 ^ (64 - s) = u := ⟨_, rfl⟩
    obtain ⟨L, hL⟩ : ∃ L, lo * 2 ^ s % 18446744073709551616 = L := ⟨_, rfl⟩
    rw [hY] at y1' y2' u1
    rw [hu] at u1
    rw [hu, hL] at hX
    have hL2 : L < 18446744073709551616 := by rw [← hL]; exact Nat.mod_lt _ (by omega)
    have hYe : Y / 4294967296 * 4294967296 + Y % 4294967296 = Y := by omega
    have hLe : L = L / 4294967296 * 4294967296 + L % 4294967296 := by omega
    have hYp : 0 < Y := by omega
    obtain ⟨v, hv⟩ : ∃ v, (u * 4294967296 + L / 4294967296) % Y = v := ⟨_, rfl⟩
    obtain ⟨R, hR⟩ : ∃ R, (v * 4294967296 + L % 4294967296) % Y = R := ⟨_, rfl⟩
    have hvY : v < Y := by rw [← hv]; exact Nat.mod_lt _ hYp
    have hRY : R < Y := by rw [← hR]; exact Nat.mod_lt _ hYp
    have dq1 : digOf u (L / 4294967296) (Y / 4294967296) (Y % 4294967296) = (u * 4294967296 + L / 4294967296) / Y := by unfold digOf; rw [hYe]
    have dq2 : digOf v (L % 4294967296) (Y / 4294967296) (Y % 4294967296) = (v * 4294967296 + L % 4294967296) / Y := by unfold digOf; rw [hYe]
    have q1lt : digOf u (L / 4294967296) (Y / 4294967296) (Y % 4294967296) < 4294967296 := by rw [dq1]; exact dig_lt u1 (by omega)
    have q2lt : digOf v (L % 4294967296) (Y / 4294967296) (Y % 4294967296) < 4294967296 := by rw [dq2]; exact dig_lt hvY (by omega)
    obtain ⟨f1, f2⟩ := long_div (X := hi * 18446744073709551616 + lo) (y := y) (S := 2 ^ s) (by omega) sp hY.symm hX hLe dq1 hv.symm dq2 hR.symm
    rw [f1, f2]
    refine div64_core hi lo y s Y (Y / 4294967296) (Y % 4294967296) u L (L / 4294967296) (L % 4294967296) _ _ v R hs64 w hlz (by simp; omega) (by simp; omega) (by simp; omega) (by simp; omega) ?_ rfl (and_low y2') ?_ ?_ rfl (and_low hL2) ?_ ?_ ?_ ?_ ?_ ?_ ?_ ?_ ?_ ?_ ?_ ?_ ?_ ?_
    · rw [pc]; exact w_eq (by rw [← hY]; exact (Int.natCast_mul _ _).symm) y2'
    · rw [pc, pc2, show IntKind.u64.wrap ((hi : Int) * ((2 ^ s : Nat) : Int)) = ((hi * 2 ^ s : Nat) : Int) from w_eq (Int.natCast_mul _ _).symm hhi]
      rw [← hu]
      exact eor
    · rw [pc]
      refine w_mod ?_
      rw [← hL, ← Int.natCast_mul]
      rfl
    · have : ¬ Y / 4294967296 = 0 := by omega
      simp; omega
    · omega
    · omega
    · exact ⟨by omega, by omega, by omega⟩
    · exact Nat.lt_trans u1 y2'
    · omega
    · exact show L / 4294967296 < 4294967296 by omega
    · exact show L % 4294967296 < 4294967296 by omega
    · exact Nat.lt_trans hvY y2'
    · omega
    · refine div_wrap ?_ (Nat.lt_trans hvY y2')
      rw [dq1, ← hv]
      exact Nat.div_add_mod _ _
    · refine div_wrap ?_ (Nat.lt_trans hRY y2')
      rw [dq2, ← hR]
      exact Nat.div_add_mod _ _
    · exact join_wrap q1lt q2lt
    · rw [pc]
      rfl
theorem info_pair : (Tryd.prog.info? 85).map (·.size) = some 2 := by kernel_rfl
theorem mul_parts {x d A R : Nat} (hd : 0 < d) (e : x = d * A + R) : x / d = A + R / d ∧ x % d = R % d := by
  subst e
  exact ⟨Nat.mul_add_div hd _ _, Nat.mul_add_mod _ _ _⟩
theorem div_hi {x d : Nat} (hd : 0 < d) : x / d = hiW x / d * 18446744073709551616 + (hiW x % d * 18446744073709551616 + loW x) / d ∧ x % d = (hiW x % d * 18446744073709551616 + loW x) % d := by
  have h1 := pair_eta x
  have h2 := Nat.div_add_mod (hiW x) d
  have e : x = d * (hiW x / d * 18446744073709551616) + (hiW x % d * 18446744073709551616 + loW x) := by
    have h3 : (d * (hiW x / d) + hiW x % d) * 18446744073709551616 = hiW x * 18446744073709551616 := by rw [h2]
    rw [Nat.add_mul, Nat.mul_assoc] at h3
    omega
  exact mul_parts hd e
set_option maxRecDepth 100000 in
set_option maxHeartbeats 1000000 in
theorem c_div (x d : Nat) (hx : W128 x) (hd : W64 d) (h0 : 0 < d) (w : World) :
    Calls Tryd.prog 70 #[pairV x, .int .u64 (d : Int)] w fun e w' => e = .returned (.tuple #[pairV (x / d), .int .u64 ((x % d : Nat) : Int)]) ∧ Ext w w' := by
  obtain ⟨e1, e2⟩ := div_hi (x := x) h0
  have hq : (hiW x % d * 18446744073709551616 + loW x) / d < 18446744073709551616 := by
    rw [Nat.div_lt_iff_lt_mul h0]
    have h1 := Nat.mod_lt (hiW x) h0
    have h2 := loW_64 x
    unfold W64 at h2
    generalize hiW x % d = m at *
    omega
  have f12 : hiW (x / d) = hiW x / d ∧ loW (x / d) = (hiW x % d * 18446744073709551616 + loW x) / d := by
    rw [e1]
    generalize (hiW x % d * 18446744073709551616 + loW x) / d = B at *
    generalize hiW x / d = A at *
    unfold hiW loW
    omega
  obtain ⟨f1, f2⟩ := f12
  have b1 : ((d : Int) == 0) = false := by simp; omega
  have b3 : ¬ (d : Int) = 0 := by omega
  have b4 : ¬ d = 0 := by omega
  have q1 : IntKind.u64.wrap ((hiW x : Int) / (d : Int)) = (hiW x : Int) / (d : Int) := w64_in (Nat.lt_of_le_of_lt (Nat.div_le_self _ _) (hiW_64 hx))
  have cd : ∀ w, Calls Tryd.prog 93 #[.int .u64 ((hiW x : Int) % (d : Int)), .int .u64 (loW x : Int), .int .u64 (d : Int)] w fun e w' => e = .returned (.tuple #[.int .u64 (loW (x / d) : Int), .int .u64 ((x % d : Nat) : Int)]) ∧ Ext w w' := by
    intro w
    have := c_div64 (hiW x % d) (loW x) d hd (loW_64 x) (Nat.mod_lt _ h0) w
    rw [← e2, ← f2] at this
    exact this
  have CD := Lib.hid cd
  have F1 := Lib.hid f1
  clear cd e1 e2 f1 f2 hq
  go_enter Tryd.func70, Tryd.ntmps70
  go_wp2
  go_quiet (fail)
  go_wp2_with (go_at_call 93; refine (Ext.lift (CD.out _) (by first | assumption | exact Ext.alloc (by assumption) _ | exact Ext.refl _)).mono ?_; rintro e w' ⟨rfl, hb⟩; have hc := hb.cell; have hf := hb.frozen)
  refine bodyPost_ret (RT.results_row2 rfl _ _ (w.heap.size + 1) 85 _ (0, 0) _ rfl (store_pair (hb.blk (two_second w _ _))).1 Tryd.underlying85 rfl info_pair) rfl ?_
  refine ⟨ret_val ?_, (store_pair (hb.blk (two_second w _ _))).2.2 w (by omega) (by repeat (first | exact Ext.refl _ | assumption | refine Ext.alloc ?_ _ | refine Ext.drewN ?_ _ | refine ext_grow ?_ _ _ | refine Ext.setCell ?_ (by first | exact Nat.le_refl _ | omega | (simp; done) | (simp; omega)) _ | refine Ext.trans ?_ (by assumption)))⟩
  show Value.tuple #[.agg #[.int .u64 ((hiW x : Int) / (d : Int)), _], _] = _
  rw [show (hiW x : Int) / (d : Int) = (hiW (x / d) : Int) by rw [F1.out]; rfl]
  rfl
end Go.Proofs.YtodoimeiklilhaaDoor
