/- The walks of the reference's Make and Neg. -/
import Derived.Test.YtodoimeiklilhaaDoorRefFit
set_option linter.unusedVariables false
set_option linter.unusedSimpArgs false
namespace Go.Proofs.YtodoimeiklilhaaDoor
open Go.RowKit Go.Sort

theorem signed_div {n d : Int} (d0 : d ≠ 0) : mkRat (signed (n.sign * d.sign) n.natAbs) d.natAbs = Rat.divInt n d := by
  have h : (d.natAbs : Int) ≠ 0 := by omega
  rw [← Rat.divInt_ofNat, Rat.divInt_eq_divInt_iff h d0]
  unfold signed
  rcases Int.lt_trichotomy n 0 with hn | hn | hn
  · rcases Int.lt_or_lt_of_ne d0 with hd | hd
    · rw [Int.sign_eq_neg_one_of_neg hn, Int.sign_eq_neg_one_of_neg hd, if_neg (by omega)]
      rw [show (n.natAbs : Int) = -n by omega, show (d.natAbs : Int) = -d by omega]; grind
    · rw [Int.sign_eq_neg_one_of_neg hn, Int.sign_eq_one_of_pos hd, if_pos (by omega)]
      rw [show (n.natAbs : Int) = -n by omega, show (d.natAbs : Int) = d by omega]; grind
  · subst hn
    simp
  · rcases Int.lt_or_lt_of_ne d0 with hd | hd
    · rw [Int.sign_eq_one_of_pos hn, Int.sign_eq_neg_one_of_neg hd, if_pos (by omega)]
      rw [show (n.natAbs : Int) = n by omega, show (d.natAbs : Int) = -d by omega]; grind
    · rw [Int.sign_eq_one_of_pos hn, Int.sign_eq_one_of_pos hd, if_neg (by omega)]
      rw [show (n.natAbs : Int) = n by omega, show (d.natAbs : Int) = d by omega]
/-- what 'fit' makes of what 'Lowest' answers is the answer -/
theorem fit_answer (q : Rat) : (if decide ((answer q).2 = 0) = true then ((answer q).1, (0 : Int)) else (⟨0, 0⟩, 4)) = answer q := by
  unfold answer
  by_cases h : Fits q
  · rw [if_pos h]; rfl
  · rw [if_neg h]; rfl
theorem pair_small {n : Nat} (h : n ≤ 9223372036854775808) : pairV n = .agg #[.int .u64 0, .int .u64 (n : Int)] := by
  have e1 : hiW n = 0 := by unfold hiW; omega
  have e2 : loW n = n := by unfold loW; omega
  unfold pairV
  rw [e1, e2]; rfl
theorem abs_small {n : Int} (h : InI64 n) : n.natAbs ≤ 9223372036854775808 := by unfold InI64 at h; omega
theorem sign_small (n : Int) : -1 ≤ n.sign ∧ n.sign ≤ 1 := by
  rcases Int.lt_trichotomy n 0 with h | h | h
  · rw [Int.sign_eq_neg_one_of_neg h]; omega
  · rw [h]; decide
  · rw [Int.sign_eq_one_of_pos h]; omega
theorem sign_mul_small (n d : Int) : -1 ≤ n.sign * d.sign ∧ n.sign * d.sign ≤ 1 := by
  rw [← Int.sign_mul]; exact sign_small _
set_option maxRecDepth 100000 in
set_option maxHeartbeats 4000000 in
theorem r_Make (num den : Int) (hn : InI64 num) (hd : InI64 den) (w : World) :
    Calls Tryd.prog 83 #[.int .i64 num, .int .i64 den] w fun E w' => E = .returned (fansV (makeR num den)) ∧ Ext w w' := by
  by_cases h0 : den = 0
  · rw [show makeR num den = (⟨0, 0⟩, 10) from if_pos h0]
    have t : (den == 0) = true := by simpa using h0
    clear h0 hn hd
    go_enter Tryd.func83, Tryd.ntmps83
    go_wp2
    refine bodyPost_ret (RT.results_row2 rfl _ _ (w.heap.size) 23 #[.int .i64 0, .int .i64 0] (0, 0) _ rfl (one_first _ _) Tryd.underlying23 rfl info_frac) rfl ?_
    exact ⟨rfl, (by repeat (first | exact Ext.refl _ | assumption | refine Ext.alloc ?_ _ | refine Ext.drewN ?_ _ | refine ext_grow ?_ _ _ | refine Ext.setCell ?_ (by first | exact Nat.le_refl _ | omega | (simp; done) | (simp; omega)) _ | refine Ext.trans ?_ (by assumption)))⟩
  · have t : (den == 0) = false := by simpa using h0
    have bn := abs_small hn
    have bd := abs_small hd
    have cl := fun w => r_Lowest (num.sign * den.sign) num.natAbs den.natAbs (by unfold W127; omega) (by unfold W127; omega) (by omega) w
    rw [signed_div h0, pair_small bn, pair_small bd] at cl
    have em : makeR num den = answer (Rat.divInt num den) := if_neg h0
    have cf := fun w => r_fit (answer (Rat.divInt num den)).1 (decide ((answer (Rat.divInt num den)).2 = 0)) w
    rw [fit_answer] at cf
    rw [em]
    have cn := fun w => r_size num hn w
    have cd := fun w => r_size den hd w
    have sn := fun w => r_sign num w
    have sd := fun w => r_sign den w
    obtain ⟨m1, m2⟩ := sign_mul_small num den
    obtain ⟨⟨⟨rn, rd⟩, re⟩, hr⟩ : ∃ r, answer (Rat.divInt num den) = r := ⟨_, rfl⟩
    obtain ⟨b, hb⟩ : ∃ b, decide ((answer (Rat.divInt num den)).2 = 0) = b := ⟨_, rfl⟩
    rw [hb] at cl cf
    rw [hr] at cl cf ⊢
    generalize num.natAbs = N at *
    generalize den.natAbs = D at *
    generalize num.sign = s1 at *
    generalize den.sign = s2 at *
    have CL := Lib.hid cl
    have CF := Lib.hid cf
    have CN := Lib.hid cn
    have CD := Lib.hid cd
    have SN := Lib.hid sn
    have SD := Lib.hid sd
    clear cl cf cn cd sn sd em hb hr bn bd hn hd h0
    go_enter Tryd.func83, Tryd.ntmps83
    go_wp2_with (first | (go_at_call 100; (with_reducible refine (SN.out _).mono ?_); rintro E w1 ⟨rfl, hb1⟩; have B1 := Lib.hid (hb1.blk (one_first _ _)); have E1 := Lib.hid (((Ext.refl w).alloc _).trans hb1)) | (go_at_call 100; (with_reducible refine (SD.out _).mono ?_); rintro E w2 ⟨rfl, hb2⟩; have B2 := Lib.hid (hb2.blk B1.out); have E2 := Lib.hid (E1.out.trans hb2)) | (go_at_call 81; (with_reducible refine (CN.out _).mono ?_); rintro E w3 ⟨rfl, hb3⟩; have B3 := Lib.hid (hb3.blk B2.out); have E3 := Lib.hid (E2.out.trans hb3)) | (go_at_call 81; (with_reducible refine (CD.out _).mono ?_); rintro E w4 ⟨rfl, hb4⟩; have B4 := Lib.hid (hb4.blk B3.out); have E4 := Lib.hid (E3.out.trans hb4)) | (go_at_call 99; (with_reducible refine (CL.out _).mono ?_); rintro E w5 ⟨rfl, hb5⟩; have B5 := Lib.hid (hb5.blk B4.out); have E5 := Lib.hid (E4.out.trans hb5)) | (go_at_call 98; (with_reducible refine (CF.out _).mono ?_); rintro E w6 ⟨rfl, hb6⟩; have B6 := Lib.hid (hb6.blk B5.out); have E6 := Lib.hid (E5.out.trans hb6); obtain ⟨c0, c1, f0, f1⟩ := run_pair B6.out))
    refine bodyPost_ret (RT.results_row2 rfl _ _ (w.heap.size) 23 _ (0, 0) _ rfl (store_pair B6.out).1 Tryd.underlying23 rfl info_frac) rfl ?_
    exact ⟨rfl, (store_pair B6.out).2.2 w (Nat.le_refl _) E6.out⟩
set_option maxHeartbeats 1000000 in
theorem r_Neg (a : Frac) (w : World) :
    Calls Tryd.prog 76 #[fracV a] w fun E w' => E = .returned (fracV ⟨wrap64 (-a.num), a.den⟩) ∧ Ext w w' := by
  obtain ⟨n, d⟩ := a
  go_enter Tryd.func76, Tryd.ntmps76
  go_wp2
  refine bodyPost_ret (RT.results_row1 rfl _ _ (w.heap.size + 1) 23 #[.int .i64 (wrap64 (-n)), .int .i64 d] (0, 0) _ rfl (two_second _ _ _) Tryd.underlying23 rfl info_frac) rfl ?_
  exact ⟨rfl, (by repeat (first | exact Ext.refl _ | assumption | refine Ext.alloc ?_ _ | refine Ext.drewN ?_ _ | refine ext_grow ?_ _ _ | refine Ext.setCell ?_ (by first | exact Nat.le_refl _ | omega | (simp; done) | (simp; omega)) _ | refine Ext.trans ?_ (by assumption)))⟩
end Go.Proofs.YtodoimeiklilhaaDoor
