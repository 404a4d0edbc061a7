/- What the reference's 'Lowest' answers, as a rational number; sign, fit, Neg. -/
import Derived.Test.YtodoimeiklilhaaDoorRefLowest
set_option linter.unusedVariables false
set_option linter.unusedSimpArgs false
namespace Go.Proofs.YtodoimeiklilhaaDoor
open Go.RowKit Go.Sort

/-- a number with a sign -/
def signed (sg : Int) (n : Nat) : Int := if sg < 0 then -(n : Int) else (n : Int)
theorem signed_parts {sg : Int} {n d : Nat} (d0 : 0 < d) : (mkRat (signed sg n) d).num = signed sg (n / Nat.gcd n d) ∧ (mkRat (signed sg n) d).den = d / Nat.gcd n d := by
  have g0 : 0 < Nat.gcd n d := Nat.gcd_pos_of_pos_right _ d0
  obtain ⟨x, hx⟩ := Nat.gcd_dvd_left n d
  obtain ⟨y, hy⟩ := Nat.gcd_dvd_right n d
  have e1 : n / Nat.gcd n d = x := by conv => lhs; arg 1; rw [hx]
                                      exact Nat.mul_div_cancel_left _ g0
  have e2 : d / Nat.gcd n d = y := by conv => lhs; arg 1; rw [hy]
                                      exact Nat.mul_div_cancel_left _ g0
  have hc := Nat.coprime_div_gcd_div_gcd (m := n) (n := d) g0
  rw [e1, e2] at hc
  have y0 : y ≠ 0 := fun k => by rw [k] at hy; simp at hy; omega
  rw [e1, e2]
  refine rat_parts (Nat.ne_of_gt d0) y0 ?_ ?_
  · have : (signed sg x).natAbs = x := by unfold signed; split <;> omega
    rw [this]; exact hc
  · have hx' : (n : Int) = (Nat.gcd n d : Int) * (x : Int) := by rw [← Int.natCast_mul, ← hx]
    have hy' : (d : Int) = (Nat.gcd n d : Int) * (y : Int) := by rw [← Int.natCast_mul, ← hy]
    unfold signed
    generalize (Nat.gcd n d : Int) = G at *
    rw [hy']
    split
    · rw [hx']; grind
    · rw [hx']; grind
theorem r_Lowest (sg : Int) (n d : Nat) (hn : W127 n) (hd : W127 d) (d0 : 0 < d) (w : World) :
    Calls Tryd.prog 99 #[.int .i64 sg, pairV n, pairV d] w fun E w' => E = .returned (.tuple #[fracV (answer (mkRat (signed sg n) d)).1, .bool (decide ((answer (mkRat (signed sg n) d)).2 = 0))]) ∧ Ext w w' := by
  have g0 : 0 < Nat.gcd n d := Nat.gcd_pos_of_pos_right _ d0
  have gd : Nat.gcd n d ≤ d := Nat.gcd_le_right _ d0
  have w1 : W128 n := by unfold W127 at hn; unfold W128; omega
  have w2 : W128 d := by unfold W127 at hd; unfold W128; omega
  obtain ⟨p1, p2⟩ := signed_parts (sg := sg) (n := n) d0
  have hm : ∀ N : Nat, signed sg N = if sg < 0 then -(N : Int) else N := fun N => rfl
  have key := answer_of p1 p2
  refine lowest_walk sg (hiW (n / Nat.gcd n d)) (loW (n / Nat.gcd n d)) (hiW (d / Nat.gcd n d)) (loW (d / Nat.gcd n d)) n d (Nat.gcd n d) (n % Nat.gcd n d) (d % Nat.gcd n d) ((answer (mkRat (signed sg n) d)).1, decide ((answer (mkRat (signed sg n) d)).2 = 0)) (by omega) (by omega) w
    (fun w => r_common n d w1 hd w) (fun w => r_parted n (Nat.gcd n d) w1 g0 (by unfold W127 at hd; omega) w) (fun w => r_parted d (Nat.gcd n d) w2 g0 (by unfold W127 at hd; omega) w) ?_
  rw [key, hm]
  generalize n / Nat.gcd n d = N
  generalize d / Nat.gcd n d = D
  have eN := pair_eta N
  have eD := pair_eta D
  have bN : loW N < 18446744073709551616 := by unfold loW; omega
  have bD : loW D < 18446744073709551616 := by unfold loW; omega
  unfold maxP
  constructor
  · rintro ⟨h1, h2, h3, h4⟩
    have n1 : loW N = N := by omega
    have n2 : loW D = D := by omega
    rw [if_pos (by split <;> omega), n1, n2]
    rfl
  · intro h
    rw [if_neg (by split <;> omega)]
    rfl
set_option maxHeartbeats 1000000 in
theorem r_sign (n : Int) (w : World) :
    Calls Tryd.prog 100 #[.int .i64 n] w fun E w' => E = .returned (.int .i64 n.sign) ∧ Ext w w' := by
  rcases Int.lt_trichotomy n 0 with h | h | h
  · have e : n.sign = -1 := Int.sign_eq_neg_one_of_neg h
    rw [e]
    clear e
    go_enter Tryd.func100, Tryd.ntmps100
    go_wp2
    go_ret
    exact ⟨rfl, (by repeat (first | exact Ext.refl _ | assumption | refine Ext.alloc ?_ _ | refine Ext.drewN ?_ _ | refine ext_grow ?_ _ _ | refine Ext.setCell ?_ (by first | exact Nat.le_refl _ | omega | (simp; done) | (simp; omega)) _ | refine Ext.trans ?_ (by assumption)))⟩
  · subst h
    go_enter Tryd.func100, Tryd.ntmps100
    go_wp2
    go_ret
    exact ⟨rfl, (by repeat (first | exact Ext.refl _ | assumption | refine Ext.alloc ?_ _ | refine Ext.drewN ?_ _ | refine ext_grow ?_ _ _ | refine Ext.setCell ?_ (by first | exact Nat.le_refl _ | omega | (simp; done) | (simp; omega)) _ | refine Ext.trans ?_ (by assumption)))⟩
  · have e : n.sign = 1 := Int.sign_eq_one_of_pos h
    rw [e]
    clear e
    go_enter Tryd.func100, Tryd.ntmps100
    go_wp2
    go_ret
    exact ⟨rfl, (by repeat (first | exact Ext.refl _ | assumption | refine Ext.alloc ?_ _ | refine Ext.drewN ?_ _ | refine ext_grow ?_ _ _ | refine Ext.setCell ?_ (by first | exact Nat.le_refl _ | omega | (simp; done) | (simp; omega)) _ | refine Ext.trans ?_ (by assumption)))⟩
set_option maxHeartbeats 1000000 in
theorem r_fit (a : Frac) (t : Bool) (w : World) :
    Calls Tryd.prog 98 #[fracV a, .bool t] w fun E w' => E = .returned (fansV (if t = true then (a, 0) else (⟨0, 0⟩, 4))) ∧ Ext w w' := by
  obtain ⟨n, d⟩ := a
  cases t
  · go_enter Tryd.func98, Tryd.ntmps98
    go_wp2
    refine bodyPost_ret (RT.results_row2 rfl _ _ (w.heap.size + 1) 23 #[.int .i64 0, .int .i64 0] (0, 0) _ rfl (two_second _ _ _) Tryd.underlying23 rfl info_frac) rfl ?_
    exact ⟨rfl, (by repeat (first | exact Ext.refl _ | assumption | refine Ext.alloc ?_ _ | refine Ext.drewN ?_ _ | refine ext_grow ?_ _ _ | refine Ext.setCell ?_ (by first | exact Nat.le_refl _ | omega | (simp; done) | (simp; omega)) _ | refine Ext.trans ?_ (by assumption)))⟩
  · go_enter Tryd.func98, Tryd.ntmps98
    go_wp2
    refine bodyPost_ret (RT.results_row2 rfl _ _ (w.heap.size + 1) 23 #[.int .i64 n, .int .i64 d] (0, 0) _ rfl (two_second _ _ _) Tryd.underlying23 rfl info_frac) rfl ?_
    exact ⟨rfl, (by repeat (first | exact Ext.refl _ | assumption | refine Ext.alloc ?_ _ | refine Ext.drewN ?_ _ | refine ext_grow ?_ _ _ | refine Ext.setCell ?_ (by first | exact Nat.le_refl _ | omega | (simp; done) | (simp; omega)) _ | refine Ext.trans ?_ (by assumption)))⟩
end Go.Proofs.YtodoimeiklilhaaDoor
