/- The walks of the reference's Down, Floor, Ceil, Show, Text. -/
import Derived.Test.YtodoimeiklilhaaDoorRefMake
import Derived.Test.YtodoimeiklilhaaDoorGWhole
import Derived.Test.YtodoimeiklilhaaDoorRefDec
set_option linter.unusedVariables false
set_option linter.unusedSimpArgs false
namespace Go.Proofs.YtodoimeiklilhaaDoor
open Go.RowKit Go.Sort

set_option maxRecDepth 100000 in
set_option maxHeartbeats 8000000 in
theorem rDown_walk (a1 a2 q r v : Int) (w : World)
    (hq : a1.tdiv a2 = q)
    (hr : a1.tmod a2 = r)
    (z0 : ¬ a2 = 0)
    (z1 : (a2 == 0) = false)
    (l1 : -4611686018427387903 ≤ q)
    (l2 : q ≤ 4611686018427387903)
    (l3 : -4611686018427387903 ≤ r)
    (l4 : r ≤ 4611686018427387903)
    (hv : v = if a1 < 0 ∧ r ≠ 0 then q - 1 else q) :
    Calls Tryd.prog 75 #[fracV ⟨a1, a2⟩] w fun E w' => E = .returned (.int .i64 v) ∧ Ext w w' := by

  by_cases h1 : a1 < 0
  · have t1 : decide (a1 < 0) = true := decide_eq_true h1
    by_cases h2 : r = 0
    · have t2 : (r != 0) = false := by simpa using h2
      have t3 : (r == 0) = true := by simpa using h2
      obtain rfl : v = q := by rw [hv, if_neg (fun h => h.2 h2)]
      clear hv h2 h1
      go_enter Tryd.func75, Tryd.ntmps75
      go_wp2
      go_ret
      exact ⟨ret_int (by first | done | rfl | omega), (show Ext w _ from (by repeat (first | exact Ext.refl _ | assumption | refine Ext.alloc ?_ _ | refine Ext.drewN ?_ _ | refine ext_grow ?_ _ _ | refine Ext.setCell ?_ (by first | exact Nat.le_refl _ | omega | (simp; done) | (simp; omega)) _ | refine Ext.trans ?_ (by assumption))))⟩
    · have t2 : (r != 0) = true := by simpa using h2
      have t3 : (r == 0) = false := by simpa using h2
      obtain rfl : v = q - 1 := by rw [hv, if_pos ⟨h1, h2⟩]
      have H2 := Lib.hid h2
      clear hv h2 h1
      go_enter Tryd.func75, Tryd.ntmps75
      go_wp2
      go_ret
      exact ⟨ret_int (by first | done | rfl | omega), (show Ext w _ from (by repeat (first | exact Ext.refl _ | assumption | refine Ext.alloc ?_ _ | refine Ext.drewN ?_ _ | refine ext_grow ?_ _ _ | refine Ext.setCell ?_ (by first | exact Nat.le_refl _ | omega | (simp; done) | (simp; omega)) _ | refine Ext.trans ?_ (by assumption))))⟩
  · have t1 : decide (a1 < 0) = false := decide_eq_false h1
    obtain rfl : v = q := by rw [hv, if_neg (fun h => h1 h.1)]
    clear hv h1
    go_enter Tryd.func75, Tryd.ntmps75
    go_wp2
    go_ret
    exact ⟨ret_int (by first | done | rfl | omega), (show Ext w _ from (by repeat (first | exact Ext.refl _ | assumption | refine Ext.alloc ?_ _ | refine Ext.drewN ?_ _ | refine ext_grow ?_ _ _ | refine Ext.setCell ?_ (by first | exact Nat.le_refl _ | omega | (simp; done) | (simp; omega)) _ | refine Ext.trans ?_ (by assumption))))⟩
theorem down_floor (n d : Int) (hd : 0 < d) : (if n < 0 ∧ n.tmod d ≠ 0 then n.tdiv d - 1 else n.tdiv d) = n / d := by
  rw [← tdiv_floor n d hd]
  have h1 := Int.mul_tdiv_add_tmod n d
  rw [Int.mul_comm] at h1
  have e : (n < 0 ∧ n.tmod d ≠ 0) ↔ n < n.tdiv d * d := by
    rcases Int.lt_or_le n 0 with hn | hn
    · have h5 : n.tmod d ≤ 0 := by
        have := Int.tmod_nonneg d (a := -n) (by omega)
        rw [Int.neg_tmod] at this
        omega
      omega
    · have h5 : 0 ≤ n.tmod d := Int.tmod_nonneg d hn
      omega
  simp only [e]
theorem r_Down (p : Rat) (hp : Fits p) (w : World) :
    Calls Tryd.prog 75 #[ratV p] w fun E w' => E = .returned (.int .i64 p.floor) ∧ Ext w w' := by
  have d0 : 0 < dn p := by have := p.den_pos; unfold dn; omega
  obtain ⟨b1, b2, b3, b4⟩ := tdiv_small hp
  have hm : ((nm p).tmod (dn p)).natAbs ≤ (nm p).natAbs := by
    rw [Int.natAbs_tmod]; exact Nat.mod_le _ _
  have hn : -4611686018427387903 ≤ nm p ∧ nm p ≤ 4611686018427387903 := by unfold Fits maxP at hp; unfold nm; omega
  refine rDown_walk (nm p) (dn p) _ _ _ w rfl rfl (by omega) (by simp; omega) b1 b2 (by omega) (by omega) ?_
  rw [down_floor _ _ d0, Rat.floor_def]
  rfl
set_option maxRecDepth 100000 in
set_option maxHeartbeats 8000000 in
theorem rFloor_walk (a1 a2 f : Int) (v : Bool) (w : World)
    (k1 : ∀ w, Calls Tryd.prog 50 #[fracV ⟨a1, a2⟩] w fun E w' => E = .returned (.bool v) ∧ Ext w w')
    (k2 : v = true → ∀ w, Calls Tryd.prog 75 #[fracV ⟨a1, a2⟩] w fun E w' => E = .returned (.int .i64 f) ∧ Ext w w') :
    Calls Tryd.prog 42 #[fracV ⟨a1, a2⟩] w fun E w' => E = .returned (.tuple #[.int .i64 (if v = true then f else 0), .int .i64 (if v = true then 0 else 8)]) ∧ Ext w w' := by
  have K1 := Lib.hid k1
  have K2 := Lib.hid k2
  clear k1 k2
  cases v
  · go_enter Tryd.func42, Tryd.ntmps42
    go_wp2_with (first | (go_at_call 50; (with_reducible refine (K1.out _).mono ?_); rintro E w1 ⟨rfl, hb1⟩; have A1 := Lib.hid (show At w1 [(w.heap.size, Obj.cells #[.int .i64 a1, .int .i64 a2] 23)] from At.ext hb1 (show At _ [(w.heap.size, Obj.cells #[.int .i64 a1, .int .i64 a2] 23)] from ⟨(by repeat (first | (refine blk_at _ _ ?_; (first | rfl | (simp only [size_one]; done))) | refine (blk_past _ _ (by simp only [size_one]; omega)).trans ?_)), trivial⟩)); have E1 := Lib.hid (((show Ext w _ from (by repeat (first | exact Ext.refl _ | assumption | refine Ext.alloc ?_ _ | refine Ext.drewN ?_ _ | refine ext_grow ?_ _ _ | refine Ext.setCell ?_ (by first | exact Nat.le_refl _ | omega | (simp; done) | (simp; omega)) _ | refine Ext.trans ?_ (by assumption))))).trans hb1); obtain ⟨c1_0_0, c1_0_1, f1_0_0, f1_0_1⟩ := run_pair (At.at A1.out 0 rfl); have s1_0 : w.heap.size < w1.heap.size := At.lt A1.out 0 rfl))
    go_ret2
    exact ⟨rfl, E1.out⟩
  · have K2x := Lib.hid (K2.out rfl)
    clear K2
    go_enter Tryd.func42, Tryd.ntmps42
    go_wp2_with (first | (go_at_call 50; (with_reducible refine (K1.out _).mono ?_); rintro E w1 ⟨rfl, hb1⟩; have A1 := Lib.hid (show At w1 [(w.heap.size, Obj.cells #[.int .i64 a1, .int .i64 a2] 23)] from At.ext hb1 (show At _ [(w.heap.size, Obj.cells #[.int .i64 a1, .int .i64 a2] 23)] from ⟨(by repeat (first | (refine blk_at _ _ ?_; (first | rfl | (simp only [size_one]; done))) | refine (blk_past _ _ (by simp only [size_one]; omega)).trans ?_)), trivial⟩)); have E1 := Lib.hid (((show Ext w _ from (by repeat (first | exact Ext.refl _ | assumption | refine Ext.alloc ?_ _ | refine Ext.drewN ?_ _ | refine ext_grow ?_ _ _ | refine Ext.setCell ?_ (by first | exact Nat.le_refl _ | omega | (simp; done) | (simp; omega)) _ | refine Ext.trans ?_ (by assumption))))).trans hb1); obtain ⟨c1_0_0, c1_0_1, f1_0_0, f1_0_1⟩ := run_pair (At.at A1.out 0 rfl); have s1_0 : w.heap.size < w1.heap.size := At.lt A1.out 0 rfl) | (go_at_call 75; (with_reducible refine (K2x.out _).mono ?_); rintro E w2 ⟨rfl, hb2⟩; have A2 := Lib.hid (show At w2 [(w.heap.size, Obj.cells #[.int .i64 a1, .int .i64 a2] 23)] from At.ext hb2 A1.out); have E2 := Lib.hid ((E1.out).trans hb2); obtain ⟨c2_0_0, c2_0_1, f2_0_0, f2_0_1⟩ := run_pair (At.at A2.out 0 rfl); have s2_0 : w.heap.size < w2.heap.size := At.lt A2.out 0 rfl; (try clear c1_0_0 c1_0_1 f1_0_0 f1_0_1 s1_0)))
    go_ret2
    exact ⟨rfl, E2.out⟩
set_option maxRecDepth 100000 in
set_option maxHeartbeats 8000000 in
theorem rCeil_walk (a1 a2 c1 c2 f : Int) (v : Bool) (w : World)
    (l1 : -4611686018427387904 ≤ f)
    (l2 : f ≤ 4611686018427387904)
    (k1 : ∀ w, Calls Tryd.prog 50 #[fracV ⟨a1, a2⟩] w fun E w' => E = .returned (.bool v) ∧ Ext w w')
    (k2 : v = true → ∀ w, Calls Tryd.prog 76 #[fracV ⟨a1, a2⟩] w fun E w' => E = .returned (fracV ⟨c1, c2⟩) ∧ Ext w w')
    (k3 : v = true → ∀ w, Calls Tryd.prog 75 #[fracV ⟨c1, c2⟩] w fun E w' => E = .returned (.int .i64 f) ∧ Ext w w') :
    Calls Tryd.prog 43 #[fracV ⟨a1, a2⟩] w fun E w' => E = .returned (.tuple #[.int .i64 (if v = true then -f else 0), .int .i64 (if v = true then 0 else 8)]) ∧ Ext w w' := by
  have K1 := Lib.hid k1
  have K2 := Lib.hid k2
  have K3 := Lib.hid k3
  clear k1 k2 k3
  cases v
  · go_enter Tryd.func43, Tryd.ntmps43
    go_wp2_with (first | (go_at_call 50; (with_reducible refine (K1.out _).mono ?_); rintro E w1 ⟨rfl, hb1⟩; have A1 := Lib.hid (show At w1 [(w.heap.size, Obj.cells #[.int .i64 a1, .int .i64 a2] 23)] from At.ext hb1 (show At _ [(w.heap.size, Obj.cells #[.int .i64 a1, .int .i64 a2] 23)] from ⟨(by repeat (first | (refine blk_at _ _ ?_; (first | rfl | (simp only [size_one]; done))) | refine (blk_past _ _ (by simp only [size_one]; omega)).trans ?_)), trivial⟩)); have E1 := Lib.hid (((show Ext w _ from (by repeat (first | exact Ext.refl _ | assumption | refine Ext.alloc ?_ _ | refine Ext.drewN ?_ _ | refine ext_grow ?_ _ _ | refine Ext.setCell ?_ (by first | exact Nat.le_refl _ | omega | (simp; done) | (simp; omega)) _ | refine Ext.trans ?_ (by assumption))))).trans hb1); obtain ⟨c1_0_0, c1_0_1, f1_0_0, f1_0_1⟩ := run_pair (At.at A1.out 0 rfl); have s1_0 : w.heap.size < w1.heap.size := At.lt A1.out 0 rfl))
    go_ret2
    exact ⟨by first | rfl | (simp; done) | (simp; omega), E1.out⟩
  · have K2x := Lib.hid (K2.out rfl)
    clear K2
    have K3x := Lib.hid (K3.out rfl)
    clear K3
    go_enter Tryd.func43, Tryd.ntmps43
    go_wp2_with (first | (go_at_call 50; (with_reducible refine (K1.out _).mono ?_); rintro E w1 ⟨rfl, hb1⟩; have A1 := Lib.hid (show At w1 [(w.heap.size, Obj.cells #[.int .i64 a1, .int .i64 a2] 23)] from At.ext hb1 (show At _ [(w.heap.size, Obj.cells #[.int .i64 a1, .int .i64 a2] 23)] from ⟨(by repeat (first | (refine blk_at _ _ ?_; (first | rfl | (simp only [size_one]; done))) | refine (blk_past _ _ (by simp only [size_one]; omega)).trans ?_)), trivial⟩)); have E1 := Lib.hid (((show Ext w _ from (by repeat (first | exact Ext.refl _ | assumption | refine Ext.alloc ?_ _ | refine Ext.drewN ?_ _ | refine ext_grow ?_ _ _ | refine Ext.setCell ?_ (by first | exact Nat.le_refl _ | omega | (simp; done) | (simp; omega)) _ | refine Ext.trans ?_ (by assumption))))).trans hb1); obtain ⟨c1_0_0, c1_0_1, f1_0_0, f1_0_1⟩ := run_pair (At.at A1.out 0 rfl); have s1_0 : w.heap.size < w1.heap.size := At.lt A1.out 0 rfl) | (go_at_call 76; (with_reducible refine (K2x.out _).mono ?_); rintro E w2 ⟨rfl, hb2⟩; have A2 := Lib.hid (show At w2 [(w.heap.size, Obj.cells #[.int .i64 a1, .int .i64 a2] 23)] from At.ext hb2 A1.out); have E2 := Lib.hid ((E1.out).trans hb2); obtain ⟨c2_0_0, c2_0_1, f2_0_0, f2_0_1⟩ := run_pair (At.at A2.out 0 rfl); have s2_0 : w.heap.size < w2.heap.size := At.lt A2.out 0 rfl; (try clear c1_0_0 c1_0_1 f1_0_0 f1_0_1 s1_0)) | (go_at_call 75; (with_reducible refine (K3x.out _).mono ?_); rintro E w3 ⟨rfl, hb3⟩; have A3 := Lib.hid (show At w3 [(w.heap.size, Obj.cells #[.int .i64 a1, .int .i64 a2] 23)] from At.ext hb3 A2.out); have E3 := Lib.hid ((E2.out).trans hb3); obtain ⟨c3_0_0, c3_0_1, f3_0_0, f3_0_1⟩ := run_pair (At.at A3.out 0 rfl); have s3_0 : w.heap.size < w3.heap.size := At.lt A3.out 0 rfl; (try clear c2_0_0 c2_0_1 f2_0_0 f2_0_1 s2_0)))
    go_ret2
    exact ⟨by first | rfl | (simp; done) | (simp; omega), E3.out⟩
set_option maxRecDepth 100000 in
set_option maxHeartbeats 8000000 in
theorem rText_walk (a1 a2 : Int) (t : ByteArray) (v : Bool) (w : World)
    (k1 : ∀ w, Calls Tryd.prog 50 #[fracV ⟨a1, a2⟩] w fun E w' => E = .returned (.bool v) ∧ Ext w w')
    (k2 : v = true → ∀ w, Calls Tryd.prog 77 #[fracV ⟨a1, a2⟩] w fun E w' => E = .returned (.string t) ∧ Ext w w') :
    Calls Tryd.prog 44 #[fracV ⟨a1, a2⟩] w fun E w' => E = .returned (.tuple #[.string (if v = true then t else ⟨#[]⟩), .int .i64 (if v = true then 0 else 8)]) ∧ Ext w w' := by
  have K1 := Lib.hid k1
  have K2 := Lib.hid k2
  clear k1 k2
  cases v
  · go_enter Tryd.func44, Tryd.ntmps44
    go_wp2_with (first | (go_at_call 50; (with_reducible refine (K1.out _).mono ?_); rintro E w1 ⟨rfl, hb1⟩; have A1 := Lib.hid (show At w1 [(w.heap.size, Obj.cells #[.int .i64 a1, .int .i64 a2] 23)] from At.ext hb1 (show At _ [(w.heap.size, Obj.cells #[.int .i64 a1, .int .i64 a2] 23)] from ⟨(by repeat (first | (refine blk_at _ _ ?_; (first | rfl | (simp only [size_one]; done))) | refine (blk_past _ _ (by simp only [size_one]; omega)).trans ?_)), trivial⟩)); have E1 := Lib.hid (((show Ext w _ from (by repeat (first | exact Ext.refl _ | assumption | refine Ext.alloc ?_ _ | refine Ext.drewN ?_ _ | refine ext_grow ?_ _ _ | refine Ext.setCell ?_ (by first | exact Nat.le_refl _ | omega | (simp; done) | (simp; omega)) _ | refine Ext.trans ?_ (by assumption))))).trans hb1); obtain ⟨c1_0_0, c1_0_1, f1_0_0, f1_0_1⟩ := run_pair (At.at A1.out 0 rfl); have s1_0 : w.heap.size < w1.heap.size := At.lt A1.out 0 rfl))
    go_ret2
    exact ⟨rfl, E1.out⟩
  · have K2x := Lib.hid (K2.out rfl)
    clear K2
    go_enter Tryd.func44, Tryd.ntmps44
    go_wp2_with (first | (go_at_call 50; (with_reducible refine (K1.out _).mono ?_); rintro E w1 ⟨rfl, hb1⟩; have A1 := Lib.hid (show At w1 [(w.heap.size, Obj.cells #[.int .i64 a1, .int .i64 a2] 23)] from At.ext hb1 (show At _ [(w.heap.size, Obj.cells #[.int .i64 a1, .int .i64 a2] 23)] from ⟨(by repeat (first | (refine blk_at _ _ ?_; (first | rfl | (simp only [size_one]; done))) | refine (blk_past _ _ (by simp only [size_one]; omega)).trans ?_)), trivial⟩)); have E1 := Lib.hid (((show Ext w _ from (by repeat (first | exact Ext.refl _ | assumption | refine Ext.alloc ?_ _ | refine Ext.drewN ?_ _ | refine ext_grow ?_ _ _ | refine Ext.setCell ?_ (by first | exact Nat.le_refl _ | omega | (simp; done) | (simp; omega)) _ | refine Ext.trans ?_ (by assumption))))).trans hb1); obtain ⟨c1_0_0, c1_0_1, f1_0_0, f1_0_1⟩ := run_pair (At.at A1.out 0 rfl); have s1_0 : w.heap.size < w1.heap.size := At.lt A1.out 0 rfl) | (go_at_call 77; (with_reducible refine (K2x.out _).mono ?_); rintro E w2 ⟨rfl, hb2⟩; have A2 := Lib.hid (show At w2 [(w.heap.size, Obj.cells #[.int .i64 a1, .int .i64 a2] 23)] from At.ext hb2 A1.out); have E2 := Lib.hid ((E1.out).trans hb2); obtain ⟨c2_0_0, c2_0_1, f2_0_0, f2_0_1⟩ := run_pair (At.at A2.out 0 rfl); have s2_0 : w.heap.size < w2.heap.size := At.lt A2.out 0 rfl; (try clear c1_0_0 c1_0_1 f1_0_0 f1_0_1 s1_0)))
    go_ret2
    exact ⟨rfl, E2.out⟩
set_option maxRecDepth 100000 in
set_option maxHeartbeats 8000000 in
theorem rShow_walk (a1 a2 : Int) (N D : Nat) (x y : ByteArray) (w : World)
    (lx : x.size ≤ 30)
    (ly : y.size ≤ 30)
    (k1 : ∀ w, Calls Tryd.prog 81 #[.int .i64 a1] w fun E w' => E = .returned (.int .u64 (N : Int)) ∧ Ext w w')
    (k2 : ∀ w, Calls Tryd.prog 94 #[.int .u64 (N : Int)] w fun E w' => E = .returned (.string x) ∧ Ext w w')
    (k3 : ∀ w, Calls Tryd.prog 81 #[.int .i64 a2] w fun E w' => E = .returned (.int .u64 (D : Int)) ∧ Ext w w')
    (k4 : ∀ w, Calls Tryd.prog 94 #[.int .u64 (D : Int)] w fun E w' => E = .returned (.string y) ∧ Ext w w') :
    Calls Tryd.prog 77 #[fracV ⟨a1, a2⟩] w fun E w' => E = .returned (.string (if 1 < a2 then (if a1 < 0 then ⟨#[45]⟩ ++ x else x) ++ ⟨#[47]⟩ ++ y else (if a1 < 0 then ⟨#[45]⟩ ++ x else x))) ∧ Ext w w' := by
  have K1 := Lib.hid k1
  have K2 := Lib.hid k2
  have K3 := Lib.hid k3
  have K4 := Lib.hid k4
  clear k1 k2 k3 k4
  by_cases h1 : a1 < 0
  · have t1 : decide (a1 < 0) = true := decide_eq_true h1
    by_cases h2 : 1 < a2
    · have t2 : decide (1 < a2) = true := decide_eq_true h2
      rw [if_pos h1, if_pos h2]
      clear h1 h2
      go_enter Tryd.func77, Tryd.ntmps77
      go_wp2_with (first | (go_at_call 81; (with_reducible refine (K1.out _).mono ?_); rintro E w1 ⟨rfl, hb1⟩; have A1 := Lib.hid (show At w1 [(w.heap.size, Obj.cells #[.int .i64 a1, .int .i64 a2] 23)] from At.ext hb1 (show At _ [(w.heap.size, Obj.cells #[.int .i64 a1, .int .i64 a2] 23)] from ⟨(by repeat (first | (refine blk_at _ _ ?_; (first | rfl | (simp only [size_one]; done))) | refine (blk_past _ _ (by simp only [size_one]; omega)).trans ?_)), trivial⟩)); have E1 := Lib.hid (((show Ext w _ from (by repeat (first | exact Ext.refl _ | assumption | refine Ext.alloc ?_ _ | refine Ext.drewN ?_ _ | refine ext_grow ?_ _ _ | refine Ext.setCell ?_ (by first | exact Nat.le_refl _ | omega | (simp; done) | (simp; omega)) _ | refine Ext.trans ?_ (by assumption))))).trans hb1); obtain ⟨c1_0_0, c1_0_1, f1_0_0, f1_0_1⟩ := run_pair (At.at A1.out 0 rfl); have s1_0 : w.heap.size < w1.heap.size := At.lt A1.out 0 rfl) | (go_at_call 94; (with_reducible refine (K2.out _).mono ?_); rintro E w2 ⟨rfl, hb2⟩; have A2 := Lib.hid (show At w2 [(w.heap.size, Obj.cells #[.int .i64 a1, .int .i64 a2] 23)] from At.ext hb2 A1.out); have E2 := Lib.hid ((E1.out).trans hb2); obtain ⟨c2_0_0, c2_0_1, f2_0_0, f2_0_1⟩ := run_pair (At.at A2.out 0 rfl); have s2_0 : w.heap.size < w2.heap.size := At.lt A2.out 0 rfl; (try clear c1_0_0 c1_0_1 f1_0_0 f1_0_1 s1_0)) | (go_at_call 81; (with_reducible refine (K3.out _).mono ?_); rintro E w3 ⟨rfl, hb3⟩; have A3 := Lib.hid (show At w3 [(w.heap.size, Obj.cells #[.int .i64 a1, .int .i64 a2] 23)] from At.ext hb3 A2.out); have E3 := Lib.hid ((E2.out).trans hb3); obtain ⟨c3_0_0, c3_0_1, f3_0_0, f3_0_1⟩ := run_pair (At.at A3.out 0 rfl); have s3_0 : w.heap.size < w3.heap.size := At.lt A3.out 0 rfl; (try clear c2_0_0 c2_0_1 f2_0_0 f2_0_1 s2_0)) | (go_at_call 94; (with_reducible refine (K4.out _).mono ?_); rintro E w4 ⟨rfl, hb4⟩; have A4 := Lib.hid (show At w4 [(w.heap.size, Obj.cells #[.int .i64 a1, .int .i64 a2] 23)] from At.ext hb4 A3.out); have E4 := Lib.hid ((E3.out).trans hb4); obtain ⟨c4_0_0, c4_0_1, f4_0_0, f4_0_1⟩ := run_pair (At.at A4.out 0 rfl); have s4_0 : w.heap.size < w4.heap.size := At.lt A4.out 0 rfl; (try clear c3_0_0 c3_0_1 f3_0_0 f3_0_1 s3_0)))
      go_ret
      exact ⟨rfl, E4.out⟩
    · have t2 : decide (1 < a2) = false := decide_eq_false h2
      rw [if_pos h1, if_neg h2]
      clear h1 h2
      go_enter Tryd.func77, Tryd.ntmps77
      go_wp2_with (first | (go_at_call 81; (with_reducible refine (K1.out _).mono ?_); rintro E w1 ⟨rfl, hb1⟩; have A1 := Lib.hid (show At w1 [(w.heap.size, Obj.cells #[.int .i64 a1, .int .i64 a2] 23)] from At.ext hb1 (show At _ [(w.heap.size, Obj.cells #[.int .i64 a1, .int .i64 a2] 23)] from ⟨(by repeat (first | (refine blk_at _ _ ?_; (first | rfl | (simp only [size_one]; done))) | refine (blk_past _ _ (by simp only [size_one]; omega)).trans ?_)), trivial⟩)); have E1 := Lib.hid (((show Ext w _ from (by repeat (first | exact Ext.refl _ | assumption | refine Ext.alloc ?_ _ | refine Ext.drewN ?_ _ | refine ext_grow ?_ _ _ | refine Ext.setCell ?_ (by first | exact Nat.le_refl _ | omega | (simp; done) | (simp; omega)) _ | refine Ext.trans ?_ (by assumption))))).trans hb1); obtain ⟨c1_0_0, c1_0_1, f1_0_0, f1_0_1⟩ := run_pair (At.at A1.out 0 rfl); have s1_0 : w.heap.size < w1.heap.size := At.lt A1.out 0 rfl) | (go_at_call 94; (with_reducible refine (K2.out _).mono ?_); rintro E w2 ⟨rfl, hb2⟩; have A2 := Lib.hid (show At w2 [(w.heap.size, Obj.cells #[.int .i64 a1, .int .i64 a2] 23)] from At.ext hb2 A1.out); have E2 := Lib.hid ((E1.out).trans hb2); obtain ⟨c2_0_0, c2_0_1, f2_0_0, f2_0_1⟩ := run_pair (At.at A2.out 0 rfl); have s2_0 : w.heap.size < w2.heap.size := At.lt A2.out 0 rfl; (try clear c1_0_0 c1_0_1 f1_0_0 f1_0_1 s1_0)))
      go_ret
      exact ⟨rfl, E2.out⟩
  · have t1 : decide (a1 < 0) = false := decide_eq_false h1
    by_cases h2 : 1 < a2
    · have t2 : decide (1 < a2) = true := decide_eq_true h2
      rw [if_neg h1, if_pos h2]
      clear h1 h2
      go_enter Tryd.func77, Tryd.ntmps77
      go_wp2_with (first | (go_at_call 81; (with_reducible refine (K1.out _).mono ?_); rintro E w1 ⟨rfl, hb1⟩; have A1 := Lib.hid (show At w1 [(w.heap.size, Obj.cells #[.int .i64 a1, .int .i64 a2] 23)] from At.ext hb1 (show At _ [(w.heap.size, Obj.cells #[.int .i64 a1, .int .i64 a2] 23)] from ⟨(by repeat (first | (refine blk_at _ _ ?_; (first | rfl | (simp only [size_one]; done))) | refine (blk_past _ _ (by simp only [size_one]; omega)).trans ?_)), trivial⟩)); have E1 := Lib.hid (((show Ext w _ from (by repeat (first | exact Ext.refl _ | assumption | refine Ext.alloc ?_ _ | refine Ext.drewN ?_ _ | refine ext_grow ?_ _ _ | refine Ext.setCell ?_ (by first | exact Nat.le_refl _ | omega | (simp; done) | (simp; omega)) _ | refine Ext.trans ?_ (by assumption))))).trans hb1); obtain ⟨c1_0_0, c1_0_1, f1_0_0, f1_0_1⟩ := run_pair (At.at A1.out 0 rfl); have s1_0 : w.heap.size < w1.heap.size := At.lt A1.out 0 rfl) | (go_at_call 94; (with_reducible refine (K2.out _).mono ?_); rintro E w2 ⟨rfl, hb2⟩; have A2 := Lib.hid (show At w2 [(w.heap.size, Obj.cells #[.int .i64 a1, .int .i64 a2] 23)] from At.ext hb2 A1.out); have E2 := Lib.hid ((E1.out).trans hb2); obtain ⟨c2_0_0, c2_0_1, f2_0_0, f2_0_1⟩ := run_pair (At.at A2.out 0 rfl); have s2_0 : w.heap.size < w2.heap.size := At.lt A2.out 0 rfl; (try clear c1_0_0 c1_0_1 f1_0_0 f1_0_1 s1_0)) | (go_at_call 81; (with_reducible refine (K3.out _).mono ?_); rintro E w3 ⟨rfl, hb3⟩; have A3 := Lib.hid (show At w3 [(w.heap.size, Obj.cells #[.int .i64 a1, .int .i64 a2] 23)] from At.ext hb3 A2.out); have E3 := Lib.hid ((E2.out).trans hb3); obtain ⟨c3_0_0, c3_0_1, f3_0_0, f3_0_1⟩ := run_pair (At.at A3.out 0 rfl); have s3_0 : w.heap.size < w3.heap.size := At.lt A3.out 0 rfl; (try clear c2_0_0 c2_0_1 f2_0_0 f2_0_1 s2_0)) | (go_at_call 94; (with_reducible refine (K4.out _).mono ?_); rintro E w4 ⟨rfl, hb4⟩; have A4 := Lib.hid (show At w4 [(w.heap.size, Obj.cells #[.int .i64 a1, .int .i64 a2] 23)] from At.ext hb4 A3.out); have E4 := Lib.hid ((E3.out).trans hb4); obtain ⟨c4_0_0, c4_0_1, f4_0_0, f4_0_1⟩ := run_pair (At.at A4.out 0 rfl); have s4_0 : w.heap.size < w4.heap.size := At.lt A4.out 0 rfl; (try clear c3_0_0 c3_0_1 f3_0_0 f3_0_1 s3_0)))
      go_ret
      exact ⟨rfl, E4.out⟩
    · have t2 : decide (1 < a2) = false := decide_eq_false h2
      rw [if_neg h1, if_neg h2]
      clear h1 h2
      go_enter Tryd.func77, Tryd.ntmps77
      go_wp2_with (first | (go_at_call 81; (with_reducible refine (K1.out _).mono ?_); rintro E w1 ⟨rfl, hb1⟩; have A1 := Lib.hid (show At w1 [(w.heap.size, Obj.cells #[.int .i64 a1, .int .i64 a2] 23)] from At.ext hb1 (show At _ [(w.heap.size, Obj.cells #[.int .i64 a1, .int .i64 a2] 23)] from ⟨(by repeat (first | (refine blk_at _ _ ?_; (first | rfl | (simp only [size_one]; done))) | refine (blk_past _ _ (by simp only [size_one]; omega)).trans ?_)), trivial⟩)); have E1 := Lib.hid (((show Ext w _ from (by repeat (first | exact Ext.refl _ | assumption | refine Ext.alloc ?_ _ | refine Ext.drewN ?_ _ | refine ext_grow ?_ _ _ | refine Ext.setCell ?_ (by first | exact Nat.le_refl _ | omega | (simp; done) | (simp; omega)) _ | refine Ext.trans ?_ (by assumption))))).trans hb1); obtain ⟨c1_0_0, c1_0_1, f1_0_0, f1_0_1⟩ := run_pair (At.at A1.out 0 rfl); have s1_0 : w.heap.size < w1.heap.size := At.lt A1.out 0 rfl) | (go_at_call 94; (with_reducible refine (K2.out _).mono ?_); rintro E w2 ⟨rfl, hb2⟩; have A2 := Lib.hid (show At w2 [(w.heap.size, Obj.cells #[.int .i64 a1, .int .i64 a2] 23)] from At.ext hb2 A1.out); have E2 := Lib.hid ((E1.out).trans hb2); obtain ⟨c2_0_0, c2_0_1, f2_0_0, f2_0_1⟩ := run_pair (At.at A2.out 0 rfl); have s2_0 : w.heap.size < w2.heap.size := At.lt A2.out 0 rfl; (try clear c1_0_0 c1_0_1 f1_0_0 f1_0_1 s1_0)))
      go_ret
      exact ⟨rfl, E2.out⟩
end Go.Proofs.YtodoimeiklilhaaDoor
