/- The walks of the reference's functions of enclosures: ValidSpan, CheckSpan, Has, In, Least, Most. -/
import Derived.Test.YtodoimeiklilhaaRefAdd
import Derived.Test.YtodoimeiklilhaaGSpanOps
set_option linter.unusedVariables false
set_option linter.unusedSimpArgs false
namespace Go.Proofs.Ytodoimeiklilhaa
open Go.RowKit Go.Sort

set_option maxRecDepth 100000 in
set_option maxHeartbeats 8000000 in
theorem rValidSpan_walk (a1 a2 a3 a4 r : Int) (va vb : Bool) (w : World)
    (k1 : ∀ w, Calls Try.prog 43 #[fracV ⟨a1, a2⟩] w fun E w' => E = .returned (.bool va) ∧ Ext w w')
    (k2 : ∀ w, Calls Try.prog 43 #[fracV ⟨a3, a4⟩] w fun E w' => E = .returned (.bool vb) ∧ Ext w w')
    (k3 : va = true → vb = true → ∀ w, Calls Try.prog 45 #[fracV ⟨a1, a2⟩, fracV ⟨a3, a4⟩] w fun E w' => E = .returned (.int .i64 r) ∧ Ext w w') :
    Calls Try.prog 57 #[fspanV ⟨⟨a1, a2⟩, ⟨a3, a4⟩⟩] w fun E w' => E = .returned (.bool (va && vb && decide (r ≤ 0))) ∧ Ext w w' := by
  have K1 := Lib.hid k1
  have K2 := Lib.hid k2
  have K3 := Lib.hid k3
  clear k1 k2 k3
  cases va
  · go_enter Try.func57, Try.ntmps57
    go_wp2_with (first | (go_at_call 43; (with_reducible refine (K1.out _).mono ?_); rintro E w1 ⟨rfl, hb1⟩; have A1 := Lib.hid (show At w1 [(w.heap.size, Obj.cells #[.int .i64 a1, .int .i64 a2, .int .i64 a3, .int .i64 a4] 39)] from At.ext hb1 (show At _ [(w.heap.size, Obj.cells #[.int .i64 a1, .int .i64 a2, .int .i64 a3, .int .i64 a4] 39)] from ⟨(by repeat (first | (refine blk_at _ _ ?_; (first | rfl | (simp only [size_one]; done))) | refine (blk_past _ _ (by simp only [size_one]; omega)).trans ?_)), trivial⟩)); have E1 := Lib.hid (((show Ext w _ from (by repeat (first | exact Ext.refl _ | assumption | refine Ext.alloc ?_ _ | refine Ext.drewN ?_ _ | refine ext_grow ?_ _ _ | refine Ext.setCell ?_ (by first | exact Nat.le_refl _ | omega | (simp; done) | (simp; omega)) _ | refine Ext.trans ?_ (by assumption))))).trans hb1); obtain ⟨⟨c1_0_0, c1_0_1, c1_0_2, c1_0_3⟩, f1_0_0, f1_0_1, f1_0_2, f1_0_3⟩ := run_four (At.at A1.out 0 rfl); have s1_0 : w.heap.size < w1.heap.size := At.lt A1.out 0 rfl))
    go_ret
    exact ⟨ret_bool (by simp), E1.out⟩
  · cases vb
    · go_enter Try.func57, Try.ntmps57
      go_wp2_with (first | (go_at_call 43; (with_reducible refine (K1.out _).mono ?_); rintro E w1 ⟨rfl, hb1⟩; have A1 := Lib.hid (show At w1 [(w.heap.size, Obj.cells #[.int .i64 a1, .int .i64 a2, .int .i64 a3, .int .i64 a4] 39)] from At.ext hb1 (show At _ [(w.heap.size, Obj.cells #[.int .i64 a1, .int .i64 a2, .int .i64 a3, .int .i64 a4] 39)] from ⟨(by repeat (first | (refine blk_at _ _ ?_; (first | rfl | (simp only [size_one]; done))) | refine (blk_past _ _ (by simp only [size_one]; omega)).trans ?_)), trivial⟩)); have E1 := Lib.hid (((show Ext w _ from (by repeat (first | exact Ext.refl _ | assumption | refine Ext.alloc ?_ _ | refine Ext.drewN ?_ _ | refine ext_grow ?_ _ _ | refine Ext.setCell ?_ (by first | exact Nat.le_refl _ | omega | (simp; done) | (simp; omega)) _ | refine Ext.trans ?_ (by assumption))))).trans hb1); obtain ⟨⟨c1_0_0, c1_0_1, c1_0_2, c1_0_3⟩, f1_0_0, f1_0_1, f1_0_2, f1_0_3⟩ := run_four (At.at A1.out 0 rfl); have s1_0 : w.heap.size < w1.heap.size := At.lt A1.out 0 rfl) | (go_at_call 43; (with_reducible refine (K2.out _).mono ?_); rintro E w2 ⟨rfl, hb2⟩; have A2 := Lib.hid (show At w2 [(w.heap.size, Obj.cells #[.int .i64 a1, .int .i64 a2, .int .i64 a3, .int .i64 a4] 39)] from At.ext hb2 A1.out); have E2 := Lib.hid ((E1.out).trans hb2); obtain ⟨⟨c2_0_0, c2_0_1, c2_0_2, c2_0_3⟩, f2_0_0, f2_0_1, f2_0_2, f2_0_3⟩ := run_four (At.at A2.out 0 rfl); have s2_0 : w.heap.size < w2.heap.size := At.lt A2.out 0 rfl; (try clear c1_0_0 c1_0_1 c1_0_2 c1_0_3 f1_0_0 f1_0_1 f1_0_2 f1_0_3 s1_0)))
      go_ret
      exact ⟨ret_bool (by simp), E2.out⟩
    · have K3x := Lib.hid (K3.out rfl rfl)
      clear K3
      go_enter Try.func57, Try.ntmps57
      go_wp2_with (first | (go_at_call 43; (with_reducible refine (K1.out _).mono ?_); rintro E w1 ⟨rfl, hb1⟩; have A1 := Lib.hid (show At w1 [(w.heap.size, Obj.cells #[.int .i64 a1, .int .i64 a2, .int .i64 a3, .int .i64 a4] 39)] from At.ext hb1 (show At _ [(w.heap.size, Obj.cells #[.int .i64 a1, .int .i64 a2, .int .i64 a3, .int .i64 a4] 39)] from ⟨(by repeat (first | (refine blk_at _ _ ?_; (first | rfl | (simp only [size_one]; done))) | refine (blk_past _ _ (by simp only [size_one]; omega)).trans ?_)), trivial⟩)); have E1 := Lib.hid (((show Ext w _ from (by repeat (first | exact Ext.refl _ | assumption | refine Ext.alloc ?_ _ | refine Ext.drewN ?_ _ | refine ext_grow ?_ _ _ | refine Ext.setCell ?_ (by first | exact Nat.le_refl _ | omega | (simp; done) | (simp; omega)) _ | refine Ext.trans ?_ (by assumption))))).trans hb1); obtain ⟨⟨c1_0_0, c1_0_1, c1_0_2, c1_0_3⟩, f1_0_0, f1_0_1, f1_0_2, f1_0_3⟩ := run_four (At.at A1.out 0 rfl); have s1_0 : w.heap.size < w1.heap.size := At.lt A1.out 0 rfl) | (go_at_call 43; (with_reducible refine (K2.out _).mono ?_); rintro E w2 ⟨rfl, hb2⟩; have A2 := Lib.hid (show At w2 [(w.heap.size, Obj.cells #[.int .i64 a1, .int .i64 a2, .int .i64 a3, .int .i64 a4] 39)] from At.ext hb2 A1.out); have E2 := Lib.hid ((E1.out).trans hb2); obtain ⟨⟨c2_0_0, c2_0_1, c2_0_2, c2_0_3⟩, f2_0_0, f2_0_1, f2_0_2, f2_0_3⟩ := run_four (At.at A2.out 0 rfl); have s2_0 : w.heap.size < w2.heap.size := At.lt A2.out 0 rfl; (try clear c1_0_0 c1_0_1 c1_0_2 c1_0_3 f1_0_0 f1_0_1 f1_0_2 f1_0_3 s1_0)) | (go_at_call 45; (with_reducible refine (K3x.out _).mono ?_); rintro E w3 ⟨rfl, hb3⟩; have A3 := Lib.hid (show At w3 [(w.heap.size, Obj.cells #[.int .i64 a1, .int .i64 a2, .int .i64 a3, .int .i64 a4] 39)] from At.ext hb3 A2.out); have E3 := Lib.hid ((E2.out).trans hb3); obtain ⟨⟨c3_0_0, c3_0_1, c3_0_2, c3_0_3⟩, f3_0_0, f3_0_1, f3_0_2, f3_0_3⟩ := run_four (At.at A3.out 0 rfl); have s3_0 : w.heap.size < w3.heap.size := At.lt A3.out 0 rfl; (try clear c2_0_0 c2_0_1 c2_0_2 c2_0_3 f2_0_0 f2_0_1 f2_0_2 f2_0_3 s2_0)))
      go_ret
      exact ⟨ret_bool (by simp), E3.out⟩
theorem cmp_le_iff (p q : Rat) : cmp p q ≤ 0 ↔ p ≤ q := by
  have := cmp_pos_iff p q
  constructor
  · intro h
    rcases Rat.le_total (a := p) (b := q) with k | k
    · exact k
    · rcases Rat.le_iff_lt_or_eq.1 k with k | k
      · have := this.2 k; omega
      · rw [k]; exact Rat.le_refl
  · intro h
    rcases Int.lt_or_le 0 (cmp p q) with k | k
    · have := this.1 k; grind
    · exact k
theorem r_ValidSpan (a : Span) (ha : a.wide) (w : World) :
    Calls Try.prog 57 #[fspanV a] w fun E w' => E = .returned (.bool (decide a.ok)) ∧ Ext w w' := by
  obtain ⟨⟨a1, a2⟩, ⟨a3, a4⟩⟩ := a
  by_cases hn : Frac.ok ⟨a1, a2⟩ ∧ Frac.ok ⟨a3, a4⟩
  · obtain ⟨p, hp, ep⟩ := Frac.of_ok hn.1
    obtain ⟨q, hq, eq⟩ := Frac.of_ok hn.2
    have e : decide (Span.ok ⟨⟨a1, a2⟩, ⟨a3, a4⟩⟩) = (decide (Frac.ok ⟨a1, a2⟩) && decide (Frac.ok ⟨a3, a4⟩) && decide (cmp p q ≤ 0)) := by
      rw [Bool.eq_iff_iff]
      simp only [Bool.and_eq_true, decide_eq_true_eq, cmp_le_iff]
      unfold Span.ok
      simp only
      rw [ep, eq, fracOf_val, fracOf_val, and_assoc]
    rw [e]
    refine rValidSpan_walk a1 a2 a3 a4 (cmp p q) _ _ w (r_Valid _ ha.1) (r_Valid _ ha.2) (fun _ _ => ?_)
    have k := r_Order p q hp hq
    rw [show fracV (⟨a1, a2⟩ : Frac) = ratV p by rw [ep]; rfl, show fracV (⟨a3, a4⟩ : Frac) = ratV q by rw [eq]; rfl]
    exact k
  · have e : decide (Span.ok ⟨⟨a1, a2⟩, ⟨a3, a4⟩⟩) = (decide (Frac.ok ⟨a1, a2⟩) && decide (Frac.ok ⟨a3, a4⟩) && decide ((0 : Int) ≤ 0)) := by
      rw [Bool.eq_iff_iff]
      simp only [Bool.and_eq_true, decide_eq_true_eq]
      exact ⟨fun h => absurd ⟨h.1, h.2.1⟩ hn, fun h => absurd h.1 hn⟩
    rw [e]
    exact rValidSpan_walk a1 a2 a3 a4 0 _ _ w (r_Valid _ ha.1) (r_Valid _ ha.2) (fun h1 h2 => absurd ⟨of_decide_eq_true h1, of_decide_eq_true h2⟩ hn)
set_option maxRecDepth 100000 in
set_option maxHeartbeats 8000000 in
theorem rCheckSpan_walk (a1 a2 a3 a4 : Int) (v : Bool) (w : World)
    (k1 : ∀ w, Calls Try.prog 57 #[fspanV ⟨⟨a1, a2⟩, ⟨a3, a4⟩⟩] w fun E w' => E = .returned (.bool v) ∧ Ext w w') :
    Calls Try.prog 22 #[fspanV ⟨⟨a1, a2⟩, ⟨a3, a4⟩⟩] w fun E w' => E = .returned (.int .i64 (if v = true then 0 else 8)) ∧ Ext w w' := by
  have K1 := Lib.hid k1
  clear k1
  cases v
  all_goals go_enter Try.func22, Try.ntmps22
  all_goals go_wp2_with (first | (go_at_call 57; (with_reducible refine (K1.out _).mono ?_); rintro E w1 ⟨rfl, hb1⟩; have A1 := Lib.hid (show At w1 [(w.heap.size, Obj.cells #[.int .i64 a1, .int .i64 a2, .int .i64 a3, .int .i64 a4] 39)] from At.ext hb1 (show At _ [(w.heap.size, Obj.cells #[.int .i64 a1, .int .i64 a2, .int .i64 a3, .int .i64 a4] 39)] from ⟨(by repeat (first | (refine blk_at _ _ ?_; (first | rfl | (simp only [size_one]; done))) | refine (blk_past _ _ (by simp only [size_one]; omega)).trans ?_)), trivial⟩)); have E1 := Lib.hid (((show Ext w _ from (by repeat (first | exact Ext.refl _ | assumption | refine Ext.alloc ?_ _ | refine Ext.drewN ?_ _ | refine ext_grow ?_ _ _ | refine Ext.setCell ?_ (by first | exact Nat.le_refl _ | omega | (simp; done) | (simp; omega)) _ | refine Ext.trans ?_ (by assumption))))).trans hb1); obtain ⟨⟨c1_0_0, c1_0_1, c1_0_2, c1_0_3⟩, f1_0_0, f1_0_1, f1_0_2, f1_0_3⟩ := run_four (At.at A1.out 0 rfl); have s1_0 : w.heap.size < w1.heap.size := At.lt A1.out 0 rfl))
  all_goals go_ret
  all_goals exact ⟨rfl, E1.out⟩
theorem r_CheckSpan (a : Span) (ha : a.wide) (w : World) :
    Calls Try.prog 22 #[fspanV a] w fun E w' => E = .returned (.int .i64 (checkSpanR a)) ∧ Ext w w' := by
  have h := rCheckSpan_walk a.lo.num a.lo.den a.hi.num a.hi.den _ w (r_ValidSpan a ha)
  have e : (if decide a.ok = true then (0 : Int) else 8) = checkSpanR a := by unfold checkSpanR; simp
  rw [e] at h
  exact h
set_option maxRecDepth 100000 in
set_option maxHeartbeats 8000000 in
theorem rHas_walk (a1 a2 a3 a4 x1 x2 r1 r2 : Int) (t : Bool) (w : World)
    (ht : decide (r1 ≤ 0) = t)
    (k1 : ∀ w, Calls Try.prog 45 #[fracV ⟨a1, a2⟩, fracV ⟨x1, x2⟩] w fun E w' => E = .returned (.int .i64 r1) ∧ Ext w w')
    (k2 : ∀ w, Calls Try.prog 45 #[fracV ⟨x1, x2⟩, fracV ⟨a3, a4⟩] w fun E w' => E = .returned (.int .i64 r2) ∧ Ext w w') :
    Calls Try.prog 58 #[fspanV ⟨⟨a1, a2⟩, ⟨a3, a4⟩⟩, fracV ⟨x1, x2⟩] w fun E w' => E = .returned (.bool (t && decide (r2 ≤ 0))) ∧ Ext w w' := by
  have K1 := Lib.hid k1
  have K2 := Lib.hid k2
  clear k1 k2
  cases t
  · go_enter Try.func58, Try.ntmps58
    go_wp2_with (first | (go_at_call 45; (with_reducible refine (K1.out _).mono ?_); rintro E w1 ⟨rfl, hb1⟩; have A1 := Lib.hid (show At w1 [(w.heap.size, Obj.cells #[.int .i64 a1, .int .i64 a2, .int .i64 a3, .int .i64 a4] 39), (w.heap.size + 1, Obj.cells #[.int .i64 x1, .int .i64 x2] 23)] from At.ext hb1 (show At _ [(w.heap.size, Obj.cells #[.int .i64 a1, .int .i64 a2, .int .i64 a3, .int .i64 a4] 39), (w.heap.size + 1, Obj.cells #[.int .i64 x1, .int .i64 x2] 23)] from ⟨(by repeat (first | (refine blk_at _ _ ?_; (first | rfl | (simp only [size_one]; done))) | refine (blk_past _ _ (by simp only [size_one]; omega)).trans ?_)), (by repeat (first | (refine blk_at _ _ ?_; (first | rfl | (simp only [size_one]; done))) | refine (blk_past _ _ (by simp only [size_one]; omega)).trans ?_)), trivial⟩)); have E1 := Lib.hid (((show Ext w _ from (by repeat (first | exact Ext.refl _ | assumption | refine Ext.alloc ?_ _ | refine Ext.drewN ?_ _ | refine ext_grow ?_ _ _ | refine Ext.setCell ?_ (by first | exact Nat.le_refl _ | omega | (simp; done) | (simp; omega)) _ | refine Ext.trans ?_ (by assumption))))).trans hb1); obtain ⟨⟨c1_0_0, c1_0_1, c1_0_2, c1_0_3⟩, f1_0_0, f1_0_1, f1_0_2, f1_0_3⟩ := run_four (At.at A1.out 0 rfl); have s1_0 : w.heap.size < w1.heap.size := At.lt A1.out 0 rfl; obtain ⟨c1_1_0, c1_1_1, f1_1_0, f1_1_1⟩ := run_pair (At.at A1.out 1 rfl); have s1_1 : w.heap.size + 1 < w1.heap.size := At.lt A1.out 1 rfl))
    go_ret
    exact ⟨ret_bool (by simp [*]), E1.out⟩
  · go_enter Try.func58, Try.ntmps58
    go_wp2_with (first | (go_at_call 45; (with_reducible refine (K1.out _).mono ?_); rintro E w1 ⟨rfl, hb1⟩; have A1 := Lib.hid (show At w1 [(w.heap.size, Obj.cells #[.int .i64 a1, .int .i64 a2, .int .i64 a3, .int .i64 a4] 39), (w.heap.size + 1, Obj.cells #[.int .i64 x1, .int .i64 x2] 23)] from At.ext hb1 (show At _ [(w.heap.size, Obj.cells #[.int .i64 a1, .int .i64 a2, .int .i64 a3, .int .i64 a4] 39), (w.heap.size + 1, Obj.cells #[.int .i64 x1, .int .i64 x2] 23)] from ⟨(by repeat (first | (refine blk_at _ _ ?_; (first | rfl | (simp only [size_one]; done))) | refine (blk_past _ _ (by simp only [size_one]; omega)).trans ?_)), (by repeat (first | (refine blk_at _ _ ?_; (first | rfl | (simp only [size_one]; done))) | refine (blk_past _ _ (by simp only [size_one]; omega)).trans ?_)), trivial⟩)); have E1 := Lib.hid (((show Ext w _ from (by repeat (first | exact Ext.refl _ | assumption | refine Ext.alloc ?_ _ | refine Ext.drewN ?_ _ | refine ext_grow ?_ _ _ | refine Ext.setCell ?_ (by first | exact Nat.le_refl _ | omega | (simp; done) | (simp; omega)) _ | refine Ext.trans ?_ (by assumption))))).trans hb1); obtain ⟨⟨c1_0_0, c1_0_1, c1_0_2, c1_0_3⟩, f1_0_0, f1_0_1, f1_0_2, f1_0_3⟩ := run_four (At.at A1.out 0 rfl); have s1_0 : w.heap.size < w1.heap.size := At.lt A1.out 0 rfl; obtain ⟨c1_1_0, c1_1_1, f1_1_0, f1_1_1⟩ := run_pair (At.at A1.out 1 rfl); have s1_1 : w.heap.size + 1 < w1.heap.size := At.lt A1.out 1 rfl) | (go_at_call 45; (with_reducible refine (K2.out _).mono ?_); rintro E w2 ⟨rfl, hb2⟩; have A2 := Lib.hid (show At w2 [(w.heap.size, Obj.cells #[.int .i64 a1, .int .i64 a2, .int .i64 a3, .int .i64 a4] 39), (w.heap.size + 1, Obj.cells #[.int .i64 x1, .int .i64 x2] 23)] from At.ext hb2 A1.out); have E2 := Lib.hid ((E1.out).trans hb2); obtain ⟨⟨c2_0_0, c2_0_1, c2_0_2, c2_0_3⟩, f2_0_0, f2_0_1, f2_0_2, f2_0_3⟩ := run_four (At.at A2.out 0 rfl); have s2_0 : w.heap.size < w2.heap.size := At.lt A2.out 0 rfl; obtain ⟨c2_1_0, c2_1_1, f2_1_0, f2_1_1⟩ := run_pair (At.at A2.out 1 rfl); have s2_1 : w.heap.size + 1 < w2.heap.size := At.lt A2.out 1 rfl; (try clear c1_0_0 c1_0_1 c1_0_2 c1_0_3 f1_0_0 f1_0_1 f1_0_2 f1_0_3 c1_1_0 c1_1_1 f1_1_0 f1_1_1 s1_0 s1_1)))
    go_ret
    exact ⟨ret_bool (by simp [*]), E2.out⟩
theorem r_Has (lo hi x : Rat) (h1 : Fits lo) (h2 : Fits hi) (hx : Fits x) (w : World) :
    Calls Try.prog 58 #[spanV lo hi, ratV x] w fun E w' => E = .returned (.bool (decide (lo ≤ x ∧ x ≤ hi))) ∧ Ext w w' := by
  have h := rHas_walk (nm lo) (dn lo) (nm hi) (dn hi) (nm x) (dn x) _ _ _ w rfl (r_Order lo x h1 hx) (r_Order x hi hx h2)
  have e : (decide (cmp lo x ≤ 0) && decide (cmp x hi ≤ 0)) = decide (lo ≤ x ∧ x ≤ hi) := by
    rw [Bool.eq_iff_iff]; simp only [Bool.and_eq_true, decide_eq_true_eq, cmp_le_iff]
  rw [e] at h
  exact h
set_option maxRecDepth 100000 in
set_option maxHeartbeats 8000000 in
theorem rIn_walk (a1 a2 a3 a4 x1 x2 : Int) (va vb t : Bool) (w : World)
    (k1 : ∀ w, Calls Try.prog 57 #[fspanV ⟨⟨a1, a2⟩, ⟨a3, a4⟩⟩] w fun E w' => E = .returned (.bool va) ∧ Ext w w')
    (k2 : ∀ w, Calls Try.prog 43 #[fracV ⟨x1, x2⟩] w fun E w' => E = .returned (.bool vb) ∧ Ext w w')
    (k3 : va = true → vb = true → ∀ w, Calls Try.prog 58 #[fspanV ⟨⟨a1, a2⟩, ⟨a3, a4⟩⟩, fracV ⟨x1, x2⟩] w fun E w' => E = .returned (.bool t) ∧ Ext w w') :
    Calls Try.prog 20 #[fspanV ⟨⟨a1, a2⟩, ⟨a3, a4⟩⟩, fracV ⟨x1, x2⟩] w fun E w' => E = .returned (.tuple #[.bool (va && vb && t), .int .i64 (if va && vb then 0 else 8)]) ∧ Ext w w' := by
  have K1 := Lib.hid k1
  have K2 := Lib.hid k2
  have K3 := Lib.hid k3
  clear k1 k2 k3
  cases va
  · go_enter Try.func20, Try.ntmps20
    go_wp2_with (first | (go_at_call 57; (with_reducible refine (K1.out _).mono ?_); rintro E w1 ⟨rfl, hb1⟩; have A1 := Lib.hid (show At w1 [(w.heap.size, Obj.cells #[.int .i64 a1, .int .i64 a2, .int .i64 a3, .int .i64 a4] 39), (w.heap.size + 1, Obj.cells #[.int .i64 x1, .int .i64 x2] 23)] from At.ext hb1 (show At _ [(w.heap.size, Obj.cells #[.int .i64 a1, .int .i64 a2, .int .i64 a3, .int .i64 a4] 39), (w.heap.size + 1, Obj.cells #[.int .i64 x1, .int .i64 x2] 23)] from ⟨(by repeat (first | (refine blk_at _ _ ?_; (first | rfl | (simp only [size_one]; done))) | refine (blk_past _ _ (by simp only [size_one]; omega)).trans ?_)), (by repeat (first | (refine blk_at _ _ ?_; (first | rfl | (simp only [size_one]; done))) | refine (blk_past _ _ (by simp only [size_one]; omega)).trans ?_)), trivial⟩)); have E1 := Lib.hid (((show Ext w _ from (by repeat (first | exact Ext.refl _ | assumption | refine Ext.alloc ?_ _ | refine Ext.drewN ?_ _ | refine ext_grow ?_ _ _ | refine Ext.setCell ?_ (by first | exact Nat.le_refl _ | omega | (simp; done) | (simp; omega)) _ | refine Ext.trans ?_ (by assumption))))).trans hb1); obtain ⟨⟨c1_0_0, c1_0_1, c1_0_2, c1_0_3⟩, f1_0_0, f1_0_1, f1_0_2, f1_0_3⟩ := run_four (At.at A1.out 0 rfl); have s1_0 : w.heap.size < w1.heap.size := At.lt A1.out 0 rfl; obtain ⟨c1_1_0, c1_1_1, f1_1_0, f1_1_1⟩ := run_pair (At.at A1.out 1 rfl); have s1_1 : w.heap.size + 1 < w1.heap.size := At.lt A1.out 1 rfl))
    go_ret2
    exact ⟨rfl, E1.out⟩
  · cases vb
    · go_enter Try.func20, Try.ntmps20
      go_wp2_with (first | (go_at_call 57; (with_reducible refine (K1.out _).mono ?_); rintro E w1 ⟨rfl, hb1⟩; have A1 := Lib.hid (show At w1 [(w.heap.size, Obj.cells #[.int .i64 a1, .int .i64 a2, .int .i64 a3, .int .i64 a4] 39), (w.heap.size + 1, Obj.cells #[.int .i64 x1, .int .i64 x2] 23)] from At.ext hb1 (show At _ [(w.heap.size, Obj.cells #[.int .i64 a1, .int .i64 a2, .int .i64 a3, .int .i64 a4] 39), (w.heap.size + 1, Obj.cells #[.int .i64 x1, .int .i64 x2] 23)] from ⟨(by repeat (first | (refine blk_at _ _ ?_; (first | rfl | (simp only [size_one]; done))) | refine (blk_past _ _ (by simp only [size_one]; omega)).trans ?_)), (by repeat (first | (refine blk_at _ _ ?_; (first | rfl | (simp only [size_one]; done))) | refine (blk_past _ _ (by simp only [size_one]; omega)).trans ?_)), trivial⟩)); have E1 := Lib.hid (((show Ext w _ from (by repeat (first | exact Ext.refl _ | assumption | refine Ext.alloc ?_ _ | refine Ext.drewN ?_ _ | refine ext_grow ?_ _ _ | refine Ext.setCell ?_ (by first | exact Nat.le_refl _ | omega | (simp; done) | (simp; omega)) _ | refine Ext.trans ?_ (by assumption))))).trans hb1); obtain ⟨⟨c1_0_0, c1_0_1, c1_0_2, c1_0_3⟩, f1_0_0, f1_0_1, f1_0_2, f1_0_3⟩ := run_four (At.at A1.out 0 rfl); have s1_0 : w.heap.size < w1.heap.size := At.lt A1.out 0 rfl; obtain ⟨c1_1_0, c1_1_1, f1_1_0, f1_1_1⟩ := run_pair (At.at A1.out 1 rfl); have s1_1 : w.heap.size + 1 < w1.heap.size := At.lt A1.out 1 rfl) | (go_at_call 43; (with_reducible refine (K2.out _).mono ?_); rintro E w2 ⟨rfl, hb2⟩; have A2 := Lib.hid (show At w2 [(w.heap.size, Obj.cells #[.int .i64 a1, .int .i64 a2, .int .i64 a3, .int .i64 a4] 39), (w.heap.size + 1, Obj.cells #[.int .i64 x1, .int .i64 x2] 23)] from At.ext hb2 A1.out); have E2 := Lib.hid ((E1.out).trans hb2); obtain ⟨⟨c2_0_0, c2_0_1, c2_0_2, c2_0_3⟩, f2_0_0, f2_0_1, f2_0_2, f2_0_3⟩ := run_four (At.at A2.out 0 rfl); have s2_0 : w.heap.size < w2.heap.size := At.lt A2.out 0 rfl; obtain ⟨c2_1_0, c2_1_1, f2_1_0, f2_1_1⟩ := run_pair (At.at A2.out 1 rfl); have s2_1 : w.heap.size + 1 < w2.heap.size := At.lt A2.out 1 rfl; (try clear c1_0_0 c1_0_1 c1_0_2 c1_0_3 f1_0_0 f1_0_1 f1_0_2 f1_0_3 c1_1_0 c1_1_1 f1_1_0 f1_1_1 s1_0 s1_1)))
      go_ret2
      exact ⟨rfl, E2.out⟩
    · have K3x := Lib.hid (K3.out rfl rfl)
      clear K3
      go_enter Try.func20, Try.ntmps20
      go_wp2_with (first | (go_at_call 57; (with_reducible refine (K1.out _).mono ?_); rintro E w1 ⟨rfl, hb1⟩; have A1 := Lib.hid (show At w1 [(w.heap.size, Obj.cells #[.int .i64 a1, .int .i64 a2, .int .i64 a3, .int .i64 a4] 39), (w.heap.size + 1, Obj.cells #[.int .i64 x1, .int .i64 x2] 23)] from At.ext hb1 (show At _ [(w.heap.size, Obj.cells #[.int .i64 a1, .int .i64 a2, .int .i64 a3, .int .i64 a4] 39), (w.heap.size + 1, Obj.cells #[.int .i64 x1, .int .i64 x2] 23)] from ⟨(by repeat (first | (refine blk_at _ _ ?_; (first | rfl | (simp only [size_one]; done))) | refine (blk_past _ _ (by simp only [size_one]; omega)).trans ?_)), (by repeat (first | (refine blk_at _ _ ?_; (first | rfl | (simp only [size_one]; done))) | refine (blk_past _ _ (by simp only [size_one]; omega)).trans ?_)), trivial⟩)); have E1 := Lib.hid (((show Ext w _ from (by repeat (first | exact Ext.refl _ | assumption | refine Ext.alloc ?_ _ | refine Ext.drewN ?_ _ | refine ext_grow ?_ _ _ | refine Ext.setCell ?_ (by first | exact Nat.le_refl _ | omega | (simp; done) | (simp; omega)) _ | refine Ext.trans ?_ (by assumption))))).trans hb1); obtain ⟨⟨c1_0_0, c1_0_1, c1_0_2, c1_0_3⟩, f1_0_0, f1_0_1, f1_0_2, f1_0_3⟩ := run_four (At.at A1.out 0 rfl); have s1_0 : w.heap.size < w1.heap.size := At.lt A1.out 0 rfl; obtain ⟨c1_1_0, c1_1_1, f1_1_0, f1_1_1⟩ := run_pair (At.at A1.out 1 rfl); have s1_1 : w.heap.size + 1 < w1.heap.size := At.lt A1.out 1 rfl) | (go_at_call 43; (with_reducible refine (K2.out _).mono ?_); rintro E w2 ⟨rfl, hb2⟩; have A2 := Lib.hid (show At w2 [(w.heap.size, Obj.cells #[.int .i64 a1, .int .i64 a2, .int .i64 a3, .int .i64 a4] 39), (w.heap.size + 1, Obj.cells #[.int .i64 x1, .int .i64 x2] 23)] from At.ext hb2 A1.out); have E2 := Lib.hid ((E1.out).trans hb2); obtain ⟨⟨c2_0_0, c2_0_1, c2_0_2, c2_0_3⟩, f2_0_0, f2_0_1, f2_0_2, f2_0_3⟩ := run_four (At.at A2.out 0 rfl); have s2_0 : w.heap.size < w2.heap.size := At.lt A2.out 0 rfl; obtain ⟨c2_1_0, c2_1_1, f2_1_0, f2_1_1⟩ := run_pair (At.at A2.out 1 rfl); have s2_1 : w.heap.size + 1 < w2.heap.size := At.lt A2.out 1 rfl; (try clear c1_0_0 c1_0_1 c1_0_2 c1_0_3 f1_0_0 f1_0_1 f1_0_2 f1_0_3 c1_1_0 c1_1_1 f1_1_0 f1_1_1 s1_0 s1_1)) | (go_at_call 58; (with_reducible refine (K3x.out _).mono ?_); rintro E w3 ⟨rfl, hb3⟩; have A3 := Lib.hid (show At w3 [(w.heap.size, Obj.cells #[.int .i64 a1, .int .i64 a2, .int .i64 a3, .int .i64 a4] 39), (w.heap.size + 1, Obj.cells #[.int .i64 x1, .int .i64 x2] 23)] from At.ext hb3 A2.out); have E3 := Lib.hid ((E2.out).trans hb3); obtain ⟨⟨c3_0_0, c3_0_1, c3_0_2, c3_0_3⟩, f3_0_0, f3_0_1, f3_0_2, f3_0_3⟩ := run_four (At.at A3.out 0 rfl); have s3_0 : w.heap.size < w3.heap.size := At.lt A3.out 0 rfl; obtain ⟨c3_1_0, c3_1_1, f3_1_0, f3_1_1⟩ := run_pair (At.at A3.out 1 rfl); have s3_1 : w.heap.size + 1 < w3.heap.size := At.lt A3.out 1 rfl; (try clear c2_0_0 c2_0_1 c2_0_2 c2_0_3 f2_0_0 f2_0_1 f2_0_2 f2_0_3 c2_1_0 c2_1_1 f2_1_0 f2_1_1 s2_0 s2_1)))
      go_ret2
      exact ⟨rfl, E3.out⟩
theorem r_In (s : Span) (x : Frac) (hs : s.wide) (hx : x.wide) (w : World) :
    Calls Try.prog 20 #[fspanV s, fracV x] w fun E w' => E = .returned (.tuple #[.bool (inR s x).1, .int .i64 (inR s x).2]) ∧ Ext w w' := by
  by_cases hn : s.ok ∧ x.ok
  · have e : inR s x = (decide (s.lo.val ≤ x.val ∧ x.val ≤ s.hi.val), 0) := if_pos hn
    rw [e]
    obtain ⟨lo, hi, f1, f2, f3, rfl⟩ := Span.of_ok hn.1
    obtain ⟨q, hq, rfl⟩ := Frac.of_ok hn.2
    have h := rIn_walk (nm lo) (dn lo) (nm hi) (dn hi) (nm q) (dn q) _ _ _ w (r_ValidSpan (mkSpan lo hi) hs) (r_Valid (fracOf q) hx) (fun _ _ => r_Has lo hi q f1 f2 hq)
    rw [decide_eq_true hn.1, decide_eq_true hn.2] at h
    simp only [show (mkSpan lo hi).lo.val = lo from fracOf_val lo, show (mkSpan lo hi).hi.val = hi from fracOf_val hi, fracOf_val]
    exact h
  · have e : inR s x = (false, 8) := if_neg hn
    rw [e]
    have h := rIn_walk s.lo.num s.lo.den s.hi.num s.hi.den x.num x.den _ _ false w (r_ValidSpan s hs) (r_Valid x hx) (fun h1 h2 => absurd ⟨of_decide_eq_true h1, of_decide_eq_true h2⟩ hn)
    have e2 : (decide s.ok && decide x.ok) = false := by rw [Bool.eq_false_iff]; simpa using hn
    rw [e2] at h
    exact h
set_option maxRecDepth 100000 in
set_option maxHeartbeats 8000000 in
theorem rLeast_walk (a1 a2 b1 b2 r : Int) (t : Bool) (w : World)
    (ht : decide (r ≤ 0) = t)
    (k1 : ∀ w, Calls Try.prog 45 #[fracV ⟨a1, a2⟩, fracV ⟨b1, b2⟩] w fun E w' => E = .returned (.int .i64 r) ∧ Ext w w') :
    Calls Try.prog 65 #[fracV ⟨a1, a2⟩, fracV ⟨b1, b2⟩] w fun E w' => E = .returned (fracV (if t = true then ⟨a1, a2⟩ else ⟨b1, b2⟩)) ∧ Ext w w' := by
  have K1 := Lib.hid k1
  clear k1
  cases t
  · go_enter Try.func65, Try.ntmps65
    go_wp2_with (first | (go_at_call 45; (with_reducible refine (K1.out _).mono ?_); rintro E w1 ⟨rfl, hb1⟩; have A1 := Lib.hid (show At w1 [(w.heap.size, Obj.cells #[.int .i64 a1, .int .i64 a2] 23), (w.heap.size + 1, Obj.cells #[.int .i64 b1, .int .i64 b2] 23), (w.heap.size + 1 + 1, Obj.cells #[.int .i64 0, .int .i64 0] 23)] from At.ext hb1 (show At _ [(w.heap.size, Obj.cells #[.int .i64 a1, .int .i64 a2] 23), (w.heap.size + 1, Obj.cells #[.int .i64 b1, .int .i64 b2] 23), (w.heap.size + 1 + 1, Obj.cells #[.int .i64 0, .int .i64 0] 23)] from ⟨(by repeat (first | (refine blk_at _ _ ?_; (first | rfl | (simp only [size_one]; done))) | refine (blk_past _ _ (by simp only [size_one]; omega)).trans ?_)), (by repeat (first | (refine blk_at _ _ ?_; (first | rfl | (simp only [size_one]; done))) | refine (blk_past _ _ (by simp only [size_one]; omega)).trans ?_)), (by repeat (first | (refine blk_at _ _ ?_; (first | rfl | (simp only [size_one]; done))) | refine (blk_past _ _ (by simp only [size_one]; omega)).trans ?_)), trivial⟩)); have E1 := Lib.hid (((show Ext w _ from (by repeat (first | exact Ext.refl _ | assumption | refine Ext.alloc ?_ _ | refine Ext.drewN ?_ _ | refine ext_grow ?_ _ _ | refine Ext.setCell ?_ (by first | exact Nat.le_refl _ | omega | (simp; done) | (simp; omega)) _ | refine Ext.trans ?_ (by assumption))))).trans hb1); obtain ⟨c1_0_0, c1_0_1, f1_0_0, f1_0_1⟩ := run_pair (At.at A1.out 0 rfl); have s1_0 : w.heap.size < w1.heap.size := At.lt A1.out 0 rfl; obtain ⟨c1_1_0, c1_1_1, f1_1_0, f1_1_1⟩ := run_pair (At.at A1.out 1 rfl); have s1_1 : w.heap.size + 1 < w1.heap.size := At.lt A1.out 1 rfl; obtain ⟨c1_2_0, c1_2_1, f1_2_0, f1_2_1⟩ := run_pair (At.at A1.out 2 rfl); have s1_2 : w.heap.size + 1 + 1 < w1.heap.size := At.lt A1.out 2 rfl))
    refine bodyPost_ret (RT.results_row1 rfl _ _ (w.heap.size + 1 + 1) 23 #[.int .i64 b1, .int .i64 b2] (0, 0) _ rfl (store_pair (v0 := .int .i64 b1) (v1 := .int .i64 b2) (At.at A1.out 2 rfl)).1 Try.underlying23 rfl info_frac) rfl ?_
    exact ⟨rfl, (store_pair (v0 := .int .i64 b1) (v1 := .int .i64 b2) (At.at A1.out 2 rfl)).2.2 w (by omega) E1.out⟩
  · go_enter Try.func65, Try.ntmps65
    go_wp2_with (first | (go_at_call 45; (with_reducible refine (K1.out _).mono ?_); rintro E w1 ⟨rfl, hb1⟩; have A1 := Lib.hid (show At w1 [(w.heap.size, Obj.cells #[.int .i64 a1, .int .i64 a2] 23), (w.heap.size + 1, Obj.cells #[.int .i64 b1, .int .i64 b2] 23), (w.heap.size + 1 + 1, Obj.cells #[.int .i64 0, .int .i64 0] 23)] from At.ext hb1 (show At _ [(w.heap.size, Obj.cells #[.int .i64 a1, .int .i64 a2] 23), (w.heap.size + 1, Obj.cells #[.int .i64 b1, .int .i64 b2] 23), (w.heap.size + 1 + 1, Obj.cells #[.int .i64 0, .int .i64 0] 23)] from ⟨(by repeat (first | (refine blk_at _ _ ?_; (first | rfl | (simp only [size_one]; done))) | refine (blk_past _ _ (by simp only [size_one]; omega)).trans ?_)), (by repeat (first | (refine blk_at _ _ ?_; (first | rfl | (simp only [size_one]; done))) | refine (blk_past _ _ (by simp only [size_one]; omega)).trans ?_)), (by repeat (first | (refine blk_at _ _ ?_; (first | rfl | (simp only [size_one]; done))) | refine (blk_past _ _ (by simp only [size_one]; omega)).trans ?_)), trivial⟩)); have E1 := Lib.hid (((show Ext w _ from (by repeat (first | exact Ext.refl _ | assumption | refine Ext.alloc ?_ _ | refine Ext.drewN ?_ _ | refine ext_grow ?_ _ _ | refine Ext.setCell ?_ (by first | exact Nat.le_refl _ | omega | (simp; done) | (simp; omega)) _ | refine Ext.trans ?_ (by assumption))))).trans hb1); obtain ⟨c1_0_0, c1_0_1, f1_0_0, f1_0_1⟩ := run_pair (At.at A1.out 0 rfl); have s1_0 : w.heap.size < w1.heap.size := At.lt A1.out 0 rfl; obtain ⟨c1_1_0, c1_1_1, f1_1_0, f1_1_1⟩ := run_pair (At.at A1.out 1 rfl); have s1_1 : w.heap.size + 1 < w1.heap.size := At.lt A1.out 1 rfl; obtain ⟨c1_2_0, c1_2_1, f1_2_0, f1_2_1⟩ := run_pair (At.at A1.out 2 rfl); have s1_2 : w.heap.size + 1 + 1 < w1.heap.size := At.lt A1.out 2 rfl))
    refine bodyPost_ret (RT.results_row1 rfl _ _ (w.heap.size + 1 + 1) 23 #[.int .i64 a1, .int .i64 a2] (0, 0) _ rfl (store_pair (v0 := .int .i64 a1) (v1 := .int .i64 a2) (At.at A1.out 2 rfl)).1 Try.underlying23 rfl info_frac) rfl ?_
    exact ⟨rfl, (store_pair (v0 := .int .i64 a1) (v1 := .int .i64 a2) (At.at A1.out 2 rfl)).2.2 w (by omega) E1.out⟩
theorem r_Least (p q : Rat) (hp : Fits p) (hq : Fits q) (w : World) :
    Calls Try.prog 65 #[ratV p, ratV q] w fun E w' => E = .returned (ratV (ratMin p q)) ∧ Ext w w' := by
    have h := rLeast_walk (nm p) (dn p) (nm q) (dn q) _ _ w rfl (r_Order p q hp hq)
    have e : (if decide (cmp p q ≤ 0) = true then (⟨nm p, dn p⟩ : Frac) else ⟨nm q, dn q⟩) = ⟨nm (ratMin p q), dn (ratMin p q)⟩ := by
      simp only [decide_eq_true_eq, cmp_le_iff]
      unfold ratMin
      by_cases k : q < p
      · rw [if_pos k, if_neg (by grind)]
      · rw [if_neg k, if_pos (by grind)]
    rw [e] at h
    exact h
set_option maxRecDepth 100000 in
set_option maxHeartbeats 8000000 in
theorem rMost_walk (a1 a2 b1 b2 r : Int) (t : Bool) (w : World)
    (ht : decide (0 ≤ r) = t)
    (k1 : ∀ w, Calls Try.prog 45 #[fracV ⟨a1, a2⟩, fracV ⟨b1, b2⟩] w fun E w' => E = .returned (.int .i64 r) ∧ Ext w w') :
    Calls Try.prog 64 #[fracV ⟨a1, a2⟩, fracV ⟨b1, b2⟩] w fun E w' => E = .returned (fracV (if t = true then ⟨a1, a2⟩ else ⟨b1, b2⟩)) ∧ Ext w w' := by
  have K1 := Lib.hid k1
  clear k1
  cases t
  · go_enter Try.func64, Try.ntmps64
    go_wp2_with (first | (go_at_call 45; (with_reducible refine (K1.out _).mono ?_); rintro E w1 ⟨rfl, hb1⟩; have A1 := Lib.hid (show At w1 [(w.heap.size, Obj.cells #[.int .i64 a1, .int .i64 a2] 23), (w.heap.size + 1, Obj.cells #[.int .i64 b1, .int .i64 b2] 23), (w.heap.size + 1 + 1, Obj.cells #[.int .i64 0, .int .i64 0] 23)] from At.ext hb1 (show At _ [(w.heap.size, Obj.cells #[.int .i64 a1, .int .i64 a2] 23), (w.heap.size + 1, Obj.cells #[.int .i64 b1, .int .i64 b2] 23), (w.heap.size + 1 + 1, Obj.cells #[.int .i64 0, .int .i64 0] 23)] from ⟨(by repeat (first | (refine blk_at _ _ ?_; (first | rfl | (simp only [size_one]; done))) | refine (blk_past _ _ (by simp only [size_one]; omega)).trans ?_)), (by repeat (first | (refine blk_at _ _ ?_; (first | rfl | (simp only [size_one]; done))) | refine (blk_past _ _ (by simp only [size_one]; omega)).trans ?_)), (by repeat (first | (refine blk_at _ _ ?_; (first | rfl | (simp only [size_one]; done))) | refine (blk_past _ _ (by simp only [size_one]; omega)).trans ?_)), trivial⟩)); have E1 := Lib.hid (((show Ext w _ from (by repeat (first | exact Ext.refl _ | assumption | refine Ext.alloc ?_ _ | refine Ext.drewN ?_ _ | refine ext_grow ?_ _ _ | refine Ext.setCell ?_ (by first | exact Nat.le_refl _ | omega | (simp; done) | (simp; omega)) _ | refine Ext.trans ?_ (by assumption))))).trans hb1); obtain ⟨c1_0_0, c1_0_1, f1_0_0, f1_0_1⟩ := run_pair (At.at A1.out 0 rfl); have s1_0 : w.heap.size < w1.heap.size := At.lt A1.out 0 rfl; obtain ⟨c1_1_0, c1_1_1, f1_1_0, f1_1_1⟩ := run_pair (At.at A1.out 1 rfl); have s1_1 : w.heap.size + 1 < w1.heap.size := At.lt A1.out 1 rfl; obtain ⟨c1_2_0, c1_2_1, f1_2_0, f1_2_1⟩ := run_pair (At.at A1.out 2 rfl); have s1_2 : w.heap.size + 1 + 1 < w1.heap.size := At.lt A1.out 2 rfl))
    refine bodyPost_ret (RT.results_row1 rfl _ _ (w.heap.size + 1 + 1) 23 #[.int .i64 b1, .int .i64 b2] (0, 0) _ rfl (store_pair (v0 := .int .i64 b1) (v1 := .int .i64 b2) (At.at A1.out 2 rfl)).1 Try.underlying23 rfl info_frac) rfl ?_
    exact ⟨rfl, (store_pair (v0 := .int .i64 b1) (v1 := .int .i64 b2) (At.at A1.out 2 rfl)).2.2 w (by omega) E1.out⟩
  · go_enter Try.func64, Try.ntmps64
    go_wp2_with (first | (go_at_call 45; (with_reducible refine (K1.out _).mono ?_); rintro E w1 ⟨rfl, hb1⟩; have A1 := Lib.hid (show At w1 [(w.heap.size, Obj.cells #[.int .i64 a1, .int .i64 a2] 23), (w.heap.size + 1, Obj.cells #[.int .i64 b1, .int .i64 b2] 23), (w.heap.size + 1 + 1, Obj.cells #[.int .i64 0, .int .i64 0] 23)] from At.ext hb1 (show At _ [(w.heap.size, Obj.cells #[.int .i64 a1, .int .i64 a2] 23), (w.heap.size + 1, Obj.cells #[.int .i64 b1, .int .i64 b2] 23), (w.heap.size + 1 + 1, Obj.cells #[.int .i64 0, .int .i64 0] 23)] from ⟨(by repeat (first | (refine blk_at _ _ ?_; (first | rfl | (simp only [size_one]; done))) | refine (blk_past _ _ (by simp only [size_one]; omega)).trans ?_)), (by repeat (first | (refine blk_at _ _ ?_; (first | rfl | (simp only [size_one]; done))) | refine (blk_past _ _ (by simp only [size_one]; omega)).trans ?_)), (by repeat (first | (refine blk_at _ _ ?_; (first | rfl | (simp only [size_one]; done))) | refine (blk_past _ _ (by simp only [size_one]; omega)).trans ?_)), trivial⟩)); have E1 := Lib.hid (((show Ext w _ from (by repeat (first | exact Ext.refl _ | assumption | refine Ext.alloc ?_ _ | refine Ext.drewN ?_ _ | refine ext_grow ?_ _ _ | refine Ext.setCell ?_ (by first | exact Nat.le_refl _ | omega | (simp; done) | (simp; omega)) _ | refine Ext.trans ?_ (by assumption))))).trans hb1); obtain ⟨c1_0_0, c1_0_1, f1_0_0, f1_0_1⟩ := run_pair (At.at A1.out 0 rfl); have s1_0 : w.heap.size < w1.heap.size := At.lt A1.out 0 rfl; obtain ⟨c1_1_0, c1_1_1, f1_1_0, f1_1_1⟩ := run_pair (At.at A1.out 1 rfl); have s1_1 : w.heap.size + 1 < w1.heap.size := At.lt A1.out 1 rfl; obtain ⟨c1_2_0, c1_2_1, f1_2_0, f1_2_1⟩ := run_pair (At.at A1.out 2 rfl); have s1_2 : w.heap.size + 1 + 1 < w1.heap.size := At.lt A1.out 2 rfl))
    refine bodyPost_ret (RT.results_row1 rfl _ _ (w.heap.size + 1 + 1) 23 #[.int .i64 a1, .int .i64 a2] (0, 0) _ rfl (store_pair (v0 := .int .i64 a1) (v1 := .int .i64 a2) (At.at A1.out 2 rfl)).1 Try.underlying23 rfl info_frac) rfl ?_
    exact ⟨rfl, (store_pair (v0 := .int .i64 a1) (v1 := .int .i64 a2) (At.at A1.out 2 rfl)).2.2 w (by omega) E1.out⟩
theorem r_Most (p q : Rat) (hp : Fits p) (hq : Fits q) (w : World) :
    Calls Try.prog 64 #[ratV p, ratV q] w fun E w' => E = .returned (ratV (ratMax p q)) ∧ Ext w w' := by
    have h := rMost_walk (nm p) (dn p) (nm q) (dn q) _ _ w rfl (r_Order p q hp hq)
    have e : (if decide (0 ≤ cmp p q) = true then (⟨nm p, dn p⟩ : Frac) else ⟨nm q, dn q⟩) = ⟨nm (ratMax p q), dn (ratMax p q)⟩ := by
      have k0 := cmp_neg_iff p q
      simp only [decide_eq_true_eq]
      unfold ratMax
      by_cases k : p < q
      · rw [if_pos k, if_neg (by have := k0.2 k; omega)]
      · rw [if_neg k, if_pos (by rcases Int.lt_or_le (cmp p q) 0 with h | h; exact absurd (k0.1 h) k; exact h)]
    rw [e] at h
    exact h
end Go.Proofs.Ytodoimeiklilhaa
