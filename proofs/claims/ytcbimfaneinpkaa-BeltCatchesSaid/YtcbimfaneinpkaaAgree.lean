/- The walks of 'agree': of the program and of the reference. -/
import Derived.Test.YtcbimfaneinpkaaMatchWalks
namespace Go.Proofs.Ytcbimfaneinpkaa
open Go.RowKit Go.Sort

theorem gap_bd {x k : Int} (h1 : -1099511627776 ≤ x) (h2 : x ≤ 1099511627776) (h3 : 1 ≤ k) (h4 : k ≤ 2000) : -2199023255552000 ≤ x * k ∧ x * k ≤ 2199023255552000 := by
  rcases Int.le_total 0 x with h | h
  · have a := Int.mul_le_mul_of_nonneg_left h4 h
    have c := Int.mul_nonneg h (show 0 ≤ k by omega)
    omega
  · have a := Int.mul_le_mul_of_nonneg_left h4 (show 0 ≤ -x by omega)
    have c := Int.mul_nonneg (show 0 ≤ -x by omega) (show 0 ≤ k by omega)
    rw [Int.neg_mul] at a c
    rw [Int.neg_mul] at a
    omega

theorem pace_bd {b : Belt} (h : b.ok) : (1 ≤ least b ∧ least b ≤ 2000) ∧ (1 ≤ most b ∧ most b ≤ 2000) := by
  obtain ⟨a1, a2, a3, a4, a5, a6, a7, a8⟩ := h
  unfold least most; omega

set_option maxHeartbeats 1000000 in
theorem w60 (b : Belt) (hok : b.ok) (x y : Int) (x1 : -1099511627776 ≤ x) (x2 : x ≤ 1099511627776) (y1 : -1099511627776 ≤ y) (y2 : y ≤ 1099511627776) (w : World) :
    Calls Try.prog 60 #[.agg #[.int .i64 b.step, .int .i64 b.slip, .int .i64 b.gate, .int .i64 b.length, .int .i64 (least b), .int .i64 (most b)], .int .i64 x, .int .i64 y] w
      fun e w' => e = .returned (.bool (decide (agree b x y))) ∧ Ext w w' := by
  obtain ⟨⟨p1, p2⟩, p3, p4⟩ := pace_bd hok
  obtain ⟨q1, q2⟩ := gap_bd x1 x2 p1 p2
  obtain ⟨q3, q4⟩ := gap_bd x1 x2 p3 p4
  obtain ⟨q5, q6⟩ := gap_bd y1 y2 p1 p2
  obtain ⟨q7, q8⟩ := gap_bd y1 y2 p3 p4
  by_cases c1 : x * least b ≤ y * most b
  all_goals by_cases c2 : y * least b ≤ x * most b
  all_goals go_enter Try.func60, Try.ntmps60
  all_goals go_wp2
  all_goals (go_ret; refine ⟨ret_bool (dec_of ?_), (Ext.refl _).alloc _⟩; simp [agree, c1, c2])

set_option maxHeartbeats 1000000 in
theorem w50 (b : Belt) (hok : b.ok) (x y : Int) (x1 : -1099511627776 ≤ x) (x2 : x ≤ 1099511627776) (y1 : -1099511627776 ≤ y) (y2 : y ≤ 1099511627776) (w : World) :
    Calls Try.prog 50 #[.agg #[.int .i64 b.step, .int .i64 b.slip, .int .i64 b.gate, .int .i64 b.length], .int .i64 x, .int .i64 y] w
      fun e w' => e = .returned (.bool (decide (agree b x y))) ∧ Ext w w' := by
  obtain ⟨⟨p1, p2⟩, p3, p4⟩ := pace_bd hok
  obtain ⟨q1, q2⟩ := gap_bd x1 x2 p1 p2
  obtain ⟨q3, q4⟩ := gap_bd x1 x2 p3 p4
  obtain ⟨q5, q6⟩ := gap_bd y1 y2 p1 p2
  obtain ⟨q7, q8⟩ := gap_bd y1 y2 p3 p4
  obtain ⟨a1, a2, a3, a4, a5, a6, a7, a8⟩ := hok
  unfold agree least most at *
  by_cases c1 : x * (b.step - b.slip) ≤ y * (b.step + b.slip)
  all_goals by_cases c2 : y * (b.step - b.slip) ≤ x * (b.step + b.slip)
  all_goals go_enter Try.func50, Try.ntmps50
  all_goals go_wp2_with fail
  all_goals go_quiet (fail)
  all_goals go_wp2
  all_goals (go_ret; refine ⟨ret_bool (dec_of ?_), ((Ext.refl _).alloc _).drewN _⟩; simp [c1, c2])
end Go.Proofs.Ytcbimfaneinpkaa
