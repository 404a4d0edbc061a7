/- Searches: the same search, a great search, an area that has a pose: the walks. -/
import Derived.Test.YtipkjdfnoonpcaaCheckSpec
import Derived.Test.YtipkjdfnoonpcaaSameG
set_option linter.unusedVariables false
set_option linter.unusedSimpArgs false
namespace Go.Proofs.Ytipkjdfnoonpcaa
open Go.RowKit Go.Sort

/-- a search that is held to be great -/
def greatB (ms : List Match) (ar : List Area) : Bool := decide (13000 < ms.length) || decide (13000 < ar.length)
set_option maxRecDepth 100000 in
set_option maxHeartbeats 4000000 in
theorem c32 (ms : List Match) (ar : List Area) (mv av : Value) (w : World) (h1 : MatchesAt w mv ms) (h2 : AreasAt w av ar) :
    Calls Try.prog 32 #[searchVal mv av] w fun e w' => e = .returned (.bool (greatB ms ar)) ∧ Ext w w' := by
  obtain ⟨a1, c1, rfl, -, -⟩ := h1.form
  obtain ⟨a2, c2, rfl, -, -⟩ := h2.form
  unfold searchVal
  clear h1 h2
  by_cases h1 : 13000 < ms.length
  · have q1 : decide (13000 < ms.length) = true := decide_eq_true h1
    have q2 : (13000 : Int) < (ms.length : Int) := by omega
    have HR := Lib.hid (show greatB ms ar = true by unfold greatB; rw [q1]; rfl)
    go_enter Try.func32, Try.ntmps32
    go_wp2
    go_ret
    exact ⟨ret_bool HR.out.symm, (by repeat (first | exact Ext.refl _ | assumption | refine Ext.alloc ?_ _ | refine Ext.drewN ?_ _ | refine ext_grow ?_ _ _ | refine Ext.trans ?_ (by assumption)))⟩
  · have q1 : decide (13000 < ms.length) = false := decide_eq_false h1
    have q2 : ¬ (13000 : Int) < (ms.length : Int) := by omega
    obtain ⟨c, hc⟩ : ∃ c, decide ((13000 : Int) < (ar.length : Int)) = c := ⟨_, rfl⟩
    have HR := Lib.hid (show greatB ms ar = c by unfold greatB; rw [q1, ← hc, Bool.false_or]; exact decide_eq_decide.2 (by omega))
    go_enter Try.func32, Try.ntmps32
    go_wp2
    go_ret
    exact ⟨ret_bool HR.out.symm, (by repeat (first | exact Ext.refl _ | assumption | refine Ext.alloc ?_ _ | refine Ext.drewN ?_ _ | refine ext_grow ?_ _ _ | refine Ext.trans ?_ (by assumption)))⟩
set_option maxRecDepth 100000 in
set_option maxHeartbeats 8000000 in
theorem c35 (ms : List Match) (ar : List Area) (mv1 av1 mv2 av2 : Value) (w : World) (h1 : MatchesAt w mv1 ms) (h2 : AreasAt w av1 ar) (h3 : MatchesAt w mv2 ms) (h4 : AreasAt w av2 ar) :
    Calls Try.prog 35 #[searchVal mv1 av1, searchVal mv2 av2] w fun e w' => e = .returned (.bool true) ∧ Ext w w' := by
  obtain ⟨m1, mc1, rfl, b1, hc1⟩ := h1.form
  obtain ⟨a1, ac1, rfl, b2, hc2⟩ := h2.form
  obtain ⟨m2, mc2, rfl, -, hc3⟩ := h3.form
  obtain ⟨a2, ac2, rfl, -, hc4⟩ := h4.form
  have H1 := Lib.hid hc1
  have H2 := Lib.hid hc2
  have H3 := Lib.hid hc3
  have H4 := Lib.hid hc4
  have n1 : ms.length ≤ maxLen := h1.le
  have n2 : ar.length ≤ maxLen := h2.le
  unfold searchVal
  clear h1 h2 h3 h4 hc1 hc2 hc3 hc4
  unfold maxLen at n1 n2
  have q1 : (((ms.length : Int)) != (ms.length : Int)) = false := by simp
  have q2 : (((ar.length : Int)) != (ar.length : Int)) = false := by simp
  go_enter Try.func35, Try.ntmps35
  go_wp2
  go_loopw [5] (fun v wr => Ext w wr ∧ Hid (At wr [(w.heap.size + 1, Obj.cells #[.slice m2 ms.length mc2, .slice a2 ar.length ac2] 63), (w.heap.size, Obj.cells #[.slice m1 ms.length mc1, .slice a1 ar.length ac1] 63)]) ∧ ∃ i : Nat, i ≤ ms.length ∧ v = .int .i64 (i : Int)) (fun v _ => ms.length - (intOf v).toNat)
  case atStart => exact ⟨(by repeat (first | exact Ext.refl _ | assumption | refine Ext.alloc ?_ _ | refine Ext.drewN ?_ _ | refine ext_grow ?_ _ _ | refine Ext.trans ?_ (by assumption))), Lib.hid ⟨(by repeat (first | (refine blk_at _ _ ?_; (first | rfl | (simp only [size_one]; done))) | refine (blk_past _ _ (by simp only [size_one]; omega)).trans ?_)), (by repeat (first | (refine blk_at _ _ ?_; (first | rfl | (simp only [size_one]; done))) | refine (blk_past _ _ (by simp only [size_one]; omega)).trans ?_)), trivial⟩, 0, Nat.zero_le _, rfl⟩
  case round =>
    obtain ⟨hE, hA, i, hi, rfl⟩ := hrel
    by_cases hil : i < ms.length
    · obtain ⟨b1, o1, rfl, x0, x1, x2, x3, x4⟩ := H1.out i hil
      obtain ⟨b2, o2, rfl, y0, y1, y2, y3, y4⟩ := H3.out i hil
      generalize ms.getD i match0 = x at x0 x1 x2 x3 x4 y0 y1 y2 y3 y4
      replace x0 := hE.get x0
      replace x1 := hE.get x1
      replace x2 := hE.get x2
      replace x3 := hE.get x3
      replace x4 := hE.get x4
      replace y0 := hE.get y0
      replace y1 := hE.get y1
      replace y2 := hE.get y2
      replace y3 := hE.get y3
      replace y4 := hE.get y4
      have zx := World.block_lt_of_cell? _ _ x0
      have zy := World.block_lt_of_cell? _ _ y0
      simp only at zx zy
      have hili : (i : Int) < (ms.length : Int) := by omega
      obtain ⟨⟨z00, z01⟩, -⟩ := run_2 (At.at hA.out 0 rfl)
      obtain ⟨⟨z10, z11⟩, -⟩ := run_2 (At.at hA.out 1 rfl)
      have zz0 := At.lt hA.out 0 rfl
      have zy0 := Nat.lt_succ_of_lt zz0
      have zx0 := Nat.lt_succ_of_lt zy0
      have zz1 := At.lt hA.out 1 rfl
      have zy1 := Nat.lt_succ_of_lt zz1
      have zx1 := Nat.lt_succ_of_lt zy1
      go_wp2_with fail
      go_quiet (fail)
      have hb6 : Ext wr (wr.drewN nq) := (Ext.refl _).drewN nq
      generalize hw6 : wr.drewN nq = w6 at hb6 ⊢
      clear hw6
      have A6 := Lib.hid (At.ext hb6 hA.out)
      obtain ⟨⟨u00, u01⟩, -⟩ := run_2 (At.at A6.out 0 rfl)
      obtain ⟨⟨u10, u11⟩, -⟩ := run_2 (At.at A6.out 1 rfl)
      have yz0 := At.lt A6.out 0 rfl
      have yy0 := Nat.lt_succ_of_lt yz0
      have yx0 := Nat.lt_succ_of_lt yy0
      have yz1 := At.lt A6.out 1 rfl
      have yy1 := Nat.lt_succ_of_lt yz1
      have yx1 := Nat.lt_succ_of_lt yy1
      go_wp2
      go_roundw
      case rel => exact ⟨hE.trans hb6, A6, i + 1, by omega, by go_num⟩
      case measure => simp [intOf]; omega
    · obtain ⟨⟨z00, z01⟩, -⟩ := run_2 (At.at hA.out 0 rfl)
      obtain ⟨⟨z10, z11⟩, -⟩ := run_2 (At.at hA.out 1 rfl)
      have zz0 := At.lt hA.out 0 rfl
      have zy0 := Nat.lt_succ_of_lt zz0
      have zx0 := Nat.lt_succ_of_lt zy0
      have zz1 := At.lt hA.out 1 rfl
      have zy1 := Nat.lt_succ_of_lt zz1
      have zx1 := Nat.lt_succ_of_lt zy1
      have hii : i = ms.length := by omega
      subst hii
      go_wp2
      obtain ⟨wp, hwp⟩ : ∃ wp : World, wp = wr := ⟨_, rfl⟩
      subst hwp
      clear z00 z01 z10 z11 zz0 zy0 zx0 zz1 zy1 zx1
      go_loopw [6] (fun v wr => Ext w wr ∧ Hid (At wr [(w.heap.size + 1, Obj.cells #[.slice m2 ms.length mc2, .slice a2 ar.length ac2] 63), (w.heap.size, Obj.cells #[.slice m1 ms.length mc1, .slice a1 ar.length ac1] 63)]) ∧ ∃ i : Nat, i ≤ ar.length ∧ v = .int .i64 (i : Int)) (fun v _ => ar.length - (intOf v).toNat)
      case atStart => exact ⟨hE, hA, 0, Nat.zero_le _, rfl⟩
      case round =>
        clear hE hA
        obtain ⟨hE, hA, i, hi, rfl⟩ := hrel
        by_cases hil : i < ar.length
        · obtain ⟨b1, o1, rfl, x0, x1, x2, x3, x4, x5⟩ := H2.out i hil
          obtain ⟨b2, o2, rfl, y0, y1, y2, y3, y4, y5⟩ := H4.out i hil
          generalize ar.getD i area0 = x at x0 x1 x2 x3 x4 x5 y0 y1 y2 y3 y4 y5
          replace x0 := hE.get x0
          replace x1 := hE.get x1
          replace x2 := hE.get x2
          replace x3 := hE.get x3
          replace x4 := hE.get x4
          replace x5 := hE.get x5
          replace y0 := hE.get y0
          replace y1 := hE.get y1
          replace y2 := hE.get y2
          replace y3 := hE.get y3
          replace y4 := hE.get y4
          replace y5 := hE.get y5
          have zx := World.block_lt_of_cell? _ _ x0
          have zy := World.block_lt_of_cell? _ _ y0
          simp only at zx zy
          have hili : (i : Int) < (ar.length : Int) := by omega
          obtain ⟨⟨z00, z01⟩, -⟩ := run_2 (At.at hA.out 0 rfl)
          obtain ⟨⟨z10, z11⟩, -⟩ := run_2 (At.at hA.out 1 rfl)
          have zz0 := At.lt hA.out 0 rfl
          have zy0 := Nat.lt_succ_of_lt zz0
          have zx0 := Nat.lt_succ_of_lt zy0
          have zz1 := At.lt hA.out 1 rfl
          have zy1 := Nat.lt_succ_of_lt zz1
          have zx1 := Nat.lt_succ_of_lt zy1
          go_wp2_with fail
          go_quiet (fail)
          have hb6 : Ext wr (wr.drewN nq) := (Ext.refl _).drewN nq
          generalize hw6 : wr.drewN nq = w6 at hb6 ⊢
          clear hw6
          have A6 := Lib.hid (At.ext hb6 hA.out)
          obtain ⟨⟨u00, u01⟩, -⟩ := run_2 (At.at A6.out 0 rfl)
          obtain ⟨⟨u10, u11⟩, -⟩ := run_2 (At.at A6.out 1 rfl)
          have yz0 := At.lt A6.out 0 rfl
          have yy0 := Nat.lt_succ_of_lt yz0
          have yx0 := Nat.lt_succ_of_lt yy0
          have yz1 := At.lt A6.out 1 rfl
          have yy1 := Nat.lt_succ_of_lt yz1
          have yx1 := Nat.lt_succ_of_lt yy1
          go_wp2
          go_roundw
          case rel => exact ⟨hE.trans hb6, A6, i + 1, by omega, by go_num⟩
          case measure => simp [intOf]; omega
        · obtain ⟨⟨z00, z01⟩, -⟩ := run_2 (At.at hA.out 0 rfl)
          obtain ⟨⟨z10, z11⟩, -⟩ := run_2 (At.at hA.out 1 rfl)
          have zz0 := At.lt hA.out 0 rfl
          have zy0 := Nat.lt_succ_of_lt zz0
          have zx0 := Nat.lt_succ_of_lt zy0
          have zz1 := At.lt hA.out 1 rfl
          have zy1 := Nat.lt_succ_of_lt zz1
          have zx1 := Nat.lt_succ_of_lt zy1
          go_wp2
          go_ret
          exact ⟨rfl, hE⟩
set_option maxRecDepth 100000 in
set_option maxHeartbeats 8000000 in
theorem c113 (a : Area) (p : Pose) (w : World) : Calls Try.prog 113 #[areaVal a, poseVal p] w fun e w' => e = .returned (.bool (decide (a.Has p))) ∧ Ext w w' := by
  unfold areaVal poseVal
  by_cases h1 : a.turn = p.turn
  case neg =>
    have q1 : decide (a.turn = p.turn) = false := decide_eq_false h1
    have e1 : (a.turn == p.turn) = false := by simpa using h1
    have HR := Lib.hid (show decide (a.Has p) = false from decide_eq_false fun h => h1 h.1.1)
    clear h1
    go_enter Try.func113, Try.ntmps113
    go_wp2_with (go_at_call 61; (with_reducible refine (rwithin_same 61 (.inl rfl) _ _ _ _).mono ?_); rintro e w' ⟨rfl, rfl⟩)
    go_ret
    exact ⟨ret_bool HR.out.symm, (by repeat (first | exact Ext.refl _ | assumption | refine Ext.alloc ?_ _ | refine Ext.drewN ?_ _ | refine ext_grow ?_ _ _ | refine Ext.trans ?_ (by assumption)))⟩
  have q1 : decide (a.turn = p.turn) = true := decide_eq_true h1
  have e1 : (a.turn == p.turn) = true := by simpa using h1
  by_cases h2 : a.scale = p.scale
  case neg =>
    have q2 : decide (a.scale = p.scale) = false := decide_eq_false h2
    have e2 : (a.scale == p.scale) = false := by simpa using h2
    have HR := Lib.hid (show decide (a.Has p) = false from decide_eq_false fun h => h2 h.1.2)
    clear h2
    go_enter Try.func113, Try.ntmps113
    go_wp2_with (go_at_call 61; (with_reducible refine (rwithin_same 61 (.inl rfl) _ _ _ _).mono ?_); rintro e w' ⟨rfl, rfl⟩)
    go_ret
    exact ⟨ret_bool HR.out.symm, (by repeat (first | exact Ext.refl _ | assumption | refine Ext.alloc ?_ _ | refine Ext.drewN ?_ _ | refine ext_grow ?_ _ _ | refine Ext.trans ?_ (by assumption)))⟩
  have q2 : decide (a.scale = p.scale) = true := decide_eq_true h2
  have e2 : (a.scale == p.scale) = true := by simpa using h2
  by_cases h3 : a.x0 ≤ p.x ∧ p.x ≤ a.x1
  case neg =>
    have q3 : decide (a.x0 ≤ p.x ∧ p.x ≤ a.x1) = false := decide_eq_false h3
    have HR := Lib.hid (show decide (a.Has p) = false from decide_eq_false fun h => h3 h.2.1)
    clear h3
    go_enter Try.func113, Try.ntmps113
    go_wp2_with (go_at_call 61; (with_reducible refine (rwithin_same 61 (.inl rfl) _ _ _ _).mono ?_); rintro e w' ⟨rfl, rfl⟩)
    go_ret
    exact ⟨ret_bool HR.out.symm, (by repeat (first | exact Ext.refl _ | assumption | refine Ext.alloc ?_ _ | refine Ext.drewN ?_ _ | refine ext_grow ?_ _ _ | refine Ext.trans ?_ (by assumption)))⟩
  have q3 : decide (a.x0 ≤ p.x ∧ p.x ≤ a.x1) = true := decide_eq_true h3
  obtain ⟨c, hc⟩ : ∃ c, decide (a.y0 ≤ p.y ∧ p.y ≤ a.y1) = c := ⟨_, rfl⟩
  have HR := Lib.hid (show c = decide (a.Has p) by rw [← hc]; exact decide_eq_decide.2 ⟨fun h => ⟨⟨h1, h2⟩, h3, h⟩, fun h => h.2.2⟩)
  clear h1 h2 h3
  go_enter Try.func113, Try.ntmps113
  go_wp2_with (go_at_call 61; (with_reducible refine (rwithin_same 61 (.inl rfl) _ _ _ _).mono ?_); rintro e w' ⟨rfl, rfl⟩)
  go_ret
  exact ⟨ret_bool HR.out, (by repeat (first | exact Ext.refl _ | assumption | refine Ext.alloc ?_ _ | refine Ext.drewN ?_ _ | refine ext_grow ?_ _ _ | refine Ext.trans ?_ (by assumption)))⟩
end Go.Proofs.Ytipkjdfnoonpcaa
