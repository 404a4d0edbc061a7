/- Joined from the parts RefSrch, OrdSpec, RefOrd, FindR. -/
import Derived.Test.YtipkjdfnoonpcaaGG
import Derived.Deep.RegionHeld3
set_option linter.unusedVariables false
set_option linter.unusedSimpArgs false
/- The reference's search of an area: the walk. -/
namespace Go.Proofs.Ytipkjdfnoonpcaa
open Go.RowKit Go.Sort

/-- a match is in order before another one -/
def ltM (a b : Match) : Prop := a.pose.y < b.pose.y ∨ a.pose.y = b.pose.y ∧ a.pose.x < b.pose.x
instance (a b : Match) : Decidable (ltM a b) := by unfold ltM; infer_instance
set_option maxRecDepth 100000 in
set_option maxHeartbeats 4000000 in
theorem c106 (a b : Match) (w : World) : Calls Try.prog 106 #[.agg #[.int .i64 a.pose.x, .int .i64 a.pose.y, .int .i64 a.pose.turn, .int .i64 a.pose.scale, .int .i64 a.dist], .agg #[.int .i64 b.pose.x, .int .i64 b.pose.y, .int .i64 b.pose.turn, .int .i64 b.pose.scale, .int .i64 b.dist]] w fun e w' => e = .returned (.bool (decide (ltM a b))) ∧ Ext w w' := by
  have hX : ∀ A B : Obj, Ext w ((w.alloc A).alloc B) := fun A B => ((Ext.refl w).alloc A).alloc B
  by_cases h1 : a.pose.y < b.pose.y
  · have hr : decide (ltM a b) = true := decide_eq_true (.inl h1)
    have q1 : decide (a.pose.y < b.pose.y) = true := decide_eq_true h1
    rw [hr]
    clear h1 hr
    go_enter Try.func106, Try.ntmps106
    go_wp2
    go_ret
    exact ⟨rfl, hX _ _⟩
  have q1 : decide (a.pose.y < b.pose.y) = false := decide_eq_false h1
  by_cases h2 : a.pose.y = b.pose.y
  · have q2 : (a.pose.y == b.pose.y) = true := by simpa using h2
    have hr := Lib.hid (show decide (ltM a b) = decide (a.pose.x < b.pose.x) by unfold ltM; simp [h2])
    clear h1 h2
    go_enter Try.func106, Try.ntmps106
    go_wp2
    go_ret
    exact ⟨ret_bool hr.out.symm, hX _ _⟩
  · have q2 : (a.pose.y == b.pose.y) = false := by simpa using h2
    have hr : decide (ltM a b) = false := decide_eq_false (by unfold ltM; omega)
    rw [hr]
    clear h1 h2 hr
    go_enter Try.func106, Try.ntmps106
    go_wp2
    go_ret
    exact ⟨rfl, hX _ _⟩
theorem owns_litd (w : World) (base : Nat) (hb : base ≤ w.heap.size) (cs : List Value) (e n sz : Nat) (hs : cs.length = n * sz) (hm : n ≤ maxLen) : (w.alloc (.cells cs.toArray e)).drew.ownsRow base e sz (.slice (some ⟨w.heap.size, 0, none⟩) n n) n cs :=
  owns_ext (owns_lit w cs e n sz base hb hm hs) (Ext.refl _).drew
/-- two rows in new memory -/
def TwoRows (S : List Match × List Area) (w : World) (e : Ending) (w' : World) : Prop :=
  ∃ mv av, e = .returned (.tuple #[mv, av]) ∧ w'.ownsRow w.heap.size 80 5 mv S.1.length (S.1.flatMap matchCells) ∧ w'.ownsRow w.heap.size 47 6 av S.2.length (S.2.flatMap areaCells) ∧ Ext w w'
set_option maxRecDepth 100000 in
set_option maxHeartbeats 16000000 in
theorem c81_far (m : Img) (v : Value) (t : Tpl) (tv : Value) (limit : Int) (hm : m.Camera) (ht : t.Ok) (hml : m.pix.length ≤ maxLen) (mo to : Option Addr) (mc tc : Nat) (hv0 : v = .slice mo m.pix.length mc) (ht0 : tv = .slice to t.pix.length tc) (a : Area) (w : World) (ha : a.Ok m) (hv : IntsAt w v m.pix) (htv : IntsAt w tv t.pix) (hb : limit < bound m t a) :
    Calls Try.prog 81 #[imgVal m v, tplVal t tv, .int .i64 limit, areaVal a] w (TwoRows ([], [a]) w) := by
  have HV := Lib.hid hv
  have HTV := Lib.hid htv
  have K72 := Lib.hid (fun w' (h : Ext w w') => c72 m v t tv a w' hm ht (hv.ext h) (htv.ext h) ha)
  obtain ⟨bd, hbd⟩ : ∃ bd, bound m t a = bd := ⟨_, rfl⟩
  simp only [hbd] at K72
  rw [hbd] at hb
  subst hv0 ht0
  obtain ⟨⟨b10, b11, b12⟩, b20, b21, b22⟩ : (0 ≤ a.x0 ∧ a.x0 ≤ a.x1 ∧ a.x1 ≤ 15) ∧ 0 ≤ a.y0 ∧ a.y0 ≤ a.y1 ∧ a.y1 ≤ 15 := by
    obtain ⟨⟨h1, h2, h3⟩, ⟨h4, h5, h6⟩, -⟩ := ha
    obtain ⟨⟨g1, g2⟩, ⟨g3, g4⟩, -⟩ := hm.1
    refine ⟨⟨?_, ?_, ?_⟩, ?_, ?_, ?_⟩ <;> omega
  have hb0 : decide (limit < bd) = true := decide_eq_true hb
  clear hb
  unfold imgVal tplVal areaVal at *
  have HBD := Lib.hid hbd
  clear hv htv ha hbd
  go_enter Try.func81, Try.ntmps81
  go_wp2_with (go_at_call 72; (with_reducible refine (K72.out _ (by repeat (first | exact Ext.refl _ | assumption | refine Ext.alloc ?_ _ | refine Ext.drewN ?_ _ | refine ext_grow ?_ _ _ | refine Ext.trans ?_ (by assumption)))).mono ?_); rintro E w1 ⟨rfl, hb1⟩; have A1 := Lib.hid (show At w1 [(w.heap.size + 1 + 1, Obj.cells #[.int .i64 a.x0, .int .i64 a.y0, .int .i64 a.x1, .int .i64 a.y1, .int .i64 a.turn, .int .i64 a.scale] 47), (w.heap.size + 1, Obj.cells #[.int .i64 t.w, .int .i64 t.h, .slice to t.pix.length tc] 43), (w.heap.size, Obj.cells #[.int .i64 m.w, .int .i64 m.h, .slice mo m.pix.length mc] 24)] from At.ext hb1 ⟨(by repeat (first | (refine blk_at _ _ ?_; (first | rfl | (simp only [size_one]; done))) | refine (blk_past _ _ (by simp only [size_one]; omega)).trans ?_)), (by repeat (first | (refine blk_at _ _ ?_; (first | rfl | (simp only [size_one]; done))) | refine (blk_past _ _ (by simp only [size_one]; omega)).trans ?_)), (by repeat (first | (refine blk_at _ _ ?_; (first | rfl | (simp only [size_one]; done))) | refine (blk_past _ _ (by simp only [size_one]; omega)).trans ?_)), trivial⟩); have X1 := Lib.hid (show Ext w w1 from (by repeat (first | exact Ext.refl _ | assumption | refine Ext.alloc ?_ _ | refine Ext.drewN ?_ _ | refine ext_grow ?_ _ _ | refine Ext.trans ?_ (by assumption)))); obtain ⟨⟨x00, x01, x02, x03, x04, x05⟩, xf00, xf01, xf02, xf03, xf04, xf05⟩ := run_6 (At.at A1.out 0 rfl); obtain ⟨⟨x10, x11, x12⟩, xf10, xf11, xf12⟩ := run_3 (At.at A1.out 1 rfl); obtain ⟨⟨x20, x21, x22⟩, xf20, xf21, xf22⟩ := run_3 (At.at A1.out 2 rfl); have xz0 := At.lt A1.out 0 rfl; have xy0 := Nat.lt_succ_of_lt xz0; have xx0 := Nat.lt_succ_of_lt xy0; have xz1 := At.lt A1.out 1 rfl; have xy1 := Nat.lt_succ_of_lt xz1; have xx1 := Nat.lt_succ_of_lt xy1; have xz2 := At.lt A1.out 2 rfl; have xy2 := Nat.lt_succ_of_lt xz2; have xx2 := Nat.lt_succ_of_lt xy2)
  go_region
  all_goals (
    go_wp2
    go_ret2
    exact ⟨_, _, rfl, ⟨rfl, .inl ⟨rfl, rfl⟩⟩, owns_litd w1 w.heap.size X1.out.size (areaCells a) 47 1 6 rfl (by unfold maxLen; omega), (X1.out.alloc _).drew⟩)
set_option maxRecDepth 100000 in
set_option maxHeartbeats 16000000 in
theorem c81_one (m : Img) (v : Value) (t : Tpl) (tv : Value) (limit : Int) (hm : m.Camera) (ht : t.Ok) (hml : m.pix.length ≤ maxLen) (mo to : Option Addr) (mc tc : Nat) (hv0 : v = .slice mo m.pix.length mc) (ht0 : tv = .slice to t.pix.length tc) (a : Area) (w : World) (ha : a.Ok m) (hv : IntsAt w v m.pix) (htv : IntsAt w tv t.pix) (hb : ¬ limit < bound m t a) (h1 : a.One) :
    Calls Try.prog 81 #[imgVal m v, tplVal t tv, .int .i64 limit, areaVal a] w (TwoRows ([matchOf m t a], []) w) := by
  have HV := Lib.hid hv
  have HTV := Lib.hid htv
  have K72 := Lib.hid (fun w' (h : Ext w w') => c72 m v t tv a w' hm ht (hv.ext h) (htv.ext h) ha)
  obtain ⟨bd, hbd⟩ : ∃ bd, bound m t a = bd := ⟨_, rfl⟩
  simp only [hbd] at K72
  rw [hbd] at hb
  subst hv0 ht0
  obtain ⟨⟨b10, b11, b12⟩, b20, b21, b22⟩ : (0 ≤ a.x0 ∧ a.x0 ≤ a.x1 ∧ a.x1 ≤ 15) ∧ 0 ≤ a.y0 ∧ a.y0 ≤ a.y1 ∧ a.y1 ≤ 15 := by
    obtain ⟨⟨h1, h2, h3⟩, ⟨h4, h5, h6⟩, -⟩ := ha
    obtain ⟨⟨g1, g2⟩, ⟨g3, g4⟩, -⟩ := hm.1
    refine ⟨⟨?_, ?_, ?_⟩, ?_, ?_, ?_⟩ <;> omega
  have hb0 : decide (limit < bd) = false := decide_eq_false hb
  clear hb
  have hw0 : (a.x0 == a.x1) = true := by have := h1.1; simp; omega
  have hw1 : (a.y0 == a.y1) = true := by have := h1.2; simp; omega
  clear h1
  unfold imgVal tplVal areaVal at *
  have HBD := Lib.hid hbd
  clear hv htv ha hbd
  go_enter Try.func81, Try.ntmps81
  go_wp2_with (go_at_call 72; (with_reducible refine (K72.out _ (by repeat (first | exact Ext.refl _ | assumption | refine Ext.alloc ?_ _ | refine Ext.drewN ?_ _ | refine ext_grow ?_ _ _ | refine Ext.trans ?_ (by assumption)))).mono ?_); rintro E w1 ⟨rfl, hb1⟩; have A1 := Lib.hid (show At w1 [(w.heap.size + 1 + 1, Obj.cells #[.int .i64 a.x0, .int .i64 a.y0, .int .i64 a.x1, .int .i64 a.y1, .int .i64 a.turn, .int .i64 a.scale] 47), (w.heap.size + 1, Obj.cells #[.int .i64 t.w, .int .i64 t.h, .slice to t.pix.length tc] 43), (w.heap.size, Obj.cells #[.int .i64 m.w, .int .i64 m.h, .slice mo m.pix.length mc] 24)] from At.ext hb1 ⟨(by repeat (first | (refine blk_at _ _ ?_; (first | rfl | (simp only [size_one]; done))) | refine (blk_past _ _ (by simp only [size_one]; omega)).trans ?_)), (by repeat (first | (refine blk_at _ _ ?_; (first | rfl | (simp only [size_one]; done))) | refine (blk_past _ _ (by simp only [size_one]; omega)).trans ?_)), (by repeat (first | (refine blk_at _ _ ?_; (first | rfl | (simp only [size_one]; done))) | refine (blk_past _ _ (by simp only [size_one]; omega)).trans ?_)), trivial⟩); have X1 := Lib.hid (show Ext w w1 from (by repeat (first | exact Ext.refl _ | assumption | refine Ext.alloc ?_ _ | refine Ext.drewN ?_ _ | refine ext_grow ?_ _ _ | refine Ext.trans ?_ (by assumption)))); obtain ⟨⟨x00, x01, x02, x03, x04, x05⟩, xf00, xf01, xf02, xf03, xf04, xf05⟩ := run_6 (At.at A1.out 0 rfl); obtain ⟨⟨x10, x11, x12⟩, xf10, xf11, xf12⟩ := run_3 (At.at A1.out 1 rfl); obtain ⟨⟨x20, x21, x22⟩, xf20, xf21, xf22⟩ := run_3 (At.at A1.out 2 rfl); have xz0 := At.lt A1.out 0 rfl; have xy0 := Nat.lt_succ_of_lt xz0; have xx0 := Nat.lt_succ_of_lt xy0; have xz1 := At.lt A1.out 1 rfl; have xy1 := Nat.lt_succ_of_lt xz1; have xx1 := Nat.lt_succ_of_lt xy1; have xz2 := At.lt A1.out 2 rfl; have xy2 := Nat.lt_succ_of_lt xz2; have xx2 := Nat.lt_succ_of_lt xy2)
  go_wp2_with fail
  go_ret2
  have e : matchOf m t a = ⟨⟨a.x0, a.y0, a.turn, a.scale⟩, bd⟩ := by unfold matchOf; rw [HBD.out]
  rw [e]
  exact ⟨_, _, rfl, owns_lit w1 (matchCells ⟨⟨a.x0, a.y0, a.turn, a.scale⟩, bd⟩) 80 1 5 w.heap.size X1.out.size (by unfold maxLen; omega) rfl, ⟨rfl, .inl ⟨rfl, rfl⟩⟩, X1.out.alloc _⟩
set_option maxRecDepth 100000 in
set_option maxHeartbeats 16000000 in
theorem c81_wide (m : Img) (v : Value) (t : Tpl) (tv : Value) (limit : Int) (hm : m.Camera) (ht : t.Ok) (hml : m.pix.length ≤ maxLen) (mo to : Option Addr) (mc tc : Nat) (hv0 : v = .slice mo m.pix.length mc) (ht0 : tv = .slice to t.pix.length tc) (a : Area) (w : World) (ha : a.Ok m) (hv : IntsAt w v m.pix) (htv : IntsAt w tv t.pix) (SL SR : List Match × List Area) (ihL : ∀ (w : World), IntsAt w v m.pix → IntsAt w tv t.pix → Calls Try.prog 81 #[imgVal m v, tplVal t tv, .int .i64 limit, areaVal (leftOf a)] w (TwoRows SL w)) (ihR : ∀ (w : World), IntsAt w v m.pix → IntsAt w tv t.pix → Calls Try.prog 81 #[imgVal m v, tplVal t tv, .int .i64 limit, areaVal (rightOf a)] w (TwoRows SR w)) (hs1 : SL.1.length + SR.1.length ≤ 100000) (hs2 : SL.2.length + SR.2.length ≤ 100000) (hb : ¬ limit < bound m t a) (h1 : ¬ a.One) (hw : a.y1 - a.y0 ≤ a.x1 - a.x0) :
    Calls Try.prog 81 #[imgVal m v, tplVal t tv, .int .i64 limit, areaVal a] w (TwoRows (SL.1 ++ SR.1, SL.2 ++ SR.2) w) := by
  have HV := Lib.hid hv
  have HTV := Lib.hid htv
  have K72 := Lib.hid (fun w' (h : Ext w w') => c72 m v t tv a w' hm ht (hv.ext h) (htv.ext h) ha)
  obtain ⟨bd, hbd⟩ : ∃ bd, bound m t a = bd := ⟨_, rfl⟩
  simp only [hbd] at K72
  rw [hbd] at hb
  subst hv0 ht0
  obtain ⟨⟨b10, b11, b12⟩, b20, b21, b22⟩ : (0 ≤ a.x0 ∧ a.x0 ≤ a.x1 ∧ a.x1 ≤ 15) ∧ 0 ≤ a.y0 ∧ a.y0 ≤ a.y1 ∧ a.y1 ≤ 15 := by
    obtain ⟨⟨h1, h2, h3⟩, ⟨h4, h5, h6⟩, -⟩ := ha
    obtain ⟨⟨g1, g2⟩, ⟨g3, g4⟩, -⟩ := hm.1
    refine ⟨⟨?_, ?_, ?_⟩, ?_, ?_, ?_⟩ <;> omega
  have hb0 : decide (limit < bd) = false := decide_eq_false hb
  clear hb
  rw [left_wide hw] at ihL
  rw [right_wide hw] at ihR
  have IL := Lib.hid ihL
  have IR := Lib.hid ihR
  clear ihL ihR
  have hw0 : (a.x0 == a.x1) = false := by unfold Area.One at h1; simp; omega
  have hw2 : decide (a.y1 - a.y0 ≤ a.x1 - a.x0) = true := decide_eq_true hw
  have hq : (a.x0 + a.x1).tdiv 2 = (a.x0 + a.x1) / 2 := Int.tdiv_eq_ediv_of_nonneg (by omega)
  clear h1 hw
  unfold imgVal tplVal areaVal at *
  have HBD := Lib.hid hbd
  clear hv htv ha hbd
  go_enter Try.func81, Try.ntmps81
  go_wp2_with (go_at_call 72; (with_reducible refine (K72.out _ (by repeat (first | exact Ext.refl _ | assumption | refine Ext.alloc ?_ _ | refine Ext.drewN ?_ _ | refine ext_grow ?_ _ _ | refine Ext.trans ?_ (by assumption)))).mono ?_); rintro E w1 ⟨rfl, hb1⟩; have A1 := Lib.hid (show At w1 [(w.heap.size + 1 + 1, Obj.cells #[.int .i64 a.x0, .int .i64 a.y0, .int .i64 a.x1, .int .i64 a.y1, .int .i64 a.turn, .int .i64 a.scale] 47), (w.heap.size + 1, Obj.cells #[.int .i64 t.w, .int .i64 t.h, .slice to t.pix.length tc] 43), (w.heap.size, Obj.cells #[.int .i64 m.w, .int .i64 m.h, .slice mo m.pix.length mc] 24)] from At.ext hb1 ⟨(by repeat (first | (refine blk_at _ _ ?_; (first | rfl | (simp only [size_one]; done))) | refine (blk_past _ _ (by simp only [size_one]; omega)).trans ?_)), (by repeat (first | (refine blk_at _ _ ?_; (first | rfl | (simp only [size_one]; done))) | refine (blk_past _ _ (by simp only [size_one]; omega)).trans ?_)), (by repeat (first | (refine blk_at _ _ ?_; (first | rfl | (simp only [size_one]; done))) | refine (blk_past _ _ (by simp only [size_one]; omega)).trans ?_)), trivial⟩); have X1 := Lib.hid (show Ext w w1 from (by repeat (first | exact Ext.refl _ | assumption | refine Ext.alloc ?_ _ | refine Ext.drewN ?_ _ | refine ext_grow ?_ _ _ | refine Ext.trans ?_ (by assumption)))); obtain ⟨⟨x00, x01, x02, x03, x04, x05⟩, xf00, xf01, xf02, xf03, xf04, xf05⟩ := run_6 (At.at A1.out 0 rfl); obtain ⟨⟨x10, x11, x12⟩, xf10, xf11, xf12⟩ := run_3 (At.at A1.out 1 rfl); obtain ⟨⟨x20, x21, x22⟩, xf20, xf21, xf22⟩ := run_3 (At.at A1.out 2 rfl); have xz0 := At.lt A1.out 0 rfl; have xy0 := Nat.lt_succ_of_lt xz0; have xx0 := Nat.lt_succ_of_lt xy0; have xz1 := At.lt A1.out 1 rfl; have xy1 := Nat.lt_succ_of_lt xz1; have xx1 := Nat.lt_succ_of_lt xy1; have xz2 := At.lt A1.out 2 rfl; have xy2 := Nat.lt_succ_of_lt xz2; have xx2 := Nat.lt_succ_of_lt xy2)
  obtain ⟨i8, hi8, hz8, hs8, hy8⟩ := info_parts info80
  obtain ⟨i4, hi4, hz4, hs4, hy4⟩ := info_parts inf47
  refine RT.region_two (aq := ?aq1) (n := 2) (sx := 11) (sy := 12) (vx := 50) (vy := 51) (oz := .cells #[.int .i64 0, .int .i64 0, .int .i64 0, .int .i64 0, .int .i64 0, .int .i64 0] 47) (ox := .cells #[.int .i64 a.x0, .int .i64 a.y0, .int .i64 a.x1, .int .i64 a.y1, .int .i64 a.turn, .int .i64 a.scale] 47) (oy := .cells #[.int .i64 a.x0, .int .i64 a.y0, .int .i64 a.x1, .int .i64 a.y1, .int .i64 a.turn, .int .i64 a.scale] 47) (qs := [_, _]) (by kernel_rfl) rfl (by kernel_rfl) (by kernel_rfl) rfl rfl (of_decide_eq_true (by kernel_rfl)) (of_decide_eq_true (by kernel_rfl)) rfl rfl rfl rfl (by kernel_rfl) (by kernel_rfl) (by kernel_rfl) (by kernel_rfl) ?_ ?_ ?_ ?_ ?_ ?_
  rotate_left
  · intro e w
    simp [execOp, go_sem, Try.underlying47]
  · intro e w
    simp [execOp, go_sem, Try.underlying47]
  · intro wq hEq
    have AQ := Lib.hid (show At wq [(w.heap.size + 1 + 1, Obj.cells #[.int .i64 a.x0, .int .i64 a.y0, .int .i64 a.x1, .int .i64 a.y1, .int .i64 a.turn, .int .i64 a.scale] 47), (w.heap.size + 1, Obj.cells #[.int .i64 t.w, .int .i64 t.h, .slice to t.pix.length tc] 43), (w.heap.size, Obj.cells #[.int .i64 m.w, .int .i64 m.h, .slice mo m.pix.length mc] 24)] from At.ext hEq A1.out)
    obtain ⟨⟨q00, q01, q02, q03, q04, q05⟩, -⟩ := run_6 (At.at AQ.out 0 rfl)
    obtain ⟨⟨q10, q11, q12⟩, -⟩ := run_3 (At.at AQ.out 1 rfl)
    obtain ⟨⟨q20, q21, q22⟩, -⟩ := run_3 (At.at AQ.out 2 rfl)
    have qz0 := At.lt AQ.out 0 rfl
    have qy0 := Nat.lt_succ_of_lt qz0
    have qx0 := Nat.lt_succ_of_lt qy0
    have qz1 := At.lt AQ.out 1 rfl
    have qy1 := Nat.lt_succ_of_lt qz1
    have qx1 := Nat.lt_succ_of_lt qy1
    have qz2 := At.lt AQ.out 2 rfl
    have qy2 := Nat.lt_succ_of_lt qz2
    have qx2 := Nat.lt_succ_of_lt qy2
    clear hEq
    simp only [List.cons_append, List.nil_append]
    repeat (go_big_quiet_step (fail))
    refine wpQuiet_nil ?_
    exact rfl
  · intro e w b h1 h2 h3
    obtain ⟨⟨c0, c1, c2, c3, c4, c5⟩, f0, f1, f2, f3, f4, f5⟩ := run_6 h3
    have h2' : e (.tmp 50) = .agg #[.int .i64 a.x0, .int .i64 a.y0, .int .i64 a.x1, .int .i64 a.y1, .int .i64 a.turn, .int .i64 a.scale] := h2
    apply Exists.intro
    apply And.intro
    · simp [execOp, go_sem, h1, h2', c0, c1, c2, c3, c4, c5, f0, f1, f2, f3, f4, f5, Try.underlying47]
      exact rfl
    · exact store_6 h3
  · intro e w b h1 h2 h3
    obtain ⟨⟨c0, c1, c2, c3, c4, c5⟩, f0, f1, f2, f3, f4, f5⟩ := run_6 h3
    have h2' : e (.tmp 51) = .agg #[.int .i64 a.x0, .int .i64 a.y0, .int .i64 a.x1, .int .i64 a.y1, .int .i64 a.turn, .int .i64 a.scale] := h2
    apply Exists.intro
    apply And.intro
    · simp [execOp, go_sem, h1, h2', c0, c1, c2, c3, c4, c5, f0, f1, f2, f3, f4, f5, Try.underlying47]
      exact rfl
    · exact store_6 h3
  · intro bx by_ w2 X12 hbx hby hne hX hY
    have X2 := Lib.hid (X1.out.trans X12)
    have A2 := Lib.hid (show At w2 [(bx, Obj.cells #[.int .i64 a.x0, .int .i64 a.y0, .int .i64 a.x1, .int .i64 a.y1, .int .i64 a.turn, .int .i64 a.scale] 47), (by_, Obj.cells #[.int .i64 a.x0, .int .i64 a.y0, .int .i64 a.x1, .int .i64 a.y1, .int .i64 a.turn, .int .i64 a.scale] 47), (w.heap.size + 1 + 1, Obj.cells #[.int .i64 a.x0, .int .i64 a.y0, .int .i64 a.x1, .int .i64 a.y1, .int .i64 a.turn, .int .i64 a.scale] 47), (w.heap.size + 1, Obj.cells #[.int .i64 t.w, .int .i64 t.h, .slice to t.pix.length tc] 43), (w.heap.size, Obj.cells #[.int .i64 m.w, .int .i64 m.h, .slice mo m.pix.length mc] 24)] from ⟨hX, hY, At.ext X12 A1.out⟩)
    clear hX hY
    clear x00 x01 x02 x03 x04 x05 x10 x11 x12 x20 x21 x22 xf00 xf01 xf02 xf03 xf04 xf05 xf10 xf11 xf12 xf20 xf21 xf22 xz0 xy0 xx0 xz1 xy1 xx1 xz2 xy2 xx2
    obtain ⟨⟨y00, y01, y02, y03, y04, y05⟩, yf00, yf01, yf02, yf03, yf04, yf05⟩ := run_6 (At.at A2.out 0 rfl)
    obtain ⟨⟨y10, y11, y12, y13, y14, y15⟩, yf10, yf11, yf12, yf13, yf14, yf15⟩ := run_6 (At.at A2.out 1 rfl)
    obtain ⟨⟨y20, y21, y22, y23, y24, y25⟩, yf20, yf21, yf22, yf23, yf24, yf25⟩ := run_6 (At.at A2.out 2 rfl)
    obtain ⟨⟨y30, y31, y32⟩, yf30, yf31, yf32⟩ := run_3 (At.at A2.out 3 rfl)
    obtain ⟨⟨y40, y41, y42⟩, yf40, yf41, yf42⟩ := run_3 (At.at A2.out 4 rfl)
    have yz0 := At.lt A2.out 0 rfl
    have yy0 := Nat.lt_succ_of_lt yz0
    have yx0 := Nat.lt_succ_of_lt yy0
    have yz1 := At.lt A2.out 1 rfl
    have yy1 := Nat.lt_succ_of_lt yz1
    have yx1 := Nat.lt_succ_of_lt yy1
    have yz2 := At.lt A2.out 2 rfl
    have yy2 := Nat.lt_succ_of_lt yz2
    have yx2 := Nat.lt_succ_of_lt yy2
    have yz3 := At.lt A2.out 3 rfl
    have yy3 := Nat.lt_succ_of_lt yz3
    have yx3 := Nat.lt_succ_of_lt yy3
    have yz4 := At.lt A2.out 4 rfl
    have yy4 := Nat.lt_succ_of_lt yz4
    have yx4 := Nat.lt_succ_of_lt yy4
    have s1 := st_one (At.at A2.out 0 rfl) 2 (.int .i64 ((a.x0 + a.x1) / 2))
    have s2 := st_one ((s1.2.1 by_ (fun e => hne e.symm)).trans (At.at A2.out 1 rfl)) 0 (.int .i64 ((a.x0 + a.x1) / 2 + 1))
    have d0 := At.lt A1.out 0 rfl
    have d1 := At.lt A1.out 1 rfl
    have d2 := At.lt A1.out 2 rfl
    have A4 := Lib.hid (show At ((w2.setCell ⟨bx, 2, none⟩ (.int .i64 ((a.x0 + a.x1) / 2))).setCell ⟨by_, 0, none⟩ (.int .i64 ((a.x0 + a.x1) / 2 + 1))) [(bx, Obj.cells #[.int .i64 a.x0, .int .i64 a.y0, .int .i64 ((a.x0 + a.x1) / 2), .int .i64 a.y1, .int .i64 a.turn, .int .i64 a.scale] 47), (by_, Obj.cells #[.int .i64 ((a.x0 + a.x1) / 2 + 1), .int .i64 a.y0, .int .i64 a.x1, .int .i64 a.y1, .int .i64 a.turn, .int .i64 a.scale] 47), (w.heap.size + 1 + 1, Obj.cells #[.int .i64 a.x0, .int .i64 a.y0, .int .i64 a.x1, .int .i64 a.y1, .int .i64 a.turn, .int .i64 a.scale] 47), (w.heap.size + 1, Obj.cells #[.int .i64 t.w, .int .i64 t.h, .slice to t.pix.length tc] 43), (w.heap.size, Obj.cells #[.int .i64 m.w, .int .i64 m.h, .slice mo m.pix.length mc] 24)] from ⟨(s2.2.1 bx hne).trans s1.1, s2.1, ((s2.2.1 _ (Nat.ne_of_lt (Nat.lt_of_lt_of_le d0 hby))).trans (s1.2.1 _ (Nat.ne_of_lt (Nat.lt_of_lt_of_le d0 hbx)))).trans (At.at A2.out 2 rfl), ((s2.2.1 _ (Nat.ne_of_lt (Nat.lt_of_lt_of_le d1 hby))).trans (s1.2.1 _ (Nat.ne_of_lt (Nat.lt_of_lt_of_le d1 hbx)))).trans (At.at A2.out 3 rfl), ((s2.2.1 _ (Nat.ne_of_lt (Nat.lt_of_lt_of_le d2 hby))).trans (s1.2.1 _ (Nat.ne_of_lt (Nat.lt_of_lt_of_le d2 hbx)))).trans (At.at A2.out 4 rfl), trivial⟩)
    have X4 := Lib.hid (show Ext w ((w2.setCell ⟨bx, 2, none⟩ (.int .i64 ((a.x0 + a.x1) / 2))).setCell ⟨by_, 0, none⟩ (.int .i64 ((a.x0 + a.x1) / 2 + 1))) from (X2.out.setCell (p := ⟨bx, 2, none⟩) (Nat.le_trans X1.out.size hbx) _).setCell (p := ⟨by_, 0, none⟩) (Nat.le_trans X1.out.size hby) _)
    clear s1 s2 d0 d1 d2
    obtain ⟨⟨u00, u01, u02, u03, u04, u05⟩, -⟩ := run_6 (At.at A4.out 0 rfl)
    obtain ⟨⟨u10, u11, u12, u13, u14, u15⟩, -⟩ := run_6 (At.at A4.out 1 rfl)
    obtain ⟨⟨u20, u21, u22, u23, u24, u25⟩, -⟩ := run_6 (At.at A4.out 2 rfl)
    obtain ⟨⟨u30, u31, u32⟩, -⟩ := run_3 (At.at A4.out 3 rfl)
    obtain ⟨⟨u40, u41, u42⟩, -⟩ := run_3 (At.at A4.out 4 rfl)
    have uz0 := At.lt A4.out 0 rfl
    have uy0 := Nat.lt_succ_of_lt uz0
    have ux0 := Nat.lt_succ_of_lt uy0
    have uz1 := At.lt A4.out 1 rfl
    have uy1 := Nat.lt_succ_of_lt uz1
    have ux1 := Nat.lt_succ_of_lt uy1
    have uz2 := At.lt A4.out 2 rfl
    have uy2 := Nat.lt_succ_of_lt uz2
    have ux2 := Nat.lt_succ_of_lt uy2
    have uz3 := At.lt A4.out 3 rfl
    have uy3 := Nat.lt_succ_of_lt uz3
    have ux3 := Nat.lt_succ_of_lt uy3
    have uz4 := At.lt A4.out 4 rfl
    have uy4 := Nat.lt_succ_of_lt uz4
    have ux4 := Nat.lt_succ_of_lt uy4
    have V4 := Lib.hid (HV.out.ext X4.out)
    have U4 := Lib.hid (HTV.out.ext X4.out)
    go_wp2_with (first | (have _q := E7; at_builtin; refine wpList_append_sl rfl _ _ 61 rfl ((w2.setCell ⟨bx, 2, none⟩ (.int .i64 ((a.x0 + a.x1) / 2))).setCell ⟨by_, 0, none⟩ (.int .i64 ((a.x0 + a.x1) / 2 + 1))).heap.size 47 i4 zeroArea 6 48 Try.underlying61 hi4 hz4 hs4 hy4 rfl (by omega) _ SL.2.length (SL.2.flatMap areaCells) rfl T5''.out _ SR.2.length (SR.2.flatMap areaCells) rfl (SlAt.of_owns T6'.out) (areas_one SR.2) (by unfold maxLen; omega) (by omega) (Nat.le_trans (Nat.le_trans X5.out.size X6.out.size) G7.out) ?_; intro v8 w8 ho hg; have E8 := Lib.hid (E7.out.grown hg fun k hk => Nat.le_trans X4.out.size (owns_block T5''.out k hk).1); have R7' := Lib.hid (owns_at R7.out fun k hk => hg.block k (owns_lt R7.out hk) fun e => by obtain ⟨cur, fr, hc⟩ := owns_type R7.out k hk; exact owns_apart T5''.out hc (by decide) e.symm); obtain ⟨-, m8, z8, q8, -⟩ := SlAt.of_owns ho; subst q8; have T8 := Lib.hid ho; clear ho hg) | (have _q := E6; at_builtin; refine wpList_append_sl rfl _ _ 60 rfl ((w2.setCell ⟨bx, 2, none⟩ (.int .i64 ((a.x0 + a.x1) / 2))).setCell ⟨by_, 0, none⟩ (.int .i64 ((a.x0 + a.x1) / 2 + 1))).heap.size 80 i8 zeroMatch 5 40 Try.underlying60 hi8 hz8 hs8 hy8 rfl (by omega) _ SL.1.length (SL.1.flatMap matchCells) rfl R5'.out _ SR.1.length (SR.1.flatMap matchCells) rfl (SlAt.of_owns R6.out) (matches_one SR.1) (by unfold maxLen; omega) (by omega) (Nat.le_trans X5.out.size X6.out.size) ?_; intro v7 w7 ho hg; have E7 := Lib.hid (E6.out.grown hg fun k hk => Nat.le_trans X4.out.size (owns_block R5'.out k hk).1); have hb6 := fun k (hk : Value.ownBlock (.slice m5 SL.1.length z5) = some k) => owns_type R5'.out k hk; have T5'' := Lib.hid (owns_at T5'.out fun k hk => hg.block k (owns_lt T5'.out hk) fun e => by obtain ⟨cur, fr, hc⟩ := owns_type T5'.out k hk; exact owns_apart R5'.out hc (by decide) e.symm); have T6' := Lib.hid (owns_at T6.out fun k hk => hg.block k (owns_lt T6.out hk) fun e => by obtain ⟨cur, fr, hc⟩ := owns_type T6.out k hk; exact owns_apart R5'.out hc (by decide) e.symm); obtain ⟨-, m7, z7, q7, -⟩ := SlAt.of_owns ho; subst q7; have R7 := Lib.hid ho; have G7 := Lib.hid hg.size; clear ho hg hb6) | (have _q := E5; go_at_call 81; (with_reducible refine (IR.out _ (HV.out.ext E5.out) (HTV.out.ext E5.out)).mono ?_); rintro E w6 ⟨mv6, av6, rfl, r6, s6, e6⟩; obtain ⟨-, m6, z6, q6, -⟩ := SlAt.of_owns r6; obtain ⟨-, n6, y6, p6, -⟩ := SlAt.of_owns s6; subst q6 p6; have R6 := Lib.hid r6; have T6 := Lib.hid s6; clear r6 s6; have X6 := Lib.hid e6; have E6 := Lib.hid (E5.out.trans e6); have R5' := Lib.hid (owns_ext R5.out e6); have T5' := Lib.hid (owns_ext T5.out e6); clear e6) | (go_at_call 81; (with_reducible refine (IL.out _ V4.out U4.out).mono ?_); rintro E w5 ⟨mv5, av5, rfl, r5, s5, e5⟩; obtain ⟨-, m5, z5, q5, -⟩ := SlAt.of_owns r5; obtain ⟨-, n5, y5, p5, -⟩ := SlAt.of_owns s5; subst q5 p5; have R5 := Lib.hid r5; have T5 := Lib.hid s5; clear r5 s5; have X5 := Lib.hid e5; have E5 := Lib.hid (X4.out.trans e5); have A5 := Lib.hid (show At w5 [(bx, Obj.cells #[.int .i64 a.x0, .int .i64 a.y0, .int .i64 ((a.x0 + a.x1) / 2), .int .i64 a.y1, .int .i64 a.turn, .int .i64 a.scale] 47), (by_, Obj.cells #[.int .i64 ((a.x0 + a.x1) / 2 + 1), .int .i64 a.y0, .int .i64 a.x1, .int .i64 a.y1, .int .i64 a.turn, .int .i64 a.scale] 47), (w.heap.size + 1 + 1, Obj.cells #[.int .i64 a.x0, .int .i64 a.y0, .int .i64 a.x1, .int .i64 a.y1, .int .i64 a.turn, .int .i64 a.scale] 47), (w.heap.size + 1, Obj.cells #[.int .i64 t.w, .int .i64 t.h, .slice to t.pix.length tc] 43), (w.heap.size, Obj.cells #[.int .i64 m.w, .int .i64 m.h, .slice mo m.pix.length mc] 24)] from At.ext e5 A4.out); clear e5; obtain ⟨⟨v00, v01, v02, v03, v04, v05⟩, -⟩ := run_6 (At.at A5.out 0 rfl); obtain ⟨⟨v10, v11, v12, v13, v14, v15⟩, -⟩ := run_6 (At.at A5.out 1 rfl); obtain ⟨⟨v20, v21, v22, v23, v24, v25⟩, -⟩ := run_6 (At.at A5.out 2 rfl); obtain ⟨⟨v30, v31, v32⟩, -⟩ := run_3 (At.at A5.out 3 rfl); obtain ⟨⟨v40, v41, v42⟩, -⟩ := run_3 (At.at A5.out 4 rfl); have vz0 := At.lt A5.out 0 rfl; have vy0 := Nat.lt_succ_of_lt vz0; have vx0 := Nat.lt_succ_of_lt vy0; have vz1 := At.lt A5.out 1 rfl; have vy1 := Nat.lt_succ_of_lt vz1; have vx1 := Nat.lt_succ_of_lt vy1; have vz2 := At.lt A5.out 2 rfl; have vy2 := Nat.lt_succ_of_lt vz2; have vx2 := Nat.lt_succ_of_lt vy2; have vz3 := At.lt A5.out 3 rfl; have vy3 := Nat.lt_succ_of_lt vz3; have vx3 := Nat.lt_succ_of_lt vy3; have vz4 := At.lt A5.out 4 rfl; have vy4 := Nat.lt_succ_of_lt vz4; have vx4 := Nat.lt_succ_of_lt vy4))
    go_ret2
    exact ⟨_, _, rfl, by rw [List.length_append, List.flatMap_append]; exact owns_base R7'.out X4.out.size, by rw [List.length_append, List.flatMap_append]; exact owns_base T8.out X4.out.size, E8.out⟩
set_option maxRecDepth 100000 in
set_option maxHeartbeats 16000000 in
theorem c81_high0 (m : Img) (v : Value) (t : Tpl) (tv : Value) (limit : Int) (hm : m.Camera) (ht : t.Ok) (hml : m.pix.length ≤ maxLen) (mo to : Option Addr) (mc tc : Nat) (hv0 : v = .slice mo m.pix.length mc) (ht0 : tv = .slice to t.pix.length tc) (a : Area) (w : World) (ha : a.Ok m) (hv : IntsAt w v m.pix) (htv : IntsAt w tv t.pix) (SL SR : List Match × List Area) (ihL : ∀ (w : World), IntsAt w v m.pix → IntsAt w tv t.pix → Calls Try.prog 81 #[imgVal m v, tplVal t tv, .int .i64 limit, areaVal (leftOf a)] w (TwoRows SL w)) (ihR : ∀ (w : World), IntsAt w v m.pix → IntsAt w tv t.pix → Calls Try.prog 81 #[imgVal m v, tplVal t tv, .int .i64 limit, areaVal (rightOf a)] w (TwoRows SR w)) (hs1 : SL.1.length + SR.1.length ≤ 100000) (hs2 : SL.2.length + SR.2.length ≤ 100000) (hb : ¬ limit < bound m t a) (h1 : ¬ a.One) (hw : ¬ a.y1 - a.y0 ≤ a.x1 - a.x0) (hx : a.x1 = a.x0) :
    Calls Try.prog 81 #[imgVal m v, tplVal t tv, .int .i64 limit, areaVal a] w (TwoRows (SL.1 ++ SR.1, SL.2 ++ SR.2) w) := by
  have HV := Lib.hid hv
  have HTV := Lib.hid htv
  have K72 := Lib.hid (fun w' (h : Ext w w') => c72 m v t tv a w' hm ht (hv.ext h) (htv.ext h) ha)
  obtain ⟨bd, hbd⟩ : ∃ bd, bound m t a = bd := ⟨_, rfl⟩
  simp only [hbd] at K72
  rw [hbd] at hb
  subst hv0 ht0
  obtain ⟨⟨b10, b11, b12⟩, b20, b21, b22⟩ : (0 ≤ a.x0 ∧ a.x0 ≤ a.x1 ∧ a.x1 ≤ 15) ∧ 0 ≤ a.y0 ∧ a.y0 ≤ a.y1 ∧ a.y1 ≤ 15 := by
    obtain ⟨⟨h1, h2, h3⟩, ⟨h4, h5, h6⟩, -⟩ := ha
    obtain ⟨⟨g1, g2⟩, ⟨g3, g4⟩, -⟩ := hm.1
    refine ⟨⟨?_, ?_, ?_⟩, ?_, ?_, ?_⟩ <;> omega
  have hb0 : decide (limit < bd) = false := decide_eq_false hb
  clear hb
  rw [left_high hw] at ihL
  rw [right_high hw] at ihR
  have IL := Lib.hid ihL
  have IR := Lib.hid ihR
  clear ihL ihR
  have hw0 : (a.x0 == a.x1) = true := by simp; omega
  have hw1 : (a.y0 == a.y1) = false := by unfold Area.One at h1; simp; omega
  have hw2 : decide (a.y1 - a.y0 ≤ a.x1 - a.x0) = false := decide_eq_false hw
  have hq : (a.y0 + a.y1).tdiv 2 = (a.y0 + a.y1) / 2 := Int.tdiv_eq_ediv_of_nonneg (by omega)
  clear h1 hw hx
  unfold imgVal tplVal areaVal at *
  have HBD := Lib.hid hbd
  clear hv htv ha hbd
  go_enter Try.func81, Try.ntmps81
  go_wp2_with (go_at_call 72; (with_reducible refine (K72.out _ (by repeat (first | exact Ext.refl _ | assumption | refine Ext.alloc ?_ _ | refine Ext.drewN ?_ _ | refine ext_grow ?_ _ _ | refine Ext.trans ?_ (by assumption)))).mono ?_); rintro E w1 ⟨rfl, hb1⟩; have A1 := Lib.hid (show At w1 [(w.heap.size + 1 + 1, Obj.cells #[.int .i64 a.x0, .int .i64 a.y0, .int .i64 a.x1, .int .i64 a.y1, .int .i64 a.turn, .int .i64 a.scale] 47), (w.heap.size + 1, Obj.cells #[.int .i64 t.w, .int .i64 t.h, .slice to t.pix.length tc] 43), (w.heap.size, Obj.cells #[.int .i64 m.w, .int .i64 m.h, .slice mo m.pix.length mc] 24)] from At.ext hb1 ⟨(by repeat (first | (refine blk_at _ _ ?_; (first | rfl | (simp only [size_one]; done))) | refine (blk_past _ _ (by simp only [size_one]; omega)).trans ?_)), (by repeat (first | (refine blk_at _ _ ?_; (first | rfl | (simp only [size_one]; done))) | refine (blk_past _ _ (by simp only [size_one]; omega)).trans ?_)), (by repeat (first | (refine blk_at _ _ ?_; (first | rfl | (simp only [size_one]; done))) | refine (blk_past _ _ (by simp only [size_one]; omega)).trans ?_)), trivial⟩); have X1 := Lib.hid (show Ext w w1 from (by repeat (first | exact Ext.refl _ | assumption | refine Ext.alloc ?_ _ | refine Ext.drewN ?_ _ | refine ext_grow ?_ _ _ | refine Ext.trans ?_ (by assumption)))); obtain ⟨⟨x00, x01, x02, x03, x04, x05⟩, xf00, xf01, xf02, xf03, xf04, xf05⟩ := run_6 (At.at A1.out 0 rfl); obtain ⟨⟨x10, x11, x12⟩, xf10, xf11, xf12⟩ := run_3 (At.at A1.out 1 rfl); obtain ⟨⟨x20, x21, x22⟩, xf20, xf21, xf22⟩ := run_3 (At.at A1.out 2 rfl); have xz0 := At.lt A1.out 0 rfl; have xy0 := Nat.lt_succ_of_lt xz0; have xx0 := Nat.lt_succ_of_lt xy0; have xz1 := At.lt A1.out 1 rfl; have xy1 := Nat.lt_succ_of_lt xz1; have xx1 := Nat.lt_succ_of_lt xy1; have xz2 := At.lt A1.out 2 rfl; have xy2 := Nat.lt_succ_of_lt xz2; have xx2 := Nat.lt_succ_of_lt xy2)
  obtain ⟨i8, hi8, hz8, hs8, hy8⟩ := info_parts info80
  obtain ⟨i4, hi4, hz4, hs4, hy4⟩ := info_parts inf47
  refine RT.region_two (aq := ?aq1) (n := 2) (sx := 11) (sy := 12) (vx := 50) (vy := 51) (oz := .cells #[.int .i64 0, .int .i64 0, .int .i64 0, .int .i64 0, .int .i64 0, .int .i64 0] 47) (ox := .cells #[.int .i64 a.x0, .int .i64 a.y0, .int .i64 a.x1, .int .i64 a.y1, .int .i64 a.turn, .int .i64 a.scale] 47) (oy := .cells #[.int .i64 a.x0, .int .i64 a.y0, .int .i64 a.x1, .int .i64 a.y1, .int .i64 a.turn, .int .i64 a.scale] 47) (qs := [_, _]) (by kernel_rfl) rfl (by kernel_rfl) (by kernel_rfl) rfl rfl (of_decide_eq_true (by kernel_rfl)) (of_decide_eq_true (by kernel_rfl)) rfl rfl rfl rfl (by kernel_rfl) (by kernel_rfl) (by kernel_rfl) (by kernel_rfl) ?_ ?_ ?_ ?_ ?_ ?_
  rotate_left
  · intro e w
    simp [execOp, go_sem, Try.underlying47]
  · intro e w
    simp [execOp, go_sem, Try.underlying47]
  · intro wq hEq
    have AQ := Lib.hid (show At wq [(w.heap.size + 1 + 1, Obj.cells #[.int .i64 a.x0, .int .i64 a.y0, .int .i64 a.x1, .int .i64 a.y1, .int .i64 a.turn, .int .i64 a.scale] 47), (w.heap.size + 1, Obj.cells #[.int .i64 t.w, .int .i64 t.h, .slice to t.pix.length tc] 43), (w.heap.size, Obj.cells #[.int .i64 m.w, .int .i64 m.h, .slice mo m.pix.length mc] 24)] from At.ext hEq A1.out)
    obtain ⟨⟨q00, q01, q02, q03, q04, q05⟩, -⟩ := run_6 (At.at AQ.out 0 rfl)
    obtain ⟨⟨q10, q11, q12⟩, -⟩ := run_3 (At.at AQ.out 1 rfl)
    obtain ⟨⟨q20, q21, q22⟩, -⟩ := run_3 (At.at AQ.out 2 rfl)
    have qz0 := At.lt AQ.out 0 rfl
    have qy0 := Nat.lt_succ_of_lt qz0
    have qx0 := Nat.lt_succ_of_lt qy0
    have qz1 := At.lt AQ.out 1 rfl
    have qy1 := Nat.lt_succ_of_lt qz1
    have qx1 := Nat.lt_succ_of_lt qy1
    have qz2 := At.lt AQ.out 2 rfl
    have qy2 := Nat.lt_succ_of_lt qz2
    have qx2 := Nat.lt_succ_of_lt qy2
    clear hEq
    simp only [List.cons_append, List.nil_append]
    repeat (go_big_quiet_step (fail))
    refine wpQuiet_nil ?_
    exact rfl
  · intro e w b h1 h2 h3
    obtain ⟨⟨c0, c1, c2, c3, c4, c5⟩, f0, f1, f2, f3, f4, f5⟩ := run_6 h3
    have h2' : e (.tmp 50) = .agg #[.int .i64 a.x0, .int .i64 a.y0, .int .i64 a.x1, .int .i64 a.y1, .int .i64 a.turn, .int .i64 a.scale] := h2
    apply Exists.intro
    apply And.intro
    · simp [execOp, go_sem, h1, h2', c0, c1, c2, c3, c4, c5, f0, f1, f2, f3, f4, f5, Try.underlying47]
      exact rfl
    · exact store_6 h3
  · intro e w b h1 h2 h3
    obtain ⟨⟨c0, c1, c2, c3, c4, c5⟩, f0, f1, f2, f3, f4, f5⟩ := run_6 h3
    have h2' : e (.tmp 51) = .agg #[.int .i64 a.x0, .int .i64 a.y0, .int .i64 a.x1, .int .i64 a.y1, .int .i64 a.turn, .int .i64 a.scale] := h2
    apply Exists.intro
    apply And.intro
    · simp [execOp, go_sem, h1, h2', c0, c1, c2, c3, c4, c5, f0, f1, f2, f3, f4, f5, Try.underlying47]
      exact rfl
    · exact store_6 h3
  · intro bx by_ w2 X12 hbx hby hne hX hY
    have X2 := Lib.hid (X1.out.trans X12)
    have A2 := Lib.hid (show At w2 [(bx, Obj.cells #[.int .i64 a.x0, .int .i64 a.y0, .int .i64 a.x1, .int .i64 a.y1, .int .i64 a.turn, .int .i64 a.scale] 47), (by_, Obj.cells #[.int .i64 a.x0, .int .i64 a.y0, .int .i64 a.x1, .int .i64 a.y1, .int .i64 a.turn, .int .i64 a.scale] 47), (w.heap.size + 1 + 1, Obj.cells #[.int .i64 a.x0, .int .i64 a.y0, .int .i64 a.x1, .int .i64 a.y1, .int .i64 a.turn, .int .i64 a.scale] 47), (w.heap.size + 1, Obj.cells #[.int .i64 t.w, .int .i64 t.h, .slice to t.pix.length tc] 43), (w.heap.size, Obj.cells #[.int .i64 m.w, .int .i64 m.h, .slice mo m.pix.length mc] 24)] from ⟨hX, hY, At.ext X12 A1.out⟩)
    clear hX hY
    clear x00 x01 x02 x03 x04 x05 x10 x11 x12 x20 x21 x22 xf00 xf01 xf02 xf03 xf04 xf05 xf10 xf11 xf12 xf20 xf21 xf22 xz0 xy0 xx0 xz1 xy1 xx1 xz2 xy2 xx2
    obtain ⟨⟨y00, y01, y02, y03, y04, y05⟩, yf00, yf01, yf02, yf03, yf04, yf05⟩ := run_6 (At.at A2.out 0 rfl)
    obtain ⟨⟨y10, y11, y12, y13, y14, y15⟩, yf10, yf11, yf12, yf13, yf14, yf15⟩ := run_6 (At.at A2.out 1 rfl)
    obtain ⟨⟨y20, y21, y22, y23, y24, y25⟩, yf20, yf21, yf22, yf23, yf24, yf25⟩ := run_6 (At.at A2.out 2 rfl)
    obtain ⟨⟨y30, y31, y32⟩, yf30, yf31, yf32⟩ := run_3 (At.at A2.out 3 rfl)
    obtain ⟨⟨y40, y41, y42⟩, yf40, yf41, yf42⟩ := run_3 (At.at A2.out 4 rfl)
    have yz0 := At.lt A2.out 0 rfl
    have yy0 := Nat.lt_succ_of_lt yz0
    have yx0 := Nat.lt_succ_of_lt yy0
    have yz1 := At.lt A2.out 1 rfl
    have yy1 := Nat.lt_succ_of_lt yz1
    have yx1 := Nat.lt_succ_of_lt yy1
    have yz2 := At.lt A2.out 2 rfl
    have yy2 := Nat.lt_succ_of_lt yz2
    have yx2 := Nat.lt_succ_of_lt yy2
    have yz3 := At.lt A2.out 3 rfl
    have yy3 := Nat.lt_succ_of_lt yz3
    have yx3 := Nat.lt_succ_of_lt yy3
    have yz4 := At.lt A2.out 4 rfl
    have yy4 := Nat.lt_succ_of_lt yz4
    have yx4 := Nat.lt_succ_of_lt yy4
    have s1 := st_one (At.at A2.out 0 rfl) 3 (.int .i64 ((a.y0 + a.y1) / 2))
    have s2 := st_one ((s1.2.1 by_ (fun e => hne e.symm)).trans (At.at A2.out 1 rfl)) 1 (.int .i64 ((a.y0 + a.y1) / 2 + 1))
    have d0 := At.lt A1.out 0 rfl
    have d1 := At.lt A1.out 1 rfl
    have d2 := At.lt A1.out 2 rfl
    have A4 := Lib.hid (show At ((w2.setCell ⟨bx, 3, none⟩ (.int .i64 ((a.y0 + a.y1) / 2))).setCell ⟨by_, 1, none⟩ (.int .i64 ((a.y0 + a.y1) / 2 + 1))) [(bx, Obj.cells #[.int .i64 a.x0, .int .i64 a.y0, .int .i64 a.x1, .int .i64 ((a.y0 + a.y1) / 2), .int .i64 a.turn, .int .i64 a.scale] 47), (by_, Obj.cells #[.int .i64 a.x0, .int .i64 ((a.y0 + a.y1) / 2 + 1), .int .i64 a.x1, .int .i64 a.y1, .int .i64 a.turn, .int .i64 a.scale] 47), (w.heap.size + 1 + 1, Obj.cells #[.int .i64 a.x0, .int .i64 a.y0, .int .i64 a.x1, .int .i64 a.y1, .int .i64 a.turn, .int .i64 a.scale] 47), (w.heap.size + 1, Obj.cells #[.int .i64 t.w, .int .i64 t.h, .slice to t.pix.length tc] 43), (w.heap.size, Obj.cells #[.int .i64 m.w, .int .i64 m.h, .slice mo m.pix.length mc] 24)] from ⟨(s2.2.1 bx hne).trans s1.1, s2.1, ((s2.2.1 _ (Nat.ne_of_lt (Nat.lt_of_lt_of_le d0 hby))).trans (s1.2.1 _ (Nat.ne_of_lt (Nat.lt_of_lt_of_le d0 hbx)))).trans (At.at A2.out 2 rfl), ((s2.2.1 _ (Nat.ne_of_lt (Nat.lt_of_lt_of_le d1 hby))).trans (s1.2.1 _ (Nat.ne_of_lt (Nat.lt_of_lt_of_le d1 hbx)))).trans (At.at A2.out 3 rfl), ((s2.2.1 _ (Nat.ne_of_lt (Nat.lt_of_lt_of_le d2 hby))).trans (s1.2.1 _ (Nat.ne_of_lt (Nat.lt_of_lt_of_le d2 hbx)))).trans (At.at A2.out 4 rfl), trivial⟩)
    have X4 := Lib.hid (show Ext w ((w2.setCell ⟨bx, 3, none⟩ (.int .i64 ((a.y0 + a.y1) / 2))).setCell ⟨by_, 1, none⟩ (.int .i64 ((a.y0 + a.y1) / 2 + 1))) from (X2.out.setCell (p := ⟨bx, 3, none⟩) (Nat.le_trans X1.out.size hbx) _).setCell (p := ⟨by_, 1, none⟩) (Nat.le_trans X1.out.size hby) _)
    clear s1 s2 d0 d1 d2
    obtain ⟨⟨u00, u01, u02, u03, u04, u05⟩, -⟩ := run_6 (At.at A4.out 0 rfl)
    obtain ⟨⟨u10, u11, u12, u13, u14, u15⟩, -⟩ := run_6 (At.at A4.out 1 rfl)
    obtain ⟨⟨u20, u21, u22, u23, u24, u25⟩, -⟩ := run_6 (At.at A4.out 2 rfl)
    obtain ⟨⟨u30, u31, u32⟩, -⟩ := run_3 (At.at A4.out 3 rfl)
    obtain ⟨⟨u40, u41, u42⟩, -⟩ := run_3 (At.at A4.out 4 rfl)
    have uz0 := At.lt A4.out 0 rfl
    have uy0 := Nat.lt_succ_of_lt uz0
    have ux0 := Nat.lt_succ_of_lt uy0
    have uz1 := At.lt A4.out 1 rfl
    have uy1 := Nat.lt_succ_of_lt uz1
    have ux1 := Nat.lt_succ_of_lt uy1
    have uz2 := At.lt A4.out 2 rfl
    have uy2 := Nat.lt_succ_of_lt uz2
    have ux2 := Nat.lt_succ_of_lt uy2
    have uz3 := At.lt A4.out 3 rfl
    have uy3 := Nat.lt_succ_of_lt uz3
    have ux3 := Nat.lt_succ_of_lt uy3
    have uz4 := At.lt A4.out 4 rfl
    have uy4 := Nat.lt_succ_of_lt uz4
    have ux4 := Nat.lt_succ_of_lt uy4
    have V4 := Lib.hid (HV.out.ext X4.out)
    have U4 := Lib.hid (HTV.out.ext X4.out)
    go_wp2_with (first | (have _q := E7; at_builtin; refine wpList_append_sl rfl _ _ 61 rfl ((w2.setCell ⟨bx, 3, none⟩ (.int .i64 ((a.y0 + a.y1) / 2))).setCell ⟨by_, 1, none⟩ (.int .i64 ((a.y0 + a.y1) / 2 + 1))).heap.size 47 i4 zeroArea 6 48 Try.underlying61 hi4 hz4 hs4 hy4 rfl (by omega) _ SL.2.length (SL.2.flatMap areaCells) rfl T5''.out _ SR.2.length (SR.2.flatMap areaCells) rfl (SlAt.of_owns T6'.out) (areas_one SR.2) (by unfold maxLen; omega) (by omega) (Nat.le_trans (Nat.le_trans X5.out.size X6.out.size) G7.out) ?_; intro v8 w8 ho hg; have E8 := Lib.hid (E7.out.grown hg fun k hk => Nat.le_trans X4.out.size (owns_block T5''.out k hk).1); have R7' := Lib.hid (owns_at R7.out fun k hk => hg.block k (owns_lt R7.out hk) fun e => by obtain ⟨cur, fr, hc⟩ := owns_type R7.out k hk; exact owns_apart T5''.out hc (by decide) e.symm); obtain ⟨-, m8, z8, q8, -⟩ := SlAt.of_owns ho; subst q8; have T8 := Lib.hid ho; clear ho hg) | (have _q := E6; at_builtin; refine wpList_append_sl rfl _ _ 60 rfl ((w2.setCell ⟨bx, 3, none⟩ (.int .i64 ((a.y0 + a.y1) / 2))).setCell ⟨by_, 1, none⟩ (.int .i64 ((a.y0 + a.y1) / 2 + 1))).heap.size 80 i8 zeroMatch 5 40 Try.underlying60 hi8 hz8 hs8 hy8 rfl (by omega) _ SL.1.length (SL.1.flatMap matchCells) rfl R5'.out _ SR.1.length (SR.1.flatMap matchCells) rfl (SlAt.of_owns R6.out) (matches_one SR.1) (by unfold maxLen; omega) (by omega) (Nat.le_trans X5.out.size X6.out.size) ?_; intro v7 w7 ho hg; have E7 := Lib.hid (E6.out.grown hg fun k hk => Nat.le_trans X4.out.size (owns_block R5'.out k hk).1); have hb6 := fun k (hk : Value.ownBlock (.slice m5 SL.1.length z5) = some k) => owns_type R5'.out k hk; have T5'' := Lib.hid (owns_at T5'.out fun k hk => hg.block k (owns_lt T5'.out hk) fun e => by obtain ⟨cur, fr, hc⟩ := owns_type T5'.out k hk; exact owns_apart R5'.out hc (by decide) e.symm); have T6' := Lib.hid (owns_at T6.out fun k hk => hg.block k (owns_lt T6.out hk) fun e => by obtain ⟨cur, fr, hc⟩ := owns_type T6.out k hk; exact owns_apart R5'.out hc (by decide) e.symm); obtain ⟨-, m7, z7, q7, -⟩ := SlAt.of_owns ho; subst q7; have R7 := Lib.hid ho; have G7 := Lib.hid hg.size; clear ho hg hb6) | (have _q := E5; go_at_call 81; (with_reducible refine (IR.out _ (HV.out.ext E5.out) (HTV.out.ext E5.out)).mono ?_); rintro E w6 ⟨mv6, av6, rfl, r6, s6, e6⟩; obtain ⟨-, m6, z6, q6, -⟩ := SlAt.of_owns r6; obtain ⟨-, n6, y6, p6, -⟩ := SlAt.of_owns s6; subst q6 p6; have R6 := Lib.hid r6; have T6 := Lib.hid s6; clear r6 s6; have X6 := Lib.hid e6; have E6 := Lib.hid (E5.out.trans e6); have R5' := Lib.hid (owns_ext R5.out e6); have T5' := Lib.hid (owns_ext T5.out e6); clear e6) | (go_at_call 81; (with_reducible refine (IL.out _ V4.out U4.out).mono ?_); rintro E w5 ⟨mv5, av5, rfl, r5, s5, e5⟩; obtain ⟨-, m5, z5, q5, -⟩ := SlAt.of_owns r5; obtain ⟨-, n5, y5, p5, -⟩ := SlAt.of_owns s5; subst q5 p5; have R5 := Lib.hid r5; have T5 := Lib.hid s5; clear r5 s5; have X5 := Lib.hid e5; have E5 := Lib.hid (X4.out.trans e5); have A5 := Lib.hid (show At w5 [(bx, Obj.cells #[.int .i64 a.x0, .int .i64 a.y0, .int .i64 a.x1, .int .i64 ((a.y0 + a.y1) / 2), .int .i64 a.turn, .int .i64 a.scale] 47), (by_, Obj.cells #[.int .i64 a.x0, .int .i64 ((a.y0 + a.y1) / 2 + 1), .int .i64 a.x1, .int .i64 a.y1, .int .i64 a.turn, .int .i64 a.scale] 47), (w.heap.size + 1 + 1, Obj.cells #[.int .i64 a.x0, .int .i64 a.y0, .int .i64 a.x1, .int .i64 a.y1, .int .i64 a.turn, .int .i64 a.scale] 47), (w.heap.size + 1, Obj.cells #[.int .i64 t.w, .int .i64 t.h, .slice to t.pix.length tc] 43), (w.heap.size, Obj.cells #[.int .i64 m.w, .int .i64 m.h, .slice mo m.pix.length mc] 24)] from At.ext e5 A4.out); clear e5; obtain ⟨⟨v00, v01, v02, v03, v04, v05⟩, -⟩ := run_6 (At.at A5.out 0 rfl); obtain ⟨⟨v10, v11, v12, v13, v14, v15⟩, -⟩ := run_6 (At.at A5.out 1 rfl); obtain ⟨⟨v20, v21, v22, v23, v24, v25⟩, -⟩ := run_6 (At.at A5.out 2 rfl); obtain ⟨⟨v30, v31, v32⟩, -⟩ := run_3 (At.at A5.out 3 rfl); obtain ⟨⟨v40, v41, v42⟩, -⟩ := run_3 (At.at A5.out 4 rfl); have vz0 := At.lt A5.out 0 rfl; have vy0 := Nat.lt_succ_of_lt vz0; have vx0 := Nat.lt_succ_of_lt vy0; have vz1 := At.lt A5.out 1 rfl; have vy1 := Nat.lt_succ_of_lt vz1; have vx1 := Nat.lt_succ_of_lt vy1; have vz2 := At.lt A5.out 2 rfl; have vy2 := Nat.lt_succ_of_lt vz2; have vx2 := Nat.lt_succ_of_lt vy2; have vz3 := At.lt A5.out 3 rfl; have vy3 := Nat.lt_succ_of_lt vz3; have vx3 := Nat.lt_succ_of_lt vy3; have vz4 := At.lt A5.out 4 rfl; have vy4 := Nat.lt_succ_of_lt vz4; have vx4 := Nat.lt_succ_of_lt vy4))
    go_ret2
    exact ⟨_, _, rfl, by rw [List.length_append, List.flatMap_append]; exact owns_base R7'.out X4.out.size, by rw [List.length_append, List.flatMap_append]; exact owns_base T8.out X4.out.size, E8.out⟩
set_option maxRecDepth 100000 in
set_option maxHeartbeats 16000000 in
theorem c81_high1 (m : Img) (v : Value) (t : Tpl) (tv : Value) (limit : Int) (hm : m.Camera) (ht : t.Ok) (hml : m.pix.length ≤ maxLen) (mo to : Option Addr) (mc tc : Nat) (hv0 : v = .slice mo m.pix.length mc) (ht0 : tv = .slice to t.pix.length tc) (a : Area) (w : World) (ha : a.Ok m) (hv : IntsAt w v m.pix) (htv : IntsAt w tv t.pix) (SL SR : List Match × List Area) (ihL : ∀ (w : World), IntsAt w v m.pix → IntsAt w tv t.pix → Calls Try.prog 81 #[imgVal m v, tplVal t tv, .int .i64 limit, areaVal (leftOf a)] w (TwoRows SL w)) (ihR : ∀ (w : World), IntsAt w v m.pix → IntsAt w tv t.pix → Calls Try.prog 81 #[imgVal m v, tplVal t tv, .int .i64 limit, areaVal (rightOf a)] w (TwoRows SR w)) (hs1 : SL.1.length + SR.1.length ≤ 100000) (hs2 : SL.2.length + SR.2.length ≤ 100000) (hb : ¬ limit < bound m t a) (h1 : ¬ a.One) (hw : ¬ a.y1 - a.y0 ≤ a.x1 - a.x0) (hx : ¬ a.x1 = a.x0) :
    Calls Try.prog 81 #[imgVal m v, tplVal t tv, .int .i64 limit, areaVal a] w (TwoRows (SL.1 ++ SR.1, SL.2 ++ SR.2) w) := by
  have HV := Lib.hid hv
  have HTV := Lib.hid htv
  have K72 := Lib.hid (fun w' (h : Ext w w') => c72 m v t tv a w' hm ht (hv.ext h) (htv.ext h) ha)
  obtain ⟨bd, hbd⟩ : ∃ bd, bound m t a = bd := ⟨_, rfl⟩
  simp only [hbd] at K72
  rw [hbd] at hb
  subst hv0 ht0
  obtain ⟨⟨b10, b11, b12⟩, b20, b21, b22⟩ : (0 ≤ a.x0 ∧ a.x0 ≤ a.x1 ∧ a.x1 ≤ 15) ∧ 0 ≤ a.y0 ∧ a.y0 ≤ a.y1 ∧ a.y1 ≤ 15 := by
    obtain ⟨⟨h1, h2, h3⟩, ⟨h4, h5, h6⟩, -⟩ := ha
    obtain ⟨⟨g1, g2⟩, ⟨g3, g4⟩, -⟩ := hm.1
    refine ⟨⟨?_, ?_, ?_⟩, ?_, ?_, ?_⟩ <;> omega
  have hb0 : decide (limit < bd) = false := decide_eq_false hb
  clear hb
  rw [left_high hw] at ihL
  rw [right_high hw] at ihR
  have IL := Lib.hid ihL
  have IR := Lib.hid ihR
  clear ihL ihR
  have hw0 : (a.x0 == a.x1) = false := by simp; omega
  have hw1 : (a.y0 == a.y1) = false := by unfold Area.One at h1; simp; omega
  have hw2 : decide (a.y1 - a.y0 ≤ a.x1 - a.x0) = false := decide_eq_false hw
  have hq : (a.y0 + a.y1).tdiv 2 = (a.y0 + a.y1) / 2 := Int.tdiv_eq_ediv_of_nonneg (by omega)
  clear h1 hw hx
  unfold imgVal tplVal areaVal at *
  have HBD := Lib.hid hbd
  clear hv htv ha hbd
  go_enter Try.func81, Try.ntmps81
  go_wp2_with (go_at_call 72; (with_reducible refine (K72.out _ (by repeat (first | exact Ext.refl _ | assumption | refine Ext.alloc ?_ _ | refine Ext.drewN ?_ _ | refine ext_grow ?_ _ _ | refine Ext.trans ?_ (by assumption)))).mono ?_); rintro E w1 ⟨rfl, hb1⟩; have A1 := Lib.hid (show At w1 [(w.heap.size + 1 + 1, Obj.cells #[.int .i64 a.x0, .int .i64 a.y0, .int .i64 a.x1, .int .i64 a.y1, .int .i64 a.turn, .int .i64 a.scale] 47), (w.heap.size + 1, Obj.cells #[.int .i64 t.w, .int .i64 t.h, .slice to t.pix.length tc] 43), (w.heap.size, Obj.cells #[.int .i64 m.w, .int .i64 m.h, .slice mo m.pix.length mc] 24)] from At.ext hb1 ⟨(by repeat (first | (refine blk_at _ _ ?_; (first | rfl | (simp only [size_one]; done))) | refine (blk_past _ _ (by simp only [size_one]; omega)).trans ?_)), (by repeat (first | (refine blk_at _ _ ?_; (first | rfl | (simp only [size_one]; done))) | refine (blk_past _ _ (by simp only [size_one]; omega)).trans ?_)), (by repeat (first | (refine blk_at _ _ ?_; (first | rfl | (simp only [size_one]; done))) | refine (blk_past _ _ (by simp only [size_one]; omega)).trans ?_)), trivial⟩); have X1 := Lib.hid (show Ext w w1 from (by repeat (first | exact Ext.refl _ | assumption | refine Ext.alloc ?_ _ | refine Ext.drewN ?_ _ | refine ext_grow ?_ _ _ | refine Ext.trans ?_ (by assumption)))); obtain ⟨⟨x00, x01, x02, x03, x04, x05⟩, xf00, xf01, xf02, xf03, xf04, xf05⟩ := run_6 (At.at A1.out 0 rfl); obtain ⟨⟨x10, x11, x12⟩, xf10, xf11, xf12⟩ := run_3 (At.at A1.out 1 rfl); obtain ⟨⟨x20, x21, x22⟩, xf20, xf21, xf22⟩ := run_3 (At.at A1.out 2 rfl); have xz0 := At.lt A1.out 0 rfl; have xy0 := Nat.lt_succ_of_lt xz0; have xx0 := Nat.lt_succ_of_lt xy0; have xz1 := At.lt A1.out 1 rfl; have xy1 := Nat.lt_succ_of_lt xz1; have xx1 := Nat.lt_succ_of_lt xy1; have xz2 := At.lt A1.out 2 rfl; have xy2 := Nat.lt_succ_of_lt xz2; have xx2 := Nat.lt_succ_of_lt xy2)
  obtain ⟨i8, hi8, hz8, hs8, hy8⟩ := info_parts info80
  obtain ⟨i4, hi4, hz4, hs4, hy4⟩ := info_parts inf47
  refine RT.region_two (aq := ?aq1) (n := 2) (sx := 11) (sy := 12) (vx := 50) (vy := 51) (oz := .cells #[.int .i64 0, .int .i64 0, .int .i64 0, .int .i64 0, .int .i64 0, .int .i64 0] 47) (ox := .cells #[.int .i64 a.x0, .int .i64 a.y0, .int .i64 a.x1, .int .i64 a.y1, .int .i64 a.turn, .int .i64 a.scale] 47) (oy := .cells #[.int .i64 a.x0, .int .i64 a.y0, .int .i64 a.x1, .int .i64 a.y1, .int .i64 a.turn, .int .i64 a.scale] 47) (qs := [_, _]) (by kernel_rfl) rfl (by kernel_rfl) (by kernel_rfl) rfl rfl (of_decide_eq_true (by kernel_rfl)) (of_decide_eq_true (by kernel_rfl)) rfl rfl rfl rfl (by kernel_rfl) (by kernel_rfl) (by kernel_rfl) (by kernel_rfl) ?_ ?_ ?_ ?_ ?_ ?_
  rotate_left
  · intro e w
    simp [execOp, go_sem, Try.underlying47]
  · intro e w
    simp [execOp, go_sem, Try.underlying47]
  · intro wq hEq
    have AQ := Lib.hid (show At wq [(w.heap.size + 1 + 1, Obj.cells #[.int .i64 a.x0, .int .i64 a.y0, .int .i64 a.x1, .int .i64 a.y1, .int .i64 a.turn, .int .i64 a.scale] 47), (w.heap.size + 1, Obj.cells #[.int .i64 t.w, .int .i64 t.h, .slice to t.pix.length tc] 43), (w.heap.size, Obj.cells #[.int .i64 m.w, .int .i64 m.h, .slice mo m.pix.length mc] 24)] from At.ext hEq A1.out)
    obtain ⟨⟨q00, q01, q02, q03, q04, q05⟩, -⟩ := run_6 (At.at AQ.out 0 rfl)
    obtain ⟨⟨q10, q11, q12⟩, -⟩ := run_3 (At.at AQ.out 1 rfl)
    obtain ⟨⟨q20, q21, q22⟩, -⟩ := run_3 (At.at AQ.out 2 rfl)
    have qz0 := At.lt AQ.out 0 rfl
    have qy0 := Nat.lt_succ_of_lt qz0
    have qx0 := Nat.lt_succ_of_lt qy0
    have qz1 := At.lt AQ.out 1 rfl
    have qy1 := Nat.lt_succ_of_lt qz1
    have qx1 := Nat.lt_succ_of_lt qy1
    have qz2 := At.lt AQ.out 2 rfl
    have qy2 := Nat.lt_succ_of_lt qz2
    have qx2 := Nat.lt_succ_of_lt qy2
    clear hEq
    simp only [List.cons_append, List.nil_append]
    repeat (go_big_quiet_step (fail))
    refine wpQuiet_nil ?_
    exact rfl
  · intro e w b h1 h2 h3
    obtain ⟨⟨c0, c1, c2, c3, c4, c5⟩, f0, f1, f2, f3, f4, f5⟩ := run_6 h3
    have h2' : e (.tmp 50) = .agg #[.int .i64 a.x0, .int .i64 a.y0, .int .i64 a.x1, .int .i64 a.y1, .int .i64 a.turn, .int .i64 a.scale] := h2
    apply Exists.intro
    apply And.intro
    · simp [execOp, go_sem, h1, h2', c0, c1, c2, c3, c4, c5, f0, f1, f2, f3, f4, f5, Try.underlying47]
      exact rfl
    · exact store_6 h3
  · intro e w b h1 h2 h3
    obtain ⟨⟨c0, c1, c2, c3, c4, c5⟩, f0, f1, f2, f3, f4, f5⟩ := run_6 h3
    have h2' : e (.tmp 51) = .agg #[.int .i64 a.x0, .int .i64 a.y0, .int .i64 a.x1, .int .i64 a.y1, .int .i64 a.turn, .int .i64 a.scale] := h2
    apply Exists.intro
    apply And.intro
    · simp [execOp, go_sem, h1, h2', c0, c1, c2, c3, c4, c5, f0, f1, f2, f3, f4, f5, Try.underlying47]
      exact rfl
    · exact store_6 h3
  · intro bx by_ w2 X12 hbx hby hne hX hY
    have X2 := Lib.hid (X1.out.trans X12)
    have A2 := Lib.hid (show At w2 [(bx, Obj.cells #[.int .i64 a.x0, .int .i64 a.y0, .int .i64 a.x1, .int .i64 a.y1, .int .i64 a.turn, .int .i64 a.scale] 47), (by_, Obj.cells #[.int .i64 a.x0, .int .i64 a.y0, .int .i64 a.x1, .int .i64 a.y1, .int .i64 a.turn, .int .i64 a.scale] 47), (w.heap.size + 1 + 1, Obj.cells #[.int .i64 a.x0, .int .i64 a.y0, .int .i64 a.x1, .int .i64 a.y1, .int .i64 a.turn, .int .i64 a.scale] 47), (w.heap.size + 1, Obj.cells #[.int .i64 t.w, .int .i64 t.h, .slice to t.pix.length tc] 43), (w.heap.size, Obj.cells #[.int .i64 m.w, .int .i64 m.h, .slice mo m.pix.length mc] 24)] from ⟨hX, hY, At.ext X12 A1.out⟩)
    clear hX hY
    clear x00 x01 x02 x03 x04 x05 x10 x11 x12 x20 x21 x22 xf00 xf01 xf02 xf03 xf04 xf05 xf10 xf11 xf12 xf20 xf21 xf22 xz0 xy0 xx0 xz1 xy1 xx1 xz2 xy2 xx2
    obtain ⟨⟨y00, y01, y02, y03, y04, y05⟩, yf00, yf01, yf02, yf03, yf04, yf05⟩ := run_6 (At.at A2.out 0 rfl)
    obtain ⟨⟨y10, y11, y12, y13, y14, y15⟩, yf10, yf11, yf12, yf13, yf14, yf15⟩ := run_6 (At.at A2.out 1 rfl)
    obtain ⟨⟨y20, y21, y22, y23, y24, y25⟩, yf20, yf21, yf22, yf23, yf24, yf25⟩ := run_6 (At.at A2.out 2 rfl)
    obtain ⟨⟨y30, y31, y32⟩, yf30, yf31, yf32⟩ := run_3 (At.at A2.out 3 rfl)
    obtain ⟨⟨y40, y41, y42⟩, yf40, yf41, yf42⟩ := run_3 (At.at A2.out 4 rfl)
    have yz0 := At.lt A2.out 0 rfl
    have yy0 := Nat.lt_succ_of_lt yz0
    have yx0 := Nat.lt_succ_of_lt yy0
    have yz1 := At.lt A2.out 1 rfl
    have yy1 := Nat.lt_succ_of_lt yz1
    have yx1 := Nat.lt_succ_of_lt yy1
    have yz2 := At.lt A2.out 2 rfl
    have yy2 := Nat.lt_succ_of_lt yz2
    have yx2 := Nat.lt_succ_of_lt yy2
    have yz3 := At.lt A2.out 3 rfl
    have yy3 := Nat.lt_succ_of_lt yz3
    have yx3 := Nat.lt_succ_of_lt yy3
    have yz4 := At.lt A2.out 4 rfl
    have yy4 := Nat.lt_succ_of_lt yz4
    have yx4 := Nat.lt_succ_of_lt yy4
    have s1 := st_one (At.at A2.out 0 rfl) 3 (.int .i64 ((a.y0 + a.y1) / 2))
    have s2 := st_one ((s1.2.1 by_ (fun e => hne e.symm)).trans (At.at A2.out 1 rfl)) 1 (.int .i64 ((a.y0 + a.y1) / 2 + 1))
    have d0 := At.lt A1.out 0 rfl
    have d1 := At.lt A1.out 1 rfl
    have d2 := At.lt A1.out 2 rfl
    have A4 := Lib.hid (show At ((w2.setCell ⟨bx, 3, none⟩ (.int .i64 ((a.y0 + a.y1) / 2))).setCell ⟨by_, 1, none⟩ (.int .i64 ((a.y0 + a.y1) / 2 + 1))) [(bx, Obj.cells #[.int .i64 a.x0, .int .i64 a.y0, .int .i64 a.x1, .int .i64 ((a.y0 + a.y1) / 2), .int .i64 a.turn, .int .i64 a.scale] 47), (by_, Obj.cells #[.int .i64 a.x0, .int .i64 ((a.y0 + a.y1) / 2 + 1), .int .i64 a.x1, .int .i64 a.y1, .int .i64 a.turn, .int .i64 a.scale] 47), (w.heap.size + 1 + 1, Obj.cells #[.int .i64 a.x0, .int .i64 a.y0, .int .i64 a.x1, .int .i64 a.y1, .int .i64 a.turn, .int .i64 a.scale] 47), (w.heap.size + 1, Obj.cells #[.int .i64 t.w, .int .i64 t.h, .slice to t.pix.length tc] 43), (w.heap.size, Obj.cells #[.int .i64 m.w, .int .i64 m.h, .slice mo m.pix.length mc] 24)] from ⟨(s2.2.1 bx hne).trans s1.1, s2.1, ((s2.2.1 _ (Nat.ne_of_lt (Nat.lt_of_lt_of_le d0 hby))).trans (s1.2.1 _ (Nat.ne_of_lt (Nat.lt_of_lt_of_le d0 hbx)))).trans (At.at A2.out 2 rfl), ((s2.2.1 _ (Nat.ne_of_lt (Nat.lt_of_lt_of_le d1 hby))).trans (s1.2.1 _ (Nat.ne_of_lt (Nat.lt_of_lt_of_le d1 hbx)))).trans (At.at A2.out 3 rfl), ((s2.2.1 _ (Nat.ne_of_lt (Nat.lt_of_lt_of_le d2 hby))).trans (s1.2.1 _ (Nat.ne_of_lt (Nat.lt_of_lt_of_le d2 hbx)))).trans (At.at A2.out 4 rfl), trivial⟩)
    have X4 := Lib.hid (show Ext w ((w2.setCell ⟨bx, 3, none⟩ (.int .i64 ((a.y0 + a.y1) / 2))).setCell ⟨by_, 1, none⟩ (.int .i64 ((a.y0 + a.y1) / 2 + 1))) from (X2.out.setCell (p := ⟨bx, 3, none⟩) (Nat.le_trans X1.out.size hbx) _).setCell (p := ⟨by_, 1, none⟩) (Nat.le_trans X1.out.size hby) _)
    clear s1 s2 d0 d1 d2
    obtain ⟨⟨u00, u01, u02, u03, u04, u05⟩, -⟩ := run_6 (At.at A4.out 0 rfl)
    obtain ⟨⟨u10, u11, u12, u13, u14, u15⟩, -⟩ := run_6 (At.at A4.out 1 rfl)
    obtain ⟨⟨u20, u21, u22, u23, u24, u25⟩, -⟩ := run_6 (At.at A4.out 2 rfl)
    obtain ⟨⟨u30, u31, u32⟩, -⟩ := run_3 (At.at A4.out 3 rfl)
    obtain ⟨⟨u40, u41, u42⟩, -⟩ := run_3 (At.at A4.out 4 rfl)
    have uz0 := At.lt A4.out 0 rfl
    have uy0 := Nat.lt_succ_of_lt uz0
    have ux0 := Nat.lt_succ_of_lt uy0
    have uz1 := At.lt A4.out 1 rfl
    have uy1 := Nat.lt_succ_of_lt uz1
    have ux1 := Nat.lt_succ_of_lt uy1
    have uz2 := At.lt A4.out 2 rfl
    have uy2 := Nat.lt_succ_of_lt uz2
    have ux2 := Nat.lt_succ_of_lt uy2
    have uz3 := At.lt A4.out 3 rfl
    have uy3 := Nat.lt_succ_of_lt uz3
    have ux3 := Nat.lt_succ_of_lt uy3
    have uz4 := At.lt A4.out 4 rfl
    have uy4 := Nat.lt_succ_of_lt uz4
    have ux4 := Nat.lt_succ_of_lt uy4
    have V4 := Lib.hid (HV.out.ext X4.out)
    have U4 := Lib.hid (HTV.out.ext X4.out)
    go_wp2_with (first | (have _q := E7; at_builtin; refine wpList_append_sl rfl _ _ 61 rfl ((w2.setCell ⟨bx, 3, none⟩ (.int .i64 ((a.y0 + a.y1) / 2))).setCell ⟨by_, 1, none⟩ (.int .i64 ((a.y0 + a.y1) / 2 + 1))).heap.size 47 i4 zeroArea 6 48 Try.underlying61 hi4 hz4 hs4 hy4 rfl (by omega) _ SL.2.length (SL.2.flatMap areaCells) rfl T5''.out _ SR.2.length (SR.2.flatMap areaCells) rfl (SlAt.of_owns T6'.out) (areas_one SR.2) (by unfold maxLen; omega) (by omega) (Nat.le_trans (Nat.le_trans X5.out.size X6.out.size) G7.out) ?_; intro v8 w8 ho hg; have E8 := Lib.hid (E7.out.grown hg fun k hk => Nat.le_trans X4.out.size (owns_block T5''.out k hk).1); have R7' := Lib.hid (owns_at R7.out fun k hk => hg.block k (owns_lt R7.out hk) fun e => by obtain ⟨cur, fr, hc⟩ := owns_type R7.out k hk; exact owns_apart T5''.out hc (by decide) e.symm); obtain ⟨-, m8, z8, q8, -⟩ := SlAt.of_owns ho; subst q8; have T8 := Lib.hid ho; clear ho hg) | (have _q := E6; at_builtin; refine wpList_append_sl rfl _ _ 60 rfl ((w2.setCell ⟨bx, 3, none⟩ (.int .i64 ((a.y0 + a.y1) / 2))).setCell ⟨by_, 1, none⟩ (.int .i64 ((a.y0 + a.y1) / 2 + 1))).heap.size 80 i8 zeroMatch 5 40 Try.underlying60 hi8 hz8 hs8 hy8 rfl (by omega) _ SL.1.length (SL.1.flatMap matchCells) rfl R5'.out _ SR.1.length (SR.1.flatMap matchCells) rfl (SlAt.of_owns R6.out) (matches_one SR.1) (by unfold maxLen; omega) (by omega) (Nat.le_trans X5.out.size X6.out.size) ?_; intro v7 w7 ho hg; have E7 := Lib.hid (E6.out.grown hg fun k hk => Nat.le_trans X4.out.size (owns_block R5'.out k hk).1); have hb6 := fun k (hk : Value.ownBlock (.slice m5 SL.1.length z5) = some k) => owns_type R5'.out k hk; have T5'' := Lib.hid (owns_at T5'.out fun k hk => hg.block k (owns_lt T5'.out hk) fun e => by obtain ⟨cur, fr, hc⟩ := owns_type T5'.out k hk; exact owns_apart R5'.out hc (by decide) e.symm); have T6' := Lib.hid (owns_at T6.out fun k hk => hg.block k (owns_lt T6.out hk) fun e => by obtain ⟨cur, fr, hc⟩ := owns_type T6.out k hk; exact owns_apart R5'.out hc (by decide) e.symm); obtain ⟨-, m7, z7, q7, -⟩ := SlAt.of_owns ho; subst q7; have R7 := Lib.hid ho; have G7 := Lib.hid hg.size; clear ho hg hb6) | (have _q := E5; go_at_call 81; (with_reducible refine (IR.out _ (HV.out.ext E5.out) (HTV.out.ext E5.out)).mono ?_); rintro E w6 ⟨mv6, av6, rfl, r6, s6, e6⟩; obtain ⟨-, m6, z6, q6, -⟩ := SlAt.of_owns r6; obtain ⟨-, n6, y6, p6, -⟩ := SlAt.of_owns s6; subst q6 p6; have R6 := Lib.hid r6; have T6 := Lib.hid s6; clear r6 s6; have X6 := Lib.hid e6; have E6 := Lib.hid (E5.out.trans e6); have R5' := Lib.hid (owns_ext R5.out e6); have T5' := Lib.hid (owns_ext T5.out e6); clear e6) | (go_at_call 81; (with_reducible refine (IL.out _ V4.out U4.out).mono ?_); rintro E w5 ⟨mv5, av5, rfl, r5, s5, e5⟩; obtain ⟨-, m5, z5, q5, -⟩ := SlAt.of_owns r5; obtain ⟨-, n5, y5, p5, -⟩ := SlAt.of_owns s5; subst q5 p5; have R5 := Lib.hid r5; have T5 := Lib.hid s5; clear r5 s5; have X5 := Lib.hid e5; have E5 := Lib.hid (X4.out.trans e5); have A5 := Lib.hid (show At w5 [(bx, Obj.cells #[.int .i64 a.x0, .int .i64 a.y0, .int .i64 a.x1, .int .i64 ((a.y0 + a.y1) / 2), .int .i64 a.turn, .int .i64 a.scale] 47), (by_, Obj.cells #[.int .i64 a.x0, .int .i64 ((a.y0 + a.y1) / 2 + 1), .int .i64 a.x1, .int .i64 a.y1, .int .i64 a.turn, .int .i64 a.scale] 47), (w.heap.size + 1 + 1, Obj.cells #[.int .i64 a.x0, .int .i64 a.y0, .int .i64 a.x1, .int .i64 a.y1, .int .i64 a.turn, .int .i64 a.scale] 47), (w.heap.size + 1, Obj.cells #[.int .i64 t.w, .int .i64 t.h, .slice to t.pix.length tc] 43), (w.heap.size, Obj.cells #[.int .i64 m.w, .int .i64 m.h, .slice mo m.pix.length mc] 24)] from At.ext e5 A4.out); clear e5; obtain ⟨⟨v00, v01, v02, v03, v04, v05⟩, -⟩ := run_6 (At.at A5.out 0 rfl); obtain ⟨⟨v10, v11, v12, v13, v14, v15⟩, -⟩ := run_6 (At.at A5.out 1 rfl); obtain ⟨⟨v20, v21, v22, v23, v24, v25⟩, -⟩ := run_6 (At.at A5.out 2 rfl); obtain ⟨⟨v30, v31, v32⟩, -⟩ := run_3 (At.at A5.out 3 rfl); obtain ⟨⟨v40, v41, v42⟩, -⟩ := run_3 (At.at A5.out 4 rfl); have vz0 := At.lt A5.out 0 rfl; have vy0 := Nat.lt_succ_of_lt vz0; have vx0 := Nat.lt_succ_of_lt vy0; have vz1 := At.lt A5.out 1 rfl; have vy1 := Nat.lt_succ_of_lt vz1; have vx1 := Nat.lt_succ_of_lt vy1; have vz2 := At.lt A5.out 2 rfl; have vy2 := Nat.lt_succ_of_lt vz2; have vx2 := Nat.lt_succ_of_lt vy2; have vz3 := At.lt A5.out 3 rfl; have vy3 := Nat.lt_succ_of_lt vz3; have vx3 := Nat.lt_succ_of_lt vy3; have vz4 := At.lt A5.out 4 rfl; have vy4 := Nat.lt_succ_of_lt vz4; have vx4 := Nat.lt_succ_of_lt vy4))
    go_ret2
    exact ⟨_, _, rfl, by rw [List.length_append, List.flatMap_append]; exact owns_base R7'.out X4.out.size, by rw [List.length_append, List.flatMap_append]; exact owns_base T8.out X4.out.size, E8.out⟩
theorem c81 (m : Img) (v : Value) (t : Tpl) (tv : Value) (limit : Int) (hm : m.Camera) (ht : t.Ok) (hml : m.pix.length ≤ maxLen) (mo to : Option Addr) (mc tc : Nat) (hv0 : v = .slice mo m.pix.length mc) (ht0 : tv = .slice to t.pix.length tc) : ∀ (k : Nat) (a : Area), a.Ok m → a.size ≤ k → (search m t limit k a).1.length + (search m t limit k a).2.length ≤ 100000 → ∀ (w : World), IntsAt w v m.pix → IntsAt w tv t.pix → Calls Try.prog 81 #[imgVal m v, tplVal t tv, .int .i64 limit, areaVal a] w (TwoRows (search m t limit k a) w) := by
  intro k
  induction k with
  | zero =>
    intro a ha hk g0 w g1 g2
    by_cases hb : limit < bound m t a
    · rw [search_far 0 hb] at *
      exact c81_far m v t tv limit hm ht hml mo to mc tc hv0 ht0 a w ha g1 g2 hb
    · have ho := one_of_size ha.full (by simpa using hk)
      rw [search_one 0 hb ho] at *
      exact c81_one m v t tv limit hm ht hml mo to mc tc hv0 ht0 a w ha g1 g2 hb ho
  | succ k ih =>
    intro a ha hk g0 w g1 g2
    by_cases hb : limit < bound m t a
    · rw [search_far (k + 1) hb] at *
      exact c81_far m v t tv limit hm ht hml mo to mc tc hv0 ht0 a w ha g1 g2 hb
    by_cases ho : a.One
    · rw [search_one (k + 1) hb ho] at *
      exact c81_one m v t tv limit hm ht hml mo to mc tc hv0 ht0 a w ha g1 g2 hb ho
    obtain ⟨-, ⟨s1, s2⟩, -, -, -⟩ := halves ha.full ho
    obtain ⟨o1, o2⟩ := halves_ok ha ho
    rw [search_more k hb ho] at *
    simp only [List.length_append] at g0
    have i1 := ih (leftOf a) o1 (by omega) (by omega)
    have i2 := ih (rightOf a) o2 (by omega) (by omega)
    by_cases hw : a.y1 - a.y0 ≤ a.x1 - a.x0
    · exact c81_wide m v t tv limit hm ht hml mo to mc tc hv0 ht0 a w ha g1 g2 _ _ i1 i2 (by omega) (by omega) hb ho hw
    by_cases hx : a.x1 = a.x0
    · exact c81_high0 m v t tv limit hm ht hml mo to mc tc hv0 ht0 a w ha g1 g2 _ _ i1 i2 (by omega) (by omega) hb ho hw hx
    · exact c81_high1 m v t tv limit hm ht hml mo to mc tc hv0 ht0 a w ha g1 g2 _ _ i1 i2 (by omega) (by omega) hb ho hw hx
end Go.Proofs.Ytipkjdfnoonpcaa

/- Putting matches in order by exchanging neighbours, as plain data; one match of a row stored anew. -/
namespace Go.Proofs.Ytipkjdfnoonpcaa
open Go.RowKit Go.Sort

/-- in order before i, but for the match at k -/
def Ord (L : List Match) (i k : Nat) : Prop := ∀ p q, p < q → q < i → q ≠ k → ¬ ltM (L.getD q match0) (L.getD p match0)
def swapM (L : List Match) (k : Nat) : List Match := (L.set k (L.getD (k - 1) match0)).set (k - 1) (L.getD k match0)
theorem getD_set {L : List Match} {k i : Nat} {x : Match} (hk : k < L.length) : (L.set k x).getD i match0 = if k = i then x else L.getD i match0 := by
  rw [List.getD_eq_getElem?_getD, List.getElem?_set, List.getD_eq_getElem?_getD]
  by_cases h : k = i
  · rw [if_pos h, if_pos hk, if_pos h]; rfl
  · rw [if_neg h, if_neg h]
theorem getD_swap {L : List Match} {k i : Nat} (h0 : 0 < k) (hk : k < L.length) : (swapM L k).getD i match0 = if i = k - 1 then L.getD k match0 else if i = k then L.getD (k - 1) match0 else L.getD i match0 := by
  unfold swapM
  rw [getD_set (by rw [List.length_set]; omega), getD_set hk]
  by_cases h1 : k - 1 = i
  · rw [if_pos h1, if_pos h1.symm]
  · by_cases h2 : k = i
    · rw [if_neg h1, if_pos h2, if_neg (fun e => h1 e.symm), if_pos h2.symm]
    · rw [if_neg h1, if_neg h2, if_neg (fun e => h1 e.symm), if_neg (fun e => h2 e.symm)]
theorem swap_length (L : List Match) (k : Nat) : (swapM L k).length = L.length := by simp [swapM]
theorem swap_perm {L : List Match} {k : Nat} (h0 : 0 < k) (hk : k < L.length) : (swapM L k).Perm L := by
  obtain ⟨j, rfl⟩ : ∃ j, k = j + 1 := ⟨k - 1, by omega⟩
  have e : L = L.take j ++ (L.getD j match0 :: L.getD (j + 1) match0 :: L.drop (j + 2)) := by
    have h1 : L.drop j = L.getD j match0 :: L.drop (j + 1) := by
      rw [List.getD_eq_getElem?_getD, List.getElem?_eq_getElem (by omega)]
      exact List.drop_eq_getElem_cons (by omega)
    have h2 : L.drop (j + 1) = L.getD (j + 1) match0 :: L.drop (j + 2) := by
      rw [List.getD_eq_getElem?_getD, List.getElem?_eq_getElem hk]
      exact List.drop_eq_getElem_cons hk
    rw [← h2, ← h1, List.take_append_drop]
  have e2 : swapM L (j + 1) = L.take j ++ (L.getD (j + 1) match0 :: L.getD j match0 :: L.drop (j + 2)) := by
    have hl : (L.take j).length = j := by simp; omega
    unfold swapM
    generalize hx : L.getD j match0 = x at *
    generalize hy : L.getD (j + 1) match0 = y at *
    rw [Nat.add_sub_cancel, hx]
    generalize L.take j = A at *
    generalize L.drop (j + 2) = B at *
    rw [e, List.set_append_right _ _ (by omega), hl, Nat.add_sub_cancel_left]
    simp only [List.set_cons_succ, List.set_cons_zero]
    rw [List.set_append_right _ _ (by omega), hl, Nat.sub_self, List.set_cons_zero]
  rw [e2]
  conv => rhs; rw [e]
  exact List.Perm.append_left _ (List.Perm.swap _ _ _)
theorem ord_swap {L : List Match} {i k : Nat} (h : Ord L (i + 1) k) (h0 : 0 < k) (hk : k ≤ i) (hi : i < L.length) (hb : ltM (L.getD k match0) (L.getD (k - 1) match0)) : Ord (swapM L k) (i + 1) (k - 1) := by
  intro p q hpq hq hne
  rw [getD_swap h0 (by omega), getD_swap h0 (by omega), if_neg hne]
  by_cases q1 : q = k
  · subst q1
    rw [if_pos rfl]
    by_cases p1 : p = q - 1
    · rw [if_pos p1]
      unfold ltM at *
      omega
    · rw [if_neg p1, if_neg (by omega)]
      exact h p (q - 1) (by omega) (by omega) (by omega)
  · rw [if_neg q1]
    by_cases p1 : p = k - 1
    · rw [if_pos p1]
      exact h k q (by omega) hq q1
    · rw [if_neg p1]
      by_cases p2 : p = k
      · rw [if_pos p2]
        exact h (k - 1) q (by omega) hq q1
      · rw [if_neg p2]
        exact h p q hpq hq q1
theorem ord_stop {L : List Match} {i k : Nat} (h : Ord L (i + 1) k) (hk : k ≤ i) (hb : k = 0 ∨ ¬ ltM (L.getD k match0) (L.getD (k - 1) match0)) : Ord L (i + 1) (i + 1) := by
  intro p q hpq hq _
  by_cases q1 : q = k
  · subst q1
    rcases hb with hb | hb
    · omega
    by_cases p1 : p = q - 1
    · rw [p1]; exact hb
    · have h1 := h p (q - 1) (by omega) (by omega) (by omega)
      unfold ltM at *
      omega
  · exact h p q hpq hq q1
theorem ord_start {L : List Match} {i : Nat} (h : Ord L i i) : Ord L (i + 1) i := fun p q hpq hq hne => h p q hpq (by omega) (by omega)
theorem ord_sorted {L : List Match} (h : Ord L L.length L.length) : L.Pairwise fun x y => ¬ ltM y x := by
  rw [List.pairwise_iff_getElem]
  intro p q hp hq hpq
  have := h p q hpq hq (by omega)
  rw [List.getD_eq_getElem?_getD, List.getD_eq_getElem?_getD, List.getElem?_eq_getElem hp, List.getElem?_eq_getElem hq] at this
  exact this

/-! ### one match of a row, stored anew -/
def set5 (w : World) (g o : Nat) (x : Match) : World := ((((w.setCell ⟨g, o, none⟩ (.int .i64 x.pose.x)).setCell ⟨g, o + 1, none⟩ (.int .i64 x.pose.y)).setCell ⟨g, o + 2, none⟩ (.int .i64 x.pose.turn)).setCell ⟨g, o + 3, none⟩ (.int .i64 x.pose.scale)).setCell ⟨g, o + 4, none⟩ (.int .i64 x.dist)
theorem set5_other (w : World) (g o : Nat) (x : Match) (k : Nat) (hk : k ≠ g) : (set5 w g o x).heap[k]? = w.heap[k]? := by
  unfold set5
  rw [set_at _ g _ _ k hk, set_at _ g _ _ k hk, set_at _ g _ _ k hk, set_at _ g _ _ k hk, set_at _ g _ _ k hk]
theorem set5_size (w : World) (g o : Nat) (x : Match) : (set5 w g o x).heap.size = w.heap.size := by
  unfold set5
  simp only [World.size_setCell]
theorem set5_ext {a w : World} {g o : Nat} {x : Match} (h : Ext a w) (hg : a.heap.size ≤ g) : Ext a (set5 w g o x) := by
  unfold set5
  exact ((((h.setCell (p := ⟨g, o, none⟩) hg _).setCell (p := ⟨g, o + 1, none⟩) hg _).setCell (p := ⟨g, o + 2, none⟩) hg _).setCell (p := ⟨g, o + 3, none⟩) hg _).setCell (p := ⟨g, o + 4, none⟩) hg _
theorem set5_at {w : World} {g o : Nat} {x : Match} {cur : Array Value} {e : TypeId} {fr : Nat × Nat} (h : w.heap[g]? = some (.cells cur e fr)) :
    (set5 w g o x).heap[g]? = some (.cells (((((cur.setIfInBounds o (.int .i64 x.pose.x)).setIfInBounds (o + 1) (.int .i64 x.pose.y)).setIfInBounds (o + 2) (.int .i64 x.pose.turn)).setIfInBounds (o + 3) (.int .i64 x.pose.scale)).setIfInBounds (o + 4) (.int .i64 x.dist)) e fr) := by
  unfold set5
  exact (st_one (st_one (st_one (st_one (st_one h _ _).1 _ _).1 _ _).1 _ _).1 _ _).1
theorem own_set5 {w : World} {N g n cap k : Nat} {L : List Match} {x : Match} (h : w.ownsRow N 80 5 (.slice (some ⟨g, 0, none⟩) n cap) n (L.flatMap matchCells)) (hL : L.length = n) (hk : k < n) :
    (set5 w g (k * 5) x).ownsRow N 80 5 (.slice (some ⟨g, 0, none⟩) n cap) n ((L.set k x).flatMap matchCells) := by
  obtain ⟨h1, h2⟩ := h
  rcases h2 with ⟨h2, -⟩ | ⟨g', cap', cur, hv, hb, hh, hn, hm, hcs, ht⟩
  · cases h2
  cases hv
  refine ⟨by rw [len_const matchCells 5 _ fun _ => rfl, List.length_set, hL], .inr ⟨g, cap, _, rfl, hb, set5_at hh, hn, hm, by simp [hcs], ?_⟩⟩
  have hle : n * 5 ≤ cap * 5 := Nat.mul_le_mul_right 5 hn
  apply List.ext_getElem?
  intro t
  rcases Nat.lt_or_ge t (n * 5) with htl | htl
  case inr => rw [List.getElem?_eq_none (by simp; omega), List.getElem?_eq_none (by rw [len_const matchCells 5 _ fun _ => rfl, List.length_set, hL]; exact htl)]
  have hcur : cur[t]? = (matchCells (L.getD (t / 5) match0))[t % 5]? := by
    have e1 : (cur.toList.take (n * 5))[t]? = cur[t]? := by rw [List.getElem?_take_of_lt htl]; simp
    rw [← e1, ht, flat_get? _ _ (by omega)]
  rw [List.getElem?_take_of_lt htl, Array.getElem?_toList, flat_get? _ _ (by rw [List.length_set]; omega), getD_set (by omega)]
  have hts : t < cur.size := by omega
  by_cases he : k = t / 5
  · rw [if_pos he]
    obtain ⟨r, hr, rfl⟩ : ∃ r, r < 5 ∧ t = k * 5 + r := ⟨t % 5, Nat.mod_lt _ (by omega), by omega⟩
    have e5 : (k * 5 + r) % 5 = r := by omega
    rw [e5]
    match r, hr with
    | 0, _ => simp [Array.getElem?_setIfInBounds, matchCells] at hts ⊢; omega
    | 1, _ => simp [Array.getElem?_setIfInBounds, matchCells]; omega
    | 2, _ => simp [Array.getElem?_setIfInBounds, matchCells]; omega
    | 3, _ => simp [Array.getElem?_setIfInBounds, matchCells]; omega
    | 4, _ => simp [Array.getElem?_setIfInBounds, matchCells]; omega
  · rw [if_neg he, ← hcur]
    have n0 : k * 5 ≠ t := by omega
    have n1 : k * 5 + 1 ≠ t := by omega
    have n2 : k * 5 + 2 ≠ t := by omega
    have n3 : k * 5 + 3 ≠ t := by omega
    have n4 : k * 5 + 4 ≠ t := by omega
    simp [Array.getElem?_setIfInBounds, n0, n1, n2, n3, n4]
/-- a match of a row of the call's own, cell by cell -/
theorem own_cells {w : World} {N g n cap k : Nat} {L : List Match} (h : w.ownsRow N 80 5 (.slice (some ⟨g, 0, none⟩) n cap) n (L.flatMap matchCells)) (hL : L.length = n) (hk : k < n) :
    (w.cell? ⟨g, k * 5, none⟩ = some (.int .i64 (L.getD k match0).pose.x) ∧ w.cell? ⟨g, k * 5 + 1, none⟩ = some (.int .i64 (L.getD k match0).pose.y) ∧ w.cell? ⟨g, k * 5 + 2, none⟩ = some (.int .i64 (L.getD k match0).pose.turn) ∧ w.cell? ⟨g, k * 5 + 3, none⟩ = some (.int .i64 (L.getD k match0).pose.scale) ∧ w.cell? ⟨g, k * 5 + 4, none⟩ = some (.int .i64 (L.getD k match0).dist)) ∧
      w.frozen? ⟨g, k * 5, none⟩ = false ∧ w.frozen? ⟨g, k * 5 + 1, none⟩ = false ∧ w.frozen? ⟨g, k * 5 + 2, none⟩ = false ∧ w.frozen? ⟨g, k * 5 + 3, none⟩ = false ∧ w.frozen? ⟨g, k * 5 + 4, none⟩ = false := by
  obtain ⟨h1, h2⟩ := h
  rcases h2 with ⟨h2, -⟩ | ⟨g', cap', cur, hv, hb, hh, hn, hm, hcs, ht⟩
  · cases h2
  cases hv
  have hc : ∀ r, r < 5 → cur[k * 5 + r]? = (matchCells (L.getD k match0))[r]? := by
    intro r hr
    have e1 : (cur.toList.take (n * 5))[k * 5 + r]? = cur[k * 5 + r]? := by rw [List.getElem?_take_of_lt (by omega)]; simp
    rw [← e1, ht, flat_get? _ _ (by omega), show (k * 5 + r) / 5 = k by omega, show (k * 5 + r) % 5 = r by omega]
  exact ⟨⟨cell_of_at hh _ (hc 0 (by omega)), cell_of_at hh _ (hc 1 (by omega)), cell_of_at hh _ (hc 2 (by omega)), cell_of_at hh _ (hc 3 (by omega)), cell_of_at hh _ (hc 4 (by omega))⟩,
    free_of_at hh _, free_of_at hh _, free_of_at hh _, free_of_at hh _, free_of_at hh _⟩
end Go.Proofs.Ytipkjdfnoonpcaa

/- The reference's 'ordered': the walk. -/
namespace Go.Proofs.Ytipkjdfnoonpcaa
open Go.RowKit Go.Sort

theorem heap_drew' (W : World) : W.drew.heap = W.heap := rfl
/-- the row in order; nothing else has turned -/
def OrdIs (ms : List Match) (mv : Value) (N : Nat) (w : World) (e : Ending) (w' : World) : Prop :=
  ∃ L : List Match, e = .returned mv ∧ L.Perm ms ∧ L.Pairwise (fun x y => ¬ ltM y x) ∧ w'.ownsRow N 80 5 mv ms.length (L.flatMap matchCells) ∧ (∀ a : World, Ext a w → a.heap.size ≤ N → Ext a w') ∧ ∀ k, k < w.heap.size → mv.ownBlock ≠ some k → w'.heap[k]? = w.heap[k]?
set_option maxRecDepth 100000 in
set_option maxHeartbeats 16000000 in
theorem c82 (ms : List Match) (mv : Value) (N : Nat) (w : World) (hO : w.ownsRow N 80 5 mv ms.length (ms.flatMap matchCells)) (hlen : ms.length ≤ 100000) : Calls Try.prog 82 #[mv] w (OrdIs ms mv N w) := by
  have HO := Lib.hid hO
  obtain ⟨n, hn⟩ : ∃ n, ms.length = n := ⟨_, rfl⟩
  rcases Nat.eq_zero_or_pos n with h0 | h0
  · obtain rfl : ms = [] := List.eq_nil_of_length_eq_zero (by omega)
    obtain ⟨-, mo, mc, hv, -⟩ := SlAt.of_owns hO
    clear hO
    simp only [List.length_nil] at hv
    subst hv
    go_enter Try.func82, Try.ntmps82
    go_wp2
    refine wp_loop_rounds 1 ?_
    rw [rounds_succ]
    go_wp2
    go_ret
    exact ⟨[], rfl, List.Perm.refl _, List.Pairwise.nil, HO.out, fun a h _ => h, fun _ _ _ => rfl⟩
  · obtain ⟨g, cap, hv, hgN, hncap⟩ := owns_some hO (by omega)
    rw [hn] at hO hv
    have hgl : g < w.heap.size := owns_lt hO (by rw [hv]; rfl)
    subst hv
    have HO := Lib.hid hO
    have HN := Lib.hid hn
    have hnb : n ≤ 100000 := by omega
    clear hO hn hlen
    go_enter Try.func82, Try.ntmps82
    go_wp2
    go_loopw [3] (fun v3 wr => ∃ (i : Nat) (L : List Match), i ≤ n ∧ v3 = .int .i64 (i : Int) ∧ Hid (L.Perm ms) ∧ Hid (Ord L i i) ∧ Hid (wr.ownsRow N 80 5 (.slice (some ⟨g, 0, none⟩) n cap) n (L.flatMap matchCells)) ∧ Hid (∀ a : World, Ext a w → a.heap.size ≤ N → Ext a wr) ∧ Hid (w.heap.size ≤ wr.heap.size ∧ ∀ k, k < w.heap.size → k ≠ g → wr.heap[k]? = w.heap[k]?)) (fun v3 _ => n - (intOf v3).toNat)
    case atStart => exact ⟨0, ms, by omega, rfl, List.Perm.refl _, (fun p q h1 h2 _ => by omega), HO.out, fun a h _ => h, Nat.le_refl _, fun _ _ _ => rfl⟩
    case round =>
      obtain ⟨i, L, hi, rfl, hp, ho, hr, hE, hK⟩ := hrel
      have hLl : L.length = n := hp.out.length_eq.trans HN.out
      by_cases hlt : i < n
      · have hlt' : (i : Int) < (n : Int) := by omega
        have HLT := Lib.hid hlt
        obtain ⟨wo, rfl⟩ : ∃ wo : World, wo = wr := ⟨_, rfl⟩
        go_wp2
        go_loopw [4] (fun v4 wr => ∃ (k : Nat) (L : List Match), k ≤ i ∧ v4 = .int .i64 (k : Int) ∧ Hid (L.Perm ms) ∧ Hid (Ord L (i + 1) k) ∧ Hid (wr.ownsRow N 80 5 (.slice (some ⟨g, 0, none⟩) n cap) n (L.flatMap matchCells)) ∧ Hid (∀ a : World, Ext a w → a.heap.size ≤ N → Ext a wr) ∧ Hid (w.heap.size ≤ wr.heap.size ∧ ∀ k, k < w.heap.size → k ≠ g → wr.heap[k]? = w.heap[k]?)) (fun v4 _ => (intOf v4).toNat)
        case atStart => exact ⟨i, L, by omega, rfl, hp, ord_start ho.out, hr, hE, hK⟩
        case round =>
          clear hp ho hr hE hK hLl
          clear L
          obtain ⟨k, L, hk, rfl, hp, ho, hr, hE, hK⟩ := hrel
          have hLl : L.length = n := hp.out.length_eq.trans HN.out
          by_cases hk0 : k = 0
          · have q0 : decide ((0 : Int) < (k : Int)) = false := decide_eq_false (by omega)
            have q0' : decide (0 < k) = false := decide_eq_false (by omega)
            have HK0 := Lib.hid hk0
            clear hk0
            go_wp2_with fail
            refine wp_region_quiet_below (by kernel_rfl) (by kernel_rfl) ?_
            repeat (go_big_quiet_step (fail))
            refine wpQuiet_nil ?_
            intro w6 hw'
            obtain ⟨pq, hw''⟩ := hw'
            have hbw6 := ext_of_regrown hw''
            clear hw'' pq
            go_wp2
            all_goals go_roundw
            case rel => exact ⟨i + 1, L, by have := HLT.out; omega, by go_num, hp, ord_stop ho.out (by omega) (.inl HK0.out), Lib.hid (owns_ext hr.out hbw6), Lib.hid (fun a h h2 => (hE.out a h h2).trans hbw6), Lib.hid ⟨Nat.le_trans hK.out.1 hbw6.size, fun k h1 h2 => (Below.block hbw6 k (Nat.lt_of_lt_of_le h1 hK.out.1)).trans (hK.out.2 k h1 h2)⟩⟩
            case measure => have := HLT.out; show n - ((i : Int) + 1).toNat < n - ((i : Int)).toNat; omega
          · have q0 : decide ((0 : Int) < (k : Int)) = true := decide_eq_true (by omega)
            have q0' : decide (0 < k) = true := decide_eq_true (by omega)
            obtain ⟨j, hj⟩ : ∃ j, k = j + 1 := ⟨k - 1, by omega⟩
            have hkn : (k : Int) < (n : Int) := by omega
            have hkj : (k : Int) - 1 = (j : Int) := by omega
            have hjn : (j : Int) < (n : Int) := by omega
            obtain ⟨⟨x0, x1, x2, x3, x4⟩, xf0, xf1, xf2, xf3, xf4⟩ := own_cells hr.out hLl (k := k) (by omega)
            obtain ⟨⟨y0, y1, y2, y3, y4⟩, yf0, yf1, yf2, yf3, yf4⟩ := own_cells hr.out hLl (k := j) (by omega)
            have hgw : g < wr.heap.size := owns_lt hr.out rfl
            have HJ := Lib.hid hj
            clear hk0 hj
            obtain ⟨x, hx⟩ : ∃ x, L.getD k match0 = x := ⟨_, rfl⟩
            obtain ⟨y, hy⟩ : ∃ y, L.getD j match0 = y := ⟨_, rfl⟩
            rw [hx] at x0 x1 x2 x3 x4
            rw [hy] at y0 y1 y2 y3 y4
            have HX := Lib.hid hx
            have HY := Lib.hid hy
            clear hx hy
            have K106 := Lib.hid (fun w' => c106 x y w')
            by_cases hlt2 : ltM x y
            · have q1 : decide (ltM x y) = true := decide_eq_true hlt2
              have HL2 := Lib.hid hlt2
              clear hlt2
              rw [q1] at K106
              go_wp2_with fail
              refine wp_region_quiet_below (by kernel_rfl) (by kernel_rfl) ?_
              repeat (go_big_quiet_step ((go_at_call 106; with_reducible exact Calls.ext_of (K106.out _))))
              refine wpQuiet_nil ?_
              intro w6 hw'
              obtain ⟨pq, hw''⟩ := hw'
              have hbw6 := ext_of_regrown hw''
              clear hw'' pq
              go_wp2
              have hr6 := Lib.hid (owns_ext hr.out hbw6)
              clear x0 x1 x2 x3 x4 xf0 xf1 xf2 xf3 xf4 y0 y1 y2 y3 y4 yf0 yf1 yf2 yf3 yf4
              obtain ⟨⟨x0, x1, x2, x3, x4⟩, xf0, xf1, xf2, xf3, xf4⟩ := own_cells hr6.out hLl (k := k) (by omega)
              obtain ⟨⟨y0, y1, y2, y3, y4⟩, yf0, yf1, yf2, yf3, yf4⟩ := own_cells hr6.out hLl (k := j) (by omega)
              rw [HX.out] at x0 x1 x2 x3 x4
              rw [HY.out] at y0 y1 y2 y3 y4
              have hgw6 : g < w6.heap.size := owns_lt hr6.out rfl
              go_region
              have hkn' : k < n := by omega
              have hjn' : j < n := by omega
              have e7 : swapM L k = (L.set k y).set j x := by
                unfold swapM
                rw [show k - 1 = j by have := HJ.out; omega, HX.out, HY.out]
              have r7 := Lib.hid (own_set5 (x := x) (own_set5 (x := y) hr6.out hLl hkn') (by rw [List.length_set]; exact hLl) hjn')
              rw [← e7] at r7
              have E7 := Lib.hid (fun (a : World) (h : Ext a w) (h2 : a.heap.size ≤ N) => (show Ext a (set5 (set5 w6 g (k * 5) y) g (j * 5) x) from set5_ext (set5_ext ((hE.out a h h2).trans hbw6) (by omega)) (by omega)).drew)
              have K7 := Lib.hid (show w.heap.size ≤ (set5 (set5 w6 g (k * 5) y) g (j * 5) x).heap.size ∧ ∀ q, q < w.heap.size → q ≠ g → (set5 (set5 w6 g (k * 5) y) g (j * 5) x).heap[q]? = w.heap[q]? from ⟨by rw [set5_size, set5_size]; exact Nat.le_trans hK.out.1 hbw6.size, fun q h1 h2 => by rw [set5_other _ _ _ _ _ h2, set5_other _ _ _ _ _ h2]; exact (Below.block hbw6 q (Nat.lt_of_lt_of_le h1 hK.out.1)).trans (hK.out.2 q h1 h2)⟩)
              have R8 := Lib.hid (owns_ext r7.out (Ext.refl _).drew)
              have K8 := Lib.hid (show w.heap.size ≤ (set5 (set5 w6 g (k * 5) y) g (j * 5) x).drew.heap.size ∧ ∀ q, q < w.heap.size → q ≠ g → (set5 (set5 w6 g (k * 5) y) g (j * 5) x).drew.heap[q]? = w.heap[q]? from by rw [heap_drew']; exact K7.out)
              have P7 := Lib.hid ((swap_perm (L := L) (k := k) (by omega) (by omega)).trans hp.out)
              have O7 := Lib.hid (ord_swap ho.out (by omega) hk (by omega) (by rw [HX.out, show k - 1 = j by have := HJ.out; omega, HY.out]; exact HL2.out))
              go_wp2
              go_roundw
              case rel =>
                rw [show k - 1 = j by have := HJ.out; omega] at O7
                refine ⟨j, swapM L k, by have := HJ.out; omega, by go_num, P7, O7, ?_, ?_, ?_⟩
                · exact R8
                · exact E7
                · exact K8
              case measure => have := HJ.out; show ((j : Int)).toNat < ((k : Int)).toNat; omega
            · have q1 : decide (ltM x y) = false := decide_eq_false hlt2
              have HL2 := Lib.hid hlt2
              clear hlt2
              rw [q1] at K106
              go_wp2_with fail
              refine wp_region_quiet_below (by kernel_rfl) (by kernel_rfl) ?_
              repeat (go_big_quiet_step ((go_at_call 106; with_reducible exact Calls.ext_of (K106.out _))))
              refine wpQuiet_nil ?_
              intro w6 hw'
              obtain ⟨pq, hw''⟩ := hw'
              have hbw6 := ext_of_regrown hw''
              clear hw'' pq
              go_wp2
              all_goals go_roundw
              case rel => exact ⟨i + 1, L, by have := HLT.out; omega, by go_num, hp, ord_stop ho.out (by omega) (.inr (by rw [HX.out, show k - 1 = j by have := HJ.out; omega, HY.out]; exact HL2.out)), Lib.hid (owns_ext hr.out hbw6), Lib.hid (fun a h h2 => (hE.out a h h2).trans hbw6), Lib.hid ⟨Nat.le_trans hK.out.1 hbw6.size, fun k h1 h2 => (Below.block hbw6 k (Nat.lt_of_lt_of_le h1 hK.out.1)).trans (hK.out.2 k h1 h2)⟩⟩
              case measure => have := HLT.out; show n - ((i : Int) + 1).toNat < n - ((i : Int)).toNat; omega
      · obtain rfl : i = n := by omega
        have hlt' : ¬ ((i : Int) < (i : Int)) := by omega
        go_wp2
        go_ret
        exact ⟨L, rfl, hp.out, by have := ho.out; rw [← hLl] at this; exact ord_sorted this, by rw [HN.out]; exact hr.out, hE.out, fun k h1 h2 => hK.out.2 k h1 (fun e => h2 (by rw [e]; rfl))⟩
end Go.Proofs.Ytipkjdfnoonpcaa

/- The reference's 'Find': the walk. -/
namespace Go.Proofs.Ytipkjdfnoonpcaa
open Go.RowKit Go.Sort

theorem OutAt.put_m {w w3 : World} {N bo : Nat} {mv av v' : Value} {ms : List Match} {ar : List Area} {ms' : List Match} (h : OutAt w N bo mv av ms ar) (ho : w3.ownsRow N 80 5 v' ms'.length (ms'.flatMap matchCells)) (hg : w.grownBy w3 mv.ownBlock) :
    w3.heap[bo]? = some (.cells #[mv, av] 63) ∧ OutAt (w3.setCell ⟨bo, 0, none⟩ v') N bo v' av ms' ar ∧ ∀ w0 : World, Ext w0 w → w0.heap.size ≤ N → w0.heap.size ≤ bo → Ext w0 (w3.setCell ⟨bo, 0, none⟩ v') := by
  have hb := h.lt (.inl rfl)
  have nb : mv.ownBlock ≠ some bo := owns_apart h.2.1 h.1 (by decide)
  have k0 : w3.heap[bo]? = some (.cells #[mv, av] 63) := (hg.block bo hb (fun e => nb e.symm)).trans h.1
  have st := st_one k0 0 v'
  have no : v'.ownBlock ≠ some bo := owns_apart ho k0 (by decide)
  have ho' := owns_at (w' := w3.setCell ⟨bo, 0, none⟩ v') ho fun k hk => st.2.1 k (fun e => no (by rw [hk, e]))
  have hO3 := owns_at (w' := w3) h.2.2 fun k hk => hg.block k (owns_lt h.2.2 hk) (fun e => by
    obtain ⟨cur, fr, hc⟩ := owns_type h.2.2 k hk
    exact owns_apart h.2.1 hc (by decide) e.symm)
  have no2 : av.ownBlock ≠ some bo := owns_apart h.2.2 h.1 (by decide)
  have hO' := owns_at (w' := w3.setCell ⟨bo, 0, none⟩ v') hO3 fun k hk => st.2.1 k (fun e => no2 (by rw [hk, e]))
  exact ⟨k0, ⟨st.1, ho', hO'⟩, fun w0 hE hN hB => st.2.2 w0 hB (hE.grown hg fun k hk => Nat.le_trans hN (owns_block h.2.1 k hk).1)⟩
theorem OutAt.put_a {w w3 : World} {N bo : Nat} {mv av v' : Value} {ms : List Match} {ar : List Area} {ar' : List Area} (h : OutAt w N bo mv av ms ar) (ho : w3.ownsRow N 47 6 v' ar'.length (ar'.flatMap areaCells)) (hg : w.grownBy w3 av.ownBlock) :
    w3.heap[bo]? = some (.cells #[mv, av] 63) ∧ OutAt (w3.setCell ⟨bo, 1, none⟩ v') N bo mv v' ms ar' ∧ ∀ w0 : World, Ext w0 w → w0.heap.size ≤ N → w0.heap.size ≤ bo → Ext w0 (w3.setCell ⟨bo, 1, none⟩ v') := by
  have hb := h.lt (.inl rfl)
  have nb : av.ownBlock ≠ some bo := owns_apart h.2.2 h.1 (by decide)
  have k0 : w3.heap[bo]? = some (.cells #[mv, av] 63) := (hg.block bo hb (fun e => nb e.symm)).trans h.1
  have st := st_one k0 1 v'
  have no : v'.ownBlock ≠ some bo := owns_apart ho k0 (by decide)
  have ho' := owns_at (w' := w3.setCell ⟨bo, 1, none⟩ v') ho fun k hk => st.2.1 k (fun e => no (by rw [hk, e]))
  have hO3 := owns_at (w' := w3) h.2.1 fun k hk => hg.block k (owns_lt h.2.1 hk) (fun e => by
    obtain ⟨cur, fr, hc⟩ := owns_type h.2.1 k hk
    exact owns_apart h.2.2 hc (by decide) e.symm)
  have no2 : mv.ownBlock ≠ some bo := owns_apart h.2.1 h.1 (by decide)
  have hO' := owns_at (w' := w3.setCell ⟨bo, 1, none⟩ v') hO3 fun k hk => st.2.1 k (fun e => no2 (by rw [hk, e]))
  exact ⟨k0, ⟨st.1, hO', ho'⟩, fun w0 hE hN hB => st.2.2 w0 hB (hE.grown hg fun k hk => Nat.le_trans hN (owns_block h.2.2 k hk).1)⟩
theorem canon_sorted (m : Img) (t : Tpl) (limit T S : Int) (hw : 1 ≤ m.w) : (canon m t limit T S).Pairwise ltM := by
  unfold canon
  rw [List.pairwise_map]
  exact (canonP_sorted m t limit T S hw).imp fun h => h
/-- what was found, in order, is the ordered list -/
theorem order_found {m : Img} {t : Tpl} {limit T S : Int} (hm : m.Sized) (h : Posed T S) {L : List Match} (h1 : L.Perm (search m t limit 30 (wholeOf m T S)).1) (h2 : L.Pairwise fun x y => ¬ ltM y x) : L = canon m t limit T S := by
  obtain ⟨e, p⟩ := found_perm (t := t) (limit := limit) hm h
  refine perm_sorted_unique (h1.trans ?_) h2 (canon_sorted m t limit T S hm.1.1)
  rw [e]
  exact p.map _
theorem findR_err {m : Img} {t : Tpl} {limit r : Int} {w w' : World} {e : Ending} (hr : findE m t limit = r) (h0 : r ≠ 0) (he : e = .returned (.tuple #[.agg #[.slice none 0 0, .slice none 0 0], .int .i64 r])) (hE : Ext w w') : FindIs m t limit w e w' := findIs_err hr h0 he hE
set_option maxRecDepth 100000 in
set_option maxHeartbeats 16000000 in
theorem c37 (m : Img) (v : Value) (t : Tpl) (tv : Value) (limit : Int) (w : World) (hv : IntsAt w v m.pix) (hml : m.pix.length ≤ maxLen) (htv : IntsAt w tv t.pix) (htl : t.pix.length ≤ maxLen) :
    Calls Try.prog 37 #[imgVal m v, tplVal t tv, .int .i64 limit] w (FindIs m t limit w) := by
  have HV := Lib.hid hv
  have HTV := Lib.hid htv
  have HML := Lib.hid hml
  obtain ⟨mo, mc, rfl, -, -⟩ := hv.form
  obtain ⟨to, tc, rfl, -, -⟩ := htv.form
  have K64 := Lib.hid (fun w' (h : Ext w w') => c64 m _ t _ w' (HV.out.ext h) hml (HTV.out.ext h) htl)
  unfold imgVal tplVal at *
  clear hv htv hml htl
  by_cases h0 : checkE m t = 0
  case neg =>
    obtain ⟨r, hr⟩ : ∃ r, checkE m t = r := ⟨_, rfl⟩
    have q0 : (r != 0) = true := by simpa [hr] using h0
    have q1 := Lib.hid (show r ≠ 0 from hr ▸ h0)
    have hR := Lib.hid (show findE m t limit = r from by unfold findE; rw [if_neg h0, hr])
    rw [hr] at K64
    clear h0 hr
    go_enter Try.func37, Try.ntmps37
    go_wp2_with (go_at_call 64; (with_reducible refine (K64.out _ (by repeat (first | exact Ext.refl _ | assumption | refine Ext.alloc ?_ _ | refine Ext.drewN ?_ _ | refine ext_grow ?_ _ _ | refine Ext.trans ?_ (by assumption)))).mono ?_); rintro E w1 ⟨rfl, hb1⟩; have A1 := Lib.hid (show At w1 [(w.heap.size + 1 + 1, Obj.cells #[.slice none 0 0, .slice none 0 0] 63), (w.heap.size + 1, Obj.cells #[.int .i64 t.w, .int .i64 t.h, .slice to t.pix.length tc] 43), (w.heap.size, Obj.cells #[.int .i64 m.w, .int .i64 m.h, .slice mo m.pix.length mc] 24)] from At.ext hb1 ⟨(by repeat (first | (refine blk_at _ _ ?_; (first | rfl | (simp only [size_one]; done))) | refine (blk_past _ _ (by simp only [size_one]; omega)).trans ?_)), (by repeat (first | (refine blk_at _ _ ?_; (first | rfl | (simp only [size_one]; done))) | refine (blk_past _ _ (by simp only [size_one]; omega)).trans ?_)), (by repeat (first | (refine blk_at _ _ ?_; (first | rfl | (simp only [size_one]; done))) | refine (blk_past _ _ (by simp only [size_one]; omega)).trans ?_)), trivial⟩); have E1 := Lib.hid (show Ext w w1 from (by repeat (first | exact Ext.refl _ | assumption | refine Ext.alloc ?_ _ | refine Ext.drewN ?_ _ | refine ext_grow ?_ _ _ | refine Ext.trans ?_ (by assumption)))); obtain ⟨⟨x00, x01⟩, xf00, xf01⟩ := run_2 (At.at A1.out 0 rfl); obtain ⟨⟨x10, x11, x12⟩, xf10, xf11, xf12⟩ := run_3 (At.at A1.out 1 rfl); obtain ⟨⟨x20, x21, x22⟩, xf20, xf21, xf22⟩ := run_3 (At.at A1.out 2 rfl); have xz0 := At.lt A1.out 0 rfl; have xy0 := Nat.lt_succ_of_lt xz0; have xx0 := Nat.lt_succ_of_lt xy0; have xz1 := At.lt A1.out 1 rfl; have xy1 := Nat.lt_succ_of_lt xz1; have xx1 := Nat.lt_succ_of_lt xy1; have xz2 := At.lt A1.out 2 rfl; have xy2 := Nat.lt_succ_of_lt xz2; have xx2 := Nat.lt_succ_of_lt xy2)
    have st := store_2 (v0 := .slice none 0 0) (v1 := .slice none 0 0) (At.at A1.out 0 rfl)
    refine bodyPost_ret (results_row2 rfl _ _ _ _ _ (0, 0) _ rfl st.1 Try.underlying63 rfl (by kernel_rfl)) rfl ?_
    exact findIs_err hR.out q1.out rfl (st.2.2 w (by omega) E1.out)
  obtain ⟨g1, g2⟩ := check_ok h0
  rw [h0] at K64
  by_cases h1 : 0 ≤ limit ∧ limit ≤ 16320
  case neg =>
    have q1 : decide (0 ≤ limit ∧ limit ≤ 16320) = false := decide_eq_false h1
    have hR := Lib.hid (show findE m t limit = 2 from by unfold findE; rw [if_pos h0, if_neg h1])
    clear h0 h1 g1 g2
    go_enter Try.func37, Try.ntmps37
    go_wp2_with (first | (have _q := E1; go_at_call 61; (with_reducible refine (rwithin_same 61 (.inl rfl) _ _ _ _).mono ?_); rintro e w' ⟨rfl, rfl⟩) | (go_at_call 64; (with_reducible refine (K64.out _ (by repeat (first | exact Ext.refl _ | assumption | refine Ext.alloc ?_ _ | refine Ext.drewN ?_ _ | refine ext_grow ?_ _ _ | refine Ext.trans ?_ (by assumption)))).mono ?_); rintro E w1 ⟨rfl, hb1⟩; have A1 := Lib.hid (show At w1 [(w.heap.size + 1 + 1, Obj.cells #[.slice none 0 0, .slice none 0 0] 63), (w.heap.size + 1, Obj.cells #[.int .i64 t.w, .int .i64 t.h, .slice to t.pix.length tc] 43), (w.heap.size, Obj.cells #[.int .i64 m.w, .int .i64 m.h, .slice mo m.pix.length mc] 24)] from At.ext hb1 ⟨(by repeat (first | (refine blk_at _ _ ?_; (first | rfl | (simp only [size_one]; done))) | refine (blk_past _ _ (by simp only [size_one]; omega)).trans ?_)), (by repeat (first | (refine blk_at _ _ ?_; (first | rfl | (simp only [size_one]; done))) | refine (blk_past _ _ (by simp only [size_one]; omega)).trans ?_)), (by repeat (first | (refine blk_at _ _ ?_; (first | rfl | (simp only [size_one]; done))) | refine (blk_past _ _ (by simp only [size_one]; omega)).trans ?_)), trivial⟩); have E1 := Lib.hid (show Ext w w1 from (by repeat (first | exact Ext.refl _ | assumption | refine Ext.alloc ?_ _ | refine Ext.drewN ?_ _ | refine ext_grow ?_ _ _ | refine Ext.trans ?_ (by assumption)))); obtain ⟨⟨x00, x01⟩, xf00, xf01⟩ := run_2 (At.at A1.out 0 rfl); obtain ⟨⟨x10, x11, x12⟩, xf10, xf11, xf12⟩ := run_3 (At.at A1.out 1 rfl); obtain ⟨⟨x20, x21, x22⟩, xf20, xf21, xf22⟩ := run_3 (At.at A1.out 2 rfl); have xz0 := At.lt A1.out 0 rfl; have xy0 := Nat.lt_succ_of_lt xz0; have xx0 := Nat.lt_succ_of_lt xy0; have xz1 := At.lt A1.out 1 rfl; have xy1 := Nat.lt_succ_of_lt xz1; have xx1 := Nat.lt_succ_of_lt xy1; have xz2 := At.lt A1.out 2 rfl; have xy2 := Nat.lt_succ_of_lt xz2; have xx2 := Nat.lt_succ_of_lt xy2))
    have st := store_2 (v0 := .slice none 0 0) (v1 := .slice none 0 0) (At.at A1.out 0 rfl)
    refine bodyPost_ret (results_row2 rfl _ _ _ _ _ (0, 0) _ rfl st.1 Try.underlying63 rfl (by kernel_rfl)) rfl ?_
    exact findIs_err hR.out (by decide) rfl (st.2.2 w (by omega) E1.out)
  have q1 : decide (0 ≤ limit ∧ limit ≤ 16320) = true := decide_eq_true h1
  have hR := Lib.hid (show findE m t limit = 0 from by unfold findE; rw [if_pos h0, if_pos h1])
  have HM := Lib.hid g1
  have HT := Lib.hid g2
  obtain ⟨⟨⟨w1b, w2b⟩, ⟨h1b, h2b⟩, -⟩, -⟩ := g1
  clear h0 h1 g2
  go_enter Try.func37, Try.ntmps37
  go_wp2_with (first | (have _q := E1; go_at_call 61; (with_reducible refine (rwithin_same 61 (.inl rfl) _ _ _ _).mono ?_); rintro e w' ⟨rfl, rfl⟩) | (go_at_call 64; (with_reducible refine (K64.out _ (by repeat (first | exact Ext.refl _ | assumption | refine Ext.alloc ?_ _ | refine Ext.drewN ?_ _ | refine ext_grow ?_ _ _ | refine Ext.trans ?_ (by assumption)))).mono ?_); rintro E w1 ⟨rfl, hb1⟩; have A1 := Lib.hid (show At w1 [(w.heap.size + 1 + 1, Obj.cells #[.slice none 0 0, .slice none 0 0] 63), (w.heap.size + 1, Obj.cells #[.int .i64 t.w, .int .i64 t.h, .slice to t.pix.length tc] 43), (w.heap.size, Obj.cells #[.int .i64 m.w, .int .i64 m.h, .slice mo m.pix.length mc] 24)] from At.ext hb1 ⟨(by repeat (first | (refine blk_at _ _ ?_; (first | rfl | (simp only [size_one]; done))) | refine (blk_past _ _ (by simp only [size_one]; omega)).trans ?_)), (by repeat (first | (refine blk_at _ _ ?_; (first | rfl | (simp only [size_one]; done))) | refine (blk_past _ _ (by simp only [size_one]; omega)).trans ?_)), (by repeat (first | (refine blk_at _ _ ?_; (first | rfl | (simp only [size_one]; done))) | refine (blk_past _ _ (by simp only [size_one]; omega)).trans ?_)), trivial⟩); have E1 := Lib.hid (show Ext w w1 from (by repeat (first | exact Ext.refl _ | assumption | refine Ext.alloc ?_ _ | refine Ext.drewN ?_ _ | refine ext_grow ?_ _ _ | refine Ext.trans ?_ (by assumption)))); obtain ⟨⟨x00, x01⟩, xf00, xf01⟩ := run_2 (At.at A1.out 0 rfl); obtain ⟨⟨x10, x11, x12⟩, xf10, xf11, xf12⟩ := run_3 (At.at A1.out 1 rfl); obtain ⟨⟨x20, x21, x22⟩, xf20, xf21, xf22⟩ := run_3 (At.at A1.out 2 rfl); have xz0 := At.lt A1.out 0 rfl; have xy0 := Nat.lt_succ_of_lt xz0; have xx0 := Nat.lt_succ_of_lt xy0; have xz1 := At.lt A1.out 1 rfl; have xy1 := Nat.lt_succ_of_lt xz1; have xx1 := Nat.lt_succ_of_lt xy1; have xz2 := At.lt A1.out 2 rfl; have xy2 := Nat.lt_succ_of_lt xz2; have xx2 := Nat.lt_succ_of_lt xy2))
  obtain ⟨i8, hi8, hz8, hs8, hy8⟩ := info_parts info80
  obtain ⟨i4, hi4, hz4, hs4, hy4⟩ := info_parts inf47
  go_loopw [10] (fun v10 wr => ∃ (T : Nat) (mv av : Value), T ≤ 12 ∧ v10 = .int .i64 (T : Int) ∧ Hid (Ext w1 wr) ∧ Hid (OutAt wr w1.heap.size w1.heap.size mv av (msOf m t limit (upto (4 * T))) (arOf m t limit (upto (4 * T))))) (fun v10 _ => 12 - (intOf v10).toNat)
  case atStart => exact ⟨0, _, _, by omega, rfl, Lib.hid ((Ext.refl w1).alloc _), Lib.hid ⟨one_first _ _, zero2_own _ _⟩⟩
  case round =>
    obtain ⟨T, mv, av, hT, rfl, hE, hO⟩ := hrel
    obtain ⟨⟨mb, mz, rfl⟩, ab, az, rfl⟩ := hO.out.forms
    have HA0 := Lib.hid (At.ext hE.out A1.out)
    obtain ⟨⟨h00, h01⟩, hf00, hf01⟩ := run_2 (At.at HA0.out 0 rfl)
    obtain ⟨⟨h10, h11, h12⟩, hf10, hf11, hf12⟩ := run_3 (At.at HA0.out 1 rfl)
    obtain ⟨⟨h20, h21, h22⟩, hf20, hf21, hf22⟩ := run_3 (At.at HA0.out 2 rfl)
    have hz0 := At.lt HA0.out 0 rfl
    have hy0 := Nat.lt_succ_of_lt hz0
    have hx0 := Nat.lt_succ_of_lt hy0
    have hz1 := At.lt HA0.out 1 rfl
    have hy1 := Nat.lt_succ_of_lt hz1
    have hx1 := Nat.lt_succ_of_lt hy1
    have hz2 := At.lt HA0.out 2 rfl
    have hy2 := Nat.lt_succ_of_lt hz2
    have hx2 := Nat.lt_succ_of_lt hy2
    obtain ⟨⟨pc0, pc1⟩, pf0, pf1⟩ := run_2 hO.out.1
    have pz := hO.out.lt (.inl rfl)
    by_cases hlt : T < 12
    · have hlt' : (T : Int) < 12 := by omega
      obtain ⟨wo, rfl⟩ : ∃ wo : World, wo = wr := ⟨_, rfl⟩
      go_wp2
      go_loopw [11] (fun v11 wr => ∃ (s : Nat) (mv av : Value), s ≤ 4 ∧ v11 = .int .i64 ((s : Int) + 1) ∧ Hid (Ext w1 wr) ∧ Hid (OutAt wr w1.heap.size w1.heap.size mv av (msOf m t limit (upto (4 * T + s))) (arOf m t limit (upto (4 * T + s))))) (fun v11 _ => 5 - (intOf v11).toNat)
      case atStart => exact ⟨0, _, _, by omega, rfl, hE, hO⟩
      case round =>
        clear h00 h01 h10 h11 h12 h20 h21 h22 hf00 hf01 hf10 hf11 hf12 hf20 hf21 hf22 hz0 hy0 hx0 hz1 hy1 hx1 hz2 hy2 hx2
        clear HA0 hE hO pc0 pc1 pf0 pf1 pz
        obtain ⟨s, mv, av, hs, rfl, HE, HO⟩ := hrel
        obtain ⟨⟨mb, mz, rfl⟩, ab, az, rfl⟩ := HO.out.forms
        have HA := Lib.hid (At.ext HE.out A1.out)
        obtain ⟨⟨h00, h01⟩, hf00, hf01⟩ := run_2 (At.at HA.out 0 rfl)
        obtain ⟨⟨h10, h11, h12⟩, hf10, hf11, hf12⟩ := run_3 (At.at HA.out 1 rfl)
        obtain ⟨⟨h20, h21, h22⟩, hf20, hf21, hf22⟩ := run_3 (At.at HA.out 2 rfl)
        have hz0 := At.lt HA.out 0 rfl
        have hy0 := Nat.lt_succ_of_lt hz0
        have hx0 := Nat.lt_succ_of_lt hy0
        have hz1 := At.lt HA.out 1 rfl
        have hy1 := Nat.lt_succ_of_lt hz1
        have hx1 := Nat.lt_succ_of_lt hy1
        have hz2 := At.lt HA.out 2 rfl
        have hy2 := Nat.lt_succ_of_lt hz2
        have hx2 := Nat.lt_succ_of_lt hy2
        obtain ⟨⟨pc0, pc1⟩, pf0, pf1⟩ := run_2 HO.out.1
        have pz := HO.out.lt (.inl rfl)
        by_cases hls : s < 4
        · have hls' : (s : Int) + 1 ≤ 4 := by omega
          have hps : Posed (T : Int) ((s : Int) + 1) := by unfold Posed; omega
          have HPS := Lib.hid hps
          have HFN := whole_found (t := t) (limit := limit) HM.out.1 hps
          have HL4 := (Img.len_bd HM.out.1).2
          have HL1 := msOf_len HM.out.1 t limit (l := upto (4 * T + s)) (by rw [upto_length]; omega)
          have HL2 := arOf_len HM.out.1 t limit (l := upto (4 * T + s)) (by rw [upto_length]; omega)
          have K81 := Lib.hid (c81 m _ t _ limit HM.out HT.out HML.out mo to mc tc rfl rfl 30 (wholeOf m (T : Int) ((s : Int) + 1)) (whole_ok HM.out.1 hps) (whole_size HM.out.1 _ _) (by omega))
          obtain ⟨R, hR2⟩ : ∃ R, search m t limit 30 (wholeOf m (T : Int) ((s : Int) + 1)) = R := ⟨_, rfl⟩
          rw [hR2] at K81 HFN
          have HR2 := Lib.hid hR2
          clear hR2 hps
          unfold imgVal tplVal areaVal wholeOf at K81
          go_wp2_with (go_at_call 81; (with_reducible refine (K81.out _ (HV.out.ext (E1.out.trans HE.out)) (HTV.out.ext (E1.out.trans HE.out))).mono ?_); rintro E w2 ⟨mv2, av2, rfl, r2, s2, e2⟩; obtain ⟨-, l2, z2, q2, -⟩ := SlAt.of_owns r2; obtain ⟨-, n2, y2, p2, -⟩ := SlAt.of_owns s2; subst q2 p2; have R2 := Lib.hid r2; have Q2 := Lib.hid s2; have X2 := Lib.hid e2; have O2 := Lib.hid (HO.out.ext e2); have A2 := Lib.hid (At.ext e2 HA.out); clear r2 s2 e2; obtain ⟨⟨g00, g01⟩, gf00, gf01⟩ := run_2 (At.at A2.out 0 rfl); obtain ⟨⟨g10, g11, g12⟩, gf10, gf11, gf12⟩ := run_3 (At.at A2.out 1 rfl); obtain ⟨⟨g20, g21, g22⟩, gf20, gf21, gf22⟩ := run_3 (At.at A2.out 2 rfl); have gz0 := At.lt A2.out 0 rfl; have gy0 := Nat.lt_succ_of_lt gz0; have gx0 := Nat.lt_succ_of_lt gy0; have gz1 := At.lt A2.out 1 rfl; have gy1 := Nat.lt_succ_of_lt gz1; have gx1 := Nat.lt_succ_of_lt gy1; have gz2 := At.lt A2.out 2 rfl; have gy2 := Nat.lt_succ_of_lt gz2; have gx2 := Nat.lt_succ_of_lt gy2; obtain ⟨⟨oc0, oc1⟩, of0, of1⟩ := run_2 O2.out.1; have oz := O2.out.lt (.inl rfl))
          have K82 := Lib.hid (fun w' (h : Ext w2 w') => c82 R.1 (.slice l2 R.1.length z2) wr.heap.size w' (owns_ext R2.out h) (by omega))
          go_region_law (first | (have _q := X3; refine step_append_sl (by rfl) _ _ 60 (by rfl) w1.heap.size 80 i8 zeroMatch 5 40 Try.underlying60 hi8 hz8 hs8 hy8 (by rfl) (by omega) _ (msOf m t limit (upto (4 * T + s))).length ((msOf m t limit (upto (4 * T + s))).flatMap matchCells) (by rfl) O3.out.2.1 _ R.1.length (L.flatMap matchCells) (by rfl) (SlAt.of_owns R3.out) (matches_one L) (by unfold maxLen; omega) (by omega) X3.out.size ?_; intro v4 w4 ho hg; obtain ⟨-, m4, z4, q4, -⟩ := SlAt.of_owns ho; subst q4; have R4 := Lib.hid ho; have G4 := Lib.hid hg; obtain ⟨⟨oc0, oc1⟩, of0, of1⟩ := run_2 ((hg.block w1.heap.size oz (fun e => owns_apart O3.out.2.1 O3.out.1 (by decide) e.symm)).trans O3.out.1); clear ho hg) | (go_simp; (go_at_call 82; (with_reducible refine (K82.out _ ((Ext.refl w2).drew)).mono ?_); rintro E w3 ⟨L, rfl, p3, s3, r3, e3, k3⟩; have X3 := Lib.hid (e3 w1 (HE.out.trans X2.out).drew HE.out.size); have hLL := owns_block R2.out; have O3 := Lib.hid ((O2.out.ext (Ext.refl w2).drew).move (w' := w3) (fun k hk => k3 k (O2.out.lt hk) (fun e => by have := (owns_block R2.out k e).1; have := HO.out.lt hk; omega))); have Q3 := Lib.hid (owns_at (owns_ext Q2.out (Ext.refl w2).drew) (w' := w3) fun k hk => k3 k (owns_lt Q2.out hk) (fun e => by obtain ⟨cur, fr, hc⟩ := owns_type Q2.out k hk; exact owns_apart R2.out hc (by decide) e)); have L3 := Lib.hid (order_found HM.out.1 HPS.out (limit := limit) (t := t) (L := L) (by rw [HR2.out]; exact p3) s3); have HLn := Lib.hid p3.length_eq; have R3 := Lib.hid r3; have A3 := Lib.hid (At.ext X3.out A1.out); obtain ⟨⟨oc0, oc1⟩, of0, of1⟩ := run_2 O3.out.1; have oz := O3.out.lt (.inl rfl); obtain ⟨⟨j00, j01⟩, jf00, jf01⟩ := run_2 (At.at A3.out 0 rfl); obtain ⟨⟨j10, j11, j12⟩, jf10, jf11, jf12⟩ := run_3 (At.at A3.out 1 rfl); obtain ⟨⟨j20, j21, j22⟩, jf20, jf21, jf22⟩ := run_3 (At.at A3.out 2 rfl); have jz0 := At.lt A3.out 0 rfl; have jy0 := Nat.lt_succ_of_lt jz0; have jx0 := Nat.lt_succ_of_lt jy0; have jz1 := At.lt A3.out 1 rfl; have jy1 := Nat.lt_succ_of_lt jz1; have jx1 := Nat.lt_succ_of_lt jy1; have jz2 := At.lt A3.out 2 rfl; have jy2 := Nat.lt_succ_of_lt jz2; have jx2 := Nat.lt_succ_of_lt jy2; clear p3 s3 r3 e3 k3 hLL)))
          all_goals (
            have e1 : msOf m t limit (upto (4 * T + s + 1)) = msOf m t limit (upto (4 * T + s)) ++ L := by
              rw [upto_succ, msOf_snoc, psAt_at hlt hls, L3.out]
            have e2 : arOf m t limit (upto (4 * T + s + 1)) = arOf m t limit (upto (4 * T + s)) ++ R.2 := by
              rw [upto_succ, arOf_snoc, psAt_at hlt hls, HR2.out]
            have R4' := Lib.hid (show w4.ownsRow w1.heap.size 80 5 (.slice m4 ((msOf m t limit (upto (4 * T + s))).length + R.1.length) z4) (msOf m t limit (upto (4 * T + s + 1))).length ((msOf m t limit (upto (4 * T + s + 1))).flatMap matchCells) from by
              rw [e1, List.length_append, HLn.out, List.flatMap_append]
              exact R4.out)
            obtain ⟨q0, q1, q2⟩ := O3.out.put_m R4'.out G4.out
            have O4 := Lib.hid q1
            have X4 := Lib.hid (q2 w1 X3.out (Nat.le_refl _) (Nat.le_refl _))
            have Q4' := owns_at (w' := w4) Q3.out fun k hk => G4.out.block k (owns_lt Q3.out hk) fun e => by
              obtain ⟨cur, fr, hc⟩ := owns_type Q3.out k hk
              exact owns_apart O3.out.2.1 hc (by decide) e.symm
            have Q4 := Lib.hid (owns_at (w' := (w4.setCell ⟨w1.heap.size, 0, none⟩ (.slice m4 ((msOf m t limit (upto (4 * T + s))).length + R.1.length) z4))) Q4' fun k hk => set_at w4 w1.heap.size 0 _ k fun e => owns_apart Q4' q0 (by decide) (by rw [hk, e]))
            obtain ⟨⟨oc0, oc1⟩, of0, of1⟩ := run_2 q1.1
            have oz := q1.lt (.inl rfl)
            have HE2 := Lib.hid e2
            have A4 := Lib.hid (At.ext X4.out A1.out)
            obtain ⟨⟨k00, k01⟩, kf00, kf01⟩ := run_2 (At.at A4.out 0 rfl)
            obtain ⟨⟨k10, k11, k12⟩, kf10, kf11, kf12⟩ := run_3 (At.at A4.out 1 rfl)
            obtain ⟨⟨k20, k21, k22⟩, kf20, kf21, kf22⟩ := run_3 (At.at A4.out 2 rfl)
            have kz0 := At.lt A4.out 0 rfl
            have ky0 := Nat.lt_succ_of_lt kz0
            have kx0 := Nat.lt_succ_of_lt ky0
            have kz1 := At.lt A4.out 1 rfl
            have ky1 := Nat.lt_succ_of_lt kz1
            have kx1 := Nat.lt_succ_of_lt ky1
            have kz2 := At.lt A4.out 2 rfl
            have ky2 := Nat.lt_succ_of_lt kz2
            have kx2 := Nat.lt_succ_of_lt ky2
            clear q0 q1 q2 e1 e2 Q4'
            go_wp2_with (at_builtin; refine wpList_append_sl rfl _ _ 61 rfl w1.heap.size 47 i4 zeroArea 6 48 Try.underlying61 hi4 hz4 hs4 hy4 rfl (by omega) (.slice ab (arOf m t limit (upto (4 * T + s))).length az) (arOf m t limit (upto (4 * T + s))).length ((arOf m t limit (upto (4 * T + s))).flatMap areaCells) rfl O4.out.2.2 _ R.2.length (R.2.flatMap areaCells) rfl (SlAt.of_owns Q4.out) (areas_one R.2) (by unfold maxLen; omega) (by omega) X4.out.size ?_; intro v5 w5 ho hg; obtain ⟨q0, q1, q2⟩ := O4.out.put_a (ar' := arOf m t limit (upto (4 * T + s + 1))) (by rw [HE2.out, List.length_append, List.flatMap_append]; exact ho) hg; obtain ⟨-, m5, z5, q5, -⟩ := SlAt.of_owns ho; subst q5; have O6 := Lib.hid q1; have X6 := Lib.hid (q2 w1 X4.out (Nat.le_refl _) (Nat.le_refl _)); obtain ⟨⟨oc0, oc1⟩, of0, of1⟩ := run_2 q0; clear ho hg q0 q1 q2)
            go_roundw
            case rel => exact ⟨s + 1, _, _, by omega, by go_num, X6, by rw [show 4 * T + (s + 1) = 4 * T + s + 1 by omega]; exact O6⟩
            case measure => show 5 - ((s : Int) + 1 + 1).toNat < 5 - ((s : Int) + 1).toNat; omega)
        · obtain rfl : s = 4 := by omega
          have hls' : ¬ ((4 : Nat) : Int) + 1 ≤ 4 := by omega
          go_wp2
          go_roundw
          case rel => exact ⟨T + 1, _, _, by omega, by go_num, HE, HO⟩
          case measure => show 12 - ((T : Int) + 1).toNat < 12 - (T : Int).toNat; omega
    · obtain rfl : T = 12 := by omega
      have hlt' : ¬ ((12 : Nat) : Int) < 12 := by omega
      go_wp2
      have st := store_2 (v0 := .slice mb (msOf m t limit (upto 48)).length mz) (v1 := .slice ab (arOf m t limit (upto 48)).length az) (At.at HA0.out 0 rfl)
      refine bodyPost_ret (results_row2 rfl _ _ _ _ _ (0, 0) _ rfl st.1 Try.underlying63 rfl (by kernel_rfl)) rfl ?_
      refine ⟨_, _, by rw [hR.out]; rfl, ?_, ?_, ?_⟩
      · rw [if_pos hR.out]
        exact owns_base (own_set (own_set hO.out.2.1 (by omega)) (by omega)) E1.out.size
      · rw [if_pos hR.out]
        exact owns_base (own_set (own_set hO.out.2.2 (by omega)) (by omega)) E1.out.size
      · exact st.2.2 w (by omega) (E1.out.trans hE.out)
end Go.Proofs.Ytipkjdfnoonpcaa
