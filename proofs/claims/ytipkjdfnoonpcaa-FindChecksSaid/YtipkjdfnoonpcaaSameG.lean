/- Equal lists, images and grasps; a twin; Holds: the reference's walks. -/
import Derived.Test.YtipkjdfnoonpcaaHeld
set_option linter.unusedVariables false
set_option linter.unusedSimpArgs false
namespace Go.Proofs.Ytipkjdfnoonpcaa
open Go.RowKit Go.Sort

set_option maxRecDepth 100000 in
set_option maxHeartbeats 4000000 in
theorem c31 (l : List Int) (v1 v2 : Value) (w : World) (h1 : IntsAt w v1 l) (h2 : IntsAt w v2 l) (hl : l.length ≤ maxLen) :
    Calls Try.prog 31 #[v1, v2] w fun e w' => e = .returned (.bool true) ∧ Ext w w' := by
  unfold maxLen at hl
  obtain ⟨a1, c1, rfl, -, hc1⟩ := h1.form
  obtain ⟨a2, c2, rfl, -, hc2⟩ := h2.form
  have H1 := Lib.hid hc1
  have H2 := Lib.hid hc2
  clear hc1 hc2 h1 h2
  go_enter Try.func31, Try.ntmps31
  go_wp2
  go_loopw [5] (fun v wr => Ext w wr ∧ ∃ i : Nat, i ≤ l.length ∧ v = .int .i64 (i : Int)) (fun v _ => l.length - (intOf v).toNat)
  case atStart => exact ⟨Ext.refl _, 0, Nat.zero_le _, rfl⟩
  case round =>
    obtain ⟨hE, i, hi, rfl⟩ := hrel
    by_cases hil : i < l.length
    · obtain ⟨b1, o1, rfl, x0⟩ := H1.out i hil
      obtain ⟨b2, o2, rfl, y0⟩ := H2.out i hil
      generalize l.getD i 0 = x at x0 y0
      replace x0 := hE.get x0
      replace y0 := hE.get y0
      have hili : (i : Int) < (l.length : Int) := by omega
      go_wp2_with fail
      go_quiet (fail)
      go_wp2
      go_roundw
      case rel => exact ⟨hE.drewN _, i + 1, by omega, by go_num⟩
      case measure => simp [intOf]; omega
    · go_wp2
      go_ret
      exact ⟨rfl, hE⟩
def GraspsAt (w : World) (v : Value) (l : List Grasp) : Prop := SlAt w 5 v l.length (grasps l)
def grasp0 : Grasp := ⟨0, 0, false, 0, 0⟩
theorem grasps_get (l : List Grasp) : ∀ (i f : Nat), i < l.length → f < 5 → (grasps l)[i * 5 + f]? = (graspCells (l.getD i grasp0))[f]? := by
  induction l with
  | nil => intro i f h; simp at h
  | cons x l ih =>
    intro i f hi hf
    rw [grasps, List.flatMap_cons]
    match i with
    | 0 =>
      rw [List.getElem?_append_left (by simp [graspCells]; omega)]
      simp
    | i + 1 =>
      rw [List.getElem?_append_right (by simp [graspCells]; omega)]
      have := ih i f (by simpa using hi) hf
      simp only [grasps] at this
      simpa [graspCells, show (i + 1) * 5 + f - 5 = i * 5 + f by omega] using this
theorem GraspsAt.form {w : World} {v : Value} {l : List Grasp} (h : GraspsAt w v l) :
    ∃ ao cap, v = .slice ao l.length cap ∧ cap ≤ maxLen ∧ ∀ j, j < l.length → ∃ b off, ao = some ⟨b, off, none⟩ ∧ w.cell? ⟨b, off + j * 5, none⟩ = some (.int .i64 (l.getD j grasp0).x) ∧ w.cell? ⟨b, off + j * 5 + 1, none⟩ = some (.int .i64 (l.getD j grasp0).y) ∧ w.cell? ⟨b, off + j * 5 + 2, none⟩ = some (.bool (l.getD j grasp0).across) ∧
      w.cell? ⟨b, off + j * 5 + 3, none⟩ = some (.int .i64 (l.getD j grasp0).width) ∧ w.cell? ⟨b, off + j * 5 + 4, none⟩ = some (.int .i64 (l.getD j grasp0).z) := by
  obtain ⟨h1, ao, cap, h2, h3, h4, h5, h6⟩ := h
  refine ⟨ao, cap, h2, h4, fun j hj => ?_⟩
  obtain ⟨b, off, e0, c0⟩ := h6 (j * 5 + 0) _ (by rw [grasps_get l j 0 hj (by omega)]; rfl)
  obtain ⟨b1, off1, e1, c1⟩ := h6 (j * 5 + 1) _ (by rw [grasps_get l j 1 hj (by omega)]; rfl)
  obtain ⟨b2, off2, e2, c2⟩ := h6 (j * 5 + 2) _ (by rw [grasps_get l j 2 hj (by omega)]; rfl)
  obtain ⟨b3, off3, e3, c3⟩ := h6 (j * 5 + 3) _ (by rw [grasps_get l j 3 hj (by omega)]; rfl)
  obtain ⟨b4, off4, e4, c4⟩ := h6 (j * 5 + 4) _ (by rw [grasps_get l j 4 hj (by omega)]; rfl)
  rw [e0] at e1 e2 e3 e4
  cases e1
  cases e2
  cases e3
  cases e4
  exact ⟨b, off, e0, c0, c1, c2, c3, c4⟩
set_option maxRecDepth 100000 in
set_option maxHeartbeats 4000000 in
theorem c23 (l : List Grasp) (v1 v2 : Value) (w : World) (h1 : GraspsAt w v1 l) (h2 : GraspsAt w v2 l) (hl : l.length ≤ 1000000) :
    Calls Try.prog 23 #[v1, v2] w fun e w' => e = .returned (.bool true) ∧ Ext w w' := by
  obtain ⟨a1, c1, rfl, -, hc1⟩ := h1.form
  obtain ⟨a2, c2, rfl, -, hc2⟩ := h2.form
  have H1 := Lib.hid hc1
  have H2 := Lib.hid hc2
  clear hc1 hc2 h1 h2
  go_enter Try.func23, Try.ntmps23
  go_wp2
  go_loopw [5] (fun v wr => Ext w wr ∧ ∃ i : Nat, i ≤ l.length ∧ v = .int .i64 (i : Int)) (fun v _ => l.length - (intOf v).toNat)
  case atStart => exact ⟨Ext.refl _, 0, Nat.zero_le _, rfl⟩
  case round =>
    obtain ⟨hE, i, hi, rfl⟩ := hrel
    by_cases hil : i < l.length
    · obtain ⟨b1, o1, rfl, x0, x1, x2, x3, x4⟩ := H1.out i hil
      obtain ⟨b2, o2, rfl, y0, y1, y2, y3, y4⟩ := H2.out i hil
      generalize l.getD i grasp0 = x at x0 x1 x2 x3 x4 y0 y1 y2 y3 y4
      replace x0 := hE.get x0
      replace x1 := hE.get x1
      replace x2 := hE.get x2
      replace x3 := hE.get x3
      replace x4 := hE.get x4
      replace y0 := hE.get y0
      replace y1 := hE.get y1
      replace y2 := hE.get y2
      replace y3 := hE.get y3
      replace y4 := hE.get y4
      have hili : (i : Int) < (l.length : Int) := by omega
      go_wp2_with fail
      go_quiet (fail)
      go_wp2
      go_roundw
      case rel => exact ⟨hE.drewN _, i + 1, by omega, by go_num⟩
      case measure => simp [intOf]; omega
    · go_wp2
      go_ret
      exact ⟨rfl, hE⟩
set_option maxHeartbeats 4000000 in
theorem c24 (m : Img) (v1 v2 : Value) (w : World) (h1 : IntsAt w v1 m.pix) (h2 : IntsAt w v2 m.pix) (hl : m.pix.length ≤ maxLen) :
    Calls Try.prog 24 #[imgVal m v1, imgVal m v2] w fun e w' => e = .returned (.bool true) ∧ Ext w w' := by
  have K := Lib.hid (fun w' (h : Ext w w') => c31 m.pix v1 v2 w' (h1.ext h) (h2.ext h) hl)
  obtain ⟨a1, k1, rfl, -, -⟩ := h1.form
  obtain ⟨a2, k2, rfl, -, -⟩ := h2.form
  have q1 : (m.w == m.w) = true := by simp
  have q2 : (m.h == m.h) = true := by simp
  unfold imgVal
  clear h1 h2
  go_enter Try.func24, Try.ntmps24
  go_wp2_with (go_at_call 31; (with_reducible refine (K.out _ (by repeat (first | exact Ext.refl _ | assumption | refine Ext.alloc ?_ _ | refine Ext.drewN ?_ _ | refine ext_grow ?_ _ _ | refine Ext.trans ?_ (by assumption)))).mono ?_); rintro E w1 ⟨rfl, hb⟩)
  go_ret
  exact ⟨rfl, (by repeat (first | exact Ext.refl _ | assumption | refine Ext.alloc ?_ _ | refine Ext.drewN ?_ _ | refine ext_grow ?_ _ _ | refine Ext.trans ?_ (by assumption)))⟩
/-- an image in new memory -/
def TwinIs (m : Img) (w : World) (e : Ending) (w' : World) : Prop := ∃ v', e = .returned (.agg #[.int .i64 m.w, .int .i64 m.h, v']) ∧ w'.ownsRow w.heap.size 3 1 v' m.pix.length (ints m.pix) ∧ Ext w w'
theorem info3 : (Try.prog.info? 3).map (fun i => (i.zero, i.size, i.bytes)) = some (some (.int .i64 0), 1, 8) := by kernel_rfl
theorem info24 : (Try.prog.info? 24).map (·.size) = some 3 := by kernel_rfl
set_option maxRecDepth 100000 in
set_option maxHeartbeats 4000000 in
theorem c18 (m : Img) (v : Value) (w : World) (hv : IntsAt w v m.pix) (hl : m.pix.length * 8 ≤ 140737488351232) :
    Calls Try.prog 18 #[imgVal m v] w (TwinIs m w) := by
  have HV := Lib.hid hv
  obtain ⟨ao, cap, rfl, -, -⟩ := hv.form
  obtain ⟨i0, hi0, hz0, hz1, hz2⟩ := info_parts info3
  have hm63 : 0 + m.pix.length ≤ maxLen := by unfold maxLen; omega
  have hby : (0 + m.pix.length) * 8 ≤ 140737488355328 := by omega
  unfold imgVal
  clear hv
  go_enter Try.func18, Try.ntmps18
  go_wp2_with (at_builtin; refine wpList_append_sl rfl _ _ 22 rfl (w.heap.size + 1 + 1) 3 i0 (.int .i64 0) 1 8 Try.underlying22 hi0 hz0 hz1 hz2 rfl (by omega) (.slice none 0 0) 0 [] rfl ⟨rfl, .inl ⟨rfl, rfl⟩⟩ _ m.pix.length (ints m.pix) rfl (HV.out.ext (by repeat (first | exact Ext.refl _ | assumption | refine Ext.alloc ?_ _ | refine Ext.drewN ?_ _ | refine ext_grow ?_ _ _ | refine Ext.trans ?_ (by assumption)))) (ints_oneCell' _) hm63 hby (by simp) ?_; intro va w1 ho hg; obtain ⟨-, sa, sc, hva, -⟩ := SlAt.of_owns ho; subst hva; have O1 := Lib.hid (show w1.ownsRow (w.heap.size + 1 + 1) 3 1 (.slice sa m.pix.length sc) m.pix.length (ints m.pix) from by simpa using ho); have E1 := Lib.hid ((show Ext w _ from (by repeat (first | exact Ext.refl _ | assumption | refine Ext.alloc ?_ _ | refine Ext.drewN ?_ _ | refine ext_grow ?_ _ _ | refine Ext.trans ?_ (by assumption)))).grown hg (fun g h => by cases h)); have A1 := Lib.hid (show At w1 [(w.heap.size + 1, Obj.cells #[.int .i64 0, .int .i64 0, .slice none 0 0] 24), (w.heap.size, Obj.cells #[.int .i64 m.w, .int .i64 m.h, .slice ao m.pix.length cap] 24)] from At.ext (ext_of_grownNone hg) ⟨(by repeat (first | (refine blk_at _ _ ?_; (first | rfl | (simp only [size_one]; done))) | refine (blk_past _ _ (by simp only [size_one]; omega)).trans ?_)), (by repeat (first | (refine blk_at _ _ ?_; (first | rfl | (simp only [size_one]; done))) | refine (blk_past _ _ (by simp only [size_one]; omega)).trans ?_)), trivial⟩); clear ho hg; obtain ⟨⟨x00, x01, x02⟩, xf00, xf01, xf02⟩ := run_3 (At.at A1.out 0 rfl); obtain ⟨⟨x10, x11, x12⟩, xf10, xf11, xf12⟩ := run_3 (At.at A1.out 1 rfl); have xz0 := At.lt A1.out 0 rfl; have xy0 := Nat.lt_succ_of_lt xz0; have xx0 := Nat.lt_succ_of_lt xy0; have xz1 := At.lt A1.out 1 rfl; have xy1 := Nat.lt_succ_of_lt xz1; have xx1 := Nat.lt_succ_of_lt xy1)
  have stA := store_3 (v0 := .int .i64 m.w) (v1 := .int .i64 m.h) (v2 := .slice sa m.pix.length sc) (At.at (At.other (l := [(w.heap.size + 1, Obj.cells #[.int .i64 0, .int .i64 0, .slice none 0 0] 24)]) (set_at w1 (w.heap.size) 2 (.slice sa m.pix.length sc)) (by simp) ⟨At.at A1.out 0 rfl, trivial⟩) 0 rfl)
  refine bodyPost_ret (results_row1 rfl _ _ (w.heap.size + 1) 24 _ (0, 0) _ rfl stA.1 Try.underlying24 rfl info24) rfl ?_
  exact ⟨_, rfl, owns_base (own_set (own_set (own_set (own_set O1.out (by omega)) (by omega)) (by omega)) (by omega)) (by omega), stA.2.2 w (by omega) (E1.out.setCell (p := ⟨w.heap.size, 2, none⟩) (Nat.le_refl _) _)⟩
end Go.Proofs.Ytipkjdfnoonpcaa
