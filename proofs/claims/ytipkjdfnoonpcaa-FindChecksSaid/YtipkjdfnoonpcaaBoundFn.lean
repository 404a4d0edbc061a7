/- Bounds: the program's walks. -/
import Derived.Test.YtipkjdfnoonpcaaBound1
import Derived.Deep.RegionHeld3
import Derived.Deep.DrawnRows
set_option linter.unusedVariables false
set_option linter.unusedSimpArgs false
namespace Go.Proofs.Ytipkjdfnoonpcaa
open Go.RowKit Go.Sort
attribute [local go_sem ↓] Go.wp_at_zero Go.wp_at_succ

def areaVal (a : Area) : Value := .agg #[.int .i64 a.x0, .int .i64 a.y0, .int .i64 a.x1, .int .i64 a.y1, .int .i64 a.turn, .int .i64 a.scale]
structure Pose where
  x : Int
  y : Int
  turn : Int
  scale : Int
def poseVal (p : Pose) : Value := .agg #[.int .i64 p.x, .int .i64 p.y, .int .i64 p.turn, .int .i64 p.scale]
def Pose.area (p : Pose) : Area := ⟨p.x, p.y, p.x, p.y, p.turn, p.scale⟩
/-- the error of an image and a template -/
def checkE (m : Img) (t : Tpl) : Int := if m.Camera then if t.Ok then 0 else 70 else 20
theorem check_ok {m : Img} {t : Tpl} (h : checkE m t = 0) : m.Camera ∧ t.Ok := by
  unfold checkE at h
  by_cases h1 : m.Camera
  · rw [if_pos h1] at h
    by_cases h2 : t.Ok
    · exact ⟨h1, h2⟩
    · rw [if_neg h2] at h; omega
  · rw [if_neg h1] at h; omega
theorem check_walk (f cam val : FuncId) (hf : (f = 67 ∧ cam = 89 ∧ val = 56) ∨ (f = 64 ∧ cam = 42 ∧ val = 59)) (m : Img) (mv : Value) (t : Tpl) (tv : Value) (w : World)
    (k1 : ∀ w', Ext w w' → Calls Try.prog cam #[imgVal m mv] w' fun e w'' => e = .returned (.bool (decide m.Camera)) ∧ Ext w' w'') (k2 : ∀ w', Ext w w' → Calls Try.prog val #[tplVal t tv] w' fun e w'' => e = .returned (.bool (decide t.Ok)) ∧ Ext w' w'')
    (hmv : ∃ ao n cap, mv = .slice ao n cap) (htv : ∃ ao n cap, tv = .slice ao n cap) :
    Calls Try.prog f #[imgVal m mv, tplVal t tv] w fun e w' => e = .returned (.int .i64 (checkE m t)) ∧ Ext w w' := by
  obtain ⟨mo, mn, mc, rfl⟩ := hmv
  obtain ⟨to, tn, tc, rfl⟩ := htv
  have K1 := Lib.hid k1
  have K2 := Lib.hid k2
  unfold imgVal tplVal at *
  clear k1 k2
  by_cases h1 : m.Camera
  case neg =>
    have q1 : decide m.Camera = false := decide_eq_false h1
    rw [q1] at K1
    have hR := Lib.hid (show checkE m t = 20 from if_neg h1)
    clear h1 q1
    rcases hf with ⟨rfl, rfl, rfl⟩ | ⟨rfl, rfl, rfl⟩
    · go_enter Try.func67, Try.ntmps67
      go_wp2_with (go_at_call 89; (with_reducible refine (K1.out _ (by repeat (first | exact Ext.refl _ | assumption | refine Ext.alloc ?_ _ | refine Ext.drewN ?_ _ | refine ext_grow ?_ _ _ | refine Ext.trans ?_ (by assumption)))).mono ?_); rintro E w1 ⟨rfl, hb⟩)
      go_ret
      exact ⟨ret_int hR.out.symm, (by repeat (first | exact Ext.refl _ | assumption | refine Ext.alloc ?_ _ | refine Ext.drewN ?_ _ | refine ext_grow ?_ _ _ | refine Ext.trans ?_ (by assumption)))⟩
    · go_enter Try.func64, Try.ntmps64
      go_wp2_with (go_at_call 42; (with_reducible refine (K1.out _ (by repeat (first | exact Ext.refl _ | assumption | refine Ext.alloc ?_ _ | refine Ext.drewN ?_ _ | refine ext_grow ?_ _ _ | refine Ext.trans ?_ (by assumption)))).mono ?_); rintro E w1 ⟨rfl, hb⟩)
      go_ret
      exact ⟨ret_int hR.out.symm, (by repeat (first | exact Ext.refl _ | assumption | refine Ext.alloc ?_ _ | refine Ext.drewN ?_ _ | refine ext_grow ?_ _ _ | refine Ext.trans ?_ (by assumption)))⟩
  have q1 : decide m.Camera = true := decide_eq_true h1
  rw [q1] at K1
  obtain ⟨c, hc⟩ : ∃ c, decide t.Ok = c := ⟨_, rfl⟩
  rw [hc] at K2
  have hR := Lib.hid (show checkE m t = if c = true then 0 else 70 from (if_pos h1).trans (by rw [← hc]; simp))
  clear h1 q1 hc
  rcases hf with ⟨rfl, rfl, rfl⟩ | ⟨rfl, rfl, rfl⟩
  · cases c
    all_goals
      go_enter Try.func67, Try.ntmps67
      go_wp2_with (first | (go_at_call 89; (with_reducible refine (K1.out _ (by repeat (first | exact Ext.refl _ | assumption | refine Ext.alloc ?_ _ | refine Ext.drewN ?_ _ | refine ext_grow ?_ _ _ | refine Ext.trans ?_ (by assumption)))).mono ?_); rintro E w1 ⟨rfl, hb⟩; have A1 := Lib.hid (show At w1 [(w.heap.size + 1, Obj.cells #[.int .i64 t.w, .int .i64 t.h, .slice to tn tc] 43)] from At.ext hb ⟨(by repeat (first | (refine blk_at _ _ ?_; (first | rfl | (simp only [size_one]; done))) | refine (blk_past _ _ (by simp only [size_one]; omega)).trans ?_)), trivial⟩); obtain ⟨⟨x00, x01, x02⟩, -⟩ := run_3 (At.at A1.out 0 rfl); have xz0 := At.lt A1.out 0 rfl; have xy0 := Nat.lt_succ_of_lt xz0; have xx0 := Nat.lt_succ_of_lt xy0) | (go_at_call 56; (with_reducible refine (K2.out _ (by repeat (first | exact Ext.refl _ | assumption | refine Ext.alloc ?_ _ | refine Ext.drewN ?_ _ | refine ext_grow ?_ _ _ | refine Ext.trans ?_ (by assumption)))).mono ?_); rintro E w2 ⟨rfl, hb2⟩))
      go_ret
      exact ⟨ret_int (by rw [hR.out]; rfl), (by repeat (first | exact Ext.refl _ | assumption | refine Ext.alloc ?_ _ | refine Ext.drewN ?_ _ | refine ext_grow ?_ _ _ | refine Ext.trans ?_ (by assumption)))⟩
  · cases c
    all_goals
      go_enter Try.func64, Try.ntmps64
      go_wp2_with (first | (go_at_call 42; (with_reducible refine (K1.out _ (by repeat (first | exact Ext.refl _ | assumption | refine Ext.alloc ?_ _ | refine Ext.drewN ?_ _ | refine ext_grow ?_ _ _ | refine Ext.trans ?_ (by assumption)))).mono ?_); rintro E w1 ⟨rfl, hb⟩; have A1 := Lib.hid (show At w1 [(w.heap.size + 1, Obj.cells #[.int .i64 t.w, .int .i64 t.h, .slice to tn tc] 43)] from At.ext hb ⟨(by repeat (first | (refine blk_at _ _ ?_; (first | rfl | (simp only [size_one]; done))) | refine (blk_past _ _ (by simp only [size_one]; omega)).trans ?_)), trivial⟩); obtain ⟨⟨x00, x01, x02⟩, -⟩ := run_3 (At.at A1.out 0 rfl); have xz0 := At.lt A1.out 0 rfl; have xy0 := Nat.lt_succ_of_lt xz0; have xx0 := Nat.lt_succ_of_lt xy0) | (go_at_call 59; (with_reducible refine (K2.out _ (by repeat (first | exact Ext.refl _ | assumption | refine Ext.alloc ?_ _ | refine Ext.drewN ?_ _ | refine ext_grow ?_ _ _ | refine Ext.trans ?_ (by assumption)))).mono ?_); rintro E w2 ⟨rfl, hb2⟩))
      go_ret
      exact ⟨ret_int (by rw [hR.out]; rfl), (by repeat (first | exact Ext.refl _ | assumption | refine Ext.alloc ?_ _ | refine Ext.drewN ?_ _ | refine ext_grow ?_ _ _ | refine Ext.trans ?_ (by assumption)))⟩
theorem IntsAt.slice {w : World} {v : Value} {l : List Int} (h : IntsAt w v l) : ∃ ao n cap, v = .slice ao n cap := by
  obtain ⟨ao, cap, e, -, -⟩ := h.form
  exact ⟨ao, _, cap, e⟩
theorem c67 (m : Img) (mv : Value) (t : Tpl) (tv : Value) (w : World) (hm : IntsAt w mv m.pix) (hml : m.pix.length ≤ maxLen) (ht : IntsAt w tv t.pix) (htl : t.pix.length ≤ maxLen) :
    Calls Try.prog 67 #[imgVal m mv, tplVal t tv] w fun e w' => e = .returned (.int .i64 (checkE m t)) ∧ Ext w w' :=
  check_walk _ _ _ (.inl ⟨rfl, rfl, rfl⟩) m mv t tv w (fun w' h => c89 m mv w' (hm.ext h) hml) (fun w' h => c56 t tv w' (ht.ext h) htl) hm.slice ht.slice
theorem c64 (m : Img) (mv : Value) (t : Tpl) (tv : Value) (w : World) (hm : IntsAt w mv m.pix) (hml : m.pix.length ≤ maxLen) (ht : IntsAt w tv t.pix) (htl : t.pix.length ≤ maxLen) :
    Calls Try.prog 64 #[imgVal m mv, tplVal t tv] w fun e w' => e = .returned (.int .i64 (checkE m t)) ∧ Ext w w' :=
  check_walk _ _ _ (.inr ⟨rfl, rfl, rfl⟩) m mv t tv w (fun w' h => c42 m mv w' (hm.ext h) hml) (fun w' h => c59 t tv w' (ht.ext h) htl) hm.slice ht.slice
theorem info47 : (Try.prog.info? 47).map (·.size) = some 6 := by kernel_rfl
set_option maxRecDepth 100000 in
set_option maxHeartbeats 4000000 in
theorem c63 (p : Pose) (w : World) : Calls Try.prog 63 #[poseVal p] w fun e w' => e = .returned (areaVal p.area) ∧ Ext w w' := by
  unfold poseVal
  go_enter Try.func63, Try.ntmps63
  go_wp2
  refine bodyPost_ret (results_row1 rfl _ _ (w.heap.size + 1) 47 _ (0, 0) _ rfl (show _ = some (Obj.cells #[.int .i64 p.x, .int .i64 p.y, .int .i64 p.x, .int .i64 p.y, .int .i64 p.turn, .int .i64 p.scale] 47) from (by repeat (first | (refine blk_at _ _ ?_; (first | rfl | (simp only [size_one]; done))) | refine (blk_past _ _ (by simp only [size_one]; omega)).trans ?_))) Try.underlying47 rfl info47) rfl ?_
  exact ⟨rfl, (by repeat (first | exact Ext.refl _ | assumption | refine Ext.alloc ?_ _ | refine Ext.drewN ?_ _ | refine ext_grow ?_ _ _ | refine Ext.trans ?_ (by assumption)))⟩
set_option maxRecDepth 100000 in
set_option maxHeartbeats 8000000 in
theorem c68 (m : Img) (mv : Value) (a : Area) (w : World) (hm : m.Sized) (hmv : ∃ ao n cap, mv = .slice ao n cap) : Calls Try.prog 68 #[imgVal m mv, areaVal a] w fun e w' => e = .returned (.bool (decide (a.Ok m))) ∧ Ext w w' := by
  obtain ⟨mo, mn, mc, rfl⟩ := hmv
  obtain ⟨⟨s1, s2⟩, ⟨s3, s4⟩, -⟩ := hm
  unfold imgVal areaVal
  by_cases h1 : (0 ≤ a.x0 ∧ a.x0 ≤ m.w - 1) ∧ 0 ≤ a.x1 ∧ a.x1 ≤ m.w - 1
  case neg =>
    have q1 : decide ((0 ≤ a.x0 ∧ a.x0 ≤ m.w - 1) ∧ 0 ≤ a.x1 ∧ a.x1 ≤ m.w - 1) = false := decide_eq_false h1; have H1 := Lib.hid h1; clear h1
    go_enter Try.func68, Try.ntmps68
    go_wp2_with (go_at_call 50; (with_reducible refine (within_two_same 50 (.inl rfl) _ _ _ _ _ _ (by simp)).mono ?_); rintro E w1 ⟨rfl, rfl⟩)
    go_ret
    exact ⟨ret_bool (decide_eq_false (fun h => H1.out (by obtain ⟨⟨k1, k2, k3⟩, -⟩ := h; omega))).symm, (by repeat (first | exact Ext.refl _ | assumption | refine Ext.alloc ?_ _ | refine Ext.drewN ?_ _ | refine ext_grow ?_ _ _ | refine Ext.trans ?_ (by assumption)))⟩
  have q1 : decide ((0 ≤ a.x0 ∧ a.x0 ≤ m.w - 1) ∧ 0 ≤ a.x1 ∧ a.x1 ≤ m.w - 1) = true := decide_eq_true h1
  have H1 := Lib.hid h1
  clear h1
  by_cases h2 : (0 ≤ a.y0 ∧ a.y0 ≤ m.h - 1) ∧ 0 ≤ a.y1 ∧ a.y1 ≤ m.h - 1
  case neg =>
    have q2 : decide ((0 ≤ a.y0 ∧ a.y0 ≤ m.h - 1) ∧ 0 ≤ a.y1 ∧ a.y1 ≤ m.h - 1) = false := decide_eq_false h2; have H2 := Lib.hid h2; clear h2
    go_enter Try.func68, Try.ntmps68
    go_wp2_with (go_at_call 50; (with_reducible refine (within_two_same 50 (.inl rfl) _ _ _ _ _ _ (by simp)).mono ?_); rintro E w1 ⟨rfl, rfl⟩)
    go_ret
    exact ⟨ret_bool (decide_eq_false (fun h => H2.out (by obtain ⟨-, ⟨k1, k2, k3⟩, -⟩ := h; omega))).symm, (by repeat (first | exact Ext.refl _ | assumption | refine Ext.alloc ?_ _ | refine Ext.drewN ?_ _ | refine ext_grow ?_ _ _ | refine Ext.trans ?_ (by assumption)))⟩
  have q2 : decide ((0 ≤ a.y0 ∧ a.y0 ≤ m.h - 1) ∧ 0 ≤ a.y1 ∧ a.y1 ≤ m.h - 1) = true := decide_eq_true h2
  have H2 := Lib.hid h2
  clear h2
  by_cases h3 : a.x0 ≤ a.x1
  case neg =>
    have q3 : decide (a.x0 ≤ a.x1) = false := decide_eq_false h3; have H3 := Lib.hid h3; clear h3
    go_enter Try.func68, Try.ntmps68
    go_wp2_with (go_at_call 50; (with_reducible refine (within_two_same 50 (.inl rfl) _ _ _ _ _ _ (by simp)).mono ?_); rintro E w1 ⟨rfl, rfl⟩)
    go_ret
    exact ⟨ret_bool (decide_eq_false (fun h => (by have h9 := h.1.2.1; have h8 := H3.out; omega))).symm, (by repeat (first | exact Ext.refl _ | assumption | refine Ext.alloc ?_ _ | refine Ext.drewN ?_ _ | refine ext_grow ?_ _ _ | refine Ext.trans ?_ (by assumption)))⟩
  have q3 : decide (a.x0 ≤ a.x1) = true := decide_eq_true h3
  by_cases h4 : a.y0 ≤ a.y1
  case neg =>
    have q4 : decide (a.y0 ≤ a.y1) = false := decide_eq_false h4; have H4 := Lib.hid h4; clear h4
    go_enter Try.func68, Try.ntmps68
    go_wp2_with (go_at_call 50; (with_reducible refine (within_two_same 50 (.inl rfl) _ _ _ _ _ _ (by simp)).mono ?_); rintro E w1 ⟨rfl, rfl⟩)
    go_ret
    exact ⟨ret_bool (decide_eq_false (fun h => (by have h9 := h.2.1.2.1; have h8 := H4.out; omega))).symm, (by repeat (first | exact Ext.refl _ | assumption | refine Ext.alloc ?_ _ | refine Ext.drewN ?_ _ | refine ext_grow ?_ _ _ | refine Ext.trans ?_ (by assumption)))⟩
  have q4 : decide (a.y0 ≤ a.y1) = true := decide_eq_true h4
  have K57 := Lib.hid (fun w' => c57 a.turn a.scale w')
  obtain ⟨c, hc⟩ : ∃ c, decide (Posed a.turn a.scale) = c := ⟨_, rfl⟩
  rw [hc] at K57
  have HF := Lib.hid (show c = decide (a.Ok m) from by
    rw [← hc]
    refine decide_eq_decide.2 ⟨fun h => ⟨⟨H1.out.1.1, h3, H1.out.2.2⟩, ⟨H2.out.1.1, h4, H2.out.2.2⟩, h⟩, fun h => h.2.2⟩)
  clear hc
  go_enter Try.func68, Try.ntmps68
  go_wp2_with (first | (go_at_call 50; (with_reducible refine (within_two_same 50 (.inl rfl) _ _ _ _ _ _ (by simp)).mono ?_); rintro E w1 ⟨rfl, rfl⟩) | (go_at_call 57; (with_reducible refine (K57.out _).mono ?_); rintro E w2 ⟨rfl, hb⟩))
  go_ret
  exact ⟨ret_bool HF.out, (by repeat (first | exact Ext.refl _ | assumption | refine Ext.alloc ?_ _ | refine Ext.drewN ?_ _ | refine ext_grow ?_ _ _ | refine Ext.trans ?_ (by assumption)))⟩
/-- what 'Bound' answers -/
def boundR (m : Img) (t : Tpl) (a : Area) : Int × Int := if checkE m t = 0 then if a.Ok m then (bound m t a, 0) else (0, 2) else (0, checkE m t)
theorem off_in {t : Tpl} (ht : t.Ok) {turn scale : Int} (hp : Posed turn scale) {k : Nat} (hk : k < t.pix.length) : -20 ≤ (ptOf t turn scale k).x ∧ (ptOf t turn scale k).x ≤ 20 ∧ -20 ≤ (ptOf t turn scale k).y ∧ (ptOf t turn scale k).y ≤ 20 := by
  obtain ⟨⟨p1, p2⟩, p3, p4⟩ := tplace_bd ht hk
  obtain ⟨⟨⟨t1, t2⟩, ⟨t3, t4⟩, -⟩, -⟩ := ht
  obtain ⟨⟨a1, a2⟩, b1, b2⟩ := dirOf_bd turn
  have h1 := off_bd (a := (dirOf turn).1) (b := (dirOf turn).2) (u := 2 * ((k : Int) % t.w) - t.w + 1) (v := 2 * ((k : Int) / t.w) - t.h + 1) ⟨a1, a2⟩ ⟨b1, b2⟩ (by omega) (by omega) hp.2
  have h2 := off_bd (a := (dirOf turn).2) (b := (dirOf turn).1) (u := 2 * ((k : Int) % t.w) - t.w + 1) (v := 2 * ((k : Int) / t.w) - t.h + 1) ⟨b1, b2⟩ ⟨a1, a2⟩ (by omega) (by omega) hp.2
  unfold ptOf offX offY
  dsimp only
  omega
theorem sten_in {t : Tpl} (ht : t.Ok) {turn scale : Int} (hp : Posed turn scale) : ∀ p ∈ stencil t turn scale t.pix.length, -20 ≤ p.x ∧ p.x ≤ 20 ∧ -20 ≤ p.y ∧ p.y ≤ 20 ∧ 0 ≤ p.v ∧ p.v ≤ 255 := fun p h => by
  obtain ⟨k, h1, h2, rfl⟩ := stencil_mem h
  obtain ⟨k1, k2, k3, k4⟩ := off_in ht hp h1
  have h3 := Tpl.pix_bd ht h1
  exact ⟨k1, k2, k3, k4, h2, h3.2⟩
set_option maxRecDepth 100000 in
set_option maxHeartbeats 16000000 in
theorem c29 (m : Img) (mv : Value) (t : Tpl) (tv : Value) (a : Area) (w : World) (hm : IntsAt w mv m.pix) (hml : m.pix.length ≤ maxLen) (ht : IntsAt w tv t.pix) (htl : t.pix.length ≤ maxLen) :
    Calls Try.prog 29 #[imgVal m mv, tplVal t tv, areaVal a] w fun e w' => e = .returned (.tuple #[.int .i64 (boundR m t a).1, .int .i64 (boundR m t a).2]) ∧ Ext w w' := by
  have HMV := Lib.hid hm
  have HTV := Lib.hid ht
  obtain ⟨mo, mc, rfl, -, -⟩ := hm.form
  obtain ⟨to, tc, rfl, -, -⟩ := ht.form
  have K67 := Lib.hid (fun w' (h : Ext w w') => c67 m _ t _ w' (HMV.out.ext h) hml (HTV.out.ext h) htl)
  have K68 := fun (h : m.Sized) => Lib.hid (fun w' => c68 m (.slice mo m.pix.length mc) a w' h ⟨_, _, _, rfl⟩)
  have K69 := fun (h1 : t.Ok) (h2 : Posed a.turn a.scale) => Lib.hid (fun w' (h : Ext w w') => c69 t _ a.turn a.scale w' h1 (HTV.out.ext h) h2)
  have K70 := fun (h0 : m.Camera) (h1 : t.Ok) (h2 : a.Ok m) => Lib.hid (fun sv w' (h : Ext w w') (hs : PtsAt w' sv (stencil t a.turn a.scale t.pix.length)) => c70 m _ (stencil t a.turn a.scale t.pix.length) sv a w' h0 (HMV.out.ext h) hs h2 (Nat.le_trans (stencil_len _ _ _ _) (Tpl.len_bd h1).2) (sten_in h1 h2.2.2))
  unfold imgVal tplVal areaVal at *
  clear hm ht hml htl
  by_cases h0 : checkE m t = 0
  case neg =>
    obtain ⟨r, hr⟩ : ∃ r, checkE m t = r := ⟨_, rfl⟩
    have q0 : (r != 0) = true := by simpa [hr] using h0
    have hR := Lib.hid (show boundR m t a = (0, r) from by unfold boundR; rw [if_neg h0, hr])
    rw [hr] at K67
    clear h0 hr K68 K69 K70
    go_enter Try.func29, Try.ntmps29
    go_wp2_with (go_at_call 67; (with_reducible refine (K67.out _ (by repeat (first | exact Ext.refl _ | assumption | refine Ext.alloc ?_ _ | refine Ext.drewN ?_ _ | refine ext_grow ?_ _ _ | refine Ext.trans ?_ (by assumption)))).mono ?_); rintro E w1 ⟨rfl, hb1⟩; have A1 := Lib.hid (show At w1 [(w.heap.size + 1 + 1, Obj.cells #[.int .i64 a.x0, .int .i64 a.y0, .int .i64 a.x1, .int .i64 a.y1, .int .i64 a.turn, .int .i64 a.scale] 47), (w.heap.size + 1, Obj.cells #[.int .i64 t.w, .int .i64 t.h, .slice to t.pix.length tc] 43), (w.heap.size, Obj.cells #[.int .i64 m.w, .int .i64 m.h, .slice mo m.pix.length mc] 24)] from At.ext hb1 ⟨(by repeat (first | (refine blk_at _ _ ?_; (first | rfl | (simp only [size_one]; done))) | refine (blk_past _ _ (by simp only [size_one]; omega)).trans ?_)), (by repeat (first | (refine blk_at _ _ ?_; (first | rfl | (simp only [size_one]; done))) | refine (blk_past _ _ (by simp only [size_one]; omega)).trans ?_)), (by repeat (first | (refine blk_at _ _ ?_; (first | rfl | (simp only [size_one]; done))) | refine (blk_past _ _ (by simp only [size_one]; omega)).trans ?_)), trivial⟩); have E1 := Lib.hid (show Ext w w1 from (by repeat (first | exact Ext.refl _ | assumption | refine Ext.alloc ?_ _ | refine Ext.drewN ?_ _ | refine ext_grow ?_ _ _ | refine Ext.trans ?_ (by assumption)))); obtain ⟨⟨x00, x01, x02, x03, x04, x05⟩, -⟩ := run_6 (At.at A1.out 0 rfl); obtain ⟨⟨x10, x11, x12⟩, -⟩ := run_3 (At.at A1.out 1 rfl); obtain ⟨⟨x20, x21, x22⟩, -⟩ := run_3 (At.at A1.out 2 rfl); have xz0 := At.lt A1.out 0 rfl; have xy0 := Nat.lt_succ_of_lt xz0; have xx0 := Nat.lt_succ_of_lt xy0; have xz1 := At.lt A1.out 1 rfl; have xy1 := Nat.lt_succ_of_lt xz1; have xx1 := Nat.lt_succ_of_lt xy1; have xz2 := At.lt A1.out 2 rfl; have xy2 := Nat.lt_succ_of_lt xz2; have xx2 := Nat.lt_succ_of_lt xy2)
    go_ret2
    exact ⟨by rw [hR.out]; rfl, E1.out⟩
  obtain ⟨g1, g2⟩ := check_ok h0
  rw [h0] at K67
  replace K68 := K68 g1.1
  by_cases h1 : a.Ok m
  case neg =>
    have q1 : decide (a.Ok m) = false := decide_eq_false h1
    have hR := Lib.hid (show boundR m t a = (0, 2) from by unfold boundR; rw [if_pos h0, if_neg h1])
    rw [q1] at K68
    clear h0 h1 q1 K69 K70 g1 g2
    go_enter Try.func29, Try.ntmps29
    go_wp2_with (first | (have _q := E1; go_at_call 68; (with_reducible refine (K68.out _).mono ?_); rintro E w2 ⟨rfl, hb2⟩; have A2 := Lib.hid (show At w2 [(w.heap.size + 1 + 1, Obj.cells #[.int .i64 a.x0, .int .i64 a.y0, .int .i64 a.x1, .int .i64 a.y1, .int .i64 a.turn, .int .i64 a.scale] 47), (w.heap.size + 1, Obj.cells #[.int .i64 t.w, .int .i64 t.h, .slice to t.pix.length tc] 43), (w.heap.size, Obj.cells #[.int .i64 m.w, .int .i64 m.h, .slice mo m.pix.length mc] 24)] from At.ext hb2 A1.out); have E2 := Lib.hid (E1.out.trans hb2); obtain ⟨⟨y00, y01, y02, y03, y04, y05⟩, -⟩ := run_6 (At.at A2.out 0 rfl); obtain ⟨⟨y10, y11, y12⟩, -⟩ := run_3 (At.at A2.out 1 rfl); obtain ⟨⟨y20, y21, y22⟩, -⟩ := run_3 (At.at A2.out 2 rfl); have yz0 := At.lt A2.out 0 rfl; have yy0 := Nat.lt_succ_of_lt yz0; have yx0 := Nat.lt_succ_of_lt yy0; have yz1 := At.lt A2.out 1 rfl; have yy1 := Nat.lt_succ_of_lt yz1; have yx1 := Nat.lt_succ_of_lt yy1; have yz2 := At.lt A2.out 2 rfl; have yy2 := Nat.lt_succ_of_lt yz2; have yx2 := Nat.lt_succ_of_lt yy2) | (go_at_call 67; (with_reducible refine (K67.out _ (by repeat (first | exact Ext.refl _ | assumption | refine Ext.alloc ?_ _ | refine Ext.drewN ?_ _ | refine ext_grow ?_ _ _ | refine Ext.trans ?_ (by assumption)))).mono ?_); rintro E w1 ⟨rfl, hb1⟩; have A1 := Lib.hid (show At w1 [(w.heap.size + 1 + 1, Obj.cells #[.int .i64 a.x0, .int .i64 a.y0, .int .i64 a.x1, .int .i64 a.y1, .int .i64 a.turn, .int .i64 a.scale] 47), (w.heap.size + 1, Obj.cells #[.int .i64 t.w, .int .i64 t.h, .slice to t.pix.length tc] 43), (w.heap.size, Obj.cells #[.int .i64 m.w, .int .i64 m.h, .slice mo m.pix.length mc] 24)] from At.ext hb1 ⟨(by repeat (first | (refine blk_at _ _ ?_; (first | rfl | (simp only [size_one]; done))) | refine (blk_past _ _ (by simp only [size_one]; omega)).trans ?_)), (by repeat (first | (refine blk_at _ _ ?_; (first | rfl | (simp only [size_one]; done))) | refine (blk_past _ _ (by simp only [size_one]; omega)).trans ?_)), (by repeat (first | (refine blk_at _ _ ?_; (first | rfl | (simp only [size_one]; done))) | refine (blk_past _ _ (by simp only [size_one]; omega)).trans ?_)), trivial⟩); have E1 := Lib.hid (show Ext w w1 from (by repeat (first | exact Ext.refl _ | assumption | refine Ext.alloc ?_ _ | refine Ext.drewN ?_ _ | refine ext_grow ?_ _ _ | refine Ext.trans ?_ (by assumption)))); obtain ⟨⟨x00, x01, x02, x03, x04, x05⟩, -⟩ := run_6 (At.at A1.out 0 rfl); obtain ⟨⟨x10, x11, x12⟩, -⟩ := run_3 (At.at A1.out 1 rfl); obtain ⟨⟨x20, x21, x22⟩, -⟩ := run_3 (At.at A1.out 2 rfl); have xz0 := At.lt A1.out 0 rfl; have xy0 := Nat.lt_succ_of_lt xz0; have xx0 := Nat.lt_succ_of_lt xy0; have xz1 := At.lt A1.out 1 rfl; have xy1 := Nat.lt_succ_of_lt xz1; have xx1 := Nat.lt_succ_of_lt xy1; have xz2 := At.lt A1.out 2 rfl; have xy2 := Nat.lt_succ_of_lt xz2; have xx2 := Nat.lt_succ_of_lt xy2))
    go_ret2
    exact ⟨by rw [hR.out]; rfl, E2.out⟩
  have q1 : decide (a.Ok m) = true := decide_eq_true h1
  have hR := Lib.hid (show boundR m t a = (bound m t a, 0) from by unfold boundR; rw [if_pos h0, if_pos h1])
  rw [q1] at K68
  replace K69 := K69 g2 h1.2.2
  replace K70 := K70 g1 g2 h1
  obtain ⟨bd, hbd⟩ : ∃ bd, sumL (fun p => least m p a.x0 a.y0 a.x1 a.y1) (stencil t a.turn a.scale t.pix.length) = bd := ⟨_, rfl⟩
  rw [hbd] at K70
  have HBD := Lib.hid (show bound m t a = bd from hbd)
  clear h0 h1 q1 g1 g2 hbd
  go_enter Try.func29, Try.ntmps29
  go_wp2_with (first | (have _q := E1; go_at_call 68; (with_reducible refine (K68.out _).mono ?_); rintro E w2 ⟨rfl, hb2⟩; have A2 := Lib.hid (show At w2 [(w.heap.size + 1 + 1, Obj.cells #[.int .i64 a.x0, .int .i64 a.y0, .int .i64 a.x1, .int .i64 a.y1, .int .i64 a.turn, .int .i64 a.scale] 47), (w.heap.size + 1, Obj.cells #[.int .i64 t.w, .int .i64 t.h, .slice to t.pix.length tc] 43), (w.heap.size, Obj.cells #[.int .i64 m.w, .int .i64 m.h, .slice mo m.pix.length mc] 24)] from At.ext hb2 A1.out); have E2 := Lib.hid (E1.out.trans hb2); obtain ⟨⟨y00, y01, y02, y03, y04, y05⟩, -⟩ := run_6 (At.at A2.out 0 rfl); obtain ⟨⟨y10, y11, y12⟩, -⟩ := run_3 (At.at A2.out 1 rfl); obtain ⟨⟨y20, y21, y22⟩, -⟩ := run_3 (At.at A2.out 2 rfl); have yz0 := At.lt A2.out 0 rfl; have yy0 := Nat.lt_succ_of_lt yz0; have yx0 := Nat.lt_succ_of_lt yy0; have yz1 := At.lt A2.out 1 rfl; have yy1 := Nat.lt_succ_of_lt yz1; have yx1 := Nat.lt_succ_of_lt yy1; have yz2 := At.lt A2.out 2 rfl; have yy2 := Nat.lt_succ_of_lt yz2; have yx2 := Nat.lt_succ_of_lt yy2) | (go_at_call 67; (with_reducible refine (K67.out _ (by repeat (first | exact Ext.refl _ | assumption | refine Ext.alloc ?_ _ | refine Ext.drewN ?_ _ | refine ext_grow ?_ _ _ | refine Ext.trans ?_ (by assumption)))).mono ?_); rintro E w1 ⟨rfl, hb1⟩; have A1 := Lib.hid (show At w1 [(w.heap.size + 1 + 1, Obj.cells #[.int .i64 a.x0, .int .i64 a.y0, .int .i64 a.x1, .int .i64 a.y1, .int .i64 a.turn, .int .i64 a.scale] 47), (w.heap.size + 1, Obj.cells #[.int .i64 t.w, .int .i64 t.h, .slice to t.pix.length tc] 43), (w.heap.size, Obj.cells #[.int .i64 m.w, .int .i64 m.h, .slice mo m.pix.length mc] 24)] from At.ext hb1 ⟨(by repeat (first | (refine blk_at _ _ ?_; (first | rfl | (simp only [size_one]; done))) | refine (blk_past _ _ (by simp only [size_one]; omega)).trans ?_)), (by repeat (first | (refine blk_at _ _ ?_; (first | rfl | (simp only [size_one]; done))) | refine (blk_past _ _ (by simp only [size_one]; omega)).trans ?_)), (by repeat (first | (refine blk_at _ _ ?_; (first | rfl | (simp only [size_one]; done))) | refine (blk_past _ _ (by simp only [size_one]; omega)).trans ?_)), trivial⟩); have E1 := Lib.hid (show Ext w w1 from (by repeat (first | exact Ext.refl _ | assumption | refine Ext.alloc ?_ _ | refine Ext.drewN ?_ _ | refine ext_grow ?_ _ _ | refine Ext.trans ?_ (by assumption)))); obtain ⟨⟨x00, x01, x02, x03, x04, x05⟩, -⟩ := run_6 (At.at A1.out 0 rfl); obtain ⟨⟨x10, x11, x12⟩, -⟩ := run_3 (At.at A1.out 1 rfl); obtain ⟨⟨x20, x21, x22⟩, -⟩ := run_3 (At.at A1.out 2 rfl); have xz0 := At.lt A1.out 0 rfl; have xy0 := Nat.lt_succ_of_lt xz0; have xx0 := Nat.lt_succ_of_lt xy0; have xz1 := At.lt A1.out 1 rfl; have xy1 := Nat.lt_succ_of_lt xz1; have xx1 := Nat.lt_succ_of_lt xy1; have xz2 := At.lt A1.out 2 rfl; have xy2 := Nat.lt_succ_of_lt xz2; have xx2 := Nat.lt_succ_of_lt xy2))
  have E2x := Lib.hid (show Ext w w2.drew from E2.out.drew)
  go_region_held3 (fun w' => w'.cell? ⟨w.heap.size + 1 + 1, 0, none⟩ = some (.int .i64 a.x0) ∧ w'.cell? ⟨w.heap.size + 1 + 1, 1, none⟩ = some (.int .i64 a.y0) ∧ w'.cell? ⟨w.heap.size + 1 + 1, 2, none⟩ = some (.int .i64 a.x1) ∧ w'.cell? ⟨w.heap.size + 1 + 1, 3, none⟩ = some (.int .i64 a.y1) ∧ w'.cell? ⟨w.heap.size + 1 + 1, 4, none⟩ = some (.int .i64 a.turn) ∧ w'.cell? ⟨w.heap.size + 1 + 1, 5, none⟩ = some (.int .i64 a.scale) ∧ w'.cell? ⟨w.heap.size + 1, 0, none⟩ = some (.int .i64 t.w) ∧ w'.cell? ⟨w.heap.size + 1, 1, none⟩ = some (.int .i64 t.h) ∧ w'.cell? ⟨w.heap.size + 1, 2, none⟩ = some (.slice to t.pix.length tc) ∧ w'.cell? ⟨w.heap.size, 0, none⟩ = some (.int .i64 m.w) ∧ w'.cell? ⟨w.heap.size, 1, none⟩ = some (.int .i64 m.h) ∧ w'.cell? ⟨w.heap.size, 2, none⟩ = some (.slice mo m.pix.length mc)) ((repeat' apply And.intro) <;> first | assumption | go_keep) (first | (have _q := E5; go_at_call 70; (with_reducible refine (K70.out _ _ E5.out P5.out).mono ?_); rintro E w6 ⟨rfl, hb6⟩; have A6 := Lib.hid (show At w6 [(w.heap.size + 1 + 1, Obj.cells #[.int .i64 a.x0, .int .i64 a.y0, .int .i64 a.x1, .int .i64 a.y1, .int .i64 a.turn, .int .i64 a.scale] 47), (w.heap.size + 1, Obj.cells #[.int .i64 t.w, .int .i64 t.h, .slice to t.pix.length tc] 43), (w.heap.size, Obj.cells #[.int .i64 m.w, .int .i64 m.h, .slice mo m.pix.length mc] 24)] from At.ext hb6 A5.out); obtain ⟨⟨v00, v01, v02, v03, v04, v05⟩, -⟩ := run_6 (At.at A6.out 0 rfl); obtain ⟨⟨v10, v11, v12⟩, -⟩ := run_3 (At.at A6.out 1 rfl); obtain ⟨⟨v20, v21, v22⟩, -⟩ := run_3 (At.at A6.out 2 rfl); have vz0 := At.lt A6.out 0 rfl; have vy0 := Nat.lt_succ_of_lt vz0; have vx0 := Nat.lt_succ_of_lt vy0; have vz1 := At.lt A6.out 1 rfl; have vy1 := Nat.lt_succ_of_lt vz1; have vx1 := Nat.lt_succ_of_lt vy1; have vz2 := At.lt A6.out 2 rfl; have vy2 := Nat.lt_succ_of_lt vz2; have vx2 := Nat.lt_succ_of_lt vy2; have E6 := Lib.hid (E5.out.trans hb6)) | (go_at_call 69; (with_reducible refine (K69.out _ E2x.out).mono ?_); rintro E w5 ⟨v5, rfl, ho5, hb5⟩; obtain ⟨-, so, sc, hv5, -⟩ := SlAt.of_owns ho5; subst hv5; have A5 := Lib.hid (show At w5 [(w.heap.size + 1 + 1, Obj.cells #[.int .i64 a.x0, .int .i64 a.y0, .int .i64 a.x1, .int .i64 a.y1, .int .i64 a.turn, .int .i64 a.scale] 47), (w.heap.size + 1, Obj.cells #[.int .i64 t.w, .int .i64 t.h, .slice to t.pix.length tc] 43), (w.heap.size, Obj.cells #[.int .i64 m.w, .int .i64 m.h, .slice mo m.pix.length mc] 24)] from At.ext hb5 (At.drew A2.out)); obtain ⟨⟨u00, u01, u02, u03, u04, u05⟩, -⟩ := run_6 (At.at A5.out 0 rfl); obtain ⟨⟨u10, u11, u12⟩, -⟩ := run_3 (At.at A5.out 1 rfl); obtain ⟨⟨u20, u21, u22⟩, -⟩ := run_3 (At.at A5.out 2 rfl); have uz0 := At.lt A5.out 0 rfl; have uy0 := Nat.lt_succ_of_lt uz0; have ux0 := Nat.lt_succ_of_lt uy0; have uz1 := At.lt A5.out 1 rfl; have uy1 := Nat.lt_succ_of_lt uz1; have ux1 := Nat.lt_succ_of_lt uy1; have uz2 := At.lt A5.out 2 rfl; have uy2 := Nat.lt_succ_of_lt uz2; have ux2 := Nat.lt_succ_of_lt uy2; have P5 := Lib.hid (show PtsAt w5 (.slice so (stencil t a.turn a.scale t.pix.length).length sc) (stencil t a.turn a.scale t.pix.length) from SlAt.of_owns ho5); have E5 := Lib.hid (E2x.out.trans hb5); clear ho5))
  all_goals go_wp2
  all_goals go_ret2
  all_goals exact ⟨by rw [hR.out, HBD.out]; rfl, E6.out⟩
end Go.Proofs.Ytipkjdfnoonpcaa
