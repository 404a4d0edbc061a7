/- Joined from the parts RefPose, RefBound, CheckSpec, SameS, RefCov, RefProv, CheckR. -/
import Derived.Test.YtipkjdfnoonpcaaGC
import Derived.Deep.RegionHeld3
import Derived.Deep.DrawnRows
import Derived.Test.YtipkjdfnoonpcaaGB
set_option linter.unusedVariables false
set_option linter.unusedSimpArgs false
/- The reference's distances: the walks. -/
namespace Go.Proofs.Ytipkjdfnoonpcaa
open Go.RowKit Go.Sort
attribute [local go_sem ↓] Go.wp_at_zero Go.wp_at_succ

set_option maxRecDepth 100000 in
set_option maxHeartbeats 16000000 in
theorem c99 (m : Img) (v : Value) (t : Tpl) (tv : Value) (p : Pose) (k : Nat) (w : World) (hm : m.Camera) (ht : t.Ok) (hv : IntsAt w v m.pix) (htv : IntsAt w tv t.pix) (hk : k < t.pix.length) (h0 : 0 ≤ t.pix.getD k 0) (hp : Posed p.turn p.scale) (hpx : 0 ≤ p.x ∧ p.x ≤ 16) (hpy : 0 ≤ p.y ∧ p.y ≤ 16) :
    Calls Try.prog 99 #[imgVal m v, tplVal t tv, poseVal p, .int .i64 (k : Int)] w fun e w' => e = .returned (.int .i64 (adds m (ptOf t p.turn p.scale k) p.x p.y)) ∧ Ext w w' := by
  have HV := Lib.hid hv
  have HTV := Lib.hid htv
  have HM := Lib.hid hm
  have HT := Lib.hid ht
  obtain ⟨mo, mc, rfl, -, -⟩ := hv.form
  obtain ⟨to, tc, rfl, -, hc⟩ := htv.form
  obtain ⟨b, off, rfl, c0⟩ := hc k hk
  obtain ⟨x, hx⟩ : ∃ x, t.pix.getD k 0 = x := ⟨_, rfl⟩
  rw [hx] at c0 h0
  have xb : x ≤ 255 := hx ▸ (Tpl.pix_bd ht hk).2
  have zc := World.block_lt_of_cell? _ _ c0
  simp only at zc
  obtain ⟨pb, pb2⟩ := tplace_bd ht hk
  obtain ⟨n1, n2⟩ := Tpl.len_bd ht
  have hkli : (k : Int) < (t.pix.length : Int) := by omega
  obtain ⟨o1, o2, o3, o4⟩ := off_in ht hp hk
  have K62 := Lib.hid (fun w' (h : Ext w w') => c62 t _ p.turn p.scale ((k : Int) % t.w) ((k : Int) / t.w) w' ⟨HT.out.1.1, HT.out.1.2.1⟩ (HTV.out.ext h) hp pb pb2)
  obtain ⟨OX, hox⟩ : ∃ x, offX t p.turn p.scale ((k : Int) % t.w) ((k : Int) / t.w) = x := ⟨_, rfl⟩
  obtain ⟨OY, hoy⟩ : ∃ x, offY t p.turn p.scale ((k : Int) % t.w) ((k : Int) / t.w) = x := ⟨_, rfl⟩
  unfold ptOf at o1 o2 o3 o4
  dsimp only at o1 o2 o3 o4
  rw [hox, hoy] at K62
  rw [hox] at o1 o2
  rw [hoy] at o3 o4
  have HR := Lib.hid (show adds m (ptOf t p.turn p.scale k) p.x p.y = if m.In (p.x + OX) (p.y + OY) then max (x - m.at (p.x + OX) (p.y + OY)) (-(x - m.at (p.x + OX) (p.y + OY))) else 255 from by unfold adds ptOf; dsimp only; rw [hox, hoy, hx])
  obtain ⟨qx, hqx⟩ : ∃ px, (k : Int) % t.w = px := ⟨_, rfl⟩
  obtain ⟨qy, hqy⟩ : ∃ py, (k : Int) / t.w = py := ⟨_, rfl⟩
  rw [hqx, hqy] at K62
  rw [hqx] at pb
  rw [hqy] at pb2
  obtain ⟨⟨⟨t1, t2⟩, ⟨t3, t4⟩, -⟩, -⟩ := ht
  obtain ⟨p1, p2⟩ := hpx
  obtain ⟨p3, p4⟩ := hpy
  have hrem : (k : Int).tmod t.w = qx := by rw [Int.tmod_eq_emod_of_nonneg (by omega)]; exact hqx
  have hquo : (k : Int).tdiv t.w = qy := by rw [Int.tdiv_eq_ediv_of_nonneg (by omega)]; exact hqy
  have hwq : IntKind.i64.wrap qy = qy := IntWalk.i64_in _ (by omega)
  have htw : (t.w == 0) = false := by simp; omega
  have K98 := Lib.hid (fun w' => c98 m (.slice mo m.pix.length mc) (p.x + OX) (p.y + OY) w' hm.1)
  have K48 := Lib.hid (fun (hi : m.In (p.x + OX) (p.y + OY)) w' (h : Ext w w') => c48 m _ (p.x + OX) (p.y + OY) w' HM.out.1 hi (HV.out.ext h))
  have ka : IntKind.i64.wrap (p.x + OX) = p.x + OX := IntWalk.i64_in _ (by omega)
  have kb : IntKind.i64.wrap (p.y + OY) = p.y + OY := IntWalk.i64_in _ (by omega)
  unfold imgVal tplVal poseVal at *
  clear hv htv hm hc hx hox hoy hqx hqy pb pb2 hp
  go_enter Try.func99, Try.ntmps99
  go_wp2
  refine wp_region_quiet_below (by kernel_rfl) (by kernel_rfl) ?_
  repeat (go_big_quiet_step ((go_at_call 62; with_reducible exact Calls.ext_of (K62.out _ (by repeat (first | exact Ext.refl _ | assumption | refine Ext.alloc ?_ _ | refine Ext.drewN ?_ _ | refine ext_grow ?_ _ _ | refine Ext.trans ?_ (by assumption)))))))
  refine wpQuiet_nil ?_
  intro w7 hw'
  obtain ⟨pq, hw''⟩ := hw'
  have hbw7 := ext_of_regrown hw''
  clear hw'' pq
  clear hrem hquo hwq
  have A7 := Lib.hid (show At w7 [(w.heap.size + 1 + 1, Obj.cells #[.int .i64 p.x, .int .i64 p.y, .int .i64 p.turn, .int .i64 p.scale] 45), (w.heap.size + 1, Obj.cells #[.int .i64 t.w, .int .i64 t.h, .slice (some ⟨b, off, none⟩) t.pix.length tc] 43), (w.heap.size, Obj.cells #[.int .i64 m.w, .int .i64 m.h, .slice mo m.pix.length mc] 24)] from At.ext hbw7 ⟨(by repeat (first | (refine blk_at _ _ ?_; (first | rfl | (simp only [size_one]; done))) | refine (blk_past _ _ (by simp only [size_one]; omega)).trans ?_)), (by repeat (first | (refine blk_at _ _ ?_; (first | rfl | (simp only [size_one]; done))) | refine (blk_past _ _ (by simp only [size_one]; omega)).trans ?_)), (by repeat (first | (refine blk_at _ _ ?_; (first | rfl | (simp only [size_one]; done))) | refine (blk_past _ _ (by simp only [size_one]; omega)).trans ?_)), trivial⟩)
  have E7 := Lib.hid (show Ext w w7 from (by repeat (first | exact Ext.refl _ | assumption | refine Ext.alloc ?_ _ | refine Ext.drewN ?_ _ | refine ext_grow ?_ _ _ | refine Ext.trans ?_ (by assumption))))
  obtain ⟨⟨x00, x01, x02, x03⟩, -⟩ := run_4 (At.at A7.out 0 rfl)
  obtain ⟨⟨x10, x11, x12⟩, -⟩ := run_3 (At.at A7.out 1 rfl)
  obtain ⟨⟨x20, x21, x22⟩, -⟩ := run_3 (At.at A7.out 2 rfl)
  have xz0 := At.lt A7.out 0 rfl
  have xy0 := Nat.lt_succ_of_lt xz0
  have xx0 := Nat.lt_succ_of_lt xy0
  have xz1 := At.lt A7.out 1 rfl
  have xy1 := Nat.lt_succ_of_lt xz1
  have xx1 := Nat.lt_succ_of_lt xy1
  have xz2 := At.lt A7.out 2 rfl
  have xy2 := Nat.lt_succ_of_lt xz2
  have xx2 := Nat.lt_succ_of_lt xy2
  have c7 := E7.out.get c0
  have z7 := World.block_lt_of_cell? _ _ c7
  simp only at z7
  by_cases hin : m.In (p.x + OX) (p.y + OY)
  case neg =>
    have q1 : decide (m.In (p.x + OX) (p.y + OY)) = false := decide_eq_false hin
    have HRN := Lib.hid (HR.out.trans (if_neg hin))
    rw [q1] at K98
    clear hin q1 HR K48
    go_wp2_with (go_at_call 98; (with_reducible refine (K98.out _).mono ?_); rintro E w8 ⟨rfl, hb8⟩; have A8 := Lib.hid (show At w8 [(w.heap.size + 1 + 1, Obj.cells #[.int .i64 p.x, .int .i64 p.y, .int .i64 p.turn, .int .i64 p.scale] 45), (w.heap.size + 1, Obj.cells #[.int .i64 t.w, .int .i64 t.h, .slice (some ⟨b, off, none⟩) t.pix.length tc] 43), (w.heap.size, Obj.cells #[.int .i64 m.w, .int .i64 m.h, .slice mo m.pix.length mc] 24)] from At.ext hb8 A7.out); have E8 := Lib.hid (E7.out.trans hb8); obtain ⟨⟨y00, y01, y02, y03⟩, -⟩ := run_4 (At.at A8.out 0 rfl); obtain ⟨⟨y10, y11, y12⟩, -⟩ := run_3 (At.at A8.out 1 rfl); obtain ⟨⟨y20, y21, y22⟩, -⟩ := run_3 (At.at A8.out 2 rfl); have yz0 := At.lt A8.out 0 rfl; have yy0 := Nat.lt_succ_of_lt yz0; have yx0 := Nat.lt_succ_of_lt yy0; have yz1 := At.lt A8.out 1 rfl; have yy1 := Nat.lt_succ_of_lt yz1; have yx1 := Nat.lt_succ_of_lt yy1; have yz2 := At.lt A8.out 2 rfl; have yy2 := Nat.lt_succ_of_lt yz2; have yx2 := Nat.lt_succ_of_lt yy2; have c8 := hb8.get c7; have z8 := World.block_lt_of_cell? _ _ c8; simp only at z8)
    go_ret
    exact ⟨ret_int HRN.out.symm, E8.out⟩
  have q1 : decide (m.In (p.x + OX) (p.y + OY)) = true := decide_eq_true hin
  have HRY := Lib.hid (HR.out.trans (if_pos hin))
  rw [q1] at K98
  replace K48 := Lib.hid (K48.out hin)
  obtain ⟨r1, r2⟩ := Img.at_bd HM.out hin
  obtain ⟨r, hr⟩ : ∃ r, m.at (p.x + OX) (p.y + OY) = r := ⟨_, rfl⟩
  rw [hr] at K48 HRY r1 r2
  obtain ⟨ab, hab⟩ : ∃ ab, max (x - r) (-(x - r)) = ab := ⟨_, rfl⟩
  rw [hab] at HRY
  have m1 : (if x - r < -(x - r) then -(x - r) else x - r) = ab := by rw [← hab]; split <;> omega
  clear hin q1 HR hr hab
  go_wp2_with (go_at_call 98; (with_reducible refine (K98.out _).mono ?_); rintro E w8 ⟨rfl, hb8⟩; have A8 := Lib.hid (show At w8 [(w.heap.size + 1 + 1, Obj.cells #[.int .i64 p.x, .int .i64 p.y, .int .i64 p.turn, .int .i64 p.scale] 45), (w.heap.size + 1, Obj.cells #[.int .i64 t.w, .int .i64 t.h, .slice (some ⟨b, off, none⟩) t.pix.length tc] 43), (w.heap.size, Obj.cells #[.int .i64 m.w, .int .i64 m.h, .slice mo m.pix.length mc] 24)] from At.ext hb8 A7.out); have E8 := Lib.hid (E7.out.trans hb8); obtain ⟨⟨y00, y01, y02, y03⟩, -⟩ := run_4 (At.at A8.out 0 rfl); obtain ⟨⟨y10, y11, y12⟩, -⟩ := run_3 (At.at A8.out 1 rfl); obtain ⟨⟨y20, y21, y22⟩, -⟩ := run_3 (At.at A8.out 2 rfl); have yz0 := At.lt A8.out 0 rfl; have yy0 := Nat.lt_succ_of_lt yz0; have yx0 := Nat.lt_succ_of_lt yy0; have yz1 := At.lt A8.out 1 rfl; have yy1 := Nat.lt_succ_of_lt yz1; have yx1 := Nat.lt_succ_of_lt yy1; have yz2 := At.lt A8.out 2 rfl; have yy2 := Nat.lt_succ_of_lt yz2; have yx2 := Nat.lt_succ_of_lt yy2; have c8 := hb8.get c7; have z8 := World.block_lt_of_cell? _ _ c8; simp only at z8)
  refine wp_region_quiet_below (by kernel_rfl) (by kernel_rfl) ?_
  repeat (go_big_quiet_step ((go_at_call 48; with_reducible exact Calls.ext_of (K48.out _ (E8.out.trans (by repeat (first | exact Ext.refl _ | assumption | refine Ext.alloc ?_ _ | refine Ext.drewN ?_ _ | refine ext_grow ?_ _ _ | refine Ext.trans ?_ (by assumption))))))))
  refine wpQuiet_nil ?_
  intro w9 hw'
  obtain ⟨pq, hw''⟩ := hw'
  have hbw9 := ext_of_regrown hw''
  clear hw'' pq
  clear ka kb
  go_wp2
  go_ret
  exact ⟨ret_int HRY.out.symm, E8.out.trans hbw9⟩
theorem sum_yes {f : Pt → Int} {t : Tpl} {turn scale : Int} {k : Nat} (h : 0 ≤ t.pix.getD k 0) : sumL f (stencil t turn scale (k + 1)) = sumL f (stencil t turn scale k) + f (ptOf t turn scale k) := by
  rw [stencil, if_pos h, sumL_snoc]
theorem sum_no {f : Pt → Int} {t : Tpl} {turn scale : Int} {k : Nat} (h : t.pix.getD k 0 < 0) : sumL f (stencil t turn scale (k + 1)) = sumL f (stencil t turn scale k) := by
  rw [stencil, if_neg (by omega)]
theorem ptOf_v {t : Tpl} (ht : t.Ok) {turn scale : Int} {k : Nat} (hk : k < t.pix.length) (h : 0 ≤ t.pix.getD k 0) : 0 ≤ (ptOf t turn scale k).v ∧ (ptOf t turn scale k).v ≤ 255 := ⟨h, (Tpl.pix_bd ht hk).2⟩
theorem least_one {m : Img} {q : Pt} (hm : m.Camera) (hq : 0 ≤ q.v ∧ q.v ≤ 255) (x y : Int) : least m q x y x y = adds m q x y := by
  refine eq_of_le_iff fun c => ?_
  by_cases hc : c ≤ 255
  case neg =>
    have h1 := least_le m q x y x y
    have h2 := (adds_bd hm hq x y).2
    constructor <;> intro h9 <;> omega
  rw [le_least hc]
  constructor
  · intro h
    exact h y (by omega) (by omega) x (by omega) (by omega)
  · intro h Y h1 h2 X h3 h4
    rw [show Y = y by omega, show X = x by omega]
    exact h
theorem sumL_congr {f g : Pt → Int} {l : List Pt} (h : ∀ p ∈ l, f p = g p) : sumL f l = sumL g l := by
  have gen : ∀ (l : List Pt) (s : Int), (∀ p ∈ l, f p = g p) → l.foldl (fun s p => s + f p) s = l.foldl (fun s p => s + g p) s := by
    intro l
    induction l with
    | nil => intro s _; rfl
    | cons p l ih =>
      intro s h
      simp only [List.foldl_cons]
      rw [h p (by simp)]
      exact ih _ fun q hq => h q (by simp [hq])
  exact gen l 0 h
theorem far_bound {m : Img} {t : Tpl} (hm : m.Camera) (ht : t.Ok) (p : Pose) : sumL (fun q => adds m q p.x p.y) (stencil t p.turn p.scale t.pix.length) = bound m t p.area := by
  unfold bound Pose.area
  dsimp only
  exact sumL_congr fun q hq => (least_one hm (stencil_v ht hq) _ _).symm
set_option maxRecDepth 100000 in
set_option maxHeartbeats 16000000 in
theorem c66 (m : Img) (v : Value) (t : Tpl) (tv : Value) (p : Pose) (w : World) (hm : m.Camera) (ht : t.Ok) (hv : IntsAt w v m.pix) (htv : IntsAt w tv t.pix) (ha : p.area.Ok m) :
    Calls Try.prog 66 #[imgVal m v, tplVal t tv, poseVal p] w fun e w' => e = .returned (.int .i64 (bound m t p.area)) ∧ Ext w w' := by
  rw [← far_bound hm ht]
  have HV := Lib.hid hv
  have HTV := Lib.hid htv
  have HM := Lib.hid hm
  have HT := Lib.hid ht
  have HA := Lib.hid ha
  obtain ⟨mo, mc, rfl, -, -⟩ := hv.form
  obtain ⟨to, tc, rfl, -, hc⟩ := htv.form
  have HC := Lib.hid hc
  obtain ⟨n1, n2⟩ := Tpl.len_bd ht
  have hab := ha.1
  have hab2 := ha.2.1
  obtain ⟨⟨w1, w2⟩, ⟨w3, w4⟩, -⟩ := hm.1
  unfold Pose.area at hab hab2
  dsimp only at hab hab2
  have hpx : 0 ≤ p.x ∧ p.x ≤ 16 := by omega
  have hpy : 0 ≤ p.y ∧ p.y ≤ 16 := by omega
  have HPX := Lib.hid hpx
  have HPY := Lib.hid hpy
  unfold imgVal tplVal poseVal
  clear hv htv hm ht hc ha hab hab2 hpx hpy
  go_enter Try.func66, Try.ntmps66
  go_wp2
  go_loopw [7, 8] (fun sv iv wr => ∃ (k : Nat) (sm : Int), k ≤ t.pix.length ∧ iv = .int .i64 (k : Int) ∧ sv = .int .i64 sm ∧ 0 ≤ sm ∧ sm ≤ 255 * k ∧ Hid (Ext w wr) ∧ Hid (At wr [(w.heap.size + 1 + 1, Obj.cells #[.int .i64 p.x, .int .i64 p.y, .int .i64 p.turn, .int .i64 p.scale] 45), (w.heap.size + 1, Obj.cells #[.int .i64 t.w, .int .i64 t.h, .slice to t.pix.length tc] 43), (w.heap.size, Obj.cells #[.int .i64 m.w, .int .i64 m.h, .slice mo m.pix.length mc] 24)]) ∧ Hid (sumL (fun q => adds m q p.x p.y) (stencil t p.turn p.scale k) = sm)) (fun _ iv _ => t.pix.length - (intOf iv).toNat)
  case atStart => exact ⟨0, 0, by omega, rfl, rfl, by omega, by omega, Lib.hid (by repeat (first | exact Ext.refl _ | assumption | refine Ext.alloc ?_ _ | refine Ext.drewN ?_ _ | refine ext_grow ?_ _ _ | refine Ext.trans ?_ (by assumption))), Lib.hid ⟨(by repeat (first | (refine blk_at _ _ ?_; (first | rfl | (simp only [size_one]; done))) | refine (blk_past _ _ (by simp only [size_one]; omega)).trans ?_)), (by repeat (first | (refine blk_at _ _ ?_; (first | rfl | (simp only [size_one]; done))) | refine (blk_past _ _ (by simp only [size_one]; omega)).trans ?_)), (by repeat (first | (refine blk_at _ _ ?_; (first | rfl | (simp only [size_one]; done))) | refine (blk_past _ _ (by simp only [size_one]; omega)).trans ?_)), trivial⟩, Lib.hid rfl⟩
  case round =>
    obtain ⟨k, sm, hk, rfl, rfl, s1, s2, hE, hA, hSM⟩ := hrel
    obtain ⟨⟨x00, x01, x02, x03⟩, -⟩ := run_4 (At.at hA.out 0 rfl)
    obtain ⟨⟨x10, x11, x12⟩, -⟩ := run_3 (At.at hA.out 1 rfl)
    obtain ⟨⟨x20, x21, x22⟩, -⟩ := run_3 (At.at hA.out 2 rfl)
    have xz0 := At.lt hA.out 0 rfl
    have xy0 := Nat.lt_succ_of_lt xz0
    have xx0 := Nat.lt_succ_of_lt xy0
    have xz1 := At.lt hA.out 1 rfl
    have xy1 := Nat.lt_succ_of_lt xz1
    have xx1 := Nat.lt_succ_of_lt xy1
    have xz2 := At.lt hA.out 2 rfl
    have xy2 := Nat.lt_succ_of_lt xz2
    have xx2 := Nat.lt_succ_of_lt xy2
    by_cases hkl : k < t.pix.length
    · obtain ⟨b, off, rfl, c0⟩ := HC.out k hkl
      have c0 := hE.out.get c0
      have zc := World.block_lt_of_cell? _ _ c0
      simp only at zc
      obtain ⟨x, hx⟩ : ∃ x, t.pix.getD k 0 = x := ⟨_, rfl⟩
      rw [hx] at c0
      have HX := Lib.hid hx
      clear hx
      have hkli : (k : Int) < (t.pix.length : Int) := by omega
      by_cases h0 : 0 ≤ x
      case neg =>
        have h0f : decide (0 ≤ x) = false := decide_eq_false h0
        go_wp2
        go_roundw
        case rel => exact ⟨k + 1, sm, by omega, by go_num, rfl, by omega, by omega, hE, hA, Lib.hid (by rw [sum_no (by rw [HX.out]; omega)]; exact hSM.out)⟩
        case measure => simp [intOf]; omega
      have h0t : decide (0 ≤ x) = true := decide_eq_true h0
      have K99 := Lib.hid (fun w' (h : Ext wr w') => c99 m _ t _ p k w' HM.out HT.out (HV.out.ext (hE.out.trans h)) (HTV.out.ext (hE.out.trans h)) hkl (by rw [HX.out]; exact h0) HA.out.2.2 HPX.out HPY.out)
      obtain ⟨a1, a2⟩ := adds_bd HM.out (ptOf_v HT.out (turn := p.turn) (scale := p.scale) hkl (by rw [HX.out]; exact h0)) p.x p.y
      obtain ⟨ab, hab⟩ : ∃ ab, adds m (ptOf t p.turn p.scale k) p.x p.y = ab := ⟨_, rfl⟩
      rw [hab] at K99 a1 a2
      have HS := Lib.hid (show sumL (fun q => adds m q p.x p.y) (stencil t p.turn p.scale (k + 1)) = sm + ab from by rw [sum_yes (by rw [HX.out]; exact h0), hSM.out, hab])
      unfold imgVal tplVal poseVal at K99
      clear hab
      go_wp2_with (go_at_call 99; (with_reducible refine (K99.out _ (by repeat (first | exact Ext.refl _ | assumption | refine Ext.alloc ?_ _ | refine Ext.drewN ?_ _ | refine ext_grow ?_ _ _ | refine Ext.trans ?_ (by assumption)))).mono ?_); rintro E w7 ⟨rfl, hb7⟩; have A7 := Lib.hid (show At w7 [(w.heap.size + 1 + 1, Obj.cells #[.int .i64 p.x, .int .i64 p.y, .int .i64 p.turn, .int .i64 p.scale] 45), (w.heap.size + 1, Obj.cells #[.int .i64 t.w, .int .i64 t.h, .slice (some ⟨b, off, none⟩) t.pix.length tc] 43), (w.heap.size, Obj.cells #[.int .i64 m.w, .int .i64 m.h, .slice mo m.pix.length mc] 24)] from At.ext hb7 hA.out); have E7 := Lib.hid (hE.out.trans hb7); obtain ⟨⟨y00, y01, y02, y03⟩, -⟩ := run_4 (At.at A7.out 0 rfl); obtain ⟨⟨y10, y11, y12⟩, -⟩ := run_3 (At.at A7.out 1 rfl); obtain ⟨⟨y20, y21, y22⟩, -⟩ := run_3 (At.at A7.out 2 rfl); have yz0 := At.lt A7.out 0 rfl; have yy0 := Nat.lt_succ_of_lt yz0; have yx0 := Nat.lt_succ_of_lt yy0; have yz1 := At.lt A7.out 1 rfl; have yy1 := Nat.lt_succ_of_lt yz1; have yx1 := Nat.lt_succ_of_lt yy1; have yz2 := At.lt A7.out 2 rfl; have yy2 := Nat.lt_succ_of_lt yz2; have yx2 := Nat.lt_succ_of_lt yy2)
      go_roundw
      case rel => exact ⟨k + 1, sm + ab, by omega, by go_num, rfl, by omega, by omega, E7, A7, HS⟩
      case measure => simp [intOf]; omega
    · have hkk : k = t.pix.length := by omega
      have HF := Lib.hid (show sumL (fun q => adds m q p.x p.y) (stencil t p.turn p.scale t.pix.length) = sm from by have h9 := hSM.out; rw [hkk] at h9; exact h9)
      clear hkk
      go_wp2
      go_ret
      exact ⟨ret_int HF.out.symm, hE.out⟩
theorem pose_ok {m : Img} {p : Pose} : p.area.Ok m ↔ m.In p.x p.y ∧ Posed p.turn p.scale := by
  unfold Area.Ok Pose.area Img.In
  dsimp only
  constructor
  · rintro ⟨⟨h1, h2, h3⟩, ⟨h4, h5, h6⟩, h7⟩
    exact ⟨⟨⟨h1, h3⟩, h4, h6⟩, h7⟩
  · rintro ⟨⟨⟨h1, h3⟩, h4, h6⟩, h7⟩
    exact ⟨⟨h1, Int.le_refl _, h3⟩, ⟨h4, Int.le_refl _, h6⟩, h7⟩
set_option maxRecDepth 100000 in
set_option maxHeartbeats 8000000 in
theorem c65 (m : Img) (mv : Value) (p : Pose) (w : World) (hm : m.Sized) (hmv : ∃ ao n cap, mv = .slice ao n cap) : Calls Try.prog 65 #[imgVal m mv, poseVal p] w fun e w' => e = .returned (.bool (decide (p.area.Ok m))) ∧ Ext w w' := by
  obtain ⟨mo, mn, mc, rfl⟩ := hmv
  have K98 := Lib.hid (fun w' => c98 m (.slice mo mn mc) p.x p.y w' hm)
  have K60 := Lib.hid (fun w' => c60 p.turn p.scale w')
  unfold imgVal poseVal at *
  by_cases h1 : m.In p.x p.y
  case neg =>
    have q1 : decide (m.In p.x p.y) = false := decide_eq_false h1
    rw [q1] at K98
    have HR := Lib.hid (show decide (p.area.Ok m) = false from decide_eq_false fun h => h1 (pose_ok.1 h).1)
    clear h1 q1 K60
    go_enter Try.func65, Try.ntmps65
    go_wp2_with (go_at_call 98; (with_reducible refine (K98.out _).mono ?_); rintro E w1 ⟨rfl, hb1⟩; have A1 := Lib.hid (show At w1 [(w.heap.size + 1, Obj.cells #[.int .i64 p.x, .int .i64 p.y, .int .i64 p.turn, .int .i64 p.scale] 45), (w.heap.size, Obj.cells #[.int .i64 m.w, .int .i64 m.h, .slice mo mn mc] 24)] from At.ext hb1 ⟨(by repeat (first | (refine blk_at _ _ ?_; (first | rfl | (simp only [size_one]; done))) | refine (blk_past _ _ (by simp only [size_one]; omega)).trans ?_)), (by repeat (first | (refine blk_at _ _ ?_; (first | rfl | (simp only [size_one]; done))) | refine (blk_past _ _ (by simp only [size_one]; omega)).trans ?_)), trivial⟩); obtain ⟨⟨x00, x01, x02, x03⟩, -⟩ := run_4 (At.at A1.out 0 rfl); obtain ⟨⟨x10, x11, x12⟩, -⟩ := run_3 (At.at A1.out 1 rfl); have xz0 := At.lt A1.out 0 rfl; have xy0 := Nat.lt_succ_of_lt xz0; have xx0 := Nat.lt_succ_of_lt xy0; have xz1 := At.lt A1.out 1 rfl; have xy1 := Nat.lt_succ_of_lt xz1; have xx1 := Nat.lt_succ_of_lt xy1)
    go_ret
    exact ⟨ret_bool HR.out.symm, (by repeat (first | exact Ext.refl _ | assumption | refine Ext.alloc ?_ _ | refine Ext.drewN ?_ _ | refine ext_grow ?_ _ _ | refine Ext.trans ?_ (by assumption)))⟩
  have q1 : decide (m.In p.x p.y) = true := decide_eq_true h1
  rw [q1] at K98
  obtain ⟨c, hc⟩ : ∃ c, decide (Posed p.turn p.scale) = c := ⟨_, rfl⟩
  rw [hc] at K60
  have HR := Lib.hid (show c = decide (p.area.Ok m) from by rw [← hc]; exact decide_eq_decide.2 ⟨fun h => pose_ok.2 ⟨h1, h⟩, fun h => (pose_ok.1 h).2⟩)
  clear h1 q1 hc
  go_enter Try.func65, Try.ntmps65
  go_wp2_with (first | (go_at_call 98; (with_reducible refine (K98.out _).mono ?_); rintro E w1 ⟨rfl, hb1⟩; have A1 := Lib.hid (show At w1 [(w.heap.size + 1, Obj.cells #[.int .i64 p.x, .int .i64 p.y, .int .i64 p.turn, .int .i64 p.scale] 45), (w.heap.size, Obj.cells #[.int .i64 m.w, .int .i64 m.h, .slice mo mn mc] 24)] from At.ext hb1 ⟨(by repeat (first | (refine blk_at _ _ ?_; (first | rfl | (simp only [size_one]; done))) | refine (blk_past _ _ (by simp only [size_one]; omega)).trans ?_)), (by repeat (first | (refine blk_at _ _ ?_; (first | rfl | (simp only [size_one]; done))) | refine (blk_past _ _ (by simp only [size_one]; omega)).trans ?_)), trivial⟩); obtain ⟨⟨x00, x01, x02, x03⟩, -⟩ := run_4 (At.at A1.out 0 rfl); obtain ⟨⟨x10, x11, x12⟩, -⟩ := run_3 (At.at A1.out 1 rfl); have xz0 := At.lt A1.out 0 rfl; have xy0 := Nat.lt_succ_of_lt xz0; have xx0 := Nat.lt_succ_of_lt xy0; have xz1 := At.lt A1.out 1 rfl; have xy1 := Nat.lt_succ_of_lt xz1; have xx1 := Nat.lt_succ_of_lt xy1) | (go_at_call 60; (with_reducible refine (K60.out _).mono ?_); rintro E w8 ⟨rfl, hb8⟩))
  go_ret
  exact ⟨ret_bool HR.out, (by repeat (first | exact Ext.refl _ | assumption | refine Ext.alloc ?_ _ | refine Ext.drewN ?_ _ | refine ext_grow ?_ _ _ | refine Ext.trans ?_ (by assumption)))⟩
set_option maxRecDepth 100000 in
set_option maxHeartbeats 16000000 in
theorem c27 (m : Img) (mv : Value) (t : Tpl) (tv : Value) (p : Pose) (w : World) (hm : IntsAt w mv m.pix) (hml : m.pix.length ≤ maxLen) (ht : IntsAt w tv t.pix) (htl : t.pix.length ≤ maxLen) :
    Calls Try.prog 27 #[imgVal m mv, tplVal t tv, poseVal p] w fun e w' => e = .returned (.tuple #[.int .i64 (boundR m t p.area).1, .int .i64 (boundR m t p.area).2]) ∧ Ext w w' := by
  have HMV := Lib.hid hm
  have HTV := Lib.hid ht
  obtain ⟨mo, mc, rfl, -, -⟩ := hm.form
  obtain ⟨to, tc, rfl, -, -⟩ := ht.form
  have K63 := Lib.hid (fun w' => c63 p w')
  have K29 := Lib.hid (fun w' (h : Ext w w') => c29 m _ t _ p.area w' (HMV.out.ext h) hml (HTV.out.ext h) htl)
  obtain ⟨r1, hr1⟩ : ∃ r, (boundR m t p.area).1 = r := ⟨_, rfl⟩
  obtain ⟨r2, hr2⟩ : ∃ r, (boundR m t p.area).2 = r := ⟨_, rfl⟩
  rw [hr1, hr2] at K29 ⊢
  unfold imgVal tplVal poseVal areaVal at *
  clear hm ht hml htl hr1 hr2
  go_enter Try.func27, Try.ntmps27
  go_wp2
  refine wp_region_quiet_below (by kernel_rfl) (by kernel_rfl) ?_
  repeat (go_big_quiet_step ((first | (go_at_call 63; with_reducible exact Calls.ext_of (K63.out _)) | (go_at_call 29; with_reducible exact Calls.ext_of (K29.out _ (by repeat (first | exact Ext.refl _ | assumption | refine Ext.alloc ?_ _ | refine Ext.drewN ?_ _ | refine ext_grow ?_ _ _ | refine Ext.trans ?_ (by assumption))))))))
  refine wpQuiet_nil ?_
  intro w9 hw'
  obtain ⟨pq, hw''⟩ := hw'
  have hbw9 := ext_of_regrown hw''
  clear hw'' pq
  go_wp2
  go_ret2
  exact ⟨rfl, (by repeat (first | exact Ext.refl _ | assumption | refine Ext.alloc ?_ _ | refine Ext.drewN ?_ _ | refine ext_grow ?_ _ _ | refine Ext.trans ?_ (by assumption)))⟩
end Go.Proofs.Ytipkjdfnoonpcaa

/- The reference's bounds: the walks. -/
namespace Go.Proofs.Ytipkjdfnoonpcaa
open Go.RowKit Go.Sort
attribute [local go_sem ↓] Go.wp_at_zero Go.wp_at_succ

set_option maxRecDepth 100000 in
set_option maxHeartbeats 16000000 in
theorem c71 (m : Img) (mv : Value) (a : Area) (w : World) (hm : m.Sized) (hmv : ∃ ao n cap, mv = .slice ao n cap) : Calls Try.prog 71 #[imgVal m mv, areaVal a] w fun e w' => e = .returned (.bool (decide (a.Ok m))) ∧ Ext w w' := by
  obtain ⟨mo, mn, mc, rfl⟩ := hmv
  obtain ⟨⟨w1, w2⟩, ⟨w3, w4⟩, -⟩ := hm
  unfold imgVal areaVal
  by_cases h0 : 0 ≤ a.x0
  case neg =>
    have q0 : decide (0 ≤ a.x0) = false := decide_eq_false h0
    have HR := Lib.hid (show decide (a.Ok m) = false from decide_eq_false fun h => h0 h.1.1)
    go_enter Try.func71, Try.ntmps71
    go_wp2
    go_ret
    exact ⟨ret_bool HR.out.symm, (by repeat (first | exact Ext.refl _ | assumption | refine Ext.alloc ?_ _ | refine Ext.drewN ?_ _ | refine ext_grow ?_ _ _ | refine Ext.trans ?_ (by assumption)))⟩
  have q0 : decide (0 ≤ a.x0) = true := decide_eq_true h0
  by_cases h1 : a.x0 ≤ a.x1
  case neg =>
    have q1 : decide (a.x0 ≤ a.x1) = false := decide_eq_false h1
    have HR := Lib.hid (show decide (a.Ok m) = false from decide_eq_false fun h => h1 h.1.2.1)
    go_enter Try.func71, Try.ntmps71
    go_wp2
    go_ret
    exact ⟨ret_bool HR.out.symm, (by repeat (first | exact Ext.refl _ | assumption | refine Ext.alloc ?_ _ | refine Ext.drewN ?_ _ | refine ext_grow ?_ _ _ | refine Ext.trans ?_ (by assumption)))⟩
  have q1 : decide (a.x0 ≤ a.x1) = true := decide_eq_true h1
  by_cases h2 : a.x1 ≤ m.w - 1
  case neg =>
    have q2 : decide (a.x1 ≤ m.w - 1) = false := decide_eq_false h2
    have HR := Lib.hid (show decide (a.Ok m) = false from decide_eq_false fun h => h2 h.1.2.2)
    go_enter Try.func71, Try.ntmps71
    go_wp2
    go_ret
    exact ⟨ret_bool HR.out.symm, (by repeat (first | exact Ext.refl _ | assumption | refine Ext.alloc ?_ _ | refine Ext.drewN ?_ _ | refine ext_grow ?_ _ _ | refine Ext.trans ?_ (by assumption)))⟩
  have q2 : decide (a.x1 ≤ m.w - 1) = true := decide_eq_true h2
  by_cases h3 : 0 ≤ a.y0
  case neg =>
    have q3 : decide (0 ≤ a.y0) = false := decide_eq_false h3
    have HR := Lib.hid (show decide (a.Ok m) = false from decide_eq_false fun h => h3 h.2.1.1)
    go_enter Try.func71, Try.ntmps71
    go_wp2
    go_ret
    exact ⟨ret_bool HR.out.symm, (by repeat (first | exact Ext.refl _ | assumption | refine Ext.alloc ?_ _ | refine Ext.drewN ?_ _ | refine ext_grow ?_ _ _ | refine Ext.trans ?_ (by assumption)))⟩
  have q3 : decide (0 ≤ a.y0) = true := decide_eq_true h3
  by_cases h4 : a.y0 ≤ a.y1
  case neg =>
    have q4 : decide (a.y0 ≤ a.y1) = false := decide_eq_false h4
    have HR := Lib.hid (show decide (a.Ok m) = false from decide_eq_false fun h => h4 h.2.1.2.1)
    go_enter Try.func71, Try.ntmps71
    go_wp2
    go_ret
    exact ⟨ret_bool HR.out.symm, (by repeat (first | exact Ext.refl _ | assumption | refine Ext.alloc ?_ _ | refine Ext.drewN ?_ _ | refine ext_grow ?_ _ _ | refine Ext.trans ?_ (by assumption)))⟩
  have q4 : decide (a.y0 ≤ a.y1) = true := decide_eq_true h4
  by_cases h5 : a.y1 ≤ m.h - 1
  case neg =>
    have q5 : decide (a.y1 ≤ m.h - 1) = false := decide_eq_false h5
    have HR := Lib.hid (show decide (a.Ok m) = false from decide_eq_false fun h => h5 h.2.1.2.2)
    go_enter Try.func71, Try.ntmps71
    go_wp2
    go_ret
    exact ⟨ret_bool HR.out.symm, (by repeat (first | exact Ext.refl _ | assumption | refine Ext.alloc ?_ _ | refine Ext.drewN ?_ _ | refine ext_grow ?_ _ _ | refine Ext.trans ?_ (by assumption)))⟩
  have q5 : decide (a.y1 ≤ m.h - 1) = true := decide_eq_true h5
  have K60 := Lib.hid (fun w' => c60 a.turn a.scale w')
  obtain ⟨c, hc⟩ : ∃ c, decide (Posed a.turn a.scale) = c := ⟨_, rfl⟩
  rw [hc] at K60
  have HR := Lib.hid (show c = decide (a.Ok m) from by rw [← hc]; exact decide_eq_decide.2 ⟨fun h => ⟨⟨h0, h1, h2⟩, ⟨h3, h4, h5⟩, h⟩, fun h => h.2.2⟩)
  clear hc
  go_enter Try.func71, Try.ntmps71
  go_wp2_with (go_at_call 60; (with_reducible refine (K60.out _).mono ?_); rintro E w8 ⟨rfl, hb8⟩)
  go_ret
  exact ⟨ret_bool HR.out, (by repeat (first | exact Ext.refl _ | assumption | refine Ext.alloc ?_ _ | refine Ext.drewN ?_ _ | refine ext_grow ?_ _ _ | refine Ext.trans ?_ (by assumption)))⟩
theorem clip_least {m : Img} {q : Pt} {x0 y0 x1 y1 y ln : Int} (hy2 : y1 < y) (hy3 : y ≤ y1 + 1 ∨ y ≤ y0) (h : Clip (adds m q) x0 x1 y0 y x0 ln) : ln = least m q x0 y0 x1 y1 := by
  refine eq_of_le_iff fun c => ?_
  by_cases hc : c ≤ 255
  case neg =>
    have k1 := ((h ln).1 (Int.le_refl _)).1
    have k2 := least_le m q x0 y0 x1 y1
    constructor <;> intro h9 <;> omega
  rw [le_least hc, h c]
  constructor
  · rintro ⟨_, k, _⟩ y' j1 j2 x' i1 i2
    exact k y' j1 (by omega) x' i1 i2
  · intro k
    exact ⟨hc, fun Y j1 j2 X i1 i2 => k Y j1 (by omega) X i1 i2, fun X j1 j2 => by omega⟩
set_option maxRecDepth 100000 in
set_option maxHeartbeats 16000000 in
theorem c72 (m : Img) (v : Value) (t : Tpl) (tv : Value) (a : Area) (w : World) (hm : m.Camera) (ht : t.Ok) (hv : IntsAt w v m.pix) (htv : IntsAt w tv t.pix) (ha : a.Ok m) :
    Calls Try.prog 72 #[imgVal m v, tplVal t tv, areaVal a] w fun e w' => e = .returned (.int .i64 (bound m t a)) ∧ Ext w w' := by
  have HV := Lib.hid hv
  have HTV := Lib.hid htv
  have HM := Lib.hid hm
  have HT := Lib.hid ht
  obtain ⟨mo, mc, rfl, -, -⟩ := hv.form
  obtain ⟨to, tc, rfl, -, hc⟩ := htv.form
  have HC := Lib.hid hc
  obtain ⟨n1, n2⟩ := Tpl.len_bd ht
  obtain ⟨⟨a1, a2, a3⟩, ⟨a4, a5, a6⟩, ha7⟩ := ha
  have HA := Lib.hid ha7
  obtain ⟨⟨w1, w2⟩, ⟨w3, w4⟩, -⟩ := hm.1
  unfold imgVal tplVal areaVal bound
  clear hv htv hm ht hc ha7
  go_enter Try.func72, Try.ntmps72
  go_wp2
  go_loopw [7, 8] (fun sv iv wr => ∃ (k : Nat) (sm : Int), k ≤ t.pix.length ∧ iv = .int .i64 (k : Int) ∧ sv = .int .i64 sm ∧ 0 ≤ sm ∧ sm ≤ 255 * k ∧ Hid (Ext w wr) ∧ Hid (At wr [(w.heap.size + 1 + 1, Obj.cells #[.int .i64 a.x0, .int .i64 a.y0, .int .i64 a.x1, .int .i64 a.y1, .int .i64 a.turn, .int .i64 a.scale] 47), (w.heap.size + 1, Obj.cells #[.int .i64 t.w, .int .i64 t.h, .slice to t.pix.length tc] 43), (w.heap.size, Obj.cells #[.int .i64 m.w, .int .i64 m.h, .slice mo m.pix.length mc] 24)]) ∧ Hid (sumL (fun p => least m p a.x0 a.y0 a.x1 a.y1) (stencil t a.turn a.scale k) = sm)) (fun _ iv _ => t.pix.length - (intOf iv).toNat)
  case atStart => exact ⟨0, 0, by omega, rfl, rfl, by omega, by omega, Lib.hid (by repeat (first | exact Ext.refl _ | assumption | refine Ext.alloc ?_ _ | refine Ext.drewN ?_ _ | refine ext_grow ?_ _ _ | refine Ext.trans ?_ (by assumption))), Lib.hid ⟨(by repeat (first | (refine blk_at _ _ ?_; (first | rfl | (simp only [size_one]; done))) | refine (blk_past _ _ (by simp only [size_one]; omega)).trans ?_)), (by repeat (first | (refine blk_at _ _ ?_; (first | rfl | (simp only [size_one]; done))) | refine (blk_past _ _ (by simp only [size_one]; omega)).trans ?_)), (by repeat (first | (refine blk_at _ _ ?_; (first | rfl | (simp only [size_one]; done))) | refine (blk_past _ _ (by simp only [size_one]; omega)).trans ?_)), trivial⟩, Lib.hid rfl⟩
  case round =>
    obtain ⟨k, sm, hk, rfl, rfl, s1, s2, hE, hA, hSM⟩ := hrel
    obtain ⟨⟨v00, v01, v02, v03, v04, v05⟩, -⟩ := run_6 (At.at hA.out 0 rfl)
    obtain ⟨⟨v10, v11, v12⟩, -⟩ := run_3 (At.at hA.out 1 rfl)
    obtain ⟨⟨v20, v21, v22⟩, -⟩ := run_3 (At.at hA.out 2 rfl)
    have vz0 := At.lt hA.out 0 rfl
    have vy0 := Nat.lt_succ_of_lt vz0
    have vx0 := Nat.lt_succ_of_lt vy0
    have vz1 := At.lt hA.out 1 rfl
    have vy1 := Nat.lt_succ_of_lt vz1
    have vx1 := Nat.lt_succ_of_lt vy1
    have vz2 := At.lt hA.out 2 rfl
    have vy2 := Nat.lt_succ_of_lt vz2
    have vx2 := Nat.lt_succ_of_lt vy2
    have HSM := hSM
    by_cases hkl : k < t.pix.length
    · obtain ⟨b, off, rfl, c0⟩ := HC.out k hkl
      have c0 := hE.out.get c0
      have zc := World.block_lt_of_cell? _ _ c0
      simp only at zc
      obtain ⟨x, hx⟩ : ∃ x, t.pix.getD k 0 = x := ⟨_, rfl⟩
      rw [hx] at c0
      have HX := Lib.hid hx
      clear hx
      have hkli : (k : Int) < (t.pix.length : Int) := by omega
      by_cases h0 : 0 ≤ x
      case neg =>
        have h0f : decide (x < 0) = true := decide_eq_true (by omega)
        go_wp2
        go_roundw
        case rel => exact ⟨k + 1, sm, by omega, by go_num, rfl, by omega, by omega, hE, hA, Lib.hid (by rw [sum_no (by rw [HX.out]; omega)]; exact hSM.out)⟩
        case measure => simp [intOf]; omega
      have h0t : decide (x < 0) = false := decide_eq_false (by omega)
      have H0 := Lib.hid (show 0 ≤ t.pix.getD k 0 by rw [HX.out]; exact h0)
      have HQV := Lib.hid (ptOf_v HT.out (turn := a.turn) (scale := a.scale) hkl H0.out)
      obtain ⟨q, hq⟩ : ∃ q, ptOf t a.turn a.scale k = q := ⟨_, rfl⟩
      rw [hq] at HQV
      have HQ := Lib.hid hq
      clear hq
      go_wp2
      obtain ⟨wo, hwo⟩ : ∃ wo : World, wo = wr := ⟨_, rfl⟩
      subst hwo
      clear v00 v01 v02 v03 v04 v05 v10 v11 v12 v20 v21 v22 vz0 vy0 vx0 vz1 vy1 vx1 vz2 vy2 vx2
      clear c0 zc
      go_loopw [9, 10] (fun lv yv wr => ∃ y ln : Int, a.y0 ≤ y ∧ y ≤ a.y1 + 1 ∧ yv = .int .i64 y ∧ lv = .int .i64 ln ∧ 0 ≤ ln ∧ ln ≤ 255 ∧ Hid (Ext w wr) ∧ Hid (At wr [(w.heap.size + 1 + 1, Obj.cells #[.int .i64 a.x0, .int .i64 a.y0, .int .i64 a.x1, .int .i64 a.y1, .int .i64 a.turn, .int .i64 a.scale] 47), (w.heap.size + 1, Obj.cells #[.int .i64 t.w, .int .i64 t.h, .slice (some ⟨b, off, none⟩) t.pix.length tc] 43), (w.heap.size, Obj.cells #[.int .i64 m.w, .int .i64 m.h, .slice mo m.pix.length mc] 24)]) ∧ Hid (Clip (adds m q) a.x0 a.x1 a.y0 y a.x0 ln)) (fun _ yv _ => (a.y1 + 1 - intOf yv).toNat)
      case atStart => exact ⟨a.y0, 255, by omega, by omega, rfl, rfl, by omega, by omega, hE, hA, Lib.hid (clip_start _ _ _ _)⟩
      case round =>
        clear hE hA hSM
        obtain ⟨y, ln, hy1, hy2, rfl, rfl, l1, l2, hE, hA, hL⟩ := hrel
        obtain ⟨⟨x00, x01, x02, x03, x04, x05⟩, -⟩ := run_6 (At.at hA.out 0 rfl)
        obtain ⟨⟨x10, x11, x12⟩, -⟩ := run_3 (At.at hA.out 1 rfl)
        obtain ⟨⟨x20, x21, x22⟩, -⟩ := run_3 (At.at hA.out 2 rfl)
        have xz0 := At.lt hA.out 0 rfl
        have xy0 := Nat.lt_succ_of_lt xz0
        have xx0 := Nat.lt_succ_of_lt xy0
        have xz1 := At.lt hA.out 1 rfl
        have xy1 := Nat.lt_succ_of_lt xz1
        have xx1 := Nat.lt_succ_of_lt xy1
        have xz2 := At.lt hA.out 2 rfl
        have xy2 := Nat.lt_succ_of_lt xz2
        have xx2 := Nat.lt_succ_of_lt xy2
        by_cases hyy : y ≤ a.y1
        · go_wp2
          clear x00 x01 x02 x03 x04 x05 x10 x11 x12 x20 x21 x22 xz0 xy0 xx0 xz1 xy1 xx1 xz2 xy2 xx2
          obtain ⟨wp, hwp⟩ : ∃ wp : World, wp = wr := ⟨_, rfl⟩
          subst hwp
          go_loopw [9, 11] (fun lv xv wr => ∃ x ln : Int, a.x0 ≤ x ∧ x ≤ a.x1 + 1 ∧ xv = .int .i64 x ∧ lv = .int .i64 ln ∧ 0 ≤ ln ∧ ln ≤ 255 ∧ Hid (Ext w wr) ∧ Hid (At wr [(w.heap.size + 1 + 1, Obj.cells #[.int .i64 a.x0, .int .i64 a.y0, .int .i64 a.x1, .int .i64 a.y1, .int .i64 a.turn, .int .i64 a.scale] 47), (w.heap.size + 1, Obj.cells #[.int .i64 t.w, .int .i64 t.h, .slice (some ⟨b, off, none⟩) t.pix.length tc] 43), (w.heap.size, Obj.cells #[.int .i64 m.w, .int .i64 m.h, .slice mo m.pix.length mc] 24)]) ∧ Hid (Clip (adds m q) a.x0 a.x1 a.y0 y x ln)) (fun _ xv _ => (a.x1 + 1 - intOf xv).toNat)
          case atStart => exact ⟨a.x0, ln, by omega, by omega, rfl, rfl, l1, l2, hE, hA, hL⟩
          case round =>
            clear hE hA hL l1 l2
            obtain ⟨x, ln, hx1, hx2, rfl, rfl, l1, l2, hE, hA, hL⟩ := hrel
            obtain ⟨⟨x00, x01, x02, x03, x04, x05⟩, -⟩ := run_6 (At.at hA.out 0 rfl)
            obtain ⟨⟨x10, x11, x12⟩, -⟩ := run_3 (At.at hA.out 1 rfl)
            obtain ⟨⟨x20, x21, x22⟩, -⟩ := run_3 (At.at hA.out 2 rfl)
            have xz0 := At.lt hA.out 0 rfl
            have xy0 := Nat.lt_succ_of_lt xz0
            have xx0 := Nat.lt_succ_of_lt xy0
            have xz1 := At.lt hA.out 1 rfl
            have xy1 := Nat.lt_succ_of_lt xz1
            have xx1 := Nat.lt_succ_of_lt xy1
            have xz2 := At.lt hA.out 2 rfl
            have xy2 := Nat.lt_succ_of_lt xz2
            have xx2 := Nat.lt_succ_of_lt xy2
            by_cases hxx : x ≤ a.x1
            · have K99 := Lib.hid (fun w' (h : Ext wr w') => c99 m _ t _ ⟨x, y, a.turn, a.scale⟩ k w' HM.out HT.out (HV.out.ext (hE.out.trans h)) (HTV.out.ext (hE.out.trans h)) hkl H0.out HA.out (show 0 ≤ x ∧ x ≤ 16 by omega) (show 0 ≤ y ∧ y ≤ 16 by omega))
              dsimp only at K99
              rw [HQ.out] at K99
              obtain ⟨a1', a2'⟩ := adds_bd HM.out HQV.out x y
              obtain ⟨ab, hab⟩ : ∃ ab, adds m q x y = ab := ⟨_, rfl⟩
              rw [hab] at K99 a1' a2'
              obtain ⟨l3, hl3⟩ : ∃ l3, min ln ab = l3 := ⟨_, rfl⟩
              have m2 : (if ab < ln then ab else ln) = l3 := by rw [← hl3]; split <;> omega
              have m3 : (if ln < ab then ln else ab) = l3 := by rw [← hl3]; split <;> omega
              have l31 : 0 ≤ l3 := by omega
              have l32 : l3 ≤ 255 := by omega
              have HS := Lib.hid (show Clip (adds m q) a.x0 a.x1 a.y0 y (x + 1) l3 from by
                have := clip_step hx1 hL.out
                rw [hab, hl3] at this
                exact this)
              unfold imgVal tplVal poseVal at K99
              clear hab hl3
              go_wp2_with (go_at_call 99; (with_reducible refine (K99.out _ (by repeat (first | exact Ext.refl _ | assumption | refine Ext.alloc ?_ _ | refine Ext.drewN ?_ _ | refine ext_grow ?_ _ _ | refine Ext.trans ?_ (by assumption)))).mono ?_); rintro E w7 ⟨rfl, hb7⟩; have A7 := Lib.hid (show At w7 [(w.heap.size + 1 + 1, Obj.cells #[.int .i64 a.x0, .int .i64 a.y0, .int .i64 a.x1, .int .i64 a.y1, .int .i64 a.turn, .int .i64 a.scale] 47), (w.heap.size + 1, Obj.cells #[.int .i64 t.w, .int .i64 t.h, .slice (some ⟨b, off, none⟩) t.pix.length tc] 43), (w.heap.size, Obj.cells #[.int .i64 m.w, .int .i64 m.h, .slice mo m.pix.length mc] 24)] from At.ext hb7 hA.out); have E7 := Lib.hid (hE.out.trans hb7); obtain ⟨⟨y00, y01, y02, y03, y04, y05⟩, -⟩ := run_6 (At.at A7.out 0 rfl); obtain ⟨⟨y10, y11, y12⟩, -⟩ := run_3 (At.at A7.out 1 rfl); obtain ⟨⟨y20, y21, y22⟩, -⟩ := run_3 (At.at A7.out 2 rfl); have yz0 := At.lt A7.out 0 rfl; have yy0 := Nat.lt_succ_of_lt yz0; have yx0 := Nat.lt_succ_of_lt yy0; have yz1 := At.lt A7.out 1 rfl; have yy1 := Nat.lt_succ_of_lt yz1; have yx1 := Nat.lt_succ_of_lt yy1; have yz2 := At.lt A7.out 2 rfl; have yy2 := Nat.lt_succ_of_lt yz2; have yx2 := Nat.lt_succ_of_lt yy2)
              go_roundw
              case rel => exact ⟨x + 1, l3, by omega, by omega, rfl, rfl, by omega, by omega, E7, A7, HS⟩
              case measure => simp [intOf]; omega
            · have HS := Lib.hid (show Clip (adds m q) a.x0 a.x1 a.y0 (y + 1) a.x0 ln from clip_row hy1 (by omega) (.inl hx2) hL.out)
              go_wp2
              go_roundw
              case rel => exact ⟨y + 1, ln, by omega, by omega, rfl, rfl, by omega, by omega, hE, hA, HS⟩
              case measure => simp [intOf]; omega
        · have HS := Lib.hid (show sumL (fun p => least m p a.x0 a.y0 a.x1 a.y1) (stencil t a.turn a.scale (k + 1)) = sm + ln from by
            rw [sum_yes H0.out, HSM.out, HQ.out]
            congr 1
            exact (clip_least (by omega) (.inl hy2) hL.out).symm)
          go_wp2
          go_roundw
          case rel => exact ⟨k + 1, sm + ln, by omega, by go_num, rfl, by omega, by omega, hE, hA, HS⟩
          case measure => simp [intOf]; omega
    · have hkk : k = t.pix.length := by omega
      have HF := Lib.hid (show sumL (fun p => least m p a.x0 a.y0 a.x1 a.y1) (stencil t a.turn a.scale t.pix.length) = sm from by have h9 := hSM.out; rw [hkk] at h9; exact h9)
      clear hkk
      go_wp2
      go_ret
      exact ⟨ret_int HF.out.symm, hE.out⟩
set_option maxRecDepth 100000 in
set_option maxHeartbeats 16000000 in
theorem c28 (m : Img) (mv : Value) (t : Tpl) (tv : Value) (p : Pose) (w : World) (hm : IntsAt w mv m.pix) (hml : m.pix.length ≤ maxLen) (ht : IntsAt w tv t.pix) (htl : t.pix.length ≤ maxLen) :
    Calls Try.prog 28 #[imgVal m mv, tplVal t tv, poseVal p] w fun e w' => e = .returned (.tuple #[.int .i64 (boundR m t p.area).1, .int .i64 (boundR m t p.area).2]) ∧ Ext w w' := by
  have HMV := Lib.hid hm
  have HTV := Lib.hid ht
  obtain ⟨mo, mc, rfl, -, -⟩ := hm.form
  obtain ⟨to, tc, rfl, -, -⟩ := ht.form
  have K67 := Lib.hid (fun w' (h : Ext w w') => c64 m _ t _ w' (HMV.out.ext h) hml (HTV.out.ext h) htl)
  have K68 := fun (h : m.Sized) => Lib.hid (fun w' => c65 m (.slice mo m.pix.length mc) p w' h ⟨_, _, _, rfl⟩)
  have K70 := fun (h0 : m.Camera) (h1 : t.Ok) (h2 : Area.Ok m p.area) => Lib.hid (fun w' (h : Ext w w') => c66 m _ t _ p w' h0 h1 (HMV.out.ext h) (HTV.out.ext h) h2)
  unfold imgVal tplVal poseVal at *
  clear hm ht hml htl
  by_cases h0 : checkE m t = 0
  case neg =>
    obtain ⟨r, hr⟩ : ∃ r, checkE m t = r := ⟨_, rfl⟩
    have q0 : (r != 0) = true := by simpa [hr] using h0
    have hR := Lib.hid (show boundR m t p.area = (0, r) from by unfold boundR; rw [if_neg h0, hr])
    rw [hr] at K67
    clear h0 hr K68 K70
    go_enter Try.func28, Try.ntmps28
    go_wp2_with (go_at_call 64; (with_reducible refine (K67.out _ (by repeat (first | exact Ext.refl _ | assumption | refine Ext.alloc ?_ _ | refine Ext.drewN ?_ _ | refine ext_grow ?_ _ _ | refine Ext.trans ?_ (by assumption)))).mono ?_); rintro E w1 ⟨rfl, hb1⟩; have A1 := Lib.hid (show At w1 [(w.heap.size + 1 + 1, Obj.cells #[.int .i64 p.x, .int .i64 p.y, .int .i64 p.turn, .int .i64 p.scale] 45), (w.heap.size + 1, Obj.cells #[.int .i64 t.w, .int .i64 t.h, .slice to t.pix.length tc] 43), (w.heap.size, Obj.cells #[.int .i64 m.w, .int .i64 m.h, .slice mo m.pix.length mc] 24)] from At.ext hb1 ⟨(by repeat (first | (refine blk_at _ _ ?_; (first | rfl | (simp only [size_one]; done))) | refine (blk_past _ _ (by simp only [size_one]; omega)).trans ?_)), (by repeat (first | (refine blk_at _ _ ?_; (first | rfl | (simp only [size_one]; done))) | refine (blk_past _ _ (by simp only [size_one]; omega)).trans ?_)), (by repeat (first | (refine blk_at _ _ ?_; (first | rfl | (simp only [size_one]; done))) | refine (blk_past _ _ (by simp only [size_one]; omega)).trans ?_)), trivial⟩); have E1 := Lib.hid (show Ext w w1 from (by repeat (first | exact Ext.refl _ | assumption | refine Ext.alloc ?_ _ | refine Ext.drewN ?_ _ | refine ext_grow ?_ _ _ | refine Ext.trans ?_ (by assumption)))); obtain ⟨⟨x00, x01, x02, x03⟩, -⟩ := run_4 (At.at A1.out 0 rfl); obtain ⟨⟨x10, x11, x12⟩, -⟩ := run_3 (At.at A1.out 1 rfl); obtain ⟨⟨x20, x21, x22⟩, -⟩ := run_3 (At.at A1.out 2 rfl); have xz0 := At.lt A1.out 0 rfl; have xy0 := Nat.lt_succ_of_lt xz0; have xx0 := Nat.lt_succ_of_lt xy0; have xz1 := At.lt A1.out 1 rfl; have xy1 := Nat.lt_succ_of_lt xz1; have xx1 := Nat.lt_succ_of_lt xy1; have xz2 := At.lt A1.out 2 rfl; have xy2 := Nat.lt_succ_of_lt xz2; have xx2 := Nat.lt_succ_of_lt xy2)
    go_ret2
    exact ⟨by rw [hR.out]; rfl, E1.out⟩
  obtain ⟨g1, g2⟩ := check_ok h0
  rw [h0] at K67
  replace K68 := K68 g1.1
  by_cases h1 : Area.Ok m p.area
  case neg =>
    have q1 : decide (Area.Ok m p.area) = false := decide_eq_false h1
    have hR := Lib.hid (show boundR m t p.area = (0, 2) from by unfold boundR; rw [if_pos h0, if_neg h1])
    rw [q1] at K68
    clear h0 h1 q1 K70 g1 g2
    go_enter Try.func28, Try.ntmps28
    go_wp2_with (first | (have _q := E1; go_at_call 65; (with_reducible refine (K68.out _).mono ?_); rintro E w2 ⟨rfl, hb2⟩; have A2 := Lib.hid (show At w2 [(w.heap.size + 1 + 1, Obj.cells #[.int .i64 p.x, .int .i64 p.y, .int .i64 p.turn, .int .i64 p.scale] 45), (w.heap.size + 1, Obj.cells #[.int .i64 t.w, .int .i64 t.h, .slice to t.pix.length tc] 43), (w.heap.size, Obj.cells #[.int .i64 m.w, .int .i64 m.h, .slice mo m.pix.length mc] 24)] from At.ext hb2 A1.out); have E2 := Lib.hid (E1.out.trans hb2); obtain ⟨⟨y00, y01, y02, y03⟩, -⟩ := run_4 (At.at A2.out 0 rfl); obtain ⟨⟨y10, y11, y12⟩, -⟩ := run_3 (At.at A2.out 1 rfl); obtain ⟨⟨y20, y21, y22⟩, -⟩ := run_3 (At.at A2.out 2 rfl); have yz0 := At.lt A2.out 0 rfl; have yy0 := Nat.lt_succ_of_lt yz0; have yx0 := Nat.lt_succ_of_lt yy0; have yz1 := At.lt A2.out 1 rfl; have yy1 := Nat.lt_succ_of_lt yz1; have yx1 := Nat.lt_succ_of_lt yy1; have yz2 := At.lt A2.out 2 rfl; have yy2 := Nat.lt_succ_of_lt yz2; have yx2 := Nat.lt_succ_of_lt yy2) | (go_at_call 64; (with_reducible refine (K67.out _ (by repeat (first | exact Ext.refl _ | assumption | refine Ext.alloc ?_ _ | refine Ext.drewN ?_ _ | refine ext_grow ?_ _ _ | refine Ext.trans ?_ (by assumption)))).mono ?_); rintro E w1 ⟨rfl, hb1⟩; have A1 := Lib.hid (show At w1 [(w.heap.size + 1 + 1, Obj.cells #[.int .i64 p.x, .int .i64 p.y, .int .i64 p.turn, .int .i64 p.scale] 45), (w.heap.size + 1, Obj.cells #[.int .i64 t.w, .int .i64 t.h, .slice to t.pix.length tc] 43), (w.heap.size, Obj.cells #[.int .i64 m.w, .int .i64 m.h, .slice mo m.pix.length mc] 24)] from At.ext hb1 ⟨(by repeat (first | (refine blk_at _ _ ?_; (first | rfl | (simp only [size_one]; done))) | refine (blk_past _ _ (by simp only [size_one]; omega)).trans ?_)), (by repeat (first | (refine blk_at _ _ ?_; (first | rfl | (simp only [size_one]; done))) | refine (blk_past _ _ (by simp only [size_one]; omega)).trans ?_)), (by repeat (first | (refine blk_at _ _ ?_; (first | rfl | (simp only [size_one]; done))) | refine (blk_past _ _ (by simp only [size_one]; omega)).trans ?_)), trivial⟩); have E1 := Lib.hid (show Ext w w1 from (by repeat (first | exact Ext.refl _ | assumption | refine Ext.alloc ?_ _ | refine Ext.drewN ?_ _ | refine ext_grow ?_ _ _ | refine Ext.trans ?_ (by assumption)))); obtain ⟨⟨x00, x01, x02, x03⟩, -⟩ := run_4 (At.at A1.out 0 rfl); obtain ⟨⟨x10, x11, x12⟩, -⟩ := run_3 (At.at A1.out 1 rfl); obtain ⟨⟨x20, x21, x22⟩, -⟩ := run_3 (At.at A1.out 2 rfl); have xz0 := At.lt A1.out 0 rfl; have xy0 := Nat.lt_succ_of_lt xz0; have xx0 := Nat.lt_succ_of_lt xy0; have xz1 := At.lt A1.out 1 rfl; have xy1 := Nat.lt_succ_of_lt xz1; have xx1 := Nat.lt_succ_of_lt xy1; have xz2 := At.lt A1.out 2 rfl; have xy2 := Nat.lt_succ_of_lt xz2; have xx2 := Nat.lt_succ_of_lt xy2))
    go_ret2
    exact ⟨by rw [hR.out]; rfl, E2.out⟩
  have q1 : decide (Area.Ok m p.area) = true := decide_eq_true h1
  have hR := Lib.hid (show boundR m t p.area = (bound m t p.area, 0) from by unfold boundR; rw [if_pos h0, if_pos h1])
  rw [q1] at K68
  replace K70 := K70 g1 g2 h1
  obtain ⟨bd, hbd⟩ : ∃ bd, bound m t p.area = bd := ⟨_, rfl⟩
  rw [hbd] at K70 hR
  clear h0 h1 q1 g1 g2 hbd
  go_enter Try.func28, Try.ntmps28
  go_wp2_with (first | (have _q := E2; go_at_call 66; (with_reducible refine (K70.out _ E2.out).mono ?_); rintro E w3 ⟨rfl, hb3⟩; have E3 := Lib.hid (E2.out.trans hb3)) | (have _q := E1; go_at_call 65; (with_reducible refine (K68.out _).mono ?_); rintro E w2 ⟨rfl, hb2⟩; have A2 := Lib.hid (show At w2 [(w.heap.size + 1 + 1, Obj.cells #[.int .i64 p.x, .int .i64 p.y, .int .i64 p.turn, .int .i64 p.scale] 45), (w.heap.size + 1, Obj.cells #[.int .i64 t.w, .int .i64 t.h, .slice to t.pix.length tc] 43), (w.heap.size, Obj.cells #[.int .i64 m.w, .int .i64 m.h, .slice mo m.pix.length mc] 24)] from At.ext hb2 A1.out); have E2 := Lib.hid (E1.out.trans hb2); obtain ⟨⟨y00, y01, y02, y03⟩, -⟩ := run_4 (At.at A2.out 0 rfl); obtain ⟨⟨y10, y11, y12⟩, -⟩ := run_3 (At.at A2.out 1 rfl); obtain ⟨⟨y20, y21, y22⟩, -⟩ := run_3 (At.at A2.out 2 rfl); have yz0 := At.lt A2.out 0 rfl; have yy0 := Nat.lt_succ_of_lt yz0; have yx0 := Nat.lt_succ_of_lt yy0; have yz1 := At.lt A2.out 1 rfl; have yy1 := Nat.lt_succ_of_lt yz1; have yx1 := Nat.lt_succ_of_lt yy1; have yz2 := At.lt A2.out 2 rfl; have yy2 := Nat.lt_succ_of_lt yz2; have yx2 := Nat.lt_succ_of_lt yy2) | (go_at_call 64; (with_reducible refine (K67.out _ (by repeat (first | exact Ext.refl _ | assumption | refine Ext.alloc ?_ _ | refine Ext.drewN ?_ _ | refine ext_grow ?_ _ _ | refine Ext.trans ?_ (by assumption)))).mono ?_); rintro E w1 ⟨rfl, hb1⟩; have A1 := Lib.hid (show At w1 [(w.heap.size + 1 + 1, Obj.cells #[.int .i64 p.x, .int .i64 p.y, .int .i64 p.turn, .int .i64 p.scale] 45), (w.heap.size + 1, Obj.cells #[.int .i64 t.w, .int .i64 t.h, .slice to t.pix.length tc] 43), (w.heap.size, Obj.cells #[.int .i64 m.w, .int .i64 m.h, .slice mo m.pix.length mc] 24)] from At.ext hb1 ⟨(by repeat (first | (refine blk_at _ _ ?_; (first | rfl | (simp only [size_one]; done))) | refine (blk_past _ _ (by simp only [size_one]; omega)).trans ?_)), (by repeat (first | (refine blk_at _ _ ?_; (first | rfl | (simp only [size_one]; done))) | refine (blk_past _ _ (by simp only [size_one]; omega)).trans ?_)), (by repeat (first | (refine blk_at _ _ ?_; (first | rfl | (simp only [size_one]; done))) | refine (blk_past _ _ (by simp only [size_one]; omega)).trans ?_)), trivial⟩); have E1 := Lib.hid (show Ext w w1 from (by repeat (first | exact Ext.refl _ | assumption | refine Ext.alloc ?_ _ | refine Ext.drewN ?_ _ | refine ext_grow ?_ _ _ | refine Ext.trans ?_ (by assumption)))); obtain ⟨⟨x00, x01, x02, x03⟩, -⟩ := run_4 (At.at A1.out 0 rfl); obtain ⟨⟨x10, x11, x12⟩, -⟩ := run_3 (At.at A1.out 1 rfl); obtain ⟨⟨x20, x21, x22⟩, -⟩ := run_3 (At.at A1.out 2 rfl); have xz0 := At.lt A1.out 0 rfl; have xy0 := Nat.lt_succ_of_lt xz0; have xx0 := Nat.lt_succ_of_lt xy0; have xz1 := At.lt A1.out 1 rfl; have xy1 := Nat.lt_succ_of_lt xz1; have xx1 := Nat.lt_succ_of_lt xy1; have xz2 := At.lt A1.out 2 rfl; have xy2 := Nat.lt_succ_of_lt xz2; have xx2 := Nat.lt_succ_of_lt xy2))
  go_ret2
  exact ⟨by rw [hR.out]; rfl, E3.out⟩
set_option maxRecDepth 100000 in
set_option maxHeartbeats 16000000 in
theorem c30 (m : Img) (mv : Value) (t : Tpl) (tv : Value) (a : Area) (w : World) (hm : IntsAt w mv m.pix) (hml : m.pix.length ≤ maxLen) (ht : IntsAt w tv t.pix) (htl : t.pix.length ≤ maxLen) :
    Calls Try.prog 30 #[imgVal m mv, tplVal t tv, areaVal a] w fun e w' => e = .returned (.tuple #[.int .i64 (boundR m t a).1, .int .i64 (boundR m t a).2]) ∧ Ext w w' := by
  have HMV := Lib.hid hm
  have HTV := Lib.hid ht
  obtain ⟨mo, mc, rfl, -, -⟩ := hm.form
  obtain ⟨to, tc, rfl, -, -⟩ := ht.form
  have K67 := Lib.hid (fun w' (h : Ext w w') => c64 m _ t _ w' (HMV.out.ext h) hml (HTV.out.ext h) htl)
  have K68 := fun (h : m.Sized) => Lib.hid (fun w' => c71 m (.slice mo m.pix.length mc) a w' h ⟨_, _, _, rfl⟩)
  have K70 := fun (h0 : m.Camera) (h1 : t.Ok) (h2 : Area.Ok m a) => Lib.hid (fun w' (h : Ext w w') => c72 m _ t _ a w' h0 h1 (HMV.out.ext h) (HTV.out.ext h) h2)
  unfold imgVal tplVal areaVal at *
  clear hm ht hml htl
  by_cases h0 : checkE m t = 0
  case neg =>
    obtain ⟨r, hr⟩ : ∃ r, checkE m t = r := ⟨_, rfl⟩
    have q0 : (r != 0) = true := by simpa [hr] using h0
    have hR := Lib.hid (show boundR m t a = (0, r) from by unfold boundR; rw [if_neg h0, hr])
    rw [hr] at K67
    clear h0 hr K68 K70
    go_enter Try.func30, Try.ntmps30
    go_wp2_with (go_at_call 64; (with_reducible refine (K67.out _ (by repeat (first | exact Ext.refl _ | assumption | refine Ext.alloc ?_ _ | refine Ext.drewN ?_ _ | refine ext_grow ?_ _ _ | refine Ext.trans ?_ (by assumption)))).mono ?_); rintro E w1 ⟨rfl, hb1⟩; have A1 := Lib.hid (show At w1 [(w.heap.size + 1 + 1, Obj.cells #[.int .i64 a.x0, .int .i64 a.y0, .int .i64 a.x1, .int .i64 a.y1, .int .i64 a.turn, .int .i64 a.scale] 47), (w.heap.size + 1, Obj.cells #[.int .i64 t.w, .int .i64 t.h, .slice to t.pix.length tc] 43), (w.heap.size, Obj.cells #[.int .i64 m.w, .int .i64 m.h, .slice mo m.pix.length mc] 24)] from At.ext hb1 ⟨(by repeat (first | (refine blk_at _ _ ?_; (first | rfl | (simp only [size_one]; done))) | refine (blk_past _ _ (by simp only [size_one]; omega)).trans ?_)), (by repeat (first | (refine blk_at _ _ ?_; (first | rfl | (simp only [size_one]; done))) | refine (blk_past _ _ (by simp only [size_one]; omega)).trans ?_)), (by repeat (first | (refine blk_at _ _ ?_; (first | rfl | (simp only [size_one]; done))) | refine (blk_past _ _ (by simp only [size_one]; omega)).trans ?_)), trivial⟩); have E1 := Lib.hid (show Ext w w1 from (by repeat (first | exact Ext.refl _ | assumption | refine Ext.alloc ?_ _ | refine Ext.drewN ?_ _ | refine ext_grow ?_ _ _ | refine Ext.trans ?_ (by assumption)))); obtain ⟨⟨x00, x01, x02, x03, x04, x05⟩, -⟩ := run_6 (At.at A1.out 0 rfl); obtain ⟨⟨x10, x11, x12⟩, -⟩ := run_3 (At.at A1.out 1 rfl); obtain ⟨⟨x20, x21, x22⟩, -⟩ := run_3 (At.at A1.out 2 rfl); have xz0 := At.lt A1.out 0 rfl; have xy0 := Nat.lt_succ_of_lt xz0; have xx0 := Nat.lt_succ_of_lt xy0; have xz1 := At.lt A1.out 1 rfl; have xy1 := Nat.lt_succ_of_lt xz1; have xx1 := Nat.lt_succ_of_lt xy1; have xz2 := At.lt A1.out 2 rfl; have xy2 := Nat.lt_succ_of_lt xz2; have xx2 := Nat.lt_succ_of_lt xy2)
    go_ret2
    exact ⟨by rw [hR.out]; rfl, E1.out⟩
  obtain ⟨g1, g2⟩ := check_ok h0
  rw [h0] at K67
  replace K68 := K68 g1.1
  by_cases h1 : Area.Ok m a
  case neg =>
    have q1 : decide (Area.Ok m a) = false := decide_eq_false h1
    have hR := Lib.hid (show boundR m t a = (0, 2) from by unfold boundR; rw [if_pos h0, if_neg h1])
    rw [q1] at K68
    clear h0 h1 q1 K70 g1 g2
    go_enter Try.func30, Try.ntmps30
    go_wp2_with (first | (have _q := E1; go_at_call 71; (with_reducible refine (K68.out _).mono ?_); rintro E w2 ⟨rfl, hb2⟩; have A2 := Lib.hid (show At w2 [(w.heap.size + 1 + 1, Obj.cells #[.int .i64 a.x0, .int .i64 a.y0, .int .i64 a.x1, .int .i64 a.y1, .int .i64 a.turn, .int .i64 a.scale] 47), (w.heap.size + 1, Obj.cells #[.int .i64 t.w, .int .i64 t.h, .slice to t.pix.length tc] 43), (w.heap.size, Obj.cells #[.int .i64 m.w, .int .i64 m.h, .slice mo m.pix.length mc] 24)] from At.ext hb2 A1.out); have E2 := Lib.hid (E1.out.trans hb2); obtain ⟨⟨y00, y01, y02, y03, y04, y05⟩, -⟩ := run_6 (At.at A2.out 0 rfl); obtain ⟨⟨y10, y11, y12⟩, -⟩ := run_3 (At.at A2.out 1 rfl); obtain ⟨⟨y20, y21, y22⟩, -⟩ := run_3 (At.at A2.out 2 rfl); have yz0 := At.lt A2.out 0 rfl; have yy0 := Nat.lt_succ_of_lt yz0; have yx0 := Nat.lt_succ_of_lt yy0; have yz1 := At.lt A2.out 1 rfl; have yy1 := Nat.lt_succ_of_lt yz1; have yx1 := Nat.lt_succ_of_lt yy1; have yz2 := At.lt A2.out 2 rfl; have yy2 := Nat.lt_succ_of_lt yz2; have yx2 := Nat.lt_succ_of_lt yy2) | (go_at_call 64; (with_reducible refine (K67.out _ (by repeat (first | exact Ext.refl _ | assumption | refine Ext.alloc ?_ _ | refine Ext.drewN ?_ _ | refine ext_grow ?_ _ _ | refine Ext.trans ?_ (by assumption)))).mono ?_); rintro E w1 ⟨rfl, hb1⟩; have A1 := Lib.hid (show At w1 [(w.heap.size + 1 + 1, Obj.cells #[.int .i64 a.x0, .int .i64 a.y0, .int .i64 a.x1, .int .i64 a.y1, .int .i64 a.turn, .int .i64 a.scale] 47), (w.heap.size + 1, Obj.cells #[.int .i64 t.w, .int .i64 t.h, .slice to t.pix.length tc] 43), (w.heap.size, Obj.cells #[.int .i64 m.w, .int .i64 m.h, .slice mo m.pix.length mc] 24)] from At.ext hb1 ⟨(by repeat (first | (refine blk_at _ _ ?_; (first | rfl | (simp only [size_one]; done))) | refine (blk_past _ _ (by simp only [size_one]; omega)).trans ?_)), (by repeat (first | (refine blk_at _ _ ?_; (first | rfl | (simp only [size_one]; done))) | refine (blk_past _ _ (by simp only [size_one]; omega)).trans ?_)), (by repeat (first | (refine blk_at _ _ ?_; (first | rfl | (simp only [size_one]; done))) | refine (blk_past _ _ (by simp only [size_one]; omega)).trans ?_)), trivial⟩); have E1 := Lib.hid (show Ext w w1 from (by repeat (first | exact Ext.refl _ | assumption | refine Ext.alloc ?_ _ | refine Ext.drewN ?_ _ | refine ext_grow ?_ _ _ | refine Ext.trans ?_ (by assumption)))); obtain ⟨⟨x00, x01, x02, x03, x04, x05⟩, -⟩ := run_6 (At.at A1.out 0 rfl); obtain ⟨⟨x10, x11, x12⟩, -⟩ := run_3 (At.at A1.out 1 rfl); obtain ⟨⟨x20, x21, x22⟩, -⟩ := run_3 (At.at A1.out 2 rfl); have xz0 := At.lt A1.out 0 rfl; have xy0 := Nat.lt_succ_of_lt xz0; have xx0 := Nat.lt_succ_of_lt xy0; have xz1 := At.lt A1.out 1 rfl; have xy1 := Nat.lt_succ_of_lt xz1; have xx1 := Nat.lt_succ_of_lt xy1; have xz2 := At.lt A1.out 2 rfl; have xy2 := Nat.lt_succ_of_lt xz2; have xx2 := Nat.lt_succ_of_lt xy2))
    go_ret2
    exact ⟨by rw [hR.out]; rfl, E2.out⟩
  have q1 : decide (Area.Ok m a) = true := decide_eq_true h1
  have hR := Lib.hid (show boundR m t a = (bound m t a, 0) from by unfold boundR; rw [if_pos h0, if_pos h1])
  rw [q1] at K68
  replace K70 := K70 g1 g2 h1
  obtain ⟨bd, hbd⟩ : ∃ bd, bound m t a = bd := ⟨_, rfl⟩
  rw [hbd] at K70 hR
  clear h0 h1 q1 g1 g2 hbd
  go_enter Try.func30, Try.ntmps30
  go_wp2_with (first | (have _q := E2; go_at_call 72; (with_reducible refine (K70.out _ E2.out).mono ?_); rintro E w3 ⟨rfl, hb3⟩; have E3 := Lib.hid (E2.out.trans hb3)) | (have _q := E1; go_at_call 71; (with_reducible refine (K68.out _).mono ?_); rintro E w2 ⟨rfl, hb2⟩; have A2 := Lib.hid (show At w2 [(w.heap.size + 1 + 1, Obj.cells #[.int .i64 a.x0, .int .i64 a.y0, .int .i64 a.x1, .int .i64 a.y1, .int .i64 a.turn, .int .i64 a.scale] 47), (w.heap.size + 1, Obj.cells #[.int .i64 t.w, .int .i64 t.h, .slice to t.pix.length tc] 43), (w.heap.size, Obj.cells #[.int .i64 m.w, .int .i64 m.h, .slice mo m.pix.length mc] 24)] from At.ext hb2 A1.out); have E2 := Lib.hid (E1.out.trans hb2); obtain ⟨⟨y00, y01, y02, y03, y04, y05⟩, -⟩ := run_6 (At.at A2.out 0 rfl); obtain ⟨⟨y10, y11, y12⟩, -⟩ := run_3 (At.at A2.out 1 rfl); obtain ⟨⟨y20, y21, y22⟩, -⟩ := run_3 (At.at A2.out 2 rfl); have yz0 := At.lt A2.out 0 rfl; have yy0 := Nat.lt_succ_of_lt yz0; have yx0 := Nat.lt_succ_of_lt yy0; have yz1 := At.lt A2.out 1 rfl; have yy1 := Nat.lt_succ_of_lt yz1; have yx1 := Nat.lt_succ_of_lt yy1; have yz2 := At.lt A2.out 2 rfl; have yy2 := Nat.lt_succ_of_lt yz2; have yx2 := Nat.lt_succ_of_lt yy2) | (go_at_call 64; (with_reducible refine (K67.out _ (by repeat (first | exact Ext.refl _ | assumption | refine Ext.alloc ?_ _ | refine Ext.drewN ?_ _ | refine ext_grow ?_ _ _ | refine Ext.trans ?_ (by assumption)))).mono ?_); rintro E w1 ⟨rfl, hb1⟩; have A1 := Lib.hid (show At w1 [(w.heap.size + 1 + 1, Obj.cells #[.int .i64 a.x0, .int .i64 a.y0, .int .i64 a.x1, .int .i64 a.y1, .int .i64 a.turn, .int .i64 a.scale] 47), (w.heap.size + 1, Obj.cells #[.int .i64 t.w, .int .i64 t.h, .slice to t.pix.length tc] 43), (w.heap.size, Obj.cells #[.int .i64 m.w, .int .i64 m.h, .slice mo m.pix.length mc] 24)] from At.ext hb1 ⟨(by repeat (first | (refine blk_at _ _ ?_; (first | rfl | (simp only [size_one]; done))) | refine (blk_past _ _ (by simp only [size_one]; omega)).trans ?_)), (by repeat (first | (refine blk_at _ _ ?_; (first | rfl | (simp only [size_one]; done))) | refine (blk_past _ _ (by simp only [size_one]; omega)).trans ?_)), (by repeat (first | (refine blk_at _ _ ?_; (first | rfl | (simp only [size_one]; done))) | refine (blk_past _ _ (by simp only [size_one]; omega)).trans ?_)), trivial⟩); have E1 := Lib.hid (show Ext w w1 from (by repeat (first | exact Ext.refl _ | assumption | refine Ext.alloc ?_ _ | refine Ext.drewN ?_ _ | refine ext_grow ?_ _ _ | refine Ext.trans ?_ (by assumption)))); obtain ⟨⟨x00, x01, x02, x03, x04, x05⟩, -⟩ := run_6 (At.at A1.out 0 rfl); obtain ⟨⟨x10, x11, x12⟩, -⟩ := run_3 (At.at A1.out 1 rfl); obtain ⟨⟨x20, x21, x22⟩, -⟩ := run_3 (At.at A1.out 2 rfl); have xz0 := At.lt A1.out 0 rfl; have xy0 := Nat.lt_succ_of_lt xz0; have xx0 := Nat.lt_succ_of_lt xy0; have xz1 := At.lt A1.out 1 rfl; have xy1 := Nat.lt_succ_of_lt xz1; have xx1 := Nat.lt_succ_of_lt xy1; have xz2 := At.lt A1.out 2 rfl; have xy2 := Nat.lt_succ_of_lt xz2; have xx2 := Nat.lt_succ_of_lt xy2))
  go_ret2
  exact ⟨by rw [hR.out]; rfl, E3.out⟩
end Go.Proofs.Ytipkjdfnoonpcaa

/- Matches and areas in memory; what a proved search is. -/
namespace Go.Proofs.Ytipkjdfnoonpcaa
open Go.RowKit Go.Sort

theorem flat_get {α : Type} (f : α → List Value) (n : Nat) (d : α) (hf : ∀ x, (f x).length = n) (l : List α) : ∀ (i k : Nat), i < l.length → k < n → (l.flatMap f)[i * n + k]? = (f (l.getD i d))[k]? := by
  induction l with
  | nil => intro i k h; simp at h
  | cons x l ih =>
    intro i k hi hk
    rw [List.flatMap_cons]
    match i with
    | 0 =>
      rw [List.getElem?_append_left (by rw [hf]; omega)]
      simp
    | i + 1 =>
      have e : (i + 1) * n + k = n + (i * n + k) := by rw [Nat.add_mul]; omega
      rw [List.getElem?_append_right (by rw [hf]; omega)]
      have := ih i k (by simpa using hi) hk
      rw [hf, e, Nat.add_sub_cancel_left, this]
      simp
structure Match where
  pose : Pose
  dist : Int
def matchCells (x : Match) : List Value := [.int .i64 x.pose.x, .int .i64 x.pose.y, .int .i64 x.pose.turn, .int .i64 x.pose.scale, .int .i64 x.dist]
def match0 : Match := ⟨⟨0, 0, 0, 0⟩, 0⟩
theorem matchCells_one (x : Match) : ∀ u ∈ matchCells x, u.oneCell' = true := by
  intro u hu
  simp only [matchCells, List.mem_cons, List.not_mem_nil, or_false] at hu
  rcases hu with rfl | rfl | rfl | rfl | rfl <;> rfl
def MatchesAt (w : World) (v : Value) (l : List Match) : Prop := SlAt w 5 v l.length (l.flatMap matchCells)
theorem MatchesAt.ext {w w' : World} {v : Value} {l : List Match} (h : MatchesAt w v l) (hb : Ext w w') : MatchesAt w' v l := SlAt.ext h hb
theorem MatchesAt.le {w : World} {v : Value} {l : List Match} (h : MatchesAt w v l) : l.length ≤ maxLen := by
  obtain ⟨h1, ao, cap, h2, h3, h4, h5, h6⟩ := h
  exact Nat.le_trans h3 h4
theorem MatchesAt.form {w : World} {v : Value} {l : List Match} (h : MatchesAt w v l) :
    ∃ ao cap, v = .slice ao l.length cap ∧ cap ≤ maxLen ∧ ∀ j, j < l.length → ∃ b off, ao = some ⟨b, off, none⟩ ∧ w.cell? ⟨b, off + j * 5, none⟩ = some (.int .i64 (l.getD j match0).pose.x) ∧ w.cell? ⟨b, off + j * 5 + 1, none⟩ = some (.int .i64 (l.getD j match0).pose.y) ∧ w.cell? ⟨b, off + j * 5 + 2, none⟩ = some (.int .i64 (l.getD j match0).pose.turn) ∧ w.cell? ⟨b, off + j * 5 + 3, none⟩ = some (.int .i64 (l.getD j match0).pose.scale) ∧ w.cell? ⟨b, off + j * 5 + 4, none⟩ = some (.int .i64 (l.getD j match0).dist) := by
  obtain ⟨h1, ao, cap, h2, h3, h4, h5, h6⟩ := h
  refine ⟨ao, cap, h2, h4, fun j hj => ?_⟩
  obtain ⟨b0, off0, e0, c0⟩ := h6 (j * 5 + 0) _ (by rw [flat_get matchCells 5 match0 (fun _ => rfl) l j 0 hj (by omega)]; rfl)
  obtain ⟨b1, off1, e1, c1⟩ := h6 (j * 5 + 1) _ (by rw [flat_get matchCells 5 match0 (fun _ => rfl) l j 1 hj (by omega)]; rfl)
  obtain ⟨b2, off2, e2, c2⟩ := h6 (j * 5 + 2) _ (by rw [flat_get matchCells 5 match0 (fun _ => rfl) l j 2 hj (by omega)]; rfl)
  obtain ⟨b3, off3, e3, c3⟩ := h6 (j * 5 + 3) _ (by rw [flat_get matchCells 5 match0 (fun _ => rfl) l j 3 hj (by omega)]; rfl)
  obtain ⟨b4, off4, e4, c4⟩ := h6 (j * 5 + 4) _ (by rw [flat_get matchCells 5 match0 (fun _ => rfl) l j 4 hj (by omega)]; rfl)
  rw [e0] at e1 e2 e3 e4
  cases e1
  cases e2
  cases e3
  cases e4
  exact ⟨b0, off0, e0, c0, c1, c2, c3, c4⟩
def areaCells (x : Area) : List Value := [.int .i64 x.x0, .int .i64 x.y0, .int .i64 x.x1, .int .i64 x.y1, .int .i64 x.turn, .int .i64 x.scale]
def area0 : Area := ⟨0, 0, 0, 0, 0, 0⟩
theorem areaCells_one (x : Area) : ∀ u ∈ areaCells x, u.oneCell' = true := by
  intro u hu
  simp only [areaCells, List.mem_cons, List.not_mem_nil, or_false] at hu
  rcases hu with rfl | rfl | rfl | rfl | rfl | rfl <;> rfl
def AreasAt (w : World) (v : Value) (l : List Area) : Prop := SlAt w 6 v l.length (l.flatMap areaCells)
theorem AreasAt.ext {w w' : World} {v : Value} {l : List Area} (h : AreasAt w v l) (hb : Ext w w') : AreasAt w' v l := SlAt.ext h hb
theorem AreasAt.le {w : World} {v : Value} {l : List Area} (h : AreasAt w v l) : l.length ≤ maxLen := by
  obtain ⟨h1, ao, cap, h2, h3, h4, h5, h6⟩ := h
  exact Nat.le_trans h3 h4
theorem AreasAt.form {w : World} {v : Value} {l : List Area} (h : AreasAt w v l) :
    ∃ ao cap, v = .slice ao l.length cap ∧ cap ≤ maxLen ∧ ∀ j, j < l.length → ∃ b off, ao = some ⟨b, off, none⟩ ∧ w.cell? ⟨b, off + j * 6, none⟩ = some (.int .i64 (l.getD j area0).x0) ∧ w.cell? ⟨b, off + j * 6 + 1, none⟩ = some (.int .i64 (l.getD j area0).y0) ∧ w.cell? ⟨b, off + j * 6 + 2, none⟩ = some (.int .i64 (l.getD j area0).x1) ∧ w.cell? ⟨b, off + j * 6 + 3, none⟩ = some (.int .i64 (l.getD j area0).y1) ∧ w.cell? ⟨b, off + j * 6 + 4, none⟩ = some (.int .i64 (l.getD j area0).turn) ∧ w.cell? ⟨b, off + j * 6 + 5, none⟩ = some (.int .i64 (l.getD j area0).scale) := by
  obtain ⟨h1, ao, cap, h2, h3, h4, h5, h6⟩ := h
  refine ⟨ao, cap, h2, h4, fun j hj => ?_⟩
  obtain ⟨b0, off0, e0, c0⟩ := h6 (j * 6 + 0) _ (by rw [flat_get areaCells 6 area0 (fun _ => rfl) l j 0 hj (by omega)]; rfl)
  obtain ⟨b1, off1, e1, c1⟩ := h6 (j * 6 + 1) _ (by rw [flat_get areaCells 6 area0 (fun _ => rfl) l j 1 hj (by omega)]; rfl)
  obtain ⟨b2, off2, e2, c2⟩ := h6 (j * 6 + 2) _ (by rw [flat_get areaCells 6 area0 (fun _ => rfl) l j 2 hj (by omega)]; rfl)
  obtain ⟨b3, off3, e3, c3⟩ := h6 (j * 6 + 3) _ (by rw [flat_get areaCells 6 area0 (fun _ => rfl) l j 3 hj (by omega)]; rfl)
  obtain ⟨b4, off4, e4, c4⟩ := h6 (j * 6 + 4) _ (by rw [flat_get areaCells 6 area0 (fun _ => rfl) l j 4 hj (by omega)]; rfl)
  obtain ⟨b5, off5, e5, c5⟩ := h6 (j * 6 + 5) _ (by rw [flat_get areaCells 6 area0 (fun _ => rfl) l j 5 hj (by omega)]; rfl)
  rw [e0] at e1 e2 e3 e4 e5
  cases e1
  cases e2
  cases e3
  cases e4
  cases e5
  exact ⟨b0, off0, e0, c0, c1, c2, c3, c4, c5⟩
deriving instance DecidableEq for Pose
def searchVal (mv av : Value) : Value := .agg #[mv, av]
/-- an area has a pose -/
def Area.Has (a : Area) (p : Pose) : Prop := (a.turn = p.turn ∧ a.scale = p.scale) ∧ (a.x0 ≤ p.x ∧ p.x ≤ a.x1) ∧ (a.y0 ≤ p.y ∧ p.y ≤ a.y1)
instance areaHasDec (a : Area) (p : Pose) : Decidable (a.Has p) := by unfold Area.Has; infer_instance
/-- in how many of the matches and areas a pose is -/
def hits (ms : List Match) (p : Pose) : Nat := ms.countP fun x => decide (x.pose = p)
def hasN (ar : List Area) (p : Pose) : Nat := ar.countP fun a => decide (a.Has p)
def MatchOk (m : Img) (t : Tpl) (limit : Int) (x : Match) : Prop := x.pose.area.Ok m ∧ x.dist ≤ limit ∧ bound m t x.pose.area = x.dist
def AreaOk (m : Img) (t : Tpl) (limit : Int) (a : Area) : Prop := a.Ok m ∧ limit < bound m t a
def poseAt (m : Img) (turn scale : Int) (i : Nat) : Pose := ⟨(i : Int) % m.w, (i : Int) / m.w, turn, scale⟩
def Proved (m : Img) (t : Tpl) (limit : Int) (ms : List Match) (ar : List Area) : Prop :=
  (∀ x ∈ ms, MatchOk m t limit x) ∧ (∀ a ∈ ar, AreaOk m t limit a) ∧ ∀ turn scale : Int, 0 ≤ turn → turn < 12 → 1 ≤ scale → scale ≤ 4 → ∀ i : Nat, i < m.pix.length → hits ms (poseAt m turn scale i) + hasN ar (poseAt m turn scale i) = 1
theorem countP_snoc {α : Type} (p : α → Bool) (l : List α) (x : α) : (l ++ [x]).countP p = l.countP p + (if p x then 1 else 0) := by
  rw [List.countP_append]; simp [List.countP_cons]
theorem take_snoc_at {α : Type} {l : List α} {k : Nat} (d : α) (h : k < l.length) : l.take (k + 1) = l.take k ++ [l.getD k d] := by
  rw [List.take_succ_eq_append_getElem h, List.getD_eq_getElem?_getD, List.getElem?_eq_getElem h]; rfl
theorem getD_mem_at {α : Type} {l : List α} {k : Nat} (d : α) (h : k < l.length) : l.getD k d ∈ l := by
  rw [List.getD_eq_getElem?_getD, List.getElem?_eq_getElem h]
  exact List.getElem_mem h
end Go.Proofs.Ytipkjdfnoonpcaa

/- Searches: the same search, a great search, an area that has a pose: the walks. -/
namespace Go.Proofs.Ytipkjdfnoonpcaa
open Go.RowKit Go.Sort

/-- a search that is held to be great -/
def greatB (ms : List Match) (ar : List Area) : Bool := decide (13000 < ms.length) || decide (13000 < ar.length)
set_option maxRecDepth 100000 in
set_option maxHeartbeats 4000000 in
theorem c32 (ms : List Match) (ar : List Area) (mv av : Value) (w : World) (h1 : MatchesAt w mv ms) (h2 : AreasAt w av ar) :
    Calls Try.prog 32 #[searchVal mv av] w fun e w' => e = .returned (.bool (greatB ms ar)) ∧ Ext w w' := by
  obtain ⟨a1, c1, rfl, -, -⟩ := h1.form
  obtain ⟨a2, c2, rfl, -, -⟩ := h2.form
  unfold searchVal
  clear h1 h2
  by_cases h1 : 13000 < ms.length
  · have q1 : decide (13000 < ms.length) = true := decide_eq_true h1
    have q2 : (13000 : Int) < (ms.length : Int) := by omega
    have HR := Lib.hid (show greatB ms ar = true by unfold greatB; rw [q1]; rfl)
    go_enter Try.func32, Try.ntmps32
    go_wp2
    go_ret
    exact ⟨ret_bool HR.out.symm, (by repeat (first | exact Ext.refl _ | assumption | refine Ext.alloc ?_ _ | refine Ext.drewN ?_ _ | refine ext_grow ?_ _ _ | refine Ext.trans ?_ (by assumption)))⟩
  · have q1 : decide (13000 < ms.length) = false := decide_eq_false h1
    have q2 : ¬ (13000 : Int) < (ms.length : Int) := by omega
    obtain ⟨c, hc⟩ : ∃ c, decide ((13000 : Int) < (ar.length : Int)) = c := ⟨_, rfl⟩
    have HR := Lib.hid (show greatB ms ar = c by unfold greatB; rw [q1, ← hc, Bool.false_or]; exact decide_eq_decide.2 (by omega))
    go_enter Try.func32, Try.ntmps32
    go_wp2
    go_ret
    exact ⟨ret_bool HR.out.symm, (by repeat (first | exact Ext.refl _ | assumption | refine Ext.alloc ?_ _ | refine Ext.drewN ?_ _ | refine ext_grow ?_ _ _ | refine Ext.trans ?_ (by assumption)))⟩
set_option maxRecDepth 100000 in
set_option maxHeartbeats 8000000 in
theorem c35 (ms : List Match) (ar : List Area) (mv1 av1 mv2 av2 : Value) (w : World) (h1 : MatchesAt w mv1 ms) (h2 : AreasAt w av1 ar) (h3 : MatchesAt w mv2 ms) (h4 : AreasAt w av2 ar) :
    Calls Try.prog 35 #[searchVal mv1 av1, searchVal mv2 av2] w fun e w' => e = .returned (.bool true) ∧ Ext w w' := by
  obtain ⟨m1, mc1, rfl, b1, hc1⟩ := h1.form
  obtain ⟨a1, ac1, rfl, b2, hc2⟩ := h2.form
  obtain ⟨m2, mc2, rfl, -, hc3⟩ := h3.form
  obtain ⟨a2, ac2, rfl, -, hc4⟩ := h4.form
  have H1 := Lib.hid hc1
  have H2 := Lib.hid hc2
  have H3 := Lib.hid hc3
  have H4 := Lib.hid hc4
  have n1 : ms.length ≤ maxLen := h1.le
  have n2 : ar.length ≤ maxLen := h2.le
  unfold searchVal
  clear h1 h2 h3 h4 hc1 hc2 hc3 hc4
  unfold maxLen at n1 n2
  have q1 : (((ms.length : Int)) != (ms.length : Int)) = false := by simp
  have q2 : (((ar.length : Int)) != (ar.length : Int)) = false := by simp
  go_enter Try.func35, Try.ntmps35
  go_wp2
  go_loopw [5] (fun v wr => Ext w wr ∧ Hid (At wr [(w.heap.size + 1, Obj.cells #[.slice m2 ms.length mc2, .slice a2 ar.length ac2] 63), (w.heap.size, Obj.cells #[.slice m1 ms.length mc1, .slice a1 ar.length ac1] 63)]) ∧ ∃ i : Nat, i ≤ ms.length ∧ v = .int .i64 (i : Int)) (fun v _ => ms.length - (intOf v).toNat)
  case atStart => exact ⟨(by repeat (first | exact Ext.refl _ | assumption | refine Ext.alloc ?_ _ | refine Ext.drewN ?_ _ | refine ext_grow ?_ _ _ | refine Ext.trans ?_ (by assumption))), Lib.hid ⟨(by repeat (first | (refine blk_at _ _ ?_; (first | rfl | (simp only [size_one]; done))) | refine (blk_past _ _ (by simp only [size_one]; omega)).trans ?_)), (by repeat (first | (refine blk_at _ _ ?_; (first | rfl | (simp only [size_one]; done))) | refine (blk_past _ _ (by simp only [size_one]; omega)).trans ?_)), trivial⟩, 0, Nat.zero_le _, rfl⟩
  case round =>
    obtain ⟨hE, hA, i, hi, rfl⟩ := hrel
    by_cases hil : i < ms.length
    · obtain ⟨b1, o1, rfl, x0, x1, x2, x3, x4⟩ := H1.out i hil
      obtain ⟨b2, o2, rfl, y0, y1, y2, y3, y4⟩ := H3.out i hil
      generalize ms.getD i match0 = x at x0 x1 x2 x3 x4 y0 y1 y2 y3 y4
      replace x0 := hE.get x0
      replace x1 := hE.get x1
      replace x2 := hE.get x2
      replace x3 := hE.get x3
      replace x4 := hE.get x4
      replace y0 := hE.get y0
      replace y1 := hE.get y1
      replace y2 := hE.get y2
      replace y3 := hE.get y3
      replace y4 := hE.get y4
      have zx := World.block_lt_of_cell? _ _ x0
      have zy := World.block_lt_of_cell? _ _ y0
      simp only at zx zy
      have hili : (i : Int) < (ms.length : Int) := by omega
      obtain ⟨⟨z00, z01⟩, -⟩ := run_2 (At.at hA.out 0 rfl)
      obtain ⟨⟨z10, z11⟩, -⟩ := run_2 (At.at hA.out 1 rfl)
      have zz0 := At.lt hA.out 0 rfl
      have zy0 := Nat.lt_succ_of_lt zz0
      have zx0 := Nat.lt_succ_of_lt zy0
      have zz1 := At.lt hA.out 1 rfl
      have zy1 := Nat.lt_succ_of_lt zz1
      have zx1 := Nat.lt_succ_of_lt zy1
      go_wp2_with fail
      go_quiet (fail)
      have hb6 : Ext wr (wr.drewN nq) := (Ext.refl _).drewN nq
      generalize hw6 : wr.drewN nq = w6 at hb6 ⊢
      clear hw6
      have A6 := Lib.hid (At.ext hb6 hA.out)
      obtain ⟨⟨u00, u01⟩, -⟩ := run_2 (At.at A6.out 0 rfl)
      obtain ⟨⟨u10, u11⟩, -⟩ := run_2 (At.at A6.out 1 rfl)
      have yz0 := At.lt A6.out 0 rfl
      have yy0 := Nat.lt_succ_of_lt yz0
      have yx0 := Nat.lt_succ_of_lt yy0
      have yz1 := At.lt A6.out 1 rfl
      have yy1 := Nat.lt_succ_of_lt yz1
      have yx1 := Nat.lt_succ_of_lt yy1
      go_wp2
      go_roundw
      case rel => exact ⟨hE.trans hb6, A6, i + 1, by omega, by go_num⟩
      case measure => simp [intOf]; omega
    · obtain ⟨⟨z00, z01⟩, -⟩ := run_2 (At.at hA.out 0 rfl)
      obtain ⟨⟨z10, z11⟩, -⟩ := run_2 (At.at hA.out 1 rfl)
      have zz0 := At.lt hA.out 0 rfl
      have zy0 := Nat.lt_succ_of_lt zz0
      have zx0 := Nat.lt_succ_of_lt zy0
      have zz1 := At.lt hA.out 1 rfl
      have zy1 := Nat.lt_succ_of_lt zz1
      have zx1 := Nat.lt_succ_of_lt zy1
      have hii : i = ms.length := by omega
      subst hii
      go_wp2
      obtain ⟨wp, hwp⟩ : ∃ wp : World, wp = wr := ⟨_, rfl⟩
      subst hwp
      clear z00 z01 z10 z11 zz0 zy0 zx0 zz1 zy1 zx1
      go_loopw [6] (fun v wr => Ext w wr ∧ Hid (At wr [(w.heap.size + 1, Obj.cells #[.slice m2 ms.length mc2, .slice a2 ar.length ac2] 63), (w.heap.size, Obj.cells #[.slice m1 ms.length mc1, .slice a1 ar.length ac1] 63)]) ∧ ∃ i : Nat, i ≤ ar.length ∧ v = .int .i64 (i : Int)) (fun v _ => ar.length - (intOf v).toNat)
      case atStart => exact ⟨hE, hA, 0, Nat.zero_le _, rfl⟩
      case round =>
        clear hE hA
        obtain ⟨hE, hA, i, hi, rfl⟩ := hrel
        by_cases hil : i < ar.length
        · obtain ⟨b1, o1, rfl, x0, x1, x2, x3, x4, x5⟩ := H2.out i hil
          obtain ⟨b2, o2, rfl, y0, y1, y2, y3, y4, y5⟩ := H4.out i hil
          generalize ar.getD i area0 = x at x0 x1 x2 x3 x4 x5 y0 y1 y2 y3 y4 y5
          replace x0 := hE.get x0
          replace x1 := hE.get x1
          replace x2 := hE.get x2
          replace x3 := hE.get x3
          replace x4 := hE.get x4
          replace x5 := hE.get x5
          replace y0 := hE.get y0
          replace y1 := hE.get y1
          replace y2 := hE.get y2
          replace y3 := hE.get y3
          replace y4 := hE.get y4
          replace y5 := hE.get y5
          have zx := World.block_lt_of_cell? _ _ x0
          have zy := World.block_lt_of_cell? _ _ y0
          simp only at zx zy
          have hili : (i : Int) < (ar.length : Int) := by omega
          obtain ⟨⟨z00, z01⟩, -⟩ := run_2 (At.at hA.out 0 rfl)
          obtain ⟨⟨z10, z11⟩, -⟩ := run_2 (At.at hA.out 1 rfl)
          have zz0 := At.lt hA.out 0 rfl
          have zy0 := Nat.lt_succ_of_lt zz0
          have zx0 := Nat.lt_succ_of_lt zy0
          have zz1 := At.lt hA.out 1 rfl
          have zy1 := Nat.lt_succ_of_lt zz1
          have zx1 := Nat.lt_succ_of_lt zy1
          go_wp2_with fail
          go_quiet (fail)
          have hb6 : Ext wr (wr.drewN nq) := (Ext.refl _).drewN nq
          generalize hw6 : wr.drewN nq = w6 at hb6 ⊢
          clear hw6
          have A6 := Lib.hid (At.ext hb6 hA.out)
          obtain ⟨⟨u00, u01⟩, -⟩ := run_2 (At.at A6.out 0 rfl)
          obtain ⟨⟨u10, u11⟩, -⟩ := run_2 (At.at A6.out 1 rfl)
          have yz0 := At.lt A6.out 0 rfl
          have yy0 := Nat.lt_succ_of_lt yz0
          have yx0 := Nat.lt_succ_of_lt yy0
          have yz1 := At.lt A6.out 1 rfl
          have yy1 := Nat.lt_succ_of_lt yz1
          have yx1 := Nat.lt_succ_of_lt yy1
          go_wp2
          go_roundw
          case rel => exact ⟨hE.trans hb6, A6, i + 1, by omega, by go_num⟩
          case measure => simp [intOf]; omega
        · obtain ⟨⟨z00, z01⟩, -⟩ := run_2 (At.at hA.out 0 rfl)
          obtain ⟨⟨z10, z11⟩, -⟩ := run_2 (At.at hA.out 1 rfl)
          have zz0 := At.lt hA.out 0 rfl
          have zy0 := Nat.lt_succ_of_lt zz0
          have zx0 := Nat.lt_succ_of_lt zy0
          have zz1 := At.lt hA.out 1 rfl
          have zy1 := Nat.lt_succ_of_lt zz1
          have zx1 := Nat.lt_succ_of_lt zy1
          go_wp2
          go_ret
          exact ⟨rfl, hE⟩
set_option maxRecDepth 100000 in
set_option maxHeartbeats 8000000 in
theorem c113 (a : Area) (p : Pose) (w : World) : Calls Try.prog 113 #[areaVal a, poseVal p] w fun e w' => e = .returned (.bool (decide (a.Has p))) ∧ Ext w w' := by
  unfold areaVal poseVal
  by_cases h1 : a.turn = p.turn
  case neg =>
    have q1 : decide (a.turn = p.turn) = false := decide_eq_false h1
    have e1 : (a.turn == p.turn) = false := by simpa using h1
    have HR := Lib.hid (show decide (a.Has p) = false from decide_eq_false fun h => h1 h.1.1)
    clear h1
    go_enter Try.func113, Try.ntmps113
    go_wp2_with (go_at_call 61; (with_reducible refine (rwithin_same 61 (.inl rfl) _ _ _ _).mono ?_); rintro e w' ⟨rfl, rfl⟩)
    go_ret
    exact ⟨ret_bool HR.out.symm, (by repeat (first | exact Ext.refl _ | assumption | refine Ext.alloc ?_ _ | refine Ext.drewN ?_ _ | refine ext_grow ?_ _ _ | refine Ext.trans ?_ (by assumption)))⟩
  have q1 : decide (a.turn = p.turn) = true := decide_eq_true h1
  have e1 : (a.turn == p.turn) = true := by simpa using h1
  by_cases h2 : a.scale = p.scale
  case neg =>
    have q2 : decide (a.scale = p.scale) = false := decide_eq_false h2
    have e2 : (a.scale == p.scale) = false := by simpa using h2
    have HR := Lib.hid (show decide (a.Has p) = false from decide_eq_false fun h => h2 h.1.2)
    clear h2
    go_enter Try.func113, Try.ntmps113
    go_wp2_with (go_at_call 61; (with_reducible refine (rwithin_same 61 (.inl rfl) _ _ _ _).mono ?_); rintro e w' ⟨rfl, rfl⟩)
    go_ret
    exact ⟨ret_bool HR.out.symm, (by repeat (first | exact Ext.refl _ | assumption | refine Ext.alloc ?_ _ | refine Ext.drewN ?_ _ | refine ext_grow ?_ _ _ | refine Ext.trans ?_ (by assumption)))⟩
  have q2 : decide (a.scale = p.scale) = true := decide_eq_true h2
  have e2 : (a.scale == p.scale) = true := by simpa using h2
  by_cases h3 : a.x0 ≤ p.x ∧ p.x ≤ a.x1
  case neg =>
    have q3 : decide (a.x0 ≤ p.x ∧ p.x ≤ a.x1) = false := decide_eq_false h3
    have HR := Lib.hid (show decide (a.Has p) = false from decide_eq_false fun h => h3 h.2.1)
    clear h3
    go_enter Try.func113, Try.ntmps113
    go_wp2_with (go_at_call 61; (with_reducible refine (rwithin_same 61 (.inl rfl) _ _ _ _).mono ?_); rintro e w' ⟨rfl, rfl⟩)
    go_ret
    exact ⟨ret_bool HR.out.symm, (by repeat (first | exact Ext.refl _ | assumption | refine Ext.alloc ?_ _ | refine Ext.drewN ?_ _ | refine ext_grow ?_ _ _ | refine Ext.trans ?_ (by assumption)))⟩
  have q3 : decide (a.x0 ≤ p.x ∧ p.x ≤ a.x1) = true := decide_eq_true h3
  obtain ⟨c, hc⟩ : ∃ c, decide (a.y0 ≤ p.y ∧ p.y ≤ a.y1) = c := ⟨_, rfl⟩
  have HR := Lib.hid (show c = decide (a.Has p) by rw [← hc]; exact decide_eq_decide.2 ⟨fun h => ⟨⟨h1, h2⟩, h3, h⟩, fun h => h.2.2⟩)
  clear h1 h2 h3
  go_enter Try.func113, Try.ntmps113
  go_wp2_with (go_at_call 61; (with_reducible refine (rwithin_same 61 (.inl rfl) _ _ _ _).mono ?_); rintro e w' ⟨rfl, rfl⟩)
  go_ret
  exact ⟨ret_bool HR.out, (by repeat (first | exact Ext.refl _ | assumption | refine Ext.alloc ?_ _ | refine Ext.drewN ?_ _ | refine ext_grow ?_ _ _ | refine Ext.trans ?_ (by assumption)))⟩
end Go.Proofs.Ytipkjdfnoonpcaa

/- The reference's covers: the walk. -/
namespace Go.Proofs.Ytipkjdfnoonpcaa
open Go.RowKit Go.Sort

set_option maxRecDepth 100000 in
set_option maxHeartbeats 8000000 in
theorem c101 (ms : List Match) (ar : List Area) (mv av : Value) (p : Pose) (w : World) (h1 : MatchesAt w mv ms) (h2 : AreasAt w av ar) (n1 : ms.length ≤ 13000) (n2 : ar.length ≤ 13000) :
    Calls Try.prog 101 #[searchVal mv av, poseVal p] w fun e w' => e = .returned (.bool (decide (hits ms p + hasN ar p = 1))) ∧ Ext w w' := by
  obtain ⟨m1, mc1, rfl, b1, hc1⟩ := h1.form
  obtain ⟨a1, ac1, rfl, b2, hc2⟩ := h2.form
  have H1 := Lib.hid hc1
  have H2 := Lib.hid hc2
  unfold searchVal poseVal
  clear h1 h2 hc1 hc2
  go_enter Try.func101, Try.ntmps101
  go_wp2
  go_loopw [5, 6] (fun nv iv wr => Ext w wr ∧ Hid (At wr [(w.heap.size + 1, Obj.cells #[.int .i64 p.x, .int .i64 p.y, .int .i64 p.turn, .int .i64 p.scale] 45), (w.heap.size, Obj.cells #[.slice m1 ms.length mc1, .slice a1 ar.length ac1] 63)]) ∧ ∃ (i n : Nat), i ≤ ms.length ∧ iv = .int .i64 (i : Int) ∧ nv = .int .i64 (n : Int) ∧ n ≤ i ∧ Hid (hits (ms.take i) p = n)) (fun _ iv _ => ms.length - (intOf iv).toNat)
  case atStart => exact ⟨(by repeat (first | exact Ext.refl _ | assumption | refine Ext.alloc ?_ _ | refine Ext.drewN ?_ _ | refine ext_grow ?_ _ _ | refine Ext.trans ?_ (by assumption))), Lib.hid ⟨(by repeat (first | (refine blk_at _ _ ?_; (first | rfl | (simp only [size_one]; done))) | refine (blk_past _ _ (by simp only [size_one]; omega)).trans ?_)), (by repeat (first | (refine blk_at _ _ ?_; (first | rfl | (simp only [size_one]; done))) | refine (blk_past _ _ (by simp only [size_one]; omega)).trans ?_)), trivial⟩, 0, 0, Nat.zero_le _, rfl, rfl, Nat.le_refl _, Lib.hid rfl⟩
  case round =>
    obtain ⟨hE, hA, i, n, hi, rfl, rfl, hn, hN⟩ := hrel
    obtain ⟨⟨z00, z01, z02, z03⟩, -⟩ := run_4 (At.at hA.out 0 rfl)
    obtain ⟨⟨z10, z11⟩, -⟩ := run_2 (At.at hA.out 1 rfl)
    have zz0 := At.lt hA.out 0 rfl
    have zy0 := Nat.lt_succ_of_lt zz0
    have zx0 := Nat.lt_succ_of_lt zy0
    have zz1 := At.lt hA.out 1 rfl
    have zy1 := Nat.lt_succ_of_lt zz1
    have zx1 := Nat.lt_succ_of_lt zy1
    by_cases hil : i < ms.length
    · obtain ⟨b, off, rfl, x0, x1, x2, x3, x4⟩ := H1.out i hil
      obtain ⟨x, hx⟩ : ∃ x, ms.getD i match0 = x := ⟨_, rfl⟩
      rw [hx] at x0 x1 x2 x3 x4
      have HX := Lib.hid hx
      clear hx
      replace x0 := hE.get x0
      replace x1 := hE.get x1
      replace x2 := hE.get x2
      replace x3 := hE.get x3
      replace x4 := hE.get x4
      have zx := World.block_lt_of_cell? _ _ x0
      simp only at zx
      have hili : (i : Int) < (ms.length : Int) := by omega
      by_cases g0 : x.pose.x = p.x
      case neg =>
        have e0 : (x.pose.x == p.x) = false := by simpa using g0
        have hne : ¬ x.pose = p := fun h => g0 (by rw [h])
        have HS := Lib.hid (show hits (ms.take (i + 1)) p = n by rw [take_snoc_at match0 hil, HX.out]; unfold hits; rw [countP_snoc, if_neg (by simpa using hne)]; exact hN.out)
        go_wp2
        refine wp_region_quiet_below (by kernel_rfl) (by kernel_rfl) ?_
        repeat (go_big_quiet_step (fail))
        refine wpQuiet_nil ?_
        intro w6 hw'
        obtain ⟨pq, hw''⟩ := hw'
        have hbw6 := ext_of_regrown hw''
        clear hw'' pq
        have A6 := Lib.hid (show At w6 [(w.heap.size + 1, Obj.cells #[.int .i64 p.x, .int .i64 p.y, .int .i64 p.turn, .int .i64 p.scale] 45), (w.heap.size, Obj.cells #[.slice (some ⟨b, off, none⟩) ms.length mc1, .slice a1 ar.length ac1] 63)] from At.ext hbw6 hA.out)
        obtain ⟨⟨y00, y01, y02, y03⟩, -⟩ := run_4 (At.at A6.out 0 rfl)
        obtain ⟨⟨u10, u11⟩, -⟩ := run_2 (At.at A6.out 1 rfl)
        have yz0 := At.lt A6.out 0 rfl
        have yy0 := Nat.lt_succ_of_lt yz0
        have yx0 := Nat.lt_succ_of_lt yy0
        have yz1 := At.lt A6.out 1 rfl
        have yy1 := Nat.lt_succ_of_lt yz1
        have yx1 := Nat.lt_succ_of_lt yy1
        go_wp2
        go_roundw
        case rel => exact ⟨hE.trans hbw6, A6, i + 1, n, by omega, by go_num, by go_num, by omega, HS⟩
        case measure => simp [intOf]; omega
      have e0 : (x.pose.x == p.x) = true := by simpa using g0
      by_cases g1 : x.pose.y = p.y
      case neg =>
        have e1 : (x.pose.y == p.y) = false := by simpa using g1
        have hne : ¬ x.pose = p := fun h => g1 (by rw [h])
        have HS := Lib.hid (show hits (ms.take (i + 1)) p = n by rw [take_snoc_at match0 hil, HX.out]; unfold hits; rw [countP_snoc, if_neg (by simpa using hne)]; exact hN.out)
        go_wp2
        refine wp_region_quiet_below (by kernel_rfl) (by kernel_rfl) ?_
        repeat (go_big_quiet_step (fail))
        refine wpQuiet_nil ?_
        intro w6 hw'
        obtain ⟨pq, hw''⟩ := hw'
        have hbw6 := ext_of_regrown hw''
        clear hw'' pq
        have A6 := Lib.hid (show At w6 [(w.heap.size + 1, Obj.cells #[.int .i64 p.x, .int .i64 p.y, .int .i64 p.turn, .int .i64 p.scale] 45), (w.heap.size, Obj.cells #[.slice (some ⟨b, off, none⟩) ms.length mc1, .slice a1 ar.length ac1] 63)] from At.ext hbw6 hA.out)
        obtain ⟨⟨y00, y01, y02, y03⟩, -⟩ := run_4 (At.at A6.out 0 rfl)
        obtain ⟨⟨u10, u11⟩, -⟩ := run_2 (At.at A6.out 1 rfl)
        have yz0 := At.lt A6.out 0 rfl
        have yy0 := Nat.lt_succ_of_lt yz0
        have yx0 := Nat.lt_succ_of_lt yy0
        have yz1 := At.lt A6.out 1 rfl
        have yy1 := Nat.lt_succ_of_lt yz1
        have yx1 := Nat.lt_succ_of_lt yy1
        go_wp2
        go_roundw
        case rel => exact ⟨hE.trans hbw6, A6, i + 1, n, by omega, by go_num, by go_num, by omega, HS⟩
        case measure => simp [intOf]; omega
      have e1 : (x.pose.y == p.y) = true := by simpa using g1
      by_cases g2 : x.pose.turn = p.turn
      case neg =>
        have e2 : (x.pose.turn == p.turn) = false := by simpa using g2
        have hne : ¬ x.pose = p := fun h => g2 (by rw [h])
        have HS := Lib.hid (show hits (ms.take (i + 1)) p = n by rw [take_snoc_at match0 hil, HX.out]; unfold hits; rw [countP_snoc, if_neg (by simpa using hne)]; exact hN.out)
        go_wp2
        refine wp_region_quiet_below (by kernel_rfl) (by kernel_rfl) ?_
        repeat (go_big_quiet_step (fail))
        refine wpQuiet_nil ?_
        intro w6 hw'
        obtain ⟨pq, hw''⟩ := hw'
        have hbw6 := ext_of_regrown hw''
        clear hw'' pq
        have A6 := Lib.hid (show At w6 [(w.heap.size + 1, Obj.cells #[.int .i64 p.x, .int .i64 p.y, .int .i64 p.turn, .int .i64 p.scale] 45), (w.heap.size, Obj.cells #[.slice (some ⟨b, off, none⟩) ms.length mc1, .slice a1 ar.length ac1] 63)] from At.ext hbw6 hA.out)
        obtain ⟨⟨y00, y01, y02, y03⟩, -⟩ := run_4 (At.at A6.out 0 rfl)
        obtain ⟨⟨u10, u11⟩, -⟩ := run_2 (At.at A6.out 1 rfl)
        have yz0 := At.lt A6.out 0 rfl
        have yy0 := Nat.lt_succ_of_lt yz0
        have yx0 := Nat.lt_succ_of_lt yy0
        have yz1 := At.lt A6.out 1 rfl
        have yy1 := Nat.lt_succ_of_lt yz1
        have yx1 := Nat.lt_succ_of_lt yy1
        go_wp2
        go_roundw
        case rel => exact ⟨hE.trans hbw6, A6, i + 1, n, by omega, by go_num, by go_num, by omega, HS⟩
        case measure => simp [intOf]; omega
      have e2 : (x.pose.turn == p.turn) = true := by simpa using g2
      by_cases g3 : x.pose.scale = p.scale
      case neg =>
        have e3 : (x.pose.scale == p.scale) = false := by simpa using g3
        have hne : ¬ x.pose = p := fun h => g3 (by rw [h])
        have HS := Lib.hid (show hits (ms.take (i + 1)) p = n by rw [take_snoc_at match0 hil, HX.out]; unfold hits; rw [countP_snoc, if_neg (by simpa using hne)]; exact hN.out)
        go_wp2
        refine wp_region_quiet_below (by kernel_rfl) (by kernel_rfl) ?_
        repeat (go_big_quiet_step (fail))
        refine wpQuiet_nil ?_
        intro w6 hw'
        obtain ⟨pq, hw''⟩ := hw'
        have hbw6 := ext_of_regrown hw''
        clear hw'' pq
        have A6 := Lib.hid (show At w6 [(w.heap.size + 1, Obj.cells #[.int .i64 p.x, .int .i64 p.y, .int .i64 p.turn, .int .i64 p.scale] 45), (w.heap.size, Obj.cells #[.slice (some ⟨b, off, none⟩) ms.length mc1, .slice a1 ar.length ac1] 63)] from At.ext hbw6 hA.out)
        obtain ⟨⟨y00, y01, y02, y03⟩, -⟩ := run_4 (At.at A6.out 0 rfl)
        obtain ⟨⟨u10, u11⟩, -⟩ := run_2 (At.at A6.out 1 rfl)
        have yz0 := At.lt A6.out 0 rfl
        have yy0 := Nat.lt_succ_of_lt yz0
        have yx0 := Nat.lt_succ_of_lt yy0
        have yz1 := At.lt A6.out 1 rfl
        have yy1 := Nat.lt_succ_of_lt yz1
        have yx1 := Nat.lt_succ_of_lt yy1
        go_wp2
        go_roundw
        case rel => exact ⟨hE.trans hbw6, A6, i + 1, n, by omega, by go_num, by go_num, by omega, HS⟩
        case measure => simp [intOf]; omega
      have e3 : (x.pose.scale == p.scale) = true := by simpa using g3
      have heq : x.pose = p := by
        obtain ⟨⟨x0, x1, x2, x3⟩, x4⟩ := x
        obtain ⟨p0, p1, p2, p3⟩ := p
        simp only [Pose.mk.injEq] at *
        exact ⟨g0, g1, g2, g3⟩
      have HS := Lib.hid (show hits (ms.take (i + 1)) p = n + 1 by rw [take_snoc_at match0 hil, HX.out]; unfold hits; rw [countP_snoc, if_pos (by simpa using heq)]; exact congrArg (· + 1) hN.out)
      go_wp2
      refine wp_region_quiet_below (by kernel_rfl) (by kernel_rfl) ?_
      repeat (go_big_quiet_step (fail))
      refine wpQuiet_nil ?_
      intro w6 hw'
      obtain ⟨pq, hw''⟩ := hw'
      have hbw6 := ext_of_regrown hw''
      clear hw'' pq
      have A6 := Lib.hid (show At w6 [(w.heap.size + 1, Obj.cells #[.int .i64 p.x, .int .i64 p.y, .int .i64 p.turn, .int .i64 p.scale] 45), (w.heap.size, Obj.cells #[.slice (some ⟨b, off, none⟩) ms.length mc1, .slice a1 ar.length ac1] 63)] from At.ext hbw6 hA.out)
      obtain ⟨⟨y00, y01, y02, y03⟩, -⟩ := run_4 (At.at A6.out 0 rfl)
      obtain ⟨⟨u10, u11⟩, -⟩ := run_2 (At.at A6.out 1 rfl)
      have yz0 := At.lt A6.out 0 rfl
      have yy0 := Nat.lt_succ_of_lt yz0
      have yx0 := Nat.lt_succ_of_lt yy0
      have yz1 := At.lt A6.out 1 rfl
      have yy1 := Nat.lt_succ_of_lt yz1
      have yx1 := Nat.lt_succ_of_lt yy1
      go_wp2
      go_roundw
      case rel => exact ⟨hE.trans hbw6, A6, i + 1, n + 1, by omega, by go_num, by go_num, by omega, HS⟩
      case measure => simp [intOf]; omega
    · have hii : i = ms.length := by omega
      subst hii
      have HN1 := Lib.hid (show hits ms p = n by have h9 := hN.out; rw [List.take_length] at h9; exact h9)
      obtain ⟨n0, hn0⟩ : ∃ n0 : Nat, n0 = n := ⟨_, rfl⟩
      subst hn0
      go_wp2
      obtain ⟨wp, hwp⟩ : ∃ wp : World, wp = wr := ⟨_, rfl⟩
      subst hwp
      clear z00 z01 z02 z03 z10 z11 zz0 zy0 zx0 zz1 zy1 zx1
      go_loopw [5, 7] (fun nv iv wr => Ext w wr ∧ Hid (At wr [(w.heap.size + 1, Obj.cells #[.int .i64 p.x, .int .i64 p.y, .int .i64 p.turn, .int .i64 p.scale] 45), (w.heap.size, Obj.cells #[.slice m1 ms.length mc1, .slice a1 ar.length ac1] 63)]) ∧ ∃ (i n : Nat), i ≤ ar.length ∧ iv = .int .i64 (i : Int) ∧ nv = .int .i64 (n : Int) ∧ n ≤ ms.length + i ∧ Hid (hits ms p + hasN (ar.take i) p = n)) (fun _ iv _ => ar.length - (intOf iv).toNat)
      case atStart => exact ⟨hE, hA, 0, n0, Nat.zero_le _, rfl, rfl, by omega, Lib.hid (by rw [HN1.out]; rfl)⟩
      case round =>
        clear hE hA hN hn
        obtain ⟨hE, hA, i, n, hi, rfl, rfl, hn, hN⟩ := hrel
        obtain ⟨⟨z00, z01, z02, z03⟩, -⟩ := run_4 (At.at hA.out 0 rfl)
        obtain ⟨⟨z10, z11⟩, -⟩ := run_2 (At.at hA.out 1 rfl)
        have zz0 := At.lt hA.out 0 rfl
        have zy0 := Nat.lt_succ_of_lt zz0
        have zx0 := Nat.lt_succ_of_lt zy0
        have zz1 := At.lt hA.out 1 rfl
        have zy1 := Nat.lt_succ_of_lt zz1
        have zx1 := Nat.lt_succ_of_lt zy1
        by_cases hil : i < ar.length
        · obtain ⟨b, off, rfl, x0, x1, x2, x3, x4, x5⟩ := H2.out i hil
          obtain ⟨x, hx⟩ : ∃ x, ar.getD i area0 = x := ⟨_, rfl⟩
          rw [hx] at x0 x1 x2 x3 x4 x5
          have HX := Lib.hid hx
          clear hx
          replace x0 := hE.get x0
          replace x1 := hE.get x1
          replace x2 := hE.get x2
          replace x3 := hE.get x3
          replace x4 := hE.get x4
          replace x5 := hE.get x5
          have zx := World.block_lt_of_cell? _ _ x0
          simp only at zx
          have hili : (i : Int) < (ar.length : Int) := by omega
          have K113 := Lib.hid (fun w' => c113 x p w')
          unfold areaVal poseVal at K113
          by_cases hh : x.Has p
          case neg =>
            have q1 : decide (x.Has p) = false := decide_eq_false hh
            rw [q1] at K113
            have HS := Lib.hid (show hits ms p + hasN (ar.take (i + 1)) p = n by rw [take_snoc_at area0 hil, HX.out]; unfold hasN; rw [countP_snoc, if_neg (by simpa using hh)]; exact hN.out)
            go_wp2
            refine wp_region_quiet_below (by kernel_rfl) (by kernel_rfl) ?_
            repeat (go_big_quiet_step ((go_at_call 113; with_reducible exact Calls.ext_of (K113.out _))))
            refine wpQuiet_nil ?_
            intro w6 hw'
            obtain ⟨pq, hw''⟩ := hw'
            have hbw6 := ext_of_regrown hw''
            clear hw'' pq
            have A6 := Lib.hid (show At w6 [(w.heap.size + 1, Obj.cells #[.int .i64 p.x, .int .i64 p.y, .int .i64 p.turn, .int .i64 p.scale] 45), (w.heap.size, Obj.cells #[.slice m1 ms.length mc1, .slice (some ⟨b, off, none⟩) ar.length ac1] 63)] from At.ext hbw6 hA.out)
            obtain ⟨⟨y00, y01, y02, y03⟩, -⟩ := run_4 (At.at A6.out 0 rfl)
            obtain ⟨⟨u10, u11⟩, -⟩ := run_2 (At.at A6.out 1 rfl)
            have yz0 := At.lt A6.out 0 rfl
            have yy0 := Nat.lt_succ_of_lt yz0
            have yx0 := Nat.lt_succ_of_lt yy0
            have yz1 := At.lt A6.out 1 rfl
            have yy1 := Nat.lt_succ_of_lt yz1
            have yx1 := Nat.lt_succ_of_lt yy1
            go_wp2
            go_roundw
            case rel => exact ⟨hE.trans hbw6, A6, i + 1, n, by omega, by go_num, by go_num, by omega, HS⟩
            case measure => simp [intOf]; omega
          have q1 : decide (x.Has p) = true := decide_eq_true hh
          rw [q1] at K113
          have HS := Lib.hid (show hits ms p + hasN (ar.take (i + 1)) p = n + 1 by rw [take_snoc_at area0 hil, HX.out]; unfold hasN; rw [countP_snoc, if_pos (by simpa using hh)]; exact congrArg (· + 1) hN.out)
          go_wp2
          refine wp_region_quiet_below (by kernel_rfl) (by kernel_rfl) ?_
          repeat (go_big_quiet_step ((go_at_call 113; with_reducible exact Calls.ext_of (K113.out _))))
          refine wpQuiet_nil ?_
          intro w6 hw'
          obtain ⟨pq, hw''⟩ := hw'
          have hbw6 := ext_of_regrown hw''
          clear hw'' pq
          have A6 := Lib.hid (show At w6 [(w.heap.size + 1, Obj.cells #[.int .i64 p.x, .int .i64 p.y, .int .i64 p.turn, .int .i64 p.scale] 45), (w.heap.size, Obj.cells #[.slice m1 ms.length mc1, .slice (some ⟨b, off, none⟩) ar.length ac1] 63)] from At.ext hbw6 hA.out)
          obtain ⟨⟨y00, y01, y02, y03⟩, -⟩ := run_4 (At.at A6.out 0 rfl)
          obtain ⟨⟨u10, u11⟩, -⟩ := run_2 (At.at A6.out 1 rfl)
          have yz0 := At.lt A6.out 0 rfl
          have yy0 := Nat.lt_succ_of_lt yz0
          have yx0 := Nat.lt_succ_of_lt yy0
          have yz1 := At.lt A6.out 1 rfl
          have yy1 := Nat.lt_succ_of_lt yz1
          have yx1 := Nat.lt_succ_of_lt yy1
          go_wp2
          go_roundw
          case rel => exact ⟨hE.trans hbw6, A6, i + 1, n + 1, by omega, by go_num, by go_num, by omega, HS⟩
          case measure => simp [intOf]; omega
        · have HF := Lib.hid (show decide ((n : Int) = 1) = decide (hits ms p + hasN ar p = 1) by
            have h9 := hN.out
            rw [List.take_of_length_le (by omega)] at h9
            exact decide_eq_decide.2 (by omega))
          obtain ⟨c, hc⟩ : ∃ c, ((n : Int) == 1) = c := ⟨_, rfl⟩
          have HC := Lib.hid (show c = decide ((n : Int) = 1) by rw [← hc]; rfl)
          go_wp2
          go_ret
          exact ⟨ret_bool (HC.out.trans HF.out), hE⟩
end Go.Proofs.Ytipkjdfnoonpcaa

/- The reference's proved searches: the walk. -/
namespace Go.Proofs.Ytipkjdfnoonpcaa
open Go.RowKit Go.Sort

set_option maxRecDepth 100000 in
set_option maxHeartbeats 16000000 in
theorem c74 (m : Img) (v : Value) (t : Tpl) (tv : Value) (limit : Int) (ms : List Match) (ar : List Area) (mv av : Value) (w : World) (hm : m.Camera) (ht : t.Ok) (hv : IntsAt w v m.pix) (htv : IntsAt w tv t.pix) (h1 : MatchesAt w mv ms) (h2 : AreasAt w av ar) (n1 : ms.length ≤ 13000) (n2 : ar.length ≤ 13000) :
    Calls Try.prog 74 #[imgVal m v, tplVal t tv, .int .i64 limit, searchVal mv av] w fun e w' => ∃ c, e = .returned (.bool c) ∧ (c = true ↔ Proved m t limit ms ar) ∧ Ext w w' := by
  have HV := Lib.hid hv
  have HTV := Lib.hid htv
  have HM := Lib.hid hm
  have HT := Lib.hid ht
  have HMS := Lib.hid h1
  have HAR := Lib.hid h2
  obtain ⟨mo, mc, rfl, -, -⟩ := hv.form
  obtain ⟨to, tc, rfl, -, -⟩ := htv.form
  obtain ⟨m1, mc1, rfl, -, hc1⟩ := h1.form
  obtain ⟨a1, ac1, rfl, -, hc2⟩ := h2.form
  have H1 := Lib.hid hc1
  have H2 := Lib.hid hc2
  obtain ⟨l1, l2⟩ := Img.len_bd hm.1
  obtain ⟨⟨w1, w2⟩, ⟨w3, w4⟩, -⟩ := hm.1
  unfold imgVal tplVal searchVal
  clear hv htv hm ht hc1 hc2 h1 h2
  go_enter Try.func74, Try.ntmps74
  go_wp2
  go_loopw [9] (fun v wr => Ext w wr ∧ Hid (At wr [(w.heap.size + 1 + 1, Obj.cells #[.slice m1 ms.length mc1, .slice a1 ar.length ac1] 63), (w.heap.size + 1, Obj.cells #[.int .i64 t.w, .int .i64 t.h, .slice to t.pix.length tc] 43), (w.heap.size, Obj.cells #[.int .i64 m.w, .int .i64 m.h, .slice mo m.pix.length mc] 24)]) ∧ ∃ i : Nat, i ≤ ms.length ∧ v = .int .i64 (i : Int) ∧ Hid (∀ x ∈ ms.take i, MatchOk m t limit x)) (fun v _ => ms.length - (intOf v).toNat)
  case atStart => exact ⟨(by repeat (first | exact Ext.refl _ | assumption | refine Ext.alloc ?_ _ | refine Ext.drewN ?_ _ | refine ext_grow ?_ _ _ | refine Ext.trans ?_ (by assumption))), Lib.hid ⟨(by repeat (first | (refine blk_at _ _ ?_; (first | rfl | (simp only [size_one]; done))) | refine (blk_past _ _ (by simp only [size_one]; omega)).trans ?_)), (by repeat (first | (refine blk_at _ _ ?_; (first | rfl | (simp only [size_one]; done))) | refine (blk_past _ _ (by simp only [size_one]; omega)).trans ?_)), (by repeat (first | (refine blk_at _ _ ?_; (first | rfl | (simp only [size_one]; done))) | refine (blk_past _ _ (by simp only [size_one]; omega)).trans ?_)), trivial⟩, 0, Nat.zero_le _, rfl, Lib.hid (fun x hx => by simp at hx)⟩
  case round =>
    obtain ⟨hE, hA, i, hi, rfl, hI⟩ := hrel
    obtain ⟨⟨z00, z01⟩, -⟩ := run_2 (At.at hA.out 0 rfl)
    obtain ⟨⟨z10, z11, z12⟩, -⟩ := run_3 (At.at hA.out 1 rfl)
    obtain ⟨⟨z20, z21, z22⟩, -⟩ := run_3 (At.at hA.out 2 rfl)
    have zz0 := At.lt hA.out 0 rfl
    have zy0 := Nat.lt_succ_of_lt zz0
    have zx0 := Nat.lt_succ_of_lt zy0
    have zz1 := At.lt hA.out 1 rfl
    have zy1 := Nat.lt_succ_of_lt zz1
    have zx1 := Nat.lt_succ_of_lt zy1
    have zz2 := At.lt hA.out 2 rfl
    have zy2 := Nat.lt_succ_of_lt zz2
    have zx2 := Nat.lt_succ_of_lt zy2
    by_cases hil : i < ms.length
    · obtain ⟨b, off, rfl, x0, x1, x2, x3, x4⟩ := H1.out i hil
      have HMEM := Lib.hid (getD_mem_at match0 hil)
      obtain ⟨x, hx⟩ : ∃ x, ms.getD i match0 = x := ⟨_, rfl⟩
      rw [hx] at x0 x1 x2 x3 x4 HMEM
      have HX := Lib.hid hx
      clear hx
      replace x0 := hE.get x0
      replace x1 := hE.get x1
      replace x2 := hE.get x2
      replace x3 := hE.get x3
      replace x4 := hE.get x4
      have zx := World.block_lt_of_cell? _ _ x0
      simp only at zx
      have hili : (i : Int) < (ms.length : Int) := by omega
      have K65 := Lib.hid (fun w' => c65 m (.slice mo m.pix.length mc) x.pose w' HM.out.1 ⟨_, _, _, rfl⟩)
      unfold imgVal poseVal at K65
      by_cases g0 : x.pose.area.Ok m
      case neg =>
        have q0 : decide (x.pose.area.Ok m) = false := decide_eq_false g0
        rw [q0] at K65
        have K66 := K65
        have HR := Lib.hid (show ¬ Proved m t limit ms ar from fun h => by have h9 := h.1 _ HMEM.out; exact g0 h9.1)
        go_wp2
        refine wp_region_quiet_below (by kernel_rfl) (by kernel_rfl) ?_
        repeat (go_big_quiet_step ((first | (go_at_call 66; with_reducible exact Calls.ext_of (K66.out _ (by repeat (first | exact Ext.refl _ | assumption | refine Ext.alloc ?_ _ | refine Ext.drewN ?_ _ | refine ext_grow ?_ _ _ | refine Ext.trans ?_ (by assumption))))) | (go_at_call 65; with_reducible exact Calls.ext_of (K65.out _)))))
        refine wpQuiet_nil ?_
        intro w6 hw'
        obtain ⟨pq, hw''⟩ := hw'
        have hbw6 := ext_of_regrown hw''
        clear hw'' pq
        go_wp2
        go_ret
        exact ⟨false, rfl, ⟨fun h => (by cases h), fun h => absurd h HR.out⟩, (hE.alloc _).trans hbw6⟩
      have q0 : decide (x.pose.area.Ok m) = true := decide_eq_true g0
      rw [q0] at K65
      have K66 := Lib.hid (fun w' (h : Ext w w') => c66 m _ t _ x.pose w' HM.out HT.out (HV.out.ext h) (HTV.out.ext h) g0)
      obtain ⟨bd, hbd⟩ : ∃ bd, bound m t x.pose.area = bd := ⟨_, rfl⟩
      rw [hbd] at K66
      unfold imgVal tplVal poseVal at K66
      have HB := Lib.hid hbd
      clear hbd q0
      by_cases g1 : limit < x.dist
      · have q1 : decide (limit < x.dist) = true := decide_eq_true g1
        have HR := Lib.hid (show ¬ Proved m t limit ms ar from fun h => by have h9 := h.1 _ HMEM.out; exact absurd h9.2.1 (by omega))
        go_wp2
        refine wp_region_quiet_below (by kernel_rfl) (by kernel_rfl) ?_
        repeat (go_big_quiet_step ((first | (go_at_call 66; with_reducible exact Calls.ext_of (K66.out _ (by repeat (first | exact Ext.refl _ | assumption | refine Ext.alloc ?_ _ | refine Ext.drewN ?_ _ | refine ext_grow ?_ _ _ | refine Ext.trans ?_ (by assumption))))) | (go_at_call 65; with_reducible exact Calls.ext_of (K65.out _)))))
        refine wpQuiet_nil ?_
        intro w6 hw'
        obtain ⟨pq, hw''⟩ := hw'
        have hbw6 := ext_of_regrown hw''
        clear hw'' pq
        go_wp2
        go_ret
        exact ⟨false, rfl, ⟨fun h => (by cases h), fun h => absurd h HR.out⟩, (hE.alloc _).trans hbw6⟩
      have q1 : decide (limit < x.dist) = false := decide_eq_false g1
      by_cases g2 : bd = x.dist
      case neg =>
        have q2 : (bd != x.dist) = true := by simpa using g2
        have HR := Lib.hid (show ¬ Proved m t limit ms ar from fun h => by have h9 := h.1 _ HMEM.out; exact g2 (HB.out.symm.trans h9.2.2))
        go_wp2
        refine wp_region_quiet_below (by kernel_rfl) (by kernel_rfl) ?_
        repeat (go_big_quiet_step ((first | (go_at_call 66; with_reducible exact Calls.ext_of (K66.out _ (by repeat (first | exact Ext.refl _ | assumption | refine Ext.alloc ?_ _ | refine Ext.drewN ?_ _ | refine ext_grow ?_ _ _ | refine Ext.trans ?_ (by assumption))))) | (go_at_call 65; with_reducible exact Calls.ext_of (K65.out _)))))
        refine wpQuiet_nil ?_
        intro w6 hw'
        obtain ⟨pq, hw''⟩ := hw'
        have hbw6 := ext_of_regrown hw''
        clear hw'' pq
        go_wp2
        go_ret
        exact ⟨false, rfl, ⟨fun h => (by cases h), fun h => absurd h HR.out⟩, (hE.alloc _).trans hbw6⟩
      have q2 : (bd != x.dist) = false := by simpa using g2
      have HS := Lib.hid (show ∀ y ∈ ms.take (i + 1), MatchOk m t limit y by
        rw [take_snoc_at match0 hil, HX.out]
        intro y hy
        rcases List.mem_append.1 hy with hy | hy
        · exact hI.out y hy
        · rw [List.mem_singleton.1 hy]
          exact ⟨g0, by omega, HB.out.trans g2⟩)
      go_wp2
      refine wp_region_quiet_below (by kernel_rfl) (by kernel_rfl) ?_
      repeat (go_big_quiet_step ((first | (go_at_call 66; with_reducible exact Calls.ext_of (K66.out _ (by repeat (first | exact Ext.refl _ | assumption | refine Ext.alloc ?_ _ | refine Ext.drewN ?_ _ | refine ext_grow ?_ _ _ | refine Ext.trans ?_ (by assumption))))) | (go_at_call 65; with_reducible exact Calls.ext_of (K65.out _)))))
      refine wpQuiet_nil ?_
      intro w6 hw'
      obtain ⟨pq, hw''⟩ := hw'
      have hbw6 := ext_of_regrown hw''
      clear hw'' pq
      have A6 := Lib.hid (show At w6 [(w.heap.size + 1 + 1, Obj.cells #[.slice (some ⟨b, off, none⟩) ms.length mc1, .slice a1 ar.length ac1] 63), (w.heap.size + 1, Obj.cells #[.int .i64 t.w, .int .i64 t.h, .slice to t.pix.length tc] 43), (w.heap.size, Obj.cells #[.int .i64 m.w, .int .i64 m.h, .slice mo m.pix.length mc] 24)] from At.ext ((Ext.alloc (Ext.refl _) _).trans hbw6) hA.out)
      have E6 := Lib.hid ((hE.alloc _).trans hbw6)
      obtain ⟨⟨u00, u01⟩, -⟩ := run_2 (At.at A6.out 0 rfl)
      obtain ⟨⟨u10, u11, u12⟩, -⟩ := run_3 (At.at A6.out 1 rfl)
      obtain ⟨⟨u20, u21, u22⟩, -⟩ := run_3 (At.at A6.out 2 rfl)
      have yz0 := At.lt A6.out 0 rfl
      have yy0 := Nat.lt_succ_of_lt yz0
      have yx0 := Nat.lt_succ_of_lt yy0
      have yz1 := At.lt A6.out 1 rfl
      have yy1 := Nat.lt_succ_of_lt yz1
      have yx1 := Nat.lt_succ_of_lt yy1
      have yz2 := At.lt A6.out 2 rfl
      have yy2 := Nat.lt_succ_of_lt yz2
      have yx2 := Nat.lt_succ_of_lt yy2
      go_wp2
      go_roundw
      case rel => exact ⟨E6.out, A6, i + 1, by omega, by go_num, HS⟩
      case measure => simp [intOf]; omega
    · have hii : i = ms.length := by omega
      have HI1 := Lib.hid (show ∀ x ∈ ms, MatchOk m t limit x by have h9 := hI.out; rw [List.take_of_length_le (by omega)] at h9; exact h9)
      clear hI
      subst hii
      go_wp2
      obtain ⟨wp, hwp⟩ : ∃ wp : World, wp = wr := ⟨_, rfl⟩
      subst hwp
      clear z00 z01 z10 z11 z12 z20 z21 z22 zz0 zy0 zx0 zz1 zy1 zx1 zz2 zy2 zx2
      go_loopw [11] (fun v wr => Ext w wr ∧ Hid (At wr [(w.heap.size + 1 + 1, Obj.cells #[.slice m1 ms.length mc1, .slice a1 ar.length ac1] 63), (w.heap.size + 1, Obj.cells #[.int .i64 t.w, .int .i64 t.h, .slice to t.pix.length tc] 43), (w.heap.size, Obj.cells #[.int .i64 m.w, .int .i64 m.h, .slice mo m.pix.length mc] 24)]) ∧ ∃ i : Nat, i ≤ ar.length ∧ v = .int .i64 (i : Int) ∧ Hid (∀ x ∈ ar.take i, AreaOk m t limit x)) (fun v _ => ar.length - (intOf v).toNat)
      case atStart => exact ⟨hE, hA, 0, Nat.zero_le _, rfl, Lib.hid (fun x hx => by simp at hx)⟩
      case round =>
        clear hE hA
        obtain ⟨hE, hA, i, hi, rfl, hI⟩ := hrel
        obtain ⟨⟨z00, z01⟩, -⟩ := run_2 (At.at hA.out 0 rfl)
        obtain ⟨⟨z10, z11, z12⟩, -⟩ := run_3 (At.at hA.out 1 rfl)
        obtain ⟨⟨z20, z21, z22⟩, -⟩ := run_3 (At.at hA.out 2 rfl)
        have zz0 := At.lt hA.out 0 rfl
        have zy0 := Nat.lt_succ_of_lt zz0
        have zx0 := Nat.lt_succ_of_lt zy0
        have zz1 := At.lt hA.out 1 rfl
        have zy1 := Nat.lt_succ_of_lt zz1
        have zx1 := Nat.lt_succ_of_lt zy1
        have zz2 := At.lt hA.out 2 rfl
        have zy2 := Nat.lt_succ_of_lt zz2
        have zx2 := Nat.lt_succ_of_lt zy2
        by_cases hil : i < ar.length
        · obtain ⟨b, off, rfl, x0, x1, x2, x3, x4, x5⟩ := H2.out i hil
          have HMEM := Lib.hid (getD_mem_at area0 hil)
          obtain ⟨x, hx⟩ : ∃ x, ar.getD i area0 = x := ⟨_, rfl⟩
          rw [hx] at x0 x1 x2 x3 x4 x5 HMEM
          have HX := Lib.hid hx
          clear hx
          replace x0 := hE.get x0
          replace x1 := hE.get x1
          replace x2 := hE.get x2
          replace x3 := hE.get x3
          replace x4 := hE.get x4
          replace x5 := hE.get x5
          have zx := World.block_lt_of_cell? _ _ x0
          simp only at zx
          have hili : (i : Int) < (ar.length : Int) := by omega
          have K71 := Lib.hid (fun w' => c71 m (.slice mo m.pix.length mc) x w' HM.out.1 ⟨_, _, _, rfl⟩)
          unfold imgVal areaVal at K71
          by_cases g0 : x.Ok m
          case neg =>
            have q0 : decide (x.Ok m) = false := decide_eq_false g0
            rw [q0] at K71
            have K72 := K71
            have HR := Lib.hid (show ¬ Proved m t limit ms ar from fun h => by have h9 := h.2.1 _ HMEM.out; exact g0 h9.1)
            go_wp2
            refine wp_region_quiet_below (by kernel_rfl) (by kernel_rfl) ?_
            repeat (go_big_quiet_step ((first | (go_at_call 72; with_reducible exact Calls.ext_of (K72.out _ (by repeat (first | exact Ext.refl _ | assumption | refine Ext.alloc ?_ _ | refine Ext.drewN ?_ _ | refine ext_grow ?_ _ _ | refine Ext.trans ?_ (by assumption))))) | (go_at_call 71; with_reducible exact Calls.ext_of (K71.out _)))))
            refine wpQuiet_nil ?_
            intro w6 hw'
            obtain ⟨pq, hw''⟩ := hw'
            have hbw6 := ext_of_regrown hw''
            clear hw'' pq
            go_wp2
            go_ret
            exact ⟨false, rfl, ⟨fun h => (by cases h), fun h => absurd h HR.out⟩, hE.trans hbw6⟩
          have q0 : decide (x.Ok m) = true := decide_eq_true g0
          rw [q0] at K71
          have K72 := Lib.hid (fun w' (h : Ext w w') => c72 m _ t _ x w' HM.out HT.out (HV.out.ext h) (HTV.out.ext h) g0)
          obtain ⟨bd, hbd⟩ : ∃ bd, bound m t x = bd := ⟨_, rfl⟩
          rw [hbd] at K72
          unfold imgVal tplVal areaVal at K72
          have HB := Lib.hid hbd
          clear hbd q0
          by_cases g1 : bd ≤ limit
          · have q1 : decide (bd ≤ limit) = true := decide_eq_true g1
            have HR := Lib.hid (show ¬ Proved m t limit ms ar from fun h => by have h9 := h.2.1 _ HMEM.out; have h8 := h9.2; rw [HB.out] at h8; omega)
            go_wp2
            refine wp_region_quiet_below (by kernel_rfl) (by kernel_rfl) ?_
            repeat (go_big_quiet_step ((first | (go_at_call 72; with_reducible exact Calls.ext_of (K72.out _ (by repeat (first | exact Ext.refl _ | assumption | refine Ext.alloc ?_ _ | refine Ext.drewN ?_ _ | refine ext_grow ?_ _ _ | refine Ext.trans ?_ (by assumption))))) | (go_at_call 71; with_reducible exact Calls.ext_of (K71.out _)))))
            refine wpQuiet_nil ?_
            intro w6 hw'
            obtain ⟨pq, hw''⟩ := hw'
            have hbw6 := ext_of_regrown hw''
            clear hw'' pq
            go_wp2
            go_ret
            exact ⟨false, rfl, ⟨fun h => (by cases h), fun h => absurd h HR.out⟩, hE.trans hbw6⟩
          have q1 : decide (bd ≤ limit) = false := decide_eq_false g1
          have HS := Lib.hid (show ∀ y ∈ ar.take (i + 1), AreaOk m t limit y by
            rw [take_snoc_at area0 hil, HX.out]
            intro y hy
            rcases List.mem_append.1 hy with hy | hy
            · exact hI.out y hy
            · rw [List.mem_singleton.1 hy]
              exact ⟨g0, by rw [HB.out]; omega⟩)
          go_wp2
          refine wp_region_quiet_below (by kernel_rfl) (by kernel_rfl) ?_
          repeat (go_big_quiet_step ((first | (go_at_call 72; with_reducible exact Calls.ext_of (K72.out _ (by repeat (first | exact Ext.refl _ | assumption | refine Ext.alloc ?_ _ | refine Ext.drewN ?_ _ | refine ext_grow ?_ _ _ | refine Ext.trans ?_ (by assumption))))) | (go_at_call 71; with_reducible exact Calls.ext_of (K71.out _)))))
          refine wpQuiet_nil ?_
          intro w6 hw'
          obtain ⟨pq, hw''⟩ := hw'
          have hbw6 := ext_of_regrown hw''
          clear hw'' pq
          have A6 := Lib.hid (show At w6 [(w.heap.size + 1 + 1, Obj.cells #[.slice m1 ms.length mc1, .slice (some ⟨b, off, none⟩) ar.length ac1] 63), (w.heap.size + 1, Obj.cells #[.int .i64 t.w, .int .i64 t.h, .slice to t.pix.length tc] 43), (w.heap.size, Obj.cells #[.int .i64 m.w, .int .i64 m.h, .slice mo m.pix.length mc] 24)] from At.ext hbw6 hA.out)
          have E6 := Lib.hid (hE.trans hbw6)
          obtain ⟨⟨u00, u01⟩, -⟩ := run_2 (At.at A6.out 0 rfl)
          obtain ⟨⟨u10, u11, u12⟩, -⟩ := run_3 (At.at A6.out 1 rfl)
          obtain ⟨⟨u20, u21, u22⟩, -⟩ := run_3 (At.at A6.out 2 rfl)
          have yz0 := At.lt A6.out 0 rfl
          have yy0 := Nat.lt_succ_of_lt yz0
          have yx0 := Nat.lt_succ_of_lt yy0
          have yz1 := At.lt A6.out 1 rfl
          have yy1 := Nat.lt_succ_of_lt yz1
          have yx1 := Nat.lt_succ_of_lt yy1
          have yz2 := At.lt A6.out 2 rfl
          have yy2 := Nat.lt_succ_of_lt yz2
          have yx2 := Nat.lt_succ_of_lt yy2
          go_wp2
          go_roundw
          case rel => exact ⟨E6.out, A6, i + 1, by omega, by go_num, HS⟩
          case measure => simp [intOf]; omega
        · have hii : i = ar.length := by omega
          have HI2 := Lib.hid (show ∀ x ∈ ar, AreaOk m t limit x by have h9 := hI.out; rw [List.take_of_length_le (by omega)] at h9; exact h9)
          clear hI
          subst hii
          go_wp2
          obtain ⟨wp, hwp⟩ : ∃ wp : World, wp = wr := ⟨_, rfl⟩
          subst hwp
          clear z00 z01 z10 z11 z12 z20 z21 z22 zz0 zy0 zx0 zz1 zy1 zx1 zz2 zy2 zx2
          go_loopw [12] (fun v wr => Ext w wr ∧ Hid (At wr [(w.heap.size + 1 + 1, Obj.cells #[.slice m1 ms.length mc1, .slice a1 ar.length ac1] 63), (w.heap.size + 1, Obj.cells #[.int .i64 t.w, .int .i64 t.h, .slice to t.pix.length tc] 43), (w.heap.size, Obj.cells #[.int .i64 m.w, .int .i64 m.h, .slice mo m.pix.length mc] 24)]) ∧ ∃ T : Int, 0 ≤ T ∧ T ≤ 12 ∧ v = .int .i64 T ∧ Hid (∀ T' S, 0 ≤ T' → T' < T → 1 ≤ S → S ≤ 4 → ∀ j, j < m.pix.length → hits ms (poseAt m T' S j) + hasN ar (poseAt m T' S j) = 1)) (fun v _ => (12 - intOf v).toNat)
          case atStart => exact ⟨hE, hA, 0, by omega, by omega, rfl, Lib.hid (fun T' S k0 k1 => absurd k1 (by omega))⟩
          case round =>
            clear hE hA
            obtain ⟨hE, hA, T, t1', t2', rfl, HT2⟩ := hrel
            obtain ⟨⟨z00, z01⟩, -⟩ := run_2 (At.at hA.out 0 rfl)
            obtain ⟨⟨z10, z11, z12⟩, -⟩ := run_3 (At.at hA.out 1 rfl)
            obtain ⟨⟨z20, z21, z22⟩, -⟩ := run_3 (At.at hA.out 2 rfl)
            have zz0 := At.lt hA.out 0 rfl
            have zy0 := Nat.lt_succ_of_lt zz0
            have zx0 := Nat.lt_succ_of_lt zy0
            have zz1 := At.lt hA.out 1 rfl
            have zy1 := Nat.lt_succ_of_lt zz1
            have zx1 := Nat.lt_succ_of_lt zy1
            have zz2 := At.lt hA.out 2 rfl
            have zy2 := Nat.lt_succ_of_lt zz2
            have zx2 := Nat.lt_succ_of_lt zy2
            by_cases hTT : T < 12
            · go_wp2
              obtain ⟨wp, hwp⟩ : ∃ wp : World, wp = wr := ⟨_, rfl⟩
              subst hwp
              clear z00 z01 z10 z11 z12 z20 z21 z22 zz0 zy0 zx0 zz1 zy1 zx1 zz2 zy2 zx2
              go_loopw [13] (fun v wr => Ext w wr ∧ Hid (At wr [(w.heap.size + 1 + 1, Obj.cells #[.slice m1 ms.length mc1, .slice a1 ar.length ac1] 63), (w.heap.size + 1, Obj.cells #[.int .i64 t.w, .int .i64 t.h, .slice to t.pix.length tc] 43), (w.heap.size, Obj.cells #[.int .i64 m.w, .int .i64 m.h, .slice mo m.pix.length mc] 24)]) ∧ ∃ S : Int, 1 ≤ S ∧ S ≤ 5 ∧ v = .int .i64 S ∧ Hid (∀ S', 1 ≤ S' → S' < S → ∀ j, j < m.pix.length → hits ms (poseAt m T S' j) + hasN ar (poseAt m T S' j) = 1)) (fun v _ => (5 - intOf v).toNat)
              case atStart => exact ⟨hE, hA, 1, by omega, by omega, rfl, Lib.hid (fun S' k1 k2 => absurd k2 (by omega))⟩
              case round =>
                clear hE hA
                obtain ⟨hE, hA, S, s1, s2, rfl, HS2⟩ := hrel
                obtain ⟨⟨z00, z01⟩, -⟩ := run_2 (At.at hA.out 0 rfl)
                obtain ⟨⟨z10, z11, z12⟩, -⟩ := run_3 (At.at hA.out 1 rfl)
                obtain ⟨⟨z20, z21, z22⟩, -⟩ := run_3 (At.at hA.out 2 rfl)
                have zz0 := At.lt hA.out 0 rfl
                have zy0 := Nat.lt_succ_of_lt zz0
                have zx0 := Nat.lt_succ_of_lt zy0
                have zz1 := At.lt hA.out 1 rfl
                have zy1 := Nat.lt_succ_of_lt zz1
                have zx1 := Nat.lt_succ_of_lt zy1
                have zz2 := At.lt hA.out 2 rfl
                have zy2 := Nat.lt_succ_of_lt zz2
                have zx2 := Nat.lt_succ_of_lt zy2
                by_cases hSS : S ≤ 4
                · go_wp2
                  obtain ⟨wp, hwp⟩ : ∃ wp : World, wp = wr := ⟨_, rfl⟩
                  subst hwp
                  clear z00 z01 z10 z11 z12 z20 z21 z22 zz0 zy0 zx0 zz1 zy1 zx1 zz2 zy2 zx2
                  go_loopw [14] (fun v wr => Ext w wr ∧ Hid (At wr [(w.heap.size + 1 + 1, Obj.cells #[.slice m1 ms.length mc1, .slice a1 ar.length ac1] 63), (w.heap.size + 1, Obj.cells #[.int .i64 t.w, .int .i64 t.h, .slice to t.pix.length tc] 43), (w.heap.size, Obj.cells #[.int .i64 m.w, .int .i64 m.h, .slice mo m.pix.length mc] 24)]) ∧ ∃ i : Nat, i ≤ m.pix.length ∧ v = .int .i64 (i : Int) ∧ Hid (∀ j, j < i → hits ms (poseAt m T S j) + hasN ar (poseAt m T S j) = 1)) (fun v _ => m.pix.length - (intOf v).toNat)
                  case atStart => exact ⟨hE, hA, 0, Nat.zero_le _, rfl, Lib.hid (fun j hj => absurd hj (Nat.not_lt_zero _))⟩
                  case round =>
                    clear hE hA
                    obtain ⟨hE, hA, i, hi, rfl, hI⟩ := hrel
                    obtain ⟨⟨z00, z01⟩, -⟩ := run_2 (At.at hA.out 0 rfl)
                    obtain ⟨⟨z10, z11, z12⟩, -⟩ := run_3 (At.at hA.out 1 rfl)
                    obtain ⟨⟨z20, z21, z22⟩, -⟩ := run_3 (At.at hA.out 2 rfl)
                    have zz0 := At.lt hA.out 0 rfl
                    have zy0 := Nat.lt_succ_of_lt zz0
                    have zx0 := Nat.lt_succ_of_lt zy0
                    have zz1 := At.lt hA.out 1 rfl
                    have zy1 := Nat.lt_succ_of_lt zz1
                    have zx1 := Nat.lt_succ_of_lt zy1
                    have zz2 := At.lt hA.out 2 rfl
                    have zy2 := Nat.lt_succ_of_lt zz2
                    have zx2 := Nat.lt_succ_of_lt zy2
                    by_cases hil : i < m.pix.length
                    · have hili : (i : Int) < (m.pix.length : Int) := by omega
                      have K101 := Lib.hid (fun w' (h : Ext wr w') => c101 ms ar _ _ (poseAt m T S i) w' (HMS.out.ext (hE.trans h)) (HAR.out.ext (hE.trans h)) n1 n2)
                      obtain ⟨n, hn⟩ : ∃ n, hits ms (poseAt m T S i) + hasN ar (poseAt m T S i) = n := ⟨_, rfl⟩
                      rw [hn] at K101
                      unfold searchVal poseVal poseAt at K101
                      dsimp only at K101
                      have e1 := Int.emod_nonneg (i : Int) (show m.w ≠ 0 by omega)
                      have e2 := Int.emod_lt_of_pos (i : Int) (show 0 < m.w by omega)
                      have e3 : 0 ≤ (i : Int) / m.w := Int.ediv_nonneg (by omega) (by omega)
                      have e4 : (i : Int) / m.w ≤ i := Int.ediv_le_self _ (by omega)
                      obtain ⟨qx, hqx⟩ : ∃ px, (i : Int) % m.w = px := ⟨_, rfl⟩
                      obtain ⟨qy, hqy⟩ : ∃ py, (i : Int) / m.w = py := ⟨_, rfl⟩
                      rw [hqx, hqy] at K101
                      rw [hqx] at e1 e2
                      rw [hqy] at e3 e4
                      have hrem : (i : Int).tmod m.w = qx := by rw [Int.tmod_eq_emod_of_nonneg (by omega)]; exact hqx
                      have hquo : (i : Int).tdiv m.w = qy := by rw [Int.tdiv_eq_ediv_of_nonneg (by omega)]; exact hqy
                      have hwq : IntKind.i64.wrap qy = qy := IntWalk.i64_in _ (by omega)
                      have htw : (m.w == 0) = false := by simp; omega
                      have HN := Lib.hid hn
                      clear hn hqx hqy
                      by_cases g : n = 1
                      case neg =>
                        have q : decide (n = 1) = false := decide_eq_false g
                        rw [q] at K101
                        have HR := Lib.hid (show ¬ Proved m t limit ms ar from fun h => g (HN.out.symm.trans (h.2.2 T S (by omega) (by omega) (by omega) (by omega) i hil)))
                        go_wp2
                        refine wp_region_quiet_below (by kernel_rfl) (by kernel_rfl) ?_
                        repeat (go_big_quiet_step ((go_at_call 101; with_reducible exact Calls.ext_of (K101.out _ (by repeat (first | exact Ext.refl _ | assumption | refine Ext.alloc ?_ _ | refine Ext.drewN ?_ _ | refine ext_grow ?_ _ _ | refine Ext.trans ?_ (by assumption)))))))
                        refine wpQuiet_nil ?_
                        intro w6 hw'
                        obtain ⟨pq, hw''⟩ := hw'
                        have hbw6 := ext_of_regrown hw''
                        clear hw'' pq
                        go_wp2
                        go_ret
                        exact ⟨false, rfl, ⟨fun h => (by cases h), fun h => absurd h HR.out⟩, hE.trans hbw6⟩
                      have q : decide (n = 1) = true := decide_eq_true g
                      rw [q] at K101
                      have HS := Lib.hid (show ∀ j, j < i + 1 → hits ms (poseAt m T S j) + hasN ar (poseAt m T S j) = 1 from fun j hj => by
                        rcases Nat.lt_succ_iff_lt_or_eq.1 hj with hj | rfl
                        · exact hI.out j hj
                        · exact HN.out.trans g)
                      go_wp2
                      refine wp_region_quiet_below (by kernel_rfl) (by kernel_rfl) ?_
                      repeat (go_big_quiet_step ((go_at_call 101; with_reducible exact Calls.ext_of (K101.out _ (by repeat (first | exact Ext.refl _ | assumption | refine Ext.alloc ?_ _ | refine Ext.drewN ?_ _ | refine ext_grow ?_ _ _ | refine Ext.trans ?_ (by assumption)))))))
                      refine wpQuiet_nil ?_
                      intro w6 hw'
                      obtain ⟨pq, hw''⟩ := hw'
                      have hbw6 := ext_of_regrown hw''
                      clear hw'' pq
                      have A6 := Lib.hid (show At w6 [(w.heap.size + 1 + 1, Obj.cells #[.slice m1 ms.length mc1, .slice a1 ar.length ac1] 63), (w.heap.size + 1, Obj.cells #[.int .i64 t.w, .int .i64 t.h, .slice to t.pix.length tc] 43), (w.heap.size, Obj.cells #[.int .i64 m.w, .int .i64 m.h, .slice mo m.pix.length mc] 24)] from At.ext hbw6 hA.out)
                      have E6 := Lib.hid (hE.trans hbw6)
                      obtain ⟨⟨u00, u01⟩, -⟩ := run_2 (At.at A6.out 0 rfl)
                      obtain ⟨⟨u10, u11, u12⟩, -⟩ := run_3 (At.at A6.out 1 rfl)
                      obtain ⟨⟨u20, u21, u22⟩, -⟩ := run_3 (At.at A6.out 2 rfl)
                      have yz0 := At.lt A6.out 0 rfl
                      have yy0 := Nat.lt_succ_of_lt yz0
                      have yx0 := Nat.lt_succ_of_lt yy0
                      have yz1 := At.lt A6.out 1 rfl
                      have yy1 := Nat.lt_succ_of_lt yz1
                      have yx1 := Nat.lt_succ_of_lt yy1
                      have yz2 := At.lt A6.out 2 rfl
                      have yy2 := Nat.lt_succ_of_lt yz2
                      have yx2 := Nat.lt_succ_of_lt yy2
                      clear hrem hquo hwq
                      go_wp2
                      go_roundw
                      case rel => exact ⟨E6.out, A6, i + 1, by omega, by go_num, HS⟩
                      case measure => simp [intOf]; omega
                    · have hii : i = m.pix.length := by omega
                      have HS := Lib.hid (show ∀ S', 1 ≤ S' → S' < S + 1 → ∀ j, j < m.pix.length → hits ms (poseAt m T S' j) + hasN ar (poseAt m T S' j) = 1 from fun S' k1 k2 j hj => by
                        by_cases k : S' < S
                        · exact HS2.out S' k1 k j hj
                        · rw [show S' = S by omega]
                          exact hI.out j (by omega))
                      go_wp2
                      go_roundw
                      case rel => exact ⟨hE, hA, S + 1, by omega, by omega, by go_num, HS⟩
                      case measure => simp [intOf]; omega
                · have HS := Lib.hid (show ∀ T' S, 0 ≤ T' → T' < T + 1 → 1 ≤ S → S ≤ 4 → ∀ j, j < m.pix.length → hits ms (poseAt m T' S j) + hasN ar (poseAt m T' S j) = 1 from fun T' S' k0 k1 k2 k3 j hj => by
                    by_cases k : T' < T
                    · exact HT2.out T' S' k0 k k2 k3 j hj
                    · rw [show T' = T by omega]
                      exact HS2.out S' k2 (by omega) j hj)
                  go_wp2
                  go_roundw
                  case rel => exact ⟨hE, hA, T + 1, by omega, by omega, by go_num, HS⟩
                  case measure => simp [intOf]; omega
            · have HR := Lib.hid (show Proved m t limit ms ar from ⟨HI1.out, HI2.out, fun T' S k0 k1 k2 k3 j hj => HT2.out T' S k0 (by omega) k2 k3 j hj⟩)
              go_wp2
              go_ret
              first | exact ⟨true, rfl, ⟨fun _ => HR.out, fun _ => rfl⟩, hE⟩ | exact .inr ⟨rfl, HR.out, hE⟩
end Go.Proofs.Ytipkjdfnoonpcaa

/- The reference's 'Check': the walk. -/
namespace Go.Proofs.Ytipkjdfnoonpcaa
open Go.RowKit Go.Sort

open Classical in
noncomputable def provedR (m : Img) (t : Tpl) (limit : Int) (ms : List Match) (ar : List Area) : Int := if Proved m t limit ms ar then 0 else 71
theorem provedR_yes {m : Img} {t : Tpl} {limit : Int} {ms : List Match} {ar : List Area} (h : Proved m t limit ms ar) : provedR m t limit ms ar = 0 := if_pos h
theorem provedR_no {m : Img} {t : Tpl} {limit : Int} {ms : List Match} {ar : List Area} (h : ¬ Proved m t limit ms ar) : provedR m t limit ms ar = 71 := if_neg h
/-- what 'Check' answers -/
noncomputable def checkR (m : Img) (t : Tpl) (limit : Int) (ms : List Match) (ar : List Area) : Int :=
  if checkE m t = 0 then if 0 ≤ limit ∧ limit ≤ 16320 then provedR m t limit ms ar else 2 else checkE m t
set_option maxRecDepth 100000 in
set_option maxHeartbeats 16000000 in
theorem c34 (m : Img) (v : Value) (t : Tpl) (tv : Value) (limit : Int) (ms : List Match) (ar : List Area) (mv av : Value) (w : World) (hv : IntsAt w v m.pix) (hml : m.pix.length ≤ maxLen) (htv : IntsAt w tv t.pix) (htl : t.pix.length ≤ maxLen) (h1 : MatchesAt w mv ms) (h2 : AreasAt w av ar) (n1 : ms.length ≤ 13000) (n2 : ar.length ≤ 13000) :
    Calls Try.prog 34 #[imgVal m v, tplVal t tv, .int .i64 limit, searchVal mv av] w fun e w' => e = .returned (.int .i64 (checkR m t limit ms ar)) ∧ Ext w w' := by
  have HV := Lib.hid hv
  have HTV := Lib.hid htv
  have HMS := Lib.hid h1
  have HAR := Lib.hid h2
  obtain ⟨mo, mc, rfl, -, -⟩ := hv.form
  obtain ⟨to, tc, rfl, -, -⟩ := htv.form
  obtain ⟨m1, mc1, rfl, -, -⟩ := h1.form
  obtain ⟨a1, ac1, rfl, -, -⟩ := h2.form
  have K67 := Lib.hid (fun w' (h : Ext w w') => c64 m _ t _ w' (HV.out.ext h) hml (HTV.out.ext h) htl)
  have K74 := fun (g1 : m.Camera) (g2 : t.Ok) => Lib.hid (fun w' (h : Ext w w') => c74 m _ t _ limit ms ar _ _ w' g1 g2 (HV.out.ext h) (HTV.out.ext h) (HMS.out.ext h) (HAR.out.ext h) n1 n2)
  unfold imgVal tplVal searchVal at *
  clear hv htv h1 h2 hml htl
  by_cases h0 : checkE m t = 0
  case neg =>
    obtain ⟨r, hr⟩ : ∃ r, checkE m t = r := ⟨_, rfl⟩
    have q0 : (r != 0) = true := by simpa [hr] using h0
    have hR := Lib.hid (show checkR m t limit ms ar = r from by unfold checkR; rw [if_neg h0, hr])
    rw [hr] at K67
    clear h0 hr K74
    go_enter Try.func34, Try.ntmps34
    go_wp2_with (go_at_call 64; (with_reducible refine (K67.out _ (by repeat (first | exact Ext.refl _ | assumption | refine Ext.alloc ?_ _ | refine Ext.drewN ?_ _ | refine ext_grow ?_ _ _ | refine Ext.trans ?_ (by assumption)))).mono ?_); rintro E w1 ⟨rfl, hb1⟩; have A1 := Lib.hid (show At w1 [(w.heap.size + 1 + 1, Obj.cells #[.slice m1 ms.length mc1, .slice a1 ar.length ac1] 63), (w.heap.size + 1, Obj.cells #[.int .i64 t.w, .int .i64 t.h, .slice to t.pix.length tc] 43), (w.heap.size, Obj.cells #[.int .i64 m.w, .int .i64 m.h, .slice mo m.pix.length mc] 24)] from At.ext hb1 ⟨(by repeat (first | (refine blk_at _ _ ?_; (first | rfl | (simp only [size_one]; done))) | refine (blk_past _ _ (by simp only [size_one]; omega)).trans ?_)), (by repeat (first | (refine blk_at _ _ ?_; (first | rfl | (simp only [size_one]; done))) | refine (blk_past _ _ (by simp only [size_one]; omega)).trans ?_)), (by repeat (first | (refine blk_at _ _ ?_; (first | rfl | (simp only [size_one]; done))) | refine (blk_past _ _ (by simp only [size_one]; omega)).trans ?_)), trivial⟩); have E1 := Lib.hid (show Ext w w1 from (by repeat (first | exact Ext.refl _ | assumption | refine Ext.alloc ?_ _ | refine Ext.drewN ?_ _ | refine ext_grow ?_ _ _ | refine Ext.trans ?_ (by assumption)))); obtain ⟨⟨x00, x01⟩, -⟩ := run_2 (At.at A1.out 0 rfl); obtain ⟨⟨x10, x11, x12⟩, -⟩ := run_3 (At.at A1.out 1 rfl); obtain ⟨⟨x20, x21, x22⟩, -⟩ := run_3 (At.at A1.out 2 rfl); have xz0 := At.lt A1.out 0 rfl; have xy0 := Nat.lt_succ_of_lt xz0; have xx0 := Nat.lt_succ_of_lt xy0; have xz1 := At.lt A1.out 1 rfl; have xy1 := Nat.lt_succ_of_lt xz1; have xx1 := Nat.lt_succ_of_lt xy1; have xz2 := At.lt A1.out 2 rfl; have xy2 := Nat.lt_succ_of_lt xz2; have xx2 := Nat.lt_succ_of_lt xy2)
    go_ret
    exact ⟨ret_int hR.out.symm, E1.out⟩
  obtain ⟨g1, g2⟩ := check_ok h0
  rw [h0] at K67
  by_cases h1 : 0 ≤ limit ∧ limit ≤ 16320
  case neg =>
    have q1 : decide (0 ≤ limit ∧ limit ≤ 16320) = false := decide_eq_false h1
    have hR := Lib.hid (show checkR m t limit ms ar = 2 from by unfold checkR; rw [if_pos h0, if_neg h1])
    clear h0 h1 K74 g1 g2
    go_enter Try.func34, Try.ntmps34
    go_wp2_with (first | (go_at_call 61; (with_reducible refine (rwithin_same 61 (.inl rfl) _ _ _ _).mono ?_); rintro e w' ⟨rfl, rfl⟩) | (go_at_call 64; (with_reducible refine (K67.out _ (by repeat (first | exact Ext.refl _ | assumption | refine Ext.alloc ?_ _ | refine Ext.drewN ?_ _ | refine ext_grow ?_ _ _ | refine Ext.trans ?_ (by assumption)))).mono ?_); rintro E w1 ⟨rfl, hb1⟩; have A1 := Lib.hid (show At w1 [(w.heap.size + 1 + 1, Obj.cells #[.slice m1 ms.length mc1, .slice a1 ar.length ac1] 63), (w.heap.size + 1, Obj.cells #[.int .i64 t.w, .int .i64 t.h, .slice to t.pix.length tc] 43), (w.heap.size, Obj.cells #[.int .i64 m.w, .int .i64 m.h, .slice mo m.pix.length mc] 24)] from At.ext hb1 ⟨(by repeat (first | (refine blk_at _ _ ?_; (first | rfl | (simp only [size_one]; done))) | refine (blk_past _ _ (by simp only [size_one]; omega)).trans ?_)), (by repeat (first | (refine blk_at _ _ ?_; (first | rfl | (simp only [size_one]; done))) | refine (blk_past _ _ (by simp only [size_one]; omega)).trans ?_)), (by repeat (first | (refine blk_at _ _ ?_; (first | rfl | (simp only [size_one]; done))) | refine (blk_past _ _ (by simp only [size_one]; omega)).trans ?_)), trivial⟩); have E1 := Lib.hid (show Ext w w1 from (by repeat (first | exact Ext.refl _ | assumption | refine Ext.alloc ?_ _ | refine Ext.drewN ?_ _ | refine ext_grow ?_ _ _ | refine Ext.trans ?_ (by assumption)))); obtain ⟨⟨x00, x01⟩, -⟩ := run_2 (At.at A1.out 0 rfl); obtain ⟨⟨x10, x11, x12⟩, -⟩ := run_3 (At.at A1.out 1 rfl); obtain ⟨⟨x20, x21, x22⟩, -⟩ := run_3 (At.at A1.out 2 rfl); have xz0 := At.lt A1.out 0 rfl; have xy0 := Nat.lt_succ_of_lt xz0; have xx0 := Nat.lt_succ_of_lt xy0; have xz1 := At.lt A1.out 1 rfl; have xy1 := Nat.lt_succ_of_lt xz1; have xx1 := Nat.lt_succ_of_lt xy1; have xz2 := At.lt A1.out 2 rfl; have xy2 := Nat.lt_succ_of_lt xz2; have xx2 := Nat.lt_succ_of_lt xy2))
    go_ret
    exact ⟨ret_int hR.out.symm, E1.out.trans (by repeat (first | exact Ext.refl _ | assumption | refine Ext.alloc ?_ _ | refine Ext.drewN ?_ _ | refine ext_grow ?_ _ _ | refine Ext.trans ?_ (by assumption)))⟩
  have q1 : decide (0 ≤ limit ∧ limit ≤ 16320) = true := decide_eq_true h1
  have hR := Lib.hid (show checkR m t limit ms ar = provedR m t limit ms ar from by unfold checkR; rw [if_pos h0, if_pos h1])
  replace K74 := K74 g1 g2
  clear h0 h1 g1 g2
  go_enter Try.func34, Try.ntmps34
  go_wp2_with (first | (go_at_call 61; (with_reducible refine (rwithin_same 61 (.inl rfl) _ _ _ _).mono ?_); rintro e w' ⟨rfl, rfl⟩) | (have _q := E1; go_at_call 74; (with_reducible refine (K74.out _ (E1.out.trans (by repeat (first | exact Ext.refl _ | assumption | refine Ext.alloc ?_ _ | refine Ext.drewN ?_ _ | refine ext_grow ?_ _ _ | refine Ext.trans ?_ (by assumption))))).mono ?_); rintro E w3 ⟨c, rfl, hc, hb3⟩; have HC := Lib.hid hc; clear hc; have E3 := Lib.hid (show Ext w w3 from E1.out.trans (Ext.trans (by repeat (first | exact Ext.refl _ | assumption | refine Ext.alloc ?_ _ | refine Ext.drewN ?_ _ | refine ext_grow ?_ _ _ | refine Ext.trans ?_ (by assumption))) hb3)); cases c) | (go_at_call 64; (with_reducible refine (K67.out _ (by repeat (first | exact Ext.refl _ | assumption | refine Ext.alloc ?_ _ | refine Ext.drewN ?_ _ | refine ext_grow ?_ _ _ | refine Ext.trans ?_ (by assumption)))).mono ?_); rintro E w1 ⟨rfl, hb1⟩; have A1 := Lib.hid (show At w1 [(w.heap.size + 1 + 1, Obj.cells #[.slice m1 ms.length mc1, .slice a1 ar.length ac1] 63), (w.heap.size + 1, Obj.cells #[.int .i64 t.w, .int .i64 t.h, .slice to t.pix.length tc] 43), (w.heap.size, Obj.cells #[.int .i64 m.w, .int .i64 m.h, .slice mo m.pix.length mc] 24)] from At.ext hb1 ⟨(by repeat (first | (refine blk_at _ _ ?_; (first | rfl | (simp only [size_one]; done))) | refine (blk_past _ _ (by simp only [size_one]; omega)).trans ?_)), (by repeat (first | (refine blk_at _ _ ?_; (first | rfl | (simp only [size_one]; done))) | refine (blk_past _ _ (by simp only [size_one]; omega)).trans ?_)), (by repeat (first | (refine blk_at _ _ ?_; (first | rfl | (simp only [size_one]; done))) | refine (blk_past _ _ (by simp only [size_one]; omega)).trans ?_)), trivial⟩); have E1 := Lib.hid (show Ext w w1 from (by repeat (first | exact Ext.refl _ | assumption | refine Ext.alloc ?_ _ | refine Ext.drewN ?_ _ | refine ext_grow ?_ _ _ | refine Ext.trans ?_ (by assumption)))); obtain ⟨⟨x00, x01⟩, -⟩ := run_2 (At.at A1.out 0 rfl); obtain ⟨⟨x10, x11, x12⟩, -⟩ := run_3 (At.at A1.out 1 rfl); obtain ⟨⟨x20, x21, x22⟩, -⟩ := run_3 (At.at A1.out 2 rfl); have xz0 := At.lt A1.out 0 rfl; have xy0 := Nat.lt_succ_of_lt xz0; have xx0 := Nat.lt_succ_of_lt xy0; have xz1 := At.lt A1.out 1 rfl; have xy1 := Nat.lt_succ_of_lt xz1; have xx1 := Nat.lt_succ_of_lt xy1; have xz2 := At.lt A1.out 2 rfl; have xy2 := Nat.lt_succ_of_lt xz2; have xx2 := Nat.lt_succ_of_lt xy2))
  · go_ret
    exact ⟨ret_int (by rw [hR.out, provedR_no (fun h => by cases HC.out.2 h)]), E3.out⟩
  · go_ret
    exact ⟨ret_int (by rw [hR.out, provedR_yes (HC.out.1 (by first | rfl | trivial))]), E3.out⟩
end Go.Proofs.Ytipkjdfnoonpcaa
