/- The reference's distances: the walks. -/
import Derived.Test.YtipkjdfnoonpcaaBoundFn
import Derived.Deep.RegionHeld3
import Derived.Deep.DrawnRows
set_option linter.unusedVariables false
set_option linter.unusedSimpArgs false
namespace Go.Proofs.Ytipkjdfnoonpcaa
open Go.RowKit Go.Sort
attribute [local go_sem ↓] Go.wp_at_zero Go.wp_at_succ

set_option maxRecDepth 100000 in
set_option maxHeartbeats 16000000 in
theorem c99 (m : Img) (v : Value) (t : Tpl) (tv : Value) (p : Pose) (k : Nat) (w : World) (hm : m.Camera) (ht : t.Ok) (hv : IntsAt w v m.pix) (htv : IntsAt w tv t.pix) (hk : k < t.pix.length) (h0 : 0 ≤ t.pix.getD k 0) (hp : Posed p.turn p.scale) (hpx : 0 ≤ p.x ∧ p.x ≤ 16) (hpy : 0 ≤ p.y ∧ p.y ≤ 16) :
    Calls Try.prog 99 #[imgVal m v, tplVal t tv, poseVal p, .int .i64 (k : Int)] w fun e w' => e = .returned (.int .i64 (adds m (ptOf t p.turn p.scale k) p.x p.y)) ∧ Ext w w' := by
  have HV := Lib.hid hv
  have HTV := Lib.hid htv
  have HM := Lib.hid hm
  have HT := Lib.hid ht
  obtain ⟨mo, mc, rfl, -, -⟩ := hv.form
  obtain ⟨to, tc, rfl, -, hc⟩ := htv.form
  obtain ⟨b, off, rfl, c0⟩ := hc k hk
  obtain ⟨x, hx⟩ : ∃ x, t.pix.getD k 0 = x := ⟨_, rfl⟩
  rw [hx] at c0 h0
  have xb : x ≤ 255 := hx ▸ (Tpl.pix_bd ht hk).2
  have zc := World.block_lt_of_cell? _ _ c0
  simp only at zc
  obtain ⟨pb, pb2⟩ := tplace_bd ht hk
  obtain ⟨n1, n2⟩ := Tpl.len_bd ht
  have hkli : (k : Int) < (t.pix.length : Int) := by omega
  obtain ⟨o1, o2, o3, o4⟩ := off_in ht hp hk
  have K62 := Lib.hid (fun w' (h : Ext w w') => c62 t _ p.turn p.scale ((k : Int) % t.w) ((k : Int) / t.w) w' ⟨HT.out.1.1, HT.out.1.2.1⟩ (HTV.out.ext h) hp pb pb2)
  obtain ⟨OX, hox⟩ : ∃ x, offX t p.turn p.scale ((k : Int) % t.w) ((k : Int) / t.w) = x := ⟨_, rfl⟩
  obtain ⟨OY, hoy⟩ : ∃ x, offY t p.turn p.scale ((k : Int) % t.w) ((k : Int) / t.w) = x := ⟨_, rfl⟩
  unfold ptOf at o1 o2 o3 o4
  dsimp only at o1 o2 o3 o4
  rw [hox, hoy] at K62
  rw [hox] at o1 o2
  rw [hoy] at o3 o4
  have HR := Lib.hid (show adds m (ptOf t p.turn p.scale k) p.x p.y = if m.In (p.x + OX) (p.y + OY) then max (x - m.at (p.x + OX) (p.y + OY)) (-(x - m.at (p.x + OX) (p.y + OY))) else 255 from by unfold adds ptOf; dsimp only; rw [hox, hoy, hx])
  obtain ⟨qx, hqx⟩ : ∃ px, (k : Int) % t.w = px := ⟨_, rfl⟩
  obtain ⟨qy, hqy⟩ : ∃ py, (k : Int) / t.w = py := ⟨_, rfl⟩
  rw [hqx, hqy] at K62
  rw [hqx] at pb
  rw [hqy] at pb2
  obtain ⟨⟨⟨t1, t2⟩, ⟨t3, t4⟩, -⟩, -⟩ := ht
  obtain ⟨p1, p2⟩ := hpx
  obtain ⟨p3, p4⟩ := hpy
  have hrem : (k : Int).tmod t.w = qx := by rw [Int.tmod_eq_emod_of_nonneg (by omega)]; exact hqx
  have hquo : (k : Int).tdiv t.w = qy := by rw [Int.tdiv_eq_ediv_of_nonneg (by omega)]; exact hqy
  have hwq : IntKind.i64.wrap qy = qy := IntWalk.i64_in _ (by omega)
  have htw : (t.w == 0) = false := by simp; omega
  have K98 := Lib.hid (fun w' => c98 m (.slice mo m.pix.length mc) (p.x + OX) (p.y + OY) w' hm.1)
  have K48 := Lib.hid (fun (hi : m.In (p.x + OX) (p.y + OY)) w' (h : Ext w w') => c48 m _ (p.x + OX) (p.y + OY) w' HM.out.1 hi (HV.out.ext h))
  have ka : IntKind.i64.wrap (p.x + OX) = p.x + OX := IntWalk.i64_in _ (by omega)
  have kb : IntKind.i64.wrap (p.y + OY) = p.y + OY := IntWalk.i64_in _ (by omega)
  unfold imgVal tplVal poseVal at *
  clear hv htv hm hc hx hox hoy hqx hqy pb pb2 hp
  go_enter Try.func99, Try.ntmps99
  go_wp2
  refine wp_region_quiet_below (by kernel_rfl) (by kernel_rfl) ?_
  repeat (go_big_quiet_step ((go_at_call 62; with_reducible exact Calls.ext_of (K62.out _ (by repeat (first | exact Ext.refl _ | assumption | refine Ext.alloc ?_ _ | refine Ext.drewN ?_ _ | refine ext_grow ?_ _ _ | refine Ext.trans ?_ (by assumption)))))))
  refine wpQuiet_nil ?_
  intro w7 hw'
  obtain ⟨pq, hw''⟩ := hw'
  have hbw7 := ext_of_regrown hw''
  clear hw'' pq
  clear hrem hquo hwq
  have A7 := Lib.hid (show At w7 [(w.heap.size + 1 + 1, Obj.cells #[.int .i64 p.x, .int .i64 p.y, .int .i64 p.turn, .int .i64 p.scale] 45), (w.heap.size + 1, Obj.cells #[.int .i64 t.w, .int .i64 t.h, .slice (some ⟨b, off, none⟩) t.pix.length tc] 43), (w.heap.size, Obj.cells #[.int .i64 m.w, .int .i64 m.h, .slice mo m.pix.length mc] 24)] from At.ext hbw7 ⟨(by repeat (first | (refine blk_at _ _ ?_; (first | rfl | (simp only [size_one]; done))) | refine (blk_past _ _ (by simp only [size_one]; omega)).trans ?_)), (by repeat (first | (refine blk_at _ _ ?_; (first | rfl | (simp only [size_one]; done))) | refine (blk_past _ _ (by simp only [size_one]; omega)).trans ?_)), (by repeat (first | (refine blk_at _ _ ?_; (first | rfl | (simp only [size_one]; done))) | refine (blk_past _ _ (by simp only [size_one]; omega)).trans ?_)), trivial⟩)
  have E7 := Lib.hid (show Ext w w7 from (by repeat (first | exact Ext.refl _ | assumption | refine Ext.alloc ?_ _ | refine Ext.drewN ?_ _ | refine ext_grow ?_ _ _ | refine Ext.trans ?_ (by assumption))))
  obtain ⟨⟨x00, x01, x02, x03⟩, -⟩ := run_4 (At.at A7.out 0 rfl)
  obtain ⟨⟨x10, x11, x12⟩, -⟩ := run_3 (At.at A7.out 1 rfl)
  obtain ⟨⟨x20, x21, x22⟩, -⟩ := run_3 (At.at A7.out 2 rfl)
  have xz0 := At.lt A7.out 0 rfl
  have xy0 := Nat.lt_succ_of_lt xz0
  have xx0 := Nat.lt_succ_of_lt xy0
  have xz1 := At.lt A7.out 1 rfl
  have xy1 := Nat.lt_succ_of_lt xz1
  have xx1 := Nat.lt_succ_of_lt xy1
  have xz2 := At.lt A7.out 2 rfl
  have xy2 := Nat.lt_succ_of_lt xz2
  have xx2 := Nat.lt_succ_of_lt xy2
  have c7 := E7.out.get c0
  have z7 := World.block_lt_of_cell? _ _ c7
  simp only at z7
  by_cases hin : m.In (p.x + OX) (p.y + OY)
  case neg =>
    have q1 : decide (m.In (p.x + OX) (p.y + OY)) = false := decide_eq_false hin
    have HRN := Lib.hid (HR.out.trans (if_neg hin))
    rw [q1] at K98
    clear hin q1 HR K48
    go_wp2_with (go_at_call 98; (with_reducible refine (K98.out _).mono ?_); rintro E w8 ⟨rfl, hb8⟩; have A8 := Lib.hid (show At w8 [(w.heap.size + 1 + 1, Obj.cells #[.int .i64 p.x, .int .i64 p.y, .int .i64 p.turn, .int .i64 p.scale] 45), (w.heap.size + 1, Obj.cells #[.int .i64 t.w, .int .i64 t.h, .slice (some ⟨b, off, none⟩) t.pix.length tc] 43), (w.heap.size, Obj.cells #[.int .i64 m.w, .int .i64 m.h, .slice mo m.pix.length mc] 24)] from At.ext hb8 A7.out); have E8 := Lib.hid (E7.out.trans hb8); obtain ⟨⟨y00, y01, y02, y03⟩, -⟩ := run_4 (At.at A8.out 0 rfl); obtain ⟨⟨y10, y11, y12⟩, -⟩ := run_3 (At.at A8.out 1 rfl); obtain ⟨⟨y20, y21, y22⟩, -⟩ := run_3 (At.at A8.out 2 rfl); have yz0 := At.lt A8.out 0 rfl; have yy0 := Nat.lt_succ_of_lt yz0; have yx0 := Nat.lt_succ_of_lt yy0; have yz1 := At.lt A8.out 1 rfl; have yy1 := Nat.lt_succ_of_lt yz1; have yx1 := Nat.lt_succ_of_lt yy1; have yz2 := At.lt A8.out 2 rfl; have yy2 := Nat.lt_succ_of_lt yz2; have yx2 := Nat.lt_succ_of_lt yy2; have c8 := hb8.get c7; have z8 := World.block_lt_of_cell? _ _ c8; simp only at z8)
    go_ret
    exact ⟨ret_int HRN.out.symm, E8.out⟩
  have q1 : decide (m.In (p.x + OX) (p.y + OY)) = true := decide_eq_true hin
  have HRY := Lib.hid (HR.out.trans (if_pos hin))
  rw [q1] at K98
  replace K48 := Lib.hid (K48.out hin)
  obtain ⟨r1, r2⟩ := Img.at_bd HM.out hin
  obtain ⟨r, hr⟩ : ∃ r, m.at (p.x + OX) (p.y + OY) = r := ⟨_, rfl⟩
  rw [hr] at K48 HRY r1 r2
  obtain ⟨ab, hab⟩ : ∃ ab, max (x - r) (-(x - r)) = ab := ⟨_, rfl⟩
  rw [hab] at HRY
  have m1 : (if x - r < -(x - r) then -(x - r) else x - r) = ab := by rw [← hab]; split <;> omega
  clear hin q1 HR hr hab
  go_wp2_with (go_at_call 98; (with_reducible refine (K98.out _).mono ?_); rintro E w8 ⟨rfl, hb8⟩; have A8 := Lib.hid (show At w8 [(w.heap.size + 1 + 1, Obj.cells #[.int .i64 p.x, .int .i64 p.y, .int .i64 p.turn, .int .i64 p.scale] 45), (w.heap.size + 1, Obj.cells #[.int .i64 t.w, .int .i64 t.h, .slice (some ⟨b, off, none⟩) t.pix.length tc] 43), (w.heap.size, Obj.cells #[.int .i64 m.w, .int .i64 m.h, .slice mo m.pix.length mc] 24)] from At.ext hb8 A7.out); have E8 := Lib.hid (E7.out.trans hb8); obtain ⟨⟨y00, y01, y02, y03⟩, -⟩ := run_4 (At.at A8.out 0 rfl); obtain ⟨⟨y10, y11, y12⟩, -⟩ := run_3 (At.at A8.out 1 rfl); obtain ⟨⟨y20, y21, y22⟩, -⟩ := run_3 (At.at A8.out 2 rfl); have yz0 := At.lt A8.out 0 rfl; have yy0 := Nat.lt_succ_of_lt yz0; have yx0 := Nat.lt_succ_of_lt yy0; have yz1 := At.lt A8.out 1 rfl; have yy1 := Nat.lt_succ_of_lt yz1; have yx1 := Nat.lt_succ_of_lt yy1; have yz2 := At.lt A8.out 2 rfl; have yy2 := Nat.lt_succ_of_lt yz2; have yx2 := Nat.lt_succ_of_lt yy2; have c8 := hb8.get c7; have z8 := World.block_lt_of_cell? _ _ c8; simp only at z8)
  refine wp_region_quiet_below (by kernel_rfl) (by kernel_rfl) ?_
  repeat (go_big_quiet_step ((go_at_call 48; with_reducible exact Calls.ext_of (K48.out _ (E8.out.trans (by repeat (first | exact Ext.refl _ | assumption | refine Ext.alloc ?_ _ | refine Ext.drewN ?_ _ | refine ext_grow ?_ _ _ | refine Ext.trans ?_ (by assumption))))))))
  refine wpQuiet_nil ?_
  intro w9 hw'
  obtain ⟨pq, hw''⟩ := hw'
  have hbw9 := ext_of_regrown hw''
  clear hw'' pq
  clear ka kb
  go_wp2
  go_ret
  exact ⟨ret_int HRY.out.symm, E8.out.trans hbw9⟩
theorem sum_yes {f : Pt → Int} {t : Tpl} {turn scale : Int} {k : Nat} (h : 0 ≤ t.pix.getD k 0) : sumL f (stencil t turn scale (k + 1)) = sumL f (stencil t turn scale k) + f (ptOf t turn scale k) := by
  rw [stencil, if_pos h, sumL_snoc]
theorem sum_no {f : Pt → Int} {t : Tpl} {turn scale : Int} {k : Nat} (h : t.pix.getD k 0 < 0) : sumL f (stencil t turn scale (k + 1)) = sumL f (stencil t turn scale k) := by
  rw [stencil, if_neg (by omega)]
theorem ptOf_v {t : Tpl} (ht : t.Ok) {turn scale : Int} {k : Nat} (hk : k < t.pix.length) (h : 0 ≤ t.pix.getD k 0) : 0 ≤ (ptOf t turn scale k).v ∧ (ptOf t turn scale k).v ≤ 255 := ⟨h, (Tpl.pix_bd ht hk).2⟩
theorem least_one {m : Img} {q : Pt} (hm : m.Camera) (hq : 0 ≤ q.v ∧ q.v ≤ 255) (x y : Int) : least m q x y x y = adds m q x y := by
  refine eq_of_le_iff fun c => ?_
  by_cases hc : c ≤ 255
  case neg =>
    have h1 := least_le m q x y x y
    have h2 := (adds_bd hm hq x y).2
    constructor <;> intro h9 <;> omega
  rw [le_least hc]
  constructor
  · intro h
    exact h y (by omega) (by omega) x (by omega) (by omega)
  · intro h Y h1 h2 X h3 h4
    rw [show Y = y by omega, show X = x by omega]
    exact h
theorem sumL_congr {f g : Pt → Int} {l : List Pt} (h : ∀ p ∈ l, f p = g p) : sumL f l = sumL g l := by
  have gen : ∀ (l : List Pt) (s : Int), (∀ p ∈ l, f p = g p) → l.foldl (fun s p => s + f p) s = l.foldl (fun s p => s + g p) s := by
    intro l
    induction l with
    | nil => intro s _; rfl
    | cons p l ih =>
      intro s h
      simp only [List.foldl_cons]
      rw [h p (by simp)]
      exact ih _ fun q hq => h q (by simp [hq])
  exact gen l 0 h
theorem far_bound {m : Img} {t : Tpl} (hm : m.Camera) (ht : t.Ok) (p : Pose) : sumL (fun q => adds m q p.x p.y) (stencil t p.turn p.scale t.pix.length) = bound m t p.area := by
  unfold bound Pose.area
  dsimp only
  exact sumL_congr fun q hq => (least_one hm (stencil_v ht hq) _ _).symm
set_option maxRecDepth 100000 in
set_option maxHeartbeats 16000000 in
theorem c66 (m : Img) (v : Value) (t : Tpl) (tv : Value) (p : Pose) (w : World) (hm : m.Camera) (ht : t.Ok) (hv : IntsAt w v m.pix) (htv : IntsAt w tv t.pix) (ha : p.area.Ok m) :
    Calls Try.prog 66 #[imgVal m v, tplVal t tv, poseVal p] w fun e w' => e = .returned (.int .i64 (bound m t p.area)) ∧ Ext w w' := by
  rw [← far_bound hm ht]
  have HV := Lib.hid hv
  have HTV := Lib.hid htv
  have HM := Lib.hid hm
  have HT := Lib.hid ht
  have HA := Lib.hid ha
  obtain ⟨mo, mc, rfl, -, -⟩ := hv.form
  obtain ⟨to, tc, rfl, -, hc⟩ := htv.form
  have HC := Lib.hid hc
  obtain ⟨n1, n2⟩ := Tpl.len_bd ht
  have hab := ha.1
  have hab2 := ha.2.1
  obtain ⟨⟨w1, w2⟩, ⟨w3, w4⟩, -⟩ := hm.1
  unfold Pose.area at hab hab2
  dsimp only at hab hab2
  have hpx : 0 ≤ p.x ∧ p.x ≤ 16 := by omega
  have hpy : 0 ≤ p.y ∧ p.y ≤ 16 := by omega
  have HPX := Lib.hid hpx
  have HPY := Lib.hid hpy
  unfold imgVal tplVal poseVal
  clear hv htv hm ht hc ha hab hab2 hpx hpy
  go_enter Try.func66, Try.ntmps66
  go_wp2
  go_loopw [7, 8] (fun sv iv wr => ∃ (k : Nat) (sm : Int), k ≤ t.pix.length ∧ iv = .int .i64 (k : Int) ∧ sv = .int .i64 sm ∧ 0 ≤ sm ∧ sm ≤ 255 * k ∧ Hid (Ext w wr) ∧ Hid (At wr [(w.heap.size + 1 + 1, Obj.cells #[.int .i64 p.x, .int .i64 p.y, .int .i64 p.turn, .int .i64 p.scale] 45), (w.heap.size + 1, Obj.cells #[.int .i64 t.w, .int .i64 t.h, .slice to t.pix.length tc] 43), (w.heap.size, Obj.cells #[.int .i64 m.w, .int .i64 m.h, .slice mo m.pix.length mc] 24)]) ∧ Hid (sumL (fun q => adds m q p.x p.y) (stencil t p.turn p.scale k) = sm)) (fun _ iv _ => t.pix.length - (intOf iv).toNat)
  case atStart => exact ⟨0, 0, by omega, rfl, rfl, by omega, by omega, Lib.hid (by repeat (first | exact Ext.refl _ | assumption | refine Ext.alloc ?_ _ | refine Ext.drewN ?_ _ | refine ext_grow ?_ _ _ | refine Ext.trans ?_ (by assumption))), Lib.hid ⟨(by repeat (first | (refine blk_at _ _ ?_; (first | rfl | (simp only [size_one]; done))) | refine (blk_past _ _ (by simp only [size_one]; omega)).trans ?_)), (by repeat (first | (refine blk_at _ _ ?_; (first | rfl | (simp only [size_one]; done))) | refine (blk_past _ _ (by simp only [size_one]; omega)).trans ?_)), (by repeat (first | (refine blk_at _ _ ?_; (first | rfl | (simp only [size_one]; done))) | refine (blk_past _ _ (by simp only [size_one]; omega)).trans ?_)), trivial⟩, Lib.hid rfl⟩
  case round =>
    obtain ⟨k, sm, hk, rfl, rfl, s1, s2, hE, hA, hSM⟩ := hrel
    obtain ⟨⟨x00, x01, x02, x03⟩, -⟩ := run_4 (At.at hA.out 0 rfl)
    obtain ⟨⟨x10, x11, x12⟩, -⟩ := run_3 (At.at hA.out 1 rfl)
    obtain ⟨⟨x20, x21, x22⟩, -⟩ := run_3 (At.at hA.out 2 rfl)
    have xz0 := At.lt hA.out 0 rfl
    have xy0 := Nat.lt_succ_of_lt xz0
    have xx0 := Nat.lt_succ_of_lt xy0
    have xz1 := At.lt hA.out 1 rfl
    have xy1 := Nat.lt_succ_of_lt xz1
    have xx1 := Nat.lt_succ_of_lt xy1
    have xz2 := At.lt hA.out 2 rfl
    have xy2 := Nat.lt_succ_of_lt xz2
    have xx2 := Nat.lt_succ_of_lt xy2
    by_cases hkl : k < t.pix.length
    · obtain ⟨b, off, rfl, c0⟩ := HC.out k hkl
      have c0 := hE.out.get c0
      have zc := World.block_lt_of_cell? _ _ c0
      simp only at zc
      obtain ⟨x, hx⟩ : ∃ x, t.pix.getD k 0 = x := ⟨_, rfl⟩
      rw [hx] at c0
      have HX := Lib.hid hx
      clear hx
      have hkli : (k : Int) < (t.pix.length : Int) := by omega
      by_cases h0 : 0 ≤ x
      case neg =>
        have h0f : decide (0 ≤ x) = false := decide_eq_false h0
        go_wp2
        go_roundw
        case rel => exact ⟨k + 1, sm, by omega, by go_num, rfl, by omega, by omega, hE, hA, Lib.hid (by rw [sum_no (by rw [HX.out]; omega)]; exact hSM.out)⟩
        case measure => simp [intOf]; omega
      have h0t : decide (0 ≤ x) = true := decide_eq_true h0
      have K99 := Lib.hid (fun w' (h : Ext wr w') => c99 m _ t _ p k w' HM.out HT.out (HV.out.ext (hE.out.trans h)) (HTV.out.ext (hE.out.trans h)) hkl (by rw [HX.out]; exact h0) HA.out.2.2 HPX.out HPY.out)
      obtain ⟨a1, a2⟩ := adds_bd HM.out (ptOf_v HT.out (turn := p.turn) (scale := p.scale) hkl (by rw [HX.out]; exact h0)) p.x p.y
      obtain ⟨ab, hab⟩ : ∃ ab, adds m (ptOf t p.turn p.scale k) p.x p.y = ab := ⟨_, rfl⟩
      rw [hab] at K99 a1 a2
      have HS := Lib.hid (show sumL (fun q => adds m q p.x p.y) (stencil t p.turn p.scale (k + 1)) = sm + ab from by rw [sum_yes (by rw [HX.out]; exact h0), hSM.out, hab])
      unfold imgVal tplVal poseVal at K99
      clear hab
      go_wp2_with (go_at_call 99; (with_reducible refine (K99.out _ (by repeat (first | exact Ext.refl _ | assumption | refine Ext.alloc ?_ _ | refine Ext.drewN ?_ _ | refine ext_grow ?_ _ _ | refine Ext.trans ?_ (by assumption)))).mono ?_); rintro E w7 ⟨rfl, hb7⟩; have A7 := Lib.hid (show At w7 [(w.heap.size + 1 + 1, Obj.cells #[.int .i64 p.x, .int .i64 p.y, .int .i64 p.turn, .int .i64 p.scale] 45), (w.heap.size + 1, Obj.cells #[.int .i64 t.w, .int .i64 t.h, .slice (some ⟨b, off, none⟩) t.pix.length tc] 43), (w.heap.size, Obj.cells #[.int .i64 m.w, .int .i64 m.h, .slice mo m.pix.length mc] 24)] from At.ext hb7 hA.out); have E7 := Lib.hid (hE.out.trans hb7); obtain ⟨⟨y00, y01, y02, y03⟩, -⟩ := run_4 (At.at A7.out 0 rfl); obtain ⟨⟨y10, y11, y12⟩, -⟩ := run_3 (At.at A7.out 1 rfl); obtain ⟨⟨y20, y21, y22⟩, -⟩ := run_3 (At.at A7.out 2 rfl); have yz0 := At.lt A7.out 0 rfl; have yy0 := Nat.lt_succ_of_lt yz0; have yx0 := Nat.lt_succ_of_lt yy0; have yz1 := At.lt A7.out 1 rfl; have yy1 := Nat.lt_succ_of_lt yz1; have yx1 := Nat.lt_succ_of_lt yy1; have yz2 := At.lt A7.out 2 rfl; have yy2 := Nat.lt_succ_of_lt yz2; have yx2 := Nat.lt_succ_of_lt yy2)
      go_roundw
      case rel => exact ⟨k + 1, sm + ab, by omega, by go_num, rfl, by omega, by omega, E7, A7, HS⟩
      case measure => simp [intOf]; omega
    · have hkk : k = t.pix.length := by omega
      have HF := Lib.hid (show sumL (fun q => adds m q p.x p.y) (stencil t p.turn p.scale t.pix.length) = sm from by have h9 := hSM.out; rw [hkk] at h9; exact h9)
      clear hkk
      go_wp2
      go_ret
      exact ⟨ret_int HF.out.symm, hE.out⟩
theorem pose_ok {m : Img} {p : Pose} : p.area.Ok m ↔ m.In p.x p.y ∧ Posed p.turn p.scale := by
  unfold Area.Ok Pose.area Img.In
  dsimp only
  constructor
  · rintro ⟨⟨h1, h2, h3⟩, ⟨h4, h5, h6⟩, h7⟩
    exact ⟨⟨⟨h1, h3⟩, h4, h6⟩, h7⟩
  · rintro ⟨⟨⟨h1, h3⟩, h4, h6⟩, h7⟩
    exact ⟨⟨h1, Int.le_refl _, h3⟩, ⟨h4, Int.le_refl _, h6⟩, h7⟩
set_option maxRecDepth 100000 in
set_option maxHeartbeats 8000000 in
theorem c65 (m : Img) (mv : Value) (p : Pose) (w : World) (hm : m.Sized) (hmv : ∃ ao n cap, mv = .slice ao n cap) : Calls Try.prog 65 #[imgVal m mv, poseVal p] w fun e w' => e = .returned (.bool (decide (p.area.Ok m))) ∧ Ext w w' := by
  obtain ⟨mo, mn, mc, rfl⟩ := hmv
  have K98 := Lib.hid (fun w' => c98 m (.slice mo mn mc) p.x p.y w' hm)
  have K60 := Lib.hid (fun w' => c60 p.turn p.scale w')
  unfold imgVal poseVal at *
  by_cases h1 : m.In p.x p.y
  case neg =>
    have q1 : decide (m.In p.x p.y) = false := decide_eq_false h1
    rw [q1] at K98
    have HR := Lib.hid (show decide (p.area.Ok m) = false from decide_eq_false fun h => h1 (pose_ok.1 h).1)
    clear h1 q1 K60
    go_enter Try.func65, Try.ntmps65
    go_wp2_with (go_at_call 98; (with_reducible refine (K98.out _).mono ?_); rintro E w1 ⟨rfl, hb1⟩; have A1 := Lib.hid (show At w1 [(w.heap.size + 1, Obj.cells #[.int .i64 p.x, .int .i64 p.y, .int .i64 p.turn, .int .i64 p.scale] 45), (w.heap.size, Obj.cells #[.int .i64 m.w, .int .i64 m.h, .slice mo mn mc] 24)] from At.ext hb1 ⟨(by repeat (first | (refine blk_at _ _ ?_; (first | rfl | (simp only [size_one]; done))) | refine (blk_past _ _ (by simp only [size_one]; omega)).trans ?_)), (by repeat (first | (refine blk_at _ _ ?_; (first | rfl | (simp only [size_one]; done))) | refine (blk_past _ _ (by simp only [size_one]; omega)).trans ?_)), trivial⟩); obtain ⟨⟨x00, x01, x02, x03⟩, -⟩ := run_4 (At.at A1.out 0 rfl); obtain ⟨⟨x10, x11, x12⟩, -⟩ := run_3 (At.at A1.out 1 rfl); have xz0 := At.lt A1.out 0 rfl; have xy0 := Nat.lt_succ_of_lt xz0; have xx0 := Nat.lt_succ_of_lt xy0; have xz1 := At.lt A1.out 1 rfl; have xy1 := Nat.lt_succ_of_lt xz1; have xx1 := Nat.lt_succ_of_lt xy1)
    go_ret
    exact ⟨ret_bool HR.out.symm, (by repeat (first | exact Ext.refl _ | assumption | refine Ext.alloc ?_ _ | refine Ext.drewN ?_ _ | refine ext_grow ?_ _ _ | refine Ext.trans ?_ (by assumption)))⟩
  have q1 : decide (m.In p.x p.y) = true := decide_eq_true h1
  rw [q1] at K98
  obtain ⟨c, hc⟩ : ∃ c, decide (Posed p.turn p.scale) = c := ⟨_, rfl⟩
  rw [hc] at K60
  have HR := Lib.hid (show c = decide (p.area.Ok m) from by rw [← hc]; exact decide_eq_decide.2 ⟨fun h => pose_ok.2 ⟨h1, h⟩, fun h => (pose_ok.1 h).2⟩)
  clear h1 q1 hc
  go_enter Try.func65, Try.ntmps65
  go_wp2_with (first | (go_at_call 98; (with_reducible refine (K98.out _).mono ?_); rintro E w1 ⟨rfl, hb1⟩; have A1 := Lib.hid (show At w1 [(w.heap.size + 1, Obj.cells #[.int .i64 p.x, .int .i64 p.y, .int .i64 p.turn, .int .i64 p.scale] 45), (w.heap.size, Obj.cells #[.int .i64 m.w, .int .i64 m.h, .slice mo mn mc] 24)] from At.ext hb1 ⟨(by repeat (first | (refine blk_at _ _ ?_; (first | rfl | (simp only [size_one]; done))) | refine (blk_past _ _ (by simp only [size_one]; omega)).trans ?_)), (by repeat (first | (refine blk_at _ _ ?_; (first | rfl | (simp only [size_one]; done))) | refine (blk_past _ _ (by simp only [size_one]; omega)).trans ?_)), trivial⟩); obtain ⟨⟨x00, x01, x02, x03⟩, -⟩ := run_4 (At.at A1.out 0 rfl); obtain ⟨⟨x10, x11, x12⟩, -⟩ := run_3 (At.at A1.out 1 rfl); have xz0 := At.lt A1.out 0 rfl; have xy0 := Nat.lt_succ_of_lt xz0; have xx0 := Nat.lt_succ_of_lt xy0; have xz1 := At.lt A1.out 1 rfl; have xy1 := Nat.lt_succ_of_lt xz1; have xx1 := Nat.lt_succ_of_lt xy1) | (go_at_call 60; (with_reducible refine (K60.out _).mono ?_); rintro E w8 ⟨rfl, hb8⟩))
  go_ret
  exact ⟨ret_bool HR.out, (by repeat (first | exact Ext.refl _ | assumption | refine Ext.alloc ?_ _ | refine Ext.drewN ?_ _ | refine ext_grow ?_ _ _ | refine Ext.trans ?_ (by assumption)))⟩
set_option maxRecDepth 100000 in
set_option maxHeartbeats 16000000 in
theorem c27 (m : Img) (mv : Value) (t : Tpl) (tv : Value) (p : Pose) (w : World) (hm : IntsAt w mv m.pix) (hml : m.pix.length ≤ maxLen) (ht : IntsAt w tv t.pix) (htl : t.pix.length ≤ maxLen) :
    Calls Try.prog 27 #[imgVal m mv, tplVal t tv, poseVal p] w fun e w' => e = .returned (.tuple #[.int .i64 (boundR m t p.area).1, .int .i64 (boundR m t p.area).2]) ∧ Ext w w' := by
  have HMV := Lib.hid hm
  have HTV := Lib.hid ht
  obtain ⟨mo, mc, rfl, -, -⟩ := hm.form
  obtain ⟨to, tc, rfl, -, -⟩ := ht.form
  have K63 := Lib.hid (fun w' => c63 p w')
  have K29 := Lib.hid (fun w' (h : Ext w w') => c29 m _ t _ p.area w' (HMV.out.ext h) hml (HTV.out.ext h) htl)
  obtain ⟨r1, hr1⟩ : ∃ r, (boundR m t p.area).1 = r := ⟨_, rfl⟩
  obtain ⟨r2, hr2⟩ : ∃ r, (boundR m t p.area).2 = r := ⟨_, rfl⟩
  rw [hr1, hr2] at K29 ⊢
  unfold imgVal tplVal poseVal areaVal at *
  clear hm ht hml htl hr1 hr2
  go_enter Try.func27, Try.ntmps27
  go_wp2
  refine wp_region_quiet_below (by kernel_rfl) (by kernel_rfl) ?_
  repeat (go_big_quiet_step ((first | (go_at_call 63; with_reducible exact Calls.ext_of (K63.out _)) | (go_at_call 29; with_reducible exact Calls.ext_of (K29.out _ (by repeat (first | exact Ext.refl _ | assumption | refine Ext.alloc ?_ _ | refine Ext.drewN ?_ _ | refine ext_grow ?_ _ _ | refine Ext.trans ?_ (by assumption))))))))
  refine wpQuiet_nil ?_
  intro w9 hw'
  obtain ⟨pq, hw''⟩ := hw'
  have hbw9 := ext_of_regrown hw''
  clear hw'' pq
  go_wp2
  go_ret2
  exact ⟨rfl, (by repeat (first | exact Ext.refl _ | assumption | refine Ext.alloc ?_ _ | refine Ext.drewN ?_ _ | refine ext_grow ?_ _ _ | refine Ext.trans ?_ (by assumption)))⟩
end Go.Proofs.Ytipkjdfnoonpcaa
