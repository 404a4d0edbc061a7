/- Images that are turned: the walks. -/
import Derived.Test.YtlnofbdhamingaaDoorMade
import Derived.Test.YtlnofbdhamingaaDoorGDraw
set_option linter.unusedVariables false
set_option linter.unusedSimpArgs false
namespace Go.Proofs.YtlnofbdhamingaaDoor
open Go.RowKit Go.Sort

theorem Img.at_vd {m : Img} (h : m.Valid) {x y : Int} (hi : m.In x y) : -2147483648 ≤ m.at x y ∧ m.at x y ≤ 2147483648 := by
  have hx := Img.idx h.1 hi
  refine h.2 _ ?_
  unfold Img.at
  rw [List.getD_eq_getElem?_getD, List.getElem?_eq_getElem (by omega)]
  exact List.getElem_mem _
set_option maxRecDepth 100000 in
theorem c_gridat (m : Img) (v : Value) (x y : Int) (w : World) (hm : m.Sized) (hi : m.In x y) (hv : IntsAt w v m.pix) :
    Calls Tryd.prog 108 #[imgVal m v, .int .i64 x, .int .i64 y] w fun e w' => e = .returned (.int .i64 (m.at x y)) ∧ Ext w w' := by
  obtain ⟨i1, i2, i3, i4⟩ := Img.idx hm hi
  obtain ⟨k1, k2⟩ := Img.len_bd hm
  obtain ⟨ao, cap, rfl, -, hc⟩ := hv.form
  obtain ⟨b, off, rfl, c0⟩ := hc (y * m.w + x).toNat (by omega)
  rw [show m.pix.getD (y * m.w + x).toNat 0 = m.at x y from rfl] at c0
  obtain ⟨r, hr⟩ : ∃ r, m.at x y = r := ⟨_, rfl⟩
  rw [hr] at c0 ⊢
  obtain ⟨⟨w1, w2⟩, ⟨w3, w4⟩, -⟩ := hm
  obtain ⟨⟨x1, x2⟩, y1, y2⟩ := hi
  have z0 := World.block_lt_of_cell? _ _ c0
  simp only at z0
  unfold imgVal
  clear hc hr hv
  go_enter Tryd.func108, Tryd.ntmps108
  go_wp2
  go_ret
  exact ⟨rfl, (by repeat (first | exact Ext.refl _ | assumption | refine Ext.alloc ?_ _ | refine Ext.drewN ?_ _ | refine ext_grow ?_ _ _ | refine Ext.trans ?_ (by assumption)))⟩
set_option maxRecDepth 100000 in
theorem c_turn1 (m : Img) (v : Value) (x y : Int) (BM : Nat) (w0 w : World) (hm : m.Sized) (hv : IntsAt w0 v m.pix) (hE : Ext w0 w) (hB : w.heap[BM]? = some (.cells #[.int .i64 m.w, .int .i64 m.h, v] 44)) (hi : m.In (y) (m.h - 1 - x)) (hx : 0 ≤ x ∧ x ≤ 100) (hy : 0 ≤ y ∧ y ≤ 100) :
    Calls Tryd.prog 107 #[.int .i64 x, .int .i64 y, .pointer (some ⟨BM, 0, none⟩)] w fun e w' => e = .returned (.int .i64 (m.at (y) (m.h - 1 - x))) ∧ Ext w w' := by
  have K := Lib.hid (fun w' (h : Ext w w') => c_gridat m v (y) (m.h - 1 - x) w' hm hi (hv.ext (hE.trans h)))
  obtain ⟨r, hr⟩ : ∃ r, m.at (y) (m.h - 1 - x) = r := ⟨_, rfl⟩
  rw [hr] at K ⊢
  obtain ⟨⟨w1, w2⟩, ⟨w3, w4⟩, -⟩ := hm
  obtain ⟨ao, cap, rfl, -, -⟩ := hv.form
  unfold imgVal at K
  obtain ⟨⟨c0, c1, c2⟩, f0, f1, f2⟩ := run_3 hB
  have hz := (Array.getElem?_eq_some_iff.1 hB).1
  obtain ⟨x1, x2⟩ := hx
  obtain ⟨y1, y2⟩ := hy
  clear hr hv hi hE hB
  go_enter Tryd.func107, Tryd.ntmps107
  go_wp2_with (go_at_call 108; (with_reducible refine (K.out _ (Ext.refl _)).mono ?_); rintro e w' ⟨rfl, hb⟩)
  go_ret
  exact ⟨rfl, hb⟩
def turnI (m : Img) : Img := ⟨m.h, m.w, gridL (m.h).toNat (m.w).toNat fun x y => m.at ((y : Int)) (m.h - 1 - (x : Int))⟩
def turnIs (m : Img) (w : World) (e : Ending) (w' : World) : Prop :=
  if m.Valid then ∃ v', e = .returned (.tuple #[imgVal (turnI m) v', .int .i64 0]) ∧ IntsAt w' v' (turnI m).pix ∧ (∀ j, v'.ownBlock = some j → w.heap.size ≤ j) ∧ Ext w w' else e = .returned (.tuple #[.agg #[.int .i64 0, .int .i64 0, .slice none 0 0], .int .i64 20]) ∧ Ext w w'
set_option maxRecDepth 100000 in
set_option maxHeartbeats 4000000 in
theorem c_Turn (m : Img) (v : Value) (w : World) (hv : IntsAt w v m.pix) (hl : m.pix.length ≤ maxLen) : Calls Tryd.prog 70 #[imgVal m v] w (turnIs m w) := by
  have HV := Lib.hid hv
  have K := Lib.hid (fun w' (h : Ext w w') => c_imgvalid m v w' (hv.ext h) hl)
  obtain ⟨ao, cap, rfl, -, -⟩ := hv.form
  by_cases hm : m.Valid
  case neg =>
    rw [decide_eq_false hm] at K
    have HN := Lib.hid hm
    unfold imgVal at *
    clear hm hv hl
    go_enter Tryd.func70, Tryd.ntmps70
    go_wp2_with (go_at_call 105; (with_reducible refine (K.out _ (by repeat (first | exact Ext.refl _ | assumption | refine Ext.alloc ?_ _ | refine Ext.drewN ?_ _ | refine ext_grow ?_ _ _ | refine Ext.trans ?_ (by assumption)))).mono ?_); rintro E w1 ⟨rfl, hb1⟩; have A1 := Lib.hid (show At w1 [(w.heap.size + 1, Obj.cells #[.int .i64 0, .int .i64 0, .slice none 0 0] 44), (w.heap.size, Obj.cells #[.int .i64 m.w, .int .i64 m.h, .slice ao m.pix.length cap] 44)] from At.ext hb1 ⟨(by repeat (first | (refine blk_at _ _ ?_; (first | rfl | (simp only [size_one]; done))) | refine (blk_past _ _ (by simp only [size_one]; omega)).trans ?_)), (by repeat (first | (refine blk_at _ _ ?_; (first | rfl | (simp only [size_one]; done))) | refine (blk_past _ _ (by simp only [size_one]; omega)).trans ?_)), trivial⟩); have E1 := Lib.hid (show Ext w w1 from (by repeat (first | exact Ext.refl _ | assumption | refine Ext.alloc ?_ _ | refine Ext.drewN ?_ _ | refine ext_grow ?_ _ _ | refine Ext.trans ?_ (by assumption)))); obtain ⟨⟨x00, x01, x02⟩, xf00, xf01, xf02⟩ := run_3 (At.at A1.out 0 rfl); obtain ⟨⟨x10, x11, x12⟩, xf10, xf11, xf12⟩ := run_3 (At.at A1.out 1 rfl); have xz0 := At.lt A1.out 0 rfl; have xy0 := Nat.lt_succ_of_lt xz0; have xx0 := Nat.lt_succ_of_lt xy0; have xz1 := At.lt A1.out 1 rfl; have xy1 := Nat.lt_succ_of_lt xz1; have xx1 := Nat.lt_succ_of_lt xy1)
    have st := store_3 (v0 := .int .i64 0) (v1 := .int .i64 0) (v2 := .slice none 0 0) (At.at A1.out 0 rfl)
    refine bodyPost_ret (results_row2 rfl _ _ _ _ _ (0, 0) _ rfl st.1 Tryd.underlying44 rfl (by kernel_rfl)) rfl ?_
    unfold turnIs
    rw [if_neg HN.out]
    exact ⟨rfl, st.2.2 w (by omega) E1.out⟩
  rw [decide_eq_true hm] at K
  have HM := Lib.hid hm
  obtain ⟨⟨w1', w2'⟩, ⟨w3', w4'⟩, -⟩ := hm.1
  have hB := hm.2
  obtain ⟨ww, hww⟩ : ∃ ww : Nat, m.h = (ww : Int) := ⟨(m.h).toNat, by omega⟩
  obtain ⟨hh, hhh⟩ : ∃ hh : Nat, m.w = (hh : Int) := ⟨(m.w).toNat, by omega⟩
  have KM := Lib.hid (fun (w1 : World) (hE1 : Ext w w1) (hB1 : w1.heap[w.heap.size]? = some (.cells #[.int .i64 m.w, .int .i64 m.h, .slice ao m.pix.length cap] 44)) => made_turn w.heap.size ww hh (by omega) (by omega) (by omega) (by omega) (fun x y => m.at ((y : Int)) (m.h - 1 - (x : Int))) (fun x y hx hy => Img.at_vd HM.out ⟨⟨by omega, by omega⟩, by omega, by omega⟩) w1
    (fun x y W hx hy hE => c_turn1 m _ x y w.heap.size w W HM.out.1 HV.out (hE1.trans hE) (hE.blk hB1) ⟨⟨by omega, by omega⟩, by omega, by omega⟩ (by omega) (by omega)))
  have HG := Lib.hid (show gridL ww hh (fun x y => m.at ((y : Int)) (m.h - 1 - (x : Int))) = (turnI m).pix from by
    unfold turnI
    simp only
    rw [show (m.h).toNat = ww by omega, show (m.w).toNat = hh by omega])
  have HWW := Lib.hid hww
  have HHH := Lib.hid hhh
  rw [HG.out, ← hww, ← hhh] at KM
  unfold imgVal at *
  clear hm hv hl hB hww hhh
  go_enter Tryd.func70, Tryd.ntmps70
  go_wp2_with (first | (have _q := E1; go_at_call 106; (with_reducible refine (KM.out _ E1.out (At.at A1.out 1 rfl)).mono ?_); rintro E w2 ⟨v2, rfl, hv2, hb2⟩; obtain ⟨-, vo, vc, hvv, -⟩ := SlAt.of_owns hv2; subst hvv; have V2 := Lib.hid hv2; have A2 := Lib.hid (At.ext hb2 A1.out); have E2 := Lib.hid (E1.out.trans hb2); clear hv2; obtain ⟨⟨y00, y01, y02⟩, yf00, yf01, yf02⟩ := run_3 (At.at A2.out 0 rfl); obtain ⟨⟨y10, y11, y12⟩, yf10, yf11, yf12⟩ := run_3 (At.at A2.out 1 rfl); have yz0 := At.lt A2.out 0 rfl; have yy0 := Nat.lt_succ_of_lt yz0; have yx0 := Nat.lt_succ_of_lt yy0; have yz1 := At.lt A2.out 1 rfl; have yy1 := Nat.lt_succ_of_lt yz1; have yx1 := Nat.lt_succ_of_lt yy1) | (go_at_call 105; (with_reducible refine (K.out _ (by repeat (first | exact Ext.refl _ | assumption | refine Ext.alloc ?_ _ | refine Ext.drewN ?_ _ | refine ext_grow ?_ _ _ | refine Ext.trans ?_ (by assumption)))).mono ?_); rintro E w1 ⟨rfl, hb1⟩; have A1 := Lib.hid (show At w1 [(w.heap.size + 1, Obj.cells #[.int .i64 0, .int .i64 0, .slice none 0 0] 44), (w.heap.size, Obj.cells #[.int .i64 m.w, .int .i64 m.h, .slice ao m.pix.length cap] 44)] from At.ext hb1 ⟨(by repeat (first | (refine blk_at _ _ ?_; (first | rfl | (simp only [size_one]; done))) | refine (blk_past _ _ (by simp only [size_one]; omega)).trans ?_)), (by repeat (first | (refine blk_at _ _ ?_; (first | rfl | (simp only [size_one]; done))) | refine (blk_past _ _ (by simp only [size_one]; omega)).trans ?_)), trivial⟩); have E1 := Lib.hid (show Ext w w1 from (by repeat (first | exact Ext.refl _ | assumption | refine Ext.alloc ?_ _ | refine Ext.drewN ?_ _ | refine ext_grow ?_ _ _ | refine Ext.trans ?_ (by assumption)))); obtain ⟨⟨x00, x01, x02⟩, xf00, xf01, xf02⟩ := run_3 (At.at A1.out 0 rfl); obtain ⟨⟨x10, x11, x12⟩, xf10, xf11, xf12⟩ := run_3 (At.at A1.out 1 rfl); have xz0 := At.lt A1.out 0 rfl; have xy0 := Nat.lt_succ_of_lt xz0; have xx0 := Nat.lt_succ_of_lt xy0; have xz1 := At.lt A1.out 1 rfl; have xy1 := Nat.lt_succ_of_lt xz1; have xx1 := Nat.lt_succ_of_lt xy1))
  have st := store_3 (v0 := .int .i64 (ww : Int)) (v1 := .int .i64 (hh : Int)) (v2 := .slice vo (turnI m).pix.length vc) (At.at A2.out 0 rfl)
  refine bodyPost_ret (results_row2 rfl _ _ _ _ _ (0, 0) _ rfl st.1 Tryd.underlying44 rfl (by kernel_rfl)) rfl ?_
  unfold turnIs
  rw [if_pos HM.out]
  refine ⟨.slice vo (turnI m).pix.length vc, by unfold imgVal; rw [show (turnI m).w = m.h from rfl, show (turnI m).h = m.w from rfl, HWW.out, HHH.out]; rfl, ?_, fun j hj => Nat.le_trans E1.out.size (owns_block V2.out j hj).1, st.2.2 w (by omega) E2.out⟩
  exact SlAt.of_owns (own_set (own_set (own_set V2.out (by have := At.lt A1.out 0 rfl; omega)) (by have := At.lt A1.out 0 rfl; omega)) (by have := At.lt A1.out 0 rfl; omega))
end Go.Proofs.YtlnofbdhamingaaDoor
