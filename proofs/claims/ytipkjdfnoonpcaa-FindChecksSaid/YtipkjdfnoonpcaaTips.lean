/- The range of Z for which the grasps around a place hold. -/
import Derived.Test.YtipkjdfnoonpcaaHeight
set_option linter.unusedVariables false
set_option linter.unusedSimpArgs false
namespace Go.Proofs.Ytipkjdfnoonpcaa
open Go.RowKit Go.Sort

theorem info98 : (Try.prog.info? 98).map (·.size) = some 2 := by kernel_rfl
/-- what 'tips' answers -/
def TipsIs (m : Img) (t : Tool) (a : Bool) (x y width slack : Int) (w : World) (e : Ending) (w' : World) : Prop :=
  ∃ lo hi : Int, e = .returned (.agg #[.int .i64 lo, .int .i64 hi]) ∧ Rng lo hi (m.holds a t.len t.palm t.grip width slack x y) ∧ Ext w w'
set_option maxRecDepth 100000 in
set_option maxHeartbeats 16000000 in
theorem c51 (m : Img) (v : Value) (t : Tool) (a : Bool) (x y width slack : Int) (w : World) (hm : m.Camera) (ht : t.Ok) (hv : IntsAt w v m.pix) (hx : 0 ≤ x ∧ x ≤ 16) (hy : 0 ≤ y ∧ y ≤ 16) (hw : 1 ≤ width ∧ width ≤ 8) (hs : 0 ≤ slack ∧ slack ≤ 2) :
    Calls Try.prog 51 #[viewVal m v a, toolVal t, .int .i64 x, .int .i64 y, .int .i64 width, .int .i64 slack] w (TipsIs m t a x y width slack w) := by
  have HC := Lib.hid hm
  have HM := Lib.hid hm.1
  have HV := Lib.hid hv
  obtain ⟨ao, cap, rfl, -, -⟩ := hv.form
  obtain ⟨v, hvv⟩ : ∃ v, Value.slice ao m.pix.length cap = v := ⟨_, rfl⟩
  obtain ⟨⟨t1, t2⟩, hg⟩ := ht
  obtain ⟨g1, g2, g3⟩ := id hg
  obtain ⟨x1, x2⟩ := hx
  obtain ⟨y1, y2⟩ := hy
  obtain ⟨hw1, hw2⟩ := hw
  obtain ⟨hs1, hs2⟩ := hs
  unfold viewVal toolVal
  rw [hvv] at HV ⊢
  clear hv hm hvv
  go_enter Try.func51, Try.ntmps51
  go_wp2
  go_loopw [14] (fun i wr => ∃ dy lo hi : Int, -slack ≤ dy ∧ dy ≤ t.len + slack ∧ i = .int .i64 dy ∧ Hid (Ext w wr) ∧ Hid (At wr [(w.heap.size + 1 + 1 + 1, Obj.cells #[.int .i64 (lo), .int .i64 (hi)] 98), (w.heap.size + 1 + 1, Obj.cells #[.int .i64 0, .int .i64 0] 98), (w.heap.size + 1, Obj.cells #[.int .i64 t.len, .int .i64 t.grip, .int .i64 t.palm] 26), (w.heap.size, Obj.cells #[.int .i64 m.w, .int .i64 m.h, v, .bool a] 96)]) ∧ Hid (Rng lo hi (m.upto a t.palm t.grip width slack x y dy (-slack)))) (fun i _ => (t.len + slack - intOf i).toNat)
  case atStart => exact ⟨-slack, 0, 255, by omega, by omega, rfl, Lib.hid (by repeat (first | exact Ext.refl _ | assumption | refine Ext.alloc ?_ _ | refine Ext.drewN ?_ _ | refine ext_grow ?_ _ _ | refine Ext.trans ?_ (by assumption))), Lib.hid (show At _ [(w.heap.size + 1 + 1 + 1, Obj.cells #[.int .i64 (0), .int .i64 (255)] 98), (w.heap.size + 1 + 1, Obj.cells #[.int .i64 0, .int .i64 0] 98), (w.heap.size + 1, Obj.cells #[.int .i64 t.len, .int .i64 t.grip, .int .i64 t.palm] 26), (w.heap.size, Obj.cells #[.int .i64 m.w, .int .i64 m.h, v, .bool a] 96)] from ⟨(by repeat (first | (refine blk_at _ _ ?_; (first | rfl | (simp only [size_one]; done))) | refine (blk_past _ _ (by simp only [size_one]; omega)).trans ?_)), (by repeat (first | (refine blk_at _ _ ?_; (first | rfl | (simp only [size_one]; done))) | refine (blk_past _ _ (by simp only [size_one]; omega)).trans ?_)), (by repeat (first | (refine blk_at _ _ ?_; (first | rfl | (simp only [size_one]; done))) | refine (blk_past _ _ (by simp only [size_one]; omega)).trans ?_)), (by repeat (first | (refine blk_at _ _ ?_; (first | rfl | (simp only [size_one]; done))) | refine (blk_past _ _ (by simp only [size_one]; omega)).trans ?_)), trivial⟩), Lib.hid (rng_start m a t.palm t.grip width slack x y)⟩
  case round =>
    obtain ⟨dy, lo, hi, hd1, hd3, rfl, hE, hA, hR⟩ := hrel
    obtain ⟨⟨r1, r2⟩, ⟨r3, r4⟩, -⟩ := id hR.out
    obtain ⟨⟨xa0, xa1⟩, xaf0, xaf1⟩ := run_2 (At.at hA.out 0 rfl)
    obtain ⟨⟨xb0, xb1⟩, xbf0, xbf1⟩ := run_2 (At.at hA.out 1 rfl)
    obtain ⟨⟨xc0, xc1, xc2⟩, -⟩ := run_3 (At.at hA.out 2 rfl)
    obtain ⟨⟨xd0, xd1, xd2, xd3⟩, -⟩ := run_4 (At.at hA.out 3 rfl)
    have xz := At.lt hA.out 0 rfl
    by_cases hd2 : dy < t.len + slack
    · go_wp2
      obtain ⟨wo, hwo⟩ : ∃ wo : World, wo = wr := ⟨_, rfl⟩
      subst hwo
      clear xa0 xa1 xaf0 xaf1 xb0 xb1 xbf0 xbf1 xc0 xc1 xc2 xd0 xd1 xd2 xd3 xz
      go_loopw [15] (fun i wr => ∃ dx lo hi : Int, -slack ≤ dx ∧ dx ≤ slack + 1 ∧ i = .int .i64 dx ∧ Hid (Ext w wr) ∧ Hid (At wr [(w.heap.size + 1 + 1 + 1, Obj.cells #[.int .i64 (lo), .int .i64 (hi)] 98), (w.heap.size + 1 + 1, Obj.cells #[.int .i64 0, .int .i64 0] 98), (w.heap.size + 1, Obj.cells #[.int .i64 t.len, .int .i64 t.grip, .int .i64 t.palm] 26), (w.heap.size, Obj.cells #[.int .i64 m.w, .int .i64 m.h, v, .bool a] 96)]) ∧ Hid (Rng lo hi (m.upto a t.palm t.grip width slack x y dy dx))) (fun i _ => (slack + 1 - intOf i).toNat)
      case atStart => exact ⟨-slack, lo, hi, by omega, by omega, rfl, hE, hA, hR⟩
      case round =>
        clear hE hA hR r1 r2 r3 r4
        obtain ⟨dx, lo, hi, hx1, hx3, rfl, hE, hA, hR⟩ := hrel
        obtain ⟨⟨r1, r2⟩, ⟨r3, r4⟩, -⟩ := id hR.out
        obtain ⟨⟨xa0, xa1⟩, xaf0, xaf1⟩ := run_2 (At.at hA.out 0 rfl)
        obtain ⟨⟨xb0, xb1⟩, xbf0, xbf1⟩ := run_2 (At.at hA.out 1 rfl)
        obtain ⟨⟨xc0, xc1, xc2⟩, -⟩ := run_3 (At.at hA.out 2 rfl)
        obtain ⟨⟨xd0, xd1, xd2, xd3⟩, -⟩ := run_4 (At.at hA.out 3 rfl)
        have xz := At.lt hA.out 0 rfl
        by_cases hx2 : dx ≤ slack
        · go_wp2
          have HR := hR
          obtain ⟨wo, hwo⟩ : ∃ wo : World, wo = wr := ⟨_, rfl⟩
          subst hwo
          clear xa0 xa1 xaf0 xaf1 xb0 xb1 xbf0 xbf1 xc0 xc1 xc2 xd0 xd1 xd2 xd3 xz
          go_loopw [16, 17] (fun l i wr => ∃ o lo1 ln : Int, -1 ≤ o ∧ o ≤ width + 1 ∧ i = .int .i64 o ∧ l = .int .i64 ln ∧ Hid (Ext w wr) ∧ Hid (At wr [(w.heap.size + 1 + 1 + 1, Obj.cells #[.int .i64 (lo1), .int .i64 (hi)] 98), (w.heap.size + 1 + 1, Obj.cells #[.int .i64 0, .int .i64 0] 98), (w.heap.size + 1, Obj.cells #[.int .i64 t.len, .int .i64 t.grip, .int .i64 t.palm] 26), (w.heap.size, Obj.cells #[.int .i64 m.w, .int .i64 m.h, v, .bool a] 96)]) ∧ Hid (m.lane a width (x + dx) (y + dy) lo o lo1 ln)) (fun _ i _ => (width + 1 - intOf i).toNat)
          case atStart => exact ⟨-1, lo, 0, by omega, by omega, rfl, rfl, hE, hA, Lib.hid (lane_start m a width (x + dx) (y + dy) lo hw1 ⟨r1, r2⟩)⟩
          case round =>
            clear hE hA
            obtain ⟨o, lo1, ln, ho1, ho2, rfl, rfl, hE, hA, hI⟩ := hrel
            obtain ⟨⟨⟨l1, l2⟩, l3, l4⟩, -⟩ := id hI.out
            by_cases how : o ≤ width
            · obtain ⟨⟨xa0, xa1⟩, xaf0, xaf1⟩ := run_2 (At.at hA.out 0 rfl)
              obtain ⟨⟨xb0, xb1⟩, xbf0, xbf1⟩ := run_2 (At.at hA.out 1 rfl)
              obtain ⟨⟨xc0, xc1, xc2⟩, -⟩ := run_3 (At.at hA.out 2 rfl)
              obtain ⟨⟨xd0, xd1, xd2, xd3⟩, -⟩ := run_4 (At.at hA.out 3 rfl)
              have xz := At.lt hA.out 0 rfl
              by_cases hin : m.vin a (x + dx + o) (y + dy)
              case neg =>
                have K := Lib.hid (fun w' (h : Ext w w') => c90_no m _ a (x + dx + o) (y + dy) w' HM.out (HV.out.ext h) hin)
                have HIN := Lib.hid hin
                unfold viewVal at K
                clear hin
                go_wp2_with (go_at_call 90; (with_reducible refine (K.out _ hE.out).mono ?_); rintro E w1 ⟨rfl, hb⟩; have A1 := Lib.hid (show At w1 [(w.heap.size + 1 + 1 + 1, Obj.cells #[.int .i64 (lo1), .int .i64 (hi)] 98), (w.heap.size + 1 + 1, Obj.cells #[.int .i64 0, .int .i64 0] 98), (w.heap.size + 1, Obj.cells #[.int .i64 t.len, .int .i64 t.grip, .int .i64 t.palm] 26), (w.heap.size, Obj.cells #[.int .i64 m.w, .int .i64 m.h, v, .bool a] 96)] from At.ext hb hA.out); have E1 := Lib.hid (hE.out.trans hb); obtain ⟨⟨ya0, ya1⟩, yaf0, yaf1⟩ := run_2 (At.at A1.out 0 rfl); obtain ⟨⟨yb0, yb1⟩, ybf0, ybf1⟩ := run_2 (At.at A1.out 1 rfl); obtain ⟨⟨yc0, yc1, yc2⟩, -⟩ := run_3 (At.at A1.out 2 rfl); obtain ⟨⟨yd0, yd1, yd2, yd3⟩, -⟩ := run_4 (At.at A1.out 3 rfl); have yz := At.lt A1.out 0 rfl)
                have stA := store_2 (v0 := .int .i64 0) (v1 := .int .i64 (-1)) (At.at A1.out 1 rfl)
                refine bodyPost_ret (results_row1 rfl _ _ (w.heap.size + 1 + 1) 98 _ (0, 0) _ rfl stA.1 Try.underlying98 rfl info98) rfl ?_
                exact ⟨0, -1, rfl, rng_out hd1 hd2 hx1 hx2 ho1 how HIN.out, stA.2.2 w (by omega) E1.out⟩
              have hb9 := Img.vat_bd HC.out hin
              have K := Lib.hid (fun w' (h : Ext w w') => c90_yes m _ a (x + dx + o) (y + dy) w' HM.out (HV.out.ext h) hin)
              have HIN := Lib.hid hin
              unfold viewVal at K
              obtain ⟨h, hh⟩ : ∃ h, m.vat a (x + dx + o) (y + dy) = h := ⟨_, rfl⟩
              rw [hh] at K hb9
              have HH := Lib.hid hh
              obtain ⟨hb8, hb7⟩ := hb9
              clear hin hh
              by_cases c1 : o = -1
              · have t1 : (o == -1) = true := by simpa using c1
                have C1 := Lib.hid c1
                clear c1
                rcases Int.lt_or_le lo1 h with hm | hm
                · go_wp2_with (go_at_call 90; (with_reducible refine (K.out _ hE.out).mono ?_); rintro E w1 ⟨rfl, hb⟩; have A1 := Lib.hid (show At w1 [(w.heap.size + 1 + 1 + 1, Obj.cells #[.int .i64 (lo1), .int .i64 (hi)] 98), (w.heap.size + 1 + 1, Obj.cells #[.int .i64 0, .int .i64 0] 98), (w.heap.size + 1, Obj.cells #[.int .i64 t.len, .int .i64 t.grip, .int .i64 t.palm] 26), (w.heap.size, Obj.cells #[.int .i64 m.w, .int .i64 m.h, v, .bool a] 96)] from At.ext hb hA.out); have E1 := Lib.hid (hE.out.trans hb); obtain ⟨⟨ya0, ya1⟩, yaf0, yaf1⟩ := run_2 (At.at A1.out 0 rfl); obtain ⟨⟨yb0, yb1⟩, ybf0, ybf1⟩ := run_2 (At.at A1.out 1 rfl); obtain ⟨⟨yc0, yc1, yc2⟩, -⟩ := run_3 (At.at A1.out 2 rfl); obtain ⟨⟨yd0, yd1, yd2, yd3⟩, -⟩ := run_4 (At.at A1.out 3 rfl); have yz := At.lt A1.out 0 rfl)
                  go_roundw
                  case rel => exact ⟨o + 1, h, ln, by omega, by omega, rfl, rfl, Lib.hid (E1.out.setCell (p := ⟨w.heap.size + 1 + 1 + 1, 0, none⟩) (show w.heap.size ≤ w.heap.size + 1 + 1 + 1 by omega) _), Lib.hid (show At (World.setCell _ ⟨w.heap.size + 1 + 1 + 1, 0, none⟩ (.int .i64 (h))) [(w.heap.size + 1 + 1 + 1, Obj.cells #[.int .i64 (h), .int .i64 (hi)] 98), (w.heap.size + 1 + 1, Obj.cells #[.int .i64 0, .int .i64 0] 98), (w.heap.size + 1, Obj.cells #[.int .i64 t.len, .int .i64 t.grip, .int .i64 t.palm] 26), (w.heap.size, Obj.cells #[.int .i64 m.w, .int .i64 m.h, v, .bool a] 96)] from ⟨(st_one (At.at A1.out 0 rfl) 0 _).1, At.other (set_at _ _ _ _) (by simp; omega) (At.erase A1.out 0)⟩), Lib.hid (by
                    have := C1.out; subst this
                    have h9 := lane_first HC.out hw1 hI.out HIN.out
                    rw [HH.out, Int.max_eq_right (Int.le_of_lt hm)] at h9
                    exact h9)⟩
                  case measure => simp [intOf]; omega
                · go_wp2_with (go_at_call 90; (with_reducible refine (K.out _ hE.out).mono ?_); rintro E w1 ⟨rfl, hb⟩; have A1 := Lib.hid (show At w1 [(w.heap.size + 1 + 1 + 1, Obj.cells #[.int .i64 (lo1), .int .i64 (hi)] 98), (w.heap.size + 1 + 1, Obj.cells #[.int .i64 0, .int .i64 0] 98), (w.heap.size + 1, Obj.cells #[.int .i64 t.len, .int .i64 t.grip, .int .i64 t.palm] 26), (w.heap.size, Obj.cells #[.int .i64 m.w, .int .i64 m.h, v, .bool a] 96)] from At.ext hb hA.out); have E1 := Lib.hid (hE.out.trans hb); obtain ⟨⟨ya0, ya1⟩, yaf0, yaf1⟩ := run_2 (At.at A1.out 0 rfl); obtain ⟨⟨yb0, yb1⟩, ybf0, ybf1⟩ := run_2 (At.at A1.out 1 rfl); obtain ⟨⟨yc0, yc1, yc2⟩, -⟩ := run_3 (At.at A1.out 2 rfl); obtain ⟨⟨yd0, yd1, yd2, yd3⟩, -⟩ := run_4 (At.at A1.out 3 rfl); have yz := At.lt A1.out 0 rfl)
                  go_roundw
                  case rel => exact ⟨o + 1, lo1, ln, by omega, by omega, rfl, rfl, Lib.hid (E1.out.setCell (p := ⟨w.heap.size + 1 + 1 + 1, 0, none⟩) (show w.heap.size ≤ w.heap.size + 1 + 1 + 1 by omega) _), Lib.hid (show At (World.setCell _ ⟨w.heap.size + 1 + 1 + 1, 0, none⟩ (.int .i64 (lo1))) [(w.heap.size + 1 + 1 + 1, Obj.cells #[.int .i64 (lo1), .int .i64 (hi)] 98), (w.heap.size + 1 + 1, Obj.cells #[.int .i64 0, .int .i64 0] 98), (w.heap.size + 1, Obj.cells #[.int .i64 t.len, .int .i64 t.grip, .int .i64 t.palm] 26), (w.heap.size, Obj.cells #[.int .i64 m.w, .int .i64 m.h, v, .bool a] 96)] from ⟨(st_one (At.at A1.out 0 rfl) 0 _).1, At.other (set_at _ _ _ _) (by simp; omega) (At.erase A1.out 0)⟩), Lib.hid (by
                    have := C1.out; subst this
                    have h9 := lane_first HC.out hw1 hI.out HIN.out
                    rw [HH.out, Int.max_eq_left hm] at h9
                    exact h9)⟩
                  case measure => simp [intOf]; omega
              · have t1 : (o == -1) = false := by simpa using c1
                by_cases c2 : o = width
                · have t2 : (o == width) = true := by simpa using c2
                  have C2 := Lib.hid c2
                  clear c1 c2
                  rcases Int.lt_or_le lo1 h with hm | hm
                  · go_wp2_with (go_at_call 90; (with_reducible refine (K.out _ hE.out).mono ?_); rintro E w1 ⟨rfl, hb⟩; have A1 := Lib.hid (show At w1 [(w.heap.size + 1 + 1 + 1, Obj.cells #[.int .i64 (lo1), .int .i64 (hi)] 98), (w.heap.size + 1 + 1, Obj.cells #[.int .i64 0, .int .i64 0] 98), (w.heap.size + 1, Obj.cells #[.int .i64 t.len, .int .i64 t.grip, .int .i64 t.palm] 26), (w.heap.size, Obj.cells #[.int .i64 m.w, .int .i64 m.h, v, .bool a] 96)] from At.ext hb hA.out); have E1 := Lib.hid (hE.out.trans hb); obtain ⟨⟨ya0, ya1⟩, yaf0, yaf1⟩ := run_2 (At.at A1.out 0 rfl); obtain ⟨⟨yb0, yb1⟩, ybf0, ybf1⟩ := run_2 (At.at A1.out 1 rfl); obtain ⟨⟨yc0, yc1, yc2⟩, -⟩ := run_3 (At.at A1.out 2 rfl); obtain ⟨⟨yd0, yd1, yd2, yd3⟩, -⟩ := run_4 (At.at A1.out 3 rfl); have yz := At.lt A1.out 0 rfl)
                    go_roundw
                    case rel => exact ⟨o + 1, h, ln, by omega, by omega, rfl, rfl, Lib.hid (E1.out.setCell (p := ⟨w.heap.size + 1 + 1 + 1, 0, none⟩) (show w.heap.size ≤ w.heap.size + 1 + 1 + 1 by omega) _), Lib.hid (show At (World.setCell _ ⟨w.heap.size + 1 + 1 + 1, 0, none⟩ (.int .i64 (h))) [(w.heap.size + 1 + 1 + 1, Obj.cells #[.int .i64 (h), .int .i64 (hi)] 98), (w.heap.size + 1 + 1, Obj.cells #[.int .i64 0, .int .i64 0] 98), (w.heap.size + 1, Obj.cells #[.int .i64 t.len, .int .i64 t.grip, .int .i64 t.palm] 26), (w.heap.size, Obj.cells #[.int .i64 m.w, .int .i64 m.h, v, .bool a] 96)] from ⟨(st_one (At.at A1.out 0 rfl) 0 _).1, At.other (set_at _ _ _ _) (by simp; omega) (At.erase A1.out 0)⟩), Lib.hid (by
                      have := C2.out; subst this
                      have h9 := lane_last HC.out hw1 hI.out HIN.out
                      rw [HH.out, Int.max_eq_right (Int.le_of_lt hm)] at h9
                      exact h9)⟩
                    case measure => simp [intOf]; omega
                  · go_wp2_with (go_at_call 90; (with_reducible refine (K.out _ hE.out).mono ?_); rintro E w1 ⟨rfl, hb⟩; have A1 := Lib.hid (show At w1 [(w.heap.size + 1 + 1 + 1, Obj.cells #[.int .i64 (lo1), .int .i64 (hi)] 98), (w.heap.size + 1 + 1, Obj.cells #[.int .i64 0, .int .i64 0] 98), (w.heap.size + 1, Obj.cells #[.int .i64 t.len, .int .i64 t.grip, .int .i64 t.palm] 26), (w.heap.size, Obj.cells #[.int .i64 m.w, .int .i64 m.h, v, .bool a] 96)] from At.ext hb hA.out); have E1 := Lib.hid (hE.out.trans hb); obtain ⟨⟨ya0, ya1⟩, yaf0, yaf1⟩ := run_2 (At.at A1.out 0 rfl); obtain ⟨⟨yb0, yb1⟩, ybf0, ybf1⟩ := run_2 (At.at A1.out 1 rfl); obtain ⟨⟨yc0, yc1, yc2⟩, -⟩ := run_3 (At.at A1.out 2 rfl); obtain ⟨⟨yd0, yd1, yd2, yd3⟩, -⟩ := run_4 (At.at A1.out 3 rfl); have yz := At.lt A1.out 0 rfl)
                    go_roundw
                    case rel => exact ⟨o + 1, lo1, ln, by omega, by omega, rfl, rfl, Lib.hid (E1.out.setCell (p := ⟨w.heap.size + 1 + 1 + 1, 0, none⟩) (show w.heap.size ≤ w.heap.size + 1 + 1 + 1 by omega) _), Lib.hid (show At (World.setCell _ ⟨w.heap.size + 1 + 1 + 1, 0, none⟩ (.int .i64 (lo1))) [(w.heap.size + 1 + 1 + 1, Obj.cells #[.int .i64 (lo1), .int .i64 (hi)] 98), (w.heap.size + 1 + 1, Obj.cells #[.int .i64 0, .int .i64 0] 98), (w.heap.size + 1, Obj.cells #[.int .i64 t.len, .int .i64 t.grip, .int .i64 t.palm] 26), (w.heap.size, Obj.cells #[.int .i64 m.w, .int .i64 m.h, v, .bool a] 96)] from ⟨(st_one (At.at A1.out 0 rfl) 0 _).1, At.other (set_at _ _ _ _) (by simp; omega) (At.erase A1.out 0)⟩), Lib.hid (by
                      have := C2.out; subst this
                      have h9 := lane_last HC.out hw1 hI.out HIN.out
                      rw [HH.out, Int.max_eq_left hm] at h9
                      exact h9)⟩
                    case measure => simp [intOf]; omega
                · have t2 : (o == width) = false := by simpa using c2
                  have o1 : 0 ≤ o := by omega
                  have o2 : o < width := by omega
                  clear c1 c2
                  rcases Int.lt_or_le ln h with hm | hm
                  · go_wp2_with (go_at_call 90; (with_reducible refine (K.out _ hE.out).mono ?_); rintro E w1 ⟨rfl, hb⟩; have A1 := Lib.hid (show At w1 [(w.heap.size + 1 + 1 + 1, Obj.cells #[.int .i64 (lo1), .int .i64 (hi)] 98), (w.heap.size + 1 + 1, Obj.cells #[.int .i64 0, .int .i64 0] 98), (w.heap.size + 1, Obj.cells #[.int .i64 t.len, .int .i64 t.grip, .int .i64 t.palm] 26), (w.heap.size, Obj.cells #[.int .i64 m.w, .int .i64 m.h, v, .bool a] 96)] from At.ext hb hA.out); have E1 := Lib.hid (hE.out.trans hb); obtain ⟨⟨ya0, ya1⟩, yaf0, yaf1⟩ := run_2 (At.at A1.out 0 rfl); obtain ⟨⟨yb0, yb1⟩, ybf0, ybf1⟩ := run_2 (At.at A1.out 1 rfl); obtain ⟨⟨yc0, yc1, yc2⟩, -⟩ := run_3 (At.at A1.out 2 rfl); obtain ⟨⟨yd0, yd1, yd2, yd3⟩, -⟩ := run_4 (At.at A1.out 3 rfl); have yz := At.lt A1.out 0 rfl)
                    go_roundw
                    case rel => exact ⟨o + 1, lo1, h, by omega, by omega, rfl, rfl, E1, A1, Lib.hid (by
                      have h9 := lane_mid HC.out o1 o2 hI.out HIN.out
                      rw [HH.out, Int.max_eq_right (Int.le_of_lt hm)] at h9
                      exact h9)⟩
                    case measure => simp [intOf]; omega
                  · go_wp2_with (go_at_call 90; (with_reducible refine (K.out _ hE.out).mono ?_); rintro E w1 ⟨rfl, hb⟩; have A1 := Lib.hid (show At w1 [(w.heap.size + 1 + 1 + 1, Obj.cells #[.int .i64 (lo1), .int .i64 (hi)] 98), (w.heap.size + 1 + 1, Obj.cells #[.int .i64 0, .int .i64 0] 98), (w.heap.size + 1, Obj.cells #[.int .i64 t.len, .int .i64 t.grip, .int .i64 t.palm] 26), (w.heap.size, Obj.cells #[.int .i64 m.w, .int .i64 m.h, v, .bool a] 96)] from At.ext hb hA.out); have E1 := Lib.hid (hE.out.trans hb); obtain ⟨⟨ya0, ya1⟩, yaf0, yaf1⟩ := run_2 (At.at A1.out 0 rfl); obtain ⟨⟨yb0, yb1⟩, ybf0, ybf1⟩ := run_2 (At.at A1.out 1 rfl); obtain ⟨⟨yc0, yc1, yc2⟩, -⟩ := run_3 (At.at A1.out 2 rfl); obtain ⟨⟨yd0, yd1, yd2, yd3⟩, -⟩ := run_4 (At.at A1.out 3 rfl); have yz := At.lt A1.out 0 rfl)
                    go_roundw
                    case rel => exact ⟨o + 1, lo1, ln, by omega, by omega, rfl, rfl, E1, A1, Lib.hid (by
                      have h9 := lane_mid HC.out o1 o2 hI.out HIN.out
                      rw [HH.out, Int.max_eq_left hm] at h9
                      exact h9)⟩
                    case measure => simp [intOf]; omega
            · obtain rfl : o = width + 1 := by omega
              obtain ⟨⟨xa0, xa1⟩, xaf0, xaf1⟩ := run_2 (At.at hA.out 0 rfl)
              obtain ⟨⟨xb0, xb1⟩, xbf0, xbf1⟩ := run_2 (At.at hA.out 1 rfl)
              obtain ⟨⟨xc0, xc1, xc2⟩, -⟩ := run_3 (At.at hA.out 2 rfl)
              obtain ⟨⟨xd0, xd1, xd2, xd3⟩, -⟩ := run_4 (At.at hA.out 3 rfl)
              have xz := At.lt hA.out 0 rfl
              have HN := Lib.hid (rng_cell hg hx1 hw1 HR.out hI.out)
              clear how
              rcases Int.lt_or_le lo1 (ln - t.palm) with hm | hm <;> rcases Int.lt_or_le (ln - t.grip) hi with hn | hn
              · go_wp2
                go_roundw
                case rel => exact ⟨dx + 1, ln - t.palm, ln - t.grip, by omega, by omega, rfl, Lib.hid ((hE.out.setCell (p := ⟨w.heap.size + 1 + 1 + 1, 0, none⟩) (show w.heap.size ≤ w.heap.size + 1 + 1 + 1 by omega) _).setCell (p := ⟨w.heap.size + 1 + 1 + 1, 1, none⟩) (show w.heap.size ≤ w.heap.size + 1 + 1 + 1 by omega) _), Lib.hid (show At _ [(w.heap.size + 1 + 1 + 1, Obj.cells #[.int .i64 (ln - t.palm), .int .i64 (ln - t.grip)] 98), (w.heap.size + 1 + 1, Obj.cells #[.int .i64 0, .int .i64 0] 98), (w.heap.size + 1, Obj.cells #[.int .i64 t.len, .int .i64 t.grip, .int .i64 t.palm] 26), (w.heap.size, Obj.cells #[.int .i64 m.w, .int .i64 m.h, v, .bool a] 96)] from ⟨(st_one (st_one (At.at hA.out 0 rfl) 0 (.int .i64 (ln - t.palm))).1 1 (.int .i64 (ln - t.grip))).1, At.other (set_at _ _ _ _) (by simp; omega) (At.other (set_at _ _ _ _) (by simp; omega) (At.erase hA.out 0))⟩), Lib.hid (by
                  have h9 := HN.out
                  rw [Int.max_eq_right (Int.le_of_lt hm), Int.min_eq_right (Int.le_of_lt hn)] at h9
                  exact h9)⟩
                case measure => simp [intOf]; omega
              · go_wp2
                go_roundw
                case rel => exact ⟨dx + 1, ln - t.palm, hi, by omega, by omega, rfl, Lib.hid ((hE.out.setCell (p := ⟨w.heap.size + 1 + 1 + 1, 0, none⟩) (show w.heap.size ≤ w.heap.size + 1 + 1 + 1 by omega) _).setCell (p := ⟨w.heap.size + 1 + 1 + 1, 1, none⟩) (show w.heap.size ≤ w.heap.size + 1 + 1 + 1 by omega) _), Lib.hid (show At _ [(w.heap.size + 1 + 1 + 1, Obj.cells #[.int .i64 (ln - t.palm), .int .i64 (hi)] 98), (w.heap.size + 1 + 1, Obj.cells #[.int .i64 0, .int .i64 0] 98), (w.heap.size + 1, Obj.cells #[.int .i64 t.len, .int .i64 t.grip, .int .i64 t.palm] 26), (w.heap.size, Obj.cells #[.int .i64 m.w, .int .i64 m.h, v, .bool a] 96)] from ⟨(st_one (st_one (At.at hA.out 0 rfl) 0 (.int .i64 (ln - t.palm))).1 1 (.int .i64 (hi))).1, At.other (set_at _ _ _ _) (by simp; omega) (At.other (set_at _ _ _ _) (by simp; omega) (At.erase hA.out 0))⟩), Lib.hid (by
                  have h9 := HN.out
                  rw [Int.max_eq_right (Int.le_of_lt hm), Int.min_eq_left hn] at h9
                  exact h9)⟩
                case measure => simp [intOf]; omega
              · go_wp2
                go_roundw
                case rel => exact ⟨dx + 1, lo1, ln - t.grip, by omega, by omega, rfl, Lib.hid ((hE.out.setCell (p := ⟨w.heap.size + 1 + 1 + 1, 0, none⟩) (show w.heap.size ≤ w.heap.size + 1 + 1 + 1 by omega) _).setCell (p := ⟨w.heap.size + 1 + 1 + 1, 1, none⟩) (show w.heap.size ≤ w.heap.size + 1 + 1 + 1 by omega) _), Lib.hid (show At _ [(w.heap.size + 1 + 1 + 1, Obj.cells #[.int .i64 (lo1), .int .i64 (ln - t.grip)] 98), (w.heap.size + 1 + 1, Obj.cells #[.int .i64 0, .int .i64 0] 98), (w.heap.size + 1, Obj.cells #[.int .i64 t.len, .int .i64 t.grip, .int .i64 t.palm] 26), (w.heap.size, Obj.cells #[.int .i64 m.w, .int .i64 m.h, v, .bool a] 96)] from ⟨(st_one (st_one (At.at hA.out 0 rfl) 0 (.int .i64 (lo1))).1 1 (.int .i64 (ln - t.grip))).1, At.other (set_at _ _ _ _) (by simp; omega) (At.other (set_at _ _ _ _) (by simp; omega) (At.erase hA.out 0))⟩), Lib.hid (by
                  have h9 := HN.out
                  rw [Int.max_eq_left hm, Int.min_eq_right (Int.le_of_lt hn)] at h9
                  exact h9)⟩
                case measure => simp [intOf]; omega
              · go_wp2
                go_roundw
                case rel => exact ⟨dx + 1, lo1, hi, by omega, by omega, rfl, Lib.hid ((hE.out.setCell (p := ⟨w.heap.size + 1 + 1 + 1, 0, none⟩) (show w.heap.size ≤ w.heap.size + 1 + 1 + 1 by omega) _).setCell (p := ⟨w.heap.size + 1 + 1 + 1, 1, none⟩) (show w.heap.size ≤ w.heap.size + 1 + 1 + 1 by omega) _), Lib.hid (show At _ [(w.heap.size + 1 + 1 + 1, Obj.cells #[.int .i64 (lo1), .int .i64 (hi)] 98), (w.heap.size + 1 + 1, Obj.cells #[.int .i64 0, .int .i64 0] 98), (w.heap.size + 1, Obj.cells #[.int .i64 t.len, .int .i64 t.grip, .int .i64 t.palm] 26), (w.heap.size, Obj.cells #[.int .i64 m.w, .int .i64 m.h, v, .bool a] 96)] from ⟨(st_one (st_one (At.at hA.out 0 rfl) 0 (.int .i64 (lo1))).1 1 (.int .i64 (hi))).1, At.other (set_at _ _ _ _) (by simp; omega) (At.other (set_at _ _ _ _) (by simp; omega) (At.erase hA.out 0))⟩), Lib.hid (by
                  have h9 := HN.out
                  rw [Int.max_eq_left hm, Int.min_eq_left hn] at h9
                  exact h9)⟩
                case measure => simp [intOf]; omega
        · obtain rfl : dx = slack + 1 := by omega
          go_wp2
          go_roundw
          case rel => exact ⟨dy + 1, lo, hi, by omega, by omega, rfl, hE, hA, Lib.hid (rng_row hd1 hs1 hR.out)⟩
          case measure => simp [intOf]; omega
    · have hd4 : dy = t.len + slack := by omega
      have HN := Lib.hid (rng_end hd4 hR.out)
      clear hd4
      go_wp2
      have stA := store_2 (v0 := .int .i64 lo) (v1 := .int .i64 hi) (At.at hA.out 1 rfl)
      refine bodyPost_ret (results_row1 rfl _ _ (w.heap.size + 1 + 1) 98 _ (0, 0) _ rfl stA.1 Try.underlying98 rfl info98) rfl ?_
      exact ⟨lo, hi, rfl, HN.out, stA.2.2 w (by omega) hE.out⟩
end Go.Proofs.Ytipkjdfnoonpcaa
