/- The reference's bounds: the walks. -/
import Derived.Test.YtipkjdfnoonpcaaRefPose
set_option linter.unusedVariables false
set_option linter.unusedSimpArgs false
namespace Go.Proofs.Ytipkjdfnoonpcaa
open Go.RowKit Go.Sort
attribute [local go_sem ↓] Go.wp_at_zero Go.wp_at_succ

set_option maxRecDepth 100000 in
set_option maxHeartbeats 16000000 in
theorem c71 (m : Img) (mv : Value) (a : Area) (w : World) (hm : m.Sized) (hmv : ∃ ao n cap, mv = .slice ao n cap) : Calls Try.prog 71 #[imgVal m mv, areaVal a] w fun e w' => e = .returned (.bool (decide (a.Ok m))) ∧ Ext w w' := by
  obtain ⟨mo, mn, mc, rfl⟩ := hmv
  obtain ⟨⟨w1, w2⟩, ⟨w3, w4⟩, -⟩ := hm
  unfold imgVal areaVal
  by_cases h0 : 0 ≤ a.x0
  case neg =>
    have q0 : decide (0 ≤ a.x0) = false := decide_eq_false h0
    have HR := Lib.hid (show decide (a.Ok m) = false from decide_eq_false fun h => h0 h.1.1)
    go_enter Try.func71, Try.ntmps71
    go_wp2
    go_ret
    exact ⟨ret_bool HR.out.symm, (by repeat (first | exact Ext.refl _ | assumption | refine Ext.alloc ?_ _ | refine Ext.drewN ?_ _ | refine ext_grow ?_ _ _ | refine Ext.trans ?_ (by assumption)))⟩
  have q0 : decide (0 ≤ a.x0) = true := decide_eq_true h0
  by_cases h1 : a.x0 ≤ a.x1
  case neg =>
    have q1 : decide (a.x0 ≤ a.x1) = false := decide_eq_false h1
    have HR := Lib.hid (show decide (a.Ok m) = false from decide_eq_false fun h => h1 h.1.2.1)
    go_enter Try.func71, Try.ntmps71
    go_wp2
    go_ret
    exact ⟨ret_bool HR.out.symm, (by repeat (first | exact Ext.refl _ | assumption | refine Ext.alloc ?_ _ | refine Ext.drewN ?_ _ | refine ext_grow ?_ _ _ | refine Ext.trans ?_ (by assumption)))⟩
  have q1 : decide (a.x0 ≤ a.x1) = true := decide_eq_true h1
  by_cases h2 : a.x1 ≤ m.w - 1
  case neg =>
    have q2 : decide (a.x1 ≤ m.w - 1) = false := decide_eq_false h2
    have HR := Lib.hid (show decide (a.Ok m) = false from decide_eq_false fun h => h2 h.1.2.2)
    go_enter Try.func71, Try.ntmps71
    go_wp2
    go_ret
    exact ⟨ret_bool HR.out.symm, (by repeat (first | exact Ext.refl _ | assumption | refine Ext.alloc ?_ _ | refine Ext.drewN ?_ _ | refine ext_grow ?_ _ _ | refine Ext.trans ?_ (by assumption)))⟩
  have q2 : decide (a.x1 ≤ m.w - 1) = true := decide_eq_true h2
  by_cases h3 : 0 ≤ a.y0
  case neg =>
    have q3 : decide (0 ≤ a.y0) = false := decide_eq_false h3
    have HR := Lib.hid (show decide (a.Ok m) = false from decide_eq_false fun h => h3 h.2.1.1)
    go_enter Try.func71, Try.ntmps71
    go_wp2
    go_ret
    exact ⟨ret_bool HR.out.symm, (by repeat (first | exact Ext.refl _ | assumption | refine Ext.alloc ?_ _ | refine Ext.drewN ?_ _ | refine ext_grow ?_ _ _ | refine Ext.trans ?_ (by assumption)))⟩
  have q3 : decide (0 ≤ a.y0) = true := decide_eq_true h3
  by_cases h4 : a.y0 ≤ a.y1
  case neg =>
    have q4 : decide (a.y0 ≤ a.y1) = false := decide_eq_false h4
    have HR := Lib.hid (show decide (a.Ok m) = false from decide_eq_false fun h => h4 h.2.1.2.1)
    go_enter Try.func71, Try.ntmps71
    go_wp2
    go_ret
    exact ⟨ret_bool HR.out.symm, (by repeat (first | exact Ext.refl _ | assumption | refine Ext.alloc ?_ _ | refine Ext.drewN ?_ _ | refine ext_grow ?_ _ _ | refine Ext.trans ?_ (by assumption)))⟩
  have q4 : decide (a.y0 ≤ a.y1) = true := decide_eq_true h4
  by_cases h5 : a.y1 ≤ m.h - 1
  case neg =>
    have q5 : decide (a.y1 ≤ m.h - 1) = false := decide_eq_false h5
    have HR := Lib.hid (show decide (a.Ok m) = false from decide_eq_false fun h => h5 h.2.1.2.2)
    go_enter Try.func71, Try.ntmps71
    go_wp2
    go_ret
    exact ⟨ret_bool HR.out.symm, (by repeat (first | exact Ext.refl _ | assumption | refine Ext.alloc ?_ _ | refine Ext.drewN ?_ _ | refine ext_grow ?_ _ _ | refine Ext.trans ?_ (by assumption)))⟩
  have q5 : decide (a.y1 ≤ m.h - 1) = true := decide_eq_true h5
  have K60 := Lib.hid (fun w' => c60 a.turn a.scale w')
  obtain ⟨c, hc⟩ : ∃ c, decide (Posed a.turn a.scale) = c := ⟨_, rfl⟩
  rw [hc] at K60
  have HR := Lib.hid (show c = decide (a.Ok m) from by rw [← hc]; exact decide_eq_decide.2 ⟨fun h => ⟨⟨h0, h1, h2⟩, ⟨h3, h4, h5⟩, h⟩, fun h => h.2.2⟩)
  clear hc
  go_enter Try.func71, Try.ntmps71
  go_wp2_with (go_at_call 60; (with_reducible refine (K60.out _).mono ?_); rintro E w8 ⟨rfl, hb8⟩)
  go_ret
  exact ⟨ret_bool HR.out, (by repeat (first | exact Ext.refl _ | assumption | refine Ext.alloc ?_ _ | refine Ext.drewN ?_ _ | refine ext_grow ?_ _ _ | refine Ext.trans ?_ (by assumption)))⟩
theorem clip_least {m : Img} {q : Pt} {x0 y0 x1 y1 y ln : Int} (hy2 : y1 < y) (hy3 : y ≤ y1 + 1 ∨ y ≤ y0) (h : Clip (adds m q) x0 x1 y0 y x0 ln) : ln = least m q x0 y0 x1 y1 := by
  refine eq_of_le_iff fun c => ?_
  by_cases hc : c ≤ 255
  case neg =>
    have k1 := ((h ln).1 (Int.le_refl _)).1
    have k2 := least_le m q x0 y0 x1 y1
    constructor <;> intro h9 <;> omega
  rw [le_least hc, h c]
  constructor
  · rintro ⟨_, k, _⟩ y' j1 j2 x' i1 i2
    exact k y' j1 (by omega) x' i1 i2
  · intro k
    exact ⟨hc, fun Y j1 j2 X i1 i2 => k Y j1 (by omega) X i1 i2, fun X j1 j2 => by omega⟩
set_option maxRecDepth 100000 in
set_option maxHeartbeats 16000000 in
theorem c72 (m : Img) (v : Value) (t : Tpl) (tv : Value) (a : Area) (w : World) (hm : m.Camera) (ht : t.Ok) (hv : IntsAt w v m.pix) (htv : IntsAt w tv t.pix) (ha : a.Ok m) :
    Calls Try.prog 72 #[imgVal m v, tplVal t tv, areaVal a] w fun e w' => e = .returned (.int .i64 (bound m t a)) ∧ Ext w w' := by
  have HV := Lib.hid hv
  have HTV := Lib.hid htv
  have HM := Lib.hid hm
  have HT := Lib.hid ht
  obtain ⟨mo, mc, rfl, -, -⟩ := hv.form
  obtain ⟨to, tc, rfl, -, hc⟩ := htv.form
  have HC := Lib.hid hc
  obtain ⟨n1, n2⟩ := Tpl.len_bd ht
  obtain ⟨⟨a1, a2, a3⟩, ⟨a4, a5, a6⟩, ha7⟩ := ha
  have HA := Lib.hid ha7
  obtain ⟨⟨w1, w2⟩, ⟨w3, w4⟩, -⟩ := hm.1
  unfold imgVal tplVal areaVal bound
  clear hv htv hm ht hc ha7
  go_enter Try.func72, Try.ntmps72
  go_wp2
  go_loopw [7, 8] (fun sv iv wr => ∃ (k : Nat) (sm : Int), k ≤ t.pix.length ∧ iv = .int .i64 (k : Int) ∧ sv = .int .i64 sm ∧ 0 ≤ sm ∧ sm ≤ 255 * k ∧ Hid (Ext w wr) ∧ Hid (At wr [(w.heap.size + 1 + 1, Obj.cells #[.int .i64 a.x0, .int .i64 a.y0, .int .i64 a.x1, .int .i64 a.y1, .int .i64 a.turn, .int .i64 a.scale] 47), (w.heap.size + 1, Obj.cells #[.int .i64 t.w, .int .i64 t.h, .slice to t.pix.length tc] 43), (w.heap.size, Obj.cells #[.int .i64 m.w, .int .i64 m.h, .slice mo m.pix.length mc] 24)]) ∧ Hid (sumL (fun p => least m p a.x0 a.y0 a.x1 a.y1) (stencil t a.turn a.scale k) = sm)) (fun _ iv _ => t.pix.length - (intOf iv).toNat)
  case atStart => exact ⟨0, 0, by omega, rfl, rfl, by omega, by omega, Lib.hid (by repeat (first | exact Ext.refl _ | assumption | refine Ext.alloc ?_ _ | refine Ext.drewN ?_ _ | refine ext_grow ?_ _ _ | refine Ext.trans ?_ (by assumption))), Lib.hid ⟨(by repeat (first | (refine blk_at _ _ ?_; (first | rfl | (simp only [size_one]; done))) | refine (blk_past _ _ (by simp only [size_one]; omega)).trans ?_)), (by repeat (first | (refine blk_at _ _ ?_; (first | rfl | (simp only [size_one]; done))) | refine (blk_past _ _ (by simp only [size_one]; omega)).trans ?_)), (by repeat (first | (refine blk_at _ _ ?_; (first | rfl | (simp only [size_one]; done))) | refine (blk_past _ _ (by simp only [size_one]; omega)).trans ?_)), trivial⟩, Lib.hid rfl⟩
  case round =>
    obtain ⟨k, sm, hk, rfl, rfl, s1, s2, hE, hA, hSM⟩ := hrel
    obtain ⟨⟨v00, v01, v02, v03, v04, v05⟩, -⟩ := run_6 (At.at hA.out 0 rfl)
    obtain ⟨⟨v10, v11, v12⟩, -⟩ := run_3 (At.at hA.out 1 rfl)
    obtain ⟨⟨v20, v21, v22⟩, -⟩ := run_3 (At.at hA.out 2 rfl)
    have vz0 := At.lt hA.out 0 rfl
    have vy0 := Nat.lt_succ_of_lt vz0
    have vx0 := Nat.lt_succ_of_lt vy0
    have vz1 := At.lt hA.out 1 rfl
    have vy1 := Nat.lt_succ_of_lt vz1
    have vx1 := Nat.lt_succ_of_lt vy1
    have vz2 := At.lt hA.out 2 rfl
    have vy2 := Nat.lt_succ_of_lt vz2
    have vx2 := Nat.lt_succ_of_lt vy2
    have HSM := hSM
    by_cases hkl : k < t.pix.length
    · obtain ⟨b, off, rfl, c0⟩ := HC.out k hkl
      have c0 := hE.out.get c0
      have zc := World.block_lt_of_cell? _ _ c0
      simp only at zc
      obtain ⟨x, hx⟩ : ∃ x, t.pix.getD k 0 = x := ⟨_, rfl⟩
      rw [hx] at c0
      have HX := Lib.hid hx
      clear hx
      have hkli : (k : Int) < (t.pix.length : Int) := by omega
      by_cases h0 : 0 ≤ x
      case neg =>
        have h0f : decide (x < 0) = true := decide_eq_true (by omega)
        go_wp2
        go_roundw
        case rel => exact ⟨k + 1, sm, by omega, by go_num, rfl, by omega, by omega, hE, hA, Lib.hid (by rw [sum_no (by rw [HX.out]; omega)]; exact hSM.out)⟩
        case measure => simp [intOf]; omega
      have h0t : decide (x < 0) = false := decide_eq_false (by omega)
      have H0 := Lib.hid (show 0 ≤ t.pix.getD k 0 by rw [HX.out]; exact h0)
      have HQV := Lib.hid (ptOf_v HT.out (turn := a.turn) (scale := a.scale) hkl H0.out)
      obtain ⟨q, hq⟩ : ∃ q, ptOf t a.turn a.scale k = q := ⟨_, rfl⟩
      rw [hq] at HQV
      have HQ := Lib.hid hq
      clear hq
      go_wp2
      obtain ⟨wo, hwo⟩ : ∃ wo : World, wo = wr := ⟨_, rfl⟩
      subst hwo
      clear v00 v01 v02 v03 v04 v05 v10 v11 v12 v20 v21 v22 vz0 vy0 vx0 vz1 vy1 vx1 vz2 vy2 vx2
      clear c0 zc
      go_loopw [9, 10] (fun lv yv wr => ∃ y ln : Int, a.y0 ≤ y ∧ y ≤ a.y1 + 1 ∧ yv = .int .i64 y ∧ lv = .int .i64 ln ∧ 0 ≤ ln ∧ ln ≤ 255 ∧ Hid (Ext w wr) ∧ Hid (At wr [(w.heap.size + 1 + 1, Obj.cells #[.int .i64 a.x0, .int .i64 a.y0, .int .i64 a.x1, .int .i64 a.y1, .int .i64 a.turn, .int .i64 a.scale] 47), (w.heap.size + 1, Obj.cells #[.int .i64 t.w, .int .i64 t.h, .slice (some ⟨b, off, none⟩) t.pix.length tc] 43), (w.heap.size, Obj.cells #[.int .i64 m.w, .int .i64 m.h, .slice mo m.pix.length mc] 24)]) ∧ Hid (Clip (adds m q) a.x0 a.x1 a.y0 y a.x0 ln)) (fun _ yv _ => (a.y1 + 1 - intOf yv).toNat)
      case atStart => exact ⟨a.y0, 255, by omega, by omega, rfl, rfl, by omega, by omega, hE, hA, Lib.hid (clip_start _ _ _ _)⟩
      case round =>
        clear hE hA hSM
        obtain ⟨y, ln, hy1, hy2, rfl, rfl, l1, l2, hE, hA, hL⟩ := hrel
        obtain ⟨⟨x00, x01, x02, x03, x04, x05⟩, -⟩ := run_6 (At.at hA.out 0 rfl)
        obtain ⟨⟨x10, x11, x12⟩, -⟩ := run_3 (At.at hA.out 1 rfl)
        obtain ⟨⟨x20, x21, x22⟩, -⟩ := run_3 (At.at hA.out 2 rfl)
        have xz0 := At.lt hA.out 0 rfl
        have xy0 := Nat.lt_succ_of_lt xz0
        have xx0 := Nat.lt_succ_of_lt xy0
        have xz1 := At.lt hA.out 1 rfl
        have xy1 := Nat.lt_succ_of_lt xz1
        have xx1 := Nat.lt_succ_of_lt xy1
        have xz2 := At.lt hA.out 2 rfl
        have xy2 := Nat.lt_succ_of_lt xz2
        have xx2 := Nat.lt_succ_of_lt xy2
        by_cases hyy : y ≤ a.y1
        · go_wp2
          clear x00 x01 x02 x03 x04 x05 x10 x11 x12 x20 x21 x22 xz0 xy0 xx0 xz1 xy1 xx1 xz2 xy2 xx2
          obtain ⟨wp, hwp⟩ : ∃ wp : World, wp = wr := ⟨_, rfl⟩
          subst hwp
          go_loopw [9, 11] (fun lv xv wr => ∃ x ln : Int, a.x0 ≤ x ∧ x ≤ a.x1 + 1 ∧ xv = .int .i64 x ∧ lv = .int .i64 ln ∧ 0 ≤ ln ∧ ln ≤ 255 ∧ Hid (Ext w wr) ∧ Hid (At wr [(w.heap.size + 1 + 1, Obj.cells #[.int .i64 a.x0, .int .i64 a.y0, .int .i64 a.x1, .int .i64 a.y1, .int .i64 a.turn, .int .i64 a.scale] 47), (w.heap.size + 1, Obj.cells #[.int .i64 t.w, .int .i64 t.h, .slice (some ⟨b, off, none⟩) t.pix.length tc] 43), (w.heap.size, Obj.cells #[.int .i64 m.w, .int .i64 m.h, .slice mo m.pix.length mc] 24)]) ∧ Hid (Clip (adds m q) a.x0 a.x1 a.y0 y x ln)) (fun _ xv _ => (a.x1 + 1 - intOf xv).toNat)
          case atStart => exact ⟨a.x0, ln, by omega, by omega, rfl, rfl, l1, l2, hE, hA, hL⟩
          case round =>
            clear hE hA hL l1 l2
            obtain ⟨x, ln, hx1, hx2, rfl, rfl, l1, l2, hE, hA, hL⟩ := hrel
            obtain ⟨⟨x00, x01, x02, x03, x04, x05⟩, -⟩ := run_6 (At.at hA.out 0 rfl)
            obtain ⟨⟨x10, x11, x12⟩, -⟩ := run_3 (At.at hA.out 1 rfl)
            obtain ⟨⟨x20, x21, x22⟩, -⟩ := run_3 (At.at hA.out 2 rfl)
            have xz0 := At.lt hA.out 0 rfl
            have xy0 := Nat.lt_succ_of_lt xz0
            have xx0 := Nat.lt_succ_of_lt xy0
            have xz1 := At.lt hA.out 1 rfl
            have xy1 := Nat.lt_succ_of_lt xz1
            have xx1 := Nat.lt_succ_of_lt xy1
            have xz2 := At.lt hA.out 2 rfl
            have xy2 := Nat.lt_succ_of_lt xz2
            have xx2 := Nat.lt_succ_of_lt xy2
            by_cases hxx : x ≤ a.x1
            · have K99 := Lib.hid (fun w' (h : Ext wr w') => c99 m _ t _ ⟨x, y, a.turn, a.scale⟩ k w' HM.out HT.out (HV.out.ext (hE.out.trans h)) (HTV.out.ext (hE.out.trans h)) hkl H0.out HA.out (show 0 ≤ x ∧ x ≤ 16 by omega) (show 0 ≤ y ∧ y ≤ 16 by omega))
              dsimp only at K99
              rw [HQ.out] at K99
              obtain ⟨a1', a2'⟩ := adds_bd HM.out HQV.out x y
              obtain ⟨ab, hab⟩ : ∃ ab, adds m q x y = ab := ⟨_, rfl⟩
              rw [hab] at K99 a1' a2'
              obtain ⟨l3, hl3⟩ : ∃ l3, min ln ab = l3 := ⟨_, rfl⟩
              have m2 : (if ab < ln then ab else ln) = l3 := by rw [← hl3]; split <;> omega
              have m3 : (if ln < ab then ln else ab) = l3 := by rw [← hl3]; split <;> omega
              have l31 : 0 ≤ l3 := by omega
              have l32 : l3 ≤ 255 := by omega
              have HS := Lib.hid (show Clip (adds m q) a.x0 a.x1 a.y0 y (x + 1) l3 from by
                have := clip_step hx1 hL.out
                rw [hab, hl3] at this
                exact this)
              unfold imgVal tplVal poseVal at K99
              clear hab hl3
              go_wp2_with (go_at_call 99; (with_reducible refine (K99.out _ (by repeat (first | exact Ext.refl _ | assumption | refine Ext.alloc ?_ _ | refine Ext.drewN ?_ _ | refine ext_grow ?_ _ _ | refine Ext.trans ?_ (by assumption)))).mono ?_); rintro E w7 ⟨rfl, hb7⟩; have A7 := Lib.hid (show At w7 [(w.heap.size + 1 + 1, Obj.cells #[.int .i64 a.x0, .int .i64 a.y0, .int .i64 a.x1, .int .i64 a.y1, .int .i64 a.turn, .int .i64 a.scale] 47), (w.heap.size + 1, Obj.cells #[.int .i64 t.w, .int .i64 t.h, .slice (some ⟨b, off, none⟩) t.pix.length tc] 43), (w.heap.size, Obj.cells #[.int .i64 m.w, .int .i64 m.h, .slice mo m.pix.length mc] 24)] from At.ext hb7 hA.out); have E7 := Lib.hid (hE.out.trans hb7); obtain ⟨⟨y00, y01, y02, y03, y04, y05⟩, -⟩ := run_6 (At.at A7.out 0 rfl); obtain ⟨⟨y10, y11, y12⟩, -⟩ := run_3 (At.at A7.out 1 rfl); obtain ⟨⟨y20, y21, y22⟩, -⟩ := run_3 (At.at A7.out 2 rfl); have yz0 := At.lt A7.out 0 rfl; have yy0 := Nat.lt_succ_of_lt yz0; have yx0 := Nat.lt_succ_of_lt yy0; have yz1 := At.lt A7.out 1 rfl; have yy1 := Nat.lt_succ_of_lt yz1; have yx1 := Nat.lt_succ_of_lt yy1; have yz2 := At.lt A7.out 2 rfl; have yy2 := Nat.lt_succ_of_lt yz2; have yx2 := Nat.lt_succ_of_lt yy2)
              go_roundw
              case rel => exact ⟨x + 1, l3, by omega, by omega, rfl, rfl, by omega, by omega, E7, A7, HS⟩
              case measure => simp [intOf]; omega
            · have HS := Lib.hid (show Clip (adds m q) a.x0 a.x1 a.y0 (y + 1) a.x0 ln from clip_row hy1 (by omega) (.inl hx2) hL.out)
              go_wp2
              go_roundw
              case rel => exact ⟨y + 1, ln, by omega, by omega, rfl, rfl, by omega, by omega, hE, hA, HS⟩
              case measure => simp [intOf]; omega
        · have HS := Lib.hid (show sumL (fun p => least m p a.x0 a.y0 a.x1 a.y1) (stencil t a.turn a.scale (k + 1)) = sm + ln from by
            rw [sum_yes H0.out, HSM.out, HQ.out]
            congr 1
            exact (clip_least (by omega) (.inl hy2) hL.out).symm)
          go_wp2
          go_roundw
          case rel => exact ⟨k + 1, sm + ln, by omega, by go_num, rfl, by omega, by omega, hE, hA, HS⟩
          case measure => simp [intOf]; omega
    · have hkk : k = t.pix.length := by omega
      have HF := Lib.hid (show sumL (fun p => least m p a.x0 a.y0 a.x1 a.y1) (stencil t a.turn a.scale t.pix.length) = sm from by have h9 := hSM.out; rw [hkk] at h9; exact h9)
      clear hkk
      go_wp2
      go_ret
      exact ⟨ret_int HF.out.symm, hE.out⟩
set_option maxRecDepth 100000 in
set_option maxHeartbeats 16000000 in
theorem c28 (m : Img) (mv : Value) (t : Tpl) (tv : Value) (p : Pose) (w : World) (hm : IntsAt w mv m.pix) (hml : m.pix.length ≤ maxLen) (ht : IntsAt w tv t.pix) (htl : t.pix.length ≤ maxLen) :
    Calls Try.prog 28 #[imgVal m mv, tplVal t tv, poseVal p] w fun e w' => e = .returned (.tuple #[.int .i64 (boundR m t p.area).1, .int .i64 (boundR m t p.area).2]) ∧ Ext w w' := by
  have HMV := Lib.hid hm
  have HTV := Lib.hid ht
  obtain ⟨mo, mc, rfl, -, -⟩ := hm.form
  obtain ⟨to, tc, rfl, -, -⟩ := ht.form
  have K67 := Lib.hid (fun w' (h : Ext w w') => c64 m _ t _ w' (HMV.out.ext h) hml (HTV.out.ext h) htl)
  have K68 := fun (h : m.Sized) => Lib.hid (fun w' => c65 m (.slice mo m.pix.length mc) p w' h ⟨_, _, _, rfl⟩)
  have K70 := fun (h0 : m.Camera) (h1 : t.Ok) (h2 : Area.Ok m p.area) => Lib.hid (fun w' (h : Ext w w') => c66 m _ t _ p w' h0 h1 (HMV.out.ext h) (HTV.out.ext h) h2)
  unfold imgVal tplVal poseVal at *
  clear hm ht hml htl
  by_cases h0 : checkE m t = 0
  case neg =>
    obtain ⟨r, hr⟩ : ∃ r, checkE m t = r := ⟨_, rfl⟩
    have q0 : (r != 0) = true := by simpa [hr] using h0
    have hR := Lib.hid (show boundR m t p.area = (0, r) from by unfold boundR; rw [if_neg h0, hr])
    rw [hr] at K67
    clear h0 hr K68 K70
    go_enter Try.func28, Try.ntmps28
    go_wp2_with (go_at_call 64; (with_reducible refine (K67.out _ (by repeat (first | exact Ext.refl _ | assumption | refine Ext.alloc ?_ _ | refine Ext.drewN ?_ _ | refine ext_grow ?_ _ _ | refine Ext.trans ?_ (by assumption)))).mono ?_); rintro E w1 ⟨rfl, hb1⟩; have A1 := Lib.hid (show At w1 [(w.heap.size + 1 + 1, Obj.cells #[.int .i64 p.x, .int .i64 p.y, .int .i64 p.turn, .int .i64 p.scale] 45), (w.heap.size + 1, Obj.cells #[.int .i64 t.w, .int .i64 t.h, .slice to t.pix.length tc] 43), (w.heap.size, Obj.cells #[.int .i64 m.w, .int .i64 m.h, .slice mo m.pix.length mc] 24)] from At.ext hb1 ⟨(by repeat (first | (refine blk_at _ _ ?_; (first | rfl | (simp only [size_one]; done))) | refine (blk_past _ _ (by simp only [size_one]; omega)).trans ?_)), (by repeat (first | (refine blk_at _ _ ?_; (first | rfl | (simp only [size_one]; done))) | refine (blk_past _ _ (by simp only [size_one]; omega)).trans ?_)), (by repeat (first | (refine blk_at _ _ ?_; (first | rfl | (simp only [size_one]; done))) | refine (blk_past _ _ (by simp only [size_one]; omega)).trans ?_)), trivial⟩); have E1 := Lib.hid (show Ext w w1 from (by repeat (first | exact Ext.refl _ | assumption | refine Ext.alloc ?_ _ | refine Ext.drewN ?_ _ | refine ext_grow ?_ _ _ | refine Ext.trans ?_ (by assumption)))); obtain ⟨⟨x00, x01, x02, x03⟩, -⟩ := run_4 (At.at A1.out 0 rfl); obtain ⟨⟨x10, x11, x12⟩, -⟩ := run_3 (At.at A1.out 1 rfl); obtain ⟨⟨x20, x21, x22⟩, -⟩ := run_3 (At.at A1.out 2 rfl); have xz0 := At.lt A1.out 0 rfl; have xy0 := Nat.lt_succ_of_lt xz0; have xx0 := Nat.lt_succ_of_lt xy0; have xz1 := At.lt A1.out 1 rfl; have xy1 := Nat.lt_succ_of_lt xz1; have xx1 := Nat.lt_succ_of_lt xy1; have xz2 := At.lt A1.out 2 rfl; have xy2 := Nat.lt_succ_of_lt xz2; have xx2 := Nat.lt_succ_of_lt xy2)
    go_ret2
    exact ⟨by rw [hR.out]; rfl, E1.out⟩
  obtain ⟨g1, g2⟩ := check_ok h0
  rw [h0] at K67
  replace K68 := K68 g1.1
  by_cases h1 : Area.Ok m p.area
  case neg =>
    have q1 : decide (Area.Ok m p.area) = false := decide_eq_false h1
    have hR := Lib.hid (show boundR m t p.area = (0, 2) from by unfold boundR; rw [if_pos h0, if_neg h1])
    rw [q1] at K68
    clear h0 h1 q1 K70 g1 g2
    go_enter Try.func28, Try.ntmps28
    go_wp2_with (first | (have _q := E1; go_at_call 65; (with_reducible refine (K68.out _).mono ?_); rintro E w2 ⟨rfl, hb2⟩; have A2 := Lib.hid (show At w2 [(w.heap.size + 1 + 1, Obj.cells #[.int .i64 p.x, .int .i64 p.y, .int .i64 p.turn, .int .i64 p.scale] 45), (w.heap.size + 1, Obj.cells #[.int .i64 t.w, .int .i64 t.h, .slice to t.pix.length tc] 43), (w.heap.size, Obj.cells #[.int .i64 m.w, .int .i64 m.h, .slice mo m.pix.length mc] 24)] from At.ext hb2 A1.out); have E2 := Lib.hid (E1.out.trans hb2); obtain ⟨⟨y00, y01, y02, y03⟩, -⟩ := run_4 (At.at A2.out 0 rfl); obtain ⟨⟨y10, y11, y12⟩, -⟩ := run_3 (At.at A2.out 1 rfl); obtain ⟨⟨y20, y21, y22⟩, -⟩ := run_3 (At.at A2.out 2 rfl); have yz0 := At.lt A2.out 0 rfl; have yy0 := Nat.lt_succ_of_lt yz0; have yx0 := Nat.lt_succ_of_lt yy0; have yz1 := At.lt A2.out 1 rfl; have yy1 := Nat.lt_succ_of_lt yz1; have yx1 := Nat.lt_succ_of_lt yy1; have yz2 := At.lt A2.out 2 rfl; have yy2 := Nat.lt_succ_of_lt yz2; have yx2 := Nat.lt_succ_of_lt yy2) | (go_at_call 64; (with_reducible refine (K67.out _ (by repeat (first | exact Ext.refl _ | assumption | refine Ext.alloc ?_ _ | refine Ext.drewN ?_ _ | refine ext_grow ?_ _ _ | refine Ext.trans ?_ (by assumption)))).mono ?_); rintro E w1 ⟨rfl, hb1⟩; have A1 := Lib.hid (show At w1 [(w.heap.size + 1 + 1, Obj.cells #[.int .i64 p.x, .int .i64 p.y, .int .i64 p.turn, .int .i64 p.scale] 45), (w.heap.size + 1, Obj.cells #[.int .i64 t.w, .int .i64 t.h, .slice to t.pix.length tc] 43), (w.heap.size, Obj.cells #[.int .i64 m.w, .int .i64 m.h, .slice mo m.pix.length mc] 24)] from At.ext hb1 ⟨(by repeat (first | (refine blk_at _ _ ?_; (first | rfl | (simp only [size_one]; done))) | refine (blk_past _ _ (by simp only [size_one]; omega)).trans ?_)), (by repeat (first | (refine blk_at _ _ ?_; (first | rfl | (simp only [size_one]; done))) | refine (blk_past _ _ (by simp only [size_one]; omega)).trans ?_)), (by repeat (first | (refine blk_at _ _ ?_; (first | rfl | (simp only [size_one]; done))) | refine (blk_past _ _ (by simp only [size_one]; omega)).trans ?_)), trivial⟩); have E1 := Lib.hid (show Ext w w1 from (by repeat (first | exact Ext.refl _ | assumption | refine Ext.alloc ?_ _ | refine Ext.drewN ?_ _ | refine ext_grow ?_ _ _ | refine Ext.trans ?_ (by assumption)))); obtain ⟨⟨x00, x01, x02, x03⟩, -⟩ := run_4 (At.at A1.out 0 rfl); obtain ⟨⟨x10, x11, x12⟩, -⟩ := run_3 (At.at A1.out 1 rfl); obtain ⟨⟨x20, x21, x22⟩, -⟩ := run_3 (At.at A1.out 2 rfl); have xz0 := At.lt A1.out 0 rfl; have xy0 := Nat.lt_succ_of_lt xz0; have xx0 := Nat.lt_succ_of_lt xy0; have xz1 := At.lt A1.out 1 rfl; have xy1 := Nat.lt_succ_of_lt xz1; have xx1 := Nat.lt_succ_of_lt xy1; have xz2 := At.lt A1.out 2 rfl; have xy2 := Nat.lt_succ_of_lt xz2; have xx2 := Nat.lt_succ_of_lt xy2))
    go_ret2
    exact ⟨by rw [hR.out]; rfl, E2.out⟩
  have q1 : decide (Area.Ok m p.area) = true := decide_eq_true h1
  have hR := Lib.hid (show boundR m t p.area = (bound m t p.area, 0) from by unfold boundR; rw [if_pos h0, if_pos h1])
  rw [q1] at K68
  replace K70 := K70 g1 g2 h1
  obtain ⟨bd, hbd⟩ : ∃ bd, bound m t p.area = bd := ⟨_, rfl⟩
  rw [hbd] at K70 hR
  clear h0 h1 q1 g1 g2 hbd
  go_enter Try.func28, Try.ntmps28
  go_wp2_with (first | (have _q := E2; go_at_call 66; (with_reducible refine (K70.out _ E2.out).mono ?_); rintro E w3 ⟨rfl, hb3⟩; have E3 := Lib.hid (E2.out.trans hb3)) | (have _q := E1; go_at_call 65; (with_reducible refine (K68.out _).mono ?_); rintro E w2 ⟨rfl, hb2⟩; have A2 := Lib.hid (show At w2 [(w.heap.size + 1 + 1, Obj.cells #[.int .i64 p.x, .int .i64 p.y, .int .i64 p.turn, .int .i64 p.scale] 45), (w.heap.size + 1, Obj.cells #[.int .i64 t.w, .int .i64 t.h, .slice to t.pix.length tc] 43), (w.heap.size, Obj.cells #[.int .i64 m.w, .int .i64 m.h, .slice mo m.pix.length mc] 24)] from At.ext hb2 A1.out); have E2 := Lib.hid (E1.out.trans hb2); obtain ⟨⟨y00, y01, y02, y03⟩, -⟩ := run_4 (At.at A2.out 0 rfl); obtain ⟨⟨y10, y11, y12⟩, -⟩ := run_3 (At.at A2.out 1 rfl); obtain ⟨⟨y20, y21, y22⟩, -⟩ := run_3 (At.at A2.out 2 rfl); have yz0 := At.lt A2.out 0 rfl; have yy0 := Nat.lt_succ_of_lt yz0; have yx0 := Nat.lt_succ_of_lt yy0; have yz1 := At.lt A2.out 1 rfl; have yy1 := Nat.lt_succ_of_lt yz1; have yx1 := Nat.lt_succ_of_lt yy1; have yz2 := At.lt A2.out 2 rfl; have yy2 := Nat.lt_succ_of_lt yz2; have yx2 := Nat.lt_succ_of_lt yy2) | (go_at_call 64; (with_reducible refine (K67.out _ (by repeat (first | exact Ext.refl _ | assumption | refine Ext.alloc ?_ _ | refine Ext.drewN ?_ _ | refine ext_grow ?_ _ _ | refine Ext.trans ?_ (by assumption)))).mono ?_); rintro E w1 ⟨rfl, hb1⟩; have A1 := Lib.hid (show At w1 [(w.heap.size + 1 + 1, Obj.cells #[.int .i64 p.x, .int .i64 p.y, .int .i64 p.turn, .int .i64 p.scale] 45), (w.heap.size + 1, Obj.cells #[.int .i64 t.w, .int .i64 t.h, .slice to t.pix.length tc] 43), (w.heap.size, Obj.cells #[.int .i64 m.w, .int .i64 m.h, .slice mo m.pix.length mc] 24)] from At.ext hb1 ⟨(by repeat (first | (refine blk_at _ _ ?_; (first | rfl | (simp only [size_one]; done))) | refine (blk_past _ _ (by simp only [size_one]; omega)).trans ?_)), (by repeat (first | (refine blk_at _ _ ?_; (first | rfl | (simp only [size_one]; done))) | refine (blk_past _ _ (by simp only [size_one]; omega)).trans ?_)), (by repeat (first | (refine blk_at _ _ ?_; (first | rfl | (simp only [size_one]; done))) | refine (blk_past _ _ (by simp only [size_one]; omega)).trans ?_)), trivial⟩); have E1 := Lib.hid (show Ext w w1 from (by repeat (first | exact Ext.refl _ | assumption | refine Ext.alloc ?_ _ | refine Ext.drewN ?_ _ | refine ext_grow ?_ _ _ | refine Ext.trans ?_ (by assumption)))); obtain ⟨⟨x00, x01, x02, x03⟩, -⟩ := run_4 (At.at A1.out 0 rfl); obtain ⟨⟨x10, x11, x12⟩, -⟩ := run_3 (At.at A1.out 1 rfl); obtain ⟨⟨x20, x21, x22⟩, -⟩ := run_3 (At.at A1.out 2 rfl); have xz0 := At.lt A1.out 0 rfl; have xy0 := Nat.lt_succ_of_lt xz0; have xx0 := Nat.lt_succ_of_lt xy0; have xz1 := At.lt A1.out 1 rfl; have xy1 := Nat.lt_succ_of_lt xz1; have xx1 := Nat.lt_succ_of_lt xy1; have xz2 := At.lt A1.out 2 rfl; have xy2 := Nat.lt_succ_of_lt xz2; have xx2 := Nat.lt_succ_of_lt xy2))
  go_ret2
  exact ⟨by rw [hR.out]; rfl, E3.out⟩
set_option maxRecDepth 100000 in
set_option maxHeartbeats 16000000 in
theorem c30 (m : Img) (mv : Value) (t : Tpl) (tv : Value) (a : Area) (w : World) (hm : IntsAt w mv m.pix) (hml : m.pix.length ≤ maxLen) (ht : IntsAt w tv t.pix) (htl : t.pix.length ≤ maxLen) :
    Calls Try.prog 30 #[imgVal m mv, tplVal t tv, areaVal a] w fun e w' => e = .returned (.tuple #[.int .i64 (boundR m t a).1, .int .i64 (boundR m t a).2]) ∧ Ext w w' := by
  have HMV := Lib.hid hm
  have HTV := Lib.hid ht
  obtain ⟨mo, mc, rfl, -, -⟩ := hm.form
  obtain ⟨to, tc, rfl, -, -⟩ := ht.form
  have K67 := Lib.hid (fun w' (h : Ext w w') => c64 m _ t _ w' (HMV.out.ext h) hml (HTV.out.ext h) htl)
  have K68 := fun (h : m.Sized) => Lib.hid (fun w' => c71 m (.slice mo m.pix.length mc) a w' h ⟨_, _, _, rfl⟩)
  have K70 := fun (h0 : m.Camera) (h1 : t.Ok) (h2 : Area.Ok m a) => Lib.hid (fun w' (h : Ext w w') => c72 m _ t _ a w' h0 h1 (HMV.out.ext h) (HTV.out.ext h) h2)
  unfold imgVal tplVal areaVal at *
  clear hm ht hml htl
  by_cases h0 : checkE m t = 0
  case neg =>
    obtain ⟨r, hr⟩ : ∃ r, checkE m t = r := ⟨_, rfl⟩
    have q0 : (r != 0) = true := by simpa [hr] using h0
    have hR := Lib.hid (show boundR m t a = (0, r) from by unfold boundR; rw [if_neg h0, hr])
    rw [hr] at K67
    clear h0 hr K68 K70
    go_enter Try.func30, Try.ntmps30
    go_wp2_with (go_at_call 64; (with_reducible refine (K67.out _ (by repeat (first | exact Ext.refl _ | assumption | refine Ext.alloc ?_ _ | refine Ext.drewN ?_ _ | refine ext_grow ?_ _ _ | refine Ext.trans ?_ (by assumption)))).mono ?_); rintro E w1 ⟨rfl, hb1⟩; have A1 := Lib.hid (show At w1 [(w.heap.size + 1 + 1, Obj.cells #[.int .i64 a.x0, .int .i64 a.y0, .int .i64 a.x1, .int .i64 a.y1, .int .i64 a.turn, .int .i64 a.scale] 47), (w.heap.size + 1, Obj.cells #[.int .i64 t.w, .int .i64 t.h, .slice to t.pix.length tc] 43), (w.heap.size, Obj.cells #[.int .i64 m.w, .int .i64 m.h, .slice mo m.pix.length mc] 24)] from At.ext hb1 ⟨(by repeat (first | (refine blk_at _ _ ?_; (first | rfl | (simp only [size_one]; done))) | refine (blk_past _ _ (by simp only [size_one]; omega)).trans ?_)), (by repeat (first | (refine blk_at _ _ ?_; (first | rfl | (simp only [size_one]; done))) | refine (blk_past _ _ (by simp only [size_one]; omega)).trans ?_)), (by repeat (first | (refine blk_at _ _ ?_; (first | rfl | (simp only [size_one]; done))) | refine (blk_past _ _ (by simp only [size_one]; omega)).trans ?_)), trivial⟩); have E1 := Lib.hid (show Ext w w1 from (by repeat (first | exact Ext.refl _ | assumption | refine Ext.alloc ?_ _ | refine Ext.drewN ?_ _ | refine ext_grow ?_ _ _ | refine Ext.trans ?_ (by assumption)))); obtain ⟨⟨x00, x01, x02, x03, x04, x05⟩, -⟩ := run_6 (At.at A1.out 0 rfl); obtain ⟨⟨x10, x11, x12⟩, -⟩ := run_3 (At.at A1.out 1 rfl); obtain ⟨⟨x20, x21, x22⟩, -⟩ := run_3 (At.at A1.out 2 rfl); have xz0 := At.lt A1.out 0 rfl; have xy0 := Nat.lt_succ_of_lt xz0; have xx0 := Nat.lt_succ_of_lt xy0; have xz1 := At.lt A1.out 1 rfl; have xy1 := Nat.lt_succ_of_lt xz1; have xx1 := Nat.lt_succ_of_lt xy1; have xz2 := At.lt A1.out 2 rfl; have xy2 := Nat.lt_succ_of_lt xz2; have xx2 := Nat.lt_succ_of_lt xy2)
    go_ret2
    exact ⟨by rw [hR.out]; rfl, E1.out⟩
  obtain ⟨g1, g2⟩ := check_ok h0
  rw [h0] at K67
  replace K68 := K68 g1.1
  by_cases h1 : Area.Ok m a
  case neg =>
    have q1 : decide (Area.Ok m a) = false := decide_eq_false h1
    have hR := Lib.hid (show boundR m t a = (0, 2) from by unfold boundR; rw [if_pos h0, if_neg h1])
    rw [q1] at K68
    clear h0 h1 q1 K70 g1 g2
    go_enter Try.func30, Try.ntmps30
    go_wp2_with (first | (have _q := E1; go_at_call 71; (with_reducible refine (K68.out _).mono ?_); rintro E w2 ⟨rfl, hb2⟩; have A2 := Lib.hid (show At w2 [(w.heap.size + 1 + 1, Obj.cells #[.int .i64 a.x0, .int .i64 a.y0, .int .i64 a.x1, .int .i64 a.y1, .int .i64 a.turn, .int .i64 a.scale] 47), (w.heap.size + 1, Obj.cells #[.int .i64 t.w, .int .i64 t.h, .slice to t.pix.length tc] 43), (w.heap.size, Obj.cells #[.int .i64 m.w, .int .i64 m.h, .slice mo m.pix.length mc] 24)] from At.ext hb2 A1.out); have E2 := Lib.hid (E1.out.trans hb2); obtain ⟨⟨y00, y01, y02, y03, y04, y05⟩, -⟩ := run_6 (At.at A2.out 0 rfl); obtain ⟨⟨y10, y11, y12⟩, -⟩ := run_3 (At.at A2.out 1 rfl); obtain ⟨⟨y20, y21, y22⟩, -⟩ := run_3 (At.at A2.out 2 rfl); have yz0 := At.lt A2.out 0 rfl; have yy0 := Nat.lt_succ_of_lt yz0; have yx0 := Nat.lt_succ_of_lt yy0; have yz1 := At.lt A2.out 1 rfl; have yy1 := Nat.lt_succ_of_lt yz1; have yx1 := Nat.lt_succ_of_lt yy1; have yz2 := At.lt A2.out 2 rfl; have yy2 := Nat.lt_succ_of_lt yz2; have yx2 := Nat.lt_succ_of_lt yy2) | (go_at_call 64; (with_reducible refine (K67.out _ (by repeat (first | exact Ext.refl _ | assumption | refine Ext.alloc ?_ _ | refine Ext.drewN ?_ _ | refine ext_grow ?_ _ _ | refine Ext.trans ?_ (by assumption)))).mono ?_); rintro E w1 ⟨rfl, hb1⟩; have A1 := Lib.hid (show At w1 [(w.heap.size + 1 + 1, Obj.cells #[.int .i64 a.x0, .int .i64 a.y0, .int .i64 a.x1, .int .i64 a.y1, .int .i64 a.turn, .int .i64 a.scale] 47), (w.heap.size + 1, Obj.cells #[.int .i64 t.w, .int .i64 t.h, .slice to t.pix.length tc] 43), (w.heap.size, Obj.cells #[.int .i64 m.w, .int .i64 m.h, .slice mo m.pix.length mc] 24)] from At.ext hb1 ⟨(by repeat (first | (refine blk_at _ _ ?_; (first | rfl | (simp only [size_one]; done))) | refine (blk_past _ _ (by simp only [size_one]; omega)).trans ?_)), (by repeat (first | (refine blk_at _ _ ?_; (first | rfl | (simp only [size_one]; done))) | refine (blk_past _ _ (by simp only [size_one]; omega)).trans ?_)), (by repeat (first | (refine blk_at _ _ ?_; (first | rfl | (simp only [size_one]; done))) | refine (blk_past _ _ (by simp only [size_one]; omega)).trans ?_)), trivial⟩); have E1 := Lib.hid (show Ext w w1 from (by repeat (first | exact Ext.refl _ | assumption | refine Ext.alloc ?_ _ | refine Ext.drewN ?_ _ | refine ext_grow ?_ _ _ | refine Ext.trans ?_ (by assumption)))); obtain ⟨⟨x00, x01, x02, x03, x04, x05⟩, -⟩ := run_6 (At.at A1.out 0 rfl); obtain ⟨⟨x10, x11, x12⟩, -⟩ := run_3 (At.at A1.out 1 rfl); obtain ⟨⟨x20, x21, x22⟩, -⟩ := run_3 (At.at A1.out 2 rfl); have xz0 := At.lt A1.out 0 rfl; have xy0 := Nat.lt_succ_of_lt xz0; have xx0 := Nat.lt_succ_of_lt xy0; have xz1 := At.lt A1.out 1 rfl; have xy1 := Nat.lt_succ_of_lt xz1; have xx1 := Nat.lt_succ_of_lt xy1; have xz2 := At.lt A1.out 2 rfl; have xy2 := Nat.lt_succ_of_lt xz2; have xx2 := Nat.lt_succ_of_lt xy2))
    go_ret2
    exact ⟨by rw [hR.out]; rfl, E2.out⟩
  have q1 : decide (Area.Ok m a) = true := decide_eq_true h1
  have hR := Lib.hid (show boundR m t a = (bound m t a, 0) from by unfold boundR; rw [if_pos h0, if_pos h1])
  rw [q1] at K68
  replace K70 := K70 g1 g2 h1
  obtain ⟨bd, hbd⟩ : ∃ bd, bound m t a = bd := ⟨_, rfl⟩
  rw [hbd] at K70 hR
  clear h0 h1 q1 g1 g2 hbd
  go_enter Try.func30, Try.ntmps30
  go_wp2_with (first | (have _q := E2; go_at_call 72; (with_reducible refine (K70.out _ E2.out).mono ?_); rintro E w3 ⟨rfl, hb3⟩; have E3 := Lib.hid (E2.out.trans hb3)) | (have _q := E1; go_at_call 71; (with_reducible refine (K68.out _).mono ?_); rintro E w2 ⟨rfl, hb2⟩; have A2 := Lib.hid (show At w2 [(w.heap.size + 1 + 1, Obj.cells #[.int .i64 a.x0, .int .i64 a.y0, .int .i64 a.x1, .int .i64 a.y1, .int .i64 a.turn, .int .i64 a.scale] 47), (w.heap.size + 1, Obj.cells #[.int .i64 t.w, .int .i64 t.h, .slice to t.pix.length tc] 43), (w.heap.size, Obj.cells #[.int .i64 m.w, .int .i64 m.h, .slice mo m.pix.length mc] 24)] from At.ext hb2 A1.out); have E2 := Lib.hid (E1.out.trans hb2); obtain ⟨⟨y00, y01, y02, y03, y04, y05⟩, -⟩ := run_6 (At.at A2.out 0 rfl); obtain ⟨⟨y10, y11, y12⟩, -⟩ := run_3 (At.at A2.out 1 rfl); obtain ⟨⟨y20, y21, y22⟩, -⟩ := run_3 (At.at A2.out 2 rfl); have yz0 := At.lt A2.out 0 rfl; have yy0 := Nat.lt_succ_of_lt yz0; have yx0 := Nat.lt_succ_of_lt yy0; have yz1 := At.lt A2.out 1 rfl; have yy1 := Nat.lt_succ_of_lt yz1; have yx1 := Nat.lt_succ_of_lt yy1; have yz2 := At.lt A2.out 2 rfl; have yy2 := Nat.lt_succ_of_lt yz2; have yx2 := Nat.lt_succ_of_lt yy2) | (go_at_call 64; (with_reducible refine (K67.out _ (by repeat (first | exact Ext.refl _ | assumption | refine Ext.alloc ?_ _ | refine Ext.drewN ?_ _ | refine ext_grow ?_ _ _ | refine Ext.trans ?_ (by assumption)))).mono ?_); rintro E w1 ⟨rfl, hb1⟩; have A1 := Lib.hid (show At w1 [(w.heap.size + 1 + 1, Obj.cells #[.int .i64 a.x0, .int .i64 a.y0, .int .i64 a.x1, .int .i64 a.y1, .int .i64 a.turn, .int .i64 a.scale] 47), (w.heap.size + 1, Obj.cells #[.int .i64 t.w, .int .i64 t.h, .slice to t.pix.length tc] 43), (w.heap.size, Obj.cells #[.int .i64 m.w, .int .i64 m.h, .slice mo m.pix.length mc] 24)] from At.ext hb1 ⟨(by repeat (first | (refine blk_at _ _ ?_; (first | rfl | (simp only [size_one]; done))) | refine (blk_past _ _ (by simp only [size_one]; omega)).trans ?_)), (by repeat (first | (refine blk_at _ _ ?_; (first | rfl | (simp only [size_one]; done))) | refine (blk_past _ _ (by simp only [size_one]; omega)).trans ?_)), (by repeat (first | (refine blk_at _ _ ?_; (first | rfl | (simp only [size_one]; done))) | refine (blk_past _ _ (by simp only [size_one]; omega)).trans ?_)), trivial⟩); have E1 := Lib.hid (show Ext w w1 from (by repeat (first | exact Ext.refl _ | assumption | refine Ext.alloc ?_ _ | refine Ext.drewN ?_ _ | refine ext_grow ?_ _ _ | refine Ext.trans ?_ (by assumption)))); obtain ⟨⟨x00, x01, x02, x03, x04, x05⟩, -⟩ := run_6 (At.at A1.out 0 rfl); obtain ⟨⟨x10, x11, x12⟩, -⟩ := run_3 (At.at A1.out 1 rfl); obtain ⟨⟨x20, x21, x22⟩, -⟩ := run_3 (At.at A1.out 2 rfl); have xz0 := At.lt A1.out 0 rfl; have xy0 := Nat.lt_succ_of_lt xz0; have xx0 := Nat.lt_succ_of_lt xy0; have xz1 := At.lt A1.out 1 rfl; have xy1 := Nat.lt_succ_of_lt xz1; have xx1 := Nat.lt_succ_of_lt xy1; have xz2 := At.lt A1.out 2 rfl; have xy2 := Nat.lt_succ_of_lt xz2; have xx2 := Nat.lt_succ_of_lt xy2))
  go_ret2
  exact ⟨by rw [hR.out]; rfl, E3.out⟩
end Go.Proofs.Ytipkjdfnoonpcaa
