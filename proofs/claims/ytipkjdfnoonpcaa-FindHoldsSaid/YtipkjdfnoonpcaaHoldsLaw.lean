/- The law FindHolds: the walk. -/
import Derived.Test.YtipkjdfnoonpcaaHoldsPlain
set_option linter.unusedVariables false
set_option linter.unusedSimpArgs false
namespace Go.Proofs.Ytipkjdfnoonpcaa
open Go.RowKit Go.Sort

set_option maxRecDepth 100000 in
set_option maxHeartbeats 16000000 in
theorem c13 (m : Img) (v : Value) (t : Tool) (slack : Int) (w : World) (hv : IntsAt w v m.pix) (hl : m.pix.length * 8 ≤ 140737488351232) :
    Calls Try.prog 13 #[imgVal m v, toolVal t, .int .i64 slack] w fun e w' => e = .returned (.bool true) ∧ Ext w w' := by
  have hlm : m.pix.length ≤ maxLen := by unfold maxLen; omega
  have HV := Lib.hid hv
  obtain ⟨ao, cap, rfl, -, -⟩ := hv.form
  have K21 := Lib.hid (fun v w' (h : IntsAt w' v m.pix) => c21b m v t slack w' h hlm)
  by_cases h0 : readyE m t slack = 0
  case neg =>
    have u1 : (readyE m t slack != 0) = true := by simp [h0]
    have hP : planD m t slack = [] := if_neg h0
    rw [hP] at K21
    rw [List.length_nil] at K21
    clear h0 hP
    unfold imgVal toolVal at *
    clear hv hl hlm
    go_enter Try.func13, Try.ntmps13
    go_wp2_with (first | (have _q := E1; go_at_call 21; (with_reducible refine (K21.out _ _ HV_1.out).mono ?_); rintro E w2 ⟨po, pc, rfl, o2, hb2⟩; have A2 := Lib.hid (show At w2 [(w.heap.size, Obj.cells #[.int .i64 m.w, .int .i64 m.h, .slice ao m.pix.length cap] 24), (w.heap.size + 1, Obj.cells #[.int .i64 t.len, .int .i64 t.grip, .int .i64 t.palm] 26)] from At.ext hb2 A1.out); have E2 := Lib.hid ((E1.out).trans hb2); obtain ⟨⟨c2_0_0, c2_0_1, c2_0_2⟩, f2_0_0, f2_0_1, f2_0_2⟩ := run_3 (At.at A2.out 0 rfl); have s2_0 : w.heap.size < w2.heap.size := At.lt A2.out 0 rfl; obtain ⟨⟨c2_1_0, c2_1_1, c2_1_2⟩, f2_1_0, f2_1_1, f2_1_2⟩ := run_3 (At.at A2.out 1 rfl); have s2_1 : w.heap.size + 1 < w2.heap.size := At.lt A2.out 1 rfl; (try clear c1_0_0 c1_0_1 c1_0_2 f1_0_0 f1_0_1 f1_0_2 c1_1_0 c1_1_1 c1_1_2 f1_1_0 f1_1_1 f1_1_2 s1_0 s1_1); have HV_2 := Lib.hid (IntsAt.ext (HV_1.out) hb2); have PL := Lib.hid o2; clear o2) | (go_at_call 39; (with_reducible refine (c39 _).mono ?_); rintro E w1 ⟨rfl, hb1⟩; have A1 := Lib.hid (show At w1 [(w.heap.size, Obj.cells #[.int .i64 m.w, .int .i64 m.h, .slice ao m.pix.length cap] 24), (w.heap.size + 1, Obj.cells #[.int .i64 t.len, .int .i64 t.grip, .int .i64 t.palm] 26)] from At.ext hb1 (show At (World.alloc (World.alloc w (Obj.cells #[.int .i64 m.w, .int .i64 m.h, .slice ao m.pix.length cap] 24)) (Obj.cells #[.int .i64 t.len, .int .i64 t.grip, .int .i64 t.palm] 26)) [(w.heap.size, Obj.cells #[.int .i64 m.w, .int .i64 m.h, .slice ao m.pix.length cap] 24), (w.heap.size + 1, Obj.cells #[.int .i64 t.len, .int .i64 t.grip, .int .i64 t.palm] 26)] from ⟨(by repeat (first | (refine blk_at _ _ ?_; (first | rfl | (simp only [size_one]; done))) | refine (blk_past _ _ (by simp only [size_one]; omega)).trans ?_)), (by repeat (first | (refine blk_at _ _ ?_; (first | rfl | (simp only [size_one]; done))) | refine (blk_past _ _ (by simp only [size_one]; omega)).trans ?_)), trivial⟩)); have E1 := Lib.hid (((show Ext w (World.alloc (World.alloc w (Obj.cells #[.int .i64 m.w, .int .i64 m.h, .slice ao m.pix.length cap] 24)) (Obj.cells #[.int .i64 t.len, .int .i64 t.grip, .int .i64 t.palm] 26)) from (by repeat (first | exact Ext.refl _ | assumption | refine Ext.alloc ?_ _ | refine Ext.drewN ?_ _ | refine ext_grow ?_ _ _ | refine Ext.setCell ?_ (by first | exact Nat.le_refl _ | omega | (simp; done) | (simp; omega)) _ | refine Ext.trans ?_ (by assumption))))).trans hb1); obtain ⟨⟨c1_0_0, c1_0_1, c1_0_2⟩, f1_0_0, f1_0_1, f1_0_2⟩ := run_3 (At.at A1.out 0 rfl); have s1_0 : w.heap.size < w1.heap.size := At.lt A1.out 0 rfl; obtain ⟨⟨c1_1_0, c1_1_1, c1_1_2⟩, f1_1_0, f1_1_1, f1_1_2⟩ := run_3 (At.at A1.out 1 rfl); have s1_1 : w.heap.size + 1 < w1.heap.size := At.lt A1.out 1 rfl; have HV_1 := Lib.hid (IntsAt.ext ((IntsAt.ext HV.out (by repeat (first | exact Ext.refl _ | assumption | refine Ext.alloc ?_ _ | refine Ext.drewN ?_ _ | refine ext_grow ?_ _ _ | refine Ext.setCell ?_ (by first | exact Nat.le_refl _ | omega | (simp; done) | (simp; omega)) _ | refine Ext.trans ?_ (by assumption))))) hb1)))
    go_ret
    exact ⟨rfl, E2.out⟩
  have hP : planD m t slack = planB m t slack := if_pos h0
  obtain ⟨hc, ht, hs, hs2⟩ := ready_ok h0
  have hlen := planD_len m t slack
  have HM := Lib.hid (fun (x : Grasp) (hx : x ∈ planB m t slack) => plan_mem hc.1 ht.1.1 hs hx)
  have HA := Lib.hid (fun (x : Grasp) (hx : x ∈ planB m t slack) (dx dy : Int) (y1 : -slack ≤ dy) (y2 : dy ≤ slack) (x1 : -slack ≤ dx) (x2 : dx ≤ slack) => holds_around ht.1.1 hs (plan_mem hc.1 ht.1.1 hs hx).1 y1 y2 x1 x2)
  have K19 := Lib.hid (fun (x : Grasp) (b : Bool) (hb : HoldsB m t x slack = b) (W : World) (hE : Ext w W) => show Calls Try.prog 19 #[imgVal m (.slice ao m.pix.length cap), toolVal t, graspVal x, .int .i64 slack] W (fun e w' => e = .returned (.tuple #[.bool b, .int .i64 0]) ∧ Ext W w') from by
    have h := c19b m _ t x slack W (hv.ext hE) hlm
    rw [h0] at h
    rwa [show holdsD m t x slack = b from (if_pos h0).trans hb] at h)
  have K43 := Lib.hid (fun (x : Grasp) (hn : x.near) (hw : 1 ≤ x.width ∧ x.width ≤ 8) (hb : HoldsB m t x 0 = true) (W : World) (hE : Ext w W) => show Calls Try.prog 43 #[imgVal m (.slice ao m.pix.length cap), toolVal t, graspVal x] W (fun e w' => e = .returned (.bool true) ∧ Ext W w') from by
    refine (c43 m _ t x W hc ht (hv.ext hE) hn hw).mono ?_
    intro e w' h
    exact h.yes (HoldsB_iff.1 hb))
  obtain ⟨gs, hgs⟩ : ∃ gs, planD m t slack = gs := ⟨_, rfl⟩
  rw [← hP, hgs] at HM HA
  rw [h0, hgs] at K21
  rw [hgs] at hlen
  clear hP hgs h0 hc ht
  unfold imgVal toolVal at *
  clear hv hl hlm
  go_enter Try.func13, Try.ntmps13
  go_wp2_with (first | (have _q := E1; go_at_call 21; (with_reducible refine (K21.out _ _ HV_1.out).mono ?_); rintro E w2 ⟨po, pc, rfl, o2, hb2⟩; have A2 := Lib.hid (show At w2 [(w.heap.size, Obj.cells #[.int .i64 m.w, .int .i64 m.h, .slice ao m.pix.length cap] 24), (w.heap.size + 1, Obj.cells #[.int .i64 t.len, .int .i64 t.grip, .int .i64 t.palm] 26)] from At.ext hb2 A1.out); have E2 := Lib.hid ((E1.out).trans hb2); obtain ⟨⟨c2_0_0, c2_0_1, c2_0_2⟩, f2_0_0, f2_0_1, f2_0_2⟩ := run_3 (At.at A2.out 0 rfl); have s2_0 : w.heap.size < w2.heap.size := At.lt A2.out 0 rfl; obtain ⟨⟨c2_1_0, c2_1_1, c2_1_2⟩, f2_1_0, f2_1_1, f2_1_2⟩ := run_3 (At.at A2.out 1 rfl); have s2_1 : w.heap.size + 1 < w2.heap.size := At.lt A2.out 1 rfl; (try clear c1_0_0 c1_0_1 c1_0_2 f1_0_0 f1_0_1 f1_0_2 c1_1_0 c1_1_1 c1_1_2 f1_1_0 f1_1_1 f1_1_2 s1_0 s1_1); have HV_2 := Lib.hid (IntsAt.ext (HV_1.out) hb2); have PL := Lib.hid o2; clear o2) | (go_at_call 39; (with_reducible refine (c39 _).mono ?_); rintro E w1 ⟨rfl, hb1⟩; have A1 := Lib.hid (show At w1 [(w.heap.size, Obj.cells #[.int .i64 m.w, .int .i64 m.h, .slice ao m.pix.length cap] 24), (w.heap.size + 1, Obj.cells #[.int .i64 t.len, .int .i64 t.grip, .int .i64 t.palm] 26)] from At.ext hb1 (show At (World.alloc (World.alloc w (Obj.cells #[.int .i64 m.w, .int .i64 m.h, .slice ao m.pix.length cap] 24)) (Obj.cells #[.int .i64 t.len, .int .i64 t.grip, .int .i64 t.palm] 26)) [(w.heap.size, Obj.cells #[.int .i64 m.w, .int .i64 m.h, .slice ao m.pix.length cap] 24), (w.heap.size + 1, Obj.cells #[.int .i64 t.len, .int .i64 t.grip, .int .i64 t.palm] 26)] from ⟨(by repeat (first | (refine blk_at _ _ ?_; (first | rfl | (simp only [size_one]; done))) | refine (blk_past _ _ (by simp only [size_one]; omega)).trans ?_)), (by repeat (first | (refine blk_at _ _ ?_; (first | rfl | (simp only [size_one]; done))) | refine (blk_past _ _ (by simp only [size_one]; omega)).trans ?_)), trivial⟩)); have E1 := Lib.hid (((show Ext w (World.alloc (World.alloc w (Obj.cells #[.int .i64 m.w, .int .i64 m.h, .slice ao m.pix.length cap] 24)) (Obj.cells #[.int .i64 t.len, .int .i64 t.grip, .int .i64 t.palm] 26)) from (by repeat (first | exact Ext.refl _ | assumption | refine Ext.alloc ?_ _ | refine Ext.drewN ?_ _ | refine ext_grow ?_ _ _ | refine Ext.setCell ?_ (by first | exact Nat.le_refl _ | omega | (simp; done) | (simp; omega)) _ | refine Ext.trans ?_ (by assumption))))).trans hb1); obtain ⟨⟨c1_0_0, c1_0_1, c1_0_2⟩, f1_0_0, f1_0_1, f1_0_2⟩ := run_3 (At.at A1.out 0 rfl); have s1_0 : w.heap.size < w1.heap.size := At.lt A1.out 0 rfl; obtain ⟨⟨c1_1_0, c1_1_1, c1_1_2⟩, f1_1_0, f1_1_1, f1_1_2⟩ := run_3 (At.at A1.out 1 rfl); have s1_1 : w.heap.size + 1 < w1.heap.size := At.lt A1.out 1 rfl; have HV_1 := Lib.hid (IntsAt.ext ((IntsAt.ext HV.out (by repeat (first | exact Ext.refl _ | assumption | refine Ext.alloc ?_ _ | refine Ext.drewN ?_ _ | refine ext_grow ?_ _ _ | refine Ext.setCell ?_ (by first | exact Nat.le_refl _ | omega | (simp; done) | (simp; omega)) _ | refine Ext.trans ?_ (by assumption))))) hb1)))
  go_loopw [10] (fun iv wr => Hid (Ext w wr) ∧ Hid (At wr [(w.heap.size, Obj.cells #[.int .i64 m.w, .int .i64 m.h, .slice ao m.pix.length cap] 24), (w.heap.size + 1, Obj.cells #[.int .i64 t.len, .int .i64 t.grip, .int .i64 t.palm] 26)]) ∧ Hid (GraspsAt wr (.slice po gs.length pc) gs) ∧ ∃ i : Nat, i ≤ gs.length ∧ iv = .int .i64 (i : Int)) (fun iv _ => gs.length - (intOf iv).toNat)
  case atStart => exact ⟨E2, A2, PL, 0, Nat.zero_le _, rfl⟩
  case round =>
    obtain ⟨hE, hA, hG, i, hi, rfl⟩ := hrel
    obtain ⟨wo, hwo⟩ : ∃ wo : World, wo = wr := ⟨_, rfl⟩
    subst hwo
    obtain ⟨⟨cr_0_0, cr_0_1, cr_0_2⟩, fr_0_0, fr_0_1, fr_0_2⟩ := run_3 (At.at hA.out 0 rfl)
    have sr_0 : w.heap.size < wo.heap.size := At.lt hA.out 0 rfl
    obtain ⟨⟨cr_1_0, cr_1_1, cr_1_2⟩, fr_1_0, fr_1_1, fr_1_2⟩ := run_3 (At.at hA.out 1 rfl)
    have sr_1 : w.heap.size + 1 < wo.heap.size := At.lt hA.out 1 rfl
    by_cases hil : i < gs.length
    · obtain ⟨x, hxx⟩ : ∃ x, gs.getD i grasp0 = x := ⟨_, rfl⟩
      have HXX := Lib.hid hxx
      have HX := Lib.hid (show x ∈ gs from hxx ▸ getD_in _ hil)
      clear hxx
      obtain ⟨f1, ⟨⟨xl, xh⟩, yl, yh⟩, ⟨⟨wl, wh⟩, zl, zh⟩, f2⟩ := HM.out x HX.out
      have KH := Lib.hid (K19.out x true f1)
      have KL := Lib.hid (K19.out { x with z := x.z - 1 } false f2)
      have KC := Lib.hid (fun (dx dy : Int) (y1 : -slack ≤ dy) (y2 : dy ≤ slack) (x1 : -slack ≤ dx) (x2 : dx ≤ slack) => K43.out (x.at dx dy) ⟨⟨by show -1000 ≤ x.x + dx; omega, by show x.x + dx ≤ 1000; omega⟩, by show -1000 ≤ x.y + dy; omega, by show x.y + dy ≤ 1000; omega⟩ ⟨wl, wh⟩ (HA.out x HX.out dx dy y1 y2 x1 x2))
      unfold graspVal at KH KL KC
      unfold Grasp.at at KC
      clear f1 f2
      have hili : (i : Int) < (gs.length : Int) := by omega
      obtain ⟨_, _, hfx, -, hcx⟩ := GraspsAt.form hG.out
      obtain ⟨pb, pf, hxb, x0, x1, x2, x3, x4⟩ := hcx i hil
      simp only [Value.slice.injEq] at hfx
      obtain ⟨hfx, -, -⟩ := hfx
      subst hfx
      subst hxb
      clear hcx
      rw [HXX.out] at x0 x1 x2 x3 x4
      have zb := World.block_lt_of_cell? _ _ x0
      simp only at zb
      go_wp2_with fail
      refine wp_region_quiet_below (by kernel_rfl) (by kernel_rfl) ?_
      repeat (go_big_quiet_step ((first | (go_at_call 19; with_reducible exact Calls.ext_of (KH.out _ (ext_grow hE.out _ _))))))
      refine wpQuiet_nil ?_
      intro w6 hw'
      obtain ⟨pq, hw''⟩ := hw'
      have hb6 := ext_of_regrown hw''
      clear hw'' pq
      (try clear cr_0_0 fr_0_0 cr_0_1 fr_0_1 cr_0_2 fr_0_2 cr_1_0 fr_1_0 cr_1_1 fr_1_1 cr_1_2 fr_1_2 sr_0 sr_1)
      clear x0 x1 x2 x3 x4 zb
      have Ew6 := Lib.hid (hE.out.trans hb6)
      have Aw6 := Lib.hid (show At w6 [(w.heap.size, Obj.cells #[.int .i64 m.w, .int .i64 m.h, .slice ao m.pix.length cap] 24), (w.heap.size + 1, Obj.cells #[.int .i64 t.len, .int .i64 t.grip, .int .i64 t.palm] 26)] from At.ext hb6 hA.out)
      have Gw6 := Lib.hid (GraspsAt.ext hG.out hb6)
      clear hE hA hG
      have hE := Ew6
      have hA := Aw6
      have hG := Gw6
      clear Ew6 Aw6 Gw6
      clear hb6
      obtain ⟨⟨c6_0_0, c6_0_1, c6_0_2⟩, f6_0_0, f6_0_1, f6_0_2⟩ := run_3 (At.at hA.out 0 rfl)
      have s6_0 : w.heap.size < w6.heap.size := At.lt hA.out 0 rfl
      obtain ⟨⟨c6_1_0, c6_1_1, c6_1_2⟩, f6_1_0, f6_1_1, f6_1_2⟩ := run_3 (At.at hA.out 1 rfl)
      have s6_1 : w.heap.size + 1 < w6.heap.size := At.lt hA.out 1 rfl
      go_wp2
      go_loopw [13] (fun dv wr => Hid (Ext w wr) ∧ Hid (At wr [(w.heap.size, Obj.cells #[.int .i64 m.w, .int .i64 m.h, .slice ao m.pix.length cap] 24), (w.heap.size + 1, Obj.cells #[.int .i64 t.len, .int .i64 t.grip, .int .i64 t.palm] 26)]) ∧ Hid (GraspsAt wr (.slice (some ⟨pb, pf, none⟩) gs.length pc) gs) ∧ ∃ dy : Int, -slack ≤ dy ∧ dy ≤ slack + 1 ∧ dv = .int .i64 dy) (fun dv _ => (slack + 1 - intOf dv).toNat)
      case atStart => exact ⟨hE, hA, hG, -slack, by omega, by omega, rfl⟩
      case round =>
        (try clear c6_0_0 f6_0_0 c6_0_1 f6_0_1 c6_0_2 f6_0_2 c6_1_0 f6_1_0 c6_1_1 f6_1_1 c6_1_2 f6_1_2 s6_0 s6_1)
        clear hE hA hG
        obtain ⟨hE, hA, hG, dy, hy1, hy2, rfl⟩ := hrel
        obtain ⟨wo, hwo⟩ : ∃ wo : World, wo = wr := ⟨_, rfl⟩
        subst hwo
        obtain ⟨⟨cr_0_0, cr_0_1, cr_0_2⟩, fr_0_0, fr_0_1, fr_0_2⟩ := run_3 (At.at hA.out 0 rfl)
        have sr_0 : w.heap.size < wo.heap.size := At.lt hA.out 0 rfl
        obtain ⟨⟨cr_1_0, cr_1_1, cr_1_2⟩, fr_1_0, fr_1_1, fr_1_2⟩ := run_3 (At.at hA.out 1 rfl)
        have sr_1 : w.heap.size + 1 < wo.heap.size := At.lt hA.out 1 rfl
        by_cases hyl : dy ≤ slack
        · go_wp2
          go_loopw [14] (fun dv wr => Hid (Ext w wr) ∧ Hid (At wr [(w.heap.size, Obj.cells #[.int .i64 m.w, .int .i64 m.h, .slice ao m.pix.length cap] 24), (w.heap.size + 1, Obj.cells #[.int .i64 t.len, .int .i64 t.grip, .int .i64 t.palm] 26)]) ∧ Hid (GraspsAt wr (.slice (some ⟨pb, pf, none⟩) gs.length pc) gs) ∧ ∃ dx : Int, -slack ≤ dx ∧ dx ≤ slack + 1 ∧ dv = .int .i64 dx) (fun dv _ => (slack + 1 - intOf dv).toNat)
          case atStart => exact ⟨hE, hA, hG, -slack, by omega, by omega, rfl⟩
          case round =>
            (try clear cr_0_0 fr_0_0 cr_0_1 fr_0_1 cr_0_2 fr_0_2 cr_1_0 fr_1_0 cr_1_1 fr_1_1 cr_1_2 fr_1_2 sr_0 sr_1)
            clear hE hA hG
            obtain ⟨hE, hA, hG, dx, hx1, hx2, rfl⟩ := hrel
            obtain ⟨⟨cr_0_0, cr_0_1, cr_0_2⟩, fr_0_0, fr_0_1, fr_0_2⟩ := run_3 (At.at hA.out 0 rfl)
            have sr_0 : w.heap.size < wr.heap.size := At.lt hA.out 0 rfl
            obtain ⟨⟨cr_1_0, cr_1_1, cr_1_2⟩, fr_1_0, fr_1_1, fr_1_2⟩ := run_3 (At.at hA.out 1 rfl)
            have sr_1 : w.heap.size + 1 < wr.heap.size := At.lt hA.out 1 rfl
            by_cases hxl : dx ≤ slack
            · have KK := Lib.hid (KC.out dx dy hy1 hyl hx1 hxl)
              obtain ⟨_, _, hfx, -, hcx⟩ := GraspsAt.form hG.out
              obtain ⟨_, _, hxb, x0, x1, x2, x3, x4⟩ := hcx i hil
              simp only [Value.slice.injEq] at hfx
              obtain ⟨hfx, -, -⟩ := hfx
              subst hfx
              cases hxb
              clear hcx
              rw [HXX.out] at x0 x1 x2 x3 x4
              have zb := World.block_lt_of_cell? _ _ x0
              simp only at zb
              go_wp2_with (go_at_call 43; (with_reducible refine (KK.out _ (hE.out.alloc _)).mono ?_); rintro E w7 ⟨rfl, hb7⟩)
              go_roundw
              case rel => exact ⟨Lib.hid ((hE.out.alloc _).trans hb7), Lib.hid (At.ext hb7 (At.alloc hA.out _)), Lib.hid (GraspsAt.ext hG.out (((Ext.refl _).alloc _).trans hb7)), dx + 1, by omega, by omega, rfl⟩
              case measure => simp [intOf]; omega
            · obtain rfl : dx = slack + 1 := by omega
              go_wp2
              go_roundw
              case rel => exact ⟨hE, hA, hG, dy + 1, by omega, by omega, rfl⟩
              case measure => simp [intOf]; omega
        · obtain rfl : dy = slack + 1 := by omega
          obtain ⟨_, _, hfx, -, hcx⟩ := GraspsAt.form hG.out
          obtain ⟨_, _, hxb, x0, x1, x2, x3, x4⟩ := hcx i hil
          simp only [Value.slice.injEq] at hfx
          obtain ⟨hfx, -, -⟩ := hfx
          subst hfx
          cases hxb
          clear hcx
          rw [HXX.out] at x0 x1 x2 x3 x4
          have zb := World.block_lt_of_cell? _ _ x0
          simp only at zb
          go_wp2_with (go_at_call 19; (with_reducible refine (KL.out _ (hE.out.alloc _)).mono ?_); rintro E w7 ⟨rfl, hb7⟩)
          go_roundw
          case rel => exact ⟨Lib.hid ((hE.out.alloc _).trans hb7), Lib.hid (At.ext hb7 (At.alloc hA.out _)), Lib.hid (GraspsAt.ext hG.out (((Ext.refl _).alloc _).trans hb7)), i + 1, by omega, by go_num⟩
          case measure => simp [intOf]; omega
    · obtain rfl : i = gs.length := by omega
      go_wp2
      go_ret
      exact ⟨rfl, hE.out⟩
theorem g13 (m : Img) (v : Value) (t : Tool) (slack : Int) (w : World) (hv : IntsAt w v m.pix) (hl : m.pix.length * 8 ≤ 140737488351232) (_hs : (Lit.int .i64 slack).wf = true) :
    Calls Try.prog 13 #[imgVal m v, toolVal t, .int .i64 slack] w fun e w' => e = .returned (.bool true) ∧ Ext w w' := c13 m v t slack w hv hl
end Go.Proofs.Ytipkjdfnoonpcaa
