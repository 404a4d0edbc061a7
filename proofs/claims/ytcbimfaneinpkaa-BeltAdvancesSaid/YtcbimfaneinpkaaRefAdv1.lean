/- The walks of the reference's May, OpenAt and Open. -/
import Derived.Test.YtcbimfaneinpkaaAtG
import Derived.Test.YtcbimfaneinpkaaGate2
import Derived.Test.YtcbimfaneinpkaaCheckRef
set_option linter.unusedVariables false
set_option linter.unusedSimpArgs false
namespace Go.Proofs.Ytcbimfaneinpkaa
open Go.RowKit Go.Sort

theorem here_dec (t : Track) (n : Int) (x : Seen) : decide (x.at_ + first t.belt ≤ n ∧ n ≤ x.at_ + final t.belt) = here t n x := by
  unfold here; exact Bool.decide_and _ _
set_option maxRecDepth 100000 in
set_option maxHeartbeats 4000000 in
theorem w77 (t : Track) (x : Seen) (n : Int) (w : World) (hok : t.belt.ok) (h0 : 0 ≤ x.at_) (h1 : x.at_ ≤ 1099511627776) :
    Calls Try.prog 77 #[.agg #[.int .i64 t.belt.step, .int .i64 t.belt.slip, .int .i64 t.belt.gate, .int .i64 t.belt.length], seenV x, .int .i64 n] w fun e w' => e = .returned (.bool (here t n x)) ∧ Ext w w' := by
  have hd := here_dec t n x
  obtain ⟨r, hr⟩ : ∃ r, here t n x = r := ⟨_, rfl⟩
  rw [hr] at hd ⊢
  clear hr
  obtain ⟨xi, xa, xv, xh⟩ := x
  obtain ⟨⟨f1, f2⟩, f3, f4⟩ := win_bd hok
  have hg := And.intro hok.2.2.2.2.1 hok.2.2.2.2.2.1
  have fdef : first t.belt = winFrom t.belt t.belt.gate := rfl
  have ldef : final t.belt = winTo t.belt t.belt.gate := rfl
  have W53 := Lib.hid (fun w => w53 t.belt hok t.belt.gate hg.1 hg.2 w)
  obtain ⟨fi, hfi⟩ : ∃ fi, winFrom t.belt t.belt.gate = fi := ⟨_, rfl⟩
  obtain ⟨fl, hfl⟩ : ∃ fl, winTo t.belt t.belt.gate = fl := ⟨_, rfl⟩
  rw [fdef, hfi] at f1 f2 hd
  rw [ldef, hfl] at f3 f4 hd
  rw [hfi, hfl] at W53
  have K56 := Lib.hid (fun w => w56 n (xa + fi) (xa + fl) w)
  simp only at hd h0 h1
  rw [hd] at K56
  clear fdef ldef hfi hfl hd hok
  go_enter Try.func77, Try.ntmps77
  go_wp2_with (first | (go_at_call 56; (with_reducible refine (K56.out _).mono ?_); rintro E w2 ⟨rfl, hb2⟩; have A2 := Lib.hid (show At w2 [(w.heap.size, Obj.cells #[.int .i64 t.belt.step, .int .i64 t.belt.slip, .int .i64 t.belt.gate, .int .i64 t.belt.length] 23), (w.heap.size + 1, Obj.cells #[.int .i64 xi, .int .i64 xa, .int .u8 xv, .bool xh] 63)] from At.ext hb2 A1.out); have E2 := Lib.hid ((E1.out).trans hb2); obtain ⟨⟨c2_0_0, c2_0_1, c2_0_2, c2_0_3⟩, f2_0_0, f2_0_1, f2_0_2, f2_0_3⟩ := run_4 (At.at A2.out 0 rfl); have s2_0 : w.heap.size < w2.heap.size := At.lt A2.out 0 rfl; obtain ⟨⟨c2_1_0, c2_1_1, c2_1_2, c2_1_3⟩, f2_1_0, f2_1_1, f2_1_2, f2_1_3⟩ := run_4 (At.at A2.out 1 rfl); have s2_1 : w.heap.size + 1 < w2.heap.size := At.lt A2.out 1 rfl; (try clear c1_0_0 c1_0_1 c1_0_2 c1_0_3 f1_0_0 f1_0_1 f1_0_2 f1_0_3 c1_1_0 c1_1_1 c1_1_2 c1_1_3 f1_1_0 f1_1_1 f1_1_2 f1_1_3 s1_0 s1_1)) | (go_at_call 53; (with_reducible refine (W53.out _).mono ?_); rintro E w1 ⟨rfl, hb1⟩; have A1 := Lib.hid (show At w1 [(w.heap.size, Obj.cells #[.int .i64 t.belt.step, .int .i64 t.belt.slip, .int .i64 t.belt.gate, .int .i64 t.belt.length] 23), (w.heap.size + 1, Obj.cells #[.int .i64 xi, .int .i64 xa, .int .u8 xv, .bool xh] 63)] from At.ext hb1 (show At _ [(w.heap.size, Obj.cells #[.int .i64 t.belt.step, .int .i64 t.belt.slip, .int .i64 t.belt.gate, .int .i64 t.belt.length] 23), (w.heap.size + 1, Obj.cells #[.int .i64 xi, .int .i64 xa, .int .u8 xv, .bool xh] 63)] from ⟨(by repeat (first | (refine blk_at _ _ ?_; (first | rfl | (simp only [size_one]; done))) | refine (blk_past _ _ (by simp only [size_one]; omega)).trans ?_)), (by repeat (first | (refine blk_at _ _ ?_; (first | rfl | (simp only [size_one]; done))) | refine (blk_past _ _ (by simp only [size_one]; omega)).trans ?_)), trivial⟩)); have E1 := Lib.hid (((show Ext w _ from (by repeat (first | exact Ext.refl _ | assumption | refine Ext.alloc ?_ _ | refine Ext.drewN ?_ _ | refine ext_grow ?_ _ _ | refine Ext.setCell ?_ (by first | exact Nat.le_refl _ | omega | (simp; done) | (simp; omega)) _ | refine Ext.trans ?_ (by assumption))))).trans hb1); obtain ⟨⟨c1_0_0, c1_0_1, c1_0_2, c1_0_3⟩, f1_0_0, f1_0_1, f1_0_2, f1_0_3⟩ := run_4 (At.at A1.out 0 rfl); have s1_0 : w.heap.size < w1.heap.size := At.lt A1.out 0 rfl; obtain ⟨⟨c1_1_0, c1_1_1, c1_1_2, c1_1_3⟩, f1_1_0, f1_1_1, f1_1_2, f1_1_3⟩ := run_4 (At.at A1.out 1 rfl); have s1_1 : w.heap.size + 1 < w1.heap.size := At.lt A1.out 1 rfl))
  go_ret
  exact ⟨rfl, E2.out⟩
theorem any_false {t : Track} {n : Int} (h : ∀ j, j < t.parts.length → (decide ((t.parts.getD j seen0).verdict ≠ 1) && here t n (t.parts.getD j seen0)) = false) : openAt t n = false := by
  unfold openAt
  rw [List.any_eq_false]
  intro x hx
  obtain ⟨i, hi, rfl⟩ := List.getElem_of_mem hx
  have := h i hi
  rw [getD_get hi] at this
  simpa using this
theorem any_true {t : Track} {n : Int} {i : Nat} (hi : i < t.parts.length) (h : (decide ((t.parts.getD i seen0).verdict ≠ 1) && here t n (t.parts.getD i seen0)) = true) : openAt t n = true := by
  unfold openAt
  rw [List.any_eq_true]
  exact ⟨t.parts[i], List.getElem_mem hi, by rw [getD_get hi] at h; exact h⟩
set_option maxRecDepth 100000 in
set_option maxHeartbeats 4000000 in
theorem w68 (t : Track) (v : Value) (n : Int) (w : World) (hv : SeensAt w v t.parts) (hI : PartsIn t) :
    Calls Try.prog 68 #[trackVal t v, .int .i64 n] w fun e w' => e = .returned (.bool (openAt t n)) ∧ Ext w w' := by
  have HV := Lib.hid hv
  have HI := Lib.hid hI
  have hl := hI.2.1
  clear hI
  obtain ⟨q1, ao, cap, rfl, k1, k2, -⟩ := hv
  obtain ⟨r, hr⟩ : ∃ r, openAt t n = r := ⟨_, rfl⟩
  rw [hr]
  have HR := Lib.hid hr
  clear hr
  go_enter Try.func68, Try.ntmps68
  go_wp2
  go_loopw [5] (fun v wr => Ext w wr ∧ Hid (At wr [(w.heap.size, Obj.cells #[.int .i64 t.belt.step, .int .i64 t.belt.slip, .int .i64 t.belt.gate, .int .i64 t.belt.length, .int .i64 t.count, .int .i64 t.next, (.slice ao t.parts.length cap)] 47)]) ∧ ∃ i : Nat, i ≤ t.parts.length ∧ v = .int .i64 i ∧ Hid (∀ j, j < i → (decide ((t.parts.getD j seen0).verdict ≠ 1) && here t n (t.parts.getD j seen0)) = false)) (fun v _ => t.parts.length - (intOf v).toNat)
  case atStart => exact ⟨(Ext.refl _).alloc _, Lib.hid ⟨one_first _ _, trivial⟩, 0, Nat.zero_le _, rfl, Lib.hid (fun j hj => by omega)⟩
  case round =>
    obtain ⟨hE, hA, i, hi, rfl, hN⟩ := hrel
    obtain ⟨⟨p0, p1, p2, p3, p4, p5, p6⟩, pf0, pf1, pf2, pf3, pf4, pf5, pf6⟩ := run_7 (At.at hA.out 0 rfl)
    have pz := At.lt hA.out 0 rfl
    by_cases hil : i < t.parts.length
    · obtain ⟨ao', cap', e, -, hc⟩ := SeensAt.form HV.out
      injection e with e1 _ e3
      subst e1
      subst e3
      obtain ⟨b, off, rfl, y0, y1, y2, y3⟩ := hc i hil
      clear hc
      have hilI : (i : Int) < (t.parts.length : Int) := by omega
      obtain ⟨x, hx⟩ : ∃ x, t.parts.getD i seen0 = x := ⟨_, rfl⟩
      rw [hx] at y0 y1 y2 y3
      have HX := Lib.hid hx
      have hxi := HI.out.2.2 x (by rw [← hx, getD_get hil]; exact List.getElem_mem hil)
      have hcall := fun w => w77 t x n w HI.out.1 hxi.1 hxi.2
      obtain ⟨hh, hhx⟩ : ∃ hh, here t n x = hh := ⟨_, rfl⟩
      rw [hhx] at hcall
      have HH := Lib.hid hhx
      have K77 := Lib.hid hcall
      clear hcall hhx hx
      have y0 := hE.get y0
      have y1 := hE.get y1
      have y2 := hE.get y2
      have y3 := hE.get y3
      have yz := World.block_lt_of_cell? _ _ y0
      obtain ⟨xi, xa, xv, xh⟩ := x
      simp only at y0 y1 y2 y3 yz hxi
      by_cases g1 : xv = 1
      · have t1 : (xv != 1) = false := by simp [g1]
        have G1 := Lib.hid g1
        clear g1
        go_wp2_with fail
        refine wp_region_quiet_below (by kernel_rfl) (by kernel_rfl) ?_
        repeat (go_big_quiet_step (fail))
        refine wpQuiet_nil ?_
        intro w2 hw'
        obtain ⟨pq, hw''⟩ := hw'
        have hb2 := ext_of_regrown hw''
        clear hw'' pq
        have A2 := Lib.hid (show At w2 [(w.heap.size, Obj.cells #[.int .i64 t.belt.step, .int .i64 t.belt.slip, .int .i64 t.belt.gate, .int .i64 t.belt.length, .int .i64 t.count, .int .i64 t.next, (.slice (some ⟨b, off, none⟩) t.parts.length cap)] 47)] from At.ext hb2 hA.out)
        have E2 := Lib.hid ((hE).trans hb2)
        obtain ⟨⟨c2_0_0, c2_0_1, c2_0_2, c2_0_3, c2_0_4, c2_0_5, c2_0_6⟩, f2_0_0, f2_0_1, f2_0_2, f2_0_3, f2_0_4, f2_0_5, f2_0_6⟩ := run_7 (At.at A2.out 0 rfl)
        have s2_0 : w.heap.size < w2.heap.size := At.lt A2.out 0 rfl
        clear hb2
        go_wp2_with fail
        go_roundw
        case rel => exact ⟨E2.out, A2, i + 1, hil, by go_num, Lib.hid (fun j hj => by
          rcases Nat.lt_or_ge j i with h9 | h9
          · exact hN.out j h9
          · obtain rfl : j = i := by omega
            rw [HX.out]; simp [G1.out])⟩
        case measure => simp [intOf]; omega
      · have t1 : (xv != 1) = true := by simpa using g1
        have G1 := Lib.hid g1
        clear g1
        cases hh
        · go_wp2_with fail
          refine wp_region_quiet_below (by kernel_rfl) (by kernel_rfl) ?_
          repeat (go_big_quiet_step ((first | (go_at_call 77; with_reducible exact Calls.ext_of (K77.out _)))))
          refine wpQuiet_nil ?_
          intro w2 hw'
          obtain ⟨pq, hw''⟩ := hw'
          have hb2 := ext_of_regrown hw''
          clear hw'' pq
          have A2 := Lib.hid (show At w2 [(w.heap.size, Obj.cells #[.int .i64 t.belt.step, .int .i64 t.belt.slip, .int .i64 t.belt.gate, .int .i64 t.belt.length, .int .i64 t.count, .int .i64 t.next, (.slice (some ⟨b, off, none⟩) t.parts.length cap)] 47)] from At.ext hb2 hA.out)
          have E2 := Lib.hid ((hE).trans hb2)
          obtain ⟨⟨c2_0_0, c2_0_1, c2_0_2, c2_0_3, c2_0_4, c2_0_5, c2_0_6⟩, f2_0_0, f2_0_1, f2_0_2, f2_0_3, f2_0_4, f2_0_5, f2_0_6⟩ := run_7 (At.at A2.out 0 rfl)
          have s2_0 : w.heap.size < w2.heap.size := At.lt A2.out 0 rfl
          clear hb2
          go_wp2_with fail
          go_roundw
          case rel => exact ⟨E2.out, A2, i + 1, hil, by go_num, Lib.hid (fun j hj => by
            rcases Nat.lt_or_ge j i with h9 | h9
            · exact hN.out j h9
            · obtain rfl : j = i := by omega
              rw [HX.out, HH.out]; simp)⟩
          case measure => simp [intOf]; omega
        · have LEAF : r = true := HR.out.symm.trans (any_true hil (by rw [HX.out, HH.out]; simpa using G1.out))
          subst LEAF
          go_wp2_with fail
          refine wp_region_quiet_below (by kernel_rfl) (by kernel_rfl) ?_
          repeat (go_big_quiet_step ((first | (go_at_call 77; with_reducible exact Calls.ext_of (K77.out _)))))
          refine wpQuiet_nil ?_
          intro w2 hw'
          obtain ⟨pq, hw''⟩ := hw'
          have hb2 := ext_of_regrown hw''
          clear hw'' pq
          have A2 := Lib.hid (show At w2 [(w.heap.size, Obj.cells #[.int .i64 t.belt.step, .int .i64 t.belt.slip, .int .i64 t.belt.gate, .int .i64 t.belt.length, .int .i64 t.count, .int .i64 t.next, (.slice (some ⟨b, off, none⟩) t.parts.length cap)] 47)] from At.ext hb2 hA.out)
          have E2 := Lib.hid ((hE).trans hb2)
          obtain ⟨⟨c2_0_0, c2_0_1, c2_0_2, c2_0_3, c2_0_4, c2_0_5, c2_0_6⟩, f2_0_0, f2_0_1, f2_0_2, f2_0_3, f2_0_4, f2_0_5, f2_0_6⟩ := run_7 (At.at A2.out 0 rfl)
          have s2_0 : w.heap.size < w2.heap.size := At.lt A2.out 0 rfl
          clear hb2
          go_wp2_with fail
          go_ret
          exact ⟨rfl, E2.out⟩
    · have LEAF : r = false := HR.out.symm.trans (any_false fun j hj => hN.out j (by omega))
      subst LEAF
      go_wp2_with fail
      go_ret
      exact ⟨rfl, hE⟩
set_option maxRecDepth 100000 in
set_option maxHeartbeats 4000000 in
theorem w39 (t : Track) (v : Value) (w : World) (hv : SeensAt w v t.parts) :
    Calls Try.prog 39 #[trackVal t v] w fun e w' => e = .returned (.tuple #[.bool (openR t).1, .int .i64 (openR t).2]) ∧ Ext w w' := by
  have HV := Lib.hid hv
  obtain ⟨q1, ao, cap, rfl, k1, k2, -⟩ := hv
  by_cases hok : t.ok
  case neg =>
    rw [show openR t = (false, checkTrack t) from if_neg hok]
    have hct : checkTrack t ≠ 0 := fun h => hok (checkTrack_zero.1 h)
    have hcf : (checkTrack t == 0) = false := by simp [hct]
    have hcf2 : (checkTrack t != 0) = true := by simp [hct]
    obtain ⟨ct, hct9⟩ : ∃ ct, checkTrack t = ct := ⟨_, rfl⟩
    have K36 := Lib.hid (fun w' (h : SeensAt w' (.slice ao t.parts.length cap) t.parts) => w36 t _ w' h)
    rw [hct9] at hcf hcf2 K36 ⊢
    clear hct hct9
    go_enter Try.func39, Try.ntmps39
    go_wp2_with (first | (go_at_call 36; (with_reducible refine (K36.out _ (SeensAt.ext HV.out (by repeat (first | exact Ext.refl _ | assumption | refine Ext.alloc ?_ _ | refine Ext.drewN ?_ _ | refine ext_grow ?_ _ _ | refine Ext.setCell ?_ (by first | exact Nat.le_refl _ | omega | (simp; done) | (simp; omega)) _ | refine Ext.trans ?_ (by assumption))))).mono ?_); rintro E w1 ⟨rfl, hb1⟩; have A1 := Lib.hid (show At w1 [(w.heap.size, Obj.cells #[.int .i64 t.belt.step, .int .i64 t.belt.slip, .int .i64 t.belt.gate, .int .i64 t.belt.length, .int .i64 t.count, .int .i64 t.next, (.slice ao t.parts.length cap)] 47)] from At.ext hb1 (show At _ [(w.heap.size, Obj.cells #[.int .i64 t.belt.step, .int .i64 t.belt.slip, .int .i64 t.belt.gate, .int .i64 t.belt.length, .int .i64 t.count, .int .i64 t.next, (.slice ao t.parts.length cap)] 47)] from ⟨(by repeat (first | (refine blk_at _ _ ?_; (first | rfl | (simp only [size_one]; done))) | refine (blk_past _ _ (by simp only [size_one]; omega)).trans ?_)), trivial⟩)); have E1 := Lib.hid (((show Ext w _ from (by repeat (first | exact Ext.refl _ | assumption | refine Ext.alloc ?_ _ | refine Ext.drewN ?_ _ | refine ext_grow ?_ _ _ | refine Ext.setCell ?_ (by first | exact Nat.le_refl _ | omega | (simp; done) | (simp; omega)) _ | refine Ext.trans ?_ (by assumption))))).trans hb1); obtain ⟨⟨c1_0_0, c1_0_1, c1_0_2, c1_0_3, c1_0_4, c1_0_5, c1_0_6⟩, f1_0_0, f1_0_1, f1_0_2, f1_0_3, f1_0_4, f1_0_5, f1_0_6⟩ := run_7 (At.at A1.out 0 rfl); have s1_0 : w.heap.size < w1.heap.size := At.lt A1.out 0 rfl; have HS_1 := Lib.hid (SeensAt.ext ((SeensAt.ext HV.out (by repeat (first | exact Ext.refl _ | assumption | refine Ext.alloc ?_ _ | refine Ext.drewN ?_ _ | refine ext_grow ?_ _ _ | refine Ext.setCell ?_ (by first | exact Nat.le_refl _ | omega | (simp; done) | (simp; omega)) _ | refine Ext.trans ?_ (by assumption))))) hb1)))
    go_ret2
    exact ⟨rfl, E1.out⟩
  have K36 := Lib.hid (fun w' (h : SeensAt w' (.slice ao t.parts.length cap) t.parts) => w36 t _ w' h)
  rw [checkTrack_ok hok] at K36
  rw [show openR t = (openAt t (t.count + 1), 0) from if_pos hok]
  have K68 := Lib.hid (fun w' (h : SeensAt w' (.slice ao t.parts.length cap) t.parts) => w68 t _ (t.count + 1) w' h (PartsIn.of_ok hok))
  obtain ⟨s1, s2, -⟩ := hok.2.1
  obtain ⟨r, hr⟩ : ∃ r, openAt t (t.count + 1) = r := ⟨_, rfl⟩
  rw [hr] at K68 ⊢
  clear hr hok
  go_enter Try.func39, Try.ntmps39
  go_wp2_with (first | (have _q := E1.out; go_at_call 68; (with_reducible refine (K68.out _ HS_1.out).mono ?_); rintro E w2 ⟨rfl, hb2⟩; have A2 := Lib.hid (show At w2 [(w.heap.size, Obj.cells #[.int .i64 t.belt.step, .int .i64 t.belt.slip, .int .i64 t.belt.gate, .int .i64 t.belt.length, .int .i64 t.count, .int .i64 t.next, (.slice ao t.parts.length cap)] 47)] from At.ext hb2 A1.out); have E2 := Lib.hid ((E1.out).trans hb2); obtain ⟨⟨c2_0_0, c2_0_1, c2_0_2, c2_0_3, c2_0_4, c2_0_5, c2_0_6⟩, f2_0_0, f2_0_1, f2_0_2, f2_0_3, f2_0_4, f2_0_5, f2_0_6⟩ := run_7 (At.at A2.out 0 rfl); have s2_0 : w.heap.size < w2.heap.size := At.lt A2.out 0 rfl; (try clear c1_0_0 c1_0_1 c1_0_2 c1_0_3 c1_0_4 c1_0_5 c1_0_6 f1_0_0 f1_0_1 f1_0_2 f1_0_3 f1_0_4 f1_0_5 f1_0_6 s1_0); have HS_2 := Lib.hid (SeensAt.ext (HS_1.out) hb2)) | (go_at_call 36; (with_reducible refine (K36.out _ (SeensAt.ext HV.out (by repeat (first | exact Ext.refl _ | assumption | refine Ext.alloc ?_ _ | refine Ext.drewN ?_ _ | refine ext_grow ?_ _ _ | refine Ext.setCell ?_ (by first | exact Nat.le_refl _ | omega | (simp; done) | (simp; omega)) _ | refine Ext.trans ?_ (by assumption))))).mono ?_); rintro E w1 ⟨rfl, hb1⟩; have A1 := Lib.hid (show At w1 [(w.heap.size, Obj.cells #[.int .i64 t.belt.step, .int .i64 t.belt.slip, .int .i64 t.belt.gate, .int .i64 t.belt.length, .int .i64 t.count, .int .i64 t.next, (.slice ao t.parts.length cap)] 47)] from At.ext hb1 (show At _ [(w.heap.size, Obj.cells #[.int .i64 t.belt.step, .int .i64 t.belt.slip, .int .i64 t.belt.gate, .int .i64 t.belt.length, .int .i64 t.count, .int .i64 t.next, (.slice ao t.parts.length cap)] 47)] from ⟨(by repeat (first | (refine blk_at _ _ ?_; (first | rfl | (simp only [size_one]; done))) | refine (blk_past _ _ (by simp only [size_one]; omega)).trans ?_)), trivial⟩)); have E1 := Lib.hid (((show Ext w _ from (by repeat (first | exact Ext.refl _ | assumption | refine Ext.alloc ?_ _ | refine Ext.drewN ?_ _ | refine ext_grow ?_ _ _ | refine Ext.setCell ?_ (by first | exact Nat.le_refl _ | omega | (simp; done) | (simp; omega)) _ | refine Ext.trans ?_ (by assumption))))).trans hb1); obtain ⟨⟨c1_0_0, c1_0_1, c1_0_2, c1_0_3, c1_0_4, c1_0_5, c1_0_6⟩, f1_0_0, f1_0_1, f1_0_2, f1_0_3, f1_0_4, f1_0_5, f1_0_6⟩ := run_7 (At.at A1.out 0 rfl); have s1_0 : w.heap.size < w1.heap.size := At.lt A1.out 0 rfl; have HS_1 := Lib.hid (SeensAt.ext ((SeensAt.ext HV.out (by repeat (first | exact Ext.refl _ | assumption | refine Ext.alloc ?_ _ | refine Ext.drewN ?_ _ | refine ext_grow ?_ _ _ | refine Ext.setCell ?_ (by first | exact Nat.le_refl _ | omega | (simp; done) | (simp; omega)) _ | refine Ext.trans ?_ (by assumption))))) hb1)))
  go_ret2
  exact ⟨rfl, E2.out⟩
end Go.Proofs.Ytcbimfaneinpkaa
