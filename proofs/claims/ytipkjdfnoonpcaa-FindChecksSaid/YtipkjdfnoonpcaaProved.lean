/- 'proved': the walk. -/
import Derived.Test.YtipkjdfnoonpcaaCheckLaw
import Derived.Deep.RegionHeld3
import Derived.Deep.DrawnRows
import Derived.Maps.OwnSet
import Derived.Test.YtipkjdfnoonpcaaRefProv
set_option linter.unusedVariables false
set_option linter.unusedSimpArgs false
namespace Go.Proofs.Ytipkjdfnoonpcaa
open Go.RowKit Go.Sort
attribute [local go_sem ↓] Go.wp_at_zero Go.wp_at_succ

theorem has_of_atKey {D : DataW Unit} (hD : ∃ es, D = .map es) {k : Lit} {d : DataW Unit} (h : ∀ zd, D.atKey k zd = d) : Maps.has D k = true := by
  obtain ⟨es, rfl⟩ := hD
  rw [Maps.has_eq]
  cases hf : es.any (fun p => p.1.sameKey k)
  · exfalso
    have hn : es.find? (fun p => p.1.sameKey k) = none := by
      rw [List.find?_eq_none]
      intro x hx hx2
      rw [List.any_eq_false] at hf
      exact hf x hx hx2
    have key : ∀ z : DataW Unit, (DataW.map es).atKey k z = z := fun z => by
      simp only [DataW.atKey, hn]
    have a1 := (key (.lit (.int .i64 0))).symm.trans (h _)
    have a2 := (key (.lit (.int .i64 1))).symm.trans (h _)
    rw [← a2] at a1
    simp at a1
  · rfl
theorem CovAt.made' {w : World} {k : Nat} (hk : k = w.heap.size) (o : Obj) : CovAt ((w.alloc (.map #[] 0)).alloc o) k 0 (fun _ => 0) := by
  subst hk
  exact (CovAt.made w).kept (World.grownBy_alloc _ _ none) (by simp)
theorem At.caps1 {w : World} {k0 k1 k2 k3 k4 : Nat} {o0 o1 o2 o3 o4 : Obj} (h : At w [(k0, o0), (k1, o1), (k2, o2), (k3, o3), (k4, o4)]) : At w [(k1, o1), (k3, o3), (k4, o4)] := ⟨h.2.1, h.2.2.2.1, h.2.2.2.2.1, trivial⟩
theorem At.caps2 {w : World} {k0 k1 k2 k3 k4 k5 : Nat} {o0 o1 o2 o3 o4 o5 : Obj} (h : At w [(k0, o0), (k1, o1), (k2, o2), (k3, o3), (k4, o4), (k5, o5)]) : At w [(k2, o2), (k4, o4), (k5, o5)] := ⟨h.2.2.1, h.2.2.2.2.1, h.2.2.2.2.2.1, trivial⟩
set_option maxRecDepth 100000 in
set_option maxHeartbeats 32000000 in
theorem c73 (m : Img) (v : Value) (t : Tpl) (tv : Value) (limit : Int) (ms : List Match) (ar : List Area) (mv av : Value) (w : World) (hm : m.Camera) (ht : t.Ok) (hlim : 0 ≤ limit ∧ limit ≤ 16320) (hv : IntsAt w v m.pix) (htv : IntsAt w tv t.pix) (h1 : MatchesAt w mv ms) (h2 : AreasAt w av ar) (n1 : ms.length ≤ 13000) (n2 : ar.length ≤ 13000) :
    Calls Try.prog 73 #[imgVal m v, tplVal t tv, .int .i64 limit, searchVal mv av] w fun e w' => ∃ c, e = .returned (.bool c) ∧ (c = true ↔ Proved m t limit ms ar) ∧ Ext w w' := by
  have HV := Lib.hid hv
  have HTV := Lib.hid htv
  have HM := Lib.hid hm
  have HT := Lib.hid ht
  have HMS := Lib.hid h1
  have HAR := Lib.hid h2
  obtain ⟨mo, mc, rfl, -, -⟩ := hv.form
  obtain ⟨to, tc, rfl, -, -⟩ := htv.form
  obtain ⟨m1, mc1, rfl, -, hc1⟩ := h1.form
  obtain ⟨a1, ac1, rfl, -, hc2⟩ := h2.form
  have H1 := Lib.hid hc1
  have H2 := Lib.hid hc2
  obtain ⟨l1, l2⟩ := Img.len_bd hm.1
  obtain ⟨⟨w1', w2'⟩, ⟨w3', w4'⟩, -⟩ := hm.1
  unfold imgVal tplVal searchVal
  clear hv htv hm ht hc1 hc2 h1 h2
  have hmm := @run_makeMap Try.prog
  go_enter Try.func73, Try.ntmps73
  go_wp2
  go_loopw [23] (fun v wr => Hid (Ext w wr) ∧ Hid (At wr [(w.heap.size + 1 + 1 + 1 + 1, Obj.cells #[.map (some (w.heap.size + 1 + 1 + 1))] 142), (w.heap.size + 1 + 1, Obj.cells #[.slice m1 ms.length mc1, .slice a1 ar.length ac1] 63), (w.heap.size + 1, Obj.cells #[.int .i64 t.w, .int .i64 t.h, .slice to t.pix.length tc] 43), (w.heap.size, Obj.cells #[.int .i64 m.w, .int .i64 m.h, .slice mo m.pix.length mc] 24)]) ∧ ∃ i n : Nat, i ≤ ms.length ∧ n ≤ 256 * i ∧ v = .int .i64 (i : Int) ∧ Hid (∀ x ∈ ms.take i, MatchOk m t limit x) ∧ Hid (CovAt wr (w.heap.size + 1 + 1 + 1) n (fun p => hits (ms.take i) p))) (fun v _ => ms.length - (intOf v).toNat)
  case atStart => exact ⟨Lib.hid (by repeat (first | exact Ext.refl _ | assumption | refine Ext.alloc ?_ _ | refine Ext.drewN ?_ _ | refine ext_grow ?_ _ _ | refine Ext.trans ?_ (by assumption))), Lib.hid ⟨(by repeat (first | (refine blk_at _ _ ?_; (first | rfl | (simp only [size_one]; done))) | refine (blk_past _ _ (by simp only [size_one]; omega)).trans ?_)), (by repeat (first | (refine blk_at _ _ ?_; (first | rfl | (simp only [size_one]; done))) | refine (blk_past _ _ (by simp only [size_one]; omega)).trans ?_)), (by repeat (first | (refine blk_at _ _ ?_; (first | rfl | (simp only [size_one]; done))) | refine (blk_past _ _ (by simp only [size_one]; omega)).trans ?_)), (by repeat (first | (refine blk_at _ _ ?_; (first | rfl | (simp only [size_one]; done))) | refine (blk_past _ _ (by simp only [size_one]; omega)).trans ?_)), trivial⟩, 0, 0, Nat.zero_le _, Nat.zero_le _, rfl, Lib.hid (fun x hx => by simp at hx), Lib.hid (CovAt.made' (by simp) _)⟩
  case round =>
    obtain ⟨hE, hA, i, n, hi, hn, rfl, hI, hC⟩ := hrel
    obtain ⟨z00, -⟩ := run_1 (At.at hA.out 0 rfl)
    obtain ⟨⟨z10, z11⟩, -⟩ := run_2 (At.at hA.out 1 rfl)
    obtain ⟨⟨z20, z21, z22⟩, -⟩ := run_3 (At.at hA.out 2 rfl)
    obtain ⟨⟨z30, z31, z32⟩, -⟩ := run_3 (At.at hA.out 3 rfl)
    have zz0 := At.lt hA.out 0 rfl
    have zy0 := Nat.lt_succ_of_lt zz0
    have zx0 := Nat.lt_succ_of_lt zy0
    have zz1 := At.lt hA.out 1 rfl
    have zy1 := Nat.lt_succ_of_lt zz1
    have zx1 := Nat.lt_succ_of_lt zy1
    have zz2 := At.lt hA.out 2 rfl
    have zy2 := Nat.lt_succ_of_lt zz2
    have zx2 := Nat.lt_succ_of_lt zy2
    have zz3 := At.lt hA.out 3 rfl
    have zy3 := Nat.lt_succ_of_lt zz3
    have zx3 := Nat.lt_succ_of_lt zy3
    by_cases hil : i < ms.length
    · obtain ⟨bo, off, rfl, x0, x1, x2, x3, x4⟩ := H1.out i hil
      have HMEM := Lib.hid (getD_mem_at match0 hil)
      obtain ⟨x, hx⟩ : ∃ x, ms.getD i match0 = x := ⟨_, rfl⟩
      rw [hx] at x0 x1 x2 x3 x4 HMEM
      have HX := Lib.hid hx
      clear hx
      replace x0 := hE.out.get x0
      replace x1 := hE.out.get x1
      replace x2 := hE.out.get x2
      replace x3 := hE.out.get x3
      replace x4 := hE.out.get x4
      have zx := World.block_lt_of_cell? _ _ x0
      simp only at zx
      have hili : (i : Int) < (ms.length : Int) := by omega
      have K63 := Lib.hid (fun w' => c63 x.pose w')
      have K68 := Lib.hid (fun w' => c68 m (.slice mo m.pix.length mc) x.pose.area w' HM.out.1 ⟨_, _, _, rfl⟩)
      unfold poseVal areaVal Pose.area at K63
      unfold imgVal areaVal at K68
      have hab : x.pose.area = ⟨x.pose.x, x.pose.y, x.pose.x, x.pose.y, x.pose.turn, x.pose.scale⟩ := rfl
      simp only [hab] at K68
      by_cases g0 : x.pose.area.Ok m
      case neg =>
        have q0 : decide (Area.Ok m ⟨x.pose.x, x.pose.y, x.pose.x, x.pose.y, x.pose.turn, x.pose.scale⟩) = false := decide_eq_false g0
        rw [q0] at K68
        have HR := Lib.hid (show ¬ Proved m t limit ms ar from fun h => by have h9 := h.1 _ HMEM.out; exact g0 h9.1)
        go_wp2_with (go_at_call 63; (with_reducible refine (K63.out _).mono ?_); rintro E w1 ⟨rfl, hb1⟩; have A1 := Lib.hid (show At w1 [(wr.heap.size, Obj.cells #[.int .i64 x.pose.x, .int .i64 x.pose.y, .int .i64 x.pose.turn, .int .i64 x.pose.scale, .int .i64 x.dist] 80), (w.heap.size + 1 + 1 + 1 + 1, Obj.cells #[.map (some (w.heap.size + 1 + 1 + 1))] 142), (w.heap.size + 1 + 1, Obj.cells #[.slice (some ⟨bo, off, none⟩) ms.length mc1, .slice a1 ar.length ac1] 63), (w.heap.size + 1, Obj.cells #[.int .i64 t.w, .int .i64 t.h, .slice to t.pix.length tc] 43), (w.heap.size, Obj.cells #[.int .i64 m.w, .int .i64 m.h, .slice mo m.pix.length mc] 24)] from At.ext hb1 ⟨blk_at _ _ rfl, At.alloc hA.out _⟩); have E1 := Lib.hid (show Ext w w1 from (hE.out.alloc _).trans hb1); have C1 := Lib.hid ((hC.out.ext ((Ext.refl _).alloc _)).ext hb1); obtain ⟨⟨y00, y01, y02, y03, y04⟩, -⟩ := run_5 (At.at A1.out 0 rfl); obtain ⟨y10, -⟩ := run_1 (At.at A1.out 1 rfl); obtain ⟨⟨y20, y21⟩, -⟩ := run_2 (At.at A1.out 2 rfl); obtain ⟨⟨y30, y31, y32⟩, -⟩ := run_3 (At.at A1.out 3 rfl); obtain ⟨⟨y40, y41, y42⟩, -⟩ := run_3 (At.at A1.out 4 rfl); have yz0 := At.lt A1.out 0 rfl; have yy0 := Nat.lt_succ_of_lt yz0; have yx0 := Nat.lt_succ_of_lt yy0; have yz1 := At.lt A1.out 1 rfl; have yy1 := Nat.lt_succ_of_lt yz1; have yx1 := Nat.lt_succ_of_lt yy1; have yz2 := At.lt A1.out 2 rfl; have yy2 := Nat.lt_succ_of_lt yz2; have yx2 := Nat.lt_succ_of_lt yy2; have yz3 := At.lt A1.out 3 rfl; have yy3 := Nat.lt_succ_of_lt yz3; have yx3 := Nat.lt_succ_of_lt yy3; have yz4 := At.lt A1.out 4 rfl; have yy4 := Nat.lt_succ_of_lt yz4; have yx4 := Nat.lt_succ_of_lt yy4)
        refine wp_region_quiet_below (by kernel_rfl) (by kernel_rfl) ?_
        repeat (go_big_quiet_step ((go_at_call 68; with_reducible exact Calls.ext_of (K68.out _))))
        refine wpQuiet_nil ?_
        intro w6 hw'
        obtain ⟨pq, hw''⟩ := hw'
        have hbw6 := ext_of_regrown hw''
        clear hw'' pq
        go_wp2
        go_ret
        first | exact ⟨false, rfl, ⟨fun h => (by cases h), fun h => absurd h HR.out⟩, (E1.out.alloc _).trans hbw6⟩ | exact .inl ⟨rfl, HR.out, (E1.out.alloc _).trans hbw6⟩
      have q0 : decide (Area.Ok m ⟨x.pose.x, x.pose.y, x.pose.x, x.pose.y, x.pose.turn, x.pose.scale⟩) = true := decide_eq_true g0
      rw [q0] at K68
      by_cases g1 : limit < x.dist
      · have q1 : decide (limit < x.dist) = true := decide_eq_true g1
        have HR := Lib.hid (show ¬ Proved m t limit ms ar from fun h => by have h9 := h.1 _ HMEM.out; exact absurd h9.2.1 (by omega))
        go_wp2_with (go_at_call 63; (with_reducible refine (K63.out _).mono ?_); rintro E w1 ⟨rfl, hb1⟩; have A1 := Lib.hid (show At w1 [(wr.heap.size, Obj.cells #[.int .i64 x.pose.x, .int .i64 x.pose.y, .int .i64 x.pose.turn, .int .i64 x.pose.scale, .int .i64 x.dist] 80), (w.heap.size + 1 + 1 + 1 + 1, Obj.cells #[.map (some (w.heap.size + 1 + 1 + 1))] 142), (w.heap.size + 1 + 1, Obj.cells #[.slice (some ⟨bo, off, none⟩) ms.length mc1, .slice a1 ar.length ac1] 63), (w.heap.size + 1, Obj.cells #[.int .i64 t.w, .int .i64 t.h, .slice to t.pix.length tc] 43), (w.heap.size, Obj.cells #[.int .i64 m.w, .int .i64 m.h, .slice mo m.pix.length mc] 24)] from At.ext hb1 ⟨blk_at _ _ rfl, At.alloc hA.out _⟩); have E1 := Lib.hid (show Ext w w1 from (hE.out.alloc _).trans hb1); have C1 := Lib.hid ((hC.out.ext ((Ext.refl _).alloc _)).ext hb1); obtain ⟨⟨y00, y01, y02, y03, y04⟩, -⟩ := run_5 (At.at A1.out 0 rfl); obtain ⟨y10, -⟩ := run_1 (At.at A1.out 1 rfl); obtain ⟨⟨y20, y21⟩, -⟩ := run_2 (At.at A1.out 2 rfl); obtain ⟨⟨y30, y31, y32⟩, -⟩ := run_3 (At.at A1.out 3 rfl); obtain ⟨⟨y40, y41, y42⟩, -⟩ := run_3 (At.at A1.out 4 rfl); have yz0 := At.lt A1.out 0 rfl; have yy0 := Nat.lt_succ_of_lt yz0; have yx0 := Nat.lt_succ_of_lt yy0; have yz1 := At.lt A1.out 1 rfl; have yy1 := Nat.lt_succ_of_lt yz1; have yx1 := Nat.lt_succ_of_lt yy1; have yz2 := At.lt A1.out 2 rfl; have yy2 := Nat.lt_succ_of_lt yz2; have yx2 := Nat.lt_succ_of_lt yy2; have yz3 := At.lt A1.out 3 rfl; have yy3 := Nat.lt_succ_of_lt yz3; have yx3 := Nat.lt_succ_of_lt yy3; have yz4 := At.lt A1.out 4 rfl; have yy4 := Nat.lt_succ_of_lt yz4; have yx4 := Nat.lt_succ_of_lt yy4)
        refine wp_region_quiet_below (by kernel_rfl) (by kernel_rfl) ?_
        repeat (go_big_quiet_step ((go_at_call 68; with_reducible exact Calls.ext_of (K68.out _))))
        refine wpQuiet_nil ?_
        intro w6 hw'
        obtain ⟨pq, hw''⟩ := hw'
        have hbw6 := ext_of_regrown hw''
        clear hw'' pq
        go_wp2
        go_ret
        first | exact ⟨false, rfl, ⟨fun h => (by cases h), fun h => absurd h HR.out⟩, (E1.out.alloc _).trans hbw6⟩ | exact .inl ⟨rfl, HR.out, (E1.out.alloc _).trans hbw6⟩
      have q1 : decide (limit < x.dist) = false := decide_eq_false g1
      have K100 := Lib.hid (fun n' w' (h : Ext w w') (hc : CovAt w' (w.heap.size + 1 + 1 + 1) n' (fun p => hits (ms.take i) p)) (ha : At w' [(w.heap.size + 1 + 1 + 1 + 1, Obj.cells #[.map (some (w.heap.size + 1 + 1 + 1))] 142), (w.heap.size + 1, Obj.cells #[.int .i64 t.w, .int .i64 t.h, .slice to t.pix.length tc] 43), (w.heap.size, Obj.cells #[.int .i64 m.w, .int .i64 m.h, .slice mo m.pix.length mc] 24)]) (hn : n' ≤ 1000000000) => c100 m (.slice mo m.pix.length mc) t (.slice to t.pix.length tc) x.pose.area w w' (w.heap.size + 1 + 1 + 1) n' 13000 (w.heap.size + 1 + 1 + 1 + 1) (w.heap.size + 1) (w.heap.size) (fun p => hits (ms.take i) p) HM.out HT.out HV.out HTV.out g0 h (by omega) hc ha ⟨by omega, by omega, by omega⟩ hn (fun p => Nat.le_trans (hits_le _ _) (by rw [List.length_take]; omega)) (by omega))
      obtain ⟨bd, hbd⟩ : ∃ bd, bound m t x.pose.area = bd := ⟨_, rfl⟩
      simp only [hbd, hits_step hil HX.out] at K100
      unfold areaVal at K100
      simp only [hab] at K100
      have HB := Lib.hid hbd
      clear hbd q0 hab
      by_cases g2 : bd = x.dist
      case neg =>
        have q2 : (bd != x.dist) = true := by simpa using g2
        have HR := Lib.hid (show ¬ Proved m t limit ms ar from fun h => g2 (HB.out.symm.trans (h.1 _ HMEM.out).2.2))
        go_wp2_with (go_at_call 63; (with_reducible refine (K63.out _).mono ?_); rintro E w1 ⟨rfl, hb1⟩; have A1 := Lib.hid (show At w1 [(wr.heap.size, Obj.cells #[.int .i64 x.pose.x, .int .i64 x.pose.y, .int .i64 x.pose.turn, .int .i64 x.pose.scale, .int .i64 x.dist] 80), (w.heap.size + 1 + 1 + 1 + 1, Obj.cells #[.map (some (w.heap.size + 1 + 1 + 1))] 142), (w.heap.size + 1 + 1, Obj.cells #[.slice (some ⟨bo, off, none⟩) ms.length mc1, .slice a1 ar.length ac1] 63), (w.heap.size + 1, Obj.cells #[.int .i64 t.w, .int .i64 t.h, .slice to t.pix.length tc] 43), (w.heap.size, Obj.cells #[.int .i64 m.w, .int .i64 m.h, .slice mo m.pix.length mc] 24)] from At.ext hb1 ⟨blk_at _ _ rfl, At.alloc hA.out _⟩); have E1 := Lib.hid (show Ext w w1 from (hE.out.alloc _).trans hb1); have C1 := Lib.hid ((hC.out.ext ((Ext.refl _).alloc _)).ext hb1); obtain ⟨⟨y00, y01, y02, y03, y04⟩, -⟩ := run_5 (At.at A1.out 0 rfl); obtain ⟨y10, -⟩ := run_1 (At.at A1.out 1 rfl); obtain ⟨⟨y20, y21⟩, -⟩ := run_2 (At.at A1.out 2 rfl); obtain ⟨⟨y30, y31, y32⟩, -⟩ := run_3 (At.at A1.out 3 rfl); obtain ⟨⟨y40, y41, y42⟩, -⟩ := run_3 (At.at A1.out 4 rfl); have yz0 := At.lt A1.out 0 rfl; have yy0 := Nat.lt_succ_of_lt yz0; have yx0 := Nat.lt_succ_of_lt yy0; have yz1 := At.lt A1.out 1 rfl; have yy1 := Nat.lt_succ_of_lt yz1; have yx1 := Nat.lt_succ_of_lt yy1; have yz2 := At.lt A1.out 2 rfl; have yy2 := Nat.lt_succ_of_lt yz2; have yx2 := Nat.lt_succ_of_lt yy2; have yz3 := At.lt A1.out 3 rfl; have yy3 := Nat.lt_succ_of_lt yz3; have yx3 := Nat.lt_succ_of_lt yy3; have yz4 := At.lt A1.out 4 rfl; have yy4 := Nat.lt_succ_of_lt yz4; have yx4 := Nat.lt_succ_of_lt yy4)
        have A7 := Lib.hid (show At (w1.alloc (Obj.cells #[.int .i64 x.pose.x, .int .i64 x.pose.y, .int .i64 x.pose.x, .int .i64 x.pose.y, .int .i64 x.pose.turn, .int .i64 x.pose.scale] 47)) [(w1.heap.size, Obj.cells #[.int .i64 x.pose.x, .int .i64 x.pose.y, .int .i64 x.pose.x, .int .i64 x.pose.y, .int .i64 x.pose.turn, .int .i64 x.pose.scale] 47), (wr.heap.size, Obj.cells #[.int .i64 x.pose.x, .int .i64 x.pose.y, .int .i64 x.pose.turn, .int .i64 x.pose.scale, .int .i64 x.dist] 80), (w.heap.size + 1 + 1 + 1 + 1, Obj.cells #[.map (some (w.heap.size + 1 + 1 + 1))] 142), (w.heap.size + 1 + 1, Obj.cells #[.slice (some ⟨bo, off, none⟩) ms.length mc1, .slice a1 ar.length ac1] 63), (w.heap.size + 1, Obj.cells #[.int .i64 t.w, .int .i64 t.h, .slice to t.pix.length tc] 43), (w.heap.size, Obj.cells #[.int .i64 m.w, .int .i64 m.h, .slice mo m.pix.length mc] 24)] from ⟨blk_at _ _ rfl, At.alloc A1.out _⟩)
        have E7 := Lib.hid (E1.out.alloc (Obj.cells #[.int .i64 x.pose.x, .int .i64 x.pose.y, .int .i64 x.pose.x, .int .i64 x.pose.y, .int .i64 x.pose.turn, .int .i64 x.pose.scale] 47))
        have C7 := Lib.hid (C1.out.ext ((Ext.refl _).alloc (Obj.cells #[.int .i64 x.pose.x, .int .i64 x.pose.y, .int .i64 x.pose.x, .int .i64 x.pose.y, .int .i64 x.pose.turn, .int .i64 x.pose.scale] 47)))
        obtain ⟨w7, hw7⟩ : ∃ w7, w1.alloc (Obj.cells #[.int .i64 x.pose.x, .int .i64 x.pose.y, .int .i64 x.pose.x, .int .i64 x.pose.y, .int .i64 x.pose.turn, .int .i64 x.pose.scale] 47) = w7 := ⟨_, rfl⟩
        rw [hw7] at A7 E7 C7 ⊢
        clear hw7
        obtain ⟨⟨z00, z01, z02, z03, z04, z05⟩, -⟩ := run_6 (At.at A7.out 0 rfl)
        obtain ⟨⟨z10, z11, z12, z13, z14⟩, -⟩ := run_5 (At.at A7.out 1 rfl)
        obtain ⟨z20, -⟩ := run_1 (At.at A7.out 2 rfl)
        obtain ⟨⟨z30, z31⟩, -⟩ := run_2 (At.at A7.out 3 rfl)
        obtain ⟨⟨z40, z41, z42⟩, -⟩ := run_3 (At.at A7.out 4 rfl)
        obtain ⟨⟨z50, z51, z52⟩, -⟩ := run_3 (At.at A7.out 5 rfl)
        have zz0 := At.lt A7.out 0 rfl
        have zy0 := Nat.lt_succ_of_lt zz0
        have zx0 := Nat.lt_succ_of_lt zy0
        have zz1 := At.lt A7.out 1 rfl
        have zy1 := Nat.lt_succ_of_lt zz1
        have zx1 := Nat.lt_succ_of_lt zy1
        have zz2 := At.lt A7.out 2 rfl
        have zy2 := Nat.lt_succ_of_lt zz2
        have zx2 := Nat.lt_succ_of_lt zy2
        have zz3 := At.lt A7.out 3 rfl
        have zy3 := Nat.lt_succ_of_lt zz3
        have zx3 := Nat.lt_succ_of_lt zy3
        have zz4 := At.lt A7.out 4 rfl
        have zy4 := Nat.lt_succ_of_lt zz4
        have zx4 := Nat.lt_succ_of_lt zy4
        have zz5 := At.lt A7.out 5 rfl
        have zy5 := Nat.lt_succ_of_lt zz5
        have zx5 := Nat.lt_succ_of_lt zy5
        go_region_held3 (fun w' => w'.cell? ⟨w1.heap.size, 0, none⟩ = some (.int .i64 x.pose.x) ∧ w'.cell? ⟨w1.heap.size, 1, none⟩ = some (.int .i64 x.pose.y) ∧ w'.cell? ⟨w1.heap.size, 2, none⟩ = some (.int .i64 x.pose.x) ∧ w'.cell? ⟨w1.heap.size, 3, none⟩ = some (.int .i64 x.pose.y) ∧ w'.cell? ⟨w1.heap.size, 4, none⟩ = some (.int .i64 x.pose.turn) ∧ w'.cell? ⟨w1.heap.size, 5, none⟩ = some (.int .i64 x.pose.scale) ∧ w'.cell? ⟨wr.heap.size, 4, none⟩ = some (.int .i64 x.dist) ∧ w'.cell? ⟨w.heap.size, 0, none⟩ = some (.int .i64 m.w) ∧ w'.cell? ⟨w.heap.size, 1, none⟩ = some (.int .i64 m.h) ∧ w'.cell? ⟨w.heap.size, 2, none⟩ = some (.slice mo m.pix.length mc)) ((repeat' apply And.intro) <;> first | assumption | go_keep) (first | (have _q := E8; go_at_call 100; (with_reducible refine (K100.out _ _ E8.out C8.out (At.caps2 (A8.out)) (by omega)).mono ?_); rintro E w9 ⟨rfl, hC9, hg9⟩; have A9 := Lib.hid (show At w9 [(w1.heap.size, Obj.cells #[.int .i64 x.pose.x, .int .i64 x.pose.y, .int .i64 x.pose.x, .int .i64 x.pose.y, .int .i64 x.pose.turn, .int .i64 x.pose.scale] 47), (wr.heap.size, Obj.cells #[.int .i64 x.pose.x, .int .i64 x.pose.y, .int .i64 x.pose.turn, .int .i64 x.pose.scale, .int .i64 x.dist] 80), (w.heap.size + 1 + 1 + 1 + 1, Obj.cells #[.map (some (w.heap.size + 1 + 1 + 1))] 142), (w.heap.size + 1 + 1, Obj.cells #[.slice (some ⟨bo, off, none⟩) ms.length mc1, .slice a1 ar.length ac1] 63), (w.heap.size + 1, Obj.cells #[.int .i64 t.w, .int .i64 t.h, .slice to t.pix.length tc] 43), (w.heap.size, Obj.cells #[.int .i64 m.w, .int .i64 m.h, .slice mo m.pix.length mc] 24)] from At.grown hg9 A8.out (by intro k hk; simp only [List.map_cons, List.map_nil, List.mem_cons, List.not_mem_nil, or_false] at hk; rcases hk with rfl | rfl | rfl | rfl | rfl | rfl <;> simp <;> omega)); have E9 := Lib.hid (E8.out.grown hg9 (fun k hk => by cases hk; omega)); have C9 := Lib.hid hC9; clear hC9; obtain ⟨⟨v00, v01, v02, v03, v04, v05⟩, -⟩ := run_6 (At.at A9.out 0 rfl); obtain ⟨⟨v10, v11, v12, v13, v14⟩, -⟩ := run_5 (At.at A9.out 1 rfl); obtain ⟨v20, -⟩ := run_1 (At.at A9.out 2 rfl); obtain ⟨⟨v30, v31⟩, -⟩ := run_2 (At.at A9.out 3 rfl); obtain ⟨⟨v40, v41, v42⟩, -⟩ := run_3 (At.at A9.out 4 rfl); obtain ⟨⟨v50, v51, v52⟩, -⟩ := run_3 (At.at A9.out 5 rfl); have vz0 := At.lt A9.out 0 rfl; have vy0 := Nat.lt_succ_of_lt vz0; have vx0 := Nat.lt_succ_of_lt vy0; have vz1 := At.lt A9.out 1 rfl; have vy1 := Nat.lt_succ_of_lt vz1; have vx1 := Nat.lt_succ_of_lt vy1; have vz2 := At.lt A9.out 2 rfl; have vy2 := Nat.lt_succ_of_lt vz2; have vx2 := Nat.lt_succ_of_lt vy2; have vz3 := At.lt A9.out 3 rfl; have vy3 := Nat.lt_succ_of_lt vz3; have vx3 := Nat.lt_succ_of_lt vy3; have vz4 := At.lt A9.out 4 rfl; have vy4 := Nat.lt_succ_of_lt vz4; have vx4 := Nat.lt_succ_of_lt vy4; have vz5 := At.lt A9.out 5 rfl; have vy5 := Nat.lt_succ_of_lt vz5; have vx5 := Nat.lt_succ_of_lt vy5) | (go_at_call 68; (with_reducible refine (K68.out _).mono ?_); rintro E w8 ⟨rfl, hb8⟩; have A8 := Lib.hid (show At w8 [(w1.heap.size, Obj.cells #[.int .i64 x.pose.x, .int .i64 x.pose.y, .int .i64 x.pose.x, .int .i64 x.pose.y, .int .i64 x.pose.turn, .int .i64 x.pose.scale] 47), (wr.heap.size, Obj.cells #[.int .i64 x.pose.x, .int .i64 x.pose.y, .int .i64 x.pose.turn, .int .i64 x.pose.scale, .int .i64 x.dist] 80), (w.heap.size + 1 + 1 + 1 + 1, Obj.cells #[.map (some (w.heap.size + 1 + 1 + 1))] 142), (w.heap.size + 1 + 1, Obj.cells #[.slice (some ⟨bo, off, none⟩) ms.length mc1, .slice a1 ar.length ac1] 63), (w.heap.size + 1, Obj.cells #[.int .i64 t.w, .int .i64 t.h, .slice to t.pix.length tc] 43), (w.heap.size, Obj.cells #[.int .i64 m.w, .int .i64 m.h, .slice mo m.pix.length mc] 24)] from At.ext hb8 (At.drew A7.out)); have E8 := Lib.hid (show Ext w w8 from E7.out.drew.trans hb8); have C8 := Lib.hid ((C7.out.ext (Ext.refl _).drew).ext hb8); obtain ⟨⟨u00, u01, u02, u03, u04, u05⟩, -⟩ := run_6 (At.at A8.out 0 rfl); obtain ⟨⟨u10, u11, u12, u13, u14⟩, -⟩ := run_5 (At.at A8.out 1 rfl); obtain ⟨u20, -⟩ := run_1 (At.at A8.out 2 rfl); obtain ⟨⟨u30, u31⟩, -⟩ := run_2 (At.at A8.out 3 rfl); obtain ⟨⟨u40, u41, u42⟩, -⟩ := run_3 (At.at A8.out 4 rfl); obtain ⟨⟨u50, u51, u52⟩, -⟩ := run_3 (At.at A8.out 5 rfl); have uz0 := At.lt A8.out 0 rfl; have uy0 := Nat.lt_succ_of_lt uz0; have ux0 := Nat.lt_succ_of_lt uy0; have uz1 := At.lt A8.out 1 rfl; have uy1 := Nat.lt_succ_of_lt uz1; have ux1 := Nat.lt_succ_of_lt uy1; have uz2 := At.lt A8.out 2 rfl; have uy2 := Nat.lt_succ_of_lt uz2; have ux2 := Nat.lt_succ_of_lt uy2; have uz3 := At.lt A8.out 3 rfl; have uy3 := Nat.lt_succ_of_lt uz3; have ux3 := Nat.lt_succ_of_lt uy3; have uz4 := At.lt A8.out 4 rfl; have uy4 := Nat.lt_succ_of_lt uz4; have ux4 := Nat.lt_succ_of_lt uy4; have uz5 := At.lt A8.out 5 rfl; have uy5 := Nat.lt_succ_of_lt uz5; have ux5 := Nat.lt_succ_of_lt uy5))
        all_goals go_wp2
        all_goals go_ret
        all_goals (first | exact ⟨false, rfl, ⟨fun h => (by cases h), fun h => absurd h HR.out⟩, E9.out⟩ | exact .inl ⟨rfl, HR.out, E9.out⟩)
      have q2 : (bd != x.dist) = false := by simpa using g2
      have HS := Lib.hid (show ∀ y ∈ ms.take (i + 1), MatchOk m t limit y by
        rw [take_snoc_at match0 hil, HX.out]
        intro y hy
        rcases List.mem_append.1 hy with hy | hy
        · exact hI.out y hy
        · rw [List.mem_singleton.1 hy]
          exact ⟨g0, by omega, HB.out.trans g2⟩)
      go_wp2_with (go_at_call 63; (with_reducible refine (K63.out _).mono ?_); rintro E w1 ⟨rfl, hb1⟩; have A1 := Lib.hid (show At w1 [(wr.heap.size, Obj.cells #[.int .i64 x.pose.x, .int .i64 x.pose.y, .int .i64 x.pose.turn, .int .i64 x.pose.scale, .int .i64 x.dist] 80), (w.heap.size + 1 + 1 + 1 + 1, Obj.cells #[.map (some (w.heap.size + 1 + 1 + 1))] 142), (w.heap.size + 1 + 1, Obj.cells #[.slice (some ⟨bo, off, none⟩) ms.length mc1, .slice a1 ar.length ac1] 63), (w.heap.size + 1, Obj.cells #[.int .i64 t.w, .int .i64 t.h, .slice to t.pix.length tc] 43), (w.heap.size, Obj.cells #[.int .i64 m.w, .int .i64 m.h, .slice mo m.pix.length mc] 24)] from At.ext hb1 ⟨blk_at _ _ rfl, At.alloc hA.out _⟩); have E1 := Lib.hid (show Ext w w1 from (hE.out.alloc _).trans hb1); have C1 := Lib.hid ((hC.out.ext ((Ext.refl _).alloc _)).ext hb1); obtain ⟨⟨y00, y01, y02, y03, y04⟩, -⟩ := run_5 (At.at A1.out 0 rfl); obtain ⟨y10, -⟩ := run_1 (At.at A1.out 1 rfl); obtain ⟨⟨y20, y21⟩, -⟩ := run_2 (At.at A1.out 2 rfl); obtain ⟨⟨y30, y31, y32⟩, -⟩ := run_3 (At.at A1.out 3 rfl); obtain ⟨⟨y40, y41, y42⟩, -⟩ := run_3 (At.at A1.out 4 rfl); have yz0 := At.lt A1.out 0 rfl; have yy0 := Nat.lt_succ_of_lt yz0; have yx0 := Nat.lt_succ_of_lt yy0; have yz1 := At.lt A1.out 1 rfl; have yy1 := Nat.lt_succ_of_lt yz1; have yx1 := Nat.lt_succ_of_lt yy1; have yz2 := At.lt A1.out 2 rfl; have yy2 := Nat.lt_succ_of_lt yz2; have yx2 := Nat.lt_succ_of_lt yy2; have yz3 := At.lt A1.out 3 rfl; have yy3 := Nat.lt_succ_of_lt yz3; have yx3 := Nat.lt_succ_of_lt yy3; have yz4 := At.lt A1.out 4 rfl; have yy4 := Nat.lt_succ_of_lt yz4; have yx4 := Nat.lt_succ_of_lt yy4)
      have A7 := Lib.hid (show At (w1.alloc (Obj.cells #[.int .i64 x.pose.x, .int .i64 x.pose.y, .int .i64 x.pose.x, .int .i64 x.pose.y, .int .i64 x.pose.turn, .int .i64 x.pose.scale] 47)) [(w1.heap.size, Obj.cells #[.int .i64 x.pose.x, .int .i64 x.pose.y, .int .i64 x.pose.x, .int .i64 x.pose.y, .int .i64 x.pose.turn, .int .i64 x.pose.scale] 47), (wr.heap.size, Obj.cells #[.int .i64 x.pose.x, .int .i64 x.pose.y, .int .i64 x.pose.turn, .int .i64 x.pose.scale, .int .i64 x.dist] 80), (w.heap.size + 1 + 1 + 1 + 1, Obj.cells #[.map (some (w.heap.size + 1 + 1 + 1))] 142), (w.heap.size + 1 + 1, Obj.cells #[.slice (some ⟨bo, off, none⟩) ms.length mc1, .slice a1 ar.length ac1] 63), (w.heap.size + 1, Obj.cells #[.int .i64 t.w, .int .i64 t.h, .slice to t.pix.length tc] 43), (w.heap.size, Obj.cells #[.int .i64 m.w, .int .i64 m.h, .slice mo m.pix.length mc] 24)] from ⟨blk_at _ _ rfl, At.alloc A1.out _⟩)
      have E7 := Lib.hid (E1.out.alloc (Obj.cells #[.int .i64 x.pose.x, .int .i64 x.pose.y, .int .i64 x.pose.x, .int .i64 x.pose.y, .int .i64 x.pose.turn, .int .i64 x.pose.scale] 47))
      have C7 := Lib.hid (C1.out.ext ((Ext.refl _).alloc (Obj.cells #[.int .i64 x.pose.x, .int .i64 x.pose.y, .int .i64 x.pose.x, .int .i64 x.pose.y, .int .i64 x.pose.turn, .int .i64 x.pose.scale] 47)))
      obtain ⟨w7, hw7⟩ : ∃ w7, w1.alloc (Obj.cells #[.int .i64 x.pose.x, .int .i64 x.pose.y, .int .i64 x.pose.x, .int .i64 x.pose.y, .int .i64 x.pose.turn, .int .i64 x.pose.scale] 47) = w7 := ⟨_, rfl⟩
      rw [hw7] at A7 E7 C7 ⊢
      clear hw7
      obtain ⟨⟨z00, z01, z02, z03, z04, z05⟩, -⟩ := run_6 (At.at A7.out 0 rfl)
      obtain ⟨⟨z10, z11, z12, z13, z14⟩, -⟩ := run_5 (At.at A7.out 1 rfl)
      obtain ⟨z20, -⟩ := run_1 (At.at A7.out 2 rfl)
      obtain ⟨⟨z30, z31⟩, -⟩ := run_2 (At.at A7.out 3 rfl)
      obtain ⟨⟨z40, z41, z42⟩, -⟩ := run_3 (At.at A7.out 4 rfl)
      obtain ⟨⟨z50, z51, z52⟩, -⟩ := run_3 (At.at A7.out 5 rfl)
      have zz0 := At.lt A7.out 0 rfl
      have zy0 := Nat.lt_succ_of_lt zz0
      have zx0 := Nat.lt_succ_of_lt zy0
      have zz1 := At.lt A7.out 1 rfl
      have zy1 := Nat.lt_succ_of_lt zz1
      have zx1 := Nat.lt_succ_of_lt zy1
      have zz2 := At.lt A7.out 2 rfl
      have zy2 := Nat.lt_succ_of_lt zz2
      have zx2 := Nat.lt_succ_of_lt zy2
      have zz3 := At.lt A7.out 3 rfl
      have zy3 := Nat.lt_succ_of_lt zz3
      have zx3 := Nat.lt_succ_of_lt zy3
      have zz4 := At.lt A7.out 4 rfl
      have zy4 := Nat.lt_succ_of_lt zz4
      have zx4 := Nat.lt_succ_of_lt zy4
      have zz5 := At.lt A7.out 5 rfl
      have zy5 := Nat.lt_succ_of_lt zz5
      have zx5 := Nat.lt_succ_of_lt zy5
      go_region_held3 (fun w' => w'.cell? ⟨w1.heap.size, 0, none⟩ = some (.int .i64 x.pose.x) ∧ w'.cell? ⟨w1.heap.size, 1, none⟩ = some (.int .i64 x.pose.y) ∧ w'.cell? ⟨w1.heap.size, 2, none⟩ = some (.int .i64 x.pose.x) ∧ w'.cell? ⟨w1.heap.size, 3, none⟩ = some (.int .i64 x.pose.y) ∧ w'.cell? ⟨w1.heap.size, 4, none⟩ = some (.int .i64 x.pose.turn) ∧ w'.cell? ⟨w1.heap.size, 5, none⟩ = some (.int .i64 x.pose.scale) ∧ w'.cell? ⟨wr.heap.size, 4, none⟩ = some (.int .i64 x.dist) ∧ w'.cell? ⟨w.heap.size, 0, none⟩ = some (.int .i64 m.w) ∧ w'.cell? ⟨w.heap.size, 1, none⟩ = some (.int .i64 m.h) ∧ w'.cell? ⟨w.heap.size, 2, none⟩ = some (.slice mo m.pix.length mc)) ((repeat' apply And.intro) <;> first | assumption | go_keep) (first | (have _q := E8; go_at_call 100; (with_reducible refine (K100.out _ _ E8.out C8.out (At.caps2 (A8.out)) (by omega)).mono ?_); rintro E w9 ⟨rfl, hC9, hg9⟩; have A9 := Lib.hid (show At w9 [(w1.heap.size, Obj.cells #[.int .i64 x.pose.x, .int .i64 x.pose.y, .int .i64 x.pose.x, .int .i64 x.pose.y, .int .i64 x.pose.turn, .int .i64 x.pose.scale] 47), (wr.heap.size, Obj.cells #[.int .i64 x.pose.x, .int .i64 x.pose.y, .int .i64 x.pose.turn, .int .i64 x.pose.scale, .int .i64 x.dist] 80), (w.heap.size + 1 + 1 + 1 + 1, Obj.cells #[.map (some (w.heap.size + 1 + 1 + 1))] 142), (w.heap.size + 1 + 1, Obj.cells #[.slice (some ⟨bo, off, none⟩) ms.length mc1, .slice a1 ar.length ac1] 63), (w.heap.size + 1, Obj.cells #[.int .i64 t.w, .int .i64 t.h, .slice to t.pix.length tc] 43), (w.heap.size, Obj.cells #[.int .i64 m.w, .int .i64 m.h, .slice mo m.pix.length mc] 24)] from At.grown hg9 A8.out (by intro k hk; simp only [List.map_cons, List.map_nil, List.mem_cons, List.not_mem_nil, or_false] at hk; rcases hk with rfl | rfl | rfl | rfl | rfl | rfl <;> simp <;> omega)); have E9 := Lib.hid (E8.out.grown hg9 (fun k hk => by cases hk; omega)); have C9 := Lib.hid hC9; clear hC9; obtain ⟨⟨v00, v01, v02, v03, v04, v05⟩, -⟩ := run_6 (At.at A9.out 0 rfl); obtain ⟨⟨v10, v11, v12, v13, v14⟩, -⟩ := run_5 (At.at A9.out 1 rfl); obtain ⟨v20, -⟩ := run_1 (At.at A9.out 2 rfl); obtain ⟨⟨v30, v31⟩, -⟩ := run_2 (At.at A9.out 3 rfl); obtain ⟨⟨v40, v41, v42⟩, -⟩ := run_3 (At.at A9.out 4 rfl); obtain ⟨⟨v50, v51, v52⟩, -⟩ := run_3 (At.at A9.out 5 rfl); have vz0 := At.lt A9.out 0 rfl; have vy0 := Nat.lt_succ_of_lt vz0; have vx0 := Nat.lt_succ_of_lt vy0; have vz1 := At.lt A9.out 1 rfl; have vy1 := Nat.lt_succ_of_lt vz1; have vx1 := Nat.lt_succ_of_lt vy1; have vz2 := At.lt A9.out 2 rfl; have vy2 := Nat.lt_succ_of_lt vz2; have vx2 := Nat.lt_succ_of_lt vy2; have vz3 := At.lt A9.out 3 rfl; have vy3 := Nat.lt_succ_of_lt vz3; have vx3 := Nat.lt_succ_of_lt vy3; have vz4 := At.lt A9.out 4 rfl; have vy4 := Nat.lt_succ_of_lt vz4; have vx4 := Nat.lt_succ_of_lt vy4; have vz5 := At.lt A9.out 5 rfl; have vy5 := Nat.lt_succ_of_lt vz5; have vx5 := Nat.lt_succ_of_lt vy5) | (go_at_call 68; (with_reducible refine (K68.out _).mono ?_); rintro E w8 ⟨rfl, hb8⟩; have A8 := Lib.hid (show At w8 [(w1.heap.size, Obj.cells #[.int .i64 x.pose.x, .int .i64 x.pose.y, .int .i64 x.pose.x, .int .i64 x.pose.y, .int .i64 x.pose.turn, .int .i64 x.pose.scale] 47), (wr.heap.size, Obj.cells #[.int .i64 x.pose.x, .int .i64 x.pose.y, .int .i64 x.pose.turn, .int .i64 x.pose.scale, .int .i64 x.dist] 80), (w.heap.size + 1 + 1 + 1 + 1, Obj.cells #[.map (some (w.heap.size + 1 + 1 + 1))] 142), (w.heap.size + 1 + 1, Obj.cells #[.slice (some ⟨bo, off, none⟩) ms.length mc1, .slice a1 ar.length ac1] 63), (w.heap.size + 1, Obj.cells #[.int .i64 t.w, .int .i64 t.h, .slice to t.pix.length tc] 43), (w.heap.size, Obj.cells #[.int .i64 m.w, .int .i64 m.h, .slice mo m.pix.length mc] 24)] from At.ext hb8 (At.drew A7.out)); have E8 := Lib.hid (show Ext w w8 from E7.out.drew.trans hb8); have C8 := Lib.hid ((C7.out.ext (Ext.refl _).drew).ext hb8); obtain ⟨⟨u00, u01, u02, u03, u04, u05⟩, -⟩ := run_6 (At.at A8.out 0 rfl); obtain ⟨⟨u10, u11, u12, u13, u14⟩, -⟩ := run_5 (At.at A8.out 1 rfl); obtain ⟨u20, -⟩ := run_1 (At.at A8.out 2 rfl); obtain ⟨⟨u30, u31⟩, -⟩ := run_2 (At.at A8.out 3 rfl); obtain ⟨⟨u40, u41, u42⟩, -⟩ := run_3 (At.at A8.out 4 rfl); obtain ⟨⟨u50, u51, u52⟩, -⟩ := run_3 (At.at A8.out 5 rfl); have uz0 := At.lt A8.out 0 rfl; have uy0 := Nat.lt_succ_of_lt uz0; have ux0 := Nat.lt_succ_of_lt uy0; have uz1 := At.lt A8.out 1 rfl; have uy1 := Nat.lt_succ_of_lt uz1; have ux1 := Nat.lt_succ_of_lt uy1; have uz2 := At.lt A8.out 2 rfl; have uy2 := Nat.lt_succ_of_lt uz2; have ux2 := Nat.lt_succ_of_lt uy2; have uz3 := At.lt A8.out 3 rfl; have uy3 := Nat.lt_succ_of_lt uz3; have ux3 := Nat.lt_succ_of_lt uy3; have uz4 := At.lt A8.out 4 rfl; have uy4 := Nat.lt_succ_of_lt uz4; have ux4 := Nat.lt_succ_of_lt uy4; have uz5 := At.lt A8.out 5 rfl; have uy5 := Nat.lt_succ_of_lt uz5; have ux5 := Nat.lt_succ_of_lt uy5))
      all_goals go_wp2
      all_goals go_roundw
      case rel => exact ⟨E9, Lib.hid A9.out.2.2, i + 1, n + 256, by omega, by omega, by go_num, HS, C9⟩
      case measure => simp [intOf]; omega
    · have HI1 := Lib.hid (show ∀ x ∈ ms, MatchOk m t limit x by have h9 := hI.out; rw [List.take_of_length_le (by omega)] at h9; exact h9)
      have HC1 := Lib.hid (show CovAt wr (w.heap.size + 1 + 1 + 1) n (fun p => hits ms p + hasN (ar.take 0) p) by have h9 := hC.out; rw [List.take_of_length_le (by omega)] at h9; exact h9)
      clear hI hC
      have hn' : n ≤ 3328000 := by omega
      obtain ⟨n0, hn0⟩ : ∃ n0 : Nat, n0 = n := ⟨_, rfl⟩
      subst hn0
      go_wp2
      obtain ⟨wp, hwp⟩ : ∃ wp : World, wp = wr := ⟨_, rfl⟩
      subst hwp
      clear z00 z10 z11 z20 z21 z22 z30 z31 z32 zz0 zy0 zx0 zz1 zy1 zx1 zz2 zy2 zx2 zz3 zy3 zx3
      go_loopw [52] (fun v wr => Hid (Ext w wr) ∧ Hid (At wr [(w.heap.size + 1 + 1 + 1 + 1, Obj.cells #[.map (some (w.heap.size + 1 + 1 + 1))] 142), (w.heap.size + 1 + 1, Obj.cells #[.slice m1 ms.length mc1, .slice a1 ar.length ac1] 63), (w.heap.size + 1, Obj.cells #[.int .i64 t.w, .int .i64 t.h, .slice to t.pix.length tc] 43), (w.heap.size, Obj.cells #[.int .i64 m.w, .int .i64 m.h, .slice mo m.pix.length mc] 24)]) ∧ ∃ i n : Nat, i ≤ ar.length ∧ n ≤ 3328000 + 256 * i ∧ v = .int .i64 (i : Int) ∧ Hid (∀ x ∈ ar.take i, AreaOk m t limit x) ∧ Hid (CovAt wr (w.heap.size + 1 + 1 + 1) n (fun p => hits ms p + hasN (ar.take i) p))) (fun v _ => ar.length - (intOf v).toNat)
      case atStart => exact ⟨hE, hA, 0, n0, Nat.zero_le _, by omega, rfl, Lib.hid (fun x hx => by simp at hx), HC1⟩
      case round =>
        clear hE hA HC1 hn hi
        obtain ⟨hE, hA, i, n, hi, hn, rfl, hI, hC⟩ := hrel
        obtain ⟨z00, -⟩ := run_1 (At.at hA.out 0 rfl)
        obtain ⟨⟨z10, z11⟩, -⟩ := run_2 (At.at hA.out 1 rfl)
        obtain ⟨⟨z20, z21, z22⟩, -⟩ := run_3 (At.at hA.out 2 rfl)
        obtain ⟨⟨z30, z31, z32⟩, -⟩ := run_3 (At.at hA.out 3 rfl)
        have zz0 := At.lt hA.out 0 rfl
        have zy0 := Nat.lt_succ_of_lt zz0
        have zx0 := Nat.lt_succ_of_lt zy0
        have zz1 := At.lt hA.out 1 rfl
        have zy1 := Nat.lt_succ_of_lt zz1
        have zx1 := Nat.lt_succ_of_lt zy1
        have zz2 := At.lt hA.out 2 rfl
        have zy2 := Nat.lt_succ_of_lt zz2
        have zx2 := Nat.lt_succ_of_lt zy2
        have zz3 := At.lt hA.out 3 rfl
        have zy3 := Nat.lt_succ_of_lt zz3
        have zx3 := Nat.lt_succ_of_lt zy3
        by_cases hil : i < ar.length
        · obtain ⟨bo, off, rfl, x0, x1, x2, x3, x4, x5⟩ := H2.out i hil
          have HMEM := Lib.hid (getD_mem_at area0 hil)
          obtain ⟨x, hx⟩ : ∃ x, ar.getD i area0 = x := ⟨_, rfl⟩
          rw [hx] at x0 x1 x2 x3 x4 x5 HMEM
          have HX := Lib.hid hx
          clear hx
          replace x0 := hE.out.get x0
          replace x1 := hE.out.get x1
          replace x2 := hE.out.get x2
          replace x3 := hE.out.get x3
          replace x4 := hE.out.get x4
          replace x5 := hE.out.get x5
          have zx := World.block_lt_of_cell? _ _ x0
          simp only at zx
          have hili : (i : Int) < (ar.length : Int) := by omega
          have K68 := Lib.hid (fun w' => c68 m (.slice mo m.pix.length mc) x w' HM.out.1 ⟨_, _, _, rfl⟩)
          unfold imgVal areaVal at K68
          by_cases g0 : x.Ok m
          case neg =>
            have q0 : decide (x.Ok m) = false := decide_eq_false g0
            have HR := Lib.hid (show ¬ Proved m t limit ms ar from fun h => g0 (h.2.1 _ HMEM.out).1)
            rw [q0] at K68
            go_wp2_with (go_at_call 68; (with_reducible refine (K68.out _).mono ?_); rintro E w8 ⟨rfl, hb8⟩; have A8 := Lib.hid (show At w8 [(wr.heap.size, Obj.cells #[.int .i64 x.x0, .int .i64 x.y0, .int .i64 x.x1, .int .i64 x.y1, .int .i64 x.turn, .int .i64 x.scale] 47), (w.heap.size + 1 + 1 + 1 + 1, Obj.cells #[.map (some (w.heap.size + 1 + 1 + 1))] 142), (w.heap.size + 1 + 1, Obj.cells #[.slice m1 ms.length mc1, .slice (some ⟨bo, off, none⟩) ar.length ac1] 63), (w.heap.size + 1, Obj.cells #[.int .i64 t.w, .int .i64 t.h, .slice to t.pix.length tc] 43), (w.heap.size, Obj.cells #[.int .i64 m.w, .int .i64 m.h, .slice mo m.pix.length mc] 24)] from At.ext hb8 ⟨blk_at _ _ rfl, At.alloc hA.out _⟩); have E8 := Lib.hid (show Ext w w8 from (hE.out.alloc _).trans hb8); have C8 := Lib.hid ((hC.out.ext ((Ext.refl _).alloc _)).ext hb8); obtain ⟨⟨u00, u01, u02, u03, u04, u05⟩, -⟩ := run_6 (At.at A8.out 0 rfl); obtain ⟨u10, -⟩ := run_1 (At.at A8.out 1 rfl); obtain ⟨⟨u20, u21⟩, -⟩ := run_2 (At.at A8.out 2 rfl); obtain ⟨⟨u30, u31, u32⟩, -⟩ := run_3 (At.at A8.out 3 rfl); obtain ⟨⟨u40, u41, u42⟩, -⟩ := run_3 (At.at A8.out 4 rfl); have uz0 := At.lt A8.out 0 rfl; have uy0 := Nat.lt_succ_of_lt uz0; have ux0 := Nat.lt_succ_of_lt uy0; have uz1 := At.lt A8.out 1 rfl; have uy1 := Nat.lt_succ_of_lt uz1; have ux1 := Nat.lt_succ_of_lt uy1; have uz2 := At.lt A8.out 2 rfl; have uy2 := Nat.lt_succ_of_lt uz2; have ux2 := Nat.lt_succ_of_lt uy2; have uz3 := At.lt A8.out 3 rfl; have uy3 := Nat.lt_succ_of_lt uz3; have ux3 := Nat.lt_succ_of_lt uy3; have uz4 := At.lt A8.out 4 rfl; have uy4 := Nat.lt_succ_of_lt uz4; have ux4 := Nat.lt_succ_of_lt uy4)
            go_ret
            first | exact ⟨false, rfl, ⟨fun h => (by cases h), fun h => absurd h HR.out⟩, E8.out⟩ | exact .inl ⟨rfl, HR.out, E8.out⟩
          have q0 : decide (x.Ok m) = true := decide_eq_true g0
          rw [q0] at K68
          have K100 := Lib.hid (fun n' w' (h : Ext w w') (hc : CovAt w' (w.heap.size + 1 + 1 + 1) n' (fun p => hits ms p + hasN (ar.take i) p)) (ha : At w' [(w.heap.size + 1 + 1 + 1 + 1, Obj.cells #[.map (some (w.heap.size + 1 + 1 + 1))] 142), (w.heap.size + 1, Obj.cells #[.int .i64 t.w, .int .i64 t.h, .slice to t.pix.length tc] 43), (w.heap.size, Obj.cells #[.int .i64 m.w, .int .i64 m.h, .slice mo m.pix.length mc] 24)]) (hn : n' ≤ 1000000000) => c100 m (.slice mo m.pix.length mc) t (.slice to t.pix.length tc) x w w' (w.heap.size + 1 + 1 + 1) n' 26000 (w.heap.size + 1 + 1 + 1 + 1) (w.heap.size + 1) (w.heap.size) (fun p => hits ms p + hasN (ar.take i) p) HM.out HT.out HV.out HTV.out g0 h (by omega) hc ha ⟨by omega, by omega, by omega⟩ hn (fun p => by have h1 := hits_le ms p; have h2 := hasN_le (ar.take i) p; rw [List.length_take] at h2; omega) (by omega))
          obtain ⟨bd, hbd⟩ : ∃ bd, bound m t x = bd := ⟨_, rfl⟩
          simp only [hbd, has_step hil HX.out] at K100
          unfold areaVal at K100
          have HB := Lib.hid hbd
          clear hbd q0
          by_cases g1 : bd ≤ limit
          · have q1 : decide (bd ≤ limit) = true := decide_eq_true g1
            have HR := Lib.hid (show ¬ Proved m t limit ms ar from fun h => by have h8 := (h.2.1 _ HMEM.out).2; rw [HB.out] at h8; omega)
            go_wp2_with (first | (have _q := E8; go_at_call 100; (with_reducible refine (K100.out _ _ E8.out C8.out (At.caps1 (A8.out)) (by omega)).mono ?_); rintro E w9 ⟨rfl, hC9, hg9⟩; have A9 := Lib.hid (show At w9 [(wr.heap.size, Obj.cells #[.int .i64 x.x0, .int .i64 x.y0, .int .i64 x.x1, .int .i64 x.y1, .int .i64 x.turn, .int .i64 x.scale] 47), (w.heap.size + 1 + 1 + 1 + 1, Obj.cells #[.map (some (w.heap.size + 1 + 1 + 1))] 142), (w.heap.size + 1 + 1, Obj.cells #[.slice m1 ms.length mc1, .slice (some ⟨bo, off, none⟩) ar.length ac1] 63), (w.heap.size + 1, Obj.cells #[.int .i64 t.w, .int .i64 t.h, .slice to t.pix.length tc] 43), (w.heap.size, Obj.cells #[.int .i64 m.w, .int .i64 m.h, .slice mo m.pix.length mc] 24)] from At.grown hg9 A8.out (by intro k hk; simp only [List.map_cons, List.map_nil, List.mem_cons, List.not_mem_nil, or_false] at hk; rcases hk with rfl | rfl | rfl | rfl | rfl <;> simp <;> omega)); have E9 := Lib.hid (E8.out.grown hg9 (fun k hk => by cases hk; omega)); have C9 := Lib.hid hC9; clear hC9; obtain ⟨⟨v00, v01, v02, v03, v04, v05⟩, -⟩ := run_6 (At.at A9.out 0 rfl); obtain ⟨v10, -⟩ := run_1 (At.at A9.out 1 rfl); obtain ⟨⟨v20, v21⟩, -⟩ := run_2 (At.at A9.out 2 rfl); obtain ⟨⟨v30, v31, v32⟩, -⟩ := run_3 (At.at A9.out 3 rfl); obtain ⟨⟨v40, v41, v42⟩, -⟩ := run_3 (At.at A9.out 4 rfl); have vz0 := At.lt A9.out 0 rfl; have vy0 := Nat.lt_succ_of_lt vz0; have vx0 := Nat.lt_succ_of_lt vy0; have vz1 := At.lt A9.out 1 rfl; have vy1 := Nat.lt_succ_of_lt vz1; have vx1 := Nat.lt_succ_of_lt vy1; have vz2 := At.lt A9.out 2 rfl; have vy2 := Nat.lt_succ_of_lt vz2; have vx2 := Nat.lt_succ_of_lt vy2; have vz3 := At.lt A9.out 3 rfl; have vy3 := Nat.lt_succ_of_lt vz3; have vx3 := Nat.lt_succ_of_lt vy3; have vz4 := At.lt A9.out 4 rfl; have vy4 := Nat.lt_succ_of_lt vz4; have vx4 := Nat.lt_succ_of_lt vy4) | (go_at_call 68; (with_reducible refine (K68.out _).mono ?_); rintro E w8 ⟨rfl, hb8⟩; have A8 := Lib.hid (show At w8 [(wr.heap.size, Obj.cells #[.int .i64 x.x0, .int .i64 x.y0, .int .i64 x.x1, .int .i64 x.y1, .int .i64 x.turn, .int .i64 x.scale] 47), (w.heap.size + 1 + 1 + 1 + 1, Obj.cells #[.map (some (w.heap.size + 1 + 1 + 1))] 142), (w.heap.size + 1 + 1, Obj.cells #[.slice m1 ms.length mc1, .slice (some ⟨bo, off, none⟩) ar.length ac1] 63), (w.heap.size + 1, Obj.cells #[.int .i64 t.w, .int .i64 t.h, .slice to t.pix.length tc] 43), (w.heap.size, Obj.cells #[.int .i64 m.w, .int .i64 m.h, .slice mo m.pix.length mc] 24)] from At.ext hb8 ⟨blk_at _ _ rfl, At.alloc hA.out _⟩); have E8 := Lib.hid (show Ext w w8 from (hE.out.alloc _).trans hb8); have C8 := Lib.hid ((hC.out.ext ((Ext.refl _).alloc _)).ext hb8); obtain ⟨⟨u00, u01, u02, u03, u04, u05⟩, -⟩ := run_6 (At.at A8.out 0 rfl); obtain ⟨u10, -⟩ := run_1 (At.at A8.out 1 rfl); obtain ⟨⟨u20, u21⟩, -⟩ := run_2 (At.at A8.out 2 rfl); obtain ⟨⟨u30, u31, u32⟩, -⟩ := run_3 (At.at A8.out 3 rfl); obtain ⟨⟨u40, u41, u42⟩, -⟩ := run_3 (At.at A8.out 4 rfl); have uz0 := At.lt A8.out 0 rfl; have uy0 := Nat.lt_succ_of_lt uz0; have ux0 := Nat.lt_succ_of_lt uy0; have uz1 := At.lt A8.out 1 rfl; have uy1 := Nat.lt_succ_of_lt uz1; have ux1 := Nat.lt_succ_of_lt uy1; have uz2 := At.lt A8.out 2 rfl; have uy2 := Nat.lt_succ_of_lt uz2; have ux2 := Nat.lt_succ_of_lt uy2; have uz3 := At.lt A8.out 3 rfl; have uy3 := Nat.lt_succ_of_lt uz3; have ux3 := Nat.lt_succ_of_lt uy3; have uz4 := At.lt A8.out 4 rfl; have uy4 := Nat.lt_succ_of_lt uz4; have ux4 := Nat.lt_succ_of_lt uy4))
            go_ret
            first | exact ⟨false, rfl, ⟨fun h => (by cases h), fun h => absurd h HR.out⟩, E9.out⟩ | exact .inl ⟨rfl, HR.out, E9.out⟩
          have q1 : decide (bd ≤ limit) = false := decide_eq_false g1
          have HS := Lib.hid (show ∀ y ∈ ar.take (i + 1), AreaOk m t limit y by
            rw [take_snoc_at area0 hil, HX.out]
            intro y hy
            rcases List.mem_append.1 hy with hy | hy
            · exact hI.out y hy
            · rw [List.mem_singleton.1 hy]
              exact ⟨g0, by rw [HB.out]; omega⟩)
          go_wp2_with (first | (have _q := E8; go_at_call 100; (with_reducible refine (K100.out _ _ E8.out C8.out (At.caps1 (A8.out)) (by omega)).mono ?_); rintro E w9 ⟨rfl, hC9, hg9⟩; have A9 := Lib.hid (show At w9 [(wr.heap.size, Obj.cells #[.int .i64 x.x0, .int .i64 x.y0, .int .i64 x.x1, .int .i64 x.y1, .int .i64 x.turn, .int .i64 x.scale] 47), (w.heap.size + 1 + 1 + 1 + 1, Obj.cells #[.map (some (w.heap.size + 1 + 1 + 1))] 142), (w.heap.size + 1 + 1, Obj.cells #[.slice m1 ms.length mc1, .slice (some ⟨bo, off, none⟩) ar.length ac1] 63), (w.heap.size + 1, Obj.cells #[.int .i64 t.w, .int .i64 t.h, .slice to t.pix.length tc] 43), (w.heap.size, Obj.cells #[.int .i64 m.w, .int .i64 m.h, .slice mo m.pix.length mc] 24)] from At.grown hg9 A8.out (by intro k hk; simp only [List.map_cons, List.map_nil, List.mem_cons, List.not_mem_nil, or_false] at hk; rcases hk with rfl | rfl | rfl | rfl | rfl <;> simp <;> omega)); have E9 := Lib.hid (E8.out.grown hg9 (fun k hk => by cases hk; omega)); have C9 := Lib.hid hC9; clear hC9; obtain ⟨⟨v00, v01, v02, v03, v04, v05⟩, -⟩ := run_6 (At.at A9.out 0 rfl); obtain ⟨v10, -⟩ := run_1 (At.at A9.out 1 rfl); obtain ⟨⟨v20, v21⟩, -⟩ := run_2 (At.at A9.out 2 rfl); obtain ⟨⟨v30, v31, v32⟩, -⟩ := run_3 (At.at A9.out 3 rfl); obtain ⟨⟨v40, v41, v42⟩, -⟩ := run_3 (At.at A9.out 4 rfl); have vz0 := At.lt A9.out 0 rfl; have vy0 := Nat.lt_succ_of_lt vz0; have vx0 := Nat.lt_succ_of_lt vy0; have vz1 := At.lt A9.out 1 rfl; have vy1 := Nat.lt_succ_of_lt vz1; have vx1 := Nat.lt_succ_of_lt vy1; have vz2 := At.lt A9.out 2 rfl; have vy2 := Nat.lt_succ_of_lt vz2; have vx2 := Nat.lt_succ_of_lt vy2; have vz3 := At.lt A9.out 3 rfl; have vy3 := Nat.lt_succ_of_lt vz3; have vx3 := Nat.lt_succ_of_lt vy3; have vz4 := At.lt A9.out 4 rfl; have vy4 := Nat.lt_succ_of_lt vz4; have vx4 := Nat.lt_succ_of_lt vy4) | (go_at_call 68; (with_reducible refine (K68.out _).mono ?_); rintro E w8 ⟨rfl, hb8⟩; have A8 := Lib.hid (show At w8 [(wr.heap.size, Obj.cells #[.int .i64 x.x0, .int .i64 x.y0, .int .i64 x.x1, .int .i64 x.y1, .int .i64 x.turn, .int .i64 x.scale] 47), (w.heap.size + 1 + 1 + 1 + 1, Obj.cells #[.map (some (w.heap.size + 1 + 1 + 1))] 142), (w.heap.size + 1 + 1, Obj.cells #[.slice m1 ms.length mc1, .slice (some ⟨bo, off, none⟩) ar.length ac1] 63), (w.heap.size + 1, Obj.cells #[.int .i64 t.w, .int .i64 t.h, .slice to t.pix.length tc] 43), (w.heap.size, Obj.cells #[.int .i64 m.w, .int .i64 m.h, .slice mo m.pix.length mc] 24)] from At.ext hb8 ⟨blk_at _ _ rfl, At.alloc hA.out _⟩); have E8 := Lib.hid (show Ext w w8 from (hE.out.alloc _).trans hb8); have C8 := Lib.hid ((hC.out.ext ((Ext.refl _).alloc _)).ext hb8); obtain ⟨⟨u00, u01, u02, u03, u04, u05⟩, -⟩ := run_6 (At.at A8.out 0 rfl); obtain ⟨u10, -⟩ := run_1 (At.at A8.out 1 rfl); obtain ⟨⟨u20, u21⟩, -⟩ := run_2 (At.at A8.out 2 rfl); obtain ⟨⟨u30, u31, u32⟩, -⟩ := run_3 (At.at A8.out 3 rfl); obtain ⟨⟨u40, u41, u42⟩, -⟩ := run_3 (At.at A8.out 4 rfl); have uz0 := At.lt A8.out 0 rfl; have uy0 := Nat.lt_succ_of_lt uz0; have ux0 := Nat.lt_succ_of_lt uy0; have uz1 := At.lt A8.out 1 rfl; have uy1 := Nat.lt_succ_of_lt uz1; have ux1 := Nat.lt_succ_of_lt uy1; have uz2 := At.lt A8.out 2 rfl; have uy2 := Nat.lt_succ_of_lt uz2; have ux2 := Nat.lt_succ_of_lt uy2; have uz3 := At.lt A8.out 3 rfl; have uy3 := Nat.lt_succ_of_lt uz3; have ux3 := Nat.lt_succ_of_lt uy3; have uz4 := At.lt A8.out 4 rfl; have uy4 := Nat.lt_succ_of_lt uz4; have ux4 := Nat.lt_succ_of_lt uy4))
          go_roundw
          case rel => exact ⟨E9, Lib.hid A9.out.2, i + 1, n + 256, by omega, by omega, by go_num, HS, C9⟩
          case measure => simp [intOf]; omega
        · have HI2 := Lib.hid (show ∀ x ∈ ar, AreaOk m t limit x by have h9 := hI.out; rw [List.take_of_length_le (by omega)] at h9; exact h9)
          have HC2 := Lib.hid (show CovAt wr (w.heap.size + 1 + 1 + 1) n (fun p => hits ms p + hasN ar p) by have h9 := hC.out; rw [List.take_of_length_le (by omega)] at h9; exact h9)
          clear hI hC
          obtain ⟨n9, hn9⟩ : ∃ n9 : Nat, n9 = n := ⟨_, rfl⟩
          subst hn9
          obtain ⟨D, hown, hI⟩ := HC2.out
          have HIFF := Lib.hid (show ((∀ k, Maps.has D k = true → D.atKey k (.lit (.int .i64 0)) = .lit (.int .i64 1)) ∧ Maps.size D = 48 * m.pix.length) ↔ Proved m t limit ms ar from (counted_iff HM.out.1 (hown.entries law45) hI (fun p hp => hits_univ HM.out.1 HI1.out HI2.out hp)).trans (proved_iff HI1.out HI2.out).symm)
          have HIS := Lib.hid (show ∃ es, D = .map es from (hown.entries law45).imp fun _ h => h.1)
          replace hown := Lib.hid hown
          clear hI HC2
          have lt5 := At.lt hA.out 0 rfl
          obtain ⟨RB, hRB⟩ : ∃ RB, wr.heap.size = RB := ⟨_, rfl⟩
          go_wp2_with (at_range; refine wpList_range_own _ rfl _ 142 rfl 45 3 law45 Try.underlying142 (plainElem Try.prog 3) (w.heap.size + 1 + 1 + 1) n9 D rfl hown.out ?_; intro w5 hrg5 hg5 hs5; have A5 := Lib.hid (show At w5 [(w.heap.size + 1 + 1 + 1 + 1, Obj.cells #[.map (some (w.heap.size + 1 + 1 + 1))] 142), (w.heap.size + 1 + 1, Obj.cells #[.slice m1 ms.length mc1, .slice a1 ar.length ac1] 63), (w.heap.size + 1, Obj.cells #[.int .i64 t.w, .int .i64 t.h, .slice to t.pix.length tc] 43), (w.heap.size, Obj.cells #[.int .i64 m.w, .int .i64 m.h, .slice mo m.pix.length mc] 24)] from At.grown hg5 hA.out (by simp)); have E5 := Lib.hid (hE.out.grown hg5 (by simp)); have R5 := Lib.hid hrg5; clear hrg5; obtain ⟨u00, -⟩ := run_1 (At.at A5.out 0 rfl); obtain ⟨⟨u10, u11⟩, -⟩ := run_2 (At.at A5.out 1 rfl); obtain ⟨⟨u20, u21, u22⟩, -⟩ := run_3 (At.at A5.out 2 rfl); obtain ⟨⟨u30, u31, u32⟩, -⟩ := run_3 (At.at A5.out 3 rfl); have uz0 := At.lt A5.out 0 rfl; have uy0 := Nat.lt_succ_of_lt uz0; have ux0 := Nat.lt_succ_of_lt uy0; have uz1 := At.lt A5.out 1 rfl; have uy1 := Nat.lt_succ_of_lt uz1; have ux1 := Nat.lt_succ_of_lt uy1; have uz2 := At.lt A5.out 2 rfl; have uy2 := Nat.lt_succ_of_lt uz2; have ux2 := Nat.lt_succ_of_lt uy2; have uz3 := At.lt A5.out 3 rfl; have uy3 := Nat.lt_succ_of_lt uz3; have ux3 := Nat.lt_succ_of_lt uy3)
          rw [hRB] at lt5 R5 ⊢
          go_frame
          obtain ⟨wp, hwp⟩ : ∃ wp : World, wp = w5 := ⟨_, rfl⟩
          subst hwp
          clear hown hE hA hRB hs5 hg5
          go_loopw [17] (fun _ wr => Hid (Ext w wr) ∧ Hid (At wr [(w.heap.size + 1 + 1 + 1 + 1, Obj.cells #[.map (some (w.heap.size + 1 + 1 + 1))] 142), (w.heap.size + 1 + 1, Obj.cells #[.slice m1 ms.length mc1, .slice a1 ar.length ac1] 63), (w.heap.size + 1, Obj.cells #[.int .i64 t.w, .int .i64 t.h, .slice to t.pix.length tc] 43), (w.heap.size, Obj.cells #[.int .i64 m.w, .int .i64 m.h, .slice mo m.pix.length mc] 24)]) ∧ ∃ (left : Lit → Bool) (cnt : Nat), Hid (wr.ranges Try.prog 45 (plainElem Try.prog 3) (w.heap.size + 1 + 1 + 1) RB n9 D left cnt) ∧ Hid (∀ k, Maps.has D k = true → left k = false → D.atKey k (.lit (.int .i64 0)) = .lit (.int .i64 1))) (fun _ wr => wr.rangeLeft (w.heap.size + 1 + 1 + 1) RB)
          case atStart => exact ⟨E5, A5, _, _, R5, Lib.hid (fun k h1 h2 => by rw [h1] at h2; cases h2)⟩
          case round =>
            clear E5 A5 R5
            obtain ⟨hE, hA, left, cnt, hrg, hV⟩ := hrel
            obtain ⟨z00, -⟩ := run_1 (At.at hA.out 0 rfl)
            obtain ⟨⟨z10, z11⟩, -⟩ := run_2 (At.at hA.out 1 rfl)
            obtain ⟨⟨z20, z21, z22⟩, -⟩ := run_3 (At.at hA.out 2 rfl)
            obtain ⟨⟨z30, z31, z32⟩, -⟩ := run_3 (At.at hA.out 3 rfl)
            have zz0 := At.lt hA.out 0 rfl
            have zy0 := Nat.lt_succ_of_lt zz0
            have zx0 := Nat.lt_succ_of_lt zy0
            have zz1 := At.lt hA.out 1 rfl
            have zy1 := Nat.lt_succ_of_lt zz1
            have zx1 := Nat.lt_succ_of_lt zy1
            have zz2 := At.lt hA.out 2 rfl
            have zy2 := Nat.lt_succ_of_lt zz2
            have zx2 := Nat.lt_succ_of_lt zy2
            have zz3 := At.lt hA.out 3 rfl
            have zy3 := Nat.lt_succ_of_lt zz3
            have zx3 := Nat.lt_succ_of_lt zy3
            go_wp2_with (at_next; refine wpList_next_ranges _ rfl _ rfl 45 law45 (plainElem Try.prog 3) id (Value.int .i64) (fun key kl h => ⟨key, rfl⟩) (fun v y hv => by obtain ⟨c, rfl, _⟩ := plainElem_int_inv Try.underlying3 hv; exact ⟨c, rfl⟩) (w.heap.size + 1 + 1 + 1) RB n9 D left cnt rfl hrg.out ?_ ?_)
            · intro _ hl0
              have HALL := Lib.hid (show ∀ k, Maps.has D k = true → D.atKey k (.lit (.int .i64 0)) = .lit (.int .i64 1) from fun k hk => hV.out k hk (hl0 k))
              have hlen := fun ty => hrg.out.owns.len Try.underlying142 ty
              obtain ⟨sz, hsz⟩ : ∃ sz, Maps.size D = sz := ⟨_, rfl⟩
              rw [hsz] at hlen HIFF
              clear hl0
              by_cases g : sz = 48 * m.pix.length
              · have q : ((sz : Int) == (m.pix.length : Int) * 12 * 4) = true := by rw [beq_iff_eq]; omega
                have HR := Lib.hid (HIFF.out.1 ⟨HALL.out, g⟩)
                clear g
                go_wp2
                go_ret
                first | exact ⟨true, rfl, ⟨fun _ => HR.out, fun _ => rfl⟩, hE.out⟩ | exact .inr ⟨rfl, HR.out, hE.out⟩
              · have q : ((sz : Int) == (m.pix.length : Int) * 12 * 4) = false := by rw [beq_eq_false_iff_ne]; omega
                have HR := Lib.hid (show ¬ Proved m t limit ms ar from fun h => g (HIFF.out.2 h).2)
                clear g
                go_wp2
                go_ret
                first | exact ⟨false, rfl, ⟨fun h => (by cases h), fun h => absurd h HR.out⟩, hE.out⟩ | exact .inl ⟨rfl, HR.out, hE.out⟩
            · intro key c kl y1 y2 w6 cnt1 hkey hlk hy hat hrg1 hlt hg1 hs1 hen
              obtain ⟨c', e1, e2, -⟩ := plainElem_int_inv Try.underlying3 hy
              rw [Prod.mk.injEq] at e2
              obtain ⟨rfl, rfl⟩ := e2
              cases e1
              try simp only [id] at hen
              have A6 := Lib.hid (show At w6 [(w.heap.size + 1 + 1 + 1 + 1, Obj.cells #[.map (some (w.heap.size + 1 + 1 + 1))] 142), (w.heap.size + 1 + 1, Obj.cells #[.slice m1 ms.length mc1, .slice a1 ar.length ac1] 63), (w.heap.size + 1, Obj.cells #[.int .i64 t.w, .int .i64 t.h, .slice to t.pix.length tc] 43), (w.heap.size, Obj.cells #[.int .i64 m.w, .int .i64 m.h, .slice mo m.pix.length mc] 24)] from At.grown hg1 hA.out (by intro k hk; simp only [List.map_cons, List.map_nil, List.mem_cons, List.not_mem_nil, or_false] at hk; rcases hk with rfl | rfl | rfl | rfl <;> simp <;> omega))
              have E6 := Lib.hid (hE.out.grown hg1 (fun k hk => by cases hk; omega))
              have R6 := Lib.hid hrg1
              have HKL := Lib.hid (show Maps.has D kl = true from has_of_atKey HIS.out hat)
              have HAT := Lib.hid hat
              have hm9 : w6.rangeLeft (w.heap.size + 1 + 1 + 1) RB < wr.rangeLeft (w.heap.size + 1 + 1 + 1) RB := by rw [hrg1.left_eq, hrg.out.left_eq]; exact hlt
              clear hrg1 hy hkey hat
              obtain ⟨u00, -⟩ := run_1 (At.at A6.out 0 rfl)
              obtain ⟨⟨u10, u11⟩, -⟩ := run_2 (At.at A6.out 1 rfl)
              obtain ⟨⟨u20, u21, u22⟩, -⟩ := run_3 (At.at A6.out 2 rfl)
              obtain ⟨⟨u30, u31, u32⟩, -⟩ := run_3 (At.at A6.out 3 rfl)
              have uz0 := At.lt A6.out 0 rfl
              have uy0 := Nat.lt_succ_of_lt uz0
              have ux0 := Nat.lt_succ_of_lt uy0
              have uz1 := At.lt A6.out 1 rfl
              have uy1 := Nat.lt_succ_of_lt uz1
              have ux1 := Nat.lt_succ_of_lt uy1
              have uz2 := At.lt A6.out 2 rfl
              have uy2 := Nat.lt_succ_of_lt uz2
              have ux2 := Nat.lt_succ_of_lt uy2
              have uz3 := At.lt A6.out 3 rfl
              have uy3 := Nat.lt_succ_of_lt uz3
              have ux3 := Nat.lt_succ_of_lt uy3
              by_cases hc : c = 1
              · have q : (c != 1) = false := by simpa using hc
                have HS := Lib.hid (show ∀ k, Maps.has D k = true → (left k && !k.sameKey kl) = false → D.atKey k (.lit (.int .i64 0)) = .lit (.int .i64 1) from fun k h1 h2 => by
                  cases h3 : left k
                  · exact hV.out k h1 h3
                  · rw [h3] at h2
                    have h4 : k.sameKey kl = true := by simpa using h2
                    rw [WideAt.sameKey_eq h4, HAT.out, hc])
                go_wp2
                go_roundw
                case rel => exact ⟨E6, A6, _, cnt1, R6, HS⟩
                case measure => exact hm9
              · have q : (c != 1) = true := by simpa using hc
                have HR := Lib.hid (show ¬ Proved m t limit ms ar from fun h => by
                  have h1 := (HIFF.out.2 h).1 kl HKL.out
                  rw [HAT.out] at h1
                  simp at h1
                  exact hc h1)
                go_wp2
                go_ret
                first | exact ⟨false, rfl, ⟨fun h => (by cases h), fun h => absurd h HR.out⟩, E6.out⟩ | exact .inl ⟨rfl, HR.out, E6.out⟩
end Go.Proofs.Ytipkjdfnoonpcaa
