/- The walk of 'ExactTight'. -/
import Derived.Test.YtodoimeiklilhaaDoorGAlive
import Derived.Test.YtodoimeiklilhaaDoorGLaws
import Derived.Test.YtodoimeiklilhaaDoorAtMore
import Derived.Deep.DeepCutAuto
set_option linter.unusedVariables false
set_option linter.unusedSimpArgs false
namespace Go.Proofs.YtodoimeiklilhaaDoor
open Go.RowKit Go.Sort

def tl (z : Frac × Int) (x : Frac) : Bool := decide (z.2 = 0) && decide (z.1 = x)
theorem At.drew {w : World} {l : List (Nat × Obj)} (h : At w l) : At w.drew l := At.ext ((Ext.refl w).drew) h
def lowF (z0 z1 z2 z3 : Frac × Int) (x : Frac) : Nat → Bool
  | 0 => false
  | 1 => tl z0 x
  | 2 => tl z0 x || tl z1 x
  | 3 => tl z0 x || tl z1 x || tl z2 x
  | _ => tl z0 x || tl z1 x || tl z2 x || tl z3 x
theorem eq_frac (n d : Int) (x y : Int) : decide ((⟨n, d⟩ : Frac) = ⟨x, y⟩) = ((n == x) && (d == y)) := by
  rw [Bool.eq_iff_iff]; simp
theorem lowF_step_0 (z0 z1 z2 z3 : Frac × Int) (x : Frac) : lowF z0 z1 z2 z3 x 1 = (lowF z0 z1 z2 z3 x 0 || ((z0.2 == 0) && ((z0.1.num == x.num) && (z0.1.den == x.den)))) := by
  have e : tl z0 x = ((z0.2 == 0) && ((z0.1.num == x.num) && (z0.1.den == x.den))) := by
    unfold tl
    rw [show decide (z0.1 = x) = ((z0.1.num == x.num) && (z0.1.den == x.den)) from eq_frac _ _ _ _]
    rfl
  rw [← e]
  rfl
theorem lowF_step_1 (z0 z1 z2 z3 : Frac × Int) (x : Frac) : lowF z0 z1 z2 z3 x 2 = (lowF z0 z1 z2 z3 x 1 || ((z1.2 == 0) && ((z1.1.num == x.num) && (z1.1.den == x.den)))) := by
  have e : tl z1 x = ((z1.2 == 0) && ((z1.1.num == x.num) && (z1.1.den == x.den))) := by
    unfold tl
    rw [show decide (z1.1 = x) = ((z1.1.num == x.num) && (z1.1.den == x.den)) from eq_frac _ _ _ _]
    rfl
  rw [← e]
  rfl
theorem lowF_step_2 (z0 z1 z2 z3 : Frac × Int) (x : Frac) : lowF z0 z1 z2 z3 x 3 = (lowF z0 z1 z2 z3 x 2 || ((z2.2 == 0) && ((z2.1.num == x.num) && (z2.1.den == x.den)))) := by
  have e : tl z2 x = ((z2.2 == 0) && ((z2.1.num == x.num) && (z2.1.den == x.den))) := by
    unfold tl
    rw [show decide (z2.1 = x) = ((z2.1.num == x.num) && (z2.1.den == x.den)) from eq_frac _ _ _ _]
    rfl
  rw [← e]
  rfl
theorem lowF_step_3 (z0 z1 z2 z3 : Frac × Int) (x : Frac) : lowF z0 z1 z2 z3 x 4 = (lowF z0 z1 z2 z3 x 3 || ((z3.2 == 0) && ((z3.1.num == x.num) && (z3.1.den == x.den)))) := by
  have e : tl z3 x = ((z3.2 == 0) && ((z3.1.num == x.num) && (z3.1.den == x.den))) := by
    unfold tl
    rw [show decide (z3.1 = x) = ((z3.1.num == x.num) && (z3.1.den == x.den)) from eq_frac _ _ _ _]
    rfl
  rw [← e]
  rfl

set_option maxRecDepth 100000 in
set_option maxHeartbeats 8000000 in
theorem tight_walk (how a1 a2 a3 a4 b1 b2 b3 b4 s1 s2 s3 s4 xn xd xe yn yd ye zn zd ze un ud ue e g1 g2 g3 : Int) (t1 t2 t3 : Span) (w : World) (hP : Pow w)
    (k0 : ∀ w, Calls Tryd.prog 41 #[.int .u8 how, fracV ⟨a1, a2⟩, fracV ⟨b1, b2⟩, fspanV ⟨⟨a1, a2⟩, ⟨a3, a4⟩⟩, fspanV ⟨⟨b1, b2⟩, ⟨b3, b4⟩⟩] w fun E w' => E = .returned (resV (⟨xn, xd⟩, xe) ⟨⟨s1, s2⟩, ⟨s3, s4⟩⟩ e) ∧ Ext w w')
    (k1 : ∀ w, Calls Tryd.prog 41 #[.int .u8 how, fracV ⟨a3, a4⟩, fracV ⟨b1, b2⟩, fspanV ⟨⟨a1, a2⟩, ⟨a3, a4⟩⟩, fspanV ⟨⟨b1, b2⟩, ⟨b3, b4⟩⟩] w fun E w' => E = .returned (resV (⟨yn, yd⟩, ye) t1 g1) ∧ Ext w w')
    (k2 : ∀ w, Calls Tryd.prog 41 #[.int .u8 how, fracV ⟨a1, a2⟩, fracV ⟨b3, b4⟩, fspanV ⟨⟨a1, a2⟩, ⟨a3, a4⟩⟩, fspanV ⟨⟨b1, b2⟩, ⟨b3, b4⟩⟩] w fun E w' => E = .returned (resV (⟨zn, zd⟩, ze) t2 g2) ∧ Ext w w')
    (k3 : ∀ w, Calls Tryd.prog 41 #[.int .u8 how, fracV ⟨a3, a4⟩, fracV ⟨b3, b4⟩, fspanV ⟨⟨a1, a2⟩, ⟨a3, a4⟩⟩, fspanV ⟨⟨b1, b2⟩, ⟨b3, b4⟩⟩] w fun E w' => E = .returned (resV (⟨un, ud⟩, ue) t3 g3) ∧ Ext w w')
    (hm : e = 0 → lowF (⟨xn, xd⟩, xe) (⟨yn, yd⟩, ye) (⟨zn, zd⟩, ze) (⟨un, ud⟩, ue) ⟨s1, s2⟩ 4 = true ∧ lowF (⟨xn, xd⟩, xe) (⟨yn, yd⟩, ye) (⟨zn, zd⟩, ze) (⟨un, ud⟩, ue) ⟨s3, s4⟩ 4 = true) :
    Calls Tryd.prog 12 #[.int .u8 how, fspanV ⟨⟨a1, a2⟩, ⟨a3, a4⟩⟩, fspanV ⟨⟨b1, b2⟩, ⟨b3, b4⟩⟩] w fun e w' => e = .returned (.bool true) ∧ Ext w w' := by
  have HP := Lib.hid hP
  have K0 := Lib.hid k0
  have K1 := Lib.hid k1
  have K2 := Lib.hid k2
  have K3 := Lib.hid k3
  have HM := Lib.hid hm
  clear hP k0 k1 k2 k3 hm
  skip
  by_cases h_te : e = 0
  · have te : (e == 0) = true := by simpa using h_te
    have te' : (e != 0) = false := by simpa using h_te
    have H_te := Lib.hid h_te
    clear h_te
    go_enter Tryd.func12, Tryd.ntmps12
    go_wp2_with (first | (go_at_call 16; (with_reducible refine (c_alive _ (HP.out.ext (by repeat (first | exact Ext.refl _ | assumption | refine Ext.alloc ?_ _ | refine Ext.drewN ?_ _ | refine ext_grow ?_ _ _ | refine Ext.setCell ?_ (by first | exact Nat.le_refl _ | omega | (simp; done) | (simp; omega)) _ | refine Ext.trans ?_ (by assumption))))).mono ?_); rintro E w1 ⟨rfl, hb1⟩; have A1 := Lib.hid (show At w1 [(w.heap.size, Obj.cells #[.int .i64 a1, .int .i64 a2, .int .i64 a3, .int .i64 a4] 41), (w.heap.size + 1, Obj.cells #[.int .i64 b1, .int .i64 b2, .int .i64 b3, .int .i64 b4] 41)] from At.ext hb1 (show At _ [(w.heap.size, Obj.cells #[.int .i64 a1, .int .i64 a2, .int .i64 a3, .int .i64 a4] 41), (w.heap.size + 1, Obj.cells #[.int .i64 b1, .int .i64 b2, .int .i64 b3, .int .i64 b4] 41)] from ⟨(by repeat (first | (refine blk_at _ _ ?_; (first | rfl | (simp only [size_one]; done))) | refine (blk_past _ _ (by simp only [size_one]; omega)).trans ?_)), (by repeat (first | (refine blk_at _ _ ?_; (first | rfl | (simp only [size_one]; done))) | refine (blk_past _ _ (by simp only [size_one]; omega)).trans ?_)), trivial⟩)); have E1 := Lib.hid (((show Ext w _ from (by repeat (first | exact Ext.refl _ | assumption | refine Ext.alloc ?_ _ | refine Ext.drewN ?_ _ | refine ext_grow ?_ _ _ | refine Ext.setCell ?_ (by first | exact Nat.le_refl _ | omega | (simp; done) | (simp; omega)) _ | refine Ext.trans ?_ (by assumption))))).trans hb1); obtain ⟨⟨c1_0_0, c1_0_1, c1_0_2, c1_0_3⟩, f1_0_0, f1_0_1, f1_0_2, f1_0_3⟩ := run_four (At.at A1.out 0 rfl); have s1_0 : w.heap.size < w1.heap.size := At.lt A1.out 0 rfl; obtain ⟨⟨c1_1_0, c1_1_1, c1_1_2, c1_1_3⟩, f1_1_0, f1_1_1, f1_1_2, f1_1_3⟩ := run_four (At.at A1.out 1 rfl); have s1_1 : w.heap.size + 1 < w1.heap.size := At.lt A1.out 1 rfl) | (go_at_call 41; (with_reducible refine (K0.out _).mono ?_); rintro E w2 ⟨rfl, hb2⟩; have A2 := Lib.hid (show At w2 [(w.heap.size, Obj.cells #[.int .i64 a1, .int .i64 a2, .int .i64 a3, .int .i64 a4] 41), (w.heap.size + 1, Obj.cells #[.int .i64 b1, .int .i64 b2, .int .i64 b3, .int .i64 b4] 41)] from At.ext hb2 A1.out); have E2 := Lib.hid ((E1.out).trans hb2); obtain ⟨⟨c2_0_0, c2_0_1, c2_0_2, c2_0_3⟩, f2_0_0, f2_0_1, f2_0_2, f2_0_3⟩ := run_four (At.at A2.out 0 rfl); have s2_0 : w.heap.size < w2.heap.size := At.lt A2.out 0 rfl; obtain ⟨⟨c2_1_0, c2_1_1, c2_1_2, c2_1_3⟩, f2_1_0, f2_1_1, f2_1_2, f2_1_3⟩ := run_four (At.at A2.out 1 rfl); have s2_1 : w.heap.size + 1 < w2.heap.size := At.lt A2.out 1 rfl; (try clear c1_0_0 c1_0_1 c1_0_2 c1_0_3 f1_0_0 f1_0_1 f1_0_2 f1_0_3 c1_1_0 c1_1_1 c1_1_2 c1_1_3 f1_1_0 f1_1_1 f1_1_2 f1_1_3 s1_0 s1_1)))
    go_loopw [12, 13, 14] (fun l h i wr => Ext w wr ∧ ∃ k : Nat, k ≤ 4 ∧ l = .bool (lowF (⟨xn, xd⟩, xe) (⟨yn, yd⟩, ye) (⟨zn, zd⟩, ze) (⟨un, ud⟩, ue) ⟨s1, s2⟩ k) ∧ h = .bool (lowF (⟨xn, xd⟩, xe) (⟨yn, yd⟩, ye) (⟨zn, zd⟩, ze) (⟨un, ud⟩, ue) ⟨s3, s4⟩ k) ∧ (∃ v : Int, i = .int .i64 v ∧ v = k) ∧ Hid (At wr [(w2.heap.size + 1, Obj.cells #[.int .i64 s1, .int .i64 s2, .int .i64 s3, .int .i64 s4] 41), (w2.heap.size, Obj.cells #[.int .i64 xn, .int .i64 xd] 23), (w.heap.size, Obj.cells #[.int .i64 a1, .int .i64 a2, .int .i64 a3, .int .i64 a4] 41), (w.heap.size + 1, Obj.cells #[.int .i64 b1, .int .i64 b2, .int .i64 b3, .int .i64 b4] 41)])) (fun _ _ i _ => 4 - (intOf i).toNat)
    case atStart => exact ⟨((((E2.out).alloc _)).alloc _), 0, by omega, rfl, rfl, ⟨0, rfl, rfl⟩, Lib.hid (show At _ [(w2.heap.size + 1, Obj.cells #[.int .i64 s1, .int .i64 s2, .int .i64 s3, .int .i64 s4] 41), (w2.heap.size, Obj.cells #[.int .i64 xn, .int .i64 xd] 23), (w.heap.size, Obj.cells #[.int .i64 a1, .int .i64 a2, .int .i64 a3, .int .i64 a4] 41), (w.heap.size + 1, Obj.cells #[.int .i64 b1, .int .i64 b2, .int .i64 b3, .int .i64 b4] 41)] from ⟨blk_at _ _ (by simp only [size_one]), At.alloc (show At _ [(w2.heap.size, Obj.cells #[.int .i64 xn, .int .i64 xd] 23), (w.heap.size, Obj.cells #[.int .i64 a1, .int .i64 a2, .int .i64 a3, .int .i64 a4] 41), (w.heap.size + 1, Obj.cells #[.int .i64 b1, .int .i64 b2, .int .i64 b3, .int .i64 b4] 41)] from ⟨one_first _ _, At.alloc A2.out _⟩) _⟩)⟩
    case round =>
      obtain ⟨hE, k, hk, rfl, rfl, ⟨v, rfl, hv⟩, hA⟩ := hrel
      by_cases hk4 : k < 4
      · rcases (show k = 0 ∨ k = 1 ∨ k = 2 ∨ k = 3 by omega) with rfl | rfl | rfl | rfl
        · obtain rfl : v = 0 := by omega
          clear hv hk hk4
          obtain ⟨lk, hlk⟩ : ∃ b, lowF (⟨xn, xd⟩, xe) (⟨yn, yd⟩, ye) (⟨zn, zd⟩, ze) (⟨un, ud⟩, ue) ⟨s1, s2⟩ 0 = b := ⟨_, rfl⟩
          obtain ⟨hk, hhk⟩ : ∃ b, lowF (⟨xn, xd⟩, xe) (⟨yn, yd⟩, ye) (⟨zn, zd⟩, ze) (⟨un, ud⟩, ue) ⟨s3, s4⟩ 0 = b := ⟨_, rfl⟩
          rw [hlk, hhk]
          have HLK := Lib.hid hlk.symm
          have HHK := Lib.hid hhk.symm
          clear hlk hhk
          obtain ⟨⟨cc_0_0, cc_0_1, cc_0_2, cc_0_3⟩, ff_0_0, ff_0_1, ff_0_2, ff_0_3⟩ := run_four (At.at hA.out 0 rfl)
          have sr_0 : w2.heap.size + 1 < wr.heap.size := At.lt hA.out 0 rfl
          obtain ⟨cc_1_0, cc_1_1, ff_1_0, ff_1_1⟩ := run_pair (At.at hA.out 1 rfl)
          have sr_1 : w2.heap.size < wr.heap.size := At.lt hA.out 1 rfl
          obtain ⟨⟨cc_2_0, cc_2_1, cc_2_2, cc_2_3⟩, ff_2_0, ff_2_1, ff_2_2, ff_2_3⟩ := run_four (At.at hA.out 2 rfl)
          have sr_2 : w.heap.size < wr.heap.size := At.lt hA.out 2 rfl
          obtain ⟨⟨cc_3_0, cc_3_1, cc_3_2, cc_3_3⟩, ff_3_0, ff_3_1, ff_3_2, ff_3_3⟩ := run_four (At.at hA.out 3 rfl)
          have sr_3 : w.heap.size + 1 < wr.heap.size := At.lt hA.out 3 rfl
          go_upto_region 9 with fail
          go_cut [15, 16] (fun p q wx => ∃ g15 g16 : Nat, p = .pointer (some ⟨g15, 0, none⟩) ∧ q = .pointer (some ⟨g16, 0, none⟩) ∧ g15 ≠ g16 ∧ w.heap.size ≤ g15 ∧ w.heap.size ≤ g16 ∧ w2.heap.size + 1 < g15 ∧ w2.heap.size + 1 < g16 ∧ w2.heap.size < g15 ∧ w2.heap.size < g16 ∧ w.heap.size < g15 ∧ w.heap.size < g16 ∧ w.heap.size + 1 < g15 ∧ w.heap.size + 1 < g16 ∧ Ext w wx ∧ At wx [(g16, Obj.cells #[.int .i64 b1, .int .i64 b2] 23), (g15, Obj.cells #[.int .i64 a1, .int .i64 a2] 23), (w2.heap.size + 1, Obj.cells #[.int .i64 s1, .int .i64 s2, .int .i64 s3, .int .i64 s4] 41), (w2.heap.size, Obj.cells #[.int .i64 xn, .int .i64 xd] 23), (w.heap.size, Obj.cells #[.int .i64 a1, .int .i64 a2, .int .i64 a3, .int .i64 a4] 41), (w.heap.size + 1, Obj.cells #[.int .i64 b1, .int .i64 b2, .int .i64 b3, .int .i64 b4] 41)])
          case first =>
            go_region_held3 (fun w' => w'.cell? ⟨w.heap.size, 0, none⟩ = some (.int .i64 a1) ∧ w'.cell? ⟨w.heap.size, 1, none⟩ = some (.int .i64 a2) ∧ w'.cell? ⟨w.heap.size + 1, 0, none⟩ = some (.int .i64 b1) ∧ w'.cell? ⟨w.heap.size + 1, 1, none⟩ = some (.int .i64 b2)) (go_keep) (fail)
            all_goals (go_wp2; go_meet)
            all_goals first | exact ⟨wr.heap.size, wr.heap.size + 1, rfl, rfl, by omega, by omega, by omega, by omega, by omega, by omega, by omega, by omega, by omega, by omega, by omega, ((hE.alloc _).alloc _).drew, At.drew ⟨two_second _ _ _, two_first _ _ _, At.alloc (At.alloc hA.out _) _⟩⟩ | exact ⟨wr.heap.size + 1, wr.heap.size, rfl, rfl, by omega, by omega, by omega, by omega, by omega, by omega, by omega, by omega, by omega, by omega, by omega, ((hE.alloc _).alloc _).drew, At.drew ⟨two_first _ _ _, two_second _ _ _, At.alloc (At.alloc hA.out _) _⟩⟩
          case rest =>
            obtain ⟨g15, g16, rfl, rfl, hne, l15, l16, o0, p0 , o1, p1 , o2, p2 , o3, p3, hEc, hAc⟩ := hcut
            have E4 := Lib.hid hEc
            have A4 := Lib.hid hAc
            clear hEc hAc
            obtain ⟨w4, hwc⟩ : ∃ x, x = wc := ⟨_, rfl⟩
            subst hwc
            obtain ⟨c4_0_0, c4_0_1, f4_0_0, f4_0_1⟩ := run_pair (At.at A4.out 0 rfl)
            have s4_0 : g16 < w4.heap.size := At.lt A4.out 0 rfl
            obtain ⟨c4_1_0, c4_1_1, f4_1_0, f4_1_1⟩ := run_pair (At.at A4.out 1 rfl)
            have s4_1 : g15 < w4.heap.size := At.lt A4.out 1 rfl
            obtain ⟨⟨c4_2_0, c4_2_1, c4_2_2, c4_2_3⟩, f4_2_0, f4_2_1, f4_2_2, f4_2_3⟩ := run_four (At.at A4.out 2 rfl)
            have s4_2 : w2.heap.size + 1 < w4.heap.size := At.lt A4.out 2 rfl
            obtain ⟨c4_3_0, c4_3_1, f4_3_0, f4_3_1⟩ := run_pair (At.at A4.out 3 rfl)
            have s4_3 : w2.heap.size < w4.heap.size := At.lt A4.out 3 rfl
            obtain ⟨⟨c4_4_0, c4_4_1, c4_4_2, c4_4_3⟩, f4_4_0, f4_4_1, f4_4_2, f4_4_3⟩ := run_four (At.at A4.out 4 rfl)
            have s4_4 : w.heap.size < w4.heap.size := At.lt A4.out 4 rfl
            obtain ⟨⟨c4_5_0, c4_5_1, c4_5_2, c4_5_3⟩, f4_5_0, f4_5_1, f4_5_2, f4_5_3⟩ := run_four (At.at A4.out 5 rfl)
            have s4_5 : w.heap.size + 1 < w4.heap.size := At.lt A4.out 5 rfl
            go_upto_region 15 with (first | (go_at_call 41; (with_reducible refine (K0.out _).mono ?_); rintro E w5 ⟨rfl, hb5⟩; have A5 := Lib.hid (show At w5 [(g16, Obj.cells #[.int .i64 b1, .int .i64 b2] 23), (g15, Obj.cells #[.int .i64 a1, .int .i64 a2] 23), (w2.heap.size + 1, Obj.cells #[.int .i64 s1, .int .i64 s2, .int .i64 s3, .int .i64 s4] 41), (w2.heap.size, Obj.cells #[.int .i64 xn, .int .i64 xd] 23), (w.heap.size, Obj.cells #[.int .i64 a1, .int .i64 a2, .int .i64 a3, .int .i64 a4] 41), (w.heap.size + 1, Obj.cells #[.int .i64 b1, .int .i64 b2, .int .i64 b3, .int .i64 b4] 41)] from At.ext hb5 A4.out); have E5 := Lib.hid ((E4.out).trans hb5); obtain ⟨c5_0_0, c5_0_1, f5_0_0, f5_0_1⟩ := run_pair (At.at A5.out 0 rfl); have s5_0 : g16 < w5.heap.size := At.lt A5.out 0 rfl; obtain ⟨c5_1_0, c5_1_1, f5_1_0, f5_1_1⟩ := run_pair (At.at A5.out 1 rfl); have s5_1 : g15 < w5.heap.size := At.lt A5.out 1 rfl; obtain ⟨⟨c5_2_0, c5_2_1, c5_2_2, c5_2_3⟩, f5_2_0, f5_2_1, f5_2_2, f5_2_3⟩ := run_four (At.at A5.out 2 rfl); have s5_2 : w2.heap.size + 1 < w5.heap.size := At.lt A5.out 2 rfl; obtain ⟨c5_3_0, c5_3_1, f5_3_0, f5_3_1⟩ := run_pair (At.at A5.out 3 rfl); have s5_3 : w2.heap.size < w5.heap.size := At.lt A5.out 3 rfl; obtain ⟨⟨c5_4_0, c5_4_1, c5_4_2, c5_4_3⟩, f5_4_0, f5_4_1, f5_4_2, f5_4_3⟩ := run_four (At.at A5.out 4 rfl); have s5_4 : w.heap.size < w5.heap.size := At.lt A5.out 4 rfl; obtain ⟨⟨c5_5_0, c5_5_1, c5_5_2, c5_5_3⟩, f5_5_0, f5_5_1, f5_5_2, f5_5_3⟩ := run_four (At.at A5.out 5 rfl); have s5_5 : w.heap.size + 1 < w5.heap.size := At.lt A5.out 5 rfl; (try clear c4_0_0 c4_0_1 f4_0_0 f4_0_1 c4_1_0 c4_1_1 f4_1_0 f4_1_1 c4_2_0 c4_2_1 c4_2_2 c4_2_3 f4_2_0 f4_2_1 f4_2_2 f4_2_3 c4_3_0 c4_3_1 f4_3_0 f4_3_1 c4_4_0 c4_4_1 c4_4_2 c4_4_3 f4_4_0 f4_4_1 f4_4_2 f4_4_3 c4_5_0 c4_5_1 c4_5_2 c4_5_3 f4_5_0 f4_5_1 f4_5_2 f4_5_3 s4_0 s4_1 s4_2 s4_3 s4_4 s4_5)))
            go_cut [12] (fun sx wx => ∃ nb : Bool, sx = .bool nb ∧ nb = (lk || ((xe == 0) && ((xn == s1) && (xd == s2)))) ∧ Ext w wx ∧ At wx [(w5.heap.size, Obj.cells #[.int .i64 xn, .int .i64 xd] 23), (g16, Obj.cells #[.int .i64 b1, .int .i64 b2] 23), (g15, Obj.cells #[.int .i64 a1, .int .i64 a2] 23), (w2.heap.size + 1, Obj.cells #[.int .i64 s1, .int .i64 s2, .int .i64 s3, .int .i64 s4] 41), (w2.heap.size, Obj.cells #[.int .i64 xn, .int .i64 xd] 23), (w.heap.size, Obj.cells #[.int .i64 a1, .int .i64 a2, .int .i64 a3, .int .i64 a4] 41), (w.heap.size + 1, Obj.cells #[.int .i64 b1, .int .i64 b2, .int .i64 b3, .int .i64 b4] 41)])
            case first =>
              cases lk
              · by_cases h_q : xe = 0
                · have qe : (xe == 0) = true := by simpa using h_q
                  clear h_q
                  cases q1 : (xn == s1)
                  · go_wp2
                    go_meet
                    case rel => exact ⟨_, rfl, by simp [*], ((((E5.out).alloc _)).alloc _), (At.alloc (show At _ [(w5.heap.size, Obj.cells #[.int .i64 xn, .int .i64 xd] 23), (g16, Obj.cells #[.int .i64 b1, .int .i64 b2] 23), (g15, Obj.cells #[.int .i64 a1, .int .i64 a2] 23), (w2.heap.size + 1, Obj.cells #[.int .i64 s1, .int .i64 s2, .int .i64 s3, .int .i64 s4] 41), (w2.heap.size, Obj.cells #[.int .i64 xn, .int .i64 xd] 23), (w.heap.size, Obj.cells #[.int .i64 a1, .int .i64 a2, .int .i64 a3, .int .i64 a4] 41), (w.heap.size + 1, Obj.cells #[.int .i64 b1, .int .i64 b2, .int .i64 b3, .int .i64 b4] 41)] from ⟨one_first _ _, At.alloc A5.out _⟩) _)⟩
                  · cases q2 : (xd == s2)
                    · go_wp2
                      go_meet
                      case rel => exact ⟨_, rfl, by simp [*], ((((E5.out).alloc _)).alloc _), (At.alloc (show At _ [(w5.heap.size, Obj.cells #[.int .i64 xn, .int .i64 xd] 23), (g16, Obj.cells #[.int .i64 b1, .int .i64 b2] 23), (g15, Obj.cells #[.int .i64 a1, .int .i64 a2] 23), (w2.heap.size + 1, Obj.cells #[.int .i64 s1, .int .i64 s2, .int .i64 s3, .int .i64 s4] 41), (w2.heap.size, Obj.cells #[.int .i64 xn, .int .i64 xd] 23), (w.heap.size, Obj.cells #[.int .i64 a1, .int .i64 a2, .int .i64 a3, .int .i64 a4] 41), (w.heap.size + 1, Obj.cells #[.int .i64 b1, .int .i64 b2, .int .i64 b3, .int .i64 b4] 41)] from ⟨one_first _ _, At.alloc A5.out _⟩) _)⟩
                    · go_wp2
                      go_meet
                      case rel => exact ⟨_, rfl, by simp [*], ((((E5.out).alloc _)).alloc _), (At.alloc (show At _ [(w5.heap.size, Obj.cells #[.int .i64 xn, .int .i64 xd] 23), (g16, Obj.cells #[.int .i64 b1, .int .i64 b2] 23), (g15, Obj.cells #[.int .i64 a1, .int .i64 a2] 23), (w2.heap.size + 1, Obj.cells #[.int .i64 s1, .int .i64 s2, .int .i64 s3, .int .i64 s4] 41), (w2.heap.size, Obj.cells #[.int .i64 xn, .int .i64 xd] 23), (w.heap.size, Obj.cells #[.int .i64 a1, .int .i64 a2, .int .i64 a3, .int .i64 a4] 41), (w.heap.size + 1, Obj.cells #[.int .i64 b1, .int .i64 b2, .int .i64 b3, .int .i64 b4] 41)] from ⟨one_first _ _, At.alloc A5.out _⟩) _)⟩
                · have qe : (xe == 0) = false := by simpa using h_q
                  clear h_q
                  go_wp2
                  go_meet
                  case rel => exact ⟨_, rfl, by simp [*], ((((E5.out).alloc _)).alloc _), (At.alloc (show At _ [(w5.heap.size, Obj.cells #[.int .i64 xn, .int .i64 xd] 23), (g16, Obj.cells #[.int .i64 b1, .int .i64 b2] 23), (g15, Obj.cells #[.int .i64 a1, .int .i64 a2] 23), (w2.heap.size + 1, Obj.cells #[.int .i64 s1, .int .i64 s2, .int .i64 s3, .int .i64 s4] 41), (w2.heap.size, Obj.cells #[.int .i64 xn, .int .i64 xd] 23), (w.heap.size, Obj.cells #[.int .i64 a1, .int .i64 a2, .int .i64 a3, .int .i64 a4] 41), (w.heap.size + 1, Obj.cells #[.int .i64 b1, .int .i64 b2, .int .i64 b3, .int .i64 b4] 41)] from ⟨one_first _ _, At.alloc A5.out _⟩) _)⟩
              · go_wp2
                go_meet
                case rel => exact ⟨_, rfl, by simp [*], ((((E5.out).alloc _)).alloc _), (At.alloc (show At _ [(w5.heap.size, Obj.cells #[.int .i64 xn, .int .i64 xd] 23), (g16, Obj.cells #[.int .i64 b1, .int .i64 b2] 23), (g15, Obj.cells #[.int .i64 a1, .int .i64 a2] 23), (w2.heap.size + 1, Obj.cells #[.int .i64 s1, .int .i64 s2, .int .i64 s3, .int .i64 s4] 41), (w2.heap.size, Obj.cells #[.int .i64 xn, .int .i64 xd] 23), (w.heap.size, Obj.cells #[.int .i64 a1, .int .i64 a2, .int .i64 a3, .int .i64 a4] 41), (w.heap.size + 1, Obj.cells #[.int .i64 b1, .int .i64 b2, .int .i64 b3, .int .i64 b4] 41)] from ⟨one_first _ _, At.alloc A5.out _⟩) _)⟩
            case rest =>
            obtain ⟨nl, rfl, hHL1, hEc, hAc⟩ := hcut
            have HL1 := Lib.hid hHL1
            clear hHL1
            have E6 := Lib.hid hEc
            have A6 := Lib.hid hAc
            clear hEc hAc
            obtain ⟨w6, hwc⟩ : ∃ x, x = wc := ⟨_, rfl⟩
            subst hwc
            obtain ⟨c6_0_0, c6_0_1, f6_0_0, f6_0_1⟩ := run_pair (At.at A6.out 0 rfl)
            have s6_0 : w5.heap.size < w6.heap.size := At.lt A6.out 0 rfl
            obtain ⟨c6_1_0, c6_1_1, f6_1_0, f6_1_1⟩ := run_pair (At.at A6.out 1 rfl)
            have s6_1 : g16 < w6.heap.size := At.lt A6.out 1 rfl
            obtain ⟨c6_2_0, c6_2_1, f6_2_0, f6_2_1⟩ := run_pair (At.at A6.out 2 rfl)
            have s6_2 : g15 < w6.heap.size := At.lt A6.out 2 rfl
            obtain ⟨⟨c6_3_0, c6_3_1, c6_3_2, c6_3_3⟩, f6_3_0, f6_3_1, f6_3_2, f6_3_3⟩ := run_four (At.at A6.out 3 rfl)
            have s6_3 : w2.heap.size + 1 < w6.heap.size := At.lt A6.out 3 rfl
            obtain ⟨c6_4_0, c6_4_1, f6_4_0, f6_4_1⟩ := run_pair (At.at A6.out 4 rfl)
            have s6_4 : w2.heap.size < w6.heap.size := At.lt A6.out 4 rfl
            obtain ⟨⟨c6_5_0, c6_5_1, c6_5_2, c6_5_3⟩, f6_5_0, f6_5_1, f6_5_2, f6_5_3⟩ := run_four (At.at A6.out 5 rfl)
            have s6_5 : w.heap.size < w6.heap.size := At.lt A6.out 5 rfl
            obtain ⟨⟨c6_6_0, c6_6_1, c6_6_2, c6_6_3⟩, f6_6_0, f6_6_1, f6_6_2, f6_6_3⟩ := run_four (At.at A6.out 6 rfl)
            have s6_6 : w.heap.size + 1 < w6.heap.size := At.lt A6.out 6 rfl
            cases hk
            · by_cases h_q : xe = 0
              · have qe : (xe == 0) = true := by simpa using h_q
                clear h_q
                cases q1 : (xn == s3)
                · go_wp2
                  go_roundw
                  case rel => exact ⟨E6.out, 1, by omega, congrArg Value.bool (by rw [HL1.out, HLK.out]; exact (lowF_step_0 _ _ _ _ _).symm), congrArg Value.bool (by rw [lowF_step_0, ← HHK.out]; simp [*]), ⟨_, rfl, by omega⟩, Lib.hid (At.erase (At.erase (At.erase A6.out 0) 0) 0)⟩
                  case measure => simp [intOf]
                · cases q2 : (xd == s4)
                  · go_wp2
                    go_roundw
                    case rel => exact ⟨E6.out, 1, by omega, congrArg Value.bool (by rw [HL1.out, HLK.out]; exact (lowF_step_0 _ _ _ _ _).symm), congrArg Value.bool (by rw [lowF_step_0, ← HHK.out]; simp [*]), ⟨_, rfl, by omega⟩, Lib.hid (At.erase (At.erase (At.erase A6.out 0) 0) 0)⟩
                    case measure => simp [intOf]
                  · go_wp2
                    go_roundw
                    case rel => exact ⟨E6.out, 1, by omega, congrArg Value.bool (by rw [HL1.out, HLK.out]; exact (lowF_step_0 _ _ _ _ _).symm), congrArg Value.bool (by rw [lowF_step_0, ← HHK.out]; simp [*]), ⟨_, rfl, by omega⟩, Lib.hid (At.erase (At.erase (At.erase A6.out 0) 0) 0)⟩
                    case measure => simp [intOf]
              · have qe : (xe == 0) = false := by simpa using h_q
                clear h_q
                go_wp2
                go_roundw
                case rel => exact ⟨E6.out, 1, by omega, congrArg Value.bool (by rw [HL1.out, HLK.out]; exact (lowF_step_0 _ _ _ _ _).symm), congrArg Value.bool (by rw [lowF_step_0, ← HHK.out]; simp [*]), ⟨_, rfl, by omega⟩, Lib.hid (At.erase (At.erase (At.erase A6.out 0) 0) 0)⟩
                case measure => simp [intOf]
            · go_wp2
              go_roundw
              case rel => exact ⟨E6.out, 1, by omega, congrArg Value.bool (by rw [HL1.out, HLK.out]; exact (lowF_step_0 _ _ _ _ _).symm), congrArg Value.bool (by rw [lowF_step_0, ← HHK.out]; simp [*]), ⟨_, rfl, by omega⟩, Lib.hid (At.erase (At.erase (At.erase A6.out 0) 0) 0)⟩
              case measure => simp [intOf]
        · obtain rfl : v = 1 := by omega
          clear hv hk hk4
          obtain ⟨lk, hlk⟩ : ∃ b, lowF (⟨xn, xd⟩, xe) (⟨yn, yd⟩, ye) (⟨zn, zd⟩, ze) (⟨un, ud⟩, ue) ⟨s1, s2⟩ 1 = b := ⟨_, rfl⟩
          obtain ⟨hk, hhk⟩ : ∃ b, lowF (⟨xn, xd⟩, xe) (⟨yn, yd⟩, ye) (⟨zn, zd⟩, ze) (⟨un, ud⟩, ue) ⟨s3, s4⟩ 1 = b := ⟨_, rfl⟩
          rw [hlk, hhk]
          have HLK := Lib.hid hlk.symm
          have HHK := Lib.hid hhk.symm
          clear hlk hhk
          obtain ⟨⟨cc_0_0, cc_0_1, cc_0_2, cc_0_3⟩, ff_0_0, ff_0_1, ff_0_2, ff_0_3⟩ := run_four (At.at hA.out 0 rfl)
          have sr_0 : w2.heap.size + 1 < wr.heap.size := At.lt hA.out 0 rfl
          obtain ⟨cc_1_0, cc_1_1, ff_1_0, ff_1_1⟩ := run_pair (At.at hA.out 1 rfl)
          have sr_1 : w2.heap.size < wr.heap.size := At.lt hA.out 1 rfl
          obtain ⟨⟨cc_2_0, cc_2_1, cc_2_2, cc_2_3⟩, ff_2_0, ff_2_1, ff_2_2, ff_2_3⟩ := run_four (At.at hA.out 2 rfl)
          have sr_2 : w.heap.size < wr.heap.size := At.lt hA.out 2 rfl
          obtain ⟨⟨cc_3_0, cc_3_1, cc_3_2, cc_3_3⟩, ff_3_0, ff_3_1, ff_3_2, ff_3_3⟩ := run_four (At.at hA.out 3 rfl)
          have sr_3 : w.heap.size + 1 < wr.heap.size := At.lt hA.out 3 rfl
          go_upto_region 9 with fail
          go_cut [15, 16] (fun p q wx => ∃ g15 g16 : Nat, p = .pointer (some ⟨g15, 0, none⟩) ∧ q = .pointer (some ⟨g16, 0, none⟩) ∧ g15 ≠ g16 ∧ w.heap.size ≤ g15 ∧ w.heap.size ≤ g16 ∧ w2.heap.size + 1 < g15 ∧ w2.heap.size + 1 < g16 ∧ w2.heap.size < g15 ∧ w2.heap.size < g16 ∧ w.heap.size < g15 ∧ w.heap.size < g16 ∧ w.heap.size + 1 < g15 ∧ w.heap.size + 1 < g16 ∧ Ext w wx ∧ At wx [(g16, Obj.cells #[.int .i64 b1, .int .i64 b2] 23), (g15, Obj.cells #[.int .i64 a1, .int .i64 a2] 23), (w2.heap.size + 1, Obj.cells #[.int .i64 s1, .int .i64 s2, .int .i64 s3, .int .i64 s4] 41), (w2.heap.size, Obj.cells #[.int .i64 xn, .int .i64 xd] 23), (w.heap.size, Obj.cells #[.int .i64 a1, .int .i64 a2, .int .i64 a3, .int .i64 a4] 41), (w.heap.size + 1, Obj.cells #[.int .i64 b1, .int .i64 b2, .int .i64 b3, .int .i64 b4] 41)])
          case first =>
            go_region_held3 (fun w' => w'.cell? ⟨w.heap.size, 0, none⟩ = some (.int .i64 a1) ∧ w'.cell? ⟨w.heap.size, 1, none⟩ = some (.int .i64 a2) ∧ w'.cell? ⟨w.heap.size + 1, 0, none⟩ = some (.int .i64 b1) ∧ w'.cell? ⟨w.heap.size + 1, 1, none⟩ = some (.int .i64 b2)) (go_keep) (fail)
            all_goals (go_wp2; go_meet)
            all_goals first | exact ⟨wr.heap.size, wr.heap.size + 1, rfl, rfl, by omega, by omega, by omega, by omega, by omega, by omega, by omega, by omega, by omega, by omega, by omega, ((hE.alloc _).alloc _).drew, At.drew ⟨two_second _ _ _, two_first _ _ _, At.alloc (At.alloc hA.out _) _⟩⟩ | exact ⟨wr.heap.size + 1, wr.heap.size, rfl, rfl, by omega, by omega, by omega, by omega, by omega, by omega, by omega, by omega, by omega, by omega, by omega, ((hE.alloc _).alloc _).drew, At.drew ⟨two_first _ _ _, two_second _ _ _, At.alloc (At.alloc hA.out _) _⟩⟩
          case rest =>
            obtain ⟨g15, g16, rfl, rfl, hne, l15, l16, o0, p0 , o1, p1 , o2, p2 , o3, p3, hEc, hAc⟩ := hcut
            have E4 := Lib.hid hEc
            have A4 := Lib.hid hAc
            clear hEc hAc
            obtain ⟨w4, hwc⟩ : ∃ x, x = wc := ⟨_, rfl⟩
            subst hwc
            obtain ⟨c4_0_0, c4_0_1, f4_0_0, f4_0_1⟩ := run_pair (At.at A4.out 0 rfl)
            have s4_0 : g16 < w4.heap.size := At.lt A4.out 0 rfl
            obtain ⟨c4_1_0, c4_1_1, f4_1_0, f4_1_1⟩ := run_pair (At.at A4.out 1 rfl)
            have s4_1 : g15 < w4.heap.size := At.lt A4.out 1 rfl
            obtain ⟨⟨c4_2_0, c4_2_1, c4_2_2, c4_2_3⟩, f4_2_0, f4_2_1, f4_2_2, f4_2_3⟩ := run_four (At.at A4.out 2 rfl)
            have s4_2 : w2.heap.size + 1 < w4.heap.size := At.lt A4.out 2 rfl
            obtain ⟨c4_3_0, c4_3_1, f4_3_0, f4_3_1⟩ := run_pair (At.at A4.out 3 rfl)
            have s4_3 : w2.heap.size < w4.heap.size := At.lt A4.out 3 rfl
            obtain ⟨⟨c4_4_0, c4_4_1, c4_4_2, c4_4_3⟩, f4_4_0, f4_4_1, f4_4_2, f4_4_3⟩ := run_four (At.at A4.out 4 rfl)
            have s4_4 : w.heap.size < w4.heap.size := At.lt A4.out 4 rfl
            obtain ⟨⟨c4_5_0, c4_5_1, c4_5_2, c4_5_3⟩, f4_5_0, f4_5_1, f4_5_2, f4_5_3⟩ := run_four (At.at A4.out 5 rfl)
            have s4_5 : w.heap.size + 1 < w4.heap.size := At.lt A4.out 5 rfl
            go_upto_region 15 with (first | (go_at_call 41; (with_reducible refine (K1.out _).mono ?_); rintro E w5 ⟨rfl, hb5⟩; have A5 := Lib.hid (show At w5 [(g15, Obj.cells #[.int .i64 a3, .int .i64 a4] 23), (g16, Obj.cells #[.int .i64 b1, .int .i64 b2] 23), (w2.heap.size + 1, Obj.cells #[.int .i64 s1, .int .i64 s2, .int .i64 s3, .int .i64 s4] 41), (w2.heap.size, Obj.cells #[.int .i64 xn, .int .i64 xd] 23), (w.heap.size, Obj.cells #[.int .i64 a1, .int .i64 a2, .int .i64 a3, .int .i64 a4] 41), (w.heap.size + 1, Obj.cells #[.int .i64 b1, .int .i64 b2, .int .i64 b3, .int .i64 b4] 41)] from At.ext hb5 (show At _ [(g15, Obj.cells #[.int .i64 a3, .int .i64 a4] 23), (g16, Obj.cells #[.int .i64 b1, .int .i64 b2] 23), (w2.heap.size + 1, Obj.cells #[.int .i64 s1, .int .i64 s2, .int .i64 s3, .int .i64 s4] 41), (w2.heap.size, Obj.cells #[.int .i64 xn, .int .i64 xd] 23), (w.heap.size, Obj.cells #[.int .i64 a1, .int .i64 a2, .int .i64 a3, .int .i64 a4] 41), (w.heap.size + 1, Obj.cells #[.int .i64 b1, .int .i64 b2, .int .i64 b3, .int .i64 b4] 41)] from ⟨(store_pair (v0 := .int .i64 a3) (v1 := .int .i64 a4) (At.at A4.out 1 rfl)).1, At.other (store_pair (v0 := .int .i64 a3) (v1 := .int .i64 a4) (At.at A4.out 1 rfl)).2.1 (by simp; omega) (At.erase A4.out 1)⟩)); have E5 := Lib.hid ((((store_pair (v0 := .int .i64 a3) (v1 := .int .i64 a4) (At.at A4.out 1 rfl)).2.2 w (by omega) E4.out)).trans hb5); obtain ⟨c5_0_0, c5_0_1, f5_0_0, f5_0_1⟩ := run_pair (At.at A5.out 0 rfl); have s5_0 : g15 < w5.heap.size := At.lt A5.out 0 rfl; obtain ⟨c5_1_0, c5_1_1, f5_1_0, f5_1_1⟩ := run_pair (At.at A5.out 1 rfl); have s5_1 : g16 < w5.heap.size := At.lt A5.out 1 rfl; obtain ⟨⟨c5_2_0, c5_2_1, c5_2_2, c5_2_3⟩, f5_2_0, f5_2_1, f5_2_2, f5_2_3⟩ := run_four (At.at A5.out 2 rfl); have s5_2 : w2.heap.size + 1 < w5.heap.size := At.lt A5.out 2 rfl; obtain ⟨c5_3_0, c5_3_1, f5_3_0, f5_3_1⟩ := run_pair (At.at A5.out 3 rfl); have s5_3 : w2.heap.size < w5.heap.size := At.lt A5.out 3 rfl; obtain ⟨⟨c5_4_0, c5_4_1, c5_4_2, c5_4_3⟩, f5_4_0, f5_4_1, f5_4_2, f5_4_3⟩ := run_four (At.at A5.out 4 rfl); have s5_4 : w.heap.size < w5.heap.size := At.lt A5.out 4 rfl; obtain ⟨⟨c5_5_0, c5_5_1, c5_5_2, c5_5_3⟩, f5_5_0, f5_5_1, f5_5_2, f5_5_3⟩ := run_four (At.at A5.out 5 rfl); have s5_5 : w.heap.size + 1 < w5.heap.size := At.lt A5.out 5 rfl; (try clear c4_0_0 c4_0_1 f4_0_0 f4_0_1 c4_1_0 c4_1_1 f4_1_0 f4_1_1 c4_2_0 c4_2_1 c4_2_2 c4_2_3 f4_2_0 f4_2_1 f4_2_2 f4_2_3 c4_3_0 c4_3_1 f4_3_0 f4_3_1 c4_4_0 c4_4_1 c4_4_2 c4_4_3 f4_4_0 f4_4_1 f4_4_2 f4_4_3 c4_5_0 c4_5_1 c4_5_2 c4_5_3 f4_5_0 f4_5_1 f4_5_2 f4_5_3 s4_0 s4_1 s4_2 s4_3 s4_4 s4_5)))
            go_cut [12] (fun sx wx => ∃ nb : Bool, sx = .bool nb ∧ nb = (lk || ((ye == 0) && ((yn == s1) && (yd == s2)))) ∧ Ext w wx ∧ At wx [(w5.heap.size, Obj.cells #[.int .i64 yn, .int .i64 yd] 23), (g15, Obj.cells #[.int .i64 a3, .int .i64 a4] 23), (g16, Obj.cells #[.int .i64 b1, .int .i64 b2] 23), (w2.heap.size + 1, Obj.cells #[.int .i64 s1, .int .i64 s2, .int .i64 s3, .int .i64 s4] 41), (w2.heap.size, Obj.cells #[.int .i64 xn, .int .i64 xd] 23), (w.heap.size, Obj.cells #[.int .i64 a1, .int .i64 a2, .int .i64 a3, .int .i64 a4] 41), (w.heap.size + 1, Obj.cells #[.int .i64 b1, .int .i64 b2, .int .i64 b3, .int .i64 b4] 41)])
            case first =>
              cases lk
              · by_cases h_q : ye = 0
                · have qe : (ye == 0) = true := by simpa using h_q
                  clear h_q
                  cases q1 : (yn == s1)
                  · go_wp2
                    go_meet
                    case rel => exact ⟨_, rfl, by simp [*], ((((E5.out).alloc _)).alloc _), (At.alloc (show At _ [(w5.heap.size, Obj.cells #[.int .i64 yn, .int .i64 yd] 23), (g15, Obj.cells #[.int .i64 a3, .int .i64 a4] 23), (g16, Obj.cells #[.int .i64 b1, .int .i64 b2] 23), (w2.heap.size + 1, Obj.cells #[.int .i64 s1, .int .i64 s2, .int .i64 s3, .int .i64 s4] 41), (w2.heap.size, Obj.cells #[.int .i64 xn, .int .i64 xd] 23), (w.heap.size, Obj.cells #[.int .i64 a1, .int .i64 a2, .int .i64 a3, .int .i64 a4] 41), (w.heap.size + 1, Obj.cells #[.int .i64 b1, .int .i64 b2, .int .i64 b3, .int .i64 b4] 41)] from ⟨one_first _ _, At.alloc A5.out _⟩) _)⟩
                  · cases q2 : (yd == s2)
                    · go_wp2
                      go_meet
                      case rel => exact ⟨_, rfl, by simp [*], ((((E5.out).alloc _)).alloc _), (At.alloc (show At _ [(w5.heap.size, Obj.cells #[.int .i64 yn, .int .i64 yd] 23), (g15, Obj.cells #[.int .i64 a3, .int .i64 a4] 23), (g16, Obj.cells #[.int .i64 b1, .int .i64 b2] 23), (w2.heap.size + 1, Obj.cells #[.int .i64 s1, .int .i64 s2, .int .i64 s3, .int .i64 s4] 41), (w2.heap.size, Obj.cells #[.int .i64 xn, .int .i64 xd] 23), (w.heap.size, Obj.cells #[.int .i64 a1, .int .i64 a2, .int .i64 a3, .int .i64 a4] 41), (w.heap.size + 1, Obj.cells #[.int .i64 b1, .int .i64 b2, .int .i64 b3, .int .i64 b4] 41)] from ⟨one_first _ _, At.alloc A5.out _⟩) _)⟩
                    · go_wp2
                      go_meet
                      case rel => exact ⟨_, rfl, by simp [*], ((((E5.out).alloc _)).alloc _), (At.alloc (show At _ [(w5.heap.size, Obj.cells #[.int .i64 yn, .int .i64 yd] 23), (g15, Obj.cells #[.int .i64 a3, .int .i64 a4] 23), (g16, Obj.cells #[.int .i64 b1, .int .i64 b2] 23), (w2.heap.size + 1, Obj.cells #[.int .i64 s1, .int .i64 s2, .int .i64 s3, .int .i64 s4] 41), (w2.heap.size, Obj.cells #[.int .i64 xn, .int .i64 xd] 23), (w.heap.size, Obj.cells #[.int .i64 a1, .int .i64 a2, .int .i64 a3, .int .i64 a4] 41), (w.heap.size + 1, Obj.cells #[.int .i64 b1, .int .i64 b2, .int .i64 b3, .int .i64 b4] 41)] from ⟨one_first _ _, At.alloc A5.out _⟩) _)⟩
                · have qe : (ye == 0) = false := by simpa using h_q
                  clear h_q
                  go_wp2
                  go_meet
                  case rel => exact ⟨_, rfl, by simp [*], ((((E5.out).alloc _)).alloc _), (At.alloc (show At _ [(w5.heap.size, Obj.cells #[.int .i64 yn, .int .i64 yd] 23), (g15, Obj.cells #[.int .i64 a3, .int .i64 a4] 23), (g16, Obj.cells #[.int .i64 b1, .int .i64 b2] 23), (w2.heap.size + 1, Obj.cells #[.int .i64 s1, .int .i64 s2, .int .i64 s3, .int .i64 s4] 41), (w2.heap.size, Obj.cells #[.int .i64 xn, .int .i64 xd] 23), (w.heap.size, Obj.cells #[.int .i64 a1, .int .i64 a2, .int .i64 a3, .int .i64 a4] 41), (w.heap.size + 1, Obj.cells #[.int .i64 b1, .int .i64 b2, .int .i64 b3, .int .i64 b4] 41)] from ⟨one_first _ _, At.alloc A5.out _⟩) _)⟩
              · go_wp2
                go_meet
                case rel => exact ⟨_, rfl, by simp [*], ((((E5.out).alloc _)).alloc _), (At.alloc (show At _ [(w5.heap.size, Obj.cells #[.int .i64 yn, .int .i64 yd] 23), (g15, Obj.cells #[.int .i64 a3, .int .i64 a4] 23), (g16, Obj.cells #[.int .i64 b1, .int .i64 b2] 23), (w2.heap.size + 1, Obj.cells #[.int .i64 s1, .int .i64 s2, .int .i64 s3, .int .i64 s4] 41), (w2.heap.size, Obj.cells #[.int .i64 xn, .int .i64 xd] 23), (w.heap.size, Obj.cells #[.int .i64 a1, .int .i64 a2, .int .i64 a3, .int .i64 a4] 41), (w.heap.size + 1, Obj.cells #[.int .i64 b1, .int .i64 b2, .int .i64 b3, .int .i64 b4] 41)] from ⟨one_first _ _, At.alloc A5.out _⟩) _)⟩
            case rest =>
            obtain ⟨nl, rfl, hHL1, hEc, hAc⟩ := hcut
            have HL1 := Lib.hid hHL1
            clear hHL1
            have E6 := Lib.hid hEc
            have A6 := Lib.hid hAc
            clear hEc hAc
            obtain ⟨w6, hwc⟩ : ∃ x, x = wc := ⟨_, rfl⟩
            subst hwc
            obtain ⟨c6_0_0, c6_0_1, f6_0_0, f6_0_1⟩ := run_pair (At.at A6.out 0 rfl)
            have s6_0 : w5.heap.size < w6.heap.size := At.lt A6.out 0 rfl
            obtain ⟨c6_1_0, c6_1_1, f6_1_0, f6_1_1⟩ := run_pair (At.at A6.out 1 rfl)
            have s6_1 : g15 < w6.heap.size := At.lt A6.out 1 rfl
            obtain ⟨c6_2_0, c6_2_1, f6_2_0, f6_2_1⟩ := run_pair (At.at A6.out 2 rfl)
            have s6_2 : g16 < w6.heap.size := At.lt A6.out 2 rfl
            obtain ⟨⟨c6_3_0, c6_3_1, c6_3_2, c6_3_3⟩, f6_3_0, f6_3_1, f6_3_2, f6_3_3⟩ := run_four (At.at A6.out 3 rfl)
            have s6_3 : w2.heap.size + 1 < w6.heap.size := At.lt A6.out 3 rfl
            obtain ⟨c6_4_0, c6_4_1, f6_4_0, f6_4_1⟩ := run_pair (At.at A6.out 4 rfl)
            have s6_4 : w2.heap.size < w6.heap.size := At.lt A6.out 4 rfl
            obtain ⟨⟨c6_5_0, c6_5_1, c6_5_2, c6_5_3⟩, f6_5_0, f6_5_1, f6_5_2, f6_5_3⟩ := run_four (At.at A6.out 5 rfl)
            have s6_5 : w.heap.size < w6.heap.size := At.lt A6.out 5 rfl
            obtain ⟨⟨c6_6_0, c6_6_1, c6_6_2, c6_6_3⟩, f6_6_0, f6_6_1, f6_6_2, f6_6_3⟩ := run_four (At.at A6.out 6 rfl)
            have s6_6 : w.heap.size + 1 < w6.heap.size := At.lt A6.out 6 rfl
            cases hk
            · by_cases h_q : ye = 0
              · have qe : (ye == 0) = true := by simpa using h_q
                clear h_q
                cases q1 : (yn == s3)
                · go_wp2
                  go_roundw
                  case rel => exact ⟨E6.out, 2, by omega, congrArg Value.bool (by rw [HL1.out, HLK.out]; exact (lowF_step_1 _ _ _ _ _).symm), congrArg Value.bool (by rw [lowF_step_1, ← HHK.out]; simp [*]), ⟨_, rfl, by omega⟩, Lib.hid (At.erase (At.erase (At.erase A6.out 0) 0) 0)⟩
                  case measure => simp [intOf]
                · cases q2 : (yd == s4)
                  · go_wp2
                    go_roundw
                    case rel => exact ⟨E6.out, 2, by omega, congrArg Value.bool (by rw [HL1.out, HLK.out]; exact (lowF_step_1 _ _ _ _ _).symm), congrArg Value.bool (by rw [lowF_step_1, ← HHK.out]; simp [*]), ⟨_, rfl, by omega⟩, Lib.hid (At.erase (At.erase (At.erase A6.out 0) 0) 0)⟩
                    case measure => simp [intOf]
                  · go_wp2
                    go_roundw
                    case rel => exact ⟨E6.out, 2, by omega, congrArg Value.bool (by rw [HL1.out, HLK.out]; exact (lowF_step_1 _ _ _ _ _).symm), congrArg Value.bool (by rw [lowF_step_1, ← HHK.out]; simp [*]), ⟨_, rfl, by omega⟩, Lib.hid (At.erase (At.erase (At.erase A6.out 0) 0) 0)⟩
                    case measure => simp [intOf]
              · have qe : (ye == 0) = false := by simpa using h_q
                clear h_q
                go_wp2
                go_roundw
                case rel => exact ⟨E6.out, 2, by omega, congrArg Value.bool (by rw [HL1.out, HLK.out]; exact (lowF_step_1 _ _ _ _ _).symm), congrArg Value.bool (by rw [lowF_step_1, ← HHK.out]; simp [*]), ⟨_, rfl, by omega⟩, Lib.hid (At.erase (At.erase (At.erase A6.out 0) 0) 0)⟩
                case measure => simp [intOf]
            · go_wp2
              go_roundw
              case rel => exact ⟨E6.out, 2, by omega, congrArg Value.bool (by rw [HL1.out, HLK.out]; exact (lowF_step_1 _ _ _ _ _).symm), congrArg Value.bool (by rw [lowF_step_1, ← HHK.out]; simp [*]), ⟨_, rfl, by omega⟩, Lib.hid (At.erase (At.erase (At.erase A6.out 0) 0) 0)⟩
              case measure => simp [intOf]
        · obtain rfl : v = 2 := by omega
          clear hv hk hk4
          obtain ⟨lk, hlk⟩ : ∃ b, lowF (⟨xn, xd⟩, xe) (⟨yn, yd⟩, ye) (⟨zn, zd⟩, ze) (⟨un, ud⟩, ue) ⟨s1, s2⟩ 2 = b := ⟨_, rfl⟩
          obtain ⟨hk, hhk⟩ : ∃ b, lowF (⟨xn, xd⟩, xe) (⟨yn, yd⟩, ye) (⟨zn, zd⟩, ze) (⟨un, ud⟩, ue) ⟨s3, s4⟩ 2 = b := ⟨_, rfl⟩
          rw [hlk, hhk]
          have HLK := Lib.hid hlk.symm
          have HHK := Lib.hid hhk.symm
          clear hlk hhk
          obtain ⟨⟨cc_0_0, cc_0_1, cc_0_2, cc_0_3⟩, ff_0_0, ff_0_1, ff_0_2, ff_0_3⟩ := run_four (At.at hA.out 0 rfl)
          have sr_0 : w2.heap.size + 1 < wr.heap.size := At.lt hA.out 0 rfl
          obtain ⟨cc_1_0, cc_1_1, ff_1_0, ff_1_1⟩ := run_pair (At.at hA.out 1 rfl)
          have sr_1 : w2.heap.size < wr.heap.size := At.lt hA.out 1 rfl
          obtain ⟨⟨cc_2_0, cc_2_1, cc_2_2, cc_2_3⟩, ff_2_0, ff_2_1, ff_2_2, ff_2_3⟩ := run_four (At.at hA.out 2 rfl)
          have sr_2 : w.heap.size < wr.heap.size := At.lt hA.out 2 rfl
          obtain ⟨⟨cc_3_0, cc_3_1, cc_3_2, cc_3_3⟩, ff_3_0, ff_3_1, ff_3_2, ff_3_3⟩ := run_four (At.at hA.out 3 rfl)
          have sr_3 : w.heap.size + 1 < wr.heap.size := At.lt hA.out 3 rfl
          go_upto_region 9 with fail
          go_cut [15, 16] (fun p q wx => ∃ g15 g16 : Nat, p = .pointer (some ⟨g15, 0, none⟩) ∧ q = .pointer (some ⟨g16, 0, none⟩) ∧ g15 ≠ g16 ∧ w.heap.size ≤ g15 ∧ w.heap.size ≤ g16 ∧ w2.heap.size + 1 < g15 ∧ w2.heap.size + 1 < g16 ∧ w2.heap.size < g15 ∧ w2.heap.size < g16 ∧ w.heap.size < g15 ∧ w.heap.size < g16 ∧ w.heap.size + 1 < g15 ∧ w.heap.size + 1 < g16 ∧ Ext w wx ∧ At wx [(g16, Obj.cells #[.int .i64 b1, .int .i64 b2] 23), (g15, Obj.cells #[.int .i64 a1, .int .i64 a2] 23), (w2.heap.size + 1, Obj.cells #[.int .i64 s1, .int .i64 s2, .int .i64 s3, .int .i64 s4] 41), (w2.heap.size, Obj.cells #[.int .i64 xn, .int .i64 xd] 23), (w.heap.size, Obj.cells #[.int .i64 a1, .int .i64 a2, .int .i64 a3, .int .i64 a4] 41), (w.heap.size + 1, Obj.cells #[.int .i64 b1, .int .i64 b2, .int .i64 b3, .int .i64 b4] 41)])
          case first =>
            go_region_held3 (fun w' => w'.cell? ⟨w.heap.size, 0, none⟩ = some (.int .i64 a1) ∧ w'.cell? ⟨w.heap.size, 1, none⟩ = some (.int .i64 a2) ∧ w'.cell? ⟨w.heap.size + 1, 0, none⟩ = some (.int .i64 b1) ∧ w'.cell? ⟨w.heap.size + 1, 1, none⟩ = some (.int .i64 b2)) (go_keep) (fail)
            all_goals (go_wp2; go_meet)
            all_goals first | exact ⟨wr.heap.size, wr.heap.size + 1, rfl, rfl, by omega, by omega, by omega, by omega, by omega, by omega, by omega, by omega, by omega, by omega, by omega, ((hE.alloc _).alloc _).drew, At.drew ⟨two_second _ _ _, two_first _ _ _, At.alloc (At.alloc hA.out _) _⟩⟩ | exact ⟨wr.heap.size + 1, wr.heap.size, rfl, rfl, by omega, by omega, by omega, by omega, by omega, by omega, by omega, by omega, by omega, by omega, by omega, ((hE.alloc _).alloc _).drew, At.drew ⟨two_first _ _ _, two_second _ _ _, At.alloc (At.alloc hA.out _) _⟩⟩
          case rest =>
            obtain ⟨g15, g16, rfl, rfl, hne, l15, l16, o0, p0 , o1, p1 , o2, p2 , o3, p3, hEc, hAc⟩ := hcut
            have E4 := Lib.hid hEc
            have A4 := Lib.hid hAc
            clear hEc hAc
            obtain ⟨w4, hwc⟩ : ∃ x, x = wc := ⟨_, rfl⟩
            subst hwc
            obtain ⟨c4_0_0, c4_0_1, f4_0_0, f4_0_1⟩ := run_pair (At.at A4.out 0 rfl)
            have s4_0 : g16 < w4.heap.size := At.lt A4.out 0 rfl
            obtain ⟨c4_1_0, c4_1_1, f4_1_0, f4_1_1⟩ := run_pair (At.at A4.out 1 rfl)
            have s4_1 : g15 < w4.heap.size := At.lt A4.out 1 rfl
            obtain ⟨⟨c4_2_0, c4_2_1, c4_2_2, c4_2_3⟩, f4_2_0, f4_2_1, f4_2_2, f4_2_3⟩ := run_four (At.at A4.out 2 rfl)
            have s4_2 : w2.heap.size + 1 < w4.heap.size := At.lt A4.out 2 rfl
            obtain ⟨c4_3_0, c4_3_1, f4_3_0, f4_3_1⟩ := run_pair (At.at A4.out 3 rfl)
            have s4_3 : w2.heap.size < w4.heap.size := At.lt A4.out 3 rfl
            obtain ⟨⟨c4_4_0, c4_4_1, c4_4_2, c4_4_3⟩, f4_4_0, f4_4_1, f4_4_2, f4_4_3⟩ := run_four (At.at A4.out 4 rfl)
            have s4_4 : w.heap.size < w4.heap.size := At.lt A4.out 4 rfl
            obtain ⟨⟨c4_5_0, c4_5_1, c4_5_2, c4_5_3⟩, f4_5_0, f4_5_1, f4_5_2, f4_5_3⟩ := run_four (At.at A4.out 5 rfl)
            have s4_5 : w.heap.size + 1 < w4.heap.size := At.lt A4.out 5 rfl
            go_upto_region 15 with (first | (go_at_call 41; (with_reducible refine (K2.out _).mono ?_); rintro E w5 ⟨rfl, hb5⟩; have A5 := Lib.hid (show At w5 [(g16, Obj.cells #[.int .i64 b3, .int .i64 b4] 23), (g15, Obj.cells #[.int .i64 a1, .int .i64 a2] 23), (w2.heap.size + 1, Obj.cells #[.int .i64 s1, .int .i64 s2, .int .i64 s3, .int .i64 s4] 41), (w2.heap.size, Obj.cells #[.int .i64 xn, .int .i64 xd] 23), (w.heap.size, Obj.cells #[.int .i64 a1, .int .i64 a2, .int .i64 a3, .int .i64 a4] 41), (w.heap.size + 1, Obj.cells #[.int .i64 b1, .int .i64 b2, .int .i64 b3, .int .i64 b4] 41)] from At.ext hb5 (show At _ [(g16, Obj.cells #[.int .i64 b3, .int .i64 b4] 23), (g15, Obj.cells #[.int .i64 a1, .int .i64 a2] 23), (w2.heap.size + 1, Obj.cells #[.int .i64 s1, .int .i64 s2, .int .i64 s3, .int .i64 s4] 41), (w2.heap.size, Obj.cells #[.int .i64 xn, .int .i64 xd] 23), (w.heap.size, Obj.cells #[.int .i64 a1, .int .i64 a2, .int .i64 a3, .int .i64 a4] 41), (w.heap.size + 1, Obj.cells #[.int .i64 b1, .int .i64 b2, .int .i64 b3, .int .i64 b4] 41)] from ⟨(store_pair (v0 := .int .i64 b3) (v1 := .int .i64 b4) (At.at A4.out 0 rfl)).1, At.other (store_pair (v0 := .int .i64 b3) (v1 := .int .i64 b4) (At.at A4.out 0 rfl)).2.1 (by simp; omega) (At.erase A4.out 0)⟩)); have E5 := Lib.hid ((((store_pair (v0 := .int .i64 b3) (v1 := .int .i64 b4) (At.at A4.out 0 rfl)).2.2 w (by omega) E4.out)).trans hb5); obtain ⟨c5_0_0, c5_0_1, f5_0_0, f5_0_1⟩ := run_pair (At.at A5.out 0 rfl); have s5_0 : g16 < w5.heap.size := At.lt A5.out 0 rfl; obtain ⟨c5_1_0, c5_1_1, f5_1_0, f5_1_1⟩ := run_pair (At.at A5.out 1 rfl); have s5_1 : g15 < w5.heap.size := At.lt A5.out 1 rfl; obtain ⟨⟨c5_2_0, c5_2_1, c5_2_2, c5_2_3⟩, f5_2_0, f5_2_1, f5_2_2, f5_2_3⟩ := run_four (At.at A5.out 2 rfl); have s5_2 : w2.heap.size + 1 < w5.heap.size := At.lt A5.out 2 rfl; obtain ⟨c5_3_0, c5_3_1, f5_3_0, f5_3_1⟩ := run_pair (At.at A5.out 3 rfl); have s5_3 : w2.heap.size < w5.heap.size := At.lt A5.out 3 rfl; obtain ⟨⟨c5_4_0, c5_4_1, c5_4_2, c5_4_3⟩, f5_4_0, f5_4_1, f5_4_2, f5_4_3⟩ := run_four (At.at A5.out 4 rfl); have s5_4 : w.heap.size < w5.heap.size := At.lt A5.out 4 rfl; obtain ⟨⟨c5_5_0, c5_5_1, c5_5_2, c5_5_3⟩, f5_5_0, f5_5_1, f5_5_2, f5_5_3⟩ := run_four (At.at A5.out 5 rfl); have s5_5 : w.heap.size + 1 < w5.heap.size := At.lt A5.out 5 rfl; (try clear c4_0_0 c4_0_1 f4_0_0 f4_0_1 c4_1_0 c4_1_1 f4_1_0 f4_1_1 c4_2_0 c4_2_1 c4_2_2 c4_2_3 f4_2_0 f4_2_1 f4_2_2 f4_2_3 c4_3_0 c4_3_1 f4_3_0 f4_3_1 c4_4_0 c4_4_1 c4_4_2 c4_4_3 f4_4_0 f4_4_1 f4_4_2 f4_4_3 c4_5_0 c4_5_1 c4_5_2 c4_5_3 f4_5_0 f4_5_1 f4_5_2 f4_5_3 s4_0 s4_1 s4_2 s4_3 s4_4 s4_5)))
            go_cut [12] (fun sx wx => ∃ nb : Bool, sx = .bool nb ∧ nb = (lk || ((ze == 0) && ((zn == s1) && (zd == s2)))) ∧ Ext w wx ∧ At wx [(w5.heap.size, Obj.cells #[.int .i64 zn, .int .i64 zd] 23), (g16, Obj.cells #[.int .i64 b3, .int .i64 b4] 23), (g15, Obj.cells #[.int .i64 a1, .int .i64 a2] 23), (w2.heap.size + 1, Obj.cells #[.int .i64 s1, .int .i64 s2, .int .i64 s3, .int .i64 s4] 41), (w2.heap.size, Obj.cells #[.int .i64 xn, .int .i64 xd] 23), (w.heap.size, Obj.cells #[.int .i64 a1, .int .i64 a2, .int .i64 a3, .int .i64 a4] 41), (w.heap.size + 1, Obj.cells #[.int .i64 b1, .int .i64 b2, .int .i64 b3, .int .i64 b4] 41)])
            case first =>
              cases lk
              · by_cases h_q : ze = 0
                · have qe : (ze == 0) = true := by simpa using h_q
                  clear h_q
                  cases q1 : (zn == s1)
                  · go_wp2
                    go_meet
                    case rel => exact ⟨_, rfl, by simp [*], ((((E5.out).alloc _)).alloc _), (At.alloc (show At _ [(w5.heap.size, Obj.cells #[.int .i64 zn, .int .i64 zd] 23), (g16, Obj.cells #[.int .i64 b3, .int .i64 b4] 23), (g15, Obj.cells #[.int .i64 a1, .int .i64 a2] 23), (w2.heap.size + 1, Obj.cells #[.int .i64 s1, .int .i64 s2, .int .i64 s3, .int .i64 s4] 41), (w2.heap.size, Obj.cells #[.int .i64 xn, .int .i64 xd] 23), (w.heap.size, Obj.cells #[.int .i64 a1, .int .i64 a2, .int .i64 a3, .int .i64 a4] 41), (w.heap.size + 1, Obj.cells #[.int .i64 b1, .int .i64 b2, .int .i64 b3, .int .i64 b4] 41)] from ⟨one_first _ _, At.alloc A5.out _⟩) _)⟩
                  · cases q2 : (zd == s2)
                    · go_wp2
                      go_meet
                      case rel => exact ⟨_, rfl, by simp [*], ((((E5.out).alloc _)).alloc _), (At.alloc (show At _ [(w5.heap.size, Obj.cells #[.int .i64 zn, .int .i64 zd] 23), (g16, Obj.cells #[.int .i64 b3, .int .i64 b4] 23), (g15, Obj.cells #[.int .i64 a1, .int .i64 a2] 23), (w2.heap.size + 1, Obj.cells #[.int .i64 s1, .int .i64 s2, .int .i64 s3, .int .i64 s4] 41), (w2.heap.size, Obj.cells #[.int .i64 xn, .int .i64 xd] 23), (w.heap.size, Obj.cells #[.int .i64 a1, .int .i64 a2, .int .i64 a3, .int .i64 a4] 41), (w.heap.size + 1, Obj.cells #[.int .i64 b1, .int .i64 b2, .int .i64 b3, .int .i64 b4] 41)] from ⟨one_first _ _, At.alloc A5.out _⟩) _)⟩
                    · go_wp2
                      go_meet
                      case rel => exact ⟨_, rfl, by simp [*], ((((E5.out).alloc _)).alloc _), (At.alloc (show At _ [(w5.heap.size, Obj.cells #[.int .i64 zn, .int .i64 zd] 23), (g16, Obj.cells #[.int .i64 b3, .int .i64 b4] 23), (g15, Obj.cells #[.int .i64 a1, .int .i64 a2] 23), (w2.heap.size + 1, Obj.cells #[.int .i64 s1, .int .i64 s2, .int .i64 s3, .int .i64 s4] 41), (w2.heap.size, Obj.cells #[.int .i64 xn, .int .i64 xd] 23), (w.heap.size, Obj.cells #[.int .i64 a1, .int .i64 a2, .int .i64 a3, .int .i64 a4] 41), (w.heap.size + 1, Obj.cells #[.int .i64 b1, .int .i64 b2, .int .i64 b3, .int .i64 b4] 41)] from ⟨one_first _ _, At.alloc A5.out _⟩) _)⟩
                · have qe : (ze == 0) = false := by simpa using h_q
                  clear h_q
                  go_wp2
                  go_meet
                  case rel => exact ⟨_, rfl, by simp [*], ((((E5.out).alloc _)).alloc _), (At.alloc (show At _ [(w5.heap.size, Obj.cells #[.int .i64 zn, .int .i64 zd] 23), (g16, Obj.cells #[.int .i64 b3, .int .i64 b4] 23), (g15, Obj.cells #[.int .i64 a1, .int .i64 a2] 23), (w2.heap.size + 1, Obj.cells #[.int .i64 s1, .int .i64 s2, .int .i64 s3, .int .i64 s4] 41), (w2.heap.size, Obj.cells #[.int .i64 xn, .int .i64 xd] 23), (w.heap.size, Obj.cells #[.int .i64 a1, .int .i64 a2, .int .i64 a3, .int .i64 a4] 41), (w.heap.size + 1, Obj.cells #[.int .i64 b1, .int .i64 b2, .int .i64 b3, .int .i64 b4] 41)] from ⟨one_first _ _, At.alloc A5.out _⟩) _)⟩
              · go_wp2
                go_meet
                case rel => exact ⟨_, rfl, by simp [*], ((((E5.out).alloc _)).alloc _), (At.alloc (show At _ [(w5.heap.size, Obj.cells #[.int .i64 zn, .int .i64 zd] 23), (g16, Obj.cells #[.int .i64 b3, .int .i64 b4] 23), (g15, Obj.cells #[.int .i64 a1, .int .i64 a2] 23), (w2.heap.size + 1, Obj.cells #[.int .i64 s1, .int .i64 s2, .int .i64 s3, .int .i64 s4] 41), (w2.heap.size, Obj.cells #[.int .i64 xn, .int .i64 xd] 23), (w.heap.size, Obj.cells #[.int .i64 a1, .int .i64 a2, .int .i64 a3, .int .i64 a4] 41), (w.heap.size + 1, Obj.cells #[.int .i64 b1, .int .i64 b2, .int .i64 b3, .int .i64 b4] 41)] from ⟨one_first _ _, At.alloc A5.out _⟩) _)⟩
            case rest =>
            obtain ⟨nl, rfl, hHL1, hEc, hAc⟩ := hcut
            have HL1 := Lib.hid hHL1
            clear hHL1
            have E6 := Lib.hid hEc
            have A6 := Lib.hid hAc
            clear hEc hAc
            obtain ⟨w6, hwc⟩ : ∃ x, x = wc := ⟨_, rfl⟩
            subst hwc
            obtain ⟨c6_0_0, c6_0_1, f6_0_0, f6_0_1⟩ := run_pair (At.at A6.out 0 rfl)
            have s6_0 : w5.heap.size < w6.heap.size := At.lt A6.out 0 rfl
            obtain ⟨c6_1_0, c6_1_1, f6_1_0, f6_1_1⟩ := run_pair (At.at A6.out 1 rfl)
            have s6_1 : g16 < w6.heap.size := At.lt A6.out 1 rfl
            obtain ⟨c6_2_0, c6_2_1, f6_2_0, f6_2_1⟩ := run_pair (At.at A6.out 2 rfl)
            have s6_2 : g15 < w6.heap.size := At.lt A6.out 2 rfl
            obtain ⟨⟨c6_3_0, c6_3_1, c6_3_2, c6_3_3⟩, f6_3_0, f6_3_1, f6_3_2, f6_3_3⟩ := run_four (At.at A6.out 3 rfl)
            have s6_3 : w2.heap.size + 1 < w6.heap.size := At.lt A6.out 3 rfl
            obtain ⟨c6_4_0, c6_4_1, f6_4_0, f6_4_1⟩ := run_pair (At.at A6.out 4 rfl)
            have s6_4 : w2.heap.size < w6.heap.size := At.lt A6.out 4 rfl
            obtain ⟨⟨c6_5_0, c6_5_1, c6_5_2, c6_5_3⟩, f6_5_0, f6_5_1, f6_5_2, f6_5_3⟩ := run_four (At.at A6.out 5 rfl)
            have s6_5 : w.heap.size < w6.heap.size := At.lt A6.out 5 rfl
            obtain ⟨⟨c6_6_0, c6_6_1, c6_6_2, c6_6_3⟩, f6_6_0, f6_6_1, f6_6_2, f6_6_3⟩ := run_four (At.at A6.out 6 rfl)
            have s6_6 : w.heap.size + 1 < w6.heap.size := At.lt A6.out 6 rfl
            cases hk
            · by_cases h_q : ze = 0
              · have qe : (ze == 0) = true := by simpa using h_q
                clear h_q
                cases q1 : (zn == s3)
                · go_wp2
                  go_roundw
                  case rel => exact ⟨E6.out, 3, by omega, congrArg Value.bool (by rw [HL1.out, HLK.out]; exact (lowF_step_2 _ _ _ _ _).symm), congrArg Value.bool (by rw [lowF_step_2, ← HHK.out]; simp [*]), ⟨_, rfl, by omega⟩, Lib.hid (At.erase (At.erase (At.erase A6.out 0) 0) 0)⟩
                  case measure => simp [intOf]
                · cases q2 : (zd == s4)
                  · go_wp2
                    go_roundw
                    case rel => exact ⟨E6.out, 3, by omega, congrArg Value.bool (by rw [HL1.out, HLK.out]; exact (lowF_step_2 _ _ _ _ _).symm), congrArg Value.bool (by rw [lowF_step_2, ← HHK.out]; simp [*]), ⟨_, rfl, by omega⟩, Lib.hid (At.erase (At.erase (At.erase A6.out 0) 0) 0)⟩
                    case measure => simp [intOf]
                  · go_wp2
                    go_roundw
                    case rel => exact ⟨E6.out, 3, by omega, congrArg Value.bool (by rw [HL1.out, HLK.out]; exact (lowF_step_2 _ _ _ _ _).symm), congrArg Value.bool (by rw [lowF_step_2, ← HHK.out]; simp [*]), ⟨_, rfl, by omega⟩, Lib.hid (At.erase (At.erase (At.erase A6.out 0) 0) 0)⟩
                    case measure => simp [intOf]
              · have qe : (ze == 0) = false := by simpa using h_q
                clear h_q
                go_wp2
                go_roundw
                case rel => exact ⟨E6.out, 3, by omega, congrArg Value.bool (by rw [HL1.out, HLK.out]; exact (lowF_step_2 _ _ _ _ _).symm), congrArg Value.bool (by rw [lowF_step_2, ← HHK.out]; simp [*]), ⟨_, rfl, by omega⟩, Lib.hid (At.erase (At.erase (At.erase A6.out 0) 0) 0)⟩
                case measure => simp [intOf]
            · go_wp2
              go_roundw
              case rel => exact ⟨E6.out, 3, by omega, congrArg Value.bool (by rw [HL1.out, HLK.out]; exact (lowF_step_2 _ _ _ _ _).symm), congrArg Value.bool (by rw [lowF_step_2, ← HHK.out]; simp [*]), ⟨_, rfl, by omega⟩, Lib.hid (At.erase (At.erase (At.erase A6.out 0) 0) 0)⟩
              case measure => simp [intOf]
        · obtain rfl : v = 3 := by omega
          clear hv hk hk4
          obtain ⟨lk, hlk⟩ : ∃ b, lowF (⟨xn, xd⟩, xe) (⟨yn, yd⟩, ye) (⟨zn, zd⟩, ze) (⟨un, ud⟩, ue) ⟨s1, s2⟩ 3 = b := ⟨_, rfl⟩
          obtain ⟨hk, hhk⟩ : ∃ b, lowF (⟨xn, xd⟩, xe) (⟨yn, yd⟩, ye) (⟨zn, zd⟩, ze) (⟨un, ud⟩, ue) ⟨s3, s4⟩ 3 = b := ⟨_, rfl⟩
          rw [hlk, hhk]
          have HLK := Lib.hid hlk.symm
          have HHK := Lib.hid hhk.symm
          clear hlk hhk
          obtain ⟨⟨cc_0_0, cc_0_1, cc_0_2, cc_0_3⟩, ff_0_0, ff_0_1, ff_0_2, ff_0_3⟩ := run_four (At.at hA.out 0 rfl)
          have sr_0 : w2.heap.size + 1 < wr.heap.size := At.lt hA.out 0 rfl
          obtain ⟨cc_1_0, cc_1_1, ff_1_0, ff_1_1⟩ := run_pair (At.at hA.out 1 rfl)
          have sr_1 : w2.heap.size < wr.heap.size := At.lt hA.out 1 rfl
          obtain ⟨⟨cc_2_0, cc_2_1, cc_2_2, cc_2_3⟩, ff_2_0, ff_2_1, ff_2_2, ff_2_3⟩ := run_four (At.at hA.out 2 rfl)
          have sr_2 : w.heap.size < wr.heap.size := At.lt hA.out 2 rfl
          obtain ⟨⟨cc_3_0, cc_3_1, cc_3_2, cc_3_3⟩, ff_3_0, ff_3_1, ff_3_2, ff_3_3⟩ := run_four (At.at hA.out 3 rfl)
          have sr_3 : w.heap.size + 1 < wr.heap.size := At.lt hA.out 3 rfl
          go_upto_region 9 with fail
          go_cut [15, 16] (fun p q wx => ∃ g15 g16 : Nat, p = .pointer (some ⟨g15, 0, none⟩) ∧ q = .pointer (some ⟨g16, 0, none⟩) ∧ g15 ≠ g16 ∧ w.heap.size ≤ g15 ∧ w.heap.size ≤ g16 ∧ w2.heap.size + 1 < g15 ∧ w2.heap.size + 1 < g16 ∧ w2.heap.size < g15 ∧ w2.heap.size < g16 ∧ w.heap.size < g15 ∧ w.heap.size < g16 ∧ w.heap.size + 1 < g15 ∧ w.heap.size + 1 < g16 ∧ Ext w wx ∧ At wx [(g16, Obj.cells #[.int .i64 b1, .int .i64 b2] 23), (g15, Obj.cells #[.int .i64 a1, .int .i64 a2] 23), (w2.heap.size + 1, Obj.cells #[.int .i64 s1, .int .i64 s2, .int .i64 s3, .int .i64 s4] 41), (w2.heap.size, Obj.cells #[.int .i64 xn, .int .i64 xd] 23), (w.heap.size, Obj.cells #[.int .i64 a1, .int .i64 a2, .int .i64 a3, .int .i64 a4] 41), (w.heap.size + 1, Obj.cells #[.int .i64 b1, .int .i64 b2, .int .i64 b3, .int .i64 b4] 41)])
          case first =>
            go_region_held3 (fun w' => w'.cell? ⟨w.heap.size, 0, none⟩ = some (.int .i64 a1) ∧ w'.cell? ⟨w.heap.size, 1, none⟩ = some (.int .i64 a2) ∧ w'.cell? ⟨w.heap.size + 1, 0, none⟩ = some (.int .i64 b1) ∧ w'.cell? ⟨w.heap.size + 1, 1, none⟩ = some (.int .i64 b2)) (go_keep) (fail)
            all_goals (go_wp2; go_meet)
            all_goals first | exact ⟨wr.heap.size, wr.heap.size + 1, rfl, rfl, by omega, by omega, by omega, by omega, by omega, by omega, by omega, by omega, by omega, by omega, by omega, ((hE.alloc _).alloc _).drew, At.drew ⟨two_second _ _ _, two_first _ _ _, At.alloc (At.alloc hA.out _) _⟩⟩ | exact ⟨wr.heap.size + 1, wr.heap.size, rfl, rfl, by omega, by omega, by omega, by omega, by omega, by omega, by omega, by omega, by omega, by omega, by omega, ((hE.alloc _).alloc _).drew, At.drew ⟨two_first _ _ _, two_second _ _ _, At.alloc (At.alloc hA.out _) _⟩⟩
          case rest =>
            obtain ⟨g15, g16, rfl, rfl, hne, l15, l16, o0, p0 , o1, p1 , o2, p2 , o3, p3, hEc, hAc⟩ := hcut
            have E4 := Lib.hid hEc
            have A4 := Lib.hid hAc
            clear hEc hAc
            obtain ⟨w4, hwc⟩ : ∃ x, x = wc := ⟨_, rfl⟩
            subst hwc
            obtain ⟨c4_0_0, c4_0_1, f4_0_0, f4_0_1⟩ := run_pair (At.at A4.out 0 rfl)
            have s4_0 : g16 < w4.heap.size := At.lt A4.out 0 rfl
            obtain ⟨c4_1_0, c4_1_1, f4_1_0, f4_1_1⟩ := run_pair (At.at A4.out 1 rfl)
            have s4_1 : g15 < w4.heap.size := At.lt A4.out 1 rfl
            obtain ⟨⟨c4_2_0, c4_2_1, c4_2_2, c4_2_3⟩, f4_2_0, f4_2_1, f4_2_2, f4_2_3⟩ := run_four (At.at A4.out 2 rfl)
            have s4_2 : w2.heap.size + 1 < w4.heap.size := At.lt A4.out 2 rfl
            obtain ⟨c4_3_0, c4_3_1, f4_3_0, f4_3_1⟩ := run_pair (At.at A4.out 3 rfl)
            have s4_3 : w2.heap.size < w4.heap.size := At.lt A4.out 3 rfl
            obtain ⟨⟨c4_4_0, c4_4_1, c4_4_2, c4_4_3⟩, f4_4_0, f4_4_1, f4_4_2, f4_4_3⟩ := run_four (At.at A4.out 4 rfl)
            have s4_4 : w.heap.size < w4.heap.size := At.lt A4.out 4 rfl
            obtain ⟨⟨c4_5_0, c4_5_1, c4_5_2, c4_5_3⟩, f4_5_0, f4_5_1, f4_5_2, f4_5_3⟩ := run_four (At.at A4.out 5 rfl)
            have s4_5 : w.heap.size + 1 < w4.heap.size := At.lt A4.out 5 rfl
            go_upto_region 15 with (first | (go_at_call 41; (with_reducible refine (K3.out _).mono ?_); rintro E w5 ⟨rfl, hb5⟩; have A5 := Lib.hid (show At w5 [(g16, Obj.cells #[.int .i64 b3, .int .i64 b4] 23), (g15, Obj.cells #[.int .i64 a3, .int .i64 a4] 23), (w2.heap.size + 1, Obj.cells #[.int .i64 s1, .int .i64 s2, .int .i64 s3, .int .i64 s4] 41), (w2.heap.size, Obj.cells #[.int .i64 xn, .int .i64 xd] 23), (w.heap.size, Obj.cells #[.int .i64 a1, .int .i64 a2, .int .i64 a3, .int .i64 a4] 41), (w.heap.size + 1, Obj.cells #[.int .i64 b1, .int .i64 b2, .int .i64 b3, .int .i64 b4] 41)] from At.ext hb5 (show At _ [(g16, Obj.cells #[.int .i64 b3, .int .i64 b4] 23), (g15, Obj.cells #[.int .i64 a3, .int .i64 a4] 23), (w2.heap.size + 1, Obj.cells #[.int .i64 s1, .int .i64 s2, .int .i64 s3, .int .i64 s4] 41), (w2.heap.size, Obj.cells #[.int .i64 xn, .int .i64 xd] 23), (w.heap.size, Obj.cells #[.int .i64 a1, .int .i64 a2, .int .i64 a3, .int .i64 a4] 41), (w.heap.size + 1, Obj.cells #[.int .i64 b1, .int .i64 b2, .int .i64 b3, .int .i64 b4] 41)] from ⟨(store_pair (v0 := .int .i64 b3) (v1 := .int .i64 b4) (At.at (show At _ [(g15, Obj.cells #[.int .i64 a3, .int .i64 a4] 23), (g16, Obj.cells #[.int .i64 b1, .int .i64 b2] 23), (w2.heap.size + 1, Obj.cells #[.int .i64 s1, .int .i64 s2, .int .i64 s3, .int .i64 s4] 41), (w2.heap.size, Obj.cells #[.int .i64 xn, .int .i64 xd] 23), (w.heap.size, Obj.cells #[.int .i64 a1, .int .i64 a2, .int .i64 a3, .int .i64 a4] 41), (w.heap.size + 1, Obj.cells #[.int .i64 b1, .int .i64 b2, .int .i64 b3, .int .i64 b4] 41)] from ⟨(store_pair (v0 := .int .i64 a3) (v1 := .int .i64 a4) (At.at A4.out 1 rfl)).1, At.other (store_pair (v0 := .int .i64 a3) (v1 := .int .i64 a4) (At.at A4.out 1 rfl)).2.1 (by simp; omega) (At.erase A4.out 1)⟩) 1 rfl)).1, At.other (store_pair (v0 := .int .i64 b3) (v1 := .int .i64 b4) (At.at (show At _ [(g15, Obj.cells #[.int .i64 a3, .int .i64 a4] 23), (g16, Obj.cells #[.int .i64 b1, .int .i64 b2] 23), (w2.heap.size + 1, Obj.cells #[.int .i64 s1, .int .i64 s2, .int .i64 s3, .int .i64 s4] 41), (w2.heap.size, Obj.cells #[.int .i64 xn, .int .i64 xd] 23), (w.heap.size, Obj.cells #[.int .i64 a1, .int .i64 a2, .int .i64 a3, .int .i64 a4] 41), (w.heap.size + 1, Obj.cells #[.int .i64 b1, .int .i64 b2, .int .i64 b3, .int .i64 b4] 41)] from ⟨(store_pair (v0 := .int .i64 a3) (v1 := .int .i64 a4) (At.at A4.out 1 rfl)).1, At.other (store_pair (v0 := .int .i64 a3) (v1 := .int .i64 a4) (At.at A4.out 1 rfl)).2.1 (by simp; omega) (At.erase A4.out 1)⟩) 1 rfl)).2.1 (by simp; omega) (At.erase (show At _ [(g15, Obj.cells #[.int .i64 a3, .int .i64 a4] 23), (g16, Obj.cells #[.int .i64 b1, .int .i64 b2] 23), (w2.heap.size + 1, Obj.cells #[.int .i64 s1, .int .i64 s2, .int .i64 s3, .int .i64 s4] 41), (w2.heap.size, Obj.cells #[.int .i64 xn, .int .i64 xd] 23), (w.heap.size, Obj.cells #[.int .i64 a1, .int .i64 a2, .int .i64 a3, .int .i64 a4] 41), (w.heap.size + 1, Obj.cells #[.int .i64 b1, .int .i64 b2, .int .i64 b3, .int .i64 b4] 41)] from ⟨(store_pair (v0 := .int .i64 a3) (v1 := .int .i64 a4) (At.at A4.out 1 rfl)).1, At.other (store_pair (v0 := .int .i64 a3) (v1 := .int .i64 a4) (At.at A4.out 1 rfl)).2.1 (by simp; omega) (At.erase A4.out 1)⟩) 1)⟩)); have E5 := Lib.hid ((((store_pair (v0 := .int .i64 b3) (v1 := .int .i64 b4) (At.at (show At _ [(g15, Obj.cells #[.int .i64 a3, .int .i64 a4] 23), (g16, Obj.cells #[.int .i64 b1, .int .i64 b2] 23), (w2.heap.size + 1, Obj.cells #[.int .i64 s1, .int .i64 s2, .int .i64 s3, .int .i64 s4] 41), (w2.heap.size, Obj.cells #[.int .i64 xn, .int .i64 xd] 23), (w.heap.size, Obj.cells #[.int .i64 a1, .int .i64 a2, .int .i64 a3, .int .i64 a4] 41), (w.heap.size + 1, Obj.cells #[.int .i64 b1, .int .i64 b2, .int .i64 b3, .int .i64 b4] 41)] from ⟨(store_pair (v0 := .int .i64 a3) (v1 := .int .i64 a4) (At.at A4.out 1 rfl)).1, At.other (store_pair (v0 := .int .i64 a3) (v1 := .int .i64 a4) (At.at A4.out 1 rfl)).2.1 (by simp; omega) (At.erase A4.out 1)⟩) 1 rfl)).2.2 w (by omega) ((store_pair (v0 := .int .i64 a3) (v1 := .int .i64 a4) (At.at A4.out 1 rfl)).2.2 w (by omega) E4.out))).trans hb5); obtain ⟨c5_0_0, c5_0_1, f5_0_0, f5_0_1⟩ := run_pair (At.at A5.out 0 rfl); have s5_0 : g16 < w5.heap.size := At.lt A5.out 0 rfl; obtain ⟨c5_1_0, c5_1_1, f5_1_0, f5_1_1⟩ := run_pair (At.at A5.out 1 rfl); have s5_1 : g15 < w5.heap.size := At.lt A5.out 1 rfl; obtain ⟨⟨c5_2_0, c5_2_1, c5_2_2, c5_2_3⟩, f5_2_0, f5_2_1, f5_2_2, f5_2_3⟩ := run_four (At.at A5.out 2 rfl); have s5_2 : w2.heap.size + 1 < w5.heap.size := At.lt A5.out 2 rfl; obtain ⟨c5_3_0, c5_3_1, f5_3_0, f5_3_1⟩ := run_pair (At.at A5.out 3 rfl); have s5_3 : w2.heap.size < w5.heap.size := At.lt A5.out 3 rfl; obtain ⟨⟨c5_4_0, c5_4_1, c5_4_2, c5_4_3⟩, f5_4_0, f5_4_1, f5_4_2, f5_4_3⟩ := run_four (At.at A5.out 4 rfl); have s5_4 : w.heap.size < w5.heap.size := At.lt A5.out 4 rfl; obtain ⟨⟨c5_5_0, c5_5_1, c5_5_2, c5_5_3⟩, f5_5_0, f5_5_1, f5_5_2, f5_5_3⟩ := run_four (At.at A5.out 5 rfl); have s5_5 : w.heap.size + 1 < w5.heap.size := At.lt A5.out 5 rfl; (try clear c4_0_0 c4_0_1 f4_0_0 f4_0_1 c4_1_0 c4_1_1 f4_1_0 f4_1_1 c4_2_0 c4_2_1 c4_2_2 c4_2_3 f4_2_0 f4_2_1 f4_2_2 f4_2_3 c4_3_0 c4_3_1 f4_3_0 f4_3_1 c4_4_0 c4_4_1 c4_4_2 c4_4_3 f4_4_0 f4_4_1 f4_4_2 f4_4_3 c4_5_0 c4_5_1 c4_5_2 c4_5_3 f4_5_0 f4_5_1 f4_5_2 f4_5_3 s4_0 s4_1 s4_2 s4_3 s4_4 s4_5)))
            go_cut [12] (fun sx wx => ∃ nb : Bool, sx = .bool nb ∧ nb = (lk || ((ue == 0) && ((un == s1) && (ud == s2)))) ∧ Ext w wx ∧ At wx [(w5.heap.size, Obj.cells #[.int .i64 un, .int .i64 ud] 23), (g16, Obj.cells #[.int .i64 b3, .int .i64 b4] 23), (g15, Obj.cells #[.int .i64 a3, .int .i64 a4] 23), (w2.heap.size + 1, Obj.cells #[.int .i64 s1, .int .i64 s2, .int .i64 s3, .int .i64 s4] 41), (w2.heap.size, Obj.cells #[.int .i64 xn, .int .i64 xd] 23), (w.heap.size, Obj.cells #[.int .i64 a1, .int .i64 a2, .int .i64 a3, .int .i64 a4] 41), (w.heap.size + 1, Obj.cells #[.int .i64 b1, .int .i64 b2, .int .i64 b3, .int .i64 b4] 41)])
            case first =>
              cases lk
              · by_cases h_q : ue = 0
                · have qe : (ue == 0) = true := by simpa using h_q
                  clear h_q
                  cases q1 : (un == s1)
                  · go_wp2
                    go_meet
                    case rel => exact ⟨_, rfl, by simp [*], ((((E5.out).alloc _)).alloc _), (At.alloc (show At _ [(w5.heap.size, Obj.cells #[.int .i64 un, .int .i64 ud] 23), (g16, Obj.cells #[.int .i64 b3, .int .i64 b4] 23), (g15, Obj.cells #[.int .i64 a3, .int .i64 a4] 23), (w2.heap.size + 1, Obj.cells #[.int .i64 s1, .int .i64 s2, .int .i64 s3, .int .i64 s4] 41), (w2.heap.size, Obj.cells #[.int .i64 xn, .int .i64 xd] 23), (w.heap.size, Obj.cells #[.int .i64 a1, .int .i64 a2, .int .i64 a3, .int .i64 a4] 41), (w.heap.size + 1, Obj.cells #[.int .i64 b1, .int .i64 b2, .int .i64 b3, .int .i64 b4] 41)] from ⟨one_first _ _, At.alloc A5.out _⟩) _)⟩
                  · cases q2 : (ud == s2)
                    · go_wp2
                      go_meet
                      case rel => exact ⟨_, rfl, by simp [*], ((((E5.out).alloc _)).alloc _), (At.alloc (show At _ [(w5.heap.size, Obj.cells #[.int .i64 un, .int .i64 ud] 23), (g16, Obj.cells #[.int .i64 b3, .int .i64 b4] 23), (g15, Obj.cells #[.int .i64 a3, .int .i64 a4] 23), (w2.heap.size + 1, Obj.cells #[.int .i64 s1, .int .i64 s2, .int .i64 s3, .int .i64 s4] 41), (w2.heap.size, Obj.cells #[.int .i64 xn, .int .i64 xd] 23), (w.heap.size, Obj.cells #[.int .i64 a1, .int .i64 a2, .int .i64 a3, .int .i64 a4] 41), (w.heap.size + 1, Obj.cells #[.int .i64 b1, .int .i64 b2, .int .i64 b3, .int .i64 b4] 41)] from ⟨one_first _ _, At.alloc A5.out _⟩) _)⟩
                    · go_wp2
                      go_meet
                      case rel => exact ⟨_, rfl, by simp [*], ((((E5.out).alloc _)).alloc _), (At.alloc (show At _ [(w5.heap.size, Obj.cells #[.int .i64 un, .int .i64 ud] 23), (g16, Obj.cells #[.int .i64 b3, .int .i64 b4] 23), (g15, Obj.cells #[.int .i64 a3, .int .i64 a4] 23), (w2.heap.size + 1, Obj.cells #[.int .i64 s1, .int .i64 s2, .int .i64 s3, .int .i64 s4] 41), (w2.heap.size, Obj.cells #[.int .i64 xn, .int .i64 xd] 23), (w.heap.size, Obj.cells #[.int .i64 a1, .int .i64 a2, .int .i64 a3, .int .i64 a4] 41), (w.heap.size + 1, Obj.cells #[.int .i64 b1, .int .i64 b2, .int .i64 b3, .int .i64 b4] 41)] from ⟨one_first _ _, At.alloc A5.out _⟩) _)⟩
                · have qe : (ue == 0) = false := by simpa using h_q
                  clear h_q
                  go_wp2
                  go_meet
                  case rel => exact ⟨_, rfl, by simp [*], ((((E5.out).alloc _)).alloc _), (At.alloc (show At _ [(w5.heap.size, Obj.cells #[.int .i64 un, .int .i64 ud] 23), (g16, Obj.cells #[.int .i64 b3, .int .i64 b4] 23), (g15, Obj.cells #[.int .i64 a3, .int .i64 a4] 23), (w2.heap.size + 1, Obj.cells #[.int .i64 s1, .int .i64 s2, .int .i64 s3, .int .i64 s4] 41), (w2.heap.size, Obj.cells #[.int .i64 xn, .int .i64 xd] 23), (w.heap.size, Obj.cells #[.int .i64 a1, .int .i64 a2, .int .i64 a3, .int .i64 a4] 41), (w.heap.size + 1, Obj.cells #[.int .i64 b1, .int .i64 b2, .int .i64 b3, .int .i64 b4] 41)] from ⟨one_first _ _, At.alloc A5.out _⟩) _)⟩
              · go_wp2
                go_meet
                case rel => exact ⟨_, rfl, by simp [*], ((((E5.out).alloc _)).alloc _), (At.alloc (show At _ [(w5.heap.size, Obj.cells #[.int .i64 un, .int .i64 ud] 23), (g16, Obj.cells #[.int .i64 b3, .int .i64 b4] 23), (g15, Obj.cells #[.int .i64 a3, .int .i64 a4] 23), (w2.heap.size + 1, Obj.cells #[.int .i64 s1, .int .i64 s2, .int .i64 s3, .int .i64 s4] 41), (w2.heap.size, Obj.cells #[.int .i64 xn, .int .i64 xd] 23), (w.heap.size, Obj.cells #[.int .i64 a1, .int .i64 a2, .int .i64 a3, .int .i64 a4] 41), (w.heap.size + 1, Obj.cells #[.int .i64 b1, .int .i64 b2, .int .i64 b3, .int .i64 b4] 41)] from ⟨one_first _ _, At.alloc A5.out _⟩) _)⟩
            case rest =>
            obtain ⟨nl, rfl, hHL1, hEc, hAc⟩ := hcut
            have HL1 := Lib.hid hHL1
            clear hHL1
            have E6 := Lib.hid hEc
            have A6 := Lib.hid hAc
            clear hEc hAc
            obtain ⟨w6, hwc⟩ : ∃ x, x = wc := ⟨_, rfl⟩
            subst hwc
            obtain ⟨c6_0_0, c6_0_1, f6_0_0, f6_0_1⟩ := run_pair (At.at A6.out 0 rfl)
            have s6_0 : w5.heap.size < w6.heap.size := At.lt A6.out 0 rfl
            obtain ⟨c6_1_0, c6_1_1, f6_1_0, f6_1_1⟩ := run_pair (At.at A6.out 1 rfl)
            have s6_1 : g16 < w6.heap.size := At.lt A6.out 1 rfl
            obtain ⟨c6_2_0, c6_2_1, f6_2_0, f6_2_1⟩ := run_pair (At.at A6.out 2 rfl)
            have s6_2 : g15 < w6.heap.size := At.lt A6.out 2 rfl
            obtain ⟨⟨c6_3_0, c6_3_1, c6_3_2, c6_3_3⟩, f6_3_0, f6_3_1, f6_3_2, f6_3_3⟩ := run_four (At.at A6.out 3 rfl)
            have s6_3 : w2.heap.size + 1 < w6.heap.size := At.lt A6.out 3 rfl
            obtain ⟨c6_4_0, c6_4_1, f6_4_0, f6_4_1⟩ := run_pair (At.at A6.out 4 rfl)
            have s6_4 : w2.heap.size < w6.heap.size := At.lt A6.out 4 rfl
            obtain ⟨⟨c6_5_0, c6_5_1, c6_5_2, c6_5_3⟩, f6_5_0, f6_5_1, f6_5_2, f6_5_3⟩ := run_four (At.at A6.out 5 rfl)
            have s6_5 : w.heap.size < w6.heap.size := At.lt A6.out 5 rfl
            obtain ⟨⟨c6_6_0, c6_6_1, c6_6_2, c6_6_3⟩, f6_6_0, f6_6_1, f6_6_2, f6_6_3⟩ := run_four (At.at A6.out 6 rfl)
            have s6_6 : w.heap.size + 1 < w6.heap.size := At.lt A6.out 6 rfl
            cases hk
            · by_cases h_q : ue = 0
              · have qe : (ue == 0) = true := by simpa using h_q
                clear h_q
                cases q1 : (un == s3)
                · go_wp2
                  go_roundw
                  case rel => exact ⟨E6.out, 4, by omega, congrArg Value.bool (by rw [HL1.out, HLK.out]; exact (lowF_step_3 _ _ _ _ _).symm), congrArg Value.bool (by rw [lowF_step_3, ← HHK.out]; simp [*]), ⟨_, rfl, by omega⟩, Lib.hid (At.erase (At.erase (At.erase A6.out 0) 0) 0)⟩
                  case measure => simp [intOf]
                · cases q2 : (ud == s4)
                  · go_wp2
                    go_roundw
                    case rel => exact ⟨E6.out, 4, by omega, congrArg Value.bool (by rw [HL1.out, HLK.out]; exact (lowF_step_3 _ _ _ _ _).symm), congrArg Value.bool (by rw [lowF_step_3, ← HHK.out]; simp [*]), ⟨_, rfl, by omega⟩, Lib.hid (At.erase (At.erase (At.erase A6.out 0) 0) 0)⟩
                    case measure => simp [intOf]
                  · go_wp2
                    go_roundw
                    case rel => exact ⟨E6.out, 4, by omega, congrArg Value.bool (by rw [HL1.out, HLK.out]; exact (lowF_step_3 _ _ _ _ _).symm), congrArg Value.bool (by rw [lowF_step_3, ← HHK.out]; simp [*]), ⟨_, rfl, by omega⟩, Lib.hid (At.erase (At.erase (At.erase A6.out 0) 0) 0)⟩
                    case measure => simp [intOf]
              · have qe : (ue == 0) = false := by simpa using h_q
                clear h_q
                go_wp2
                go_roundw
                case rel => exact ⟨E6.out, 4, by omega, congrArg Value.bool (by rw [HL1.out, HLK.out]; exact (lowF_step_3 _ _ _ _ _).symm), congrArg Value.bool (by rw [lowF_step_3, ← HHK.out]; simp [*]), ⟨_, rfl, by omega⟩, Lib.hid (At.erase (At.erase (At.erase A6.out 0) 0) 0)⟩
                case measure => simp [intOf]
            · go_wp2
              go_roundw
              case rel => exact ⟨E6.out, 4, by omega, congrArg Value.bool (by rw [HL1.out, HLK.out]; exact (lowF_step_3 _ _ _ _ _).symm), congrArg Value.bool (by rw [lowF_step_3, ← HHK.out]; simp [*]), ⟨_, rfl, by omega⟩, Lib.hid (At.erase (At.erase (At.erase A6.out 0) 0) 0)⟩
              case measure => simp [intOf]
      · obtain rfl : k = 4 := by omega
        obtain rfl : v = 4 := by omega
        obtain ⟨q1, q2⟩ := HM.out H_te.out
        rw [q1, q2]
        clear q1 q2 hv hk hk4
        go_wp2
        go_ret
        exact ⟨ret_bool (by rfl), hE⟩
  · have te : (e == 0) = false := by simpa using h_te
    have te' : (e != 0) = true := by simpa using h_te
    have H_te := Lib.hid h_te
    clear h_te
    go_enter Tryd.func12, Tryd.ntmps12
    go_wp2_with (first | (go_at_call 16; (with_reducible refine (c_alive _ (HP.out.ext (by repeat (first | exact Ext.refl _ | assumption | refine Ext.alloc ?_ _ | refine Ext.drewN ?_ _ | refine ext_grow ?_ _ _ | refine Ext.setCell ?_ (by first | exact Nat.le_refl _ | omega | (simp; done) | (simp; omega)) _ | refine Ext.trans ?_ (by assumption))))).mono ?_); rintro E w1 ⟨rfl, hb1⟩; have A1 := Lib.hid (show At w1 [(w.heap.size, Obj.cells #[.int .i64 a1, .int .i64 a2, .int .i64 a3, .int .i64 a4] 41), (w.heap.size + 1, Obj.cells #[.int .i64 b1, .int .i64 b2, .int .i64 b3, .int .i64 b4] 41)] from At.ext hb1 (show At _ [(w.heap.size, Obj.cells #[.int .i64 a1, .int .i64 a2, .int .i64 a3, .int .i64 a4] 41), (w.heap.size + 1, Obj.cells #[.int .i64 b1, .int .i64 b2, .int .i64 b3, .int .i64 b4] 41)] from ⟨(by repeat (first | (refine blk_at _ _ ?_; (first | rfl | (simp only [size_one]; done))) | refine (blk_past _ _ (by simp only [size_one]; omega)).trans ?_)), (by repeat (first | (refine blk_at _ _ ?_; (first | rfl | (simp only [size_one]; done))) | refine (blk_past _ _ (by simp only [size_one]; omega)).trans ?_)), trivial⟩)); have E1 := Lib.hid (((show Ext w _ from (by repeat (first | exact Ext.refl _ | assumption | refine Ext.alloc ?_ _ | refine Ext.drewN ?_ _ | refine ext_grow ?_ _ _ | refine Ext.setCell ?_ (by first | exact Nat.le_refl _ | omega | (simp; done) | (simp; omega)) _ | refine Ext.trans ?_ (by assumption))))).trans hb1); obtain ⟨⟨c1_0_0, c1_0_1, c1_0_2, c1_0_3⟩, f1_0_0, f1_0_1, f1_0_2, f1_0_3⟩ := run_four (At.at A1.out 0 rfl); have s1_0 : w.heap.size < w1.heap.size := At.lt A1.out 0 rfl; obtain ⟨⟨c1_1_0, c1_1_1, c1_1_2, c1_1_3⟩, f1_1_0, f1_1_1, f1_1_2, f1_1_3⟩ := run_four (At.at A1.out 1 rfl); have s1_1 : w.heap.size + 1 < w1.heap.size := At.lt A1.out 1 rfl) | (go_at_call 41; (with_reducible refine (K0.out _).mono ?_); rintro E w2 ⟨rfl, hb2⟩; have A2 := Lib.hid (show At w2 [(w.heap.size, Obj.cells #[.int .i64 a1, .int .i64 a2, .int .i64 a3, .int .i64 a4] 41), (w.heap.size + 1, Obj.cells #[.int .i64 b1, .int .i64 b2, .int .i64 b3, .int .i64 b4] 41)] from At.ext hb2 A1.out); have E2 := Lib.hid ((E1.out).trans hb2); obtain ⟨⟨c2_0_0, c2_0_1, c2_0_2, c2_0_3⟩, f2_0_0, f2_0_1, f2_0_2, f2_0_3⟩ := run_four (At.at A2.out 0 rfl); have s2_0 : w.heap.size < w2.heap.size := At.lt A2.out 0 rfl; obtain ⟨⟨c2_1_0, c2_1_1, c2_1_2, c2_1_3⟩, f2_1_0, f2_1_1, f2_1_2, f2_1_3⟩ := run_four (At.at A2.out 1 rfl); have s2_1 : w.heap.size + 1 < w2.heap.size := At.lt A2.out 1 rfl; (try clear c1_0_0 c1_0_1 c1_0_2 c1_0_3 f1_0_0 f1_0_1 f1_0_2 f1_0_3 c1_1_0 c1_1_1 c1_1_2 c1_1_3 f1_1_0 f1_1_1 f1_1_2 f1_1_3 s1_0 s1_1)))
    go_ret
    exact ⟨ret_bool (by rfl), (by repeat (first | exact Ext.refl _ | assumption | refine Ext.alloc ?_ _ | refine Ext.drewN ?_ _ | refine ext_grow ?_ _ _ | refine Ext.setCell ?_ (by first | exact Nat.le_refl _ | omega | (simp; done) | (simp; omega)) _ | refine Ext.trans ?_ (by assumption)))⟩
end Go.Proofs.YtodoimeiklilhaaDoor
