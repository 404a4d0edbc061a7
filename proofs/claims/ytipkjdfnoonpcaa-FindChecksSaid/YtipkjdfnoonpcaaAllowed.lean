/- Grasps: which are allowed, and hold without slack: the reference's walks. -/
import Derived.Test.YtipkjdfnoonpcaaRefGrasp
set_option linter.unusedVariables false
set_option linter.unusedSimpArgs false
namespace Go.Proofs.Ytipkjdfnoonpcaa
open Go.RowKit Go.Sort

/-- a bool that says whether it is so -/
def BoolIs (p : Prop) (w : World) (e : Ending) (w' : World) : Prop := ∃ b : Bool, e = .returned (.bool b) ∧ (b = true ↔ p) ∧ Ext w w'
theorem BoolIs.yes {p : Prop} {w w' : World} {e : Ending} (hp : p) (h : BoolIs p w e w') : e = .returned (.bool true) ∧ Ext w w' := by
  obtain ⟨b, rfl, h1, h2⟩ := h
  rw [h1.2 hp]
  exact ⟨rfl, h2⟩
theorem BoolIs.no {p : Prop} {w w' : World} {e : Ending} (hp : ¬ p) (h : BoolIs p w e w') : e = .returned (.bool false) ∧ Ext w w' := by
  obtain ⟨b, rfl, h1, h2⟩ := h
  cases b
  · exact ⟨rfl, h2⟩
  · exact absurd (h1.1 rfl) hp
set_option maxRecDepth 100000 in
set_option maxHeartbeats 8000000 in
theorem c92 (m : Img) (v : Value) (t : Tool) (g : Grasp) (w : World) (hm : m.Sized) (ht : t.Ok) (hv : IntsAt w v m.pix) (hg : Small g) :
    Calls Try.prog 92 #[imgVal m v, toolVal t, graspVal g] w (BoolIs (m.Allowed t g) w) := by
  have HV := Lib.hid hv
  obtain ⟨ao, cap, rfl, -, -⟩ := hv.form
  obtain ⟨⟨t1, t2⟩, t3, t4, t5⟩ := ht
  have HM := Lib.hid hm
  have HG := Lib.hid hg
  unfold imgVal toolVal graspVal
  clear hv hm hg
  by_cases h1 : 1 ≤ g.width ∧ g.width ≤ 8
  case neg =>
    have q1 : decide (1 ≤ g.width ∧ g.width ≤ 8) = false := decide_eq_false h1
    have H1 := Lib.hid h1
    clear h1
    go_enter Try.func92, Try.ntmps92
    go_wp2_with (go_at_call 61; (with_reducible refine (rwithin_same 61 (.inl rfl) _ _ _ _).mono ?_); rintro e w' ⟨rfl, rfl⟩)
    go_ret
    exact ⟨false, rfl, ⟨fun h => (by cases h), fun h => absurd h.1 H1.out⟩, (by repeat (first | exact Ext.refl _ | assumption | refine Ext.alloc ?_ _ | refine Ext.drewN ?_ _ | refine ext_grow ?_ _ _ | refine Ext.trans ?_ (by assumption)))⟩
  have q1 : decide (1 ≤ g.width ∧ g.width ≤ 8) = true := decide_eq_true h1
  have HW := Lib.hid h1
  obtain ⟨w1, w2⟩ := h1
  by_cases h1 : 0 ≤ g.z ∧ g.z ≤ 255
  case neg =>
    have q2 : decide (0 ≤ g.z ∧ g.z ≤ 255) = false := decide_eq_false h1
    have H1 := Lib.hid h1
    clear h1
    go_enter Try.func92, Try.ntmps92
    go_wp2_with (go_at_call 61; (with_reducible refine (rwithin_same 61 (.inl rfl) _ _ _ _).mono ?_); rintro e w' ⟨rfl, rfl⟩)
    go_ret
    exact ⟨false, rfl, ⟨fun h => (by cases h), fun h => absurd h.2.1 H1.out⟩, (by repeat (first | exact Ext.refl _ | assumption | refine Ext.alloc ?_ _ | refine Ext.drewN ?_ _ | refine ext_grow ?_ _ _ | refine Ext.trans ?_ (by assumption)))⟩
  have q2 : decide (0 ≤ g.z ∧ g.z ≤ 255) = true := decide_eq_true h1
  have HZ := Lib.hid h1
  clear h1
  go_enter Try.func92, Try.ntmps92
  go_wp2_with (go_at_call 61; (with_reducible refine (rwithin_same 61 (.inl rfl) _ _ _ _).mono ?_); rintro e w' ⟨rfl, rfl⟩)
  go_loopw [7] (fun i wr => ∃ o : Int, -1 ≤ o ∧ o ≤ g.width + 1 ∧ i = .int .i64 o ∧ Hid (Ext w wr) ∧ Hid (At wr [(w.heap.size + 1 + 1, Obj.cells #[.int .i64 g.x, .int .i64 g.y, .bool g.across, .int .i64 g.width, .int .i64 g.z] 28), (w.heap.size + 1, Obj.cells #[.int .i64 t.len, .int .i64 t.grip, .int .i64 t.palm] 26), (w.heap.size, Obj.cells #[.int .i64 m.w, .int .i64 m.h, .slice ao m.pix.length cap] 24)]) ∧ Hid (∀ k, -1 ≤ k → k < o → ∀ f, 0 ≤ f → f < t.len → m.vin g.across (g.vx + k) (g.vy + f))) (fun i _ => (g.width + 1 - intOf i).toNat)
  case atStart => exact ⟨-1, by omega, by omega, rfl, Lib.hid (by repeat (first | exact Ext.refl _ | assumption | refine Ext.alloc ?_ _ | refine Ext.drewN ?_ _ | refine ext_grow ?_ _ _ | refine Ext.trans ?_ (by assumption))), Lib.hid ⟨(by repeat (first | (refine blk_at _ _ ?_; (first | rfl | (simp only [size_one]; done))) | refine (blk_past _ _ (by simp only [size_one]; omega)).trans ?_)), (by repeat (first | (refine blk_at _ _ ?_; (first | rfl | (simp only [size_one]; done))) | refine (blk_past _ _ (by simp only [size_one]; omega)).trans ?_)), (by repeat (first | (refine blk_at _ _ ?_; (first | rfl | (simp only [size_one]; done))) | refine (blk_past _ _ (by simp only [size_one]; omega)).trans ?_)), trivial⟩, Lib.hid (fun k k1 k2 => by omega)⟩
  case round =>
    obtain ⟨o, ho1, ho2, rfl, hE, hA, hO⟩ := hrel
    obtain ⟨⟨x00, x01, x02, x03, x04⟩, -⟩ := run_5 (At.at hA.out 0 rfl)
    obtain ⟨⟨x10, x11, x12⟩, -⟩ := run_3 (At.at hA.out 1 rfl)
    obtain ⟨⟨x20, x21, x22⟩, -⟩ := run_3 (At.at hA.out 2 rfl)
    have xz0 := At.lt hA.out 0 rfl
    have xy0 := Nat.lt_succ_of_lt xz0
    have xx0 := Nat.lt_succ_of_lt xy0
    have xz1 := At.lt hA.out 1 rfl
    have xy1 := Nat.lt_succ_of_lt xz1
    have xx1 := Nat.lt_succ_of_lt xy1
    have xz2 := At.lt hA.out 2 rfl
    have xy2 := Nat.lt_succ_of_lt xz2
    have xx2 := Nat.lt_succ_of_lt xy2
    by_cases how : o ≤ g.width
    · go_wp2
      clear x00 x01 x02 x03 x04 x10 x11 x12 x20 x21 x22 xz0 xy0 xx0 xz1 xy1 xx1 xz2 xy2 xx2
      obtain ⟨wo, hwo⟩ : ∃ wo : World, wo = wr := ⟨_, rfl⟩
      subst hwo
      go_loopw [8] (fun i wr => ∃ f : Int, 0 ≤ f ∧ f ≤ t.len ∧ i = .int .i64 f ∧ Hid (Ext w wr) ∧ Hid (At wr [(w.heap.size + 1 + 1, Obj.cells #[.int .i64 g.x, .int .i64 g.y, .bool g.across, .int .i64 g.width, .int .i64 g.z] 28), (w.heap.size + 1, Obj.cells #[.int .i64 t.len, .int .i64 t.grip, .int .i64 t.palm] 26), (w.heap.size, Obj.cells #[.int .i64 m.w, .int .i64 m.h, .slice ao m.pix.length cap] 24)]) ∧ Hid (∀ k, 0 ≤ k → k < f → m.vin g.across (g.vx + o) (g.vy + k))) (fun i _ => (t.len - intOf i).toNat)
      case atStart => exact ⟨0, by omega, by omega, rfl, hE, hA, Lib.hid (fun k k1 k2 => by omega)⟩
      case round =>
        clear hE hA
        obtain ⟨f, hf1, hf2, rfl, hE, hA, hI⟩ := hrel
        obtain ⟨⟨x00, x01, x02, x03, x04⟩, -⟩ := run_5 (At.at hA.out 0 rfl)
        obtain ⟨⟨x10, x11, x12⟩, -⟩ := run_3 (At.at hA.out 1 rfl)
        obtain ⟨⟨x20, x21, x22⟩, -⟩ := run_3 (At.at hA.out 2 rfl)
        have xz0 := At.lt hA.out 0 rfl
        have xy0 := Nat.lt_succ_of_lt xz0
        have xx0 := Nat.lt_succ_of_lt xy0
        have xz1 := At.lt hA.out 1 rfl
        have xy1 := Nat.lt_succ_of_lt xz1
        have xx1 := Nat.lt_succ_of_lt xy1
        have xz2 := At.lt hA.out 2 rfl
        have xy2 := Nat.lt_succ_of_lt xz2
        have xx2 := Nat.lt_succ_of_lt xy2
        by_cases hfl : f < t.len
        · have K111 := Lib.hid (fun w' => c111 g o f w' HG.out (by omega) (by omega))
          unfold graspVal at K111
          by_cases hin : m.vin g.across (g.vx + o) (g.vy + f)
          case neg =>
            have q1 : decide (m.In (g.px o f) (g.py o f)) = false := decide_eq_false (fun h => hin ((vin_place m g o f).2 h))
            have K98 := Lib.hid (fun w' => c98 m (.slice ao m.pix.length cap) (g.px o f) (g.py o f) w' HM.out)
            rw [q1] at K98
            unfold imgVal at K98
            have HI := Lib.hid hin
            clear hin q1
            obtain ⟨px, hpx⟩ : ∃ px, g.px o f = px := ⟨_, rfl⟩
            obtain ⟨py, hpy⟩ : ∃ py, g.py o f = py := ⟨_, rfl⟩
            rw [hpx, hpy] at K111 K98
            clear hpx hpy
            go_wp2_with (first | (have _q := E1; go_at_call 98; (with_reducible refine (K98.out _).mono ?_); rintro E w2 ⟨rfl, hb2⟩; have A2 := Lib.hid (show At w2 [(w.heap.size + 1 + 1, Obj.cells #[.int .i64 g.x, .int .i64 g.y, .bool g.across, .int .i64 g.width, .int .i64 g.z] 28), (w.heap.size + 1, Obj.cells #[.int .i64 t.len, .int .i64 t.grip, .int .i64 t.palm] 26), (w.heap.size, Obj.cells #[.int .i64 m.w, .int .i64 m.h, .slice ao m.pix.length cap] 24)] from At.ext hb2 A1.out); have E2 := Lib.hid (E1.out.trans hb2); obtain ⟨⟨z00, z01, z02, z03, z04⟩, -⟩ := run_5 (At.at A2.out 0 rfl); obtain ⟨⟨z10, z11, z12⟩, -⟩ := run_3 (At.at A2.out 1 rfl); obtain ⟨⟨z20, z21, z22⟩, -⟩ := run_3 (At.at A2.out 2 rfl); have zz0 := At.lt A2.out 0 rfl; have zy0 := Nat.lt_succ_of_lt zz0; have zx0 := Nat.lt_succ_of_lt zy0; have zz1 := At.lt A2.out 1 rfl; have zy1 := Nat.lt_succ_of_lt zz1; have zx1 := Nat.lt_succ_of_lt zy1; have zz2 := At.lt A2.out 2 rfl; have zy2 := Nat.lt_succ_of_lt zz2; have zx2 := Nat.lt_succ_of_lt zy2) | (go_at_call 111; (with_reducible refine (K111.out _).mono ?_); rintro E w1 ⟨rfl, hb⟩; have A1 := Lib.hid (show At w1 [(w.heap.size + 1 + 1, Obj.cells #[.int .i64 g.x, .int .i64 g.y, .bool g.across, .int .i64 g.width, .int .i64 g.z] 28), (w.heap.size + 1, Obj.cells #[.int .i64 t.len, .int .i64 t.grip, .int .i64 t.palm] 26), (w.heap.size, Obj.cells #[.int .i64 m.w, .int .i64 m.h, .slice ao m.pix.length cap] 24)] from At.ext hb hA.out); have E1 := Lib.hid (hE.out.trans hb); obtain ⟨⟨y00, y01, y02, y03, y04⟩, -⟩ := run_5 (At.at A1.out 0 rfl); obtain ⟨⟨y10, y11, y12⟩, -⟩ := run_3 (At.at A1.out 1 rfl); obtain ⟨⟨y20, y21, y22⟩, -⟩ := run_3 (At.at A1.out 2 rfl); have yz0 := At.lt A1.out 0 rfl; have yy0 := Nat.lt_succ_of_lt yz0; have yx0 := Nat.lt_succ_of_lt yy0; have yz1 := At.lt A1.out 1 rfl; have yy1 := Nat.lt_succ_of_lt yz1; have yx1 := Nat.lt_succ_of_lt yy1; have yz2 := At.lt A1.out 2 rfl; have yy2 := Nat.lt_succ_of_lt yz2; have yx2 := Nat.lt_succ_of_lt yy2))
            go_ret
            exact ⟨false, rfl, ⟨fun h => (by cases h), fun h => absurd (h.2.2 o ho1 how f hf1 hfl) HI.out⟩, E2.out⟩
          have q1 : decide (m.In (g.px o f) (g.py o f)) = true := decide_eq_true ((vin_place m g o f).1 hin)
          have K98 := Lib.hid (fun w' => c98 m (.slice ao m.pix.length cap) (g.px o f) (g.py o f) w' HM.out)
          rw [q1] at K98
          unfold imgVal at K98
          have HI := Lib.hid hin
          clear hin q1
          obtain ⟨px, hpx⟩ : ∃ px, g.px o f = px := ⟨_, rfl⟩
          obtain ⟨py, hpy⟩ : ∃ py, g.py o f = py := ⟨_, rfl⟩
          rw [hpx, hpy] at K111 K98
          clear hpx hpy
          go_wp2_with (first | (have _q := E1; go_at_call 98; (with_reducible refine (K98.out _).mono ?_); rintro E w2 ⟨rfl, hb2⟩; have A2 := Lib.hid (show At w2 [(w.heap.size + 1 + 1, Obj.cells #[.int .i64 g.x, .int .i64 g.y, .bool g.across, .int .i64 g.width, .int .i64 g.z] 28), (w.heap.size + 1, Obj.cells #[.int .i64 t.len, .int .i64 t.grip, .int .i64 t.palm] 26), (w.heap.size, Obj.cells #[.int .i64 m.w, .int .i64 m.h, .slice ao m.pix.length cap] 24)] from At.ext hb2 A1.out); have E2 := Lib.hid (E1.out.trans hb2); obtain ⟨⟨z00, z01, z02, z03, z04⟩, -⟩ := run_5 (At.at A2.out 0 rfl); obtain ⟨⟨z10, z11, z12⟩, -⟩ := run_3 (At.at A2.out 1 rfl); obtain ⟨⟨z20, z21, z22⟩, -⟩ := run_3 (At.at A2.out 2 rfl); have zz0 := At.lt A2.out 0 rfl; have zy0 := Nat.lt_succ_of_lt zz0; have zx0 := Nat.lt_succ_of_lt zy0; have zz1 := At.lt A2.out 1 rfl; have zy1 := Nat.lt_succ_of_lt zz1; have zx1 := Nat.lt_succ_of_lt zy1; have zz2 := At.lt A2.out 2 rfl; have zy2 := Nat.lt_succ_of_lt zz2; have zx2 := Nat.lt_succ_of_lt zy2) | (go_at_call 111; (with_reducible refine (K111.out _).mono ?_); rintro E w1 ⟨rfl, hb⟩; have A1 := Lib.hid (show At w1 [(w.heap.size + 1 + 1, Obj.cells #[.int .i64 g.x, .int .i64 g.y, .bool g.across, .int .i64 g.width, .int .i64 g.z] 28), (w.heap.size + 1, Obj.cells #[.int .i64 t.len, .int .i64 t.grip, .int .i64 t.palm] 26), (w.heap.size, Obj.cells #[.int .i64 m.w, .int .i64 m.h, .slice ao m.pix.length cap] 24)] from At.ext hb hA.out); have E1 := Lib.hid (hE.out.trans hb); obtain ⟨⟨y00, y01, y02, y03, y04⟩, -⟩ := run_5 (At.at A1.out 0 rfl); obtain ⟨⟨y10, y11, y12⟩, -⟩ := run_3 (At.at A1.out 1 rfl); obtain ⟨⟨y20, y21, y22⟩, -⟩ := run_3 (At.at A1.out 2 rfl); have yz0 := At.lt A1.out 0 rfl; have yy0 := Nat.lt_succ_of_lt yz0; have yx0 := Nat.lt_succ_of_lt yy0; have yz1 := At.lt A1.out 1 rfl; have yy1 := Nat.lt_succ_of_lt yz1; have yx1 := Nat.lt_succ_of_lt yy1; have yz2 := At.lt A1.out 2 rfl; have yy2 := Nat.lt_succ_of_lt yz2; have yx2 := Nat.lt_succ_of_lt yy2))
          go_roundw
          case rel => exact ⟨f + 1, by omega, by omega, rfl, E2, A2, Lib.hid (fun k k1 k2 => by
            rcases Int.lt_or_le k f with h9 | h9
            · exact hI.out k k1 h9
            · have : k = f := by omega
              rw [this]; exact HI.out)⟩
          case measure => simp [intOf]; omega
        · have hff : f = t.len := by omega
          have HN := Lib.hid (show ∀ k, -1 ≤ k → k < o + 1 → ∀ f, 0 ≤ f → f < t.len → m.vin g.across (g.vx + k) (g.vy + f) from fun k k1 k2 q q1 q2 => by
            rcases Int.lt_or_le k o with h9 | h9
            · exact hO.out k k1 h9 q q1 q2
            · have : k = o := by omega
              rw [this]; exact hI.out q q1 (by omega))
          clear hff
          go_wp2
          go_roundw
          case rel => exact ⟨o + 1, by omega, by omega, rfl, hE, hA, HN⟩
          case measure => simp [intOf]; omega
    · have hoo : o = g.width + 1 := by omega
      have HN := Lib.hid (show m.Allowed t g from ⟨HW.out, HZ.out, fun k k1 k2 q q1 q2 => hO.out k k1 (by omega) q q1 q2⟩)
      clear hoo
      go_wp2
      go_ret
      exact ⟨true, rfl, ⟨fun _ => HN.out, fun _ => rfl⟩, hE.out⟩
/-- the greatest of the first, or 0 -/
def Most (f : Int → Int) (o ln : Int) : Prop := ∀ c, ln ≤ c ↔ 0 ≤ c ∧ ∀ k, 0 ≤ k → k < o → f k ≤ c
theorem most_start (f : Int → Int) : Most f 0 0 := fun c => ⟨fun h => ⟨h, fun k h1 h2 => by omega⟩, fun h => h.1⟩
theorem most_step {f : Int → Int} {ln : Int} (o : Int) (ho : 0 ≤ o) (h : Most f o ln) : Most f (o + 1) (max ln (f o)) := fun c => by
  rw [Int.max_le, h c]
  constructor
  · rintro ⟨⟨h1, h2⟩, h3⟩
    refine ⟨h1, fun k k1 k2 => ?_⟩
    rcases Int.lt_or_le k o with h9 | h9
    · exact h2 k k1 h9
    · have : k = o := by omega
      rw [this]; exact h3
  · rintro ⟨h1, h2⟩
    exact ⟨⟨h1, fun k k1 k2 => h2 k k1 (by omega)⟩, h2 o ho (by omega)⟩
def Img.heldRow (m : Img) (t : Tool) (g : Grasp) (f : Int) : Prop :=
  (m.vat g.across (g.vx + -1) (g.vy + f) ≤ g.z ∧ m.vat g.across (g.vx + g.width) (g.vy + f) ≤ g.z) ∧
    (∀ o, 0 ≤ o → o < g.width → m.vat g.across (g.vx + o) (g.vy + f) ≤ g.z + t.palm) ∧ (∃ o, 0 ≤ o ∧ o < g.width ∧ g.z + t.grip ≤ m.vat g.across (g.vx + o) (g.vy + f))
set_option maxRecDepth 100000 in
set_option maxHeartbeats 16000000 in
theorem c93 (m : Img) (v : Value) (t : Tool) (g : Grasp) (w : World) (hc : m.Camera) (ht : t.Ok) (hv : IntsAt w v m.pix) (hg : Small g) (ha : m.Allowed t g) :
    Calls Try.prog 93 #[imgVal m v, toolVal t, graspVal g] w (BoolIs (m.held t g) w) := by
  have hm := hc.1
  have HC := Lib.hid hc
  have HA := Lib.hid ha
  obtain ⟨⟨w1, w2⟩, ⟨z1, z2⟩, -⟩ := ha
  have HV := Lib.hid hv
  obtain ⟨ao, cap, rfl, -, -⟩ := hv.form
  obtain ⟨⟨t1, t2⟩, t3, t4, t5⟩ := ht
  have HM := Lib.hid hm
  have HG := Lib.hid hg
  unfold imgVal toolVal graspVal
  clear hv hm hg
  clear hc
  go_enter Try.func93, Try.ntmps93
  go_wp2
  go_loopw [7] (fun i wr => ∃ f : Int, 0 ≤ f ∧ f ≤ t.len ∧ i = .int .i64 f ∧ Hid (Ext w wr) ∧ Hid (At wr [(w.heap.size + 1 + 1, Obj.cells #[.int .i64 g.x, .int .i64 g.y, .bool g.across, .int .i64 g.width, .int .i64 g.z] 28), (w.heap.size + 1, Obj.cells #[.int .i64 t.len, .int .i64 t.grip, .int .i64 t.palm] 26), (w.heap.size, Obj.cells #[.int .i64 m.w, .int .i64 m.h, .slice ao m.pix.length cap] 24)]) ∧ Hid (∀ k, 0 ≤ k → k < f → m.heldRow t g k)) (fun i _ => (t.len - intOf i).toNat)
  case atStart => exact ⟨0, by omega, by omega, rfl, Lib.hid (by repeat (first | exact Ext.refl _ | assumption | refine Ext.alloc ?_ _ | refine Ext.drewN ?_ _ | refine ext_grow ?_ _ _ | refine Ext.trans ?_ (by assumption))), Lib.hid ⟨(by repeat (first | (refine blk_at _ _ ?_; (first | rfl | (simp only [size_one]; done))) | refine (blk_past _ _ (by simp only [size_one]; omega)).trans ?_)), (by repeat (first | (refine blk_at _ _ ?_; (first | rfl | (simp only [size_one]; done))) | refine (blk_past _ _ (by simp only [size_one]; omega)).trans ?_)), (by repeat (first | (refine blk_at _ _ ?_; (first | rfl | (simp only [size_one]; done))) | refine (blk_past _ _ (by simp only [size_one]; omega)).trans ?_)), trivial⟩, Lib.hid (fun k k1 k2 => by omega)⟩
  case round =>
    obtain ⟨f, hf1, hf2, rfl, hE, hA, hR⟩ := hrel
    obtain ⟨⟨x00, x01, x02, x03, x04⟩, -⟩ := run_5 (At.at hA.out 0 rfl)
    obtain ⟨⟨x10, x11, x12⟩, -⟩ := run_3 (At.at hA.out 1 rfl)
    obtain ⟨⟨x20, x21, x22⟩, -⟩ := run_3 (At.at hA.out 2 rfl)
    have xz0 := At.lt hA.out 0 rfl
    have xy0 := Nat.lt_succ_of_lt xz0
    have xx0 := Nat.lt_succ_of_lt xy0
    have xz1 := At.lt hA.out 1 rfl
    have xy1 := Nat.lt_succ_of_lt xz1
    have xx1 := Nat.lt_succ_of_lt xy1
    have xz2 := At.lt hA.out 2 rfl
    have xy2 := Nat.lt_succ_of_lt xz2
    have xx2 := Nat.lt_succ_of_lt xy2
    by_cases hfl : f < t.len
    · have hin1 := HA.out.2.2 (-1) (by omega) (by omega) f hf1 hfl
      have hin2 := HA.out.2.2 g.width (by omega) (by omega) f hf1 hfl
      have K1 := Lib.hid (fun w' (h : Ext wr w') => c112 m _ g (-1) f w' HM.out (HV.out.ext (hE.out.trans h)) HG.out (by omega) (by omega) hin1)
      have K2 := Lib.hid (fun w' (h : Ext wr w') => c112 m _ g g.width f w' HM.out (HV.out.ext (hE.out.trans h)) HG.out (by omega) (by omega) hin2)
      unfold graspVal imgVal at K1 K2
      obtain ⟨h1, hh1⟩ : ∃ h, m.vat g.across (g.vx + -1) (g.vy + f) = h := ⟨_, rfl⟩
      obtain ⟨h2, hh2⟩ : ∃ h, m.vat g.across (g.vx + g.width) (g.vy + f) = h := ⟨_, rfl⟩
      rw [hh1] at K1
      rw [hh2] at K2
      have HH1 := Lib.hid hh1
      have HH2 := Lib.hid hh2
      clear hin1 hin2 hh1 hh2
      by_cases b1 : g.z < h1
      case pos =>
        have q1 : decide (g.z < h1) = true := decide_eq_true b1
        go_wp2
        refine wp_region_quiet_below (by kernel_rfl) (by kernel_rfl) ?_
        repeat (go_big_quiet_step ((first | (go_at_call 112; with_reducible exact Calls.ext_of (K1.out _ (Ext.grow _ _ _))) | (go_at_call 112; with_reducible exact Calls.ext_of (K2.out _ (Ext.grow _ _ _))))))
        refine wpQuiet_nil ?_
        intro w3 hw'
        obtain ⟨pq, hw''⟩ := hw'
        have hb3 := ext_of_regrown hw''
        clear hw'' pq
        have A3 := Lib.hid (show At w3 [(w.heap.size + 1 + 1, Obj.cells #[.int .i64 g.x, .int .i64 g.y, .bool g.across, .int .i64 g.width, .int .i64 g.z] 28), (w.heap.size + 1, Obj.cells #[.int .i64 t.len, .int .i64 t.grip, .int .i64 t.palm] 26), (w.heap.size, Obj.cells #[.int .i64 m.w, .int .i64 m.h, .slice ao m.pix.length cap] 24)] from At.ext hb3 hA.out)
        have E3 := Lib.hid (hE.out.trans hb3)
        obtain ⟨⟨y00, y01, y02, y03, y04⟩, -⟩ := run_5 (At.at A3.out 0 rfl)
        obtain ⟨⟨y10, y11, y12⟩, -⟩ := run_3 (At.at A3.out 1 rfl)
        obtain ⟨⟨y20, y21, y22⟩, -⟩ := run_3 (At.at A3.out 2 rfl)
        have yz0 := At.lt A3.out 0 rfl
        have yy0 := Nat.lt_succ_of_lt yz0
        have yx0 := Nat.lt_succ_of_lt yy0
        have yz1 := At.lt A3.out 1 rfl
        have yy1 := Nat.lt_succ_of_lt yz1
        have yx1 := Nat.lt_succ_of_lt yy1
        have yz2 := At.lt A3.out 2 rfl
        have yy2 := Nat.lt_succ_of_lt yz2
        have yx2 := Nat.lt_succ_of_lt yy2
        go_wp2
        go_ret
        exact ⟨false, rfl, ⟨fun h => (by cases h), fun h => absurd (h f hf1 hfl).1.1 (by rw [HH1.out]; omega)⟩, E3.out⟩
      have q1 : decide (g.z < h1) = false := decide_eq_false b1
      replace b1 : h1 ≤ g.z := by omega
      by_cases b2 : g.z < h2
      case pos =>
        go_wp2
        refine wp_region_quiet_below (by kernel_rfl) (by kernel_rfl) ?_
        repeat (go_big_quiet_step ((first | (go_at_call 112; with_reducible exact Calls.ext_of (K1.out _ (Ext.grow _ _ _))) | (go_at_call 112; with_reducible exact Calls.ext_of (K2.out _ (Ext.grow _ _ _))))))
        refine wpQuiet_nil ?_
        intro w3 hw'
        obtain ⟨pq, hw''⟩ := hw'
        have hb3 := ext_of_regrown hw''
        clear hw'' pq
        have A3 := Lib.hid (show At w3 [(w.heap.size + 1 + 1, Obj.cells #[.int .i64 g.x, .int .i64 g.y, .bool g.across, .int .i64 g.width, .int .i64 g.z] 28), (w.heap.size + 1, Obj.cells #[.int .i64 t.len, .int .i64 t.grip, .int .i64 t.palm] 26), (w.heap.size, Obj.cells #[.int .i64 m.w, .int .i64 m.h, .slice ao m.pix.length cap] 24)] from At.ext hb3 hA.out)
        have E3 := Lib.hid (hE.out.trans hb3)
        obtain ⟨⟨y00, y01, y02, y03, y04⟩, -⟩ := run_5 (At.at A3.out 0 rfl)
        obtain ⟨⟨y10, y11, y12⟩, -⟩ := run_3 (At.at A3.out 1 rfl)
        obtain ⟨⟨y20, y21, y22⟩, -⟩ := run_3 (At.at A3.out 2 rfl)
        have yz0 := At.lt A3.out 0 rfl
        have yy0 := Nat.lt_succ_of_lt yz0
        have yx0 := Nat.lt_succ_of_lt yy0
        have yz1 := At.lt A3.out 1 rfl
        have yy1 := Nat.lt_succ_of_lt yz1
        have yx1 := Nat.lt_succ_of_lt yy1
        have yz2 := At.lt A3.out 2 rfl
        have yy2 := Nat.lt_succ_of_lt yz2
        have yx2 := Nat.lt_succ_of_lt yy2
        go_wp2
        go_ret
        exact ⟨false, rfl, ⟨fun h => (by cases h), fun h => absurd (h f hf1 hfl).1.2 (by rw [HH2.out]; omega)⟩, E3.out⟩
      have q2 : decide (g.z < h2) = false := decide_eq_false b2
      replace b2 : h2 ≤ g.z := by omega
      go_wp2
      refine wp_region_quiet_below (by kernel_rfl) (by kernel_rfl) ?_
      repeat (go_big_quiet_step ((first | (go_at_call 112; with_reducible exact Calls.ext_of (K1.out _ (Ext.grow _ _ _))) | (go_at_call 112; with_reducible exact Calls.ext_of (K2.out _ (Ext.grow _ _ _))))))
      refine wpQuiet_nil ?_
      intro w3 hw'
      obtain ⟨pq, hw''⟩ := hw'
      have hb3 := ext_of_regrown hw''
      clear hw'' pq
      have A3 := Lib.hid (show At w3 [(w.heap.size + 1 + 1, Obj.cells #[.int .i64 g.x, .int .i64 g.y, .bool g.across, .int .i64 g.width, .int .i64 g.z] 28), (w.heap.size + 1, Obj.cells #[.int .i64 t.len, .int .i64 t.grip, .int .i64 t.palm] 26), (w.heap.size, Obj.cells #[.int .i64 m.w, .int .i64 m.h, .slice ao m.pix.length cap] 24)] from At.ext hb3 hA.out)
      have E3 := Lib.hid (hE.out.trans hb3)
      obtain ⟨⟨y00, y01, y02, y03, y04⟩, -⟩ := run_5 (At.at A3.out 0 rfl)
      obtain ⟨⟨y10, y11, y12⟩, -⟩ := run_3 (At.at A3.out 1 rfl)
      obtain ⟨⟨y20, y21, y22⟩, -⟩ := run_3 (At.at A3.out 2 rfl)
      have yz0 := At.lt A3.out 0 rfl
      have yy0 := Nat.lt_succ_of_lt yz0
      have yx0 := Nat.lt_succ_of_lt yy0
      have yz1 := At.lt A3.out 1 rfl
      have yy1 := Nat.lt_succ_of_lt yz1
      have yx1 := Nat.lt_succ_of_lt yy1
      have yz2 := At.lt A3.out 2 rfl
      have yy2 := Nat.lt_succ_of_lt yz2
      have yx2 := Nat.lt_succ_of_lt yy2
      go_wp2
      go_loopw [8, 9] (fun l i wr => ∃ o ln : Int, 0 ≤ o ∧ o ≤ g.width ∧ i = .int .i64 o ∧ l = .int .i64 ln ∧ 0 ≤ ln ∧ ln ≤ 255 ∧ Hid (Ext w wr) ∧ Hid (At wr [(w.heap.size + 1 + 1, Obj.cells #[.int .i64 g.x, .int .i64 g.y, .bool g.across, .int .i64 g.width, .int .i64 g.z] 28), (w.heap.size + 1, Obj.cells #[.int .i64 t.len, .int .i64 t.grip, .int .i64 t.palm] 26), (w.heap.size, Obj.cells #[.int .i64 m.w, .int .i64 m.h, .slice ao m.pix.length cap] 24)]) ∧ Hid (Most (fun k => m.vat g.across (g.vx + k) (g.vy + f)) o ln)) (fun _ i _ => (g.width - intOf i).toNat)
      case atStart => exact ⟨0, 0, by omega, by omega, rfl, rfl, by omega, by omega, E3, A3, Lib.hid (most_start _)⟩
      case round =>
        clear hE hA
        obtain ⟨o, ln, ho1, ho2, rfl, rfl, l1, l2, hE, hA, hL⟩ := hrel
        obtain ⟨⟨x00, x01, x02, x03, x04⟩, -⟩ := run_5 (At.at hA.out 0 rfl)
        obtain ⟨⟨x10, x11, x12⟩, -⟩ := run_3 (At.at hA.out 1 rfl)
        obtain ⟨⟨x20, x21, x22⟩, -⟩ := run_3 (At.at hA.out 2 rfl)
        have xz0 := At.lt hA.out 0 rfl
        have xy0 := Nat.lt_succ_of_lt xz0
        have xx0 := Nat.lt_succ_of_lt xy0
        have xz1 := At.lt hA.out 1 rfl
        have xy1 := Nat.lt_succ_of_lt xz1
        have xx1 := Nat.lt_succ_of_lt xy1
        have xz2 := At.lt hA.out 2 rfl
        have xy2 := Nat.lt_succ_of_lt xz2
        have xx2 := Nat.lt_succ_of_lt xy2
        by_cases how : o < g.width
        · have hin := HA.out.2.2 o (by omega) (by omega) f hf1 hfl
          have K := Lib.hid (fun w' (h : Ext w w') => c112 m _ g o f w' HM.out (HV.out.ext h) HG.out (by omega) (by omega) hin)
          unfold graspVal imgVal at K
          have hbd := Img.vat_bd HC.out hin
          obtain ⟨h, hh⟩ : ∃ h, m.vat g.across (g.vx + o) (g.vy + f) = h := ⟨_, rfl⟩
          rw [hh] at K hbd
          have HH := Lib.hid hh
          obtain ⟨hbd1, hbd2⟩ := hbd
          clear hin hh
          rcases Int.lt_or_le ln h with hm9 | hm9
          · go_wp2_with (go_at_call 112; (with_reducible refine (K.out _ hE.out).mono ?_); rintro E w4 ⟨rfl, hb4⟩; have A4 := Lib.hid (show At w4 [(w.heap.size + 1 + 1, Obj.cells #[.int .i64 g.x, .int .i64 g.y, .bool g.across, .int .i64 g.width, .int .i64 g.z] 28), (w.heap.size + 1, Obj.cells #[.int .i64 t.len, .int .i64 t.grip, .int .i64 t.palm] 26), (w.heap.size, Obj.cells #[.int .i64 m.w, .int .i64 m.h, .slice ao m.pix.length cap] 24)] from At.ext hb4 hA.out); have E4 := Lib.hid (hE.out.trans hb4); obtain ⟨⟨y00, y01, y02, y03, y04⟩, -⟩ := run_5 (At.at A4.out 0 rfl); obtain ⟨⟨y10, y11, y12⟩, -⟩ := run_3 (At.at A4.out 1 rfl); obtain ⟨⟨y20, y21, y22⟩, -⟩ := run_3 (At.at A4.out 2 rfl); have yz0 := At.lt A4.out 0 rfl; have yy0 := Nat.lt_succ_of_lt yz0; have yx0 := Nat.lt_succ_of_lt yy0; have yz1 := At.lt A4.out 1 rfl; have yy1 := Nat.lt_succ_of_lt yz1; have yx1 := Nat.lt_succ_of_lt yy1; have yz2 := At.lt A4.out 2 rfl; have yy2 := Nat.lt_succ_of_lt yz2; have yx2 := Nat.lt_succ_of_lt yy2)
            go_roundw
            case rel => exact ⟨o + 1, h, by omega, by omega, rfl, rfl, by omega, by omega, E4, A4, Lib.hid (by have := most_step o (by omega) hL.out; rw [HH.out, Int.max_eq_right (Int.le_of_lt hm9)] at this; exact this)⟩
            case measure => simp [intOf]; omega
          · go_wp2_with (go_at_call 112; (with_reducible refine (K.out _ hE.out).mono ?_); rintro E w4 ⟨rfl, hb4⟩; have A4 := Lib.hid (show At w4 [(w.heap.size + 1 + 1, Obj.cells #[.int .i64 g.x, .int .i64 g.y, .bool g.across, .int .i64 g.width, .int .i64 g.z] 28), (w.heap.size + 1, Obj.cells #[.int .i64 t.len, .int .i64 t.grip, .int .i64 t.palm] 26), (w.heap.size, Obj.cells #[.int .i64 m.w, .int .i64 m.h, .slice ao m.pix.length cap] 24)] from At.ext hb4 hA.out); have E4 := Lib.hid (hE.out.trans hb4); obtain ⟨⟨y00, y01, y02, y03, y04⟩, -⟩ := run_5 (At.at A4.out 0 rfl); obtain ⟨⟨y10, y11, y12⟩, -⟩ := run_3 (At.at A4.out 1 rfl); obtain ⟨⟨y20, y21, y22⟩, -⟩ := run_3 (At.at A4.out 2 rfl); have yz0 := At.lt A4.out 0 rfl; have yy0 := Nat.lt_succ_of_lt yz0; have yx0 := Nat.lt_succ_of_lt yy0; have yz1 := At.lt A4.out 1 rfl; have yy1 := Nat.lt_succ_of_lt yz1; have yx1 := Nat.lt_succ_of_lt yy1; have yz2 := At.lt A4.out 2 rfl; have yy2 := Nat.lt_succ_of_lt yz2; have yx2 := Nat.lt_succ_of_lt yy2)
            go_roundw
            case rel => exact ⟨o + 1, ln, by omega, by omega, rfl, rfl, by omega, by omega, E4, A4, Lib.hid (by have := most_step o (by omega) hL.out; rw [HH.out, Int.max_eq_left hm9] at this; exact this)⟩
            case measure => simp [intOf]; omega
        · have hoo : o = g.width := by omega
          have HL := Lib.hid (show Most (fun k => m.vat g.across (g.vx + k) (g.vy + f)) g.width ln from hoo ▸ hL.out)
          clear hoo
          by_cases c1 : ln < g.z + t.grip
          · have HN := Lib.hid (show ¬ m.held t g from fun h9 => by
              obtain ⟨-, -, k, k1, k2, k3⟩ := h9 f hf1 hfl
              have := ((HL.out ln).1 (Int.le_refl _)).2 k k1 k2
              dsimp only at this
              omega)
            go_wp2
            go_ret
            exact ⟨false, rfl, ⟨fun h => (by cases h), fun h => absurd h HN.out⟩, hE.out⟩
          · by_cases c2 : g.z + t.palm < ln
            · have HN := Lib.hid (show ¬ m.held t g from fun h9 => by
                obtain ⟨-, k, -⟩ := h9 f hf1 hfl
                have := (HL.out (g.z + t.palm)).2 ⟨by omega, k⟩
                omega)
              go_wp2
              go_ret
              exact ⟨false, rfl, ⟨fun h => (by cases h), fun h => absurd h HN.out⟩, hE.out⟩
            · have HN := Lib.hid (show ∀ k, 0 ≤ k → k < f + 1 → m.heldRow t g k from fun k k1 k2 => by
                rcases Int.lt_or_le k f with h9 | h9
                · exact hR.out k k1 h9
                · have : k = f := by omega
                  rw [this]
                  refine ⟨⟨by rw [HH1.out]; exact b1, by rw [HH2.out]; exact b2⟩, ((HL.out (g.z + t.palm)).1 (by omega)).2, ?_⟩
                  refine Classical.byContradiction fun hn => ?_
                  have := (HL.out (g.z + t.grip - 1)).2 ⟨by omega, fun k k1 k2 => by
                    refine Classical.byContradiction fun h9 => hn ⟨k, k1, k2, by dsimp only at h9; omega⟩⟩
                  omega)
              go_wp2
              go_roundw
              case rel => exact ⟨f + 1, by omega, by omega, rfl, hE, hA, HN⟩
              case measure => simp [intOf]; omega
    · have hff : f = t.len := by omega
      have HN := Lib.hid (show m.held t g from fun k k1 k2 => hR.out k k1 (by omega))
      clear hff
      go_wp2
      go_ret
      exact ⟨true, rfl, ⟨fun _ => HN.out, fun _ => rfl⟩, hE.out⟩
end Go.Proofs.Ytipkjdfnoonpcaa
