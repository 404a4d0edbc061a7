/- Grasps that hold by the heights: the law's own walk. -/
import Derived.Test.YtipkjdfnoonpcaaHoldFn
set_option linter.unusedVariables false
set_option linter.unusedSimpArgs false
namespace Go.Proofs.Ytipkjdfnoonpcaa
open Go.RowKit Go.Sort

theorem holds0 {m : Img} {t : Tool} {g : Grasp} : m.Holds t g 0 ↔ (1 ≤ g.width ∧ g.width ≤ 8) ∧ (0 ≤ g.z ∧ g.z ≤ 255) ∧ ∀ k, 0 ≤ k → k < t.len → m.row g.across t.palm t.grip g.width g.z g.vx (g.vy + k) := by
  unfold Img.Holds Img.holds
  constructor
  · rintro ⟨h1, h2, h3⟩
    refine ⟨h1, h2, fun k k1 k2 => ?_⟩
    have := h3 k (by omega) (by omega) 0 (by omega) (by omega)
    rwa [Int.add_zero] at this
  · rintro ⟨h1, h2, h3⟩
    refine ⟨h1, h2, fun k k1 k2 d d1 d2 => ?_⟩
    have : d = 0 := by omega
    rw [this, Int.add_zero]
    exact h3 k (by omega) (by omega)
def laneC (m : Img) (a : Bool) (z width x y o most : Int) : Prop :=
  (∀ j, -1 ≤ j → j < o → m.vin a (x + j) y ∧ (j = -1 ∨ j = width → m.vat a (x + j) y ≤ z)) ∧ (-1 ≤ most ∧ most ≤ 255) ∧ (∀ j, 0 ≤ j → j < o → j < width → m.vat a (x + j) y ≤ most) ∧ (most = -1 ∨ ∃ j, 0 ≤ j ∧ j < o ∧ j < width ∧ m.vat a (x + j) y = most)
theorem laneC_zero {m : Img} {a : Bool} {z width x y : Int} : laneC m a z width x y (-1) (-1) := ⟨fun j h1 h2 => by omega, by omega, fun j h1 h2 => by omega, .inl rfl⟩
theorem laneC_end {m : Img} {a : Bool} {z width x y o most : Int} (h : laneC m a z width x y o most) (hw : 0 ≤ width) (ho : o = -1 ∨ o = width) (hi : m.vin a (x + o) y) (hz : m.vat a (x + o) y ≤ z) : laneC m a z width x y (o + 1) most := by
  obtain ⟨h1, h2, h3, h4⟩ := h
  refine ⟨fun j j1 j2 => ?_, h2, fun j j1 j2 j3 => h3 j j1 (by omega) j3, ?_⟩
  · rcases Int.lt_or_le j o with h9 | h9
    · exact h1 j j1 h9
    · obtain rfl : j = o := by omega
      exact ⟨hi, fun _ => hz⟩
  · rcases h4 with h4 | ⟨j, j1, j2, j3, j4⟩
    · exact .inl h4
    · exact .inr ⟨j, j1, by omega, j3, j4⟩
theorem laneC_in {m : Img} {a : Bool} {z width x y o most v : Int} (h : laneC m a z width x y o most) (o1 : 0 ≤ o) (o2 : o < width) (hi : m.vin a (x + o) y) (hv : m.vat a (x + o) y = v) (hb : 0 ≤ v ∧ v ≤ 255) : laneC m a z width x y (o + 1) (max most v) := by
  obtain ⟨h1, h2, h3, h4⟩ := h
  have m1 := Int.le_max_left most v
  have m2 := Int.le_max_right most v
  refine ⟨fun j j1 j2 => ?_, ⟨by omega, Int.max_le.2 ⟨h2.2, hb.2⟩⟩, fun j j1 j2 j3 => ?_, ?_⟩
  · rcases Int.lt_or_le j o with h9 | h9
    · exact h1 j j1 h9
    · obtain rfl : j = o := by omega
      exact ⟨hi, fun h => by omega⟩
  · rcases Int.lt_or_le j o with h9 | h9
    · have := h3 j j1 h9 j3
      omega
    · obtain rfl : j = o := by omega
      omega
  · rcases Int.le_total most v with h9 | h9
    · rw [Int.max_eq_right h9]
      exact .inr ⟨o, o1, by omega, o2, hv⟩
    · rw [Int.max_eq_left h9]
      rcases h4 with h4 | ⟨j, j1, j2, j3, j4⟩
      · exact .inl h4
      · exact .inr ⟨j, j1, by omega, j3, j4⟩
theorem laneC_row {m : Img} {a : Bool} {palm grip z width x y most : Int} (h : laneC m a z width x y (width + 1) most) (hr : m.row a palm grip width z x y) : z + grip ≤ most ∧ most ≤ z + palm ∨ most = -1 ∧ z + grip ≤ -1 := by
  obtain ⟨h1, h2, h3, h4⟩ := h
  obtain ⟨r1, r2, r3, r4, j, j1, j2, j3⟩ := hr
  have a1 := h3 j j1 (by omega) j2
  rcases h4 with h4 | ⟨i, i1, i2, i3, i4⟩
  · exact .inr ⟨h4, by omega⟩
  · have := r4 i i1 i3
    exact .inl ⟨by omega, by omega⟩
theorem rowC_lane {m : Img} (hc : m.Camera) {a : Bool} {palm grip z width x y most : Int} (hw : 1 ≤ width) (h : laneC m a z width x y (width + 1) most) (hg : z + grip ≤ most) (hp : most ≤ z + palm) : m.row a palm grip width z x y := by
  obtain ⟨h1, h2, h3, h4⟩ := h
  refine ⟨fun o o1 o2 => (h1 o o1 (by omega)).1, (h1 (-1) (by omega) (by omega)).2 (.inl rfl), (h1 width (by omega) (by omega)).2 (.inr rfl), fun o o1 o2 => ?_, ?_⟩
  · have := h3 o o1 (by omega) o2
    omega
  · rcases h4 with h4 | ⟨j, j1, j2, j3, j4⟩
    · have a1 := h3 0 (by omega) (by omega) (by omega)
      have a2 := (Img.vat_bd hc (h1 0 (by omega) (by omega)).1).1
      omega
    · exact ⟨j, j1, j3, by omega⟩
set_option maxRecDepth 100000
set_option maxHeartbeats 16000000 in
theorem c43 (m : Img) (v : Value) (t : Tool) (g : Grasp) (w : World) (hm : m.Camera) (ht : t.Ok) (hv : IntsAt w v m.pix) (hn : g.near) (hw : 1 ≤ g.width ∧ g.width ≤ 8) :
    Calls Try.prog 43 #[imgVal m v, toolVal t, graspVal g] w (BoolIs (m.Holds t g 0) w) := by
  obtain ⟨ao, cap, rfl, -, hcell⟩ := hv.form
  have hl := Img.len_bd hm.1
  obtain ⟨pb, pf, rfl, -⟩ := hcell 0 (by omega)
  have HCELL := Lib.hid hcell
  have HC := Lib.hid hm
  have hm' := hm
  obtain ⟨⟨⟨s1, s2⟩, ⟨s3, s4⟩, -⟩, -⟩ := hm'
  obtain ⟨⟨n1, n2⟩, n3, n4⟩ := hn
  obtain ⟨hw1, hw2⟩ := hw
  obtain ⟨⟨t1, t2⟩, t3, t4, t5⟩ := ht
  obtain ⟨l1', l2'⟩ := hl
  obtain ⟨G, hG⟩ : ∃ G, IntKind.i64.wrap (g.z + t.grip) = G := ⟨_, rfl⟩
  obtain ⟨P, hP⟩ : ∃ P, IntKind.i64.wrap (g.z + t.palm) = P := ⟨_, rfl⟩
  have HGP := Lib.hid (show (0 ≤ g.z ∧ g.z ≤ 255) → G = g.z + t.grip ∧ P = g.z + t.palm from fun h => by
    rw [← hG, ← hP]
    exact ⟨IntWalk.i64_in _ (by omega), IntWalk.i64_in _ (by omega)⟩)
  have w1 : decide (1 ≤ g.width) = true := decide_eq_true hw1
  have w2 : decide (g.width ≤ 8) = true := decide_eq_true hw2
  unfold imgVal toolVal graspVal
  clear hv hm hcell
  cases ha : g.across with
  | false =>
    have HVX := Lib.hid (show g.vx = g.x from by unfold Grasp.vx; rw [ha]; rfl)
    have HVY := Lib.hid (show g.vy = g.y from by unfold Grasp.vy; rw [ha]; rfl)
    go_enter Try.func43, Try.ntmps43
    go_wp2
    go_loopw [7] (fun kv wr => ∃ k : Int, 0 ≤ k ∧ k ≤ t.len ∧ kv = .int .i64 k ∧ Hid (Ext w wr) ∧ Hid (At wr [(w.heap.size, Obj.cells #[.int .i64 m.w, .int .i64 m.h, .slice (some ⟨pb, pf, none⟩) m.pix.length cap] 24), (w.heap.size + 1, Obj.cells #[.int .i64 t.len, .int .i64 t.grip, .int .i64 t.palm] 26), (w.heap.size + 1 + 1, Obj.cells #[.int .i64 g.x, .int .i64 g.y, .bool false, .int .i64 g.width, .int .i64 g.z] 28)]) ∧ Hid (∀ f, 0 ≤ f → f < k → (0 ≤ g.z ∧ g.z ≤ 255) → m.row false t.palm t.grip g.width g.z g.x (g.y + f))) (fun kv _ => (t.len - intOf kv).toNat)
    case atStart => exact ⟨0, by omega, by omega, rfl, Lib.hid (show Ext w (World.alloc (World.alloc (World.alloc w (Obj.cells #[.int .i64 m.w, .int .i64 m.h, .slice (some ⟨pb, pf, none⟩) m.pix.length cap] 24)) (Obj.cells #[.int .i64 t.len, .int .i64 t.grip, .int .i64 t.palm] 26)) (Obj.cells #[.int .i64 g.x, .int .i64 g.y, .bool false, .int .i64 g.width, .int .i64 g.z] 28)) from (by repeat (first | exact Ext.refl _ | assumption | refine Ext.alloc ?_ _ | refine Ext.drewN ?_ _ | refine ext_grow ?_ _ _ | refine Ext.setCell ?_ (by first | exact Nat.le_refl _ | omega | (simp; done) | (simp; omega)) _ | refine Ext.trans ?_ (by assumption)))), Lib.hid (show At (World.alloc (World.alloc (World.alloc w (Obj.cells #[.int .i64 m.w, .int .i64 m.h, .slice (some ⟨pb, pf, none⟩) m.pix.length cap] 24)) (Obj.cells #[.int .i64 t.len, .int .i64 t.grip, .int .i64 t.palm] 26)) (Obj.cells #[.int .i64 g.x, .int .i64 g.y, .bool false, .int .i64 g.width, .int .i64 g.z] 28)) [(w.heap.size, Obj.cells #[.int .i64 m.w, .int .i64 m.h, .slice (some ⟨pb, pf, none⟩) m.pix.length cap] 24), (w.heap.size + 1, Obj.cells #[.int .i64 t.len, .int .i64 t.grip, .int .i64 t.palm] 26), (w.heap.size + 1 + 1, Obj.cells #[.int .i64 g.x, .int .i64 g.y, .bool false, .int .i64 g.width, .int .i64 g.z] 28)] from ⟨(by repeat (first | (refine blk_at _ _ ?_; (first | rfl | (simp only [size_one]; done))) | refine (blk_past _ _ (by simp only [size_one]; omega)).trans ?_)), (by repeat (first | (refine blk_at _ _ ?_; (first | rfl | (simp only [size_one]; done))) | refine (blk_past _ _ (by simp only [size_one]; omega)).trans ?_)), (by repeat (first | (refine blk_at _ _ ?_; (first | rfl | (simp only [size_one]; done))) | refine (blk_past _ _ (by simp only [size_one]; omega)).trans ?_)), trivial⟩), Lib.hid (fun f f1 f2 => by omega)⟩
    case round =>
      obtain ⟨k, hk0, hk1, rfl, hE, hA, hR⟩ := hrel
      obtain ⟨⟨cr_0_0, cr_0_1, cr_0_2⟩, fr_0_0, fr_0_1, fr_0_2⟩ := run_3 (At.at hA.out 0 rfl)
      have sr_0 : w.heap.size < wr.heap.size := At.lt hA.out 0 rfl
      obtain ⟨⟨cr_1_0, cr_1_1, cr_1_2⟩, fr_1_0, fr_1_1, fr_1_2⟩ := run_3 (At.at hA.out 1 rfl)
      have sr_1 : w.heap.size + 1 < wr.heap.size := At.lt hA.out 1 rfl
      obtain ⟨⟨cr_2_0, cr_2_1, cr_2_2, cr_2_3, cr_2_4⟩, fr_2_0, fr_2_1, fr_2_2, fr_2_3, fr_2_4⟩ := run_5 (At.at hA.out 2 rfl)
      have sr_2 : w.heap.size + 1 + 1 < wr.heap.size := At.lt hA.out 2 rfl
      by_cases hkl : k < t.len
      · go_wp2
        (try clear cr_0_0 fr_0_0 cr_0_1 fr_0_1 cr_0_2 fr_0_2 cr_1_0 fr_1_0 cr_1_1 fr_1_1 cr_1_2 fr_1_2 cr_2_0 fr_2_0 cr_2_1 fr_2_1 cr_2_2 fr_2_2 cr_2_3 fr_2_3 cr_2_4 fr_2_4 sr_0 sr_1 sr_2)
        obtain ⟨wo, hwo⟩ : ∃ wo : World, wo = wr := ⟨_, rfl⟩
        subst hwo
        go_loopw [8, 9] (fun mv ov wr => ∃ o most : Int, -1 ≤ o ∧ o ≤ g.width + 1 ∧ ov = .int .i64 o ∧ mv = .int .i64 most ∧ Hid (Ext w wr) ∧ Hid (At wr [(w.heap.size, Obj.cells #[.int .i64 m.w, .int .i64 m.h, .slice (some ⟨pb, pf, none⟩) m.pix.length cap] 24), (w.heap.size + 1, Obj.cells #[.int .i64 t.len, .int .i64 t.grip, .int .i64 t.palm] 26), (w.heap.size + 1 + 1, Obj.cells #[.int .i64 g.x, .int .i64 g.y, .bool false, .int .i64 g.width, .int .i64 g.z] 28)]) ∧ Hid (laneC m false g.z g.width g.x (g.y + k) o most)) (fun _ ov _ => (g.width + 1 - intOf ov).toNat)
        case atStart => exact ⟨-1, -1, by omega, by omega, rfl, rfl, hE, hA, Lib.hid laneC_zero⟩
        case round =>
          clear hE hA
          obtain ⟨o, most, ho1, ho2, rfl, rfl, hE, hA, hI⟩ := hrel
          obtain ⟨-, ⟨l1, l2⟩, -⟩ := id hI.out
          obtain ⟨⟨cr_0_0, cr_0_1, cr_0_2⟩, fr_0_0, fr_0_1, fr_0_2⟩ := run_3 (At.at hA.out 0 rfl)
          have sr_0 : w.heap.size < wr.heap.size := At.lt hA.out 0 rfl
          obtain ⟨⟨cr_1_0, cr_1_1, cr_1_2⟩, fr_1_0, fr_1_1, fr_1_2⟩ := run_3 (At.at hA.out 1 rfl)
          have sr_1 : w.heap.size + 1 < wr.heap.size := At.lt hA.out 1 rfl
          obtain ⟨⟨cr_2_0, cr_2_1, cr_2_2, cr_2_3, cr_2_4⟩, fr_2_0, fr_2_1, fr_2_2, fr_2_3, fr_2_4⟩ := run_5 (At.at hA.out 2 rfl)
          have sr_2 : w.heap.size + 1 + 1 < wr.heap.size := At.lt hA.out 2 rfl
          by_cases how : o ≤ g.width
          · obtain ⟨X, hX⟩ : ∃ X, g.x + o = X := ⟨_, rfl⟩
            obtain ⟨Y, hY⟩ : ∃ Y, g.y + k = Y := ⟨_, rfl⟩
            have XB : -1010 ≤ X ∧ X ≤ 1010 := by omega
            obtain ⟨XB1, XB2⟩ := XB
            have YB : -1010 ≤ Y ∧ Y ≤ 1010 := by omega
            obtain ⟨YB1, YB2⟩ := YB
            by_cases hin : m.In X Y
            case neg =>
              have HN := Lib.hid (show ¬ m.Holds t g 0 from fun h => hin (by have h9 := ((holds0.1 h).2.2 k hk0 hkl).1 o ho1 how; rw [ha, HVX.out, HVY.out] at h9; rw [← hX, ← hY]; exact h9))
              rcases Int.lt_or_le X 0 with hj | hj
              · have d1 : decide (X < 0) = true := decide_eq_true hj
                clear hin hj
                go_wp2_with fail
                go_quiet (fail)
                go_wp2
                go_ret
                exact ⟨false, rfl, ⟨fun h => (by cases h), fun h => absurd h HN.out⟩, hE.out.drewN _⟩
              have d1 : decide (X < 0) = false := decide_eq_false (by omega)
              clear hj
              rcases Int.lt_or_le X m.w with hj | hj
              rotate_left
              · have d2 : decide (m.w ≤ X) = true := decide_eq_true hj
                clear hin hj
                go_wp2_with fail
                go_quiet (fail)
                go_wp2
                go_ret
                exact ⟨false, rfl, ⟨fun h => (by cases h), fun h => absurd h HN.out⟩, hE.out.drewN _⟩
              have d2 : decide (m.w ≤ X) = false := decide_eq_false (by omega)
              have D2 := Lib.hid hj
              clear hj
              rcases Int.lt_or_le Y 0 with hj | hj
              · have d3 : decide (Y < 0) = true := decide_eq_true hj
                clear hin hj
                go_wp2_with fail
                go_quiet (fail)
                go_wp2
                go_ret
                exact ⟨false, rfl, ⟨fun h => (by cases h), fun h => absurd h HN.out⟩, hE.out.drewN _⟩
              have d3 : decide (Y < 0) = false := decide_eq_false (by omega)
              have D3 := Lib.hid hj
              clear hj
              have d4 : decide (m.h ≤ Y) = true := by
                refine decide_eq_true (Int.not_lt.1 fun h9 => hin ⟨⟨?_, ?_⟩, ?_, ?_⟩)
                · exact Int.not_lt.1 (of_decide_eq_false d1)
                · have := D2.out; omega
                · exact D3.out
                · omega
              clear hin
              go_wp2_with fail
              go_quiet (fail)
              go_wp2
              go_ret
              exact ⟨false, rfl, ⟨fun h => (by cases h), fun h => absurd h HN.out⟩, hE.out.drewN _⟩
            have hbd := Img.at_bd HC.out hin
            obtain ⟨i1, i2, i3, i4⟩ := Img.idx HC.out.1 hin
            obtain ⟨b9, off9, hb9, c0⟩ := HCELL.out (Y * m.w + X).toNat (by omega)
            simp only [Option.some.injEq, Addr.mk.injEq, and_true] at hb9
            obtain ⟨hb9, hf9⟩ := hb9
            subst hb9
            subst hf9
            rw [show m.pix.getD (Y * m.w + X).toNat 0 = m.at X Y from rfl] at c0
            replace c0 := hE.out.get c0
            have z0 := World.block_lt_of_cell? _ _ c0
            simp only at z0
            have HIN := Lib.hid (show m.vin false (g.x + o) (g.y + k) from by show m.In (g.x + o) (g.y + k); rw [hX, hY]; exact hin)
            obtain ⟨h, hh⟩ : ∃ h, m.at X Y = h := ⟨_, rfl⟩
            rw [hh] at c0 hbd
            have EQH := Lib.hid (show m.vat false (g.x + o) (g.y + k) = h from by show m.at (g.x + o) (g.y + k) = h; rw [hX, hY]; exact hh)
            obtain ⟨⟨x1, x2⟩, x3, x4⟩ := hin
            obtain ⟨hb1, hb2⟩ := hbd
            have d1 : decide (X < 0) = false := decide_eq_false (by omega)
            have d2 : decide (m.w ≤ X) = false := decide_eq_false (by omega)
            have d3 : decide (Y < 0) = false := decide_eq_false (by omega)
            have d4 : decide (m.h ≤ Y) = false := decide_eq_false (by omega)
            clear hh
            by_cases c1 : o = -1
            · have t1 : (o == -1) = true := by simpa using c1

              have EO := Lib.hid (show o = -1 ∨ o = g.width from .inl c1)
              by_cases hz : g.z < h
              · have HZ := Lib.hid hz
                have z1 : decide (g.z < h) = true := decide_eq_true hz
                clear hz c1
                have HN := Lib.hid (show ¬ m.Holds t g 0 from fun h => by have h9 := (holds0.1 h).2.2 k hk0 hkl; rw [ha, HVX.out, HVY.out] at h9; have h8 := EQH.out; have h7 := h9.2.1; have h6 := h9.2.2.1; have h5 := EO.out; have h4 := HZ.out; rcases h5 with h5 | h5 <;> rw [h5] at h8 <;> omega)
                go_wp2_with fail
                go_quiet (fail)
                go_wp2
                go_ret
                exact ⟨false, rfl, ⟨fun h => (by cases h), fun h => absurd h HN.out⟩, hE.out.drewN _⟩
              have z1 : decide (g.z < h) = false := decide_eq_false hz
              have HL := Lib.hid (laneC_end hI.out (by omega) EO.out HIN.out (by have := EQH.out; omega))
              clear hz c1
              go_wp2_with fail
              go_quiet (fail)
              go_wp2
              go_roundw
              case rel => exact ⟨o + 1, most, by omega, by omega, by go_num, rfl, Lib.hid (hE.out.drewN _), Lib.hid (At.drewN hA.out _), Lib.hid HL.out⟩
              case measure => simp [intOf]; omega
            have t1 : (o == -1) = false := by simpa using c1
            by_cases c1 : o = g.width
            · have t2 : (o == g.width) = true := by simpa using c1

              have EO := Lib.hid (show o = -1 ∨ o = g.width from .inr c1)
              by_cases hz : g.z < h
              · have HZ := Lib.hid hz
                have z1 : decide (g.z < h) = true := decide_eq_true hz
                clear hz c1
                have HN := Lib.hid (show ¬ m.Holds t g 0 from fun h => by have h9 := (holds0.1 h).2.2 k hk0 hkl; rw [ha, HVX.out, HVY.out] at h9; have h8 := EQH.out; have h7 := h9.2.1; have h6 := h9.2.2.1; have h5 := EO.out; have h4 := HZ.out; rcases h5 with h5 | h5 <;> rw [h5] at h8 <;> omega)
                go_wp2_with fail
                go_quiet (fail)
                go_wp2
                go_ret
                exact ⟨false, rfl, ⟨fun h => (by cases h), fun h => absurd h HN.out⟩, hE.out.drewN _⟩
              have z1 : decide (g.z < h) = false := decide_eq_false hz
              have HL := Lib.hid (laneC_end hI.out (by omega) EO.out HIN.out (by have := EQH.out; omega))
              clear hz c1
              go_wp2_with fail
              go_quiet (fail)
              go_wp2
              go_roundw
              case rel => exact ⟨o + 1, most, by omega, by omega, by go_num, rfl, Lib.hid (hE.out.drewN _), Lib.hid (At.drewN hA.out _), Lib.hid HL.out⟩
              case measure => simp [intOf]; omega
            have t2 : (o == g.width) = false := by simpa using c1
            have HL := Lib.hid (laneC_in hI.out (show 0 ≤ o by omega) (show o < g.width by omega) HIN.out EQH.out ⟨hb1, hb2⟩)
            have hmm : 0 ≤ max most h ∧ max most h ≤ 255 := ⟨by have := Int.le_max_right most h; omega, Int.max_le.2 ⟨by omega, hb2⟩⟩
            obtain ⟨mx, hmx⟩ : ∃ mx, max most h = mx := ⟨_, rfl⟩
            rw [hmx] at hmm HL
            have HMX := Lib.hid hmx
            clear hmx
            go_wp2_with fail
            go_quiet (fail)
            go_wp2
            go_roundw
            case rel => exact ⟨o + 1, mx, by omega, by omega, by go_num, (by rw [← HMX.out]), Lib.hid (hE.out.drewN _), Lib.hid (At.drewN hA.out _), Lib.hid HL.out⟩
            case measure => simp [intOf]; omega
          · obtain rfl : o = g.width + 1 := by omega
            by_cases r1 : most < G
            · have q1 : decide (most < G) = true := decide_eq_true r1
              have HN := Lib.hid (show ¬ m.Holds t g 0 from fun h => by have h9 := holds0.1 h; have h8 := h9.2.2 k hk0 hkl; rw [ha, HVX.out, HVY.out] at h8; have h7 := laneC_row hI.out h8; have h6 := (HGP.out h9.2.1).1; omega)
              clear r1
              go_wp2
              go_ret
              exact ⟨false, rfl, ⟨fun h => (by cases h), fun h => absurd h HN.out⟩, hE.out⟩
            have q1 : decide (most < G) = false := decide_eq_false r1
            by_cases r2 : P < most
            · have q2 : decide (P < most) = true := decide_eq_true r2
              have HN := Lib.hid (show ¬ m.Holds t g 0 from fun h => by have h9 := holds0.1 h; have h8 := h9.2.2 k hk0 hkl; rw [ha, HVX.out, HVY.out] at h8; have h7 := laneC_row hI.out h8; have h6 := (HGP.out h9.2.1).2; omega)
              clear r1 r2
              go_wp2
              go_ret
              exact ⟨false, rfl, ⟨fun h => (by cases h), fun h => absurd h HN.out⟩, hE.out⟩
            have q2 : decide (P < most) = false := decide_eq_false r2
            have HROW := Lib.hid (show (0 ≤ g.z ∧ g.z ≤ 255) → m.row false t.palm t.grip g.width g.z g.x (g.y + k) from fun h => by have h6 := HGP.out h; exact rowC_lane HC.out hw1 hI.out (by omega) (by omega))
            clear r1 r2
            go_wp2
            go_roundw
            case rel => exact ⟨k + 1, by omega, by omega, by go_num, hE, hA, Lib.hid (fun f f1 f2 h => by
              rcases Int.lt_or_le f k with h9 | h9
              · exact hR.out f f1 h9 h
              · have : f = k := by omega
                rw [this]; exact HROW.out h)⟩
            case measure => simp [intOf]; omega
      · obtain rfl : k = t.len := by omega
        have HH := Lib.hid (show m.Holds t g 0 ↔ (0 ≤ g.z ∧ g.z ≤ 255) from by
          rw [holds0, ha, HVX.out, HVY.out]
          exact ⟨fun h => h.2.1, fun h => ⟨⟨hw1, hw2⟩, h, fun f f1 f2 => hR.out f f1 f2 h⟩⟩)
        by_cases r1 : 0 ≤ g.z
        · have q1 : decide (0 ≤ g.z) = true := decide_eq_true r1
          by_cases r2 : g.z ≤ 255
          · have q2 : decide (g.z ≤ 255) = true := decide_eq_true r2
            have HY := Lib.hid (HH.out.2 ⟨r1, r2⟩)
            clear r1 r2
            go_wp2
            go_ret
            exact ⟨true, rfl, ⟨fun _ => HY.out, fun _ => rfl⟩, hE.out⟩
          · have q2 : decide (g.z ≤ 255) = false := decide_eq_false r2
            have HN := Lib.hid (show ¬ m.Holds t g 0 from fun h => r2 (HH.out.1 h).2)
            clear r1 r2
            go_wp2
            go_ret
            exact ⟨false, rfl, ⟨fun h => (by cases h), fun h => absurd h HN.out⟩, hE.out⟩
        · have q1 : decide (0 ≤ g.z) = false := decide_eq_false r1
          have HN := Lib.hid (show ¬ m.Holds t g 0 from fun h => r1 (HH.out.1 h).1)
          clear r1
          go_wp2
          go_ret
          exact ⟨false, rfl, ⟨fun h => (by cases h), fun h => absurd h HN.out⟩, hE.out⟩
  | true =>
    have HVX := Lib.hid (show g.vx = g.y from by unfold Grasp.vx; rw [ha]; rfl)
    have HVY := Lib.hid (show g.vy = g.x from by unfold Grasp.vy; rw [ha]; rfl)
    go_enter Try.func43, Try.ntmps43
    go_wp2
    go_loopw [7] (fun kv wr => ∃ k : Int, 0 ≤ k ∧ k ≤ t.len ∧ kv = .int .i64 k ∧ Hid (Ext w wr) ∧ Hid (At wr [(w.heap.size, Obj.cells #[.int .i64 m.w, .int .i64 m.h, .slice (some ⟨pb, pf, none⟩) m.pix.length cap] 24), (w.heap.size + 1, Obj.cells #[.int .i64 t.len, .int .i64 t.grip, .int .i64 t.palm] 26), (w.heap.size + 1 + 1, Obj.cells #[.int .i64 g.x, .int .i64 g.y, .bool true, .int .i64 g.width, .int .i64 g.z] 28)]) ∧ Hid (∀ f, 0 ≤ f → f < k → (0 ≤ g.z ∧ g.z ≤ 255) → m.row true t.palm t.grip g.width g.z g.y (g.x + f))) (fun kv _ => (t.len - intOf kv).toNat)
    case atStart => exact ⟨0, by omega, by omega, rfl, Lib.hid (show Ext w (World.alloc (World.alloc (World.alloc w (Obj.cells #[.int .i64 m.w, .int .i64 m.h, .slice (some ⟨pb, pf, none⟩) m.pix.length cap] 24)) (Obj.cells #[.int .i64 t.len, .int .i64 t.grip, .int .i64 t.palm] 26)) (Obj.cells #[.int .i64 g.x, .int .i64 g.y, .bool true, .int .i64 g.width, .int .i64 g.z] 28)) from (by repeat (first | exact Ext.refl _ | assumption | refine Ext.alloc ?_ _ | refine Ext.drewN ?_ _ | refine ext_grow ?_ _ _ | refine Ext.setCell ?_ (by first | exact Nat.le_refl _ | omega | (simp; done) | (simp; omega)) _ | refine Ext.trans ?_ (by assumption)))), Lib.hid (show At (World.alloc (World.alloc (World.alloc w (Obj.cells #[.int .i64 m.w, .int .i64 m.h, .slice (some ⟨pb, pf, none⟩) m.pix.length cap] 24)) (Obj.cells #[.int .i64 t.len, .int .i64 t.grip, .int .i64 t.palm] 26)) (Obj.cells #[.int .i64 g.x, .int .i64 g.y, .bool true, .int .i64 g.width, .int .i64 g.z] 28)) [(w.heap.size, Obj.cells #[.int .i64 m.w, .int .i64 m.h, .slice (some ⟨pb, pf, none⟩) m.pix.length cap] 24), (w.heap.size + 1, Obj.cells #[.int .i64 t.len, .int .i64 t.grip, .int .i64 t.palm] 26), (w.heap.size + 1 + 1, Obj.cells #[.int .i64 g.x, .int .i64 g.y, .bool true, .int .i64 g.width, .int .i64 g.z] 28)] from ⟨(by repeat (first | (refine blk_at _ _ ?_; (first | rfl | (simp only [size_one]; done))) | refine (blk_past _ _ (by simp only [size_one]; omega)).trans ?_)), (by repeat (first | (refine blk_at _ _ ?_; (first | rfl | (simp only [size_one]; done))) | refine (blk_past _ _ (by simp only [size_one]; omega)).trans ?_)), (by repeat (first | (refine blk_at _ _ ?_; (first | rfl | (simp only [size_one]; done))) | refine (blk_past _ _ (by simp only [size_one]; omega)).trans ?_)), trivial⟩), Lib.hid (fun f f1 f2 => by omega)⟩
    case round =>
      obtain ⟨k, hk0, hk1, rfl, hE, hA, hR⟩ := hrel
      obtain ⟨⟨cr_0_0, cr_0_1, cr_0_2⟩, fr_0_0, fr_0_1, fr_0_2⟩ := run_3 (At.at hA.out 0 rfl)
      have sr_0 : w.heap.size < wr.heap.size := At.lt hA.out 0 rfl
      obtain ⟨⟨cr_1_0, cr_1_1, cr_1_2⟩, fr_1_0, fr_1_1, fr_1_2⟩ := run_3 (At.at hA.out 1 rfl)
      have sr_1 : w.heap.size + 1 < wr.heap.size := At.lt hA.out 1 rfl
      obtain ⟨⟨cr_2_0, cr_2_1, cr_2_2, cr_2_3, cr_2_4⟩, fr_2_0, fr_2_1, fr_2_2, fr_2_3, fr_2_4⟩ := run_5 (At.at hA.out 2 rfl)
      have sr_2 : w.heap.size + 1 + 1 < wr.heap.size := At.lt hA.out 2 rfl
      by_cases hkl : k < t.len
      · go_wp2
        (try clear cr_0_0 fr_0_0 cr_0_1 fr_0_1 cr_0_2 fr_0_2 cr_1_0 fr_1_0 cr_1_1 fr_1_1 cr_1_2 fr_1_2 cr_2_0 fr_2_0 cr_2_1 fr_2_1 cr_2_2 fr_2_2 cr_2_3 fr_2_3 cr_2_4 fr_2_4 sr_0 sr_1 sr_2)
        obtain ⟨wo, hwo⟩ : ∃ wo : World, wo = wr := ⟨_, rfl⟩
        subst hwo
        go_loopw [8, 9] (fun mv ov wr => ∃ o most : Int, -1 ≤ o ∧ o ≤ g.width + 1 ∧ ov = .int .i64 o ∧ mv = .int .i64 most ∧ Hid (Ext w wr) ∧ Hid (At wr [(w.heap.size, Obj.cells #[.int .i64 m.w, .int .i64 m.h, .slice (some ⟨pb, pf, none⟩) m.pix.length cap] 24), (w.heap.size + 1, Obj.cells #[.int .i64 t.len, .int .i64 t.grip, .int .i64 t.palm] 26), (w.heap.size + 1 + 1, Obj.cells #[.int .i64 g.x, .int .i64 g.y, .bool true, .int .i64 g.width, .int .i64 g.z] 28)]) ∧ Hid (laneC m true g.z g.width g.y (g.x + k) o most)) (fun _ ov _ => (g.width + 1 - intOf ov).toNat)
        case atStart => exact ⟨-1, -1, by omega, by omega, rfl, rfl, hE, hA, Lib.hid laneC_zero⟩
        case round =>
          clear hE hA
          obtain ⟨o, most, ho1, ho2, rfl, rfl, hE, hA, hI⟩ := hrel
          obtain ⟨-, ⟨l1, l2⟩, -⟩ := id hI.out
          obtain ⟨⟨cr_0_0, cr_0_1, cr_0_2⟩, fr_0_0, fr_0_1, fr_0_2⟩ := run_3 (At.at hA.out 0 rfl)
          have sr_0 : w.heap.size < wr.heap.size := At.lt hA.out 0 rfl
          obtain ⟨⟨cr_1_0, cr_1_1, cr_1_2⟩, fr_1_0, fr_1_1, fr_1_2⟩ := run_3 (At.at hA.out 1 rfl)
          have sr_1 : w.heap.size + 1 < wr.heap.size := At.lt hA.out 1 rfl
          obtain ⟨⟨cr_2_0, cr_2_1, cr_2_2, cr_2_3, cr_2_4⟩, fr_2_0, fr_2_1, fr_2_2, fr_2_3, fr_2_4⟩ := run_5 (At.at hA.out 2 rfl)
          have sr_2 : w.heap.size + 1 + 1 < wr.heap.size := At.lt hA.out 2 rfl
          by_cases how : o ≤ g.width
          · obtain ⟨X, hX⟩ : ∃ X, g.x + k = X := ⟨_, rfl⟩
            obtain ⟨Y, hY⟩ : ∃ Y, g.y + o = Y := ⟨_, rfl⟩
            have XB : -1010 ≤ X ∧ X ≤ 1010 := by omega
            obtain ⟨XB1, XB2⟩ := XB
            have YB : -1010 ≤ Y ∧ Y ≤ 1010 := by omega
            obtain ⟨YB1, YB2⟩ := YB
            by_cases hin : m.In X Y
            case neg =>
              have HN := Lib.hid (show ¬ m.Holds t g 0 from fun h => hin (by have h9 := ((holds0.1 h).2.2 k hk0 hkl).1 o ho1 how; rw [ha, HVX.out, HVY.out] at h9; rw [← hX, ← hY]; exact h9))
              rcases Int.lt_or_le X 0 with hj | hj
              · have d1 : decide (X < 0) = true := decide_eq_true hj
                clear hin hj
                go_wp2_with fail
                go_quiet (fail)
                go_wp2
                go_quiet (fail)
                go_wp2
                go_ret
                exact ⟨false, rfl, ⟨fun h => (by cases h), fun h => absurd h HN.out⟩, hE.out.drewN _⟩
              have d1 : decide (X < 0) = false := decide_eq_false (by omega)
              clear hj
              rcases Int.lt_or_le X m.w with hj | hj
              rotate_left
              · have d2 : decide (m.w ≤ X) = true := decide_eq_true hj
                clear hin hj
                go_wp2_with fail
                go_quiet (fail)
                go_wp2
                go_quiet (fail)
                go_wp2
                go_ret
                exact ⟨false, rfl, ⟨fun h => (by cases h), fun h => absurd h HN.out⟩, hE.out.drewN _⟩
              have d2 : decide (m.w ≤ X) = false := decide_eq_false (by omega)
              have D2 := Lib.hid hj
              clear hj
              rcases Int.lt_or_le Y 0 with hj | hj
              · have d3 : decide (Y < 0) = true := decide_eq_true hj
                clear hin hj
                go_wp2_with fail
                go_quiet (fail)
                go_wp2
                go_quiet (fail)
                go_wp2
                go_ret
                exact ⟨false, rfl, ⟨fun h => (by cases h), fun h => absurd h HN.out⟩, hE.out.drewN _⟩
              have d3 : decide (Y < 0) = false := decide_eq_false (by omega)
              have D3 := Lib.hid hj
              clear hj
              have d4 : decide (m.h ≤ Y) = true := by
                refine decide_eq_true (Int.not_lt.1 fun h9 => hin ⟨⟨?_, ?_⟩, ?_, ?_⟩)
                · exact Int.not_lt.1 (of_decide_eq_false d1)
                · have := D2.out; omega
                · exact D3.out
                · omega
              clear hin
              go_wp2_with fail
              go_quiet (fail)
              go_wp2
              go_quiet (fail)
              go_wp2
              go_ret
              exact ⟨false, rfl, ⟨fun h => (by cases h), fun h => absurd h HN.out⟩, hE.out.drewN _⟩
            have hbd := Img.at_bd HC.out hin
            obtain ⟨i1, i2, i3, i4⟩ := Img.idx HC.out.1 hin
            obtain ⟨b9, off9, hb9, c0⟩ := HCELL.out (Y * m.w + X).toNat (by omega)
            simp only [Option.some.injEq, Addr.mk.injEq, and_true] at hb9
            obtain ⟨hb9, hf9⟩ := hb9
            subst hb9
            subst hf9
            rw [show m.pix.getD (Y * m.w + X).toNat 0 = m.at X Y from rfl] at c0
            replace c0 := hE.out.get c0
            have z0 := World.block_lt_of_cell? _ _ c0
            simp only at z0
            have HIN := Lib.hid (show m.vin true (g.y + o) (g.x + k) from by show m.In (g.x + k) (g.y + o); rw [hX, hY]; exact hin)
            obtain ⟨h, hh⟩ : ∃ h, m.at X Y = h := ⟨_, rfl⟩
            rw [hh] at c0 hbd
            have EQH := Lib.hid (show m.vat true (g.y + o) (g.x + k) = h from by show m.at (g.x + k) (g.y + o) = h; rw [hX, hY]; exact hh)
            obtain ⟨⟨x1, x2⟩, x3, x4⟩ := hin
            obtain ⟨hb1, hb2⟩ := hbd
            have d1 : decide (X < 0) = false := decide_eq_false (by omega)
            have d2 : decide (m.w ≤ X) = false := decide_eq_false (by omega)
            have d3 : decide (Y < 0) = false := decide_eq_false (by omega)
            have d4 : decide (m.h ≤ Y) = false := decide_eq_false (by omega)
            clear hh
            by_cases c1 : o = -1
            · have t1 : (o == -1) = true := by simpa using c1

              have EO := Lib.hid (show o = -1 ∨ o = g.width from .inl c1)
              by_cases hz : g.z < h
              · have HZ := Lib.hid hz
                have z1 : decide (g.z < h) = true := decide_eq_true hz
                clear hz c1
                have HN := Lib.hid (show ¬ m.Holds t g 0 from fun h => by have h9 := (holds0.1 h).2.2 k hk0 hkl; rw [ha, HVX.out, HVY.out] at h9; have h8 := EQH.out; have h7 := h9.2.1; have h6 := h9.2.2.1; have h5 := EO.out; have h4 := HZ.out; rcases h5 with h5 | h5 <;> rw [h5] at h8 <;> omega)
                go_wp2_with fail
                go_quiet (fail)
                go_wp2
                go_quiet (fail)
                go_wp2
                go_ret
                exact ⟨false, rfl, ⟨fun h => (by cases h), fun h => absurd h HN.out⟩, hE.out.drewN _⟩
              have z1 : decide (g.z < h) = false := decide_eq_false hz
              have HL := Lib.hid (laneC_end hI.out (by omega) EO.out HIN.out (by have := EQH.out; omega))
              clear hz c1
              go_wp2_with fail
              go_quiet (fail)
              go_wp2
              go_quiet (fail)
              go_wp2
              go_roundw
              case rel => exact ⟨o + 1, most, by omega, by omega, by go_num, rfl, Lib.hid (hE.out.drewN _), Lib.hid (At.drewN hA.out _), Lib.hid HL.out⟩
              case measure => simp [intOf]; omega
            have t1 : (o == -1) = false := by simpa using c1
            by_cases c1 : o = g.width
            · have t2 : (o == g.width) = true := by simpa using c1

              have EO := Lib.hid (show o = -1 ∨ o = g.width from .inr c1)
              by_cases hz : g.z < h
              · have HZ := Lib.hid hz
                have z1 : decide (g.z < h) = true := decide_eq_true hz
                clear hz c1
                have HN := Lib.hid (show ¬ m.Holds t g 0 from fun h => by have h9 := (holds0.1 h).2.2 k hk0 hkl; rw [ha, HVX.out, HVY.out] at h9; have h8 := EQH.out; have h7 := h9.2.1; have h6 := h9.2.2.1; have h5 := EO.out; have h4 := HZ.out; rcases h5 with h5 | h5 <;> rw [h5] at h8 <;> omega)
                go_wp2_with fail
                go_quiet (fail)
                go_wp2
                go_quiet (fail)
                go_wp2
                go_ret
                exact ⟨false, rfl, ⟨fun h => (by cases h), fun h => absurd h HN.out⟩, hE.out.drewN _⟩
              have z1 : decide (g.z < h) = false := decide_eq_false hz
              have HL := Lib.hid (laneC_end hI.out (by omega) EO.out HIN.out (by have := EQH.out; omega))
              clear hz c1
              go_wp2_with fail
              go_quiet (fail)
              go_wp2
              go_quiet (fail)
              go_wp2
              go_roundw
              case rel => exact ⟨o + 1, most, by omega, by omega, by go_num, rfl, Lib.hid (hE.out.drewN _), Lib.hid (At.drewN hA.out _), Lib.hid HL.out⟩
              case measure => simp [intOf]; omega
            have t2 : (o == g.width) = false := by simpa using c1
            have HL := Lib.hid (laneC_in hI.out (show 0 ≤ o by omega) (show o < g.width by omega) HIN.out EQH.out ⟨hb1, hb2⟩)
            have hmm : 0 ≤ max most h ∧ max most h ≤ 255 := ⟨by have := Int.le_max_right most h; omega, Int.max_le.2 ⟨by omega, hb2⟩⟩
            obtain ⟨mx, hmx⟩ : ∃ mx, max most h = mx := ⟨_, rfl⟩
            rw [hmx] at hmm HL
            have HMX := Lib.hid hmx
            clear hmx
            go_wp2_with fail
            go_quiet (fail)
            go_wp2
            go_quiet (fail)
            go_wp2
            go_roundw
            case rel => exact ⟨o + 1, mx, by omega, by omega, by go_num, (by rw [← HMX.out]), Lib.hid (hE.out.drewN _), Lib.hid (At.drewN hA.out _), Lib.hid HL.out⟩
            case measure => simp [intOf]; omega
          · obtain rfl : o = g.width + 1 := by omega
            by_cases r1 : most < G
            · have q1 : decide (most < G) = true := decide_eq_true r1
              have HN := Lib.hid (show ¬ m.Holds t g 0 from fun h => by have h9 := holds0.1 h; have h8 := h9.2.2 k hk0 hkl; rw [ha, HVX.out, HVY.out] at h8; have h7 := laneC_row hI.out h8; have h6 := (HGP.out h9.2.1).1; omega)
              clear r1
              go_wp2
              go_ret
              exact ⟨false, rfl, ⟨fun h => (by cases h), fun h => absurd h HN.out⟩, hE.out⟩
            have q1 : decide (most < G) = false := decide_eq_false r1
            by_cases r2 : P < most
            · have q2 : decide (P < most) = true := decide_eq_true r2
              have HN := Lib.hid (show ¬ m.Holds t g 0 from fun h => by have h9 := holds0.1 h; have h8 := h9.2.2 k hk0 hkl; rw [ha, HVX.out, HVY.out] at h8; have h7 := laneC_row hI.out h8; have h6 := (HGP.out h9.2.1).2; omega)
              clear r1 r2
              go_wp2
              go_ret
              exact ⟨false, rfl, ⟨fun h => (by cases h), fun h => absurd h HN.out⟩, hE.out⟩
            have q2 : decide (P < most) = false := decide_eq_false r2
            have HROW := Lib.hid (show (0 ≤ g.z ∧ g.z ≤ 255) → m.row true t.palm t.grip g.width g.z g.y (g.x + k) from fun h => by have h6 := HGP.out h; exact rowC_lane HC.out hw1 hI.out (by omega) (by omega))
            clear r1 r2
            go_wp2
            go_roundw
            case rel => exact ⟨k + 1, by omega, by omega, by go_num, hE, hA, Lib.hid (fun f f1 f2 h => by
              rcases Int.lt_or_le f k with h9 | h9
              · exact hR.out f f1 h9 h
              · have : f = k := by omega
                rw [this]; exact HROW.out h)⟩
            case measure => simp [intOf]; omega
      · obtain rfl : k = t.len := by omega
        have HH := Lib.hid (show m.Holds t g 0 ↔ (0 ≤ g.z ∧ g.z ≤ 255) from by
          rw [holds0, ha, HVX.out, HVY.out]
          exact ⟨fun h => h.2.1, fun h => ⟨⟨hw1, hw2⟩, h, fun f f1 f2 => hR.out f f1 f2 h⟩⟩)
        by_cases r1 : 0 ≤ g.z
        · have q1 : decide (0 ≤ g.z) = true := decide_eq_true r1
          by_cases r2 : g.z ≤ 255
          · have q2 : decide (g.z ≤ 255) = true := decide_eq_true r2
            have HY := Lib.hid (HH.out.2 ⟨r1, r2⟩)
            clear r1 r2
            go_wp2
            go_ret
            exact ⟨true, rfl, ⟨fun _ => HY.out, fun _ => rfl⟩, hE.out⟩
          · have q2 : decide (g.z ≤ 255) = false := decide_eq_false r2
            have HN := Lib.hid (show ¬ m.Holds t g 0 from fun h => r2 (HH.out.1 h).2)
            clear r1 r2
            go_wp2
            go_ret
            exact ⟨false, rfl, ⟨fun h => (by cases h), fun h => absurd h HN.out⟩, hE.out⟩
        · have q1 : decide (0 ≤ g.z) = false := decide_eq_false r1
          have HN := Lib.hid (show ¬ m.Holds t g 0 from fun h => r1 (HH.out.1 h).1)
          clear r1
          go_wp2
          go_ret
          exact ⟨false, rfl, ⟨fun h => (by cases h), fun h => absurd h HN.out⟩, hE.out⟩
end Go.Proofs.Ytipkjdfnoonpcaa
