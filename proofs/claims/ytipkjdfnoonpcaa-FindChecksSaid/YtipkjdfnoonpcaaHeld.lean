/- Grasps that hold with a slack: the reference's walks. -/
import Derived.Test.YtipkjdfnoonpcaaAllowed
set_option linter.unusedVariables false
set_option linter.unusedSimpArgs false
namespace Go.Proofs.Ytipkjdfnoonpcaa
open Go.RowKit Go.Sort

set_option maxRecDepth 100000 in
set_option maxHeartbeats 8000000 in
theorem c54 (m : Img) (v : Value) (t : Tool) (g : Grasp) (slack : Int) (w : World) (hm : m.Camera) (ht : t.Ok) (hv : IntsAt w v m.pix) (hg : g.near) (hs : 0 ≤ slack ∧ slack ≤ 2) :
    Calls Try.prog 54 #[imgVal m v, toolVal t, graspVal g, .int .i64 slack] w (BoolIs (m.Held t g slack) w) := by
  have HV := Lib.hid hv
  obtain ⟨ao, cap, rfl, -, -⟩ := hv.form
  have HC := Lib.hid hm
  have HT := Lib.hid ht
  obtain ⟨⟨g1, g2⟩, g3, g4⟩ := hg
  obtain ⟨s1, s2⟩ := hs
  have HS := fun (dx dy : Int) (h1 : -2 ≤ dx ∧ dx ≤ 2) (h2 : -2 ≤ dy ∧ dy ≤ 2) => (show Small ⟨g.x + dx, g.y + dy, g.across, g.width, g.z⟩ from ⟨⟨by show -1010 ≤ g.x + dx; omega, by show g.x + dx ≤ 1010; omega⟩, by show -1010 ≤ g.y + dy; omega, by show g.y + dy ≤ 1010; omega⟩)
  unfold imgVal toolVal graspVal
  clear hv hm ht
  go_enter Try.func54, Try.ntmps54
  go_wp2
  go_loopw [9] (fun i wr => ∃ dy : Int, -slack ≤ dy ∧ dy ≤ slack + 1 ∧ i = .int .i64 dy ∧ Hid (Ext w wr) ∧ Hid (At wr [(w.heap.size + 1 + 1, Obj.cells #[.int .i64 g.x, .int .i64 g.y, .bool g.across, .int .i64 g.width, .int .i64 g.z] 28), (w.heap.size + 1, Obj.cells #[.int .i64 t.len, .int .i64 t.grip, .int .i64 t.palm] 26), (w.heap.size, Obj.cells #[.int .i64 m.w, .int .i64 m.h, .slice ao m.pix.length cap] 24)]) ∧ Hid (∀ e, -slack ≤ e → e < dy → ∀ d, -slack ≤ d → d ≤ slack → m.Allowed t (g.at d e) ∧ m.held t (g.at d e))) (fun i _ => (slack + 1 - intOf i).toNat)
  case atStart => exact ⟨-slack, by omega, by omega, rfl, Lib.hid (by repeat (first | exact Ext.refl _ | assumption | refine Ext.alloc ?_ _ | refine Ext.drewN ?_ _ | refine ext_grow ?_ _ _ | refine Ext.trans ?_ (by assumption))), Lib.hid ⟨(by repeat (first | (refine blk_at _ _ ?_; (first | rfl | (simp only [size_one]; done))) | refine (blk_past _ _ (by simp only [size_one]; omega)).trans ?_)), (by repeat (first | (refine blk_at _ _ ?_; (first | rfl | (simp only [size_one]; done))) | refine (blk_past _ _ (by simp only [size_one]; omega)).trans ?_)), (by repeat (first | (refine blk_at _ _ ?_; (first | rfl | (simp only [size_one]; done))) | refine (blk_past _ _ (by simp only [size_one]; omega)).trans ?_)), trivial⟩, Lib.hid (fun k k1 k2 => by omega)⟩
  case round =>
    obtain ⟨dy, hd1, hd2, rfl, hE, hA, hR⟩ := hrel
    obtain ⟨⟨x00, x01, x02, x03, x04⟩, -⟩ := run_5 (At.at hA.out 0 rfl)
    obtain ⟨⟨x10, x11, x12⟩, -⟩ := run_3 (At.at hA.out 1 rfl)
    obtain ⟨⟨x20, x21, x22⟩, -⟩ := run_3 (At.at hA.out 2 rfl)
    have xz0 := At.lt hA.out 0 rfl
    have xy0 := Nat.lt_succ_of_lt xz0
    have xx0 := Nat.lt_succ_of_lt xy0
    have xz1 := At.lt hA.out 1 rfl
    have xy1 := Nat.lt_succ_of_lt xz1
    have xx1 := Nat.lt_succ_of_lt xy1
    have xz2 := At.lt hA.out 2 rfl
    have xy2 := Nat.lt_succ_of_lt xz2
    have xx2 := Nat.lt_succ_of_lt xy2
    by_cases hd9 : dy ≤ slack
    · go_wp2
      clear x00 x01 x02 x03 x04 x10 x11 x12 x20 x21 x22 xz0 xy0 xx0 xz1 xy1 xx1 xz2 xy2 xx2
      obtain ⟨wo, hwo⟩ : ∃ wo : World, wo = wr := ⟨_, rfl⟩
      subst hwo
      go_loopw [10] (fun i wr => ∃ dx : Int, -slack ≤ dx ∧ dx ≤ slack + 1 ∧ i = .int .i64 dx ∧ Hid (Ext w wr) ∧ Hid (At wr [(w.heap.size + 1 + 1, Obj.cells #[.int .i64 g.x, .int .i64 g.y, .bool g.across, .int .i64 g.width, .int .i64 g.z] 28), (w.heap.size + 1, Obj.cells #[.int .i64 t.len, .int .i64 t.grip, .int .i64 t.palm] 26), (w.heap.size, Obj.cells #[.int .i64 m.w, .int .i64 m.h, .slice ao m.pix.length cap] 24)]) ∧ Hid (∀ d, -slack ≤ d → d < dx → m.Allowed t (g.at d dy) ∧ m.held t (g.at d dy))) (fun i _ => (slack + 1 - intOf i).toNat)
      case atStart => exact ⟨-slack, by omega, by omega, rfl, hE, hA, Lib.hid (fun k k1 k2 => by omega)⟩
      case round =>
        clear hE hA
        obtain ⟨dx, hx1, hx2, rfl, hE, hA, hI⟩ := hrel
        obtain ⟨⟨x00, x01, x02, x03, x04⟩, -⟩ := run_5 (At.at hA.out 0 rfl)
        obtain ⟨⟨x10, x11, x12⟩, -⟩ := run_3 (At.at hA.out 1 rfl)
        obtain ⟨⟨x20, x21, x22⟩, -⟩ := run_3 (At.at hA.out 2 rfl)
        have xz0 := At.lt hA.out 0 rfl
        have xy0 := Nat.lt_succ_of_lt xz0
        have xx0 := Nat.lt_succ_of_lt xy0
        have xz1 := At.lt hA.out 1 rfl
        have xy1 := Nat.lt_succ_of_lt xz1
        have xx1 := Nat.lt_succ_of_lt xy1
        have xz2 := At.lt hA.out 2 rfl
        have xy2 := Nat.lt_succ_of_lt xz2
        have xx2 := Nat.lt_succ_of_lt xy2
        by_cases hxs : dx ≤ slack
        · have K0 := Lib.hid (fun w' (h : Ext wr w') => c92 m _ t ⟨g.x + dx, g.y + dy, g.across, g.width, g.z⟩ w' HC.out.1 HT.out (HV.out.ext (hE.out.trans h)) (HS dx dy (by omega) (by omega)))
          by_cases hal : m.Allowed t ⟨g.x + dx, g.y + dy, g.across, g.width, g.z⟩
          case neg =>
            have KA := Lib.hid (fun w' (h : Ext wr w') => (K0.out w' h).mono fun _ _ h9 => BoolIs.no hal h9)
            have HAl := Lib.hid hal
            unfold imgVal toolVal graspVal at KA
            dsimp only at KA
            clear hal K0
            go_wp2_with (go_at_call 92; (with_reducible refine (KA.out _ ((Ext.refl _).alloc _)).mono ?_); rintro E w1 ⟨rfl, hb1⟩; have A1 := Lib.hid (show At w1 ((wr.heap.size, Obj.cells #[.int .i64 (g.x + dx), .int .i64 (g.y + dy), .bool g.across, .int .i64 g.width, .int .i64 g.z] 28) :: [(w.heap.size + 1 + 1, Obj.cells #[.int .i64 g.x, .int .i64 g.y, .bool g.across, .int .i64 g.width, .int .i64 g.z] 28), (w.heap.size + 1, Obj.cells #[.int .i64 t.len, .int .i64 t.grip, .int .i64 t.palm] 26), (w.heap.size, Obj.cells #[.int .i64 m.w, .int .i64 m.h, .slice ao m.pix.length cap] 24)]) from At.ext hb1 ⟨blk_at _ _ rfl, At.alloc hA.out _⟩); have R1 := Lib.hid (((Ext.refl wr).alloc (Obj.cells #[.int .i64 (g.x + dx), .int .i64 (g.y + dy), .bool g.across, .int .i64 g.width, .int .i64 g.z] 28)).trans hb1); have E1 := Lib.hid (hE.out.trans R1.out); obtain ⟨⟨y00, y01, y02, y03, y04⟩, -⟩ := run_5 (At.at A1.out 0 rfl); obtain ⟨⟨y10, y11, y12, y13, y14⟩, -⟩ := run_5 (At.at A1.out 1 rfl); obtain ⟨⟨y20, y21, y22⟩, -⟩ := run_3 (At.at A1.out 2 rfl); obtain ⟨⟨y30, y31, y32⟩, -⟩ := run_3 (At.at A1.out 3 rfl); have yz0 := At.lt A1.out 0 rfl; have yy0 := Nat.lt_succ_of_lt yz0; have yx0 := Nat.lt_succ_of_lt yy0; have yz1 := At.lt A1.out 1 rfl; have yy1 := Nat.lt_succ_of_lt yz1; have yx1 := Nat.lt_succ_of_lt yy1; have yz2 := At.lt A1.out 2 rfl; have yy2 := Nat.lt_succ_of_lt yz2; have yx2 := Nat.lt_succ_of_lt yy2; have yz3 := At.lt A1.out 3 rfl; have yy3 := Nat.lt_succ_of_lt yz3; have yx3 := Nat.lt_succ_of_lt yy3)
            go_ret
            exact ⟨false, rfl, ⟨fun h => (by cases h), fun h => absurd (h dy hd1 hd9 dx hx1 hxs) (fun h9 => HAl.out h9.1)⟩, E1.out⟩
          have KA := Lib.hid (fun w' (h : Ext wr w') => (K0.out w' h).mono fun _ _ h9 => BoolIs.yes hal h9)
          have HAl := Lib.hid hal
          have K1 := Lib.hid (fun w' (h : Ext wr w') => c93 m _ t ⟨g.x + dx, g.y + dy, g.across, g.width, g.z⟩ w' HC.out HT.out (HV.out.ext (hE.out.trans h)) (HS dx dy (by omega) (by omega)) hal)
          clear hal K0
          by_cases hhe : m.held t ⟨g.x + dx, g.y + dy, g.across, g.width, g.z⟩
          case neg =>
            have KH := Lib.hid (fun w' (h : Ext wr w') => (K1.out w' h).mono fun _ _ h9 => BoolIs.no hhe h9)
            have HHe := Lib.hid hhe
            unfold imgVal toolVal graspVal at KA KH
            dsimp only at KA KH
            clear hhe K1
            go_wp2_with (first | (have _q := E1; go_at_call 93; (with_reducible refine (KH.out _ R1.out).mono ?_); rintro E w2 ⟨rfl, hb2⟩; have A2 := Lib.hid (show At w2 ((wr.heap.size, Obj.cells #[.int .i64 (g.x + dx), .int .i64 (g.y + dy), .bool g.across, .int .i64 g.width, .int .i64 g.z] 28) :: [(w.heap.size + 1 + 1, Obj.cells #[.int .i64 g.x, .int .i64 g.y, .bool g.across, .int .i64 g.width, .int .i64 g.z] 28), (w.heap.size + 1, Obj.cells #[.int .i64 t.len, .int .i64 t.grip, .int .i64 t.palm] 26), (w.heap.size, Obj.cells #[.int .i64 m.w, .int .i64 m.h, .slice ao m.pix.length cap] 24)]) from At.ext hb2 A1.out); have E2 := Lib.hid (E1.out.trans hb2)) | (go_at_call 92; (with_reducible refine (KA.out _ ((Ext.refl _).alloc _)).mono ?_); rintro E w1 ⟨rfl, hb1⟩; have A1 := Lib.hid (show At w1 ((wr.heap.size, Obj.cells #[.int .i64 (g.x + dx), .int .i64 (g.y + dy), .bool g.across, .int .i64 g.width, .int .i64 g.z] 28) :: [(w.heap.size + 1 + 1, Obj.cells #[.int .i64 g.x, .int .i64 g.y, .bool g.across, .int .i64 g.width, .int .i64 g.z] 28), (w.heap.size + 1, Obj.cells #[.int .i64 t.len, .int .i64 t.grip, .int .i64 t.palm] 26), (w.heap.size, Obj.cells #[.int .i64 m.w, .int .i64 m.h, .slice ao m.pix.length cap] 24)]) from At.ext hb1 ⟨blk_at _ _ rfl, At.alloc hA.out _⟩); have R1 := Lib.hid (((Ext.refl wr).alloc (Obj.cells #[.int .i64 (g.x + dx), .int .i64 (g.y + dy), .bool g.across, .int .i64 g.width, .int .i64 g.z] 28)).trans hb1); have E1 := Lib.hid (hE.out.trans R1.out); obtain ⟨⟨y00, y01, y02, y03, y04⟩, -⟩ := run_5 (At.at A1.out 0 rfl); obtain ⟨⟨y10, y11, y12, y13, y14⟩, -⟩ := run_5 (At.at A1.out 1 rfl); obtain ⟨⟨y20, y21, y22⟩, -⟩ := run_3 (At.at A1.out 2 rfl); obtain ⟨⟨y30, y31, y32⟩, -⟩ := run_3 (At.at A1.out 3 rfl); have yz0 := At.lt A1.out 0 rfl; have yy0 := Nat.lt_succ_of_lt yz0; have yx0 := Nat.lt_succ_of_lt yy0; have yz1 := At.lt A1.out 1 rfl; have yy1 := Nat.lt_succ_of_lt yz1; have yx1 := Nat.lt_succ_of_lt yy1; have yz2 := At.lt A1.out 2 rfl; have yy2 := Nat.lt_succ_of_lt yz2; have yx2 := Nat.lt_succ_of_lt yy2; have yz3 := At.lt A1.out 3 rfl; have yy3 := Nat.lt_succ_of_lt yz3; have yx3 := Nat.lt_succ_of_lt yy3))
            go_ret
            exact ⟨false, rfl, ⟨fun h => (by cases h), fun h => absurd (h dy hd1 hd9 dx hx1 hxs) (fun h9 => HHe.out h9.2)⟩, E2.out⟩
          have KH := Lib.hid (fun w' (h : Ext wr w') => (K1.out w' h).mono fun _ _ h9 => BoolIs.yes hhe h9)
          have HHe := Lib.hid hhe
          unfold imgVal toolVal graspVal at KA KH
          dsimp only at KA KH
          clear hhe K1
          go_wp2_with (first | (have _q := E1; go_at_call 93; (with_reducible refine (KH.out _ R1.out).mono ?_); rintro E w2 ⟨rfl, hb2⟩; have A2 := Lib.hid (show At w2 ((wr.heap.size, Obj.cells #[.int .i64 (g.x + dx), .int .i64 (g.y + dy), .bool g.across, .int .i64 g.width, .int .i64 g.z] 28) :: [(w.heap.size + 1 + 1, Obj.cells #[.int .i64 g.x, .int .i64 g.y, .bool g.across, .int .i64 g.width, .int .i64 g.z] 28), (w.heap.size + 1, Obj.cells #[.int .i64 t.len, .int .i64 t.grip, .int .i64 t.palm] 26), (w.heap.size, Obj.cells #[.int .i64 m.w, .int .i64 m.h, .slice ao m.pix.length cap] 24)]) from At.ext hb2 A1.out); have E2 := Lib.hid (E1.out.trans hb2)) | (go_at_call 92; (with_reducible refine (KA.out _ ((Ext.refl _).alloc _)).mono ?_); rintro E w1 ⟨rfl, hb1⟩; have A1 := Lib.hid (show At w1 ((wr.heap.size, Obj.cells #[.int .i64 (g.x + dx), .int .i64 (g.y + dy), .bool g.across, .int .i64 g.width, .int .i64 g.z] 28) :: [(w.heap.size + 1 + 1, Obj.cells #[.int .i64 g.x, .int .i64 g.y, .bool g.across, .int .i64 g.width, .int .i64 g.z] 28), (w.heap.size + 1, Obj.cells #[.int .i64 t.len, .int .i64 t.grip, .int .i64 t.palm] 26), (w.heap.size, Obj.cells #[.int .i64 m.w, .int .i64 m.h, .slice ao m.pix.length cap] 24)]) from At.ext hb1 ⟨blk_at _ _ rfl, At.alloc hA.out _⟩); have R1 := Lib.hid (((Ext.refl wr).alloc (Obj.cells #[.int .i64 (g.x + dx), .int .i64 (g.y + dy), .bool g.across, .int .i64 g.width, .int .i64 g.z] 28)).trans hb1); have E1 := Lib.hid (hE.out.trans R1.out); obtain ⟨⟨y00, y01, y02, y03, y04⟩, -⟩ := run_5 (At.at A1.out 0 rfl); obtain ⟨⟨y10, y11, y12, y13, y14⟩, -⟩ := run_5 (At.at A1.out 1 rfl); obtain ⟨⟨y20, y21, y22⟩, -⟩ := run_3 (At.at A1.out 2 rfl); obtain ⟨⟨y30, y31, y32⟩, -⟩ := run_3 (At.at A1.out 3 rfl); have yz0 := At.lt A1.out 0 rfl; have yy0 := Nat.lt_succ_of_lt yz0; have yx0 := Nat.lt_succ_of_lt yy0; have yz1 := At.lt A1.out 1 rfl; have yy1 := Nat.lt_succ_of_lt yz1; have yx1 := Nat.lt_succ_of_lt yy1; have yz2 := At.lt A1.out 2 rfl; have yy2 := Nat.lt_succ_of_lt yz2; have yx2 := Nat.lt_succ_of_lt yy2; have yz3 := At.lt A1.out 3 rfl; have yy3 := Nat.lt_succ_of_lt yz3; have yx3 := Nat.lt_succ_of_lt yy3))
          go_roundw
          case rel => exact ⟨dx + 1, by omega, by omega, rfl, E2, Lib.hid (At.erase A2.out 0), Lib.hid (fun k k1 k2 => by
            rcases Int.lt_or_le k dx with h9 | h9
            · exact hI.out k k1 h9
            · have : k = dx := by omega
              rw [this]; exact ⟨HAl.out, HHe.out⟩)⟩
          case measure => simp [intOf]; omega
        · have hxx : dx = slack + 1 := by omega
          have HN := Lib.hid (show ∀ e, -slack ≤ e → e < dy + 1 → ∀ d, -slack ≤ d → d ≤ slack → m.Allowed t (g.at d e) ∧ m.held t (g.at d e) from fun e e1 e2 d d1 d2 => by
            rcases Int.lt_or_le e dy with h9 | h9
            · exact hR.out e e1 h9 d d1 d2
            · have : e = dy := by omega
              rw [this]; exact hI.out d d1 (by omega))
          clear hxx
          go_wp2
          go_roundw
          case rel => exact ⟨dy + 1, by omega, by omega, rfl, hE, hA, HN⟩
          case measure => simp [intOf]; omega
    · have hdd : dy = slack + 1 := by omega
      have HN := Lib.hid (show m.Held t g slack from fun e e1 e2 d d1 d2 => hR.out e e1 (by omega) d d1 d2)
      clear hdd
      go_wp2
      go_ret
      exact ⟨true, rfl, ⟨fun _ => HN.out, fun _ => rfl⟩, hE.out⟩
set_option maxRecDepth 100000 in
set_option maxHeartbeats 8000000 in
theorem c55 (m : Img) (v : Value) (t : Tool) (g : Grasp) (slack : Int) (w : World) (hm : m.Camera) (ht : t.Ok) (hv : IntsAt w v m.pix) (hg : g.near) (hs : 0 ≤ slack ∧ slack ≤ 2) :
    Calls Try.prog 55 #[imgVal m v, toolVal t, graspVal g, .int .i64 slack] w (BoolIs (m.Around t g slack) w) := by
  have HV := Lib.hid hv
  obtain ⟨ao, cap, rfl, -, -⟩ := hv.form
  have HC := Lib.hid hm
  have HT := Lib.hid ht
  obtain ⟨⟨g1, g2⟩, g3, g4⟩ := hg
  obtain ⟨s1, s2⟩ := hs
  have HS := fun (dx dy : Int) (h1 : -2 ≤ dx ∧ dx ≤ 2) (h2 : -2 ≤ dy ∧ dy ≤ 2) => (show Small ⟨g.x + dx, g.y + dy, g.across, g.width, g.z⟩ from ⟨⟨by show -1010 ≤ g.x + dx; omega, by show g.x + dx ≤ 1010; omega⟩, by show -1010 ≤ g.y + dy; omega, by show g.y + dy ≤ 1010; omega⟩)
  unfold imgVal toolVal graspVal
  clear hv hm ht
  go_enter Try.func55, Try.ntmps55
  go_wp2
  go_loopw [9] (fun i wr => ∃ dy : Int, -slack ≤ dy ∧ dy ≤ slack + 1 ∧ i = .int .i64 dy ∧ Hid (Ext w wr) ∧ Hid (At wr [(w.heap.size + 1 + 1, Obj.cells #[.int .i64 g.x, .int .i64 g.y, .bool g.across, .int .i64 g.width, .int .i64 g.z] 28), (w.heap.size + 1, Obj.cells #[.int .i64 t.len, .int .i64 t.grip, .int .i64 t.palm] 26), (w.heap.size, Obj.cells #[.int .i64 m.w, .int .i64 m.h, .slice ao m.pix.length cap] 24)]) ∧ Hid (∀ e, -slack ≤ e → e < dy → ∀ d, -slack ≤ d → d ≤ slack → m.Allowed t (g.at d e))) (fun i _ => (slack + 1 - intOf i).toNat)
  case atStart => exact ⟨-slack, by omega, by omega, rfl, Lib.hid (by repeat (first | exact Ext.refl _ | assumption | refine Ext.alloc ?_ _ | refine Ext.drewN ?_ _ | refine ext_grow ?_ _ _ | refine Ext.trans ?_ (by assumption))), Lib.hid ⟨(by repeat (first | (refine blk_at _ _ ?_; (first | rfl | (simp only [size_one]; done))) | refine (blk_past _ _ (by simp only [size_one]; omega)).trans ?_)), (by repeat (first | (refine blk_at _ _ ?_; (first | rfl | (simp only [size_one]; done))) | refine (blk_past _ _ (by simp only [size_one]; omega)).trans ?_)), (by repeat (first | (refine blk_at _ _ ?_; (first | rfl | (simp only [size_one]; done))) | refine (blk_past _ _ (by simp only [size_one]; omega)).trans ?_)), trivial⟩, Lib.hid (fun k k1 k2 => by omega)⟩
  case round =>
    obtain ⟨dy, hd1, hd2, rfl, hE, hA, hR⟩ := hrel
    obtain ⟨⟨x00, x01, x02, x03, x04⟩, -⟩ := run_5 (At.at hA.out 0 rfl)
    obtain ⟨⟨x10, x11, x12⟩, -⟩ := run_3 (At.at hA.out 1 rfl)
    obtain ⟨⟨x20, x21, x22⟩, -⟩ := run_3 (At.at hA.out 2 rfl)
    have xz0 := At.lt hA.out 0 rfl
    have xy0 := Nat.lt_succ_of_lt xz0
    have xx0 := Nat.lt_succ_of_lt xy0
    have xz1 := At.lt hA.out 1 rfl
    have xy1 := Nat.lt_succ_of_lt xz1
    have xx1 := Nat.lt_succ_of_lt xy1
    have xz2 := At.lt hA.out 2 rfl
    have xy2 := Nat.lt_succ_of_lt xz2
    have xx2 := Nat.lt_succ_of_lt xy2
    by_cases hd9 : dy ≤ slack
    · go_wp2
      clear x00 x01 x02 x03 x04 x10 x11 x12 x20 x21 x22 xz0 xy0 xx0 xz1 xy1 xx1 xz2 xy2 xx2
      obtain ⟨wo, hwo⟩ : ∃ wo : World, wo = wr := ⟨_, rfl⟩
      subst hwo
      go_loopw [10] (fun i wr => ∃ dx : Int, -slack ≤ dx ∧ dx ≤ slack + 1 ∧ i = .int .i64 dx ∧ Hid (Ext w wr) ∧ Hid (At wr [(w.heap.size + 1 + 1, Obj.cells #[.int .i64 g.x, .int .i64 g.y, .bool g.across, .int .i64 g.width, .int .i64 g.z] 28), (w.heap.size + 1, Obj.cells #[.int .i64 t.len, .int .i64 t.grip, .int .i64 t.palm] 26), (w.heap.size, Obj.cells #[.int .i64 m.w, .int .i64 m.h, .slice ao m.pix.length cap] 24)]) ∧ Hid (∀ d, -slack ≤ d → d < dx → m.Allowed t (g.at d dy))) (fun i _ => (slack + 1 - intOf i).toNat)
      case atStart => exact ⟨-slack, by omega, by omega, rfl, hE, hA, Lib.hid (fun k k1 k2 => by omega)⟩
      case round =>
        clear hE hA
        obtain ⟨dx, hx1, hx2, rfl, hE, hA, hI⟩ := hrel
        obtain ⟨⟨x00, x01, x02, x03, x04⟩, -⟩ := run_5 (At.at hA.out 0 rfl)
        obtain ⟨⟨x10, x11, x12⟩, -⟩ := run_3 (At.at hA.out 1 rfl)
        obtain ⟨⟨x20, x21, x22⟩, -⟩ := run_3 (At.at hA.out 2 rfl)
        have xz0 := At.lt hA.out 0 rfl
        have xy0 := Nat.lt_succ_of_lt xz0
        have xx0 := Nat.lt_succ_of_lt xy0
        have xz1 := At.lt hA.out 1 rfl
        have xy1 := Nat.lt_succ_of_lt xz1
        have xx1 := Nat.lt_succ_of_lt xy1
        have xz2 := At.lt hA.out 2 rfl
        have xy2 := Nat.lt_succ_of_lt xz2
        have xx2 := Nat.lt_succ_of_lt xy2
        by_cases hxs : dx ≤ slack
        · have K0 := Lib.hid (fun w' (h : Ext wr w') => c92 m _ t ⟨g.x + dx, g.y + dy, g.across, g.width, g.z⟩ w' HC.out.1 HT.out (HV.out.ext (hE.out.trans h)) (HS dx dy (by omega) (by omega)))
          by_cases hal : m.Allowed t ⟨g.x + dx, g.y + dy, g.across, g.width, g.z⟩
          case neg =>
            have KA := Lib.hid (fun w' (h : Ext wr w') => (K0.out w' h).mono fun _ _ h9 => BoolIs.no hal h9)
            have HAl := Lib.hid hal
            unfold imgVal toolVal graspVal at KA
            dsimp only at KA
            clear hal K0
            go_wp2_with (go_at_call 92; (with_reducible refine (KA.out _ ((Ext.refl _).alloc _)).mono ?_); rintro E w1 ⟨rfl, hb1⟩; have A1 := Lib.hid (show At w1 ((wr.heap.size, Obj.cells #[.int .i64 (g.x + dx), .int .i64 (g.y + dy), .bool g.across, .int .i64 g.width, .int .i64 g.z] 28) :: [(w.heap.size + 1 + 1, Obj.cells #[.int .i64 g.x, .int .i64 g.y, .bool g.across, .int .i64 g.width, .int .i64 g.z] 28), (w.heap.size + 1, Obj.cells #[.int .i64 t.len, .int .i64 t.grip, .int .i64 t.palm] 26), (w.heap.size, Obj.cells #[.int .i64 m.w, .int .i64 m.h, .slice ao m.pix.length cap] 24)]) from At.ext hb1 ⟨blk_at _ _ rfl, At.alloc hA.out _⟩); have R1 := Lib.hid (((Ext.refl wr).alloc (Obj.cells #[.int .i64 (g.x + dx), .int .i64 (g.y + dy), .bool g.across, .int .i64 g.width, .int .i64 g.z] 28)).trans hb1); have E1 := Lib.hid (hE.out.trans R1.out); obtain ⟨⟨y00, y01, y02, y03, y04⟩, -⟩ := run_5 (At.at A1.out 0 rfl); obtain ⟨⟨y10, y11, y12, y13, y14⟩, -⟩ := run_5 (At.at A1.out 1 rfl); obtain ⟨⟨y20, y21, y22⟩, -⟩ := run_3 (At.at A1.out 2 rfl); obtain ⟨⟨y30, y31, y32⟩, -⟩ := run_3 (At.at A1.out 3 rfl); have yz0 := At.lt A1.out 0 rfl; have yy0 := Nat.lt_succ_of_lt yz0; have yx0 := Nat.lt_succ_of_lt yy0; have yz1 := At.lt A1.out 1 rfl; have yy1 := Nat.lt_succ_of_lt yz1; have yx1 := Nat.lt_succ_of_lt yy1; have yz2 := At.lt A1.out 2 rfl; have yy2 := Nat.lt_succ_of_lt yz2; have yx2 := Nat.lt_succ_of_lt yy2; have yz3 := At.lt A1.out 3 rfl; have yy3 := Nat.lt_succ_of_lt yz3; have yx3 := Nat.lt_succ_of_lt yy3)
            go_ret
            exact ⟨false, rfl, ⟨fun h => (by cases h), fun h => absurd (h dy hd1 hd9 dx hx1 hxs) (fun h9 => HAl.out h9)⟩, E1.out⟩
          have KA := Lib.hid (fun w' (h : Ext wr w') => (K0.out w' h).mono fun _ _ h9 => BoolIs.yes hal h9)
          have HAl := Lib.hid hal
          unfold imgVal toolVal graspVal at KA
          dsimp only at KA
          clear hal K0
          go_wp2_with (go_at_call 92; (with_reducible refine (KA.out _ ((Ext.refl _).alloc _)).mono ?_); rintro E w1 ⟨rfl, hb1⟩; have A1 := Lib.hid (show At w1 ((wr.heap.size, Obj.cells #[.int .i64 (g.x + dx), .int .i64 (g.y + dy), .bool g.across, .int .i64 g.width, .int .i64 g.z] 28) :: [(w.heap.size + 1 + 1, Obj.cells #[.int .i64 g.x, .int .i64 g.y, .bool g.across, .int .i64 g.width, .int .i64 g.z] 28), (w.heap.size + 1, Obj.cells #[.int .i64 t.len, .int .i64 t.grip, .int .i64 t.palm] 26), (w.heap.size, Obj.cells #[.int .i64 m.w, .int .i64 m.h, .slice ao m.pix.length cap] 24)]) from At.ext hb1 ⟨blk_at _ _ rfl, At.alloc hA.out _⟩); have R1 := Lib.hid (((Ext.refl wr).alloc (Obj.cells #[.int .i64 (g.x + dx), .int .i64 (g.y + dy), .bool g.across, .int .i64 g.width, .int .i64 g.z] 28)).trans hb1); have E1 := Lib.hid (hE.out.trans R1.out); obtain ⟨⟨y00, y01, y02, y03, y04⟩, -⟩ := run_5 (At.at A1.out 0 rfl); obtain ⟨⟨y10, y11, y12, y13, y14⟩, -⟩ := run_5 (At.at A1.out 1 rfl); obtain ⟨⟨y20, y21, y22⟩, -⟩ := run_3 (At.at A1.out 2 rfl); obtain ⟨⟨y30, y31, y32⟩, -⟩ := run_3 (At.at A1.out 3 rfl); have yz0 := At.lt A1.out 0 rfl; have yy0 := Nat.lt_succ_of_lt yz0; have yx0 := Nat.lt_succ_of_lt yy0; have yz1 := At.lt A1.out 1 rfl; have yy1 := Nat.lt_succ_of_lt yz1; have yx1 := Nat.lt_succ_of_lt yy1; have yz2 := At.lt A1.out 2 rfl; have yy2 := Nat.lt_succ_of_lt yz2; have yx2 := Nat.lt_succ_of_lt yy2; have yz3 := At.lt A1.out 3 rfl; have yy3 := Nat.lt_succ_of_lt yz3; have yx3 := Nat.lt_succ_of_lt yy3)
          go_roundw
          case rel => exact ⟨dx + 1, by omega, by omega, rfl, E1, Lib.hid (At.erase A1.out 0), Lib.hid (fun k k1 k2 => by
            rcases Int.lt_or_le k dx with h9 | h9
            · exact hI.out k k1 h9
            · have : k = dx := by omega
              rw [this]; exact HAl.out)⟩
          case measure => simp [intOf]; omega
        · have hxx : dx = slack + 1 := by omega
          have HN := Lib.hid (show ∀ e, -slack ≤ e → e < dy + 1 → ∀ d, -slack ≤ d → d ≤ slack → m.Allowed t (g.at d e) from fun e e1 e2 d d1 d2 => by
            rcases Int.lt_or_le e dy with h9 | h9
            · exact hR.out e e1 h9 d d1 d2
            · have : e = dy := by omega
              rw [this]; exact hI.out d d1 (by omega))
          clear hxx
          go_wp2
          go_roundw
          case rel => exact ⟨dy + 1, by omega, by omega, rfl, hE, hA, HN⟩
          case measure => simp [intOf]; omega
    · have hdd : dy = slack + 1 := by omega
      have HN := Lib.hid (show m.Around t g slack from fun e e1 e2 d d1 d2 => hR.out e e1 (by omega) d d1 d2)
      clear hdd
      go_wp2
      go_ret
      exact ⟨true, rfl, ⟨fun _ => HN.out, fun _ => rfl⟩, hE.out⟩
end Go.Proofs.Ytipkjdfnoonpcaa
