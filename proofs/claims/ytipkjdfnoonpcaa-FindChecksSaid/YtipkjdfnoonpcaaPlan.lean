/- Plan: the program's walk. -/
import Derived.Test.YtipkjdfnoonpcaaPlanLaws
set_option linter.unusedVariables false
set_option linter.unusedSimpArgs false
namespace Go.Proofs.Ytipkjdfnoonpcaa
open Go.RowKit Go.Sort

set_option maxRecDepth 100000 in
set_option maxHeartbeats 32000000 in
theorem c21 (m : Img) (v : Value) (t : Tool) (slack : Int) (w : World) (hv : IntsAt w v m.pix) (hl : m.pix.length ≤ maxLen) :
    Calls Try.prog 21 #[imgVal m v, toolVal t, .int .i64 slack] w (PlanIs m t slack w) := by
  have HV := Lib.hid hv
  obtain ⟨ao, cap, rfl, -, -⟩ := hv.form
  have K49 := Lib.hid (fun w' (h : Ext w w') => c49 m _ t slack w' (HV.out.ext h) hl)
  unfold imgVal toolVal at *
  clear hv hl
  by_cases h0 : readyE m t slack = 0
  case neg =>
    obtain ⟨r, hr⟩ : ∃ r, readyE m t slack = r := ⟨_, rfl⟩
    have q0 : (r != 0) = true := by simpa [hr] using h0
    rw [hr] at K49
    have H0 := Lib.hid h0
    have HR := Lib.hid hr
    clear h0 hr
    go_enter Try.func21, Try.ntmps21
    go_wp2_with (go_at_call 49; (with_reducible refine (K49.out _ (by repeat (first | exact Ext.refl _ | assumption | refine Ext.alloc ?_ _ | refine Ext.drewN ?_ _ | refine ext_grow ?_ _ _ | refine Ext.trans ?_ (by assumption)))).mono ?_); rintro E w1 ⟨rfl, hb⟩; have A1 := Lib.hid (show At w1 [(w.heap.size + 1, Obj.cells #[.int .i64 t.len, .int .i64 t.grip, .int .i64 t.palm] 26), (w.heap.size, Obj.cells #[.int .i64 m.w, .int .i64 m.h, .slice ao m.pix.length cap] 24)] from At.ext hb ⟨(by repeat (first | (refine blk_at _ _ ?_; (first | rfl | (simp only [size_one]; done))) | refine (blk_past _ _ (by simp only [size_one]; omega)).trans ?_)), (by repeat (first | (refine blk_at _ _ ?_; (first | rfl | (simp only [size_one]; done))) | refine (blk_past _ _ (by simp only [size_one]; omega)).trans ?_)), trivial⟩); have E1 := Lib.hid (show Ext w w1 from (by repeat (first | exact Ext.refl _ | assumption | refine Ext.alloc ?_ _ | refine Ext.drewN ?_ _ | refine ext_grow ?_ _ _ | refine Ext.trans ?_ (by assumption)))); obtain ⟨⟨x00, x01, x02⟩, -⟩ := run_3 (At.at A1.out 0 rfl); obtain ⟨⟨x10, x11, x12⟩, -⟩ := run_3 (At.at A1.out 1 rfl); have xz0 := At.lt A1.out 0 rfl; have xy0 := Nat.lt_succ_of_lt xz0; have xx0 := Nat.lt_succ_of_lt xy0; have xz1 := At.lt A1.out 1 rfl; have xy1 := Nat.lt_succ_of_lt xz1; have xx1 := Nat.lt_succ_of_lt xy1)
    go_ret2
    exact ⟨_, [], by rw [HR.out]; rfl, ⟨rfl, .inl ⟨rfl, rfl⟩⟩, fun h => absurd h H0.out, fun _ => rfl, E1.out⟩
  obtain ⟨r1, r2, hsl⟩ := ready_ok h0
  rw [h0] at K49
  have H0 := Lib.hid h0
  have HC := Lib.hid r1
  have HT := Lib.hid r2
  obtain ⟨n1, n2⟩ := Img.len_bd r1.1
  have hmw1 : 1 ≤ m.w := r1.1.1.1
  have hmw2 : m.w ≤ 16 := r1.1.1.2
  obtain ⟨i0, hi0, hz0, hz1, hz2⟩ := info_parts info28
  clear h0 r1 r2
  go_enter Try.func21, Try.ntmps21
  go_wp2_with (go_at_call 49; (with_reducible refine (K49.out _ (by repeat (first | exact Ext.refl _ | assumption | refine Ext.alloc ?_ _ | refine Ext.drewN ?_ _ | refine ext_grow ?_ _ _ | refine Ext.trans ?_ (by assumption)))).mono ?_); rintro E w1 ⟨rfl, hb⟩; have A1 := Lib.hid (show At w1 [(w.heap.size + 1, Obj.cells #[.int .i64 t.len, .int .i64 t.grip, .int .i64 t.palm] 26), (w.heap.size, Obj.cells #[.int .i64 m.w, .int .i64 m.h, .slice ao m.pix.length cap] 24)] from At.ext hb ⟨(by repeat (first | (refine blk_at _ _ ?_; (first | rfl | (simp only [size_one]; done))) | refine (blk_past _ _ (by simp only [size_one]; omega)).trans ?_)), (by repeat (first | (refine blk_at _ _ ?_; (first | rfl | (simp only [size_one]; done))) | refine (blk_past _ _ (by simp only [size_one]; omega)).trans ?_)), trivial⟩); have E1 := Lib.hid (show Ext w w1 from (by repeat (first | exact Ext.refl _ | assumption | refine Ext.alloc ?_ _ | refine Ext.drewN ?_ _ | refine ext_grow ?_ _ _ | refine Ext.trans ?_ (by assumption)))); obtain ⟨⟨x00, x01, x02⟩, -⟩ := run_3 (At.at A1.out 0 rfl); obtain ⟨⟨x10, x11, x12⟩, -⟩ := run_3 (At.at A1.out 1 rfl); have xz0 := At.lt A1.out 0 rfl; have xy0 := Nat.lt_succ_of_lt xz0; have xx0 := Nat.lt_succ_of_lt xy0; have xz1 := At.lt A1.out 1 rfl; have xy1 := Nat.lt_succ_of_lt xz1; have xx1 := Nat.lt_succ_of_lt xy1)
  obtain ⟨VB, hVB⟩ : ∃ VB, w1.heap.size = VB := ⟨_, rfl⟩
  have hVB1 : w.heap.size + 1 < VB := by rw [← hVB]; exact At.lt A1.out 0 rfl
  have A2 := Lib.hid (show At (w1.alloc (Obj.cells #[.int .i64 m.w, .int .i64 m.h, .slice ao m.pix.length cap, .bool false, .int .i64 m.w, .int .i64 m.h, .slice ao m.pix.length cap, .bool true] 96)) [(VB, Obj.cells #[.int .i64 m.w, .int .i64 m.h, .slice ao m.pix.length cap, .bool false, .int .i64 m.w, .int .i64 m.h, .slice ao m.pix.length cap, .bool true] 96), (w.heap.size + 1, Obj.cells #[.int .i64 t.len, .int .i64 t.grip, .int .i64 t.palm] 26), (w.heap.size, Obj.cells #[.int .i64 m.w, .int .i64 m.h, .slice ao m.pix.length cap] 24)] from ⟨blk_at _ _ hVB.symm, At.alloc A1.out _⟩)
  have E2 := Lib.hid (E1.out.alloc (Obj.cells #[.int .i64 m.w, .int .i64 m.h, .slice ao m.pix.length cap, .bool false, .int .i64 m.w, .int .i64 m.h, .slice ao m.pix.length cap, .bool true] 96))
  clear x00 x01 x02 x10 x11 x12 xz0 xy0 xx0 xz1 xy1 xx1
  clear A1 E1 hb
  rw [hVB]
  go_loopw [9, 31] (fun ov i wr => ∃ (J : Int) (n : Nat) (gs : List Grasp), ((J = 0 ∧ n = 0) ∨ (J = 1 ∧ n = 8) ∨ (J = 2 ∧ n = 16)) ∧ i = .int .i64 J ∧ Hid (Ext w wr) ∧ Hid (At wr [(VB, Obj.cells #[.int .i64 m.w, .int .i64 m.h, .slice ao m.pix.length cap, .bool false, .int .i64 m.w, .int .i64 m.h, .slice ao m.pix.length cap, .bool true] 96), (w.heap.size + 1, Obj.cells #[.int .i64 t.len, .int .i64 t.grip, .int .i64 t.palm] 26), (w.heap.size, Obj.cells #[.int .i64 m.w, .int .i64 m.h, .slice ao m.pix.length cap] 24)]) ∧ Hid (wr.ownsRow (VB + 1) 28 5 ov gs.length (grasps gs)) ∧ Hid (Gath (m.Try t slack) (n * m.pix.length) gs)) (fun _ i _ => (2 - intOf i).toNat)
  case atStart => exact ⟨0, 0, [], by omega, rfl, E2, A2, Lib.hid ⟨rfl, .inl ⟨rfl, rfl⟩⟩, Lib.hid (by rw [Nat.zero_mul]; rfl)⟩
  case round =>
    clear E2 A2 hVB
    obtain ⟨J, n, gs, hJ, rfl, hE, hA, hO, hG⟩ := hrel
    rcases hJ with ⟨rfl, rfl⟩ | ⟨rfl, rfl⟩ | ⟨rfl, rfl⟩
    · obtain ⟨wo, hwo⟩ : ∃ wo : World, wo = wr := ⟨_, rfl⟩
      subst hwo
      obtain ⟨⟨v00, v01, v02, v03, v04, v05, v06, v07⟩, -⟩ := run_8 (At.at hA.out 0 rfl)
      obtain ⟨⟨v10, v11, v12⟩, -⟩ := run_3 (At.at hA.out 1 rfl)
      obtain ⟨⟨v20, v21, v22⟩, -⟩ := run_3 (At.at hA.out 2 rfl)
      have vz0 := At.lt hA.out 0 rfl
      have vy0 := Nat.lt_succ_of_lt vz0
      have vx0 := Nat.lt_succ_of_lt vy0
      have vz1 := At.lt hA.out 1 rfl
      have vy1 := Nat.lt_succ_of_lt vz1
      have vx1 := Nat.lt_succ_of_lt vy1
      have vz2 := At.lt hA.out 2 rfl
      have vy2 := Nat.lt_succ_of_lt vz2
      have vx2 := Nat.lt_succ_of_lt vy2
      go_wp2
      obtain ⟨BX, hBX⟩ : ∃ BX, wo.heap.size = BX := ⟨_, rfl⟩
      have hVBX : VB < BX := by rw [← hBX]; exact At.lt hA.out 0 rfl
      have hNE0 := Lib.hid (show ∀ g9, u9.ownBlock = some g9 → g9 ≠ BX from fun g9 h9 => by have := (owns_block hO.out g9 h9).2; omega)
      have AB := Lib.hid (show At (wo.alloc (Obj.cells #[.int .i64 m.w, .int .i64 m.h, .slice ao m.pix.length cap, .bool false] 96)) [(BX, Obj.cells #[.int .i64 m.w, .int .i64 m.h, .slice ao m.pix.length cap, .bool false] 96), (VB, Obj.cells #[.int .i64 m.w, .int .i64 m.h, .slice ao m.pix.length cap, .bool false, .int .i64 m.w, .int .i64 m.h, .slice ao m.pix.length cap, .bool true] 96), (w.heap.size + 1, Obj.cells #[.int .i64 t.len, .int .i64 t.grip, .int .i64 t.palm] 26), (w.heap.size, Obj.cells #[.int .i64 m.w, .int .i64 m.h, .slice ao m.pix.length cap] 24)] from ⟨blk_at _ _ hBX.symm, At.alloc hA.out _⟩)
      have EB := Lib.hid (hE.out.alloc (Obj.cells #[.int .i64 m.w, .int .i64 m.h, .slice ao m.pix.length cap, .bool false] 96))
      have OB := Lib.hid (owns_ext hO.out ((Ext.refl wo).alloc (Obj.cells #[.int .i64 m.w, .int .i64 m.h, .slice ao m.pix.length cap, .bool false] 96)))
      clear v00 v01 v02 v03 v04 v05 v06 v07 v10 v11 v12 v20 v21 v22 vz0 vy0 vx0 vz1 vy1 vx1 vz2 vy2 vx2
      rw [hBX]
      go_loopw [9, 12] (fun ov i wr => ∃ (wn : Nat) (W : Int) (gs : List Grasp), W = (wn : Int) + 1 ∧ wn ≤ 8 ∧ i = .int .i64 W ∧ Hid (Ext w wr) ∧ Hid (At wr [(BX, Obj.cells #[.int .i64 m.w, .int .i64 m.h, .slice ao m.pix.length cap, .bool false] 96), (VB, Obj.cells #[.int .i64 m.w, .int .i64 m.h, .slice ao m.pix.length cap, .bool false, .int .i64 m.w, .int .i64 m.h, .slice ao m.pix.length cap, .bool true] 96), (w.heap.size + 1, Obj.cells #[.int .i64 t.len, .int .i64 t.grip, .int .i64 t.palm] 26), (w.heap.size, Obj.cells #[.int .i64 m.w, .int .i64 m.h, .slice ao m.pix.length cap] 24)]) ∧ Hid (wr.ownsRow (VB + 1) 28 5 ov gs.length (grasps gs)) ∧ Hid (∀ g9, ov.ownBlock = some g9 → g9 ≠ BX) ∧ Hid (Gath (m.Try t slack) ((0 + wn) * m.pix.length) gs)) (fun _ i _ => (9 - intOf i).toNat)
      case atStart => exact ⟨0, 1, gs, by omega, by omega, rfl, EB, AB, OB, hNE0, hG⟩
      case round =>
        clear hE hA hO hG hNE0 AB EB OB
        obtain ⟨wn, W, gs, hW, hwn, rfl, hE, hA, hO, hNE, hG⟩ := hrel
        have HW := Lib.hid hW
        have hW1 : 1 ≤ W := by omega
        have hW9 : W ≤ 9 := by omega
        clear hW
        obtain ⟨⟨x00, x01, x02, x03⟩, -⟩ := run_4 (At.at hA.out 0 rfl)
        obtain ⟨⟨x10, x11, x12, x13, x14, x15, x16, x17⟩, -⟩ := run_8 (At.at hA.out 1 rfl)
        obtain ⟨⟨x20, x21, x22⟩, -⟩ := run_3 (At.at hA.out 2 rfl)
        obtain ⟨⟨x30, x31, x32⟩, -⟩ := run_3 (At.at hA.out 3 rfl)
        have xz0 := At.lt hA.out 0 rfl
        have xy0 := Nat.lt_succ_of_lt xz0
        have xx0 := Nat.lt_succ_of_lt xy0
        have xz1 := At.lt hA.out 1 rfl
        have xy1 := Nat.lt_succ_of_lt xz1
        have xx1 := Nat.lt_succ_of_lt xy1
        have xz2 := At.lt hA.out 2 rfl
        have xy2 := Nat.lt_succ_of_lt xz2
        have xx2 := Nat.lt_succ_of_lt xy2
        have xz3 := At.lt hA.out 3 rfl
        have xy3 := Nat.lt_succ_of_lt xz3
        have xx3 := Nat.lt_succ_of_lt xy3
        by_cases hw8 : W ≤ 8
        · go_wp2
          clear x00 x01 x02 x03 x10 x11 x12 x13 x14 x15 x16 x17 x20 x21 x22 x30 x31 x32 xz0 xy0 xx0 xz1 xy1 xx1 xz2 xy2 xx2 xz3 xy3 xx3
          obtain ⟨wp, hwp⟩ : ∃ wp : World, wp = wr := ⟨_, rfl⟩
          subst hwp
          go_loopw [9, 42] (fun ov i wr => ∃ (k : Nat) (gs : List Grasp), k ≤ m.pix.length ∧ i = .int .i64 (k : Int) ∧ Hid (Ext w wr) ∧ Hid (At wr [(BX, Obj.cells #[.int .i64 m.w, .int .i64 m.h, .slice ao m.pix.length cap, .bool false] 96), (VB, Obj.cells #[.int .i64 m.w, .int .i64 m.h, .slice ao m.pix.length cap, .bool false, .int .i64 m.w, .int .i64 m.h, .slice ao m.pix.length cap, .bool true] 96), (w.heap.size + 1, Obj.cells #[.int .i64 t.len, .int .i64 t.grip, .int .i64 t.palm] 26), (w.heap.size, Obj.cells #[.int .i64 m.w, .int .i64 m.h, .slice ao m.pix.length cap] 24)]) ∧ Hid (wr.ownsRow (VB + 1) 28 5 ov gs.length (grasps gs)) ∧ Hid (∀ g9, ov.ownBlock = some g9 → g9 ≠ BX) ∧ Hid (Gath (m.Try t slack) ((0 + wn) * m.pix.length + k) gs)) (fun _ i _ => m.pix.length - (intOf i).toNat)
          case atStart => exact ⟨0, gs, by omega, rfl, hE, hA, hO, hNE, hG⟩
          case round =>
            clear hE hA hO hNE hG
            obtain ⟨k, gs, hk, rfl, hE, hA, hO, hNE, hG⟩ := hrel
            by_cases hkl : k < m.pix.length
            · obtain ⟨pb, pb2⟩ := place_bd HC.out.1 hkl
              have hkq := key_at (q := 0 + wn) hkl
              obtain ⟨px, hpx⟩ : ∃ px, (k : Int) % m.w = px := ⟨_, rfl⟩
              obtain ⟨py, hpy⟩ : ∃ py, (k : Int) / m.w = py := ⟨_, rfl⟩
              have e1 : decide (8 ≤ 0 + wn) = false := by have := HW.out; first | exact decide_eq_true (by omega) | exact decide_eq_false (by omega)
              have e2 : (((0 + wn) % 8 : Nat) : Int) + 1 = W := by have := HW.out; omega
              rw [hpx, hpy, e1, e2] at hkq
              rw [hpx] at pb
              rw [hpy] at pb2
              have hrem : (k : Int).tmod m.w = px := by rw [Int.tmod_eq_emod_of_nonneg (by omega)]; exact hpx
              have hquo : (k : Int).tdiv m.w = py := by rw [Int.tdiv_eq_ediv_of_nonneg (by omega)]; exact hpy
              have HK := Lib.hid hkq
              obtain ⟨pb0, pb1⟩ := pb
              obtain ⟨pb3, pb4⟩ := pb2
              have K51 := Lib.hid (fun w' (h : Ext wr w') => c51 m _ t false px py W slack w' HC.out HT.out (HV.out.ext (hE.out.trans h)) (by omega) (by omega) (by omega) hsl)
              unfold viewVal toolVal at K51
              have HLT := Lib.hid (fun g9 h9 => (owns_block hO.out g9 h9).2)
              have hlen : gs.length ≤ 5000 := by have h1 := Gath.len hG.out; have h2 := Nat.mul_le_mul (show 0 + wn ≤ 16 by omega) n2; omega
              have hmw : (m.w == 0) = false := by simp; omega
              obtain ⟨⟨x00, x01, x02, x03⟩, -⟩ := run_4 (At.at hA.out 0 rfl)
              obtain ⟨⟨x10, x11, x12, x13, x14, x15, x16, x17⟩, -⟩ := run_8 (At.at hA.out 1 rfl)
              obtain ⟨⟨x20, x21, x22⟩, -⟩ := run_3 (At.at hA.out 2 rfl)
              obtain ⟨⟨x30, x31, x32⟩, -⟩ := run_3 (At.at hA.out 3 rfl)
              have xz0 := At.lt hA.out 0 rfl
              have xy0 := Nat.lt_succ_of_lt xz0
              have xx0 := Nat.lt_succ_of_lt xy0
              have xz1 := At.lt hA.out 1 rfl
              have xy1 := Nat.lt_succ_of_lt xz1
              have xx1 := Nat.lt_succ_of_lt xy1
              have xz2 := At.lt hA.out 2 rfl
              have xy2 := Nat.lt_succ_of_lt xz2
              have xx2 := Nat.lt_succ_of_lt xy2
              have xz3 := At.lt hA.out 3 rfl
              have xy3 := Nat.lt_succ_of_lt xz3
              have xx3 := Nat.lt_succ_of_lt xy3
              clear hkq e1 e2 hpx hpy
              go_wp2
              refine RT.region_one (aq := ?az0) (n := 14) (sx := 14) (vx := 58) (oz := Obj.cells #[.int .i64 0, .int .i64 0, .bool false, .int .i64 0, .int .i64 0] 28) (ox := Obj.cells #[.int .i64 px, .int .i64 py, .bool false, .int .i64 W, .int .i64 (0)] 28) (qs1 := [_, _, _, _, _, _, _, _, _, _, _, _, _, _]) (qs2 := []) (by kernel_rfl) rfl (by kernel_rfl) (by kernel_rfl) rfl (of_decide_eq_true (by kernel_rfl)) rfl rfl (by kernel_rfl) (by kernel_rfl) (by kernel_rfl) ?_ ?_ ?_ ?_
              rotate_left
              · intro e w
                simp [execOp, go_sem, Try.underlying28]
              · intro wq hEq
                have AQ := Lib.hid (show At wq [(BX, Obj.cells #[.int .i64 m.w, .int .i64 m.h, .slice ao m.pix.length cap, .bool false] 96), (VB, Obj.cells #[.int .i64 m.w, .int .i64 m.h, .slice ao m.pix.length cap, .bool false, .int .i64 m.w, .int .i64 m.h, .slice ao m.pix.length cap, .bool true] 96), (w.heap.size + 1, Obj.cells #[.int .i64 t.len, .int .i64 t.grip, .int .i64 t.palm] 26), (w.heap.size, Obj.cells #[.int .i64 m.w, .int .i64 m.h, .slice ao m.pix.length cap] 24)] from At.ext hEq hA.out)
                obtain ⟨⟨q00, q01, q02, q03⟩, -⟩ := run_4 (At.at AQ.out 0 rfl)
                obtain ⟨⟨q10, q11, q12, q13, q14, q15, q16, q17⟩, -⟩ := run_8 (At.at AQ.out 1 rfl)
                obtain ⟨⟨q20, q21, q22⟩, -⟩ := run_3 (At.at AQ.out 2 rfl)
                obtain ⟨⟨q30, q31, q32⟩, -⟩ := run_3 (At.at AQ.out 3 rfl)
                have qz0 := At.lt AQ.out 0 rfl
                have qy0 := Nat.lt_succ_of_lt qz0
                have qx0 := Nat.lt_succ_of_lt qy0
                have qz1 := At.lt AQ.out 1 rfl
                have qy1 := Nat.lt_succ_of_lt qz1
                have qx1 := Nat.lt_succ_of_lt qy1
                have qz2 := At.lt AQ.out 2 rfl
                have qy2 := Nat.lt_succ_of_lt qz2
                have qx2 := Nat.lt_succ_of_lt qy2
                have qz3 := At.lt AQ.out 3 rfl
                have qy3 := Nat.lt_succ_of_lt qz3
                have qx3 := Nat.lt_succ_of_lt qy3
                clear hEq
                simp only [List.cons_append, List.nil_append, List.append_nil]
                repeat (go_big_quiet_step (fail))
                refine wpQuiet_nil ?_
                exact rfl
              · intro e w b h1 h2 h3
                obtain ⟨⟨c0, c1, c2, c3, c4⟩, f0, f1, f2, f3, f4⟩ := run_5 h3
                have h2' : e (.tmp 58) = .agg #[.int .i64 px, .int .i64 py, .bool false, .int .i64 W, .int .i64 (0)] := h2
                apply Exists.intro
                apply And.intro
                · simp [execOp, go_sem, h1, h2', c0, c1, c2, c3, c4, f0, f1, f2, f3, f4, Try.underlying28]
                  exact rfl
                · exact store_5 h3
              intro bq w5 hE5 hbq hX5
              have A5 := Lib.hid (show At w5 [(bq, Obj.cells #[.int .i64 px, .int .i64 py, .bool false, .int .i64 W, .int .i64 (0)] 28), (BX, Obj.cells #[.int .i64 m.w, .int .i64 m.h, .slice ao m.pix.length cap, .bool false] 96), (VB, Obj.cells #[.int .i64 m.w, .int .i64 m.h, .slice ao m.pix.length cap, .bool false, .int .i64 m.w, .int .i64 m.h, .slice ao m.pix.length cap, .bool true] 96), (w.heap.size + 1, Obj.cells #[.int .i64 t.len, .int .i64 t.grip, .int .i64 t.palm] 26), (w.heap.size, Obj.cells #[.int .i64 m.w, .int .i64 m.h, .slice ao m.pix.length cap] 24)] from ⟨hX5, At.ext hE5 hA.out⟩)
              obtain ⟨⟨y00, y01, y02, y03, y04⟩, -⟩ := run_5 (At.at A5.out 0 rfl)
              obtain ⟨⟨y10, y11, y12, y13⟩, -⟩ := run_4 (At.at A5.out 1 rfl)
              obtain ⟨⟨y20, y21, y22, y23, y24, y25, y26, y27⟩, -⟩ := run_8 (At.at A5.out 2 rfl)
              obtain ⟨⟨y30, y31, y32⟩, -⟩ := run_3 (At.at A5.out 3 rfl)
              obtain ⟨⟨y40, y41, y42⟩, -⟩ := run_3 (At.at A5.out 4 rfl)
              have yz0 := At.lt A5.out 0 rfl
              have yy0 := Nat.lt_succ_of_lt yz0
              have yx0 := Nat.lt_succ_of_lt yy0
              have yz1 := At.lt A5.out 1 rfl
              have yy1 := Nat.lt_succ_of_lt yz1
              have yx1 := Nat.lt_succ_of_lt yy1
              have yz2 := At.lt A5.out 2 rfl
              have yy2 := Nat.lt_succ_of_lt yz2
              have yx2 := Nat.lt_succ_of_lt yy2
              have yz3 := At.lt A5.out 3 rfl
              have yy3 := Nat.lt_succ_of_lt yz3
              have yx3 := Nat.lt_succ_of_lt yy3
              have yz4 := At.lt A5.out 4 rfl
              have yy4 := Nat.lt_succ_of_lt yz4
              have yx4 := Nat.lt_succ_of_lt yy4
              have hsz5 := hE5.size
              have hBXq : BX < bq := Nat.lt_of_lt_of_le (At.lt hA.out 0 rfl) hbq
              clear hX5
              go_wp2
              go_quiet (fail)
              have hb6 : Ext w5 (w5.drewN nq) := (Ext.refl _).drewN nq
              generalize hw6 : w5.drewN nq = w6 at hb6 ⊢
              clear hw6
              have A6 := Lib.hid (show At w6 [(bq, Obj.cells #[.int .i64 px, .int .i64 py, .bool false, .int .i64 W, .int .i64 (0)] 28), (BX, Obj.cells #[.int .i64 m.w, .int .i64 m.h, .slice ao m.pix.length cap, .bool false] 96), (VB, Obj.cells #[.int .i64 m.w, .int .i64 m.h, .slice ao m.pix.length cap, .bool false, .int .i64 m.w, .int .i64 m.h, .slice ao m.pix.length cap, .bool true] 96), (w.heap.size + 1, Obj.cells #[.int .i64 t.len, .int .i64 t.grip, .int .i64 t.palm] 26), (w.heap.size, Obj.cells #[.int .i64 m.w, .int .i64 m.h, .slice ao m.pix.length cap] 24)] from At.ext hb6 A5.out)
              clear y00 y01 y02 y03 y04 y10 y11 y12 y13 y20 y21 y22 y23 y24 y25 y26 y27 y30 y31 y32 y40 y41 y42 yz0 yy0 yx0 yz1 yy1 yx1 yz2 yy2 yx2 yz3 yy3 yx3 yz4 yy4 yx4
              obtain ⟨⟨z00, z01, z02, z03, z04⟩, -⟩ := run_5 (At.at A6.out 0 rfl)
              obtain ⟨⟨z10, z11, z12, z13⟩, -⟩ := run_4 (At.at A6.out 1 rfl)
              obtain ⟨⟨z20, z21, z22, z23, z24, z25, z26, z27⟩, -⟩ := run_8 (At.at A6.out 2 rfl)
              obtain ⟨⟨z30, z31, z32⟩, -⟩ := run_3 (At.at A6.out 3 rfl)
              obtain ⟨⟨z40, z41, z42⟩, -⟩ := run_3 (At.at A6.out 4 rfl)
              have zz0 := At.lt A6.out 0 rfl
              have zy0 := Nat.lt_succ_of_lt zz0
              have zx0 := Nat.lt_succ_of_lt zy0
              have zz1 := At.lt A6.out 1 rfl
              have zy1 := Nat.lt_succ_of_lt zz1
              have zx1 := Nat.lt_succ_of_lt zy1
              have zz2 := At.lt A6.out 2 rfl
              have zy2 := Nat.lt_succ_of_lt zz2
              have zx2 := Nat.lt_succ_of_lt zy2
              have zz3 := At.lt A6.out 3 rfl
              have zy3 := Nat.lt_succ_of_lt zz3
              have zx3 := Nat.lt_succ_of_lt zy3
              have zz4 := At.lt A6.out 4 rfl
              have zy4 := Nat.lt_succ_of_lt zz4
              have zx4 := Nat.lt_succ_of_lt zy4
              go_wp2_with (first | (go_at_call 51; (with_reducible refine (K51.out _ (hE5.trans hb6)).mono ?_); rintro E w7 ⟨lo, hi, rfl, hr, hb7⟩; have HR := Lib.hid hr; clear hr; have A7 := Lib.hid (show At w7 [(bq, Obj.cells #[.int .i64 px, .int .i64 py, .bool false, .int .i64 W, .int .i64 (0)] 28), (BX, Obj.cells #[.int .i64 m.w, .int .i64 m.h, .slice ao m.pix.length cap, .bool false] 96), (VB, Obj.cells #[.int .i64 m.w, .int .i64 m.h, .slice ao m.pix.length cap, .bool false, .int .i64 m.w, .int .i64 m.h, .slice ao m.pix.length cap, .bool true] 96), (w.heap.size + 1, Obj.cells #[.int .i64 t.len, .int .i64 t.grip, .int .i64 t.palm] 26), (w.heap.size, Obj.cells #[.int .i64 m.w, .int .i64 m.h, .slice ao m.pix.length cap] 24)] from At.ext hb7 A6.out); have E7 := Lib.hid (hE.out.trans ((hE5.trans hb6).trans hb7)); have O7 := Lib.hid (owns_ext hO.out ((hE5.trans hb6).trans hb7)); have hz7 := hb7.size; clear z00 z01 z02 z03 z04 z10 z11 z12 z13 z20 z21 z22 z23 z24 z25 z26 z27 z30 z31 z32 z40 z41 z42 zz0 zy0 zx0 zz1 zy1 zx1 zz2 zy2 zx2 zz3 zy3 zx3 zz4 zy4 zx4; obtain ⟨⟨z00, z01, z02, z03, z04⟩, zf00, zf01, zf02, zf03, zf04⟩ := run_5 (At.at A7.out 0 rfl); obtain ⟨⟨z10, z11, z12, z13⟩, zf10, zf11, zf12, zf13⟩ := run_4 (At.at A7.out 1 rfl); obtain ⟨⟨z20, z21, z22, z23, z24, z25, z26, z27⟩, zf20, zf21, zf22, zf23, zf24, zf25, zf26, zf27⟩ := run_8 (At.at A7.out 2 rfl); obtain ⟨⟨z30, z31, z32⟩, zf30, zf31, zf32⟩ := run_3 (At.at A7.out 3 rfl); obtain ⟨⟨z40, z41, z42⟩, zf40, zf41, zf42⟩ := run_3 (At.at A7.out 4 rfl); have zz0 := At.lt A7.out 0 rfl; have zy0 := Nat.lt_succ_of_lt zz0; have zx0 := Nat.lt_succ_of_lt zy0; have zz1 := At.lt A7.out 1 rfl; have zy1 := Nat.lt_succ_of_lt zz1; have zx1 := Nat.lt_succ_of_lt zy1; have zz2 := At.lt A7.out 2 rfl; have zy2 := Nat.lt_succ_of_lt zz2; have zx2 := Nat.lt_succ_of_lt zy2; have zz3 := At.lt A7.out 3 rfl; have zy3 := Nat.lt_succ_of_lt zz3; have zx3 := Nat.lt_succ_of_lt zy3; have zz4 := At.lt A7.out 4 rfl; have zy4 := Nat.lt_succ_of_lt zz4; have zx4 := Nat.lt_succ_of_lt zy4) | (at_builtin; refine wpList_append_at rfl _ _ 35 rfl (VB + 1) 28 i0 (.agg #[.int .i64 0, .int .i64 0, .bool false, .int .i64 0, .int .i64 0]) 5 40 Try.underlying35 hi0 hz0 hz1 hz2 rfl (by omega) u9 gs.length (grasps gs) rfl (owns_ext (owns_ext (owns_at O7.out (fun g9 hg9 => set_at _ _ _ _ g9 (by have := HLT.out g9 hg9; omega))) ((Ext.refl _).alloc _)) ((Ext.refl _).alloc _)) _ 1 (graspCells { x := px, y := py, across := false, width := W, z := lo }) rfl (SlAt.lit_at _ (w7.heap.size + 1) (by simp) (graspCells { x := px, y := py, across := false, width := W, z := lo }) 28 5 rfl) (grasps_one _) (by unfold maxLen; omega) (by omega) (by simp; omega) ?_; intro va w8 ho hg hat; have A8 := Lib.hid (show At w8 [(BX, Obj.cells #[.int .i64 m.w, .int .i64 m.h, .slice ao m.pix.length cap, .bool false] 96), (VB, Obj.cells #[.int .i64 m.w, .int .i64 m.h, .slice ao m.pix.length cap, .bool false, .int .i64 m.w, .int .i64 m.h, .slice ao m.pix.length cap, .bool true] 96), (w.heap.size + 1, Obj.cells #[.int .i64 t.len, .int .i64 t.grip, .int .i64 t.palm] 26), (w.heap.size, Obj.cells #[.int .i64 m.w, .int .i64 m.h, .slice ao m.pix.length cap] 24)] from At.grown hg (At.alloc (At.alloc (At.other (set_at _ bq 4 _) (by simp; omega) (At.erase A7.out 0)) _) _) (by intro k9 hk9; simp only [List.map_cons, List.map_nil, List.mem_cons, List.not_mem_nil, or_false] at hk9; rcases hk9 with rfl | rfl | rfl | rfl; exact fun h9 => hNE.out _ h9 rfl; all_goals exact fun h9 => by have := (owns_block hO.out _ h9).1; omega)); have E8 := Lib.hid (((((E7.out.setCell (p := ⟨bq, 4, none⟩) (show w.heap.size ≤ bq by omega) _).alloc _).alloc _)).grown hg (fun g9 h9 => by have := (owns_block hO.out g9 h9).1; omega)); have O8 := Lib.hid ho; have N8 := Lib.hid (show ∀ g9, va.ownBlock = some g9 → g9 ≠ BX from fun g9 h9 => by rcases hat with h8 | h8; exact hNE.out g9 (h8 ▸ h9); rw [h8] at h9; injection h9 with h9; simp at h9; omega); clear ho hg hat))
              · go_roundw
                case rel => exact ⟨k + 1, gs ++ [{ x := px, y := py, across := false, width := W, z := lo }], by omega, by go_num, E8, A8, Lib.hid (by rw [grasps_snoc, List.length_append]; exact O8.out), N8, Lib.hid (by rw [show (0 + wn) * m.pix.length + (k + 1) = ((0 + wn) * m.pix.length + k) + 1 by omega]; exact gath_yes hG.out (try_yes HK.out (by omega) HR.out (by assumption)))⟩
                case measure => simp [intOf]; omega
              · go_roundw
                case rel => exact ⟨k + 1, gs, by omega, by go_num, Lib.hid (E7.out.alloc _), Lib.hid (At.alloc (At.erase A7.out 0) _), Lib.hid (owns_ext O7.out ((Ext.refl _).alloc _)), hNE, Lib.hid (by rw [show (0 + wn) * m.pix.length + (k + 1) = ((0 + wn) * m.pix.length + k) + 1 by omega]; exact gath_no hG.out (try_no HK.out (by omega) HR.out (by omega)))⟩
                case measure => simp [intOf]; omega

            · have hkn : k = m.pix.length := by omega
              have HG2 := Lib.hid (show Gath (m.Try t slack) ((0 + (wn + 1)) * m.pix.length) gs from by rw [show (0 + (wn + 1)) * m.pix.length = (0 + wn) * m.pix.length + k by rw [hkn, ← Nat.add_assoc, Nat.succ_mul]]; exact hG.out)
              clear hkn
              obtain ⟨⟨x00, x01, x02, x03⟩, -⟩ := run_4 (At.at hA.out 0 rfl)
              obtain ⟨⟨x10, x11, x12, x13, x14, x15, x16, x17⟩, -⟩ := run_8 (At.at hA.out 1 rfl)
              obtain ⟨⟨x20, x21, x22⟩, -⟩ := run_3 (At.at hA.out 2 rfl)
              obtain ⟨⟨x30, x31, x32⟩, -⟩ := run_3 (At.at hA.out 3 rfl)
              have xz0 := At.lt hA.out 0 rfl
              have xy0 := Nat.lt_succ_of_lt xz0
              have xx0 := Nat.lt_succ_of_lt xy0
              have xz1 := At.lt hA.out 1 rfl
              have xy1 := Nat.lt_succ_of_lt xz1
              have xx1 := Nat.lt_succ_of_lt xy1
              have xz2 := At.lt hA.out 2 rfl
              have xy2 := Nat.lt_succ_of_lt xz2
              have xx2 := Nat.lt_succ_of_lt xy2
              have xz3 := At.lt hA.out 3 rfl
              have xy3 := Nat.lt_succ_of_lt xz3
              have xx3 := Nat.lt_succ_of_lt xy3
              go_wp2
              go_roundw
              case rel => exact ⟨wn + 1, W + 1, gs, by have := HW.out; omega, by have := HW.out; omega, rfl, hE, hA, hO, hNE, HG2⟩
              case measure => simp [intOf]; omega
        · have hw9 : W = 9 := by omega
          have HG2 := Lib.hid (show Gath (m.Try t slack) ((0 + 8) * m.pix.length) gs from (show wn = 8 by have := HW.out; omega) ▸ hG.out)
          clear hw9
          go_wp2
          go_roundw
          case rel => exact ⟨1, 0 + 8, gs, by omega, rfl, hE, Lib.hid (At.erase hA.out 0), hO, HG2⟩
          case measure => simp [intOf]

    · obtain ⟨wo, hwo⟩ : ∃ wo : World, wo = wr := ⟨_, rfl⟩
      subst hwo
      obtain ⟨⟨v00, v01, v02, v03, v04, v05, v06, v07⟩, -⟩ := run_8 (At.at hA.out 0 rfl)
      obtain ⟨⟨v10, v11, v12⟩, -⟩ := run_3 (At.at hA.out 1 rfl)
      obtain ⟨⟨v20, v21, v22⟩, -⟩ := run_3 (At.at hA.out 2 rfl)
      have vz0 := At.lt hA.out 0 rfl
      have vy0 := Nat.lt_succ_of_lt vz0
      have vx0 := Nat.lt_succ_of_lt vy0
      have vz1 := At.lt hA.out 1 rfl
      have vy1 := Nat.lt_succ_of_lt vz1
      have vx1 := Nat.lt_succ_of_lt vy1
      have vz2 := At.lt hA.out 2 rfl
      have vy2 := Nat.lt_succ_of_lt vz2
      have vx2 := Nat.lt_succ_of_lt vy2
      go_wp2
      obtain ⟨BX, hBX⟩ : ∃ BX, wo.heap.size = BX := ⟨_, rfl⟩
      have hVBX : VB < BX := by rw [← hBX]; exact At.lt hA.out 0 rfl
      have hNE0 := Lib.hid (show ∀ g9, u9.ownBlock = some g9 → g9 ≠ BX from fun g9 h9 => by have := (owns_block hO.out g9 h9).2; omega)
      have AB := Lib.hid (show At (wo.alloc (Obj.cells #[.int .i64 m.w, .int .i64 m.h, .slice ao m.pix.length cap, .bool true] 96)) [(BX, Obj.cells #[.int .i64 m.w, .int .i64 m.h, .slice ao m.pix.length cap, .bool true] 96), (VB, Obj.cells #[.int .i64 m.w, .int .i64 m.h, .slice ao m.pix.length cap, .bool false, .int .i64 m.w, .int .i64 m.h, .slice ao m.pix.length cap, .bool true] 96), (w.heap.size + 1, Obj.cells #[.int .i64 t.len, .int .i64 t.grip, .int .i64 t.palm] 26), (w.heap.size, Obj.cells #[.int .i64 m.w, .int .i64 m.h, .slice ao m.pix.length cap] 24)] from ⟨blk_at _ _ hBX.symm, At.alloc hA.out _⟩)
      have EB := Lib.hid (hE.out.alloc (Obj.cells #[.int .i64 m.w, .int .i64 m.h, .slice ao m.pix.length cap, .bool true] 96))
      have OB := Lib.hid (owns_ext hO.out ((Ext.refl wo).alloc (Obj.cells #[.int .i64 m.w, .int .i64 m.h, .slice ao m.pix.length cap, .bool true] 96)))
      clear v00 v01 v02 v03 v04 v05 v06 v07 v10 v11 v12 v20 v21 v22 vz0 vy0 vx0 vz1 vy1 vx1 vz2 vy2 vx2
      rw [hBX]
      go_loopw [9, 12] (fun ov i wr => ∃ (wn : Nat) (W : Int) (gs : List Grasp), W = (wn : Int) + 1 ∧ wn ≤ 8 ∧ i = .int .i64 W ∧ Hid (Ext w wr) ∧ Hid (At wr [(BX, Obj.cells #[.int .i64 m.w, .int .i64 m.h, .slice ao m.pix.length cap, .bool true] 96), (VB, Obj.cells #[.int .i64 m.w, .int .i64 m.h, .slice ao m.pix.length cap, .bool false, .int .i64 m.w, .int .i64 m.h, .slice ao m.pix.length cap, .bool true] 96), (w.heap.size + 1, Obj.cells #[.int .i64 t.len, .int .i64 t.grip, .int .i64 t.palm] 26), (w.heap.size, Obj.cells #[.int .i64 m.w, .int .i64 m.h, .slice ao m.pix.length cap] 24)]) ∧ Hid (wr.ownsRow (VB + 1) 28 5 ov gs.length (grasps gs)) ∧ Hid (∀ g9, ov.ownBlock = some g9 → g9 ≠ BX) ∧ Hid (Gath (m.Try t slack) ((8 + wn) * m.pix.length) gs)) (fun _ i _ => (9 - intOf i).toNat)
      case atStart => exact ⟨0, 1, gs, by omega, by omega, rfl, EB, AB, OB, hNE0, hG⟩
      case round =>
        clear hE hA hO hG hNE0 AB EB OB
        obtain ⟨wn, W, gs, hW, hwn, rfl, hE, hA, hO, hNE, hG⟩ := hrel
        have HW := Lib.hid hW
        have hW1 : 1 ≤ W := by omega
        have hW9 : W ≤ 9 := by omega
        clear hW
        obtain ⟨⟨x00, x01, x02, x03⟩, -⟩ := run_4 (At.at hA.out 0 rfl)
        obtain ⟨⟨x10, x11, x12, x13, x14, x15, x16, x17⟩, -⟩ := run_8 (At.at hA.out 1 rfl)
        obtain ⟨⟨x20, x21, x22⟩, -⟩ := run_3 (At.at hA.out 2 rfl)
        obtain ⟨⟨x30, x31, x32⟩, -⟩ := run_3 (At.at hA.out 3 rfl)
        have xz0 := At.lt hA.out 0 rfl
        have xy0 := Nat.lt_succ_of_lt xz0
        have xx0 := Nat.lt_succ_of_lt xy0
        have xz1 := At.lt hA.out 1 rfl
        have xy1 := Nat.lt_succ_of_lt xz1
        have xx1 := Nat.lt_succ_of_lt xy1
        have xz2 := At.lt hA.out 2 rfl
        have xy2 := Nat.lt_succ_of_lt xz2
        have xx2 := Nat.lt_succ_of_lt xy2
        have xz3 := At.lt hA.out 3 rfl
        have xy3 := Nat.lt_succ_of_lt xz3
        have xx3 := Nat.lt_succ_of_lt xy3
        by_cases hw8 : W ≤ 8
        · go_wp2
          clear x00 x01 x02 x03 x10 x11 x12 x13 x14 x15 x16 x17 x20 x21 x22 x30 x31 x32 xz0 xy0 xx0 xz1 xy1 xx1 xz2 xy2 xx2 xz3 xy3 xx3
          obtain ⟨wp, hwp⟩ : ∃ wp : World, wp = wr := ⟨_, rfl⟩
          subst hwp
          go_loopw [9, 42] (fun ov i wr => ∃ (k : Nat) (gs : List Grasp), k ≤ m.pix.length ∧ i = .int .i64 (k : Int) ∧ Hid (Ext w wr) ∧ Hid (At wr [(BX, Obj.cells #[.int .i64 m.w, .int .i64 m.h, .slice ao m.pix.length cap, .bool true] 96), (VB, Obj.cells #[.int .i64 m.w, .int .i64 m.h, .slice ao m.pix.length cap, .bool false, .int .i64 m.w, .int .i64 m.h, .slice ao m.pix.length cap, .bool true] 96), (w.heap.size + 1, Obj.cells #[.int .i64 t.len, .int .i64 t.grip, .int .i64 t.palm] 26), (w.heap.size, Obj.cells #[.int .i64 m.w, .int .i64 m.h, .slice ao m.pix.length cap] 24)]) ∧ Hid (wr.ownsRow (VB + 1) 28 5 ov gs.length (grasps gs)) ∧ Hid (∀ g9, ov.ownBlock = some g9 → g9 ≠ BX) ∧ Hid (Gath (m.Try t slack) ((8 + wn) * m.pix.length + k) gs)) (fun _ i _ => m.pix.length - (intOf i).toNat)
          case atStart => exact ⟨0, gs, by omega, rfl, hE, hA, hO, hNE, hG⟩
          case round =>
            clear hE hA hO hNE hG
            obtain ⟨k, gs, hk, rfl, hE, hA, hO, hNE, hG⟩ := hrel
            by_cases hkl : k < m.pix.length
            · obtain ⟨pb, pb2⟩ := place_bd HC.out.1 hkl
              have hkq := key_at (q := 8 + wn) hkl
              obtain ⟨px, hpx⟩ : ∃ px, (k : Int) % m.w = px := ⟨_, rfl⟩
              obtain ⟨py, hpy⟩ : ∃ py, (k : Int) / m.w = py := ⟨_, rfl⟩
              have e1 : decide (8 ≤ 8 + wn) = true := by have := HW.out; first | exact decide_eq_true (by omega) | exact decide_eq_false (by omega)
              have e2 : (((8 + wn) % 8 : Nat) : Int) + 1 = W := by have := HW.out; omega
              rw [hpx, hpy, e1, e2] at hkq
              rw [hpx] at pb
              rw [hpy] at pb2
              have hrem : (k : Int).tmod m.w = px := by rw [Int.tmod_eq_emod_of_nonneg (by omega)]; exact hpx
              have hquo : (k : Int).tdiv m.w = py := by rw [Int.tdiv_eq_ediv_of_nonneg (by omega)]; exact hpy
              have HK := Lib.hid hkq
              obtain ⟨pb0, pb1⟩ := pb
              obtain ⟨pb3, pb4⟩ := pb2
              have K51 := Lib.hid (fun w' (h : Ext wr w') => c51 m _ t true py px W slack w' HC.out HT.out (HV.out.ext (hE.out.trans h)) (by omega) (by omega) (by omega) hsl)
              unfold viewVal toolVal at K51
              have HLT := Lib.hid (fun g9 h9 => (owns_block hO.out g9 h9).2)
              have hlen : gs.length ≤ 5000 := by have h1 := Gath.len hG.out; have h2 := Nat.mul_le_mul (show 8 + wn ≤ 16 by omega) n2; omega
              have hmw : (m.w == 0) = false := by simp; omega
              obtain ⟨⟨x00, x01, x02, x03⟩, -⟩ := run_4 (At.at hA.out 0 rfl)
              obtain ⟨⟨x10, x11, x12, x13, x14, x15, x16, x17⟩, -⟩ := run_8 (At.at hA.out 1 rfl)
              obtain ⟨⟨x20, x21, x22⟩, -⟩ := run_3 (At.at hA.out 2 rfl)
              obtain ⟨⟨x30, x31, x32⟩, -⟩ := run_3 (At.at hA.out 3 rfl)
              have xz0 := At.lt hA.out 0 rfl
              have xy0 := Nat.lt_succ_of_lt xz0
              have xx0 := Nat.lt_succ_of_lt xy0
              have xz1 := At.lt hA.out 1 rfl
              have xy1 := Nat.lt_succ_of_lt xz1
              have xx1 := Nat.lt_succ_of_lt xy1
              have xz2 := At.lt hA.out 2 rfl
              have xy2 := Nat.lt_succ_of_lt xz2
              have xx2 := Nat.lt_succ_of_lt xy2
              have xz3 := At.lt hA.out 3 rfl
              have xy3 := Nat.lt_succ_of_lt xz3
              have xx3 := Nat.lt_succ_of_lt xy3
              clear hkq e1 e2 hpx hpy
              go_wp2
              refine RT.region_one (aq := ?az8) (n := 14) (sx := 14) (vx := 58) (oz := Obj.cells #[.int .i64 0, .int .i64 0, .bool false, .int .i64 0, .int .i64 0] 28) (ox := Obj.cells #[.int .i64 px, .int .i64 py, .bool true, .int .i64 W, .int .i64 (0)] 28) (qs1 := [_, _, _, _, _, _, _, _, _, _, _, _, _, _]) (qs2 := []) (by kernel_rfl) rfl (by kernel_rfl) (by kernel_rfl) rfl (of_decide_eq_true (by kernel_rfl)) rfl rfl (by kernel_rfl) (by kernel_rfl) (by kernel_rfl) ?_ ?_ ?_ ?_
              rotate_left
              · intro e w
                simp [execOp, go_sem, Try.underlying28]
              · intro wq hEq
                have AQ := Lib.hid (show At wq [(BX, Obj.cells #[.int .i64 m.w, .int .i64 m.h, .slice ao m.pix.length cap, .bool true] 96), (VB, Obj.cells #[.int .i64 m.w, .int .i64 m.h, .slice ao m.pix.length cap, .bool false, .int .i64 m.w, .int .i64 m.h, .slice ao m.pix.length cap, .bool true] 96), (w.heap.size + 1, Obj.cells #[.int .i64 t.len, .int .i64 t.grip, .int .i64 t.palm] 26), (w.heap.size, Obj.cells #[.int .i64 m.w, .int .i64 m.h, .slice ao m.pix.length cap] 24)] from At.ext hEq hA.out)
                obtain ⟨⟨q00, q01, q02, q03⟩, -⟩ := run_4 (At.at AQ.out 0 rfl)
                obtain ⟨⟨q10, q11, q12, q13, q14, q15, q16, q17⟩, -⟩ := run_8 (At.at AQ.out 1 rfl)
                obtain ⟨⟨q20, q21, q22⟩, -⟩ := run_3 (At.at AQ.out 2 rfl)
                obtain ⟨⟨q30, q31, q32⟩, -⟩ := run_3 (At.at AQ.out 3 rfl)
                have qz0 := At.lt AQ.out 0 rfl
                have qy0 := Nat.lt_succ_of_lt qz0
                have qx0 := Nat.lt_succ_of_lt qy0
                have qz1 := At.lt AQ.out 1 rfl
                have qy1 := Nat.lt_succ_of_lt qz1
                have qx1 := Nat.lt_succ_of_lt qy1
                have qz2 := At.lt AQ.out 2 rfl
                have qy2 := Nat.lt_succ_of_lt qz2
                have qx2 := Nat.lt_succ_of_lt qy2
                have qz3 := At.lt AQ.out 3 rfl
                have qy3 := Nat.lt_succ_of_lt qz3
                have qx3 := Nat.lt_succ_of_lt qy3
                clear hEq
                simp only [List.cons_append, List.nil_append, List.append_nil]
                repeat (go_big_quiet_step (fail))
                refine wpQuiet_nil ?_
                exact rfl
              · intro e w b h1 h2 h3
                obtain ⟨⟨c0, c1, c2, c3, c4⟩, f0, f1, f2, f3, f4⟩ := run_5 h3
                have h2' : e (.tmp 58) = .agg #[.int .i64 px, .int .i64 py, .bool true, .int .i64 W, .int .i64 (0)] := h2
                apply Exists.intro
                apply And.intro
                · simp [execOp, go_sem, h1, h2', c0, c1, c2, c3, c4, f0, f1, f2, f3, f4, Try.underlying28]
                  exact rfl
                · exact store_5 h3
              intro bq w5 hE5 hbq hX5
              have A5 := Lib.hid (show At w5 [(bq, Obj.cells #[.int .i64 px, .int .i64 py, .bool true, .int .i64 W, .int .i64 (0)] 28), (BX, Obj.cells #[.int .i64 m.w, .int .i64 m.h, .slice ao m.pix.length cap, .bool true] 96), (VB, Obj.cells #[.int .i64 m.w, .int .i64 m.h, .slice ao m.pix.length cap, .bool false, .int .i64 m.w, .int .i64 m.h, .slice ao m.pix.length cap, .bool true] 96), (w.heap.size + 1, Obj.cells #[.int .i64 t.len, .int .i64 t.grip, .int .i64 t.palm] 26), (w.heap.size, Obj.cells #[.int .i64 m.w, .int .i64 m.h, .slice ao m.pix.length cap] 24)] from ⟨hX5, At.ext hE5 hA.out⟩)
              obtain ⟨⟨y00, y01, y02, y03, y04⟩, -⟩ := run_5 (At.at A5.out 0 rfl)
              obtain ⟨⟨y10, y11, y12, y13⟩, -⟩ := run_4 (At.at A5.out 1 rfl)
              obtain ⟨⟨y20, y21, y22, y23, y24, y25, y26, y27⟩, -⟩ := run_8 (At.at A5.out 2 rfl)
              obtain ⟨⟨y30, y31, y32⟩, -⟩ := run_3 (At.at A5.out 3 rfl)
              obtain ⟨⟨y40, y41, y42⟩, -⟩ := run_3 (At.at A5.out 4 rfl)
              have yz0 := At.lt A5.out 0 rfl
              have yy0 := Nat.lt_succ_of_lt yz0
              have yx0 := Nat.lt_succ_of_lt yy0
              have yz1 := At.lt A5.out 1 rfl
              have yy1 := Nat.lt_succ_of_lt yz1
              have yx1 := Nat.lt_succ_of_lt yy1
              have yz2 := At.lt A5.out 2 rfl
              have yy2 := Nat.lt_succ_of_lt yz2
              have yx2 := Nat.lt_succ_of_lt yy2
              have yz3 := At.lt A5.out 3 rfl
              have yy3 := Nat.lt_succ_of_lt yz3
              have yx3 := Nat.lt_succ_of_lt yy3
              have yz4 := At.lt A5.out 4 rfl
              have yy4 := Nat.lt_succ_of_lt yz4
              have yx4 := Nat.lt_succ_of_lt yy4
              have hsz5 := hE5.size
              have hBXq : BX < bq := Nat.lt_of_lt_of_le (At.lt hA.out 0 rfl) hbq
              clear hX5
              go_wp2
              go_quiet (fail)
              have hb6 : Ext w5 (w5.drewN nq) := (Ext.refl _).drewN nq
              generalize hw6 : w5.drewN nq = w6 at hb6 ⊢
              clear hw6
              have A6 := Lib.hid (show At w6 [(bq, Obj.cells #[.int .i64 px, .int .i64 py, .bool true, .int .i64 W, .int .i64 (0)] 28), (BX, Obj.cells #[.int .i64 m.w, .int .i64 m.h, .slice ao m.pix.length cap, .bool true] 96), (VB, Obj.cells #[.int .i64 m.w, .int .i64 m.h, .slice ao m.pix.length cap, .bool false, .int .i64 m.w, .int .i64 m.h, .slice ao m.pix.length cap, .bool true] 96), (w.heap.size + 1, Obj.cells #[.int .i64 t.len, .int .i64 t.grip, .int .i64 t.palm] 26), (w.heap.size, Obj.cells #[.int .i64 m.w, .int .i64 m.h, .slice ao m.pix.length cap] 24)] from At.ext hb6 A5.out)
              clear y00 y01 y02 y03 y04 y10 y11 y12 y13 y20 y21 y22 y23 y24 y25 y26 y27 y30 y31 y32 y40 y41 y42 yz0 yy0 yx0 yz1 yy1 yx1 yz2 yy2 yx2 yz3 yy3 yx3 yz4 yy4 yx4
              obtain ⟨⟨z00, z01, z02, z03, z04⟩, -⟩ := run_5 (At.at A6.out 0 rfl)
              obtain ⟨⟨z10, z11, z12, z13⟩, -⟩ := run_4 (At.at A6.out 1 rfl)
              obtain ⟨⟨z20, z21, z22, z23, z24, z25, z26, z27⟩, -⟩ := run_8 (At.at A6.out 2 rfl)
              obtain ⟨⟨z30, z31, z32⟩, -⟩ := run_3 (At.at A6.out 3 rfl)
              obtain ⟨⟨z40, z41, z42⟩, -⟩ := run_3 (At.at A6.out 4 rfl)
              have zz0 := At.lt A6.out 0 rfl
              have zy0 := Nat.lt_succ_of_lt zz0
              have zx0 := Nat.lt_succ_of_lt zy0
              have zz1 := At.lt A6.out 1 rfl
              have zy1 := Nat.lt_succ_of_lt zz1
              have zx1 := Nat.lt_succ_of_lt zy1
              have zz2 := At.lt A6.out 2 rfl
              have zy2 := Nat.lt_succ_of_lt zz2
              have zx2 := Nat.lt_succ_of_lt zy2
              have zz3 := At.lt A6.out 3 rfl
              have zy3 := Nat.lt_succ_of_lt zz3
              have zx3 := Nat.lt_succ_of_lt zy3
              have zz4 := At.lt A6.out 4 rfl
              have zy4 := Nat.lt_succ_of_lt zz4
              have zx4 := Nat.lt_succ_of_lt zy4
              go_wp2_with (first | (go_at_call 51; (with_reducible refine (K51.out _ (hE5.trans hb6)).mono ?_); rintro E w7 ⟨lo, hi, rfl, hr, hb7⟩; have HR := Lib.hid hr; clear hr; have A7 := Lib.hid (show At w7 [(bq, Obj.cells #[.int .i64 px, .int .i64 py, .bool true, .int .i64 W, .int .i64 (0)] 28), (BX, Obj.cells #[.int .i64 m.w, .int .i64 m.h, .slice ao m.pix.length cap, .bool true] 96), (VB, Obj.cells #[.int .i64 m.w, .int .i64 m.h, .slice ao m.pix.length cap, .bool false, .int .i64 m.w, .int .i64 m.h, .slice ao m.pix.length cap, .bool true] 96), (w.heap.size + 1, Obj.cells #[.int .i64 t.len, .int .i64 t.grip, .int .i64 t.palm] 26), (w.heap.size, Obj.cells #[.int .i64 m.w, .int .i64 m.h, .slice ao m.pix.length cap] 24)] from At.ext hb7 A6.out); have E7 := Lib.hid (hE.out.trans ((hE5.trans hb6).trans hb7)); have O7 := Lib.hid (owns_ext hO.out ((hE5.trans hb6).trans hb7)); have hz7 := hb7.size; clear z00 z01 z02 z03 z04 z10 z11 z12 z13 z20 z21 z22 z23 z24 z25 z26 z27 z30 z31 z32 z40 z41 z42 zz0 zy0 zx0 zz1 zy1 zx1 zz2 zy2 zx2 zz3 zy3 zx3 zz4 zy4 zx4; obtain ⟨⟨z00, z01, z02, z03, z04⟩, zf00, zf01, zf02, zf03, zf04⟩ := run_5 (At.at A7.out 0 rfl); obtain ⟨⟨z10, z11, z12, z13⟩, zf10, zf11, zf12, zf13⟩ := run_4 (At.at A7.out 1 rfl); obtain ⟨⟨z20, z21, z22, z23, z24, z25, z26, z27⟩, zf20, zf21, zf22, zf23, zf24, zf25, zf26, zf27⟩ := run_8 (At.at A7.out 2 rfl); obtain ⟨⟨z30, z31, z32⟩, zf30, zf31, zf32⟩ := run_3 (At.at A7.out 3 rfl); obtain ⟨⟨z40, z41, z42⟩, zf40, zf41, zf42⟩ := run_3 (At.at A7.out 4 rfl); have zz0 := At.lt A7.out 0 rfl; have zy0 := Nat.lt_succ_of_lt zz0; have zx0 := Nat.lt_succ_of_lt zy0; have zz1 := At.lt A7.out 1 rfl; have zy1 := Nat.lt_succ_of_lt zz1; have zx1 := Nat.lt_succ_of_lt zy1; have zz2 := At.lt A7.out 2 rfl; have zy2 := Nat.lt_succ_of_lt zz2; have zx2 := Nat.lt_succ_of_lt zy2; have zz3 := At.lt A7.out 3 rfl; have zy3 := Nat.lt_succ_of_lt zz3; have zx3 := Nat.lt_succ_of_lt zy3; have zz4 := At.lt A7.out 4 rfl; have zy4 := Nat.lt_succ_of_lt zz4; have zx4 := Nat.lt_succ_of_lt zy4) | (at_builtin; refine wpList_append_at rfl _ _ 35 rfl (VB + 1) 28 i0 (.agg #[.int .i64 0, .int .i64 0, .bool false, .int .i64 0, .int .i64 0]) 5 40 Try.underlying35 hi0 hz0 hz1 hz2 rfl (by omega) u9 gs.length (grasps gs) rfl (owns_ext (owns_ext (owns_at O7.out (fun g9 hg9 => set_at _ _ _ _ g9 (by have := HLT.out g9 hg9; omega))) ((Ext.refl _).alloc _)) ((Ext.refl _).alloc _)) _ 1 (graspCells { x := px, y := py, across := true, width := W, z := lo }) rfl (SlAt.lit_at _ (w7.heap.size + 1) (by simp) (graspCells { x := px, y := py, across := true, width := W, z := lo }) 28 5 rfl) (grasps_one _) (by unfold maxLen; omega) (by omega) (by simp; omega) ?_; intro va w8 ho hg hat; have A8 := Lib.hid (show At w8 [(BX, Obj.cells #[.int .i64 m.w, .int .i64 m.h, .slice ao m.pix.length cap, .bool true] 96), (VB, Obj.cells #[.int .i64 m.w, .int .i64 m.h, .slice ao m.pix.length cap, .bool false, .int .i64 m.w, .int .i64 m.h, .slice ao m.pix.length cap, .bool true] 96), (w.heap.size + 1, Obj.cells #[.int .i64 t.len, .int .i64 t.grip, .int .i64 t.palm] 26), (w.heap.size, Obj.cells #[.int .i64 m.w, .int .i64 m.h, .slice ao m.pix.length cap] 24)] from At.grown hg (At.alloc (At.alloc (At.other (set_at _ bq 4 _) (by simp; omega) (At.erase A7.out 0)) _) _) (by intro k9 hk9; simp only [List.map_cons, List.map_nil, List.mem_cons, List.not_mem_nil, or_false] at hk9; rcases hk9 with rfl | rfl | rfl | rfl; exact fun h9 => hNE.out _ h9 rfl; all_goals exact fun h9 => by have := (owns_block hO.out _ h9).1; omega)); have E8 := Lib.hid (((((E7.out.setCell (p := ⟨bq, 4, none⟩) (show w.heap.size ≤ bq by omega) _).alloc _).alloc _)).grown hg (fun g9 h9 => by have := (owns_block hO.out g9 h9).1; omega)); have O8 := Lib.hid ho; have N8 := Lib.hid (show ∀ g9, va.ownBlock = some g9 → g9 ≠ BX from fun g9 h9 => by rcases hat with h8 | h8; exact hNE.out g9 (h8 ▸ h9); rw [h8] at h9; injection h9 with h9; simp at h9; omega); clear ho hg hat))
              · go_roundw
                case rel => exact ⟨k + 1, gs ++ [{ x := px, y := py, across := true, width := W, z := lo }], by omega, by go_num, E8, A8, Lib.hid (by rw [grasps_snoc, List.length_append]; exact O8.out), N8, Lib.hid (by rw [show (8 + wn) * m.pix.length + (k + 1) = ((8 + wn) * m.pix.length + k) + 1 by omega]; exact gath_yes hG.out (try_yes HK.out (by omega) HR.out (by assumption)))⟩
                case measure => simp [intOf]; omega
              · go_roundw
                case rel => exact ⟨k + 1, gs, by omega, by go_num, Lib.hid (E7.out.alloc _), Lib.hid (At.alloc (At.erase A7.out 0) _), Lib.hid (owns_ext O7.out ((Ext.refl _).alloc _)), hNE, Lib.hid (by rw [show (8 + wn) * m.pix.length + (k + 1) = ((8 + wn) * m.pix.length + k) + 1 by omega]; exact gath_no hG.out (try_no HK.out (by omega) HR.out (by omega)))⟩
                case measure => simp [intOf]; omega

            · have hkn : k = m.pix.length := by omega
              have HG2 := Lib.hid (show Gath (m.Try t slack) ((8 + (wn + 1)) * m.pix.length) gs from by rw [show (8 + (wn + 1)) * m.pix.length = (8 + wn) * m.pix.length + k by rw [hkn, ← Nat.add_assoc, Nat.succ_mul]]; exact hG.out)
              clear hkn
              obtain ⟨⟨x00, x01, x02, x03⟩, -⟩ := run_4 (At.at hA.out 0 rfl)
              obtain ⟨⟨x10, x11, x12, x13, x14, x15, x16, x17⟩, -⟩ := run_8 (At.at hA.out 1 rfl)
              obtain ⟨⟨x20, x21, x22⟩, -⟩ := run_3 (At.at hA.out 2 rfl)
              obtain ⟨⟨x30, x31, x32⟩, -⟩ := run_3 (At.at hA.out 3 rfl)
              have xz0 := At.lt hA.out 0 rfl
              have xy0 := Nat.lt_succ_of_lt xz0
              have xx0 := Nat.lt_succ_of_lt xy0
              have xz1 := At.lt hA.out 1 rfl
              have xy1 := Nat.lt_succ_of_lt xz1
              have xx1 := Nat.lt_succ_of_lt xy1
              have xz2 := At.lt hA.out 2 rfl
              have xy2 := Nat.lt_succ_of_lt xz2
              have xx2 := Nat.lt_succ_of_lt xy2
              have xz3 := At.lt hA.out 3 rfl
              have xy3 := Nat.lt_succ_of_lt xz3
              have xx3 := Nat.lt_succ_of_lt xy3
              go_wp2
              go_roundw
              case rel => exact ⟨wn + 1, W + 1, gs, by have := HW.out; omega, by have := HW.out; omega, rfl, hE, hA, hO, hNE, HG2⟩
              case measure => simp [intOf]; omega
        · have hw9 : W = 9 := by omega
          have HG2 := Lib.hid (show Gath (m.Try t slack) ((8 + 8) * m.pix.length) gs from (show wn = 8 by have := HW.out; omega) ▸ hG.out)
          clear hw9
          go_wp2
          go_roundw
          case rel => exact ⟨2, 8 + 8, gs, by omega, rfl, hE, Lib.hid (At.erase hA.out 0), hO, HG2⟩
          case measure => simp [intOf]

    · go_wp2
      go_ret2
      exact ⟨_, gs, by rw [H0.out]; rfl, owns_base hO.out (by omega), fun _ => hG.out, fun h => absurd H0.out h, hE.out⟩
end Go.Proofs.Ytipkjdfnoonpcaa
