/- Joined from the parts PlanLaws, Plan, RefGrasp, Allowed, Held, SameG, RefPlan. -/
import Derived.Test.YtipkjdfnoonpcaaGA
import Derived.Test.YtipkjdfnoonpcaaOne
set_option linter.unusedVariables false
set_option linter.unusedSimpArgs false
/- Plans, step by step. No walk. -/
namespace Go.Proofs.Ytipkjdfnoonpcaa
open Go.RowKit Go.Sort

theorem key_at {m : Img} {q k : Nat} (hk : k < m.pix.length) : m.key (q * m.pix.length + k) = { x := (k : Int) % m.w, y := (k : Int) / m.w, across := decide (8 ≤ q), width := ((q % 8 : Nat) : Int) + 1, z := 0 } := by
  have h1 : (q * m.pix.length + k) % m.pix.length = k := by rw [Nat.mul_comm, Nat.mul_add_mod, Nat.mod_eq_of_lt hk]
  have h2 : (q * m.pix.length + k) / m.pix.length = q := by
    rw [Nat.mul_comm, Nat.mul_add_div (by omega), Nat.div_eq_of_lt hk, Nat.add_zero]
  unfold Img.key
  rw [h1, h2]
theorem place_bd {m : Img} (hm : m.Sized) {k : Nat} (hk : k < m.pix.length) : (0 ≤ (k : Int) % m.w ∧ (k : Int) % m.w ≤ 15) ∧ 0 ≤ (k : Int) / m.w ∧ (k : Int) / m.w ≤ 15 := by
  obtain ⟨⟨h1, h2⟩, ⟨h3, h4⟩, h5⟩ := hm
  have a1 := Int.emod_nonneg (k : Int) (show m.w ≠ 0 by omega)
  have a2 := Int.emod_lt_of_pos (k : Int) (show 0 < m.w by omega)
  have a3 : 0 ≤ (k : Int) / m.w := Int.ediv_nonneg (by omega) (by omega)
  have a4 : (k : Int) / m.w < m.h := Int.ediv_lt_of_lt_mul (by omega) (by rw [Int.mul_comm]; omega)
  omega
theorem holds_rng {m : Img} {t : Tool} {x y width lo hi slack : Int} {a : Bool} (hw : 1 ≤ width ∧ width ≤ 8) (h : Rng lo hi (m.holds a t.len t.palm t.grip width slack (if a then y else x) (if a then x else y))) (u z0 : Int) : m.Holds t { ({ x := x, y := y, across := a, width := width, z := z0 } : Grasp) with z := u } slack ↔ lo ≤ u ∧ u ≤ hi := by
  unfold Img.Holds
  exact ⟨fun h9 => (h.2.2 u).2 h9.2, fun h9 => ⟨hw, (h.2.2 u).1 h9⟩⟩
theorem try_yes {m : Img} {t : Tool} {slack x y width lo hi : Int} {a : Bool} {n : Nat} (hk : m.key n = { x := x, y := y, across := a, width := width, z := 0 }) (hw : 1 ≤ width ∧ width ≤ 8) (h : Rng lo hi (m.holds a t.len t.palm t.grip width slack (if a then y else x) (if a then x else y))) (hl : lo ≤ hi) :
    m.Try t slack n (some { x := x, y := y, across := a, width := width, z := lo }) := by
  left
  rw [hk]
  exact ⟨lo, (holds_rng hw h lo 0).2 ⟨Int.le_refl _, hl⟩, fun u hu => ((holds_rng hw h u 0).1 hu).1, rfl⟩
theorem try_no {m : Img} {t : Tool} {slack x y width lo hi : Int} {a : Bool} {n : Nat} (hk : m.key n = { x := x, y := y, across := a, width := width, z := 0 }) (hw : 1 ≤ width ∧ width ≤ 8) (h : Rng lo hi (m.holds a t.len t.palm t.grip width slack (if a then y else x) (if a then x else y))) (hl : hi < lo) :
    m.Try t slack n none := by
  right
  rw [hk]
  exact ⟨fun u hu => by have := (holds_rng hw h u 0).1 hu; omega, rfl⟩
def graspCells (g : Grasp) : List Value := [.int .i64 g.x, .int .i64 g.y, .bool g.across, .int .i64 g.width, .int .i64 g.z]
def grasps (gs : List Grasp) : List Value := gs.flatMap graspCells
theorem grasps_length (gs : List Grasp) : (grasps gs).length = gs.length * 5 := by
  induction gs with
  | nil => rfl
  | cons g gs ih => show (graspCells g ++ grasps gs).length = _; rw [List.length_append, ih]; simp [graspCells]; omega
theorem grasps_snoc (gs : List Grasp) (g : Grasp) : grasps (gs ++ [g]) = grasps gs ++ graspCells g := by simp [grasps]
theorem grasps_one (g : Grasp) : ∀ u ∈ graspCells g, u.oneCell' = true := by
  intro u hu
  simp only [graspCells, List.mem_cons, List.not_mem_nil, or_false] at hu
  rcases hu with rfl | rfl | rfl | rfl | rfl <;> rfl
/-- what 'Plan' answers -/
def PlanIs (m : Img) (t : Tool) (slack : Int) (w : World) (e : Ending) (w' : World) : Prop :=
  ∃ v' gs, e = .returned (.tuple #[v', .int .i64 (readyE m t slack)]) ∧ w'.ownsRow w.heap.size 28 5 v' gs.length (grasps gs) ∧ (readyE m t slack = 0 → m.Plan t slack gs) ∧ (readyE m t slack ≠ 0 → gs = []) ∧ Ext w w'
theorem info28 : (Try.prog.info? 28).map (fun i => (i.zero, i.size, i.bytes)) = some (some (.agg #[.int .i64 0, .int .i64 0, .bool false, .int .i64 0, .int .i64 0]), 5, 40) := by kernel_rfl
theorem gath_yes {α : Type} {p : Nat → Option α → Prop} {n : Nat} {gs : List α} {g : α} (h : Gath p n gs) (k : p n (some g)) : Gath p (n + 1) (gs ++ [g]) := ⟨gs, some g, h, k, rfl⟩
theorem gath_no {α : Type} {p : Nat → Option α → Prop} {n : Nat} {gs : List α} (h : Gath p n gs) (k : p n none) : Gath p (n + 1) gs := ⟨gs, none, h, k, by simp⟩
end Go.Proofs.Ytipkjdfnoonpcaa

/- Plan: the program's walk. -/
namespace Go.Proofs.Ytipkjdfnoonpcaa
open Go.RowKit Go.Sort

set_option maxRecDepth 100000 in
set_option maxHeartbeats 32000000 in
theorem c21 (m : Img) (v : Value) (t : Tool) (slack : Int) (w : World) (hv : IntsAt w v m.pix) (hl : m.pix.length ≤ maxLen) :
    Calls Try.prog 21 #[imgVal m v, toolVal t, .int .i64 slack] w (PlanIs m t slack w) := by
  have HV := Lib.hid hv
  obtain ⟨ao, cap, rfl, -, -⟩ := hv.form
  have K49 := Lib.hid (fun w' (h : Ext w w') => c49 m _ t slack w' (HV.out.ext h) hl)
  unfold imgVal toolVal at *
  clear hv hl
  by_cases h0 : readyE m t slack = 0
  case neg =>
    obtain ⟨r, hr⟩ : ∃ r, readyE m t slack = r := ⟨_, rfl⟩
    have q0 : (r != 0) = true := by simpa [hr] using h0
    rw [hr] at K49
    have H0 := Lib.hid h0
    have HR := Lib.hid hr
    clear h0 hr
    go_enter Try.func21, Try.ntmps21
    go_wp2_with (go_at_call 49; (with_reducible refine (K49.out _ (by repeat (first | exact Ext.refl _ | assumption | refine Ext.alloc ?_ _ | refine Ext.drewN ?_ _ | refine ext_grow ?_ _ _ | refine Ext.trans ?_ (by assumption)))).mono ?_); rintro E w1 ⟨rfl, hb⟩; have A1 := Lib.hid (show At w1 [(w.heap.size + 1, Obj.cells #[.int .i64 t.len, .int .i64 t.grip, .int .i64 t.palm] 26), (w.heap.size, Obj.cells #[.int .i64 m.w, .int .i64 m.h, .slice ao m.pix.length cap] 24)] from At.ext hb ⟨(by repeat (first | (refine blk_at _ _ ?_; (first | rfl | (simp only [size_one]; done))) | refine (blk_past _ _ (by simp only [size_one]; omega)).trans ?_)), (by repeat (first | (refine blk_at _ _ ?_; (first | rfl | (simp only [size_one]; done))) | refine (blk_past _ _ (by simp only [size_one]; omega)).trans ?_)), trivial⟩); have E1 := Lib.hid (show Ext w w1 from (by repeat (first | exact Ext.refl _ | assumption | refine Ext.alloc ?_ _ | refine Ext.drewN ?_ _ | refine ext_grow ?_ _ _ | refine Ext.trans ?_ (by assumption)))); obtain ⟨⟨x00, x01, x02⟩, -⟩ := run_3 (At.at A1.out 0 rfl); obtain ⟨⟨x10, x11, x12⟩, -⟩ := run_3 (At.at A1.out 1 rfl); have xz0 := At.lt A1.out 0 rfl; have xy0 := Nat.lt_succ_of_lt xz0; have xx0 := Nat.lt_succ_of_lt xy0; have xz1 := At.lt A1.out 1 rfl; have xy1 := Nat.lt_succ_of_lt xz1; have xx1 := Nat.lt_succ_of_lt xy1)
    go_ret2
    exact ⟨_, [], by rw [HR.out]; rfl, ⟨rfl, .inl ⟨rfl, rfl⟩⟩, fun h => absurd h H0.out, fun _ => rfl, E1.out⟩
  obtain ⟨r1, r2, hsl⟩ := ready_ok h0
  rw [h0] at K49
  have H0 := Lib.hid h0
  have HC := Lib.hid r1
  have HT := Lib.hid r2
  obtain ⟨n1, n2⟩ := Img.len_bd r1.1
  have hmw1 : 1 ≤ m.w := r1.1.1.1
  have hmw2 : m.w ≤ 16 := r1.1.1.2
  obtain ⟨i0, hi0, hz0, hz1, hz2⟩ := info_parts info28
  clear h0 r1 r2
  go_enter Try.func21, Try.ntmps21
  go_wp2_with (go_at_call 49; (with_reducible refine (K49.out _ (by repeat (first | exact Ext.refl _ | assumption | refine Ext.alloc ?_ _ | refine Ext.drewN ?_ _ | refine ext_grow ?_ _ _ | refine Ext.trans ?_ (by assumption)))).mono ?_); rintro E w1 ⟨rfl, hb⟩; have A1 := Lib.hid (show At w1 [(w.heap.size + 1, Obj.cells #[.int .i64 t.len, .int .i64 t.grip, .int .i64 t.palm] 26), (w.heap.size, Obj.cells #[.int .i64 m.w, .int .i64 m.h, .slice ao m.pix.length cap] 24)] from At.ext hb ⟨(by repeat (first | (refine blk_at _ _ ?_; (first | rfl | (simp only [size_one]; done))) | refine (blk_past _ _ (by simp only [size_one]; omega)).trans ?_)), (by repeat (first | (refine blk_at _ _ ?_; (first | rfl | (simp only [size_one]; done))) | refine (blk_past _ _ (by simp only [size_one]; omega)).trans ?_)), trivial⟩); have E1 := Lib.hid (show Ext w w1 from (by repeat (first | exact Ext.refl _ | assumption | refine Ext.alloc ?_ _ | refine Ext.drewN ?_ _ | refine ext_grow ?_ _ _ | refine Ext.trans ?_ (by assumption)))); obtain ⟨⟨x00, x01, x02⟩, -⟩ := run_3 (At.at A1.out 0 rfl); obtain ⟨⟨x10, x11, x12⟩, -⟩ := run_3 (At.at A1.out 1 rfl); have xz0 := At.lt A1.out 0 rfl; have xy0 := Nat.lt_succ_of_lt xz0; have xx0 := Nat.lt_succ_of_lt xy0; have xz1 := At.lt A1.out 1 rfl; have xy1 := Nat.lt_succ_of_lt xz1; have xx1 := Nat.lt_succ_of_lt xy1)
  obtain ⟨VB, hVB⟩ : ∃ VB, w1.heap.size = VB := ⟨_, rfl⟩
  have hVB1 : w.heap.size + 1 < VB := by rw [← hVB]; exact At.lt A1.out 0 rfl
  have A2 := Lib.hid (show At (w1.alloc (Obj.cells #[.int .i64 m.w, .int .i64 m.h, .slice ao m.pix.length cap, .bool false, .int .i64 m.w, .int .i64 m.h, .slice ao m.pix.length cap, .bool true] 96)) [(VB, Obj.cells #[.int .i64 m.w, .int .i64 m.h, .slice ao m.pix.length cap, .bool false, .int .i64 m.w, .int .i64 m.h, .slice ao m.pix.length cap, .bool true] 96), (w.heap.size + 1, Obj.cells #[.int .i64 t.len, .int .i64 t.grip, .int .i64 t.palm] 26), (w.heap.size, Obj.cells #[.int .i64 m.w, .int .i64 m.h, .slice ao m.pix.length cap] 24)] from ⟨blk_at _ _ hVB.symm, At.alloc A1.out _⟩)
  have E2 := Lib.hid (E1.out.alloc (Obj.cells #[.int .i64 m.w, .int .i64 m.h, .slice ao m.pix.length cap, .bool false, .int .i64 m.w, .int .i64 m.h, .slice ao m.pix.length cap, .bool true] 96))
  clear x00 x01 x02 x10 x11 x12 xz0 xy0 xx0 xz1 xy1 xx1
  clear A1 E1 hb
  rw [hVB]
  go_loopw [9, 31] (fun ov i wr => ∃ (J : Int) (n : Nat) (gs : List Grasp), ((J = 0 ∧ n = 0) ∨ (J = 1 ∧ n = 8) ∨ (J = 2 ∧ n = 16)) ∧ i = .int .i64 J ∧ Hid (Ext w wr) ∧ Hid (At wr [(VB, Obj.cells #[.int .i64 m.w, .int .i64 m.h, .slice ao m.pix.length cap, .bool false, .int .i64 m.w, .int .i64 m.h, .slice ao m.pix.length cap, .bool true] 96), (w.heap.size + 1, Obj.cells #[.int .i64 t.len, .int .i64 t.grip, .int .i64 t.palm] 26), (w.heap.size, Obj.cells #[.int .i64 m.w, .int .i64 m.h, .slice ao m.pix.length cap] 24)]) ∧ Hid (wr.ownsRow (VB + 1) 28 5 ov gs.length (grasps gs)) ∧ Hid (Gath (m.Try t slack) (n * m.pix.length) gs)) (fun _ i _ => (2 - intOf i).toNat)
  case atStart => exact ⟨0, 0, [], by omega, rfl, E2, A2, Lib.hid ⟨rfl, .inl ⟨rfl, rfl⟩⟩, Lib.hid (by rw [Nat.zero_mul]; rfl)⟩
  case round =>
    clear E2 A2 hVB
    obtain ⟨J, n, gs, hJ, rfl, hE, hA, hO, hG⟩ := hrel
    rcases hJ with ⟨rfl, rfl⟩ | ⟨rfl, rfl⟩ | ⟨rfl, rfl⟩
    · obtain ⟨wo, hwo⟩ : ∃ wo : World, wo = wr := ⟨_, rfl⟩
      subst hwo
      obtain ⟨⟨v00, v01, v02, v03, v04, v05, v06, v07⟩, -⟩ := run_8 (At.at hA.out 0 rfl)
      obtain ⟨⟨v10, v11, v12⟩, -⟩ := run_3 (At.at hA.out 1 rfl)
      obtain ⟨⟨v20, v21, v22⟩, -⟩ := run_3 (At.at hA.out 2 rfl)
      have vz0 := At.lt hA.out 0 rfl
      have vy0 := Nat.lt_succ_of_lt vz0
      have vx0 := Nat.lt_succ_of_lt vy0
      have vz1 := At.lt hA.out 1 rfl
      have vy1 := Nat.lt_succ_of_lt vz1
      have vx1 := Nat.lt_succ_of_lt vy1
      have vz2 := At.lt hA.out 2 rfl
      have vy2 := Nat.lt_succ_of_lt vz2
      have vx2 := Nat.lt_succ_of_lt vy2
      go_wp2
      obtain ⟨BX, hBX⟩ : ∃ BX, wo.heap.size = BX := ⟨_, rfl⟩
      have hVBX : VB < BX := by rw [← hBX]; exact At.lt hA.out 0 rfl
      have hNE0 := Lib.hid (show ∀ g9, u9.ownBlock = some g9 → g9 ≠ BX from fun g9 h9 => by have := (owns_block hO.out g9 h9).2; omega)
      have AB := Lib.hid (show At (wo.alloc (Obj.cells #[.int .i64 m.w, .int .i64 m.h, .slice ao m.pix.length cap, .bool false] 96)) [(BX, Obj.cells #[.int .i64 m.w, .int .i64 m.h, .slice ao m.pix.length cap, .bool false] 96), (VB, Obj.cells #[.int .i64 m.w, .int .i64 m.h, .slice ao m.pix.length cap, .bool false, .int .i64 m.w, .int .i64 m.h, .slice ao m.pix.length cap, .bool true] 96), (w.heap.size + 1, Obj.cells #[.int .i64 t.len, .int .i64 t.grip, .int .i64 t.palm] 26), (w.heap.size, Obj.cells #[.int .i64 m.w, .int .i64 m.h, .slice ao m.pix.length cap] 24)] from ⟨blk_at _ _ hBX.symm, At.alloc hA.out _⟩)
      have EB := Lib.hid (hE.out.alloc (Obj.cells #[.int .i64 m.w, .int .i64 m.h, .slice ao m.pix.length cap, .bool false] 96))
      have OB := Lib.hid (owns_ext hO.out ((Ext.refl wo).alloc (Obj.cells #[.int .i64 m.w, .int .i64 m.h, .slice ao m.pix.length cap, .bool false] 96)))
      clear v00 v01 v02 v03 v04 v05 v06 v07 v10 v11 v12 v20 v21 v22 vz0 vy0 vx0 vz1 vy1 vx1 vz2 vy2 vx2
      rw [hBX]
      go_loopw [9, 12] (fun ov i wr => ∃ (wn : Nat) (W : Int) (gs : List Grasp), W = (wn : Int) + 1 ∧ wn ≤ 8 ∧ i = .int .i64 W ∧ Hid (Ext w wr) ∧ Hid (At wr [(BX, Obj.cells #[.int .i64 m.w, .int .i64 m.h, .slice ao m.pix.length cap, .bool false] 96), (VB, Obj.cells #[.int .i64 m.w, .int .i64 m.h, .slice ao m.pix.length cap, .bool false, .int .i64 m.w, .int .i64 m.h, .slice ao m.pix.length cap, .bool true] 96), (w.heap.size + 1, Obj.cells #[.int .i64 t.len, .int .i64 t.grip, .int .i64 t.palm] 26), (w.heap.size, Obj.cells #[.int .i64 m.w, .int .i64 m.h, .slice ao m.pix.length cap] 24)]) ∧ Hid (wr.ownsRow (VB + 1) 28 5 ov gs.length (grasps gs)) ∧ Hid (∀ g9, ov.ownBlock = some g9 → g9 ≠ BX) ∧ Hid (Gath (m.Try t slack) ((0 + wn) * m.pix.length) gs)) (fun _ i _ => (9 - intOf i).toNat)
      case atStart => exact ⟨0, 1, gs, by omega, by omega, rfl, EB, AB, OB, hNE0, hG⟩
      case round =>
        clear hE hA hO hG hNE0 AB EB OB
        obtain ⟨wn, W, gs, hW, hwn, rfl, hE, hA, hO, hNE, hG⟩ := hrel
        have HW := Lib.hid hW
        have hW1 : 1 ≤ W := by omega
        have hW9 : W ≤ 9 := by omega
        clear hW
        obtain ⟨⟨x00, x01, x02, x03⟩, -⟩ := run_4 (At.at hA.out 0 rfl)
        obtain ⟨⟨x10, x11, x12, x13, x14, x15, x16, x17⟩, -⟩ := run_8 (At.at hA.out 1 rfl)
        obtain ⟨⟨x20, x21, x22⟩, -⟩ := run_3 (At.at hA.out 2 rfl)
        obtain ⟨⟨x30, x31, x32⟩, -⟩ := run_3 (At.at hA.out 3 rfl)
        have xz0 := At.lt hA.out 0 rfl
        have xy0 := Nat.lt_succ_of_lt xz0
        have xx0 := Nat.lt_succ_of_lt xy0
        have xz1 := At.lt hA.out 1 rfl
        have xy1 := Nat.lt_succ_of_lt xz1
        have xx1 := Nat.lt_succ_of_lt xy1
        have xz2 := At.lt hA.out 2 rfl
        have xy2 := Nat.lt_succ_of_lt xz2
        have xx2 := Nat.lt_succ_of_lt xy2
        have xz3 := At.lt hA.out 3 rfl
        have xy3 := Nat.lt_succ_of_lt xz3
        have xx3 := Nat.lt_succ_of_lt xy3
        by_cases hw8 : W ≤ 8
        · go_wp2
          clear x00 x01 x02 x03 x10 x11 x12 x13 x14 x15 x16 x17 x20 x21 x22 x30 x31 x32 xz0 xy0 xx0 xz1 xy1 xx1 xz2 xy2 xx2 xz3 xy3 xx3
          obtain ⟨wp, hwp⟩ : ∃ wp : World, wp = wr := ⟨_, rfl⟩
          subst hwp
          go_loopw [9, 42] (fun ov i wr => ∃ (k : Nat) (gs : List Grasp), k ≤ m.pix.length ∧ i = .int .i64 (k : Int) ∧ Hid (Ext w wr) ∧ Hid (At wr [(BX, Obj.cells #[.int .i64 m.w, .int .i64 m.h, .slice ao m.pix.length cap, .bool false] 96), (VB, Obj.cells #[.int .i64 m.w, .int .i64 m.h, .slice ao m.pix.length cap, .bool false, .int .i64 m.w, .int .i64 m.h, .slice ao m.pix.length cap, .bool true] 96), (w.heap.size + 1, Obj.cells #[.int .i64 t.len, .int .i64 t.grip, .int .i64 t.palm] 26), (w.heap.size, Obj.cells #[.int .i64 m.w, .int .i64 m.h, .slice ao m.pix.length cap] 24)]) ∧ Hid (wr.ownsRow (VB + 1) 28 5 ov gs.length (grasps gs)) ∧ Hid (∀ g9, ov.ownBlock = some g9 → g9 ≠ BX) ∧ Hid (Gath (m.Try t slack) ((0 + wn) * m.pix.length + k) gs)) (fun _ i _ => m.pix.length - (intOf i).toNat)
          case atStart => exact ⟨0, gs, by omega, rfl, hE, hA, hO, hNE, hG⟩
          case round =>
            clear hE hA hO hNE hG
            obtain ⟨k, gs, hk, rfl, hE, hA, hO, hNE, hG⟩ := hrel
            by_cases hkl : k < m.pix.length
            · obtain ⟨pb, pb2⟩ := place_bd HC.out.1 hkl
              have hkq := key_at (q := 0 + wn) hkl
              obtain ⟨px, hpx⟩ : ∃ px, (k : Int) % m.w = px := ⟨_, rfl⟩
              obtain ⟨py, hpy⟩ : ∃ py, (k : Int) / m.w = py := ⟨_, rfl⟩
              have e1 : decide (8 ≤ 0 + wn) = false := by have := HW.out; first | exact decide_eq_true (by omega) | exact decide_eq_false (by omega)
              have e2 : (((0 + wn) % 8 : Nat) : Int) + 1 = W := by have := HW.out; omega
              rw [hpx, hpy, e1, e2] at hkq
              rw [hpx] at pb
              rw [hpy] at pb2
              have hrem : (k : Int).tmod m.w = px := by rw [Int.tmod_eq_emod_of_nonneg (by omega)]; exact hpx
              have hquo : (k : Int).tdiv m.w = py := by rw [Int.tdiv_eq_ediv_of_nonneg (by omega)]; exact hpy
              have HK := Lib.hid hkq
              obtain ⟨pb0, pb1⟩ := pb
              obtain ⟨pb3, pb4⟩ := pb2
              have K51 := Lib.hid (fun w' (h : Ext wr w') => c51 m _ t false px py W slack w' HC.out HT.out (HV.out.ext (hE.out.trans h)) (by omega) (by omega) (by omega) hsl)
              unfold viewVal toolVal at K51
              have HLT := Lib.hid (fun g9 h9 => (owns_block hO.out g9 h9).2)
              have hlen : gs.length ≤ 5000 := by have h1 := Gath.len hG.out; have h2 := Nat.mul_le_mul (show 0 + wn ≤ 16 by omega) n2; omega
              have hmw : (m.w == 0) = false := by simp; omega
              obtain ⟨⟨x00, x01, x02, x03⟩, -⟩ := run_4 (At.at hA.out 0 rfl)
              obtain ⟨⟨x10, x11, x12, x13, x14, x15, x16, x17⟩, -⟩ := run_8 (At.at hA.out 1 rfl)
              obtain ⟨⟨x20, x21, x22⟩, -⟩ := run_3 (At.at hA.out 2 rfl)
              obtain ⟨⟨x30, x31, x32⟩, -⟩ := run_3 (At.at hA.out 3 rfl)
              have xz0 := At.lt hA.out 0 rfl
              have xy0 := Nat.lt_succ_of_lt xz0
              have xx0 := Nat.lt_succ_of_lt xy0
              have xz1 := At.lt hA.out 1 rfl
              have xy1 := Nat.lt_succ_of_lt xz1
              have xx1 := Nat.lt_succ_of_lt xy1
              have xz2 := At.lt hA.out 2 rfl
              have xy2 := Nat.lt_succ_of_lt xz2
              have xx2 := Nat.lt_succ_of_lt xy2
              have xz3 := At.lt hA.out 3 rfl
              have xy3 := Nat.lt_succ_of_lt xz3
              have xx3 := Nat.lt_succ_of_lt xy3
              clear hkq e1 e2 hpx hpy
              go_wp2
              refine RT.region_one (aq := ?az0) (n := 14) (sx := 14) (vx := 58) (oz := Obj.cells #[.int .i64 0, .int .i64 0, .bool false, .int .i64 0, .int .i64 0] 28) (ox := Obj.cells #[.int .i64 px, .int .i64 py, .bool false, .int .i64 W, .int .i64 (0)] 28) (qs1 := [_, _, _, _, _, _, _, _, _, _, _, _, _, _]) (qs2 := []) (by kernel_rfl) rfl (by kernel_rfl) (by kernel_rfl) rfl (of_decide_eq_true (by kernel_rfl)) rfl rfl (by kernel_rfl) (by kernel_rfl) (by kernel_rfl) ?_ ?_ ?_ ?_
              rotate_left
              · intro e w
                simp [execOp, go_sem, Try.underlying28]
              · intro wq hEq
                have AQ := Lib.hid (show At wq [(BX, Obj.cells #[.int .i64 m.w, .int .i64 m.h, .slice ao m.pix.length cap, .bool false] 96), (VB, Obj.cells #[.int .i64 m.w, .int .i64 m.h, .slice ao m.pix.length cap, .bool false, .int .i64 m.w, .int .i64 m.h, .slice ao m.pix.length cap, .bool true] 96), (w.heap.size + 1, Obj.cells #[.int .i64 t.len, .int .i64 t.grip, .int .i64 t.palm] 26), (w.heap.size, Obj.cells #[.int .i64 m.w, .int .i64 m.h, .slice ao m.pix.length cap] 24)] from At.ext hEq hA.out)
                obtain ⟨⟨q00, q01, q02, q03⟩, -⟩ := run_4 (At.at AQ.out 0 rfl)
                obtain ⟨⟨q10, q11, q12, q13, q14, q15, q16, q17⟩, -⟩ := run_8 (At.at AQ.out 1 rfl)
                obtain ⟨⟨q20, q21, q22⟩, -⟩ := run_3 (At.at AQ.out 2 rfl)
                obtain ⟨⟨q30, q31, q32⟩, -⟩ := run_3 (At.at AQ.out 3 rfl)
                have qz0 := At.lt AQ.out 0 rfl
                have qy0 := Nat.lt_succ_of_lt qz0
                have qx0 := Nat.lt_succ_of_lt qy0
                have qz1 := At.lt AQ.out 1 rfl
                have qy1 := Nat.lt_succ_of_lt qz1
                have qx1 := Nat.lt_succ_of_lt qy1
                have qz2 := At.lt AQ.out 2 rfl
                have qy2 := Nat.lt_succ_of_lt qz2
                have qx2 := Nat.lt_succ_of_lt qy2
                have qz3 := At.lt AQ.out 3 rfl
                have qy3 := Nat.lt_succ_of_lt qz3
                have qx3 := Nat.lt_succ_of_lt qy3
                clear hEq
                simp only [List.cons_append, List.nil_append, List.append_nil]
                repeat (go_big_quiet_step (fail))
                refine wpQuiet_nil ?_
                exact rfl
              · intro e w b h1 h2 h3
                obtain ⟨⟨c0, c1, c2, c3, c4⟩, f0, f1, f2, f3, f4⟩ := run_5 h3
                have h2' : e (.tmp 58) = .agg #[.int .i64 px, .int .i64 py, .bool false, .int .i64 W, .int .i64 (0)] := h2
                apply Exists.intro
                apply And.intro
                · simp [execOp, go_sem, h1, h2', c0, c1, c2, c3, c4, f0, f1, f2, f3, f4, Try.underlying28]
                  exact rfl
                · exact store_5 h3
              intro bq w5 hE5 hbq hX5
              have A5 := Lib.hid (show At w5 [(bq, Obj.cells #[.int .i64 px, .int .i64 py, .bool false, .int .i64 W, .int .i64 (0)] 28), (BX, Obj.cells #[.int .i64 m.w, .int .i64 m.h, .slice ao m.pix.length cap, .bool false] 96), (VB, Obj.cells #[.int .i64 m.w, .int .i64 m.h, .slice ao m.pix.length cap, .bool false, .int .i64 m.w, .int .i64 m.h, .slice ao m.pix.length cap, .bool true] 96), (w.heap.size + 1, Obj.cells #[.int .i64 t.len, .int .i64 t.grip, .int .i64 t.palm] 26), (w.heap.size, Obj.cells #[.int .i64 m.w, .int .i64 m.h, .slice ao m.pix.length cap] 24)] from ⟨hX5, At.ext hE5 hA.out⟩)
              obtain ⟨⟨y00, y01, y02, y03, y04⟩, -⟩ := run_5 (At.at A5.out 0 rfl)
              obtain ⟨⟨y10, y11, y12, y13⟩, -⟩ := run_4 (At.at A5.out 1 rfl)
              obtain ⟨⟨y20, y21, y22, y23, y24, y25, y26, y27⟩, -⟩ := run_8 (At.at A5.out 2 rfl)
              obtain ⟨⟨y30, y31, y32⟩, -⟩ := run_3 (At.at A5.out 3 rfl)
              obtain ⟨⟨y40, y41, y42⟩, -⟩ := run_3 (At.at A5.out 4 rfl)
              have yz0 := At.lt A5.out 0 rfl
              have yy0 := Nat.lt_succ_of_lt yz0
              have yx0 := Nat.lt_succ_of_lt yy0
              have yz1 := At.lt A5.out 1 rfl
              have yy1 := Nat.lt_succ_of_lt yz1
              have yx1 := Nat.lt_succ_of_lt yy1
              have yz2 := At.lt A5.out 2 rfl
              have yy2 := Nat.lt_succ_of_lt yz2
              have yx2 := Nat.lt_succ_of_lt yy2
              have yz3 := At.lt A5.out 3 rfl
              have yy3 := Nat.lt_succ_of_lt yz3
              have yx3 := Nat.lt_succ_of_lt yy3
              have yz4 := At.lt A5.out 4 rfl
              have yy4 := Nat.lt_succ_of_lt yz4
              have yx4 := Nat.lt_succ_of_lt yy4
              have hsz5 := hE5.size
              have hBXq : BX < bq := Nat.lt_of_lt_of_le (At.lt hA.out 0 rfl) hbq
              clear hX5
              go_wp2
              go_quiet (fail)
              have hb6 : Ext w5 (w5.drewN nq) := (Ext.refl _).drewN nq
              generalize hw6 : w5.drewN nq = w6 at hb6 ⊢
              clear hw6
              have A6 := Lib.hid (show At w6 [(bq, Obj.cells #[.int .i64 px, .int .i64 py, .bool false, .int .i64 W, .int .i64 (0)] 28), (BX, Obj.cells #[.int .i64 m.w, .int .i64 m.h, .slice ao m.pix.length cap, .bool false] 96), (VB, Obj.cells #[.int .i64 m.w, .int .i64 m.h, .slice ao m.pix.length cap, .bool false, .int .i64 m.w, .int .i64 m.h, .slice ao m.pix.length cap, .bool true] 96), (w.heap.size + 1, Obj.cells #[.int .i64 t.len, .int .i64 t.grip, .int .i64 t.palm] 26), (w.heap.size, Obj.cells #[.int .i64 m.w, .int .i64 m.h, .slice ao m.pix.length cap] 24)] from At.ext hb6 A5.out)
              clear y00 y01 y02 y03 y04 y10 y11 y12 y13 y20 y21 y22 y23 y24 y25 y26 y27 y30 y31 y32 y40 y41 y42 yz0 yy0 yx0 yz1 yy1 yx1 yz2 yy2 yx2 yz3 yy3 yx3 yz4 yy4 yx4
              obtain ⟨⟨z00, z01, z02, z03, z04⟩, -⟩ := run_5 (At.at A6.out 0 rfl)
              obtain ⟨⟨z10, z11, z12, z13⟩, -⟩ := run_4 (At.at A6.out 1 rfl)
              obtain ⟨⟨z20, z21, z22, z23, z24, z25, z26, z27⟩, -⟩ := run_8 (At.at A6.out 2 rfl)
              obtain ⟨⟨z30, z31, z32⟩, -⟩ := run_3 (At.at A6.out 3 rfl)
              obtain ⟨⟨z40, z41, z42⟩, -⟩ := run_3 (At.at A6.out 4 rfl)
              have zz0 := At.lt A6.out 0 rfl
              have zy0 := Nat.lt_succ_of_lt zz0
              have zx0 := Nat.lt_succ_of_lt zy0
              have zz1 := At.lt A6.out 1 rfl
              have zy1 := Nat.lt_succ_of_lt zz1
              have zx1 := Nat.lt_succ_of_lt zy1
              have zz2 := At.lt A6.out 2 rfl
              have zy2 := Nat.lt_succ_of_lt zz2
              have zx2 := Nat.lt_succ_of_lt zy2
              have zz3 := At.lt A6.out 3 rfl
              have zy3 := Nat.lt_succ_of_lt zz3
              have zx3 := Nat.lt_succ_of_lt zy3
              have zz4 := At.lt A6.out 4 rfl
              have zy4 := Nat.lt_succ_of_lt zz4
              have zx4 := Nat.lt_succ_of_lt zy4
              go_wp2_with (first | (go_at_call 51; (with_reducible refine (K51.out _ (hE5.trans hb6)).mono ?_); rintro E w7 ⟨lo, hi, rfl, hr, hb7⟩; have HR := Lib.hid hr; clear hr; have A7 := Lib.hid (show At w7 [(bq, Obj.cells #[.int .i64 px, .int .i64 py, .bool false, .int .i64 W, .int .i64 (0)] 28), (BX, Obj.cells #[.int .i64 m.w, .int .i64 m.h, .slice ao m.pix.length cap, .bool false] 96), (VB, Obj.cells #[.int .i64 m.w, .int .i64 m.h, .slice ao m.pix.length cap, .bool false, .int .i64 m.w, .int .i64 m.h, .slice ao m.pix.length cap, .bool true] 96), (w.heap.size + 1, Obj.cells #[.int .i64 t.len, .int .i64 t.grip, .int .i64 t.palm] 26), (w.heap.size, Obj.cells #[.int .i64 m.w, .int .i64 m.h, .slice ao m.pix.length cap] 24)] from At.ext hb7 A6.out); have E7 := Lib.hid (hE.out.trans ((hE5.trans hb6).trans hb7)); have O7 := Lib.hid (owns_ext hO.out ((hE5.trans hb6).trans hb7)); have hz7 := hb7.size; clear z00 z01 z02 z03 z04 z10 z11 z12 z13 z20 z21 z22 z23 z24 z25 z26 z27 z30 z31 z32 z40 z41 z42 zz0 zy0 zx0 zz1 zy1 zx1 zz2 zy2 zx2 zz3 zy3 zx3 zz4 zy4 zx4; obtain ⟨⟨z00, z01, z02, z03, z04⟩, zf00, zf01, zf02, zf03, zf04⟩ := run_5 (At.at A7.out 0 rfl); obtain ⟨⟨z10, z11, z12, z13⟩, zf10, zf11, zf12, zf13⟩ := run_4 (At.at A7.out 1 rfl); obtain ⟨⟨z20, z21, z22, z23, z24, z25, z26, z27⟩, zf20, zf21, zf22, zf23, zf24, zf25, zf26, zf27⟩ := run_8 (At.at A7.out 2 rfl); obtain ⟨⟨z30, z31, z32⟩, zf30, zf31, zf32⟩ := run_3 (At.at A7.out 3 rfl); obtain ⟨⟨z40, z41, z42⟩, zf40, zf41, zf42⟩ := run_3 (At.at A7.out 4 rfl); have zz0 := At.lt A7.out 0 rfl; have zy0 := Nat.lt_succ_of_lt zz0; have zx0 := Nat.lt_succ_of_lt zy0; have zz1 := At.lt A7.out 1 rfl; have zy1 := Nat.lt_succ_of_lt zz1; have zx1 := Nat.lt_succ_of_lt zy1; have zz2 := At.lt A7.out 2 rfl; have zy2 := Nat.lt_succ_of_lt zz2; have zx2 := Nat.lt_succ_of_lt zy2; have zz3 := At.lt A7.out 3 rfl; have zy3 := Nat.lt_succ_of_lt zz3; have zx3 := Nat.lt_succ_of_lt zy3; have zz4 := At.lt A7.out 4 rfl; have zy4 := Nat.lt_succ_of_lt zz4; have zx4 := Nat.lt_succ_of_lt zy4) | (at_builtin; refine wpList_append_at rfl _ _ 35 rfl (VB + 1) 28 i0 (.agg #[.int .i64 0, .int .i64 0, .bool false, .int .i64 0, .int .i64 0]) 5 40 Try.underlying35 hi0 hz0 hz1 hz2 rfl (by omega) u9 gs.length (grasps gs) rfl (owns_ext (owns_ext (owns_at O7.out (fun g9 hg9 => set_at _ _ _ _ g9 (by have := HLT.out g9 hg9; omega))) ((Ext.refl _).alloc _)) ((Ext.refl _).alloc _)) _ 1 (graspCells { x := px, y := py, across := false, width := W, z := lo }) rfl (SlAt.lit_at _ (w7.heap.size + 1) (by simp) (graspCells { x := px, y := py, across := false, width := W, z := lo }) 28 5 rfl) (grasps_one _) (by unfold maxLen; omega) (by omega) (by simp; omega) ?_; intro va w8 ho hg hat; have A8 := Lib.hid (show At w8 [(BX, Obj.cells #[.int .i64 m.w, .int .i64 m.h, .slice ao m.pix.length cap, .bool false] 96), (VB, Obj.cells #[.int .i64 m.w, .int .i64 m.h, .slice ao m.pix.length cap, .bool false, .int .i64 m.w, .int .i64 m.h, .slice ao m.pix.length cap, .bool true] 96), (w.heap.size + 1, Obj.cells #[.int .i64 t.len, .int .i64 t.grip, .int .i64 t.palm] 26), (w.heap.size, Obj.cells #[.int .i64 m.w, .int .i64 m.h, .slice ao m.pix.length cap] 24)] from At.grown hg (At.alloc (At.alloc (At.other (set_at _ bq 4 _) (by simp; omega) (At.erase A7.out 0)) _) _) (by intro k9 hk9; simp only [List.map_cons, List.map_nil, List.mem_cons, List.not_mem_nil, or_false] at hk9; rcases hk9 with rfl | rfl | rfl | rfl; exact fun h9 => hNE.out _ h9 rfl; all_goals exact fun h9 => by have := (owns_block hO.out _ h9).1; omega)); have E8 := Lib.hid (((((E7.out.setCell (p := ⟨bq, 4, none⟩) (show w.heap.size ≤ bq by omega) _).alloc _).alloc _)).grown hg (fun g9 h9 => by have := (owns_block hO.out g9 h9).1; omega)); have O8 := Lib.hid ho; have N8 := Lib.hid (show ∀ g9, va.ownBlock = some g9 → g9 ≠ BX from fun g9 h9 => by rcases hat with h8 | h8; exact hNE.out g9 (h8 ▸ h9); rw [h8] at h9; injection h9 with h9; simp at h9; omega); clear ho hg hat))
              · go_roundw
                case rel => exact ⟨k + 1, gs ++ [{ x := px, y := py, across := false, width := W, z := lo }], by omega, by go_num, E8, A8, Lib.hid (by rw [grasps_snoc, List.length_append]; exact O8.out), N8, Lib.hid (by rw [show (0 + wn) * m.pix.length + (k + 1) = ((0 + wn) * m.pix.length + k) + 1 by omega]; exact gath_yes hG.out (try_yes HK.out (by omega) HR.out (by assumption)))⟩
                case measure => simp [intOf]; omega
              · go_roundw
                case rel => exact ⟨k + 1, gs, by omega, by go_num, Lib.hid (E7.out.alloc _), Lib.hid (At.alloc (At.erase A7.out 0) _), Lib.hid (owns_ext O7.out ((Ext.refl _).alloc _)), hNE, Lib.hid (by rw [show (0 + wn) * m.pix.length + (k + 1) = ((0 + wn) * m.pix.length + k) + 1 by omega]; exact gath_no hG.out (try_no HK.out (by omega) HR.out (by omega)))⟩
                case measure => simp [intOf]; omega

            · have hkn : k = m.pix.length := by omega
              have HG2 := Lib.hid (show Gath (m.Try t slack) ((0 + (wn + 1)) * m.pix.length) gs from by rw [show (0 + (wn + 1)) * m.pix.length = (0 + wn) * m.pix.length + k by rw [hkn, ← Nat.add_assoc, Nat.succ_mul]]; exact hG.out)
              clear hkn
              obtain ⟨⟨x00, x01, x02, x03⟩, -⟩ := run_4 (At.at hA.out 0 rfl)
              obtain ⟨⟨x10, x11, x12, x13, x14, x15, x16, x17⟩, -⟩ := run_8 (At.at hA.out 1 rfl)
              obtain ⟨⟨x20, x21, x22⟩, -⟩ := run_3 (At.at hA.out 2 rfl)
              obtain ⟨⟨x30, x31, x32⟩, -⟩ := run_3 (At.at hA.out 3 rfl)
              have xz0 := At.lt hA.out 0 rfl
              have xy0 := Nat.lt_succ_of_lt xz0
              have xx0 := Nat.lt_succ_of_lt xy0
              have xz1 := At.lt hA.out 1 rfl
              have xy1 := Nat.lt_succ_of_lt xz1
              have xx1 := Nat.lt_succ_of_lt xy1
              have xz2 := At.lt hA.out 2 rfl
              have xy2 := Nat.lt_succ_of_lt xz2
              have xx2 := Nat.lt_succ_of_lt xy2
              have xz3 := At.lt hA.out 3 rfl
              have xy3 := Nat.lt_succ_of_lt xz3
              have xx3 := Nat.lt_succ_of_lt xy3
              go_wp2
              go_roundw
              case rel => exact ⟨wn + 1, W + 1, gs, by have := HW.out; omega, by have := HW.out; omega, rfl, hE, hA, hO, hNE, HG2⟩
              case measure => simp [intOf]; omega
        · have hw9 : W = 9 := by omega
          have HG2 := Lib.hid (show Gath (m.Try t slack) ((0 + 8) * m.pix.length) gs from (show wn = 8 by have := HW.out; omega) ▸ hG.out)
          clear hw9
          go_wp2
          go_roundw
          case rel => exact ⟨1, 0 + 8, gs, by omega, rfl, hE, Lib.hid (At.erase hA.out 0), hO, HG2⟩
          case measure => simp [intOf]

    · obtain ⟨wo, hwo⟩ : ∃ wo : World, wo = wr := ⟨_, rfl⟩
      subst hwo
      obtain ⟨⟨v00, v01, v02, v03, v04, v05, v06, v07⟩, -⟩ := run_8 (At.at hA.out 0 rfl)
      obtain ⟨⟨v10, v11, v12⟩, -⟩ := run_3 (At.at hA.out 1 rfl)
      obtain ⟨⟨v20, v21, v22⟩, -⟩ := run_3 (At.at hA.out 2 rfl)
      have vz0 := At.lt hA.out 0 rfl
      have vy0 := Nat.lt_succ_of_lt vz0
      have vx0 := Nat.lt_succ_of_lt vy0
      have vz1 := At.lt hA.out 1 rfl
      have vy1 := Nat.lt_succ_of_lt vz1
      have vx1 := Nat.lt_succ_of_lt vy1
      have vz2 := At.lt hA.out 2 rfl
      have vy2 := Nat.lt_succ_of_lt vz2
      have vx2 := Nat.lt_succ_of_lt vy2
      go_wp2
      obtain ⟨BX, hBX⟩ : ∃ BX, wo.heap.size = BX := ⟨_, rfl⟩
      have hVBX : VB < BX := by rw [← hBX]; exact At.lt hA.out 0 rfl
      have hNE0 := Lib.hid (show ∀ g9, u9.ownBlock = some g9 → g9 ≠ BX from fun g9 h9 => by have := (owns_block hO.out g9 h9).2; omega)
      have AB := Lib.hid (show At (wo.alloc (Obj.cells #[.int .i64 m.w, .int .i64 m.h, .slice ao m.pix.length cap, .bool true] 96)) [(BX, Obj.cells #[.int .i64 m.w, .int .i64 m.h, .slice ao m.pix.length cap, .bool true] 96), (VB, Obj.cells #[.int .i64 m.w, .int .i64 m.h, .slice ao m.pix.length cap, .bool false, .int .i64 m.w, .int .i64 m.h, .slice ao m.pix.length cap, .bool true] 96), (w.heap.size + 1, Obj.cells #[.int .i64 t.len, .int .i64 t.grip, .int .i64 t.palm] 26), (w.heap.size, Obj.cells #[.int .i64 m.w, .int .i64 m.h, .slice ao m.pix.length cap] 24)] from ⟨blk_at _ _ hBX.symm, At.alloc hA.out _⟩)
      have EB := Lib.hid (hE.out.alloc (Obj.cells #[.int .i64 m.w, .int .i64 m.h, .slice ao m.pix.length cap, .bool true] 96))
      have OB := Lib.hid (owns_ext hO.out ((Ext.refl wo).alloc (Obj.cells #[.int .i64 m.w, .int .i64 m.h, .slice ao m.pix.length cap, .bool true] 96)))
      clear v00 v01 v02 v03 v04 v05 v06 v07 v10 v11 v12 v20 v21 v22 vz0 vy0 vx0 vz1 vy1 vx1 vz2 vy2 vx2
      rw [hBX]
      go_loopw [9, 12] (fun ov i wr => ∃ (wn : Nat) (W : Int) (gs : List Grasp), W = (wn : Int) + 1 ∧ wn ≤ 8 ∧ i = .int .i64 W ∧ Hid (Ext w wr) ∧ Hid (At wr [(BX, Obj.cells #[.int .i64 m.w, .int .i64 m.h, .slice ao m.pix.length cap, .bool true] 96), (VB, Obj.cells #[.int .i64 m.w, .int .i64 m.h, .slice ao m.pix.length cap, .bool false, .int .i64 m.w, .int .i64 m.h, .slice ao m.pix.length cap, .bool true] 96), (w.heap.size + 1, Obj.cells #[.int .i64 t.len, .int .i64 t.grip, .int .i64 t.palm] 26), (w.heap.size, Obj.cells #[.int .i64 m.w, .int .i64 m.h, .slice ao m.pix.length cap] 24)]) ∧ Hid (wr.ownsRow (VB + 1) 28 5 ov gs.length (grasps gs)) ∧ Hid (∀ g9, ov.ownBlock = some g9 → g9 ≠ BX) ∧ Hid (Gath (m.Try t slack) ((8 + wn) * m.pix.length) gs)) (fun _ i _ => (9 - intOf i).toNat)
      case atStart => exact ⟨0, 1, gs, by omega, by omega, rfl, EB, AB, OB, hNE0, hG⟩
      case round =>
        clear hE hA hO hG hNE0 AB EB OB
        obtain ⟨wn, W, gs, hW, hwn, rfl, hE, hA, hO, hNE, hG⟩ := hrel
        have HW := Lib.hid hW
        have hW1 : 1 ≤ W := by omega
        have hW9 : W ≤ 9 := by omega
        clear hW
        obtain ⟨⟨x00, x01, x02, x03⟩, -⟩ := run_4 (At.at hA.out 0 rfl)
        obtain ⟨⟨x10, x11, x12, x13, x14, x15, x16, x17⟩, -⟩ := run_8 (At.at hA.out 1 rfl)
        obtain ⟨⟨x20, x21, x22⟩, -⟩ := run_3 (At.at hA.out 2 rfl)
        obtain ⟨⟨x30, x31, x32⟩, -⟩ := run_3 (At.at hA.out 3 rfl)
        have xz0 := At.lt hA.out 0 rfl
        have xy0 := Nat.lt_succ_of_lt xz0
        have xx0 := Nat.lt_succ_of_lt xy0
        have xz1 := At.lt hA.out 1 rfl
        have xy1 := Nat.lt_succ_of_lt xz1
        have xx1 := Nat.lt_succ_of_lt xy1
        have xz2 := At.lt hA.out 2 rfl
        have xy2 := Nat.lt_succ_of_lt xz2
        have xx2 := Nat.lt_succ_of_lt xy2
        have xz3 := At.lt hA.out 3 rfl
        have xy3 := Nat.lt_succ_of_lt xz3
        have xx3 := Nat.lt_succ_of_lt xy3
        by_cases hw8 : W ≤ 8
        · go_wp2
          clear x00 x01 x02 x03 x10 x11 x12 x13 x14 x15 x16 x17 x20 x21 x22 x30 x31 x32 xz0 xy0 xx0 xz1 xy1 xx1 xz2 xy2 xx2 xz3 xy3 xx3
          obtain ⟨wp, hwp⟩ : ∃ wp : World, wp = wr := ⟨_, rfl⟩
          subst hwp
          go_loopw [9, 42] (fun ov i wr => ∃ (k : Nat) (gs : List Grasp), k ≤ m.pix.length ∧ i = .int .i64 (k : Int) ∧ Hid (Ext w wr) ∧ Hid (At wr [(BX, Obj.cells #[.int .i64 m.w, .int .i64 m.h, .slice ao m.pix.length cap, .bool true] 96), (VB, Obj.cells #[.int .i64 m.w, .int .i64 m.h, .slice ao m.pix.length cap, .bool false, .int .i64 m.w, .int .i64 m.h, .slice ao m.pix.length cap, .bool true] 96), (w.heap.size + 1, Obj.cells #[.int .i64 t.len, .int .i64 t.grip, .int .i64 t.palm] 26), (w.heap.size, Obj.cells #[.int .i64 m.w, .int .i64 m.h, .slice ao m.pix.length cap] 24)]) ∧ Hid (wr.ownsRow (VB + 1) 28 5 ov gs.length (grasps gs)) ∧ Hid (∀ g9, ov.ownBlock = some g9 → g9 ≠ BX) ∧ Hid (Gath (m.Try t slack) ((8 + wn) * m.pix.length + k) gs)) (fun _ i _ => m.pix.length - (intOf i).toNat)
          case atStart => exact ⟨0, gs, by omega, rfl, hE, hA, hO, hNE, hG⟩
          case round =>
            clear hE hA hO hNE hG
            obtain ⟨k, gs, hk, rfl, hE, hA, hO, hNE, hG⟩ := hrel
            by_cases hkl : k < m.pix.length
            · obtain ⟨pb, pb2⟩ := place_bd HC.out.1 hkl
              have hkq := key_at (q := 8 + wn) hkl
              obtain ⟨px, hpx⟩ : ∃ px, (k : Int) % m.w = px := ⟨_, rfl⟩
              obtain ⟨py, hpy⟩ : ∃ py, (k : Int) / m.w = py := ⟨_, rfl⟩
              have e1 : decide (8 ≤ 8 + wn) = true := by have := HW.out; first | exact decide_eq_true (by omega) | exact decide_eq_false (by omega)
              have e2 : (((8 + wn) % 8 : Nat) : Int) + 1 = W := by have := HW.out; omega
              rw [hpx, hpy, e1, e2] at hkq
              rw [hpx] at pb
              rw [hpy] at pb2
              have hrem : (k : Int).tmod m.w = px := by rw [Int.tmod_eq_emod_of_nonneg (by omega)]; exact hpx
              have hquo : (k : Int).tdiv m.w = py := by rw [Int.tdiv_eq_ediv_of_nonneg (by omega)]; exact hpy
              have HK := Lib.hid hkq
              obtain ⟨pb0, pb1⟩ := pb
              obtain ⟨pb3, pb4⟩ := pb2
              have K51 := Lib.hid (fun w' (h : Ext wr w') => c51 m _ t true py px W slack w' HC.out HT.out (HV.out.ext (hE.out.trans h)) (by omega) (by omega) (by omega) hsl)
              unfold viewVal toolVal at K51
              have HLT := Lib.hid (fun g9 h9 => (owns_block hO.out g9 h9).2)
              have hlen : gs.length ≤ 5000 := by have h1 := Gath.len hG.out; have h2 := Nat.mul_le_mul (show 8 + wn ≤ 16 by omega) n2; omega
              have hmw : (m.w == 0) = false := by simp; omega
              obtain ⟨⟨x00, x01, x02, x03⟩, -⟩ := run_4 (At.at hA.out 0 rfl)
              obtain ⟨⟨x10, x11, x12, x13, x14, x15, x16, x17⟩, -⟩ := run_8 (At.at hA.out 1 rfl)
              obtain ⟨⟨x20, x21, x22⟩, -⟩ := run_3 (At.at hA.out 2 rfl)
              obtain ⟨⟨x30, x31, x32⟩, -⟩ := run_3 (At.at hA.out 3 rfl)
              have xz0 := At.lt hA.out 0 rfl
              have xy0 := Nat.lt_succ_of_lt xz0
              have xx0 := Nat.lt_succ_of_lt xy0
              have xz1 := At.lt hA.out 1 rfl
              have xy1 := Nat.lt_succ_of_lt xz1
              have xx1 := Nat.lt_succ_of_lt xy1
              have xz2 := At.lt hA.out 2 rfl
              have xy2 := Nat.lt_succ_of_lt xz2
              have xx2 := Nat.lt_succ_of_lt xy2
              have xz3 := At.lt hA.out 3 rfl
              have xy3 := Nat.lt_succ_of_lt xz3
              have xx3 := Nat.lt_succ_of_lt xy3
              clear hkq e1 e2 hpx hpy
              go_wp2
              refine RT.region_one (aq := ?az8) (n := 14) (sx := 14) (vx := 58) (oz := Obj.cells #[.int .i64 0, .int .i64 0, .bool false, .int .i64 0, .int .i64 0] 28) (ox := Obj.cells #[.int .i64 px, .int .i64 py, .bool true, .int .i64 W, .int .i64 (0)] 28) (qs1 := [_, _, _, _, _, _, _, _, _, _, _, _, _, _]) (qs2 := []) (by kernel_rfl) rfl (by kernel_rfl) (by kernel_rfl) rfl (of_decide_eq_true (by kernel_rfl)) rfl rfl (by kernel_rfl) (by kernel_rfl) (by kernel_rfl) ?_ ?_ ?_ ?_
              rotate_left
              · intro e w
                simp [execOp, go_sem, Try.underlying28]
              · intro wq hEq
                have AQ := Lib.hid (show At wq [(BX, Obj.cells #[.int .i64 m.w, .int .i64 m.h, .slice ao m.pix.length cap, .bool true] 96), (VB, Obj.cells #[.int .i64 m.w, .int .i64 m.h, .slice ao m.pix.length cap, .bool false, .int .i64 m.w, .int .i64 m.h, .slice ao m.pix.length cap, .bool true] 96), (w.heap.size + 1, Obj.cells #[.int .i64 t.len, .int .i64 t.grip, .int .i64 t.palm] 26), (w.heap.size, Obj.cells #[.int .i64 m.w, .int .i64 m.h, .slice ao m.pix.length cap] 24)] from At.ext hEq hA.out)
                obtain ⟨⟨q00, q01, q02, q03⟩, -⟩ := run_4 (At.at AQ.out 0 rfl)
                obtain ⟨⟨q10, q11, q12, q13, q14, q15, q16, q17⟩, -⟩ := run_8 (At.at AQ.out 1 rfl)
                obtain ⟨⟨q20, q21, q22⟩, -⟩ := run_3 (At.at AQ.out 2 rfl)
                obtain ⟨⟨q30, q31, q32⟩, -⟩ := run_3 (At.at AQ.out 3 rfl)
                have qz0 := At.lt AQ.out 0 rfl
                have qy0 := Nat.lt_succ_of_lt qz0
                have qx0 := Nat.lt_succ_of_lt qy0
                have qz1 := At.lt AQ.out 1 rfl
                have qy1 := Nat.lt_succ_of_lt qz1
                have qx1 := Nat.lt_succ_of_lt qy1
                have qz2 := At.lt AQ.out 2 rfl
                have qy2 := Nat.lt_succ_of_lt qz2
                have qx2 := Nat.lt_succ_of_lt qy2
                have qz3 := At.lt AQ.out 3 rfl
                have qy3 := Nat.lt_succ_of_lt qz3
                have qx3 := Nat.lt_succ_of_lt qy3
                clear hEq
                simp only [List.cons_append, List.nil_append, List.append_nil]
                repeat (go_big_quiet_step (fail))
                refine wpQuiet_nil ?_
                exact rfl
              · intro e w b h1 h2 h3
                obtain ⟨⟨c0, c1, c2, c3, c4⟩, f0, f1, f2, f3, f4⟩ := run_5 h3
                have h2' : e (.tmp 58) = .agg #[.int .i64 px, .int .i64 py, .bool true, .int .i64 W, .int .i64 (0)] := h2
                apply Exists.intro
                apply And.intro
                · simp [execOp, go_sem, h1, h2', c0, c1, c2, c3, c4, f0, f1, f2, f3, f4, Try.underlying28]
                  exact rfl
                · exact store_5 h3
              intro bq w5 hE5 hbq hX5
              have A5 := Lib.hid (show At w5 [(bq, Obj.cells #[.int .i64 px, .int .i64 py, .bool true, .int .i64 W, .int .i64 (0)] 28), (BX, Obj.cells #[.int .i64 m.w, .int .i64 m.h, .slice ao m.pix.length cap, .bool true] 96), (VB, Obj.cells #[.int .i64 m.w, .int .i64 m.h, .slice ao m.pix.length cap, .bool false, .int .i64 m.w, .int .i64 m.h, .slice ao m.pix.length cap, .bool true] 96), (w.heap.size + 1, Obj.cells #[.int .i64 t.len, .int .i64 t.grip, .int .i64 t.palm] 26), (w.heap.size, Obj.cells #[.int .i64 m.w, .int .i64 m.h, .slice ao m.pix.length cap] 24)] from ⟨hX5, At.ext hE5 hA.out⟩)
              obtain ⟨⟨y00, y01, y02, y03, y04⟩, -⟩ := run_5 (At.at A5.out 0 rfl)
              obtain ⟨⟨y10, y11, y12, y13⟩, -⟩ := run_4 (At.at A5.out 1 rfl)
              obtain ⟨⟨y20, y21, y22, y23, y24, y25, y26, y27⟩, -⟩ := run_8 (At.at A5.out 2 rfl)
              obtain ⟨⟨y30, y31, y32⟩, -⟩ := run_3 (At.at A5.out 3 rfl)
              obtain ⟨⟨y40, y41, y42⟩, -⟩ := run_3 (At.at A5.out 4 rfl)
              have yz0 := At.lt A5.out 0 rfl
              have yy0 := Nat.lt_succ_of_lt yz0
              have yx0 := Nat.lt_succ_of_lt yy0
              have yz1 := At.lt A5.out 1 rfl
              have yy1 := Nat.lt_succ_of_lt yz1
              have yx1 := Nat.lt_succ_of_lt yy1
              have yz2 := At.lt A5.out 2 rfl
              have yy2 := Nat.lt_succ_of_lt yz2
              have yx2 := Nat.lt_succ_of_lt yy2
              have yz3 := At.lt A5.out 3 rfl
              have yy3 := Nat.lt_succ_of_lt yz3
              have yx3 := Nat.lt_succ_of_lt yy3
              have yz4 := At.lt A5.out 4 rfl
              have yy4 := Nat.lt_succ_of_lt yz4
              have yx4 := Nat.lt_succ_of_lt yy4
              have hsz5 := hE5.size
              have hBXq : BX < bq := Nat.lt_of_lt_of_le (At.lt hA.out 0 rfl) hbq
              clear hX5
              go_wp2
              go_quiet (fail)
              have hb6 : Ext w5 (w5.drewN nq) := (Ext.refl _).drewN nq
              generalize hw6 : w5.drewN nq = w6 at hb6 ⊢
              clear hw6
              have A6 := Lib.hid (show At w6 [(bq, Obj.cells #[.int .i64 px, .int .i64 py, .bool true, .int .i64 W, .int .i64 (0)] 28), (BX, Obj.cells #[.int .i64 m.w, .int .i64 m.h, .slice ao m.pix.length cap, .bool true] 96), (VB, Obj.cells #[.int .i64 m.w, .int .i64 m.h, .slice ao m.pix.length cap, .bool false, .int .i64 m.w, .int .i64 m.h, .slice ao m.pix.length cap, .bool true] 96), (w.heap.size + 1, Obj.cells #[.int .i64 t.len, .int .i64 t.grip, .int .i64 t.palm] 26), (w.heap.size, Obj.cells #[.int .i64 m.w, .int .i64 m.h, .slice ao m.pix.length cap] 24)] from At.ext hb6 A5.out)
              clear y00 y01 y02 y03 y04 y10 y11 y12 y13 y20 y21 y22 y23 y24 y25 y26 y27 y30 y31 y32 y40 y41 y42 yz0 yy0 yx0 yz1 yy1 yx1 yz2 yy2 yx2 yz3 yy3 yx3 yz4 yy4 yx4
              obtain ⟨⟨z00, z01, z02, z03, z04⟩, -⟩ := run_5 (At.at A6.out 0 rfl)
              obtain ⟨⟨z10, z11, z12, z13⟩, -⟩ := run_4 (At.at A6.out 1 rfl)
              obtain ⟨⟨z20, z21, z22, z23, z24, z25, z26, z27⟩, -⟩ := run_8 (At.at A6.out 2 rfl)
              obtain ⟨⟨z30, z31, z32⟩, -⟩ := run_3 (At.at A6.out 3 rfl)
              obtain ⟨⟨z40, z41, z42⟩, -⟩ := run_3 (At.at A6.out 4 rfl)
              have zz0 := At.lt A6.out 0 rfl
              have zy0 := Nat.lt_succ_of_lt zz0
              have zx0 := Nat.lt_succ_of_lt zy0
              have zz1 := At.lt A6.out 1 rfl
              have zy1 := Nat.lt_succ_of_lt zz1
              have zx1 := Nat.lt_succ_of_lt zy1
              have zz2 := At.lt A6.out 2 rfl
              have zy2 := Nat.lt_succ_of_lt zz2
              have zx2 := Nat.lt_succ_of_lt zy2
              have zz3 := At.lt A6.out 3 rfl
              have zy3 := Nat.lt_succ_of_lt zz3
              have zx3 := Nat.lt_succ_of_lt zy3
              have zz4 := At.lt A6.out 4 rfl
              have zy4 := Nat.lt_succ_of_lt zz4
              have zx4 := Nat.lt_succ_of_lt zy4
              go_wp2_with (first | (go_at_call 51; (with_reducible refine (K51.out _ (hE5.trans hb6)).mono ?_); rintro E w7 ⟨lo, hi, rfl, hr, hb7⟩; have HR := Lib.hid hr; clear hr; have A7 := Lib.hid (show At w7 [(bq, Obj.cells #[.int .i64 px, .int .i64 py, .bool true, .int .i64 W, .int .i64 (0)] 28), (BX, Obj.cells #[.int .i64 m.w, .int .i64 m.h, .slice ao m.pix.length cap, .bool true] 96), (VB, Obj.cells #[.int .i64 m.w, .int .i64 m.h, .slice ao m.pix.length cap, .bool false, .int .i64 m.w, .int .i64 m.h, .slice ao m.pix.length cap, .bool true] 96), (w.heap.size + 1, Obj.cells #[.int .i64 t.len, .int .i64 t.grip, .int .i64 t.palm] 26), (w.heap.size, Obj.cells #[.int .i64 m.w, .int .i64 m.h, .slice ao m.pix.length cap] 24)] from At.ext hb7 A6.out); have E7 := Lib.hid (hE.out.trans ((hE5.trans hb6).trans hb7)); have O7 := Lib.hid (owns_ext hO.out ((hE5.trans hb6).trans hb7)); have hz7 := hb7.size; clear z00 z01 z02 z03 z04 z10 z11 z12 z13 z20 z21 z22 z23 z24 z25 z26 z27 z30 z31 z32 z40 z41 z42 zz0 zy0 zx0 zz1 zy1 zx1 zz2 zy2 zx2 zz3 zy3 zx3 zz4 zy4 zx4; obtain ⟨⟨z00, z01, z02, z03, z04⟩, zf00, zf01, zf02, zf03, zf04⟩ := run_5 (At.at A7.out 0 rfl); obtain ⟨⟨z10, z11, z12, z13⟩, zf10, zf11, zf12, zf13⟩ := run_4 (At.at A7.out 1 rfl); obtain ⟨⟨z20, z21, z22, z23, z24, z25, z26, z27⟩, zf20, zf21, zf22, zf23, zf24, zf25, zf26, zf27⟩ := run_8 (At.at A7.out 2 rfl); obtain ⟨⟨z30, z31, z32⟩, zf30, zf31, zf32⟩ := run_3 (At.at A7.out 3 rfl); obtain ⟨⟨z40, z41, z42⟩, zf40, zf41, zf42⟩ := run_3 (At.at A7.out 4 rfl); have zz0 := At.lt A7.out 0 rfl; have zy0 := Nat.lt_succ_of_lt zz0; have zx0 := Nat.lt_succ_of_lt zy0; have zz1 := At.lt A7.out 1 rfl; have zy1 := Nat.lt_succ_of_lt zz1; have zx1 := Nat.lt_succ_of_lt zy1; have zz2 := At.lt A7.out 2 rfl; have zy2 := Nat.lt_succ_of_lt zz2; have zx2 := Nat.lt_succ_of_lt zy2; have zz3 := At.lt A7.out 3 rfl; have zy3 := Nat.lt_succ_of_lt zz3; have zx3 := Nat.lt_succ_of_lt zy3; have zz4 := At.lt A7.out 4 rfl; have zy4 := Nat.lt_succ_of_lt zz4; have zx4 := Nat.lt_succ_of_lt zy4) | (at_builtin; refine wpList_append_at rfl _ _ 35 rfl (VB + 1) 28 i0 (.agg #[.int .i64 0, .int .i64 0, .bool false, .int .i64 0, .int .i64 0]) 5 40 Try.underlying35 hi0 hz0 hz1 hz2 rfl (by omega) u9 gs.length (grasps gs) rfl (owns_ext (owns_ext (owns_at O7.out (fun g9 hg9 => set_at _ _ _ _ g9 (by have := HLT.out g9 hg9; omega))) ((Ext.refl _).alloc _)) ((Ext.refl _).alloc _)) _ 1 (graspCells { x := px, y := py, across := true, width := W, z := lo }) rfl (SlAt.lit_at _ (w7.heap.size + 1) (by simp) (graspCells { x := px, y := py, across := true, width := W, z := lo }) 28 5 rfl) (grasps_one _) (by unfold maxLen; omega) (by omega) (by simp; omega) ?_; intro va w8 ho hg hat; have A8 := Lib.hid (show At w8 [(BX, Obj.cells #[.int .i64 m.w, .int .i64 m.h, .slice ao m.pix.length cap, .bool true] 96), (VB, Obj.cells #[.int .i64 m.w, .int .i64 m.h, .slice ao m.pix.length cap, .bool false, .int .i64 m.w, .int .i64 m.h, .slice ao m.pix.length cap, .bool true] 96), (w.heap.size + 1, Obj.cells #[.int .i64 t.len, .int .i64 t.grip, .int .i64 t.palm] 26), (w.heap.size, Obj.cells #[.int .i64 m.w, .int .i64 m.h, .slice ao m.pix.length cap] 24)] from At.grown hg (At.alloc (At.alloc (At.other (set_at _ bq 4 _) (by simp; omega) (At.erase A7.out 0)) _) _) (by intro k9 hk9; simp only [List.map_cons, List.map_nil, List.mem_cons, List.not_mem_nil, or_false] at hk9; rcases hk9 with rfl | rfl | rfl | rfl; exact fun h9 => hNE.out _ h9 rfl; all_goals exact fun h9 => by have := (owns_block hO.out _ h9).1; omega)); have E8 := Lib.hid (((((E7.out.setCell (p := ⟨bq, 4, none⟩) (show w.heap.size ≤ bq by omega) _).alloc _).alloc _)).grown hg (fun g9 h9 => by have := (owns_block hO.out g9 h9).1; omega)); have O8 := Lib.hid ho; have N8 := Lib.hid (show ∀ g9, va.ownBlock = some g9 → g9 ≠ BX from fun g9 h9 => by rcases hat with h8 | h8; exact hNE.out g9 (h8 ▸ h9); rw [h8] at h9; injection h9 with h9; simp at h9; omega); clear ho hg hat))
              · go_roundw
                case rel => exact ⟨k + 1, gs ++ [{ x := px, y := py, across := true, width := W, z := lo }], by omega, by go_num, E8, A8, Lib.hid (by rw [grasps_snoc, List.length_append]; exact O8.out), N8, Lib.hid (by rw [show (8 + wn) * m.pix.length + (k + 1) = ((8 + wn) * m.pix.length + k) + 1 by omega]; exact gath_yes hG.out (try_yes HK.out (by omega) HR.out (by assumption)))⟩
                case measure => simp [intOf]; omega
              · go_roundw
                case rel => exact ⟨k + 1, gs, by omega, by go_num, Lib.hid (E7.out.alloc _), Lib.hid (At.alloc (At.erase A7.out 0) _), Lib.hid (owns_ext O7.out ((Ext.refl _).alloc _)), hNE, Lib.hid (by rw [show (8 + wn) * m.pix.length + (k + 1) = ((8 + wn) * m.pix.length + k) + 1 by omega]; exact gath_no hG.out (try_no HK.out (by omega) HR.out (by omega)))⟩
                case measure => simp [intOf]; omega

            · have hkn : k = m.pix.length := by omega
              have HG2 := Lib.hid (show Gath (m.Try t slack) ((8 + (wn + 1)) * m.pix.length) gs from by rw [show (8 + (wn + 1)) * m.pix.length = (8 + wn) * m.pix.length + k by rw [hkn, ← Nat.add_assoc, Nat.succ_mul]]; exact hG.out)
              clear hkn
              obtain ⟨⟨x00, x01, x02, x03⟩, -⟩ := run_4 (At.at hA.out 0 rfl)
              obtain ⟨⟨x10, x11, x12, x13, x14, x15, x16, x17⟩, -⟩ := run_8 (At.at hA.out 1 rfl)
              obtain ⟨⟨x20, x21, x22⟩, -⟩ := run_3 (At.at hA.out 2 rfl)
              obtain ⟨⟨x30, x31, x32⟩, -⟩ := run_3 (At.at hA.out 3 rfl)
              have xz0 := At.lt hA.out 0 rfl
              have xy0 := Nat.lt_succ_of_lt xz0
              have xx0 := Nat.lt_succ_of_lt xy0
              have xz1 := At.lt hA.out 1 rfl
              have xy1 := Nat.lt_succ_of_lt xz1
              have xx1 := Nat.lt_succ_of_lt xy1
              have xz2 := At.lt hA.out 2 rfl
              have xy2 := Nat.lt_succ_of_lt xz2
              have xx2 := Nat.lt_succ_of_lt xy2
              have xz3 := At.lt hA.out 3 rfl
              have xy3 := Nat.lt_succ_of_lt xz3
              have xx3 := Nat.lt_succ_of_lt xy3
              go_wp2
              go_roundw
              case rel => exact ⟨wn + 1, W + 1, gs, by have := HW.out; omega, by have := HW.out; omega, rfl, hE, hA, hO, hNE, HG2⟩
              case measure => simp [intOf]; omega
        · have hw9 : W = 9 := by omega
          have HG2 := Lib.hid (show Gath (m.Try t slack) ((8 + 8) * m.pix.length) gs from (show wn = 8 by have := HW.out; omega) ▸ hG.out)
          clear hw9
          go_wp2
          go_roundw
          case rel => exact ⟨2, 8 + 8, gs, by omega, rfl, hE, Lib.hid (At.erase hA.out 0), hO, HG2⟩
          case measure => simp [intOf]

    · go_wp2
      go_ret2
      exact ⟨_, gs, by rw [H0.out]; rfl, owns_base hO.out (by omega), fun _ => hG.out, fun h => absurd H0.out h, hE.out⟩
end Go.Proofs.Ytipkjdfnoonpcaa

/- Grasps: the reference's places and heights. -/
namespace Go.Proofs.Ytipkjdfnoonpcaa
open Go.RowKit Go.Sort

def Grasp.near (g : Grasp) : Prop := (-1000 ≤ g.x ∧ g.x ≤ 1000) ∧ -1000 ≤ g.y ∧ g.y ≤ 1000
instance (g : Grasp) : Decidable g.near := by unfold Grasp.near; infer_instance
set_option maxHeartbeats 2000000 in
theorem c53 (g : Grasp) (w : World) : Calls Try.prog 53 #[graspVal g] w fun e w' => e = .returned (.bool (decide g.near)) ∧ Ext w w' := by
  unfold graspVal
  by_cases h1 : -1000 ≤ g.x ∧ g.x ≤ 1000
  case neg =>
    have q1 : decide (-1000 ≤ g.x ∧ g.x ≤ 1000) = false := decide_eq_false h1
    have H1 := Lib.hid h1
    clear h1
    go_enter Try.func53, Try.ntmps53
    go_wp2_with (go_at_call 61; (with_reducible refine (rwithin_same 61 (.inl rfl) _ _ _ _).mono ?_); rintro e w' ⟨rfl, rfl⟩)
    go_ret
    exact ⟨ret_bool (decide_eq_false (fun h => H1.out h.1)).symm, (by repeat (first | exact Ext.refl _ | assumption | refine Ext.alloc ?_ _ | refine Ext.drewN ?_ _ | refine ext_grow ?_ _ _ | refine Ext.trans ?_ (by assumption)))⟩
  have q1 : decide (-1000 ≤ g.x ∧ g.x ≤ 1000) = true := decide_eq_true h1
  have H1 := Lib.hid h1
  clear h1
  go_enter Try.func53, Try.ntmps53
  go_wp2_with (go_at_call 61; (with_reducible refine (rwithin_same 61 (.inl rfl) _ _ _ _).mono ?_); rintro e w' ⟨rfl, rfl⟩)
  go_ret
  exact ⟨ret_bool (by have := H1.out; simp [Grasp.near, this.1, this.2]), (by repeat (first | exact Ext.refl _ | assumption | refine Ext.alloc ?_ _ | refine Ext.drewN ?_ _ | refine ext_grow ?_ _ _ | refine Ext.trans ?_ (by assumption)))⟩
/-- the place of a cell -/
def Grasp.px (g : Grasp) (o f : Int) : Int := if g.across then g.x + f else g.x + o
def Grasp.py (g : Grasp) (o f : Int) : Int := if g.across then g.y + o else g.y + f
theorem vin_place (m : Img) (g : Grasp) (o f : Int) : m.vin g.across (g.vx + o) (g.vy + f) ↔ m.In (g.px o f) (g.py o f) := by
  unfold Img.vin Grasp.vx Grasp.vy Grasp.px Grasp.py
  cases g.across <;> simp
theorem vat_place (m : Img) (g : Grasp) (o f : Int) : m.vat g.across (g.vx + o) (g.vy + f) = m.at (g.px o f) (g.py o f) := by
  unfold Img.vat Grasp.vx Grasp.vy Grasp.px Grasp.py
  cases g.across <;> simp
def Small (g : Grasp) : Prop := (-1010 ≤ g.x ∧ g.x ≤ 1010) ∧ -1010 ≤ g.y ∧ g.y ≤ 1010
set_option maxHeartbeats 2000000 in
theorem c111 (g : Grasp) (o f : Int) (w : World) (hg : Small g) (ho : -1 ≤ o ∧ o ≤ 8) (hf : 0 ≤ f ∧ f ≤ 4) :
    Calls Try.prog 111 #[graspVal g, .int .i64 o, .int .i64 f] w fun e w' => e = .returned (.tuple #[.int .i64 (g.px o f), .int .i64 (g.py o f)]) ∧ Ext w w' := by
  obtain ⟨gx, gy, ga, gw, gz⟩ := g
  obtain ⟨⟨x1, x2⟩, x3, x4⟩ := hg
  obtain ⟨o1, o2⟩ := ho
  obtain ⟨f1, f2⟩ := hf
  unfold graspVal
  dsimp only at *
  cases ga
  · have hw1 : IntKind.i64.wrap (gx + o) = gx + o := IntWalk.i64_in _ (by omega)
    have hw2 : IntKind.i64.wrap (gy + f) = gy + f := IntWalk.i64_in _ (by omega)
    go_enter Try.func111, Try.ntmps111
    go_wp2
    go_quiet (fail)
    go_wp2
    go_ret2
    exact ⟨rfl, (by repeat (first | exact Ext.refl _ | assumption | refine Ext.alloc ?_ _ | refine Ext.drewN ?_ _ | refine ext_grow ?_ _ _ | refine Ext.trans ?_ (by assumption)))⟩
  · have hw1 : IntKind.i64.wrap (gx + f) = gx + f := IntWalk.i64_in _ (by omega)
    have hw2 : IntKind.i64.wrap (gy + o) = gy + o := IntWalk.i64_in _ (by omega)
    go_enter Try.func111, Try.ntmps111
    go_wp2
    go_quiet (fail)
    go_wp2
    go_ret2
    exact ⟨rfl, (by repeat (first | exact Ext.refl _ | assumption | refine Ext.alloc ?_ _ | refine Ext.drewN ?_ _ | refine ext_grow ?_ _ _ | refine Ext.trans ?_ (by assumption)))⟩

set_option maxHeartbeats 2000000 in
theorem c112 (m : Img) (v : Value) (g : Grasp) (o f : Int) (w : World) (hm : m.Sized) (hv : IntsAt w v m.pix) (hg : Small g) (ho : -1 ≤ o ∧ o ≤ 8) (hf : 0 ≤ f ∧ f ≤ 4) (hi : m.vin g.across (g.vx + o) (g.vy + f)) :
    Calls Try.prog 112 #[imgVal m v, graspVal g, .int .i64 o, .int .i64 f] w fun e w' => e = .returned (.int .i64 (m.vat g.across (g.vx + o) (g.vy + f))) ∧ Ext w w' := by
  rw [vin_place] at hi
  rw [vat_place]
  have HV := Lib.hid hv
  obtain ⟨ao, cap, rfl, -, -⟩ := hv.form
  have K111 := Lib.hid (fun w' => c111 g o f w' hg ho hf)
  have K48 := Lib.hid (fun w' (h : Ext w w') => c48 m _ (g.px o f) (g.py o f) w' hm hi (HV.out.ext h))
  obtain ⟨x, hx⟩ : ∃ x, g.px o f = x := ⟨_, rfl⟩
  obtain ⟨y, hy⟩ : ∃ y, g.py o f = y := ⟨_, rfl⟩
  obtain ⟨r, hr⟩ : ∃ r, m.at (g.px o f) (g.py o f) = r := ⟨_, rfl⟩
  rw [hr] at K48 ⊢
  rw [hx, hy] at K111 K48
  unfold graspVal imgVal at *
  clear hv hi hx hy hr hg ho hf
  go_enter Try.func112, Try.ntmps112
  go_wp2_with (first | (go_at_call 111; (with_reducible refine (K111.out _).mono ?_); rintro E w1 ⟨rfl, hb⟩; have A1 := Lib.hid (show At w1 [(w.heap.size + 1, Obj.cells #[.int .i64 g.x, .int .i64 g.y, .bool g.across, .int .i64 g.width, .int .i64 g.z] 28), (w.heap.size, Obj.cells #[.int .i64 m.w, .int .i64 m.h, .slice ao m.pix.length cap] 24)] from At.ext hb ⟨(by repeat (first | (refine blk_at _ _ ?_; (first | rfl | (simp only [size_one]; done))) | refine (blk_past _ _ (by simp only [size_one]; omega)).trans ?_)), (by repeat (first | (refine blk_at _ _ ?_; (first | rfl | (simp only [size_one]; done))) | refine (blk_past _ _ (by simp only [size_one]; omega)).trans ?_)), trivial⟩); obtain ⟨⟨x00, x01, x02, x03, x04⟩, -⟩ := run_5 (At.at A1.out 0 rfl); obtain ⟨⟨x10, x11, x12⟩, -⟩ := run_3 (At.at A1.out 1 rfl); have xz0 := At.lt A1.out 0 rfl; have xy0 := Nat.lt_succ_of_lt xz0; have xx0 := Nat.lt_succ_of_lt xy0; have xz1 := At.lt A1.out 1 rfl; have xy1 := Nat.lt_succ_of_lt xz1; have xx1 := Nat.lt_succ_of_lt xy1) | (go_at_call 48; (with_reducible refine (K48.out _ (by repeat (first | exact Ext.refl _ | assumption | refine Ext.alloc ?_ _ | refine Ext.drewN ?_ _ | refine ext_grow ?_ _ _ | refine Ext.trans ?_ (by assumption)))).mono ?_); rintro E w2 ⟨rfl, hb2⟩))
  go_ret
  exact ⟨rfl, (by repeat (first | exact Ext.refl _ | assumption | refine Ext.alloc ?_ _ | refine Ext.drewN ?_ _ | refine ext_grow ?_ _ _ | refine Ext.trans ?_ (by assumption)))⟩
end Go.Proofs.Ytipkjdfnoonpcaa

/- Grasps: which are allowed, and hold without slack: the reference's walks. -/
namespace Go.Proofs.Ytipkjdfnoonpcaa
open Go.RowKit Go.Sort

/-- a bool that says whether it is so -/
def BoolIs (p : Prop) (w : World) (e : Ending) (w' : World) : Prop := ∃ b : Bool, e = .returned (.bool b) ∧ (b = true ↔ p) ∧ Ext w w'
theorem BoolIs.yes {p : Prop} {w w' : World} {e : Ending} (hp : p) (h : BoolIs p w e w') : e = .returned (.bool true) ∧ Ext w w' := by
  obtain ⟨b, rfl, h1, h2⟩ := h
  rw [h1.2 hp]
  exact ⟨rfl, h2⟩
theorem BoolIs.no {p : Prop} {w w' : World} {e : Ending} (hp : ¬ p) (h : BoolIs p w e w') : e = .returned (.bool false) ∧ Ext w w' := by
  obtain ⟨b, rfl, h1, h2⟩ := h
  cases b
  · exact ⟨rfl, h2⟩
  · exact absurd (h1.1 rfl) hp
set_option maxRecDepth 100000 in
set_option maxHeartbeats 8000000 in
theorem c92 (m : Img) (v : Value) (t : Tool) (g : Grasp) (w : World) (hm : m.Sized) (ht : t.Ok) (hv : IntsAt w v m.pix) (hg : Small g) :
    Calls Try.prog 92 #[imgVal m v, toolVal t, graspVal g] w (BoolIs (m.Allowed t g) w) := by
  have HV := Lib.hid hv
  obtain ⟨ao, cap, rfl, -, -⟩ := hv.form
  obtain ⟨⟨t1, t2⟩, t3, t4, t5⟩ := ht
  have HM := Lib.hid hm
  have HG := Lib.hid hg
  unfold imgVal toolVal graspVal
  clear hv hm hg
  by_cases h1 : 1 ≤ g.width ∧ g.width ≤ 8
  case neg =>
    have q1 : decide (1 ≤ g.width ∧ g.width ≤ 8) = false := decide_eq_false h1
    have H1 := Lib.hid h1
    clear h1
    go_enter Try.func92, Try.ntmps92
    go_wp2_with (go_at_call 61; (with_reducible refine (rwithin_same 61 (.inl rfl) _ _ _ _).mono ?_); rintro e w' ⟨rfl, rfl⟩)
    go_ret
    exact ⟨false, rfl, ⟨fun h => (by cases h), fun h => absurd h.1 H1.out⟩, (by repeat (first | exact Ext.refl _ | assumption | refine Ext.alloc ?_ _ | refine Ext.drewN ?_ _ | refine ext_grow ?_ _ _ | refine Ext.trans ?_ (by assumption)))⟩
  have q1 : decide (1 ≤ g.width ∧ g.width ≤ 8) = true := decide_eq_true h1
  have HW := Lib.hid h1
  obtain ⟨w1, w2⟩ := h1
  by_cases h1 : 0 ≤ g.z ∧ g.z ≤ 255
  case neg =>
    have q2 : decide (0 ≤ g.z ∧ g.z ≤ 255) = false := decide_eq_false h1
    have H1 := Lib.hid h1
    clear h1
    go_enter Try.func92, Try.ntmps92
    go_wp2_with (go_at_call 61; (with_reducible refine (rwithin_same 61 (.inl rfl) _ _ _ _).mono ?_); rintro e w' ⟨rfl, rfl⟩)
    go_ret
    exact ⟨false, rfl, ⟨fun h => (by cases h), fun h => absurd h.2.1 H1.out⟩, (by repeat (first | exact Ext.refl _ | assumption | refine Ext.alloc ?_ _ | refine Ext.drewN ?_ _ | refine ext_grow ?_ _ _ | refine Ext.trans ?_ (by assumption)))⟩
  have q2 : decide (0 ≤ g.z ∧ g.z ≤ 255) = true := decide_eq_true h1
  have HZ := Lib.hid h1
  clear h1
  go_enter Try.func92, Try.ntmps92
  go_wp2_with (go_at_call 61; (with_reducible refine (rwithin_same 61 (.inl rfl) _ _ _ _).mono ?_); rintro e w' ⟨rfl, rfl⟩)
  go_loopw [7] (fun i wr => ∃ o : Int, -1 ≤ o ∧ o ≤ g.width + 1 ∧ i = .int .i64 o ∧ Hid (Ext w wr) ∧ Hid (At wr [(w.heap.size + 1 + 1, Obj.cells #[.int .i64 g.x, .int .i64 g.y, .bool g.across, .int .i64 g.width, .int .i64 g.z] 28), (w.heap.size + 1, Obj.cells #[.int .i64 t.len, .int .i64 t.grip, .int .i64 t.palm] 26), (w.heap.size, Obj.cells #[.int .i64 m.w, .int .i64 m.h, .slice ao m.pix.length cap] 24)]) ∧ Hid (∀ k, -1 ≤ k → k < o → ∀ f, 0 ≤ f → f < t.len → m.vin g.across (g.vx + k) (g.vy + f))) (fun i _ => (g.width + 1 - intOf i).toNat)
  case atStart => exact ⟨-1, by omega, by omega, rfl, Lib.hid (by repeat (first | exact Ext.refl _ | assumption | refine Ext.alloc ?_ _ | refine Ext.drewN ?_ _ | refine ext_grow ?_ _ _ | refine Ext.trans ?_ (by assumption))), Lib.hid ⟨(by repeat (first | (refine blk_at _ _ ?_; (first | rfl | (simp only [size_one]; done))) | refine (blk_past _ _ (by simp only [size_one]; omega)).trans ?_)), (by repeat (first | (refine blk_at _ _ ?_; (first | rfl | (simp only [size_one]; done))) | refine (blk_past _ _ (by simp only [size_one]; omega)).trans ?_)), (by repeat (first | (refine blk_at _ _ ?_; (first | rfl | (simp only [size_one]; done))) | refine (blk_past _ _ (by simp only [size_one]; omega)).trans ?_)), trivial⟩, Lib.hid (fun k k1 k2 => by omega)⟩
  case round =>
    obtain ⟨o, ho1, ho2, rfl, hE, hA, hO⟩ := hrel
    obtain ⟨⟨x00, x01, x02, x03, x04⟩, -⟩ := run_5 (At.at hA.out 0 rfl)
    obtain ⟨⟨x10, x11, x12⟩, -⟩ := run_3 (At.at hA.out 1 rfl)
    obtain ⟨⟨x20, x21, x22⟩, -⟩ := run_3 (At.at hA.out 2 rfl)
    have xz0 := At.lt hA.out 0 rfl
    have xy0 := Nat.lt_succ_of_lt xz0
    have xx0 := Nat.lt_succ_of_lt xy0
    have xz1 := At.lt hA.out 1 rfl
    have xy1 := Nat.lt_succ_of_lt xz1
    have xx1 := Nat.lt_succ_of_lt xy1
    have xz2 := At.lt hA.out 2 rfl
    have xy2 := Nat.lt_succ_of_lt xz2
    have xx2 := Nat.lt_succ_of_lt xy2
    by_cases how : o ≤ g.width
    · go_wp2
      clear x00 x01 x02 x03 x04 x10 x11 x12 x20 x21 x22 xz0 xy0 xx0 xz1 xy1 xx1 xz2 xy2 xx2
      obtain ⟨wo, hwo⟩ : ∃ wo : World, wo = wr := ⟨_, rfl⟩
      subst hwo
      go_loopw [8] (fun i wr => ∃ f : Int, 0 ≤ f ∧ f ≤ t.len ∧ i = .int .i64 f ∧ Hid (Ext w wr) ∧ Hid (At wr [(w.heap.size + 1 + 1, Obj.cells #[.int .i64 g.x, .int .i64 g.y, .bool g.across, .int .i64 g.width, .int .i64 g.z] 28), (w.heap.size + 1, Obj.cells #[.int .i64 t.len, .int .i64 t.grip, .int .i64 t.palm] 26), (w.heap.size, Obj.cells #[.int .i64 m.w, .int .i64 m.h, .slice ao m.pix.length cap] 24)]) ∧ Hid (∀ k, 0 ≤ k → k < f → m.vin g.across (g.vx + o) (g.vy + k))) (fun i _ => (t.len - intOf i).toNat)
      case atStart => exact ⟨0, by omega, by omega, rfl, hE, hA, Lib.hid (fun k k1 k2 => by omega)⟩
      case round =>
        clear hE hA
        obtain ⟨f, hf1, hf2, rfl, hE, hA, hI⟩ := hrel
        obtain ⟨⟨x00, x01, x02, x03, x04⟩, -⟩ := run_5 (At.at hA.out 0 rfl)
        obtain ⟨⟨x10, x11, x12⟩, -⟩ := run_3 (At.at hA.out 1 rfl)
        obtain ⟨⟨x20, x21, x22⟩, -⟩ := run_3 (At.at hA.out 2 rfl)
        have xz0 := At.lt hA.out 0 rfl
        have xy0 := Nat.lt_succ_of_lt xz0
        have xx0 := Nat.lt_succ_of_lt xy0
        have xz1 := At.lt hA.out 1 rfl
        have xy1 := Nat.lt_succ_of_lt xz1
        have xx1 := Nat.lt_succ_of_lt xy1
        have xz2 := At.lt hA.out 2 rfl
        have xy2 := Nat.lt_succ_of_lt xz2
        have xx2 := Nat.lt_succ_of_lt xy2
        by_cases hfl : f < t.len
        · have K111 := Lib.hid (fun w' => c111 g o f w' HG.out (by omega) (by omega))
          unfold graspVal at K111
          by_cases hin : m.vin g.across (g.vx + o) (g.vy + f)
          case neg =>
            have q1 : decide (m.In (g.px o f) (g.py o f)) = false := decide_eq_false (fun h => hin ((vin_place m g o f).2 h))
            have K98 := Lib.hid (fun w' => c98 m (.slice ao m.pix.length cap) (g.px o f) (g.py o f) w' HM.out)
            rw [q1] at K98
            unfold imgVal at K98
            have HI := Lib.hid hin
            clear hin q1
            obtain ⟨px, hpx⟩ : ∃ px, g.px o f = px := ⟨_, rfl⟩
            obtain ⟨py, hpy⟩ : ∃ py, g.py o f = py := ⟨_, rfl⟩
            rw [hpx, hpy] at K111 K98
            clear hpx hpy
            go_wp2_with (first | (have _q := E1; go_at_call 98; (with_reducible refine (K98.out _).mono ?_); rintro E w2 ⟨rfl, hb2⟩; have A2 := Lib.hid (show At w2 [(w.heap.size + 1 + 1, Obj.cells #[.int .i64 g.x, .int .i64 g.y, .bool g.across, .int .i64 g.width, .int .i64 g.z] 28), (w.heap.size + 1, Obj.cells #[.int .i64 t.len, .int .i64 t.grip, .int .i64 t.palm] 26), (w.heap.size, Obj.cells #[.int .i64 m.w, .int .i64 m.h, .slice ao m.pix.length cap] 24)] from At.ext hb2 A1.out); have E2 := Lib.hid (E1.out.trans hb2); obtain ⟨⟨z00, z01, z02, z03, z04⟩, -⟩ := run_5 (At.at A2.out 0 rfl); obtain ⟨⟨z10, z11, z12⟩, -⟩ := run_3 (At.at A2.out 1 rfl); obtain ⟨⟨z20, z21, z22⟩, -⟩ := run_3 (At.at A2.out 2 rfl); have zz0 := At.lt A2.out 0 rfl; have zy0 := Nat.lt_succ_of_lt zz0; have zx0 := Nat.lt_succ_of_lt zy0; have zz1 := At.lt A2.out 1 rfl; have zy1 := Nat.lt_succ_of_lt zz1; have zx1 := Nat.lt_succ_of_lt zy1; have zz2 := At.lt A2.out 2 rfl; have zy2 := Nat.lt_succ_of_lt zz2; have zx2 := Nat.lt_succ_of_lt zy2) | (go_at_call 111; (with_reducible refine (K111.out _).mono ?_); rintro E w1 ⟨rfl, hb⟩; have A1 := Lib.hid (show At w1 [(w.heap.size + 1 + 1, Obj.cells #[.int .i64 g.x, .int .i64 g.y, .bool g.across, .int .i64 g.width, .int .i64 g.z] 28), (w.heap.size + 1, Obj.cells #[.int .i64 t.len, .int .i64 t.grip, .int .i64 t.palm] 26), (w.heap.size, Obj.cells #[.int .i64 m.w, .int .i64 m.h, .slice ao m.pix.length cap] 24)] from At.ext hb hA.out); have E1 := Lib.hid (hE.out.trans hb); obtain ⟨⟨y00, y01, y02, y03, y04⟩, -⟩ := run_5 (At.at A1.out 0 rfl); obtain ⟨⟨y10, y11, y12⟩, -⟩ := run_3 (At.at A1.out 1 rfl); obtain ⟨⟨y20, y21, y22⟩, -⟩ := run_3 (At.at A1.out 2 rfl); have yz0 := At.lt A1.out 0 rfl; have yy0 := Nat.lt_succ_of_lt yz0; have yx0 := Nat.lt_succ_of_lt yy0; have yz1 := At.lt A1.out 1 rfl; have yy1 := Nat.lt_succ_of_lt yz1; have yx1 := Nat.lt_succ_of_lt yy1; have yz2 := At.lt A1.out 2 rfl; have yy2 := Nat.lt_succ_of_lt yz2; have yx2 := Nat.lt_succ_of_lt yy2))
            go_ret
            exact ⟨false, rfl, ⟨fun h => (by cases h), fun h => absurd (h.2.2 o ho1 how f hf1 hfl) HI.out⟩, E2.out⟩
          have q1 : decide (m.In (g.px o f) (g.py o f)) = true := decide_eq_true ((vin_place m g o f).1 hin)
          have K98 := Lib.hid (fun w' => c98 m (.slice ao m.pix.length cap) (g.px o f) (g.py o f) w' HM.out)
          rw [q1] at K98
          unfold imgVal at K98
          have HI := Lib.hid hin
          clear hin q1
          obtain ⟨px, hpx⟩ : ∃ px, g.px o f = px := ⟨_, rfl⟩
          obtain ⟨py, hpy⟩ : ∃ py, g.py o f = py := ⟨_, rfl⟩
          rw [hpx, hpy] at K111 K98
          clear hpx hpy
          go_wp2_with (first | (have _q := E1; go_at_call 98; (with_reducible refine (K98.out _).mono ?_); rintro E w2 ⟨rfl, hb2⟩; have A2 := Lib.hid (show At w2 [(w.heap.size + 1 + 1, Obj.cells #[.int .i64 g.x, .int .i64 g.y, .bool g.across, .int .i64 g.width, .int .i64 g.z] 28), (w.heap.size + 1, Obj.cells #[.int .i64 t.len, .int .i64 t.grip, .int .i64 t.palm] 26), (w.heap.size, Obj.cells #[.int .i64 m.w, .int .i64 m.h, .slice ao m.pix.length cap] 24)] from At.ext hb2 A1.out); have E2 := Lib.hid (E1.out.trans hb2); obtain ⟨⟨z00, z01, z02, z03, z04⟩, -⟩ := run_5 (At.at A2.out 0 rfl); obtain ⟨⟨z10, z11, z12⟩, -⟩ := run_3 (At.at A2.out 1 rfl); obtain ⟨⟨z20, z21, z22⟩, -⟩ := run_3 (At.at A2.out 2 rfl); have zz0 := At.lt A2.out 0 rfl; have zy0 := Nat.lt_succ_of_lt zz0; have zx0 := Nat.lt_succ_of_lt zy0; have zz1 := At.lt A2.out 1 rfl; have zy1 := Nat.lt_succ_of_lt zz1; have zx1 := Nat.lt_succ_of_lt zy1; have zz2 := At.lt A2.out 2 rfl; have zy2 := Nat.lt_succ_of_lt zz2; have zx2 := Nat.lt_succ_of_lt zy2) | (go_at_call 111; (with_reducible refine (K111.out _).mono ?_); rintro E w1 ⟨rfl, hb⟩; have A1 := Lib.hid (show At w1 [(w.heap.size + 1 + 1, Obj.cells #[.int .i64 g.x, .int .i64 g.y, .bool g.across, .int .i64 g.width, .int .i64 g.z] 28), (w.heap.size + 1, Obj.cells #[.int .i64 t.len, .int .i64 t.grip, .int .i64 t.palm] 26), (w.heap.size, Obj.cells #[.int .i64 m.w, .int .i64 m.h, .slice ao m.pix.length cap] 24)] from At.ext hb hA.out); have E1 := Lib.hid (hE.out.trans hb); obtain ⟨⟨y00, y01, y02, y03, y04⟩, -⟩ := run_5 (At.at A1.out 0 rfl); obtain ⟨⟨y10, y11, y12⟩, -⟩ := run_3 (At.at A1.out 1 rfl); obtain ⟨⟨y20, y21, y22⟩, -⟩ := run_3 (At.at A1.out 2 rfl); have yz0 := At.lt A1.out 0 rfl; have yy0 := Nat.lt_succ_of_lt yz0; have yx0 := Nat.lt_succ_of_lt yy0; have yz1 := At.lt A1.out 1 rfl; have yy1 := Nat.lt_succ_of_lt yz1; have yx1 := Nat.lt_succ_of_lt yy1; have yz2 := At.lt A1.out 2 rfl; have yy2 := Nat.lt_succ_of_lt yz2; have yx2 := Nat.lt_succ_of_lt yy2))
          go_roundw
          case rel => exact ⟨f + 1, by omega, by omega, rfl, E2, A2, Lib.hid (fun k k1 k2 => by
            rcases Int.lt_or_le k f with h9 | h9
            · exact hI.out k k1 h9
            · have : k = f := by omega
              rw [this]; exact HI.out)⟩
          case measure => simp [intOf]; omega
        · have hff : f = t.len := by omega
          have HN := Lib.hid (show ∀ k, -1 ≤ k → k < o + 1 → ∀ f, 0 ≤ f → f < t.len → m.vin g.across (g.vx + k) (g.vy + f) from fun k k1 k2 q q1 q2 => by
            rcases Int.lt_or_le k o with h9 | h9
            · exact hO.out k k1 h9 q q1 q2
            · have : k = o := by omega
              rw [this]; exact hI.out q q1 (by omega))
          clear hff
          go_wp2
          go_roundw
          case rel => exact ⟨o + 1, by omega, by omega, rfl, hE, hA, HN⟩
          case measure => simp [intOf]; omega
    · have hoo : o = g.width + 1 := by omega
      have HN := Lib.hid (show m.Allowed t g from ⟨HW.out, HZ.out, fun k k1 k2 q q1 q2 => hO.out k k1 (by omega) q q1 q2⟩)
      clear hoo
      go_wp2
      go_ret
      exact ⟨true, rfl, ⟨fun _ => HN.out, fun _ => rfl⟩, hE.out⟩
/-- the greatest of the first, or 0 -/
def Most (f : Int → Int) (o ln : Int) : Prop := ∀ c, ln ≤ c ↔ 0 ≤ c ∧ ∀ k, 0 ≤ k → k < o → f k ≤ c
theorem most_start (f : Int → Int) : Most f 0 0 := fun c => ⟨fun h => ⟨h, fun k h1 h2 => by omega⟩, fun h => h.1⟩
theorem most_step {f : Int → Int} {ln : Int} (o : Int) (ho : 0 ≤ o) (h : Most f o ln) : Most f (o + 1) (max ln (f o)) := fun c => by
  rw [Int.max_le, h c]
  constructor
  · rintro ⟨⟨h1, h2⟩, h3⟩
    refine ⟨h1, fun k k1 k2 => ?_⟩
    rcases Int.lt_or_le k o with h9 | h9
    · exact h2 k k1 h9
    · have : k = o := by omega
      rw [this]; exact h3
  · rintro ⟨h1, h2⟩
    exact ⟨⟨h1, fun k k1 k2 => h2 k k1 (by omega)⟩, h2 o ho (by omega)⟩
def Img.heldRow (m : Img) (t : Tool) (g : Grasp) (f : Int) : Prop :=
  (m.vat g.across (g.vx + -1) (g.vy + f) ≤ g.z ∧ m.vat g.across (g.vx + g.width) (g.vy + f) ≤ g.z) ∧
    (∀ o, 0 ≤ o → o < g.width → m.vat g.across (g.vx + o) (g.vy + f) ≤ g.z + t.palm) ∧ (∃ o, 0 ≤ o ∧ o < g.width ∧ g.z + t.grip ≤ m.vat g.across (g.vx + o) (g.vy + f))
set_option maxRecDepth 100000 in
set_option maxHeartbeats 16000000 in
theorem c93 (m : Img) (v : Value) (t : Tool) (g : Grasp) (w : World) (hc : m.Camera) (ht : t.Ok) (hv : IntsAt w v m.pix) (hg : Small g) (ha : m.Allowed t g) :
    Calls Try.prog 93 #[imgVal m v, toolVal t, graspVal g] w (BoolIs (m.held t g) w) := by
  have hm := hc.1
  have HC := Lib.hid hc
  have HA := Lib.hid ha
  obtain ⟨⟨w1, w2⟩, ⟨z1, z2⟩, -⟩ := ha
  have HV := Lib.hid hv
  obtain ⟨ao, cap, rfl, -, -⟩ := hv.form
  obtain ⟨⟨t1, t2⟩, t3, t4, t5⟩ := ht
  have HM := Lib.hid hm
  have HG := Lib.hid hg
  unfold imgVal toolVal graspVal
  clear hv hm hg
  clear hc
  go_enter Try.func93, Try.ntmps93
  go_wp2
  go_loopw [7] (fun i wr => ∃ f : Int, 0 ≤ f ∧ f ≤ t.len ∧ i = .int .i64 f ∧ Hid (Ext w wr) ∧ Hid (At wr [(w.heap.size + 1 + 1, Obj.cells #[.int .i64 g.x, .int .i64 g.y, .bool g.across, .int .i64 g.width, .int .i64 g.z] 28), (w.heap.size + 1, Obj.cells #[.int .i64 t.len, .int .i64 t.grip, .int .i64 t.palm] 26), (w.heap.size, Obj.cells #[.int .i64 m.w, .int .i64 m.h, .slice ao m.pix.length cap] 24)]) ∧ Hid (∀ k, 0 ≤ k → k < f → m.heldRow t g k)) (fun i _ => (t.len - intOf i).toNat)
  case atStart => exact ⟨0, by omega, by omega, rfl, Lib.hid (by repeat (first | exact Ext.refl _ | assumption | refine Ext.alloc ?_ _ | refine Ext.drewN ?_ _ | refine ext_grow ?_ _ _ | refine Ext.trans ?_ (by assumption))), Lib.hid ⟨(by repeat (first | (refine blk_at _ _ ?_; (first | rfl | (simp only [size_one]; done))) | refine (blk_past _ _ (by simp only [size_one]; omega)).trans ?_)), (by repeat (first | (refine blk_at _ _ ?_; (first | rfl | (simp only [size_one]; done))) | refine (blk_past _ _ (by simp only [size_one]; omega)).trans ?_)), (by repeat (first | (refine blk_at _ _ ?_; (first | rfl | (simp only [size_one]; done))) | refine (blk_past _ _ (by simp only [size_one]; omega)).trans ?_)), trivial⟩, Lib.hid (fun k k1 k2 => by omega)⟩
  case round =>
    obtain ⟨f, hf1, hf2, rfl, hE, hA, hR⟩ := hrel
    obtain ⟨⟨x00, x01, x02, x03, x04⟩, -⟩ := run_5 (At.at hA.out 0 rfl)
    obtain ⟨⟨x10, x11, x12⟩, -⟩ := run_3 (At.at hA.out 1 rfl)
    obtain ⟨⟨x20, x21, x22⟩, -⟩ := run_3 (At.at hA.out 2 rfl)
    have xz0 := At.lt hA.out 0 rfl
    have xy0 := Nat.lt_succ_of_lt xz0
    have xx0 := Nat.lt_succ_of_lt xy0
    have xz1 := At.lt hA.out 1 rfl
    have xy1 := Nat.lt_succ_of_lt xz1
    have xx1 := Nat.lt_succ_of_lt xy1
    have xz2 := At.lt hA.out 2 rfl
    have xy2 := Nat.lt_succ_of_lt xz2
    have xx2 := Nat.lt_succ_of_lt xy2
    by_cases hfl : f < t.len
    · have hin1 := HA.out.2.2 (-1) (by omega) (by omega) f hf1 hfl
      have hin2 := HA.out.2.2 g.width (by omega) (by omega) f hf1 hfl
      have K1 := Lib.hid (fun w' (h : Ext wr w') => c112 m _ g (-1) f w' HM.out (HV.out.ext (hE.out.trans h)) HG.out (by omega) (by omega) hin1)
      have K2 := Lib.hid (fun w' (h : Ext wr w') => c112 m _ g g.width f w' HM.out (HV.out.ext (hE.out.trans h)) HG.out (by omega) (by omega) hin2)
      unfold graspVal imgVal at K1 K2
      obtain ⟨h1, hh1⟩ : ∃ h, m.vat g.across (g.vx + -1) (g.vy + f) = h := ⟨_, rfl⟩
      obtain ⟨h2, hh2⟩ : ∃ h, m.vat g.across (g.vx + g.width) (g.vy + f) = h := ⟨_, rfl⟩
      rw [hh1] at K1
      rw [hh2] at K2
      have HH1 := Lib.hid hh1
      have HH2 := Lib.hid hh2
      clear hin1 hin2 hh1 hh2
      by_cases b1 : g.z < h1
      case pos =>
        have q1 : decide (g.z < h1) = true := decide_eq_true b1
        go_wp2
        refine wp_region_quiet_below (by kernel_rfl) (by kernel_rfl) ?_
        repeat (go_big_quiet_step ((first | (go_at_call 112; with_reducible exact Calls.ext_of (K1.out _ (Ext.grow _ _ _))) | (go_at_call 112; with_reducible exact Calls.ext_of (K2.out _ (Ext.grow _ _ _))))))
        refine wpQuiet_nil ?_
        intro w3 hw'
        obtain ⟨pq, hw''⟩ := hw'
        have hb3 := ext_of_regrown hw''
        clear hw'' pq
        have A3 := Lib.hid (show At w3 [(w.heap.size + 1 + 1, Obj.cells #[.int .i64 g.x, .int .i64 g.y, .bool g.across, .int .i64 g.width, .int .i64 g.z] 28), (w.heap.size + 1, Obj.cells #[.int .i64 t.len, .int .i64 t.grip, .int .i64 t.palm] 26), (w.heap.size, Obj.cells #[.int .i64 m.w, .int .i64 m.h, .slice ao m.pix.length cap] 24)] from At.ext hb3 hA.out)
        have E3 := Lib.hid (hE.out.trans hb3)
        obtain ⟨⟨y00, y01, y02, y03, y04⟩, -⟩ := run_5 (At.at A3.out 0 rfl)
        obtain ⟨⟨y10, y11, y12⟩, -⟩ := run_3 (At.at A3.out 1 rfl)
        obtain ⟨⟨y20, y21, y22⟩, -⟩ := run_3 (At.at A3.out 2 rfl)
        have yz0 := At.lt A3.out 0 rfl
        have yy0 := Nat.lt_succ_of_lt yz0
        have yx0 := Nat.lt_succ_of_lt yy0
        have yz1 := At.lt A3.out 1 rfl
        have yy1 := Nat.lt_succ_of_lt yz1
        have yx1 := Nat.lt_succ_of_lt yy1
        have yz2 := At.lt A3.out 2 rfl
        have yy2 := Nat.lt_succ_of_lt yz2
        have yx2 := Nat.lt_succ_of_lt yy2
        go_wp2
        go_ret
        exact ⟨false, rfl, ⟨fun h => (by cases h), fun h => absurd (h f hf1 hfl).1.1 (by rw [HH1.out]; omega)⟩, E3.out⟩
      have q1 : decide (g.z < h1) = false := decide_eq_false b1
      replace b1 : h1 ≤ g.z := by omega
      by_cases b2 : g.z < h2
      case pos =>
        go_wp2
        refine wp_region_quiet_below (by kernel_rfl) (by kernel_rfl) ?_
        repeat (go_big_quiet_step ((first | (go_at_call 112; with_reducible exact Calls.ext_of (K1.out _ (Ext.grow _ _ _))) | (go_at_call 112; with_reducible exact Calls.ext_of (K2.out _ (Ext.grow _ _ _))))))
        refine wpQuiet_nil ?_
        intro w3 hw'
        obtain ⟨pq, hw''⟩ := hw'
        have hb3 := ext_of_regrown hw''
        clear hw'' pq
        have A3 := Lib.hid (show At w3 [(w.heap.size + 1 + 1, Obj.cells #[.int .i64 g.x, .int .i64 g.y, .bool g.across, .int .i64 g.width, .int .i64 g.z] 28), (w.heap.size + 1, Obj.cells #[.int .i64 t.len, .int .i64 t.grip, .int .i64 t.palm] 26), (w.heap.size, Obj.cells #[.int .i64 m.w, .int .i64 m.h, .slice ao m.pix.length cap] 24)] from At.ext hb3 hA.out)
        have E3 := Lib.hid (hE.out.trans hb3)
        obtain ⟨⟨y00, y01, y02, y03, y04⟩, -⟩ := run_5 (At.at A3.out 0 rfl)
        obtain ⟨⟨y10, y11, y12⟩, -⟩ := run_3 (At.at A3.out 1 rfl)
        obtain ⟨⟨y20, y21, y22⟩, -⟩ := run_3 (At.at A3.out 2 rfl)
        have yz0 := At.lt A3.out 0 rfl
        have yy0 := Nat.lt_succ_of_lt yz0
        have yx0 := Nat.lt_succ_of_lt yy0
        have yz1 := At.lt A3.out 1 rfl
        have yy1 := Nat.lt_succ_of_lt yz1
        have yx1 := Nat.lt_succ_of_lt yy1
        have yz2 := At.lt A3.out 2 rfl
        have yy2 := Nat.lt_succ_of_lt yz2
        have yx2 := Nat.lt_succ_of_lt yy2
        go_wp2
        go_ret
        exact ⟨false, rfl, ⟨fun h => (by cases h), fun h => absurd (h f hf1 hfl).1.2 (by rw [HH2.out]; omega)⟩, E3.out⟩
      have q2 : decide (g.z < h2) = false := decide_eq_false b2
      replace b2 : h2 ≤ g.z := by omega
      go_wp2
      refine wp_region_quiet_below (by kernel_rfl) (by kernel_rfl) ?_
      repeat (go_big_quiet_step ((first | (go_at_call 112; with_reducible exact Calls.ext_of (K1.out _ (Ext.grow _ _ _))) | (go_at_call 112; with_reducible exact Calls.ext_of (K2.out _ (Ext.grow _ _ _))))))
      refine wpQuiet_nil ?_
      intro w3 hw'
      obtain ⟨pq, hw''⟩ := hw'
      have hb3 := ext_of_regrown hw''
      clear hw'' pq
      have A3 := Lib.hid (show At w3 [(w.heap.size + 1 + 1, Obj.cells #[.int .i64 g.x, .int .i64 g.y, .bool g.across, .int .i64 g.width, .int .i64 g.z] 28), (w.heap.size + 1, Obj.cells #[.int .i64 t.len, .int .i64 t.grip, .int .i64 t.palm] 26), (w.heap.size, Obj.cells #[.int .i64 m.w, .int .i64 m.h, .slice ao m.pix.length cap] 24)] from At.ext hb3 hA.out)
      have E3 := Lib.hid (hE.out.trans hb3)
      obtain ⟨⟨y00, y01, y02, y03, y04⟩, -⟩ := run_5 (At.at A3.out 0 rfl)
      obtain ⟨⟨y10, y11, y12⟩, -⟩ := run_3 (At.at A3.out 1 rfl)
      obtain ⟨⟨y20, y21, y22⟩, -⟩ := run_3 (At.at A3.out 2 rfl)
      have yz0 := At.lt A3.out 0 rfl
      have yy0 := Nat.lt_succ_of_lt yz0
      have yx0 := Nat.lt_succ_of_lt yy0
      have yz1 := At.lt A3.out 1 rfl
      have yy1 := Nat.lt_succ_of_lt yz1
      have yx1 := Nat.lt_succ_of_lt yy1
      have yz2 := At.lt A3.out 2 rfl
      have yy2 := Nat.lt_succ_of_lt yz2
      have yx2 := Nat.lt_succ_of_lt yy2
      go_wp2
      go_loopw [8, 9] (fun l i wr => ∃ o ln : Int, 0 ≤ o ∧ o ≤ g.width ∧ i = .int .i64 o ∧ l = .int .i64 ln ∧ 0 ≤ ln ∧ ln ≤ 255 ∧ Hid (Ext w wr) ∧ Hid (At wr [(w.heap.size + 1 + 1, Obj.cells #[.int .i64 g.x, .int .i64 g.y, .bool g.across, .int .i64 g.width, .int .i64 g.z] 28), (w.heap.size + 1, Obj.cells #[.int .i64 t.len, .int .i64 t.grip, .int .i64 t.palm] 26), (w.heap.size, Obj.cells #[.int .i64 m.w, .int .i64 m.h, .slice ao m.pix.length cap] 24)]) ∧ Hid (Most (fun k => m.vat g.across (g.vx + k) (g.vy + f)) o ln)) (fun _ i _ => (g.width - intOf i).toNat)
      case atStart => exact ⟨0, 0, by omega, by omega, rfl, rfl, by omega, by omega, E3, A3, Lib.hid (most_start _)⟩
      case round =>
        clear hE hA
        obtain ⟨o, ln, ho1, ho2, rfl, rfl, l1, l2, hE, hA, hL⟩ := hrel
        obtain ⟨⟨x00, x01, x02, x03, x04⟩, -⟩ := run_5 (At.at hA.out 0 rfl)
        obtain ⟨⟨x10, x11, x12⟩, -⟩ := run_3 (At.at hA.out 1 rfl)
        obtain ⟨⟨x20, x21, x22⟩, -⟩ := run_3 (At.at hA.out 2 rfl)
        have xz0 := At.lt hA.out 0 rfl
        have xy0 := Nat.lt_succ_of_lt xz0
        have xx0 := Nat.lt_succ_of_lt xy0
        have xz1 := At.lt hA.out 1 rfl
        have xy1 := Nat.lt_succ_of_lt xz1
        have xx1 := Nat.lt_succ_of_lt xy1
        have xz2 := At.lt hA.out 2 rfl
        have xy2 := Nat.lt_succ_of_lt xz2
        have xx2 := Nat.lt_succ_of_lt xy2
        by_cases how : o < g.width
        · have hin := HA.out.2.2 o (by omega) (by omega) f hf1 hfl
          have K := Lib.hid (fun w' (h : Ext w w') => c112 m _ g o f w' HM.out (HV.out.ext h) HG.out (by omega) (by omega) hin)
          unfold graspVal imgVal at K
          have hbd := Img.vat_bd HC.out hin
          obtain ⟨h, hh⟩ : ∃ h, m.vat g.across (g.vx + o) (g.vy + f) = h := ⟨_, rfl⟩
          rw [hh] at K hbd
          have HH := Lib.hid hh
          obtain ⟨hbd1, hbd2⟩ := hbd
          clear hin hh
          rcases Int.lt_or_le ln h with hm9 | hm9
          · go_wp2_with (go_at_call 112; (with_reducible refine (K.out _ hE.out).mono ?_); rintro E w4 ⟨rfl, hb4⟩; have A4 := Lib.hid (show At w4 [(w.heap.size + 1 + 1, Obj.cells #[.int .i64 g.x, .int .i64 g.y, .bool g.across, .int .i64 g.width, .int .i64 g.z] 28), (w.heap.size + 1, Obj.cells #[.int .i64 t.len, .int .i64 t.grip, .int .i64 t.palm] 26), (w.heap.size, Obj.cells #[.int .i64 m.w, .int .i64 m.h, .slice ao m.pix.length cap] 24)] from At.ext hb4 hA.out); have E4 := Lib.hid (hE.out.trans hb4); obtain ⟨⟨y00, y01, y02, y03, y04⟩, -⟩ := run_5 (At.at A4.out 0 rfl); obtain ⟨⟨y10, y11, y12⟩, -⟩ := run_3 (At.at A4.out 1 rfl); obtain ⟨⟨y20, y21, y22⟩, -⟩ := run_3 (At.at A4.out 2 rfl); have yz0 := At.lt A4.out 0 rfl; have yy0 := Nat.lt_succ_of_lt yz0; have yx0 := Nat.lt_succ_of_lt yy0; have yz1 := At.lt A4.out 1 rfl; have yy1 := Nat.lt_succ_of_lt yz1; have yx1 := Nat.lt_succ_of_lt yy1; have yz2 := At.lt A4.out 2 rfl; have yy2 := Nat.lt_succ_of_lt yz2; have yx2 := Nat.lt_succ_of_lt yy2)
            go_roundw
            case rel => exact ⟨o + 1, h, by omega, by omega, rfl, rfl, by omega, by omega, E4, A4, Lib.hid (by have := most_step o (by omega) hL.out; rw [HH.out, Int.max_eq_right (Int.le_of_lt hm9)] at this; exact this)⟩
            case measure => simp [intOf]; omega
          · go_wp2_with (go_at_call 112; (with_reducible refine (K.out _ hE.out).mono ?_); rintro E w4 ⟨rfl, hb4⟩; have A4 := Lib.hid (show At w4 [(w.heap.size + 1 + 1, Obj.cells #[.int .i64 g.x, .int .i64 g.y, .bool g.across, .int .i64 g.width, .int .i64 g.z] 28), (w.heap.size + 1, Obj.cells #[.int .i64 t.len, .int .i64 t.grip, .int .i64 t.palm] 26), (w.heap.size, Obj.cells #[.int .i64 m.w, .int .i64 m.h, .slice ao m.pix.length cap] 24)] from At.ext hb4 hA.out); have E4 := Lib.hid (hE.out.trans hb4); obtain ⟨⟨y00, y01, y02, y03, y04⟩, -⟩ := run_5 (At.at A4.out 0 rfl); obtain ⟨⟨y10, y11, y12⟩, -⟩ := run_3 (At.at A4.out 1 rfl); obtain ⟨⟨y20, y21, y22⟩, -⟩ := run_3 (At.at A4.out 2 rfl); have yz0 := At.lt A4.out 0 rfl; have yy0 := Nat.lt_succ_of_lt yz0; have yx0 := Nat.lt_succ_of_lt yy0; have yz1 := At.lt A4.out 1 rfl; have yy1 := Nat.lt_succ_of_lt yz1; have yx1 := Nat.lt_succ_of_lt yy1; have yz2 := At.lt A4.out 2 rfl; have yy2 := Nat.lt_succ_of_lt yz2; have yx2 := Nat.lt_succ_of_lt yy2)
            go_roundw
            case rel => exact ⟨o + 1, ln, by omega, by omega, rfl, rfl, by omega, by omega, E4, A4, Lib.hid (by have := most_step o (by omega) hL.out; rw [HH.out, Int.max_eq_left hm9] at this; exact this)⟩
            case measure => simp [intOf]; omega
        · have hoo : o = g.width := by omega
          have HL := Lib.hid (show Most (fun k => m.vat g.across (g.vx + k) (g.vy + f)) g.width ln from hoo ▸ hL.out)
          clear hoo
          by_cases c1 : ln < g.z + t.grip
          · have HN := Lib.hid (show ¬ m.held t g from fun h9 => by
              obtain ⟨-, -, k, k1, k2, k3⟩ := h9 f hf1 hfl
              have := ((HL.out ln).1 (Int.le_refl _)).2 k k1 k2
              dsimp only at this
              omega)
            go_wp2
            go_ret
            exact ⟨false, rfl, ⟨fun h => (by cases h), fun h => absurd h HN.out⟩, hE.out⟩
          · by_cases c2 : g.z + t.palm < ln
            · have HN := Lib.hid (show ¬ m.held t g from fun h9 => by
                obtain ⟨-, k, -⟩ := h9 f hf1 hfl
                have := (HL.out (g.z + t.palm)).2 ⟨by omega, k⟩
                omega)
              go_wp2
              go_ret
              exact ⟨false, rfl, ⟨fun h => (by cases h), fun h => absurd h HN.out⟩, hE.out⟩
            · have HN := Lib.hid (show ∀ k, 0 ≤ k → k < f + 1 → m.heldRow t g k from fun k k1 k2 => by
                rcases Int.lt_or_le k f with h9 | h9
                · exact hR.out k k1 h9
                · have : k = f := by omega
                  rw [this]
                  refine ⟨⟨by rw [HH1.out]; exact b1, by rw [HH2.out]; exact b2⟩, ((HL.out (g.z + t.palm)).1 (by omega)).2, ?_⟩
                  refine Classical.byContradiction fun hn => ?_
                  have := (HL.out (g.z + t.grip - 1)).2 ⟨by omega, fun k k1 k2 => by
                    refine Classical.byContradiction fun h9 => hn ⟨k, k1, k2, by dsimp only at h9; omega⟩⟩
                  omega)
              go_wp2
              go_roundw
              case rel => exact ⟨f + 1, by omega, by omega, rfl, hE, hA, HN⟩
              case measure => simp [intOf]; omega
    · have hff : f = t.len := by omega
      have HN := Lib.hid (show m.held t g from fun k k1 k2 => hR.out k k1 (by omega))
      clear hff
      go_wp2
      go_ret
      exact ⟨true, rfl, ⟨fun _ => HN.out, fun _ => rfl⟩, hE.out⟩
end Go.Proofs.Ytipkjdfnoonpcaa

/- Grasps that hold with a slack: the reference's walks. -/
namespace Go.Proofs.Ytipkjdfnoonpcaa
open Go.RowKit Go.Sort

set_option maxRecDepth 100000 in
set_option maxHeartbeats 8000000 in
theorem c54 (m : Img) (v : Value) (t : Tool) (g : Grasp) (slack : Int) (w : World) (hm : m.Camera) (ht : t.Ok) (hv : IntsAt w v m.pix) (hg : g.near) (hs : 0 ≤ slack ∧ slack ≤ 2) :
    Calls Try.prog 54 #[imgVal m v, toolVal t, graspVal g, .int .i64 slack] w (BoolIs (m.Held t g slack) w) := by
  have HV := Lib.hid hv
  obtain ⟨ao, cap, rfl, -, -⟩ := hv.form
  have HC := Lib.hid hm
  have HT := Lib.hid ht
  obtain ⟨⟨g1, g2⟩, g3, g4⟩ := hg
  obtain ⟨s1, s2⟩ := hs
  have HS := fun (dx dy : Int) (h1 : -2 ≤ dx ∧ dx ≤ 2) (h2 : -2 ≤ dy ∧ dy ≤ 2) => (show Small ⟨g.x + dx, g.y + dy, g.across, g.width, g.z⟩ from ⟨⟨by show -1010 ≤ g.x + dx; omega, by show g.x + dx ≤ 1010; omega⟩, by show -1010 ≤ g.y + dy; omega, by show g.y + dy ≤ 1010; omega⟩)
  unfold imgVal toolVal graspVal
  clear hv hm ht
  go_enter Try.func54, Try.ntmps54
  go_wp2
  go_loopw [9] (fun i wr => ∃ dy : Int, -slack ≤ dy ∧ dy ≤ slack + 1 ∧ i = .int .i64 dy ∧ Hid (Ext w wr) ∧ Hid (At wr [(w.heap.size + 1 + 1, Obj.cells #[.int .i64 g.x, .int .i64 g.y, .bool g.across, .int .i64 g.width, .int .i64 g.z] 28), (w.heap.size + 1, Obj.cells #[.int .i64 t.len, .int .i64 t.grip, .int .i64 t.palm] 26), (w.heap.size, Obj.cells #[.int .i64 m.w, .int .i64 m.h, .slice ao m.pix.length cap] 24)]) ∧ Hid (∀ e, -slack ≤ e → e < dy → ∀ d, -slack ≤ d → d ≤ slack → m.Allowed t (g.at d e) ∧ m.held t (g.at d e))) (fun i _ => (slack + 1 - intOf i).toNat)
  case atStart => exact ⟨-slack, by omega, by omega, rfl, Lib.hid (by repeat (first | exact Ext.refl _ | assumption | refine Ext.alloc ?_ _ | refine Ext.drewN ?_ _ | refine ext_grow ?_ _ _ | refine Ext.trans ?_ (by assumption))), Lib.hid ⟨(by repeat (first | (refine blk_at _ _ ?_; (first | rfl | (simp only [size_one]; done))) | refine (blk_past _ _ (by simp only [size_one]; omega)).trans ?_)), (by repeat (first | (refine blk_at _ _ ?_; (first | rfl | (simp only [size_one]; done))) | refine (blk_past _ _ (by simp only [size_one]; omega)).trans ?_)), (by repeat (first | (refine blk_at _ _ ?_; (first | rfl | (simp only [size_one]; done))) | refine (blk_past _ _ (by simp only [size_one]; omega)).trans ?_)), trivial⟩, Lib.hid (fun k k1 k2 => by omega)⟩
  case round =>
    obtain ⟨dy, hd1, hd2, rfl, hE, hA, hR⟩ := hrel
    obtain ⟨⟨x00, x01, x02, x03, x04⟩, -⟩ := run_5 (At.at hA.out 0 rfl)
    obtain ⟨⟨x10, x11, x12⟩, -⟩ := run_3 (At.at hA.out 1 rfl)
    obtain ⟨⟨x20, x21, x22⟩, -⟩ := run_3 (At.at hA.out 2 rfl)
    have xz0 := At.lt hA.out 0 rfl
    have xy0 := Nat.lt_succ_of_lt xz0
    have xx0 := Nat.lt_succ_of_lt xy0
    have xz1 := At.lt hA.out 1 rfl
    have xy1 := Nat.lt_succ_of_lt xz1
    have xx1 := Nat.lt_succ_of_lt xy1
    have xz2 := At.lt hA.out 2 rfl
    have xy2 := Nat.lt_succ_of_lt xz2
    have xx2 := Nat.lt_succ_of_lt xy2
    by_cases hd9 : dy ≤ slack
    · go_wp2
      clear x00 x01 x02 x03 x04 x10 x11 x12 x20 x21 x22 xz0 xy0 xx0 xz1 xy1 xx1 xz2 xy2 xx2
      obtain ⟨wo, hwo⟩ : ∃ wo : World, wo = wr := ⟨_, rfl⟩
      subst hwo
      go_loopw [10] (fun i wr => ∃ dx : Int, -slack ≤ dx ∧ dx ≤ slack + 1 ∧ i = .int .i64 dx ∧ Hid (Ext w wr) ∧ Hid (At wr [(w.heap.size + 1 + 1, Obj.cells #[.int .i64 g.x, .int .i64 g.y, .bool g.across, .int .i64 g.width, .int .i64 g.z] 28), (w.heap.size + 1, Obj.cells #[.int .i64 t.len, .int .i64 t.grip, .int .i64 t.palm] 26), (w.heap.size, Obj.cells #[.int .i64 m.w, .int .i64 m.h, .slice ao m.pix.length cap] 24)]) ∧ Hid (∀ d, -slack ≤ d → d < dx → m.Allowed t (g.at d dy) ∧ m.held t (g.at d dy))) (fun i _ => (slack + 1 - intOf i).toNat)
      case atStart => exact ⟨-slack, by omega, by omega, rfl, hE, hA, Lib.hid (fun k k1 k2 => by omega)⟩
      case round =>
        clear hE hA
        obtain ⟨dx, hx1, hx2, rfl, hE, hA, hI⟩ := hrel
        obtain ⟨⟨x00, x01, x02, x03, x04⟩, -⟩ := run_5 (At.at hA.out 0 rfl)
        obtain ⟨⟨x10, x11, x12⟩, -⟩ := run_3 (At.at hA.out 1 rfl)
        obtain ⟨⟨x20, x21, x22⟩, -⟩ := run_3 (At.at hA.out 2 rfl)
        have xz0 := At.lt hA.out 0 rfl
        have xy0 := Nat.lt_succ_of_lt xz0
        have xx0 := Nat.lt_succ_of_lt xy0
        have xz1 := At.lt hA.out 1 rfl
        have xy1 := Nat.lt_succ_of_lt xz1
        have xx1 := Nat.lt_succ_of_lt xy1
        have xz2 := At.lt hA.out 2 rfl
        have xy2 := Nat.lt_succ_of_lt xz2
        have xx2 := Nat.lt_succ_of_lt xy2
        by_cases hxs : dx ≤ slack
        · have K0 := Lib.hid (fun w' (h : Ext wr w') => c92 m _ t ⟨g.x + dx, g.y + dy, g.across, g.width, g.z⟩ w' HC.out.1 HT.out (HV.out.ext (hE.out.trans h)) (HS dx dy (by omega) (by omega)))
          by_cases hal : m.Allowed t ⟨g.x + dx, g.y + dy, g.across, g.width, g.z⟩
          case neg =>
            have KA := Lib.hid (fun w' (h : Ext wr w') => (K0.out w' h).mono fun _ _ h9 => BoolIs.no hal h9)
            have HAl := Lib.hid hal
            unfold imgVal toolVal graspVal at KA
            dsimp only at KA
            clear hal K0
            go_wp2_with (go_at_call 92; (with_reducible refine (KA.out _ ((Ext.refl _).alloc _)).mono ?_); rintro E w1 ⟨rfl, hb1⟩; have A1 := Lib.hid (show At w1 ((wr.heap.size, Obj.cells #[.int .i64 (g.x + dx), .int .i64 (g.y + dy), .bool g.across, .int .i64 g.width, .int .i64 g.z] 28) :: [(w.heap.size + 1 + 1, Obj.cells #[.int .i64 g.x, .int .i64 g.y, .bool g.across, .int .i64 g.width, .int .i64 g.z] 28), (w.heap.size + 1, Obj.cells #[.int .i64 t.len, .int .i64 t.grip, .int .i64 t.palm] 26), (w.heap.size, Obj.cells #[.int .i64 m.w, .int .i64 m.h, .slice ao m.pix.length cap] 24)]) from At.ext hb1 ⟨blk_at _ _ rfl, At.alloc hA.out _⟩); have R1 := Lib.hid (((Ext.refl wr).alloc (Obj.cells #[.int .i64 (g.x + dx), .int .i64 (g.y + dy), .bool g.across, .int .i64 g.width, .int .i64 g.z] 28)).trans hb1); have E1 := Lib.hid (hE.out.trans R1.out); obtain ⟨⟨y00, y01, y02, y03, y04⟩, -⟩ := run_5 (At.at A1.out 0 rfl); obtain ⟨⟨y10, y11, y12, y13, y14⟩, -⟩ := run_5 (At.at A1.out 1 rfl); obtain ⟨⟨y20, y21, y22⟩, -⟩ := run_3 (At.at A1.out 2 rfl); obtain ⟨⟨y30, y31, y32⟩, -⟩ := run_3 (At.at A1.out 3 rfl); have yz0 := At.lt A1.out 0 rfl; have yy0 := Nat.lt_succ_of_lt yz0; have yx0 := Nat.lt_succ_of_lt yy0; have yz1 := At.lt A1.out 1 rfl; have yy1 := Nat.lt_succ_of_lt yz1; have yx1 := Nat.lt_succ_of_lt yy1; have yz2 := At.lt A1.out 2 rfl; have yy2 := Nat.lt_succ_of_lt yz2; have yx2 := Nat.lt_succ_of_lt yy2; have yz3 := At.lt A1.out 3 rfl; have yy3 := Nat.lt_succ_of_lt yz3; have yx3 := Nat.lt_succ_of_lt yy3)
            go_ret
            exact ⟨false, rfl, ⟨fun h => (by cases h), fun h => absurd (h dy hd1 hd9 dx hx1 hxs) (fun h9 => HAl.out h9.1)⟩, E1.out⟩
          have KA := Lib.hid (fun w' (h : Ext wr w') => (K0.out w' h).mono fun _ _ h9 => BoolIs.yes hal h9)
          have HAl := Lib.hid hal
          have K1 := Lib.hid (fun w' (h : Ext wr w') => c93 m _ t ⟨g.x + dx, g.y + dy, g.across, g.width, g.z⟩ w' HC.out HT.out (HV.out.ext (hE.out.trans h)) (HS dx dy (by omega) (by omega)) hal)
          clear hal K0
          by_cases hhe : m.held t ⟨g.x + dx, g.y + dy, g.across, g.width, g.z⟩
          case neg =>
            have KH := Lib.hid (fun w' (h : Ext wr w') => (K1.out w' h).mono fun _ _ h9 => BoolIs.no hhe h9)
            have HHe := Lib.hid hhe
            unfold imgVal toolVal graspVal at KA KH
            dsimp only at KA KH
            clear hhe K1
            go_wp2_with (first | (have _q := E1; go_at_call 93; (with_reducible refine (KH.out _ R1.out).mono ?_); rintro E w2 ⟨rfl, hb2⟩; have A2 := Lib.hid (show At w2 ((wr.heap.size, Obj.cells #[.int .i64 (g.x + dx), .int .i64 (g.y + dy), .bool g.across, .int .i64 g.width, .int .i64 g.z] 28) :: [(w.heap.size + 1 + 1, Obj.cells #[.int .i64 g.x, .int .i64 g.y, .bool g.across, .int .i64 g.width, .int .i64 g.z] 28), (w.heap.size + 1, Obj.cells #[.int .i64 t.len, .int .i64 t.grip, .int .i64 t.palm] 26), (w.heap.size, Obj.cells #[.int .i64 m.w, .int .i64 m.h, .slice ao m.pix.length cap] 24)]) from At.ext hb2 A1.out); have E2 := Lib.hid (E1.out.trans hb2)) | (go_at_call 92; (with_reducible refine (KA.out _ ((Ext.refl _).alloc _)).mono ?_); rintro E w1 ⟨rfl, hb1⟩; have A1 := Lib.hid (show At w1 ((wr.heap.size, Obj.cells #[.int .i64 (g.x + dx), .int .i64 (g.y + dy), .bool g.across, .int .i64 g.width, .int .i64 g.z] 28) :: [(w.heap.size + 1 + 1, Obj.cells #[.int .i64 g.x, .int .i64 g.y, .bool g.across, .int .i64 g.width, .int .i64 g.z] 28), (w.heap.size + 1, Obj.cells #[.int .i64 t.len, .int .i64 t.grip, .int .i64 t.palm] 26), (w.heap.size, Obj.cells #[.int .i64 m.w, .int .i64 m.h, .slice ao m.pix.length cap] 24)]) from At.ext hb1 ⟨blk_at _ _ rfl, At.alloc hA.out _⟩); have R1 := Lib.hid (((Ext.refl wr).alloc (Obj.cells #[.int .i64 (g.x + dx), .int .i64 (g.y + dy), .bool g.across, .int .i64 g.width, .int .i64 g.z] 28)).trans hb1); have E1 := Lib.hid (hE.out.trans R1.out); obtain ⟨⟨y00, y01, y02, y03, y04⟩, -⟩ := run_5 (At.at A1.out 0 rfl); obtain ⟨⟨y10, y11, y12, y13, y14⟩, -⟩ := run_5 (At.at A1.out 1 rfl); obtain ⟨⟨y20, y21, y22⟩, -⟩ := run_3 (At.at A1.out 2 rfl); obtain ⟨⟨y30, y31, y32⟩, -⟩ := run_3 (At.at A1.out 3 rfl); have yz0 := At.lt A1.out 0 rfl; have yy0 := Nat.lt_succ_of_lt yz0; have yx0 := Nat.lt_succ_of_lt yy0; have yz1 := At.lt A1.out 1 rfl; have yy1 := Nat.lt_succ_of_lt yz1; have yx1 := Nat.lt_succ_of_lt yy1; have yz2 := At.lt A1.out 2 rfl; have yy2 := Nat.lt_succ_of_lt yz2; have yx2 := Nat.lt_succ_of_lt yy2; have yz3 := At.lt A1.out 3 rfl; have yy3 := Nat.lt_succ_of_lt yz3; have yx3 := Nat.lt_succ_of_lt yy3))
            go_ret
            exact ⟨false, rfl, ⟨fun h => (by cases h), fun h => absurd (h dy hd1 hd9 dx hx1 hxs) (fun h9 => HHe.out h9.2)⟩, E2.out⟩
          have KH := Lib.hid (fun w' (h : Ext wr w') => (K1.out w' h).mono fun _ _ h9 => BoolIs.yes hhe h9)
          have HHe := Lib.hid hhe
          unfold imgVal toolVal graspVal at KA KH
          dsimp only at KA KH
          clear hhe K1
          go_wp2_with (first | (have _q := E1; go_at_call 93; (with_reducible refine (KH.out _ R1.out).mono ?_); rintro E w2 ⟨rfl, hb2⟩; have A2 := Lib.hid (show At w2 ((wr.heap.size, Obj.cells #[.int .i64 (g.x + dx), .int .i64 (g.y + dy), .bool g.across, .int .i64 g.width, .int .i64 g.z] 28) :: [(w.heap.size + 1 + 1, Obj.cells #[.int .i64 g.x, .int .i64 g.y, .bool g.across, .int .i64 g.width, .int .i64 g.z] 28), (w.heap.size + 1, Obj.cells #[.int .i64 t.len, .int .i64 t.grip, .int .i64 t.palm] 26), (w.heap.size, Obj.cells #[.int .i64 m.w, .int .i64 m.h, .slice ao m.pix.length cap] 24)]) from At.ext hb2 A1.out); have E2 := Lib.hid (E1.out.trans hb2)) | (go_at_call 92; (with_reducible refine (KA.out _ ((Ext.refl _).alloc _)).mono ?_); rintro E w1 ⟨rfl, hb1⟩; have A1 := Lib.hid (show At w1 ((wr.heap.size, Obj.cells #[.int .i64 (g.x + dx), .int .i64 (g.y + dy), .bool g.across, .int .i64 g.width, .int .i64 g.z] 28) :: [(w.heap.size + 1 + 1, Obj.cells #[.int .i64 g.x, .int .i64 g.y, .bool g.across, .int .i64 g.width, .int .i64 g.z] 28), (w.heap.size + 1, Obj.cells #[.int .i64 t.len, .int .i64 t.grip, .int .i64 t.palm] 26), (w.heap.size, Obj.cells #[.int .i64 m.w, .int .i64 m.h, .slice ao m.pix.length cap] 24)]) from At.ext hb1 ⟨blk_at _ _ rfl, At.alloc hA.out _⟩); have R1 := Lib.hid (((Ext.refl wr).alloc (Obj.cells #[.int .i64 (g.x + dx), .int .i64 (g.y + dy), .bool g.across, .int .i64 g.width, .int .i64 g.z] 28)).trans hb1); have E1 := Lib.hid (hE.out.trans R1.out); obtain ⟨⟨y00, y01, y02, y03, y04⟩, -⟩ := run_5 (At.at A1.out 0 rfl); obtain ⟨⟨y10, y11, y12, y13, y14⟩, -⟩ := run_5 (At.at A1.out 1 rfl); obtain ⟨⟨y20, y21, y22⟩, -⟩ := run_3 (At.at A1.out 2 rfl); obtain ⟨⟨y30, y31, y32⟩, -⟩ := run_3 (At.at A1.out 3 rfl); have yz0 := At.lt A1.out 0 rfl; have yy0 := Nat.lt_succ_of_lt yz0; have yx0 := Nat.lt_succ_of_lt yy0; have yz1 := At.lt A1.out 1 rfl; have yy1 := Nat.lt_succ_of_lt yz1; have yx1 := Nat.lt_succ_of_lt yy1; have yz2 := At.lt A1.out 2 rfl; have yy2 := Nat.lt_succ_of_lt yz2; have yx2 := Nat.lt_succ_of_lt yy2; have yz3 := At.lt A1.out 3 rfl; have yy3 := Nat.lt_succ_of_lt yz3; have yx3 := Nat.lt_succ_of_lt yy3))
          go_roundw
          case rel => exact ⟨dx + 1, by omega, by omega, rfl, E2, Lib.hid (At.erase A2.out 0), Lib.hid (fun k k1 k2 => by
            rcases Int.lt_or_le k dx with h9 | h9
            · exact hI.out k k1 h9
            · have : k = dx := by omega
              rw [this]; exact ⟨HAl.out, HHe.out⟩)⟩
          case measure => simp [intOf]; omega
        · have hxx : dx = slack + 1 := by omega
          have HN := Lib.hid (show ∀ e, -slack ≤ e → e < dy + 1 → ∀ d, -slack ≤ d → d ≤ slack → m.Allowed t (g.at d e) ∧ m.held t (g.at d e) from fun e e1 e2 d d1 d2 => by
            rcases Int.lt_or_le e dy with h9 | h9
            · exact hR.out e e1 h9 d d1 d2
            · have : e = dy := by omega
              rw [this]; exact hI.out d d1 (by omega))
          clear hxx
          go_wp2
          go_roundw
          case rel => exact ⟨dy + 1, by omega, by omega, rfl, hE, hA, HN⟩
          case measure => simp [intOf]; omega
    · have hdd : dy = slack + 1 := by omega
      have HN := Lib.hid (show m.Held t g slack from fun e e1 e2 d d1 d2 => hR.out e e1 (by omega) d d1 d2)
      clear hdd
      go_wp2
      go_ret
      exact ⟨true, rfl, ⟨fun _ => HN.out, fun _ => rfl⟩, hE.out⟩
set_option maxRecDepth 100000 in
set_option maxHeartbeats 8000000 in
theorem c55 (m : Img) (v : Value) (t : Tool) (g : Grasp) (slack : Int) (w : World) (hm : m.Camera) (ht : t.Ok) (hv : IntsAt w v m.pix) (hg : g.near) (hs : 0 ≤ slack ∧ slack ≤ 2) :
    Calls Try.prog 55 #[imgVal m v, toolVal t, graspVal g, .int .i64 slack] w (BoolIs (m.Around t g slack) w) := by
  have HV := Lib.hid hv
  obtain ⟨ao, cap, rfl, -, -⟩ := hv.form
  have HC := Lib.hid hm
  have HT := Lib.hid ht
  obtain ⟨⟨g1, g2⟩, g3, g4⟩ := hg
  obtain ⟨s1, s2⟩ := hs
  have HS := fun (dx dy : Int) (h1 : -2 ≤ dx ∧ dx ≤ 2) (h2 : -2 ≤ dy ∧ dy ≤ 2) => (show Small ⟨g.x + dx, g.y + dy, g.across, g.width, g.z⟩ from ⟨⟨by show -1010 ≤ g.x + dx; omega, by show g.x + dx ≤ 1010; omega⟩, by show -1010 ≤ g.y + dy; omega, by show g.y + dy ≤ 1010; omega⟩)
  unfold imgVal toolVal graspVal
  clear hv hm ht
  go_enter Try.func55, Try.ntmps55
  go_wp2
  go_loopw [9] (fun i wr => ∃ dy : Int, -slack ≤ dy ∧ dy ≤ slack + 1 ∧ i = .int .i64 dy ∧ Hid (Ext w wr) ∧ Hid (At wr [(w.heap.size + 1 + 1, Obj.cells #[.int .i64 g.x, .int .i64 g.y, .bool g.across, .int .i64 g.width, .int .i64 g.z] 28), (w.heap.size + 1, Obj.cells #[.int .i64 t.len, .int .i64 t.grip, .int .i64 t.palm] 26), (w.heap.size, Obj.cells #[.int .i64 m.w, .int .i64 m.h, .slice ao m.pix.length cap] 24)]) ∧ Hid (∀ e, -slack ≤ e → e < dy → ∀ d, -slack ≤ d → d ≤ slack → m.Allowed t (g.at d e))) (fun i _ => (slack + 1 - intOf i).toNat)
  case atStart => exact ⟨-slack, by omega, by omega, rfl, Lib.hid (by repeat (first | exact Ext.refl _ | assumption | refine Ext.alloc ?_ _ | refine Ext.drewN ?_ _ | refine ext_grow ?_ _ _ | refine Ext.trans ?_ (by assumption))), Lib.hid ⟨(by repeat (first | (refine blk_at _ _ ?_; (first | rfl | (simp only [size_one]; done))) | refine (blk_past _ _ (by simp only [size_one]; omega)).trans ?_)), (by repeat (first | (refine blk_at _ _ ?_; (first | rfl | (simp only [size_one]; done))) | refine (blk_past _ _ (by simp only [size_one]; omega)).trans ?_)), (by repeat (first | (refine blk_at _ _ ?_; (first | rfl | (simp only [size_one]; done))) | refine (blk_past _ _ (by simp only [size_one]; omega)).trans ?_)), trivial⟩, Lib.hid (fun k k1 k2 => by omega)⟩
  case round =>
    obtain ⟨dy, hd1, hd2, rfl, hE, hA, hR⟩ := hrel
    obtain ⟨⟨x00, x01, x02, x03, x04⟩, -⟩ := run_5 (At.at hA.out 0 rfl)
    obtain ⟨⟨x10, x11, x12⟩, -⟩ := run_3 (At.at hA.out 1 rfl)
    obtain ⟨⟨x20, x21, x22⟩, -⟩ := run_3 (At.at hA.out 2 rfl)
    have xz0 := At.lt hA.out 0 rfl
    have xy0 := Nat.lt_succ_of_lt xz0
    have xx0 := Nat.lt_succ_of_lt xy0
    have xz1 := At.lt hA.out 1 rfl
    have xy1 := Nat.lt_succ_of_lt xz1
    have xx1 := Nat.lt_succ_of_lt xy1
    have xz2 := At.lt hA.out 2 rfl
    have xy2 := Nat.lt_succ_of_lt xz2
    have xx2 := Nat.lt_succ_of_lt xy2
    by_cases hd9 : dy ≤ slack
    · go_wp2
      clear x00 x01 x02 x03 x04 x10 x11 x12 x20 x21 x22 xz0 xy0 xx0 xz1 xy1 xx1 xz2 xy2 xx2
      obtain ⟨wo, hwo⟩ : ∃ wo : World, wo = wr := ⟨_, rfl⟩
      subst hwo
      go_loopw [10] (fun i wr => ∃ dx : Int, -slack ≤ dx ∧ dx ≤ slack + 1 ∧ i = .int .i64 dx ∧ Hid (Ext w wr) ∧ Hid (At wr [(w.heap.size + 1 + 1, Obj.cells #[.int .i64 g.x, .int .i64 g.y, .bool g.across, .int .i64 g.width, .int .i64 g.z] 28), (w.heap.size + 1, Obj.cells #[.int .i64 t.len, .int .i64 t.grip, .int .i64 t.palm] 26), (w.heap.size, Obj.cells #[.int .i64 m.w, .int .i64 m.h, .slice ao m.pix.length cap] 24)]) ∧ Hid (∀ d, -slack ≤ d → d < dx → m.Allowed t (g.at d dy))) (fun i _ => (slack + 1 - intOf i).toNat)
      case atStart => exact ⟨-slack, by omega, by omega, rfl, hE, hA, Lib.hid (fun k k1 k2 => by omega)⟩
      case round =>
        clear hE hA
        obtain ⟨dx, hx1, hx2, rfl, hE, hA, hI⟩ := hrel
        obtain ⟨⟨x00, x01, x02, x03, x04⟩, -⟩ := run_5 (At.at hA.out 0 rfl)
        obtain ⟨⟨x10, x11, x12⟩, -⟩ := run_3 (At.at hA.out 1 rfl)
        obtain ⟨⟨x20, x21, x22⟩, -⟩ := run_3 (At.at hA.out 2 rfl)
        have xz0 := At.lt hA.out 0 rfl
        have xy0 := Nat.lt_succ_of_lt xz0
        have xx0 := Nat.lt_succ_of_lt xy0
        have xz1 := At.lt hA.out 1 rfl
        have xy1 := Nat.lt_succ_of_lt xz1
        have xx1 := Nat.lt_succ_of_lt xy1
        have xz2 := At.lt hA.out 2 rfl
        have xy2 := Nat.lt_succ_of_lt xz2
        have xx2 := Nat.lt_succ_of_lt xy2
        by_cases hxs : dx ≤ slack
        · have K0 := Lib.hid (fun w' (h : Ext wr w') => c92 m _ t ⟨g.x + dx, g.y + dy, g.across, g.width, g.z⟩ w' HC.out.1 HT.out (HV.out.ext (hE.out.trans h)) (HS dx dy (by omega) (by omega)))
          by_cases hal : m.Allowed t ⟨g.x + dx, g.y + dy, g.across, g.width, g.z⟩
          case neg =>
            have KA := Lib.hid (fun w' (h : Ext wr w') => (K0.out w' h).mono fun _ _ h9 => BoolIs.no hal h9)
            have HAl := Lib.hid hal
            unfold imgVal toolVal graspVal at KA
            dsimp only at KA
            clear hal K0
            go_wp2_with (go_at_call 92; (with_reducible refine (KA.out _ ((Ext.refl _).alloc _)).mono ?_); rintro E w1 ⟨rfl, hb1⟩; have A1 := Lib.hid (show At w1 ((wr.heap.size, Obj.cells #[.int .i64 (g.x + dx), .int .i64 (g.y + dy), .bool g.across, .int .i64 g.width, .int .i64 g.z] 28) :: [(w.heap.size + 1 + 1, Obj.cells #[.int .i64 g.x, .int .i64 g.y, .bool g.across, .int .i64 g.width, .int .i64 g.z] 28), (w.heap.size + 1, Obj.cells #[.int .i64 t.len, .int .i64 t.grip, .int .i64 t.palm] 26), (w.heap.size, Obj.cells #[.int .i64 m.w, .int .i64 m.h, .slice ao m.pix.length cap] 24)]) from At.ext hb1 ⟨blk_at _ _ rfl, At.alloc hA.out _⟩); have R1 := Lib.hid (((Ext.refl wr).alloc (Obj.cells #[.int .i64 (g.x + dx), .int .i64 (g.y + dy), .bool g.across, .int .i64 g.width, .int .i64 g.z] 28)).trans hb1); have E1 := Lib.hid (hE.out.trans R1.out); obtain ⟨⟨y00, y01, y02, y03, y04⟩, -⟩ := run_5 (At.at A1.out 0 rfl); obtain ⟨⟨y10, y11, y12, y13, y14⟩, -⟩ := run_5 (At.at A1.out 1 rfl); obtain ⟨⟨y20, y21, y22⟩, -⟩ := run_3 (At.at A1.out 2 rfl); obtain ⟨⟨y30, y31, y32⟩, -⟩ := run_3 (At.at A1.out 3 rfl); have yz0 := At.lt A1.out 0 rfl; have yy0 := Nat.lt_succ_of_lt yz0; have yx0 := Nat.lt_succ_of_lt yy0; have yz1 := At.lt A1.out 1 rfl; have yy1 := Nat.lt_succ_of_lt yz1; have yx1 := Nat.lt_succ_of_lt yy1; have yz2 := At.lt A1.out 2 rfl; have yy2 := Nat.lt_succ_of_lt yz2; have yx2 := Nat.lt_succ_of_lt yy2; have yz3 := At.lt A1.out 3 rfl; have yy3 := Nat.lt_succ_of_lt yz3; have yx3 := Nat.lt_succ_of_lt yy3)
            go_ret
            exact ⟨false, rfl, ⟨fun h => (by cases h), fun h => absurd (h dy hd1 hd9 dx hx1 hxs) (fun h9 => HAl.out h9)⟩, E1.out⟩
          have KA := Lib.hid (fun w' (h : Ext wr w') => (K0.out w' h).mono fun _ _ h9 => BoolIs.yes hal h9)
          have HAl := Lib.hid hal
          unfold imgVal toolVal graspVal at KA
          dsimp only at KA
          clear hal K0
          go_wp2_with (go_at_call 92; (with_reducible refine (KA.out _ ((Ext.refl _).alloc _)).mono ?_); rintro E w1 ⟨rfl, hb1⟩; have A1 := Lib.hid (show At w1 ((wr.heap.size, Obj.cells #[.int .i64 (g.x + dx), .int .i64 (g.y + dy), .bool g.across, .int .i64 g.width, .int .i64 g.z] 28) :: [(w.heap.size + 1 + 1, Obj.cells #[.int .i64 g.x, .int .i64 g.y, .bool g.across, .int .i64 g.width, .int .i64 g.z] 28), (w.heap.size + 1, Obj.cells #[.int .i64 t.len, .int .i64 t.grip, .int .i64 t.palm] 26), (w.heap.size, Obj.cells #[.int .i64 m.w, .int .i64 m.h, .slice ao m.pix.length cap] 24)]) from At.ext hb1 ⟨blk_at _ _ rfl, At.alloc hA.out _⟩); have R1 := Lib.hid (((Ext.refl wr).alloc (Obj.cells #[.int .i64 (g.x + dx), .int .i64 (g.y + dy), .bool g.across, .int .i64 g.width, .int .i64 g.z] 28)).trans hb1); have E1 := Lib.hid (hE.out.trans R1.out); obtain ⟨⟨y00, y01, y02, y03, y04⟩, -⟩ := run_5 (At.at A1.out 0 rfl); obtain ⟨⟨y10, y11, y12, y13, y14⟩, -⟩ := run_5 (At.at A1.out 1 rfl); obtain ⟨⟨y20, y21, y22⟩, -⟩ := run_3 (At.at A1.out 2 rfl); obtain ⟨⟨y30, y31, y32⟩, -⟩ := run_3 (At.at A1.out 3 rfl); have yz0 := At.lt A1.out 0 rfl; have yy0 := Nat.lt_succ_of_lt yz0; have yx0 := Nat.lt_succ_of_lt yy0; have yz1 := At.lt A1.out 1 rfl; have yy1 := Nat.lt_succ_of_lt yz1; have yx1 := Nat.lt_succ_of_lt yy1; have yz2 := At.lt A1.out 2 rfl; have yy2 := Nat.lt_succ_of_lt yz2; have yx2 := Nat.lt_succ_of_lt yy2; have yz3 := At.lt A1.out 3 rfl; have yy3 := Nat.lt_succ_of_lt yz3; have yx3 := Nat.lt_succ_of_lt yy3)
          go_roundw
          case rel => exact ⟨dx + 1, by omega, by omega, rfl, E1, Lib.hid (At.erase A1.out 0), Lib.hid (fun k k1 k2 => by
            rcases Int.lt_or_le k dx with h9 | h9
            · exact hI.out k k1 h9
            · have : k = dx := by omega
              rw [this]; exact HAl.out)⟩
          case measure => simp [intOf]; omega
        · have hxx : dx = slack + 1 := by omega
          have HN := Lib.hid (show ∀ e, -slack ≤ e → e < dy + 1 → ∀ d, -slack ≤ d → d ≤ slack → m.Allowed t (g.at d e) from fun e e1 e2 d d1 d2 => by
            rcases Int.lt_or_le e dy with h9 | h9
            · exact hR.out e e1 h9 d d1 d2
            · have : e = dy := by omega
              rw [this]; exact hI.out d d1 (by omega))
          clear hxx
          go_wp2
          go_roundw
          case rel => exact ⟨dy + 1, by omega, by omega, rfl, hE, hA, HN⟩
          case measure => simp [intOf]; omega
    · have hdd : dy = slack + 1 := by omega
      have HN := Lib.hid (show m.Around t g slack from fun e e1 e2 d d1 d2 => hR.out e e1 (by omega) d d1 d2)
      clear hdd
      go_wp2
      go_ret
      exact ⟨true, rfl, ⟨fun _ => HN.out, fun _ => rfl⟩, hE.out⟩
end Go.Proofs.Ytipkjdfnoonpcaa

/- Equal lists, images and grasps; a twin; Holds: the reference's walks. -/
namespace Go.Proofs.Ytipkjdfnoonpcaa
open Go.RowKit Go.Sort

set_option maxRecDepth 100000 in
set_option maxHeartbeats 4000000 in
theorem c31 (l : List Int) (v1 v2 : Value) (w : World) (h1 : IntsAt w v1 l) (h2 : IntsAt w v2 l) (hl : l.length ≤ maxLen) :
    Calls Try.prog 31 #[v1, v2] w fun e w' => e = .returned (.bool true) ∧ Ext w w' := by
  unfold maxLen at hl
  obtain ⟨a1, c1, rfl, -, hc1⟩ := h1.form
  obtain ⟨a2, c2, rfl, -, hc2⟩ := h2.form
  have H1 := Lib.hid hc1
  have H2 := Lib.hid hc2
  clear hc1 hc2 h1 h2
  go_enter Try.func31, Try.ntmps31
  go_wp2
  go_loopw [5] (fun v wr => Ext w wr ∧ ∃ i : Nat, i ≤ l.length ∧ v = .int .i64 (i : Int)) (fun v _ => l.length - (intOf v).toNat)
  case atStart => exact ⟨Ext.refl _, 0, Nat.zero_le _, rfl⟩
  case round =>
    obtain ⟨hE, i, hi, rfl⟩ := hrel
    by_cases hil : i < l.length
    · obtain ⟨b1, o1, rfl, x0⟩ := H1.out i hil
      obtain ⟨b2, o2, rfl, y0⟩ := H2.out i hil
      generalize l.getD i 0 = x at x0 y0
      replace x0 := hE.get x0
      replace y0 := hE.get y0
      have hili : (i : Int) < (l.length : Int) := by omega
      go_wp2_with fail
      go_quiet (fail)
      go_wp2
      go_roundw
      case rel => exact ⟨hE.drewN _, i + 1, by omega, by go_num⟩
      case measure => simp [intOf]; omega
    · go_wp2
      go_ret
      exact ⟨rfl, hE⟩
def GraspsAt (w : World) (v : Value) (l : List Grasp) : Prop := SlAt w 5 v l.length (grasps l)
def grasp0 : Grasp := ⟨0, 0, false, 0, 0⟩
theorem grasps_get (l : List Grasp) : ∀ (i f : Nat), i < l.length → f < 5 → (grasps l)[i * 5 + f]? = (graspCells (l.getD i grasp0))[f]? := by
  induction l with
  | nil => intro i f h; simp at h
  | cons x l ih =>
    intro i f hi hf
    rw [grasps, List.flatMap_cons]
    match i with
    | 0 =>
      rw [List.getElem?_append_left (by simp [graspCells]; omega)]
      simp
    | i + 1 =>
      rw [List.getElem?_append_right (by simp [graspCells]; omega)]
      have := ih i f (by simpa using hi) hf
      simp only [grasps] at this
      simpa [graspCells, show (i + 1) * 5 + f - 5 = i * 5 + f by omega] using this
theorem GraspsAt.form {w : World} {v : Value} {l : List Grasp} (h : GraspsAt w v l) :
    ∃ ao cap, v = .slice ao l.length cap ∧ cap ≤ maxLen ∧ ∀ j, j < l.length → ∃ b off, ao = some ⟨b, off, none⟩ ∧ w.cell? ⟨b, off + j * 5, none⟩ = some (.int .i64 (l.getD j grasp0).x) ∧ w.cell? ⟨b, off + j * 5 + 1, none⟩ = some (.int .i64 (l.getD j grasp0).y) ∧ w.cell? ⟨b, off + j * 5 + 2, none⟩ = some (.bool (l.getD j grasp0).across) ∧
      w.cell? ⟨b, off + j * 5 + 3, none⟩ = some (.int .i64 (l.getD j grasp0).width) ∧ w.cell? ⟨b, off + j * 5 + 4, none⟩ = some (.int .i64 (l.getD j grasp0).z) := by
  obtain ⟨h1, ao, cap, h2, h3, h4, h5, h6⟩ := h
  refine ⟨ao, cap, h2, h4, fun j hj => ?_⟩
  obtain ⟨b, off, e0, c0⟩ := h6 (j * 5 + 0) _ (by rw [grasps_get l j 0 hj (by omega)]; rfl)
  obtain ⟨b1, off1, e1, c1⟩ := h6 (j * 5 + 1) _ (by rw [grasps_get l j 1 hj (by omega)]; rfl)
  obtain ⟨b2, off2, e2, c2⟩ := h6 (j * 5 + 2) _ (by rw [grasps_get l j 2 hj (by omega)]; rfl)
  obtain ⟨b3, off3, e3, c3⟩ := h6 (j * 5 + 3) _ (by rw [grasps_get l j 3 hj (by omega)]; rfl)
  obtain ⟨b4, off4, e4, c4⟩ := h6 (j * 5 + 4) _ (by rw [grasps_get l j 4 hj (by omega)]; rfl)
  rw [e0] at e1 e2 e3 e4
  cases e1
  cases e2
  cases e3
  cases e4
  exact ⟨b, off, e0, c0, c1, c2, c3, c4⟩
set_option maxRecDepth 100000 in
set_option maxHeartbeats 4000000 in
theorem c23 (l : List Grasp) (v1 v2 : Value) (w : World) (h1 : GraspsAt w v1 l) (h2 : GraspsAt w v2 l) (hl : l.length ≤ 1000000) :
    Calls Try.prog 23 #[v1, v2] w fun e w' => e = .returned (.bool true) ∧ Ext w w' := by
  obtain ⟨a1, c1, rfl, -, hc1⟩ := h1.form
  obtain ⟨a2, c2, rfl, -, hc2⟩ := h2.form
  have H1 := Lib.hid hc1
  have H2 := Lib.hid hc2
  clear hc1 hc2 h1 h2
  go_enter Try.func23, Try.ntmps23
  go_wp2
  go_loopw [5] (fun v wr => Ext w wr ∧ ∃ i : Nat, i ≤ l.length ∧ v = .int .i64 (i : Int)) (fun v _ => l.length - (intOf v).toNat)
  case atStart => exact ⟨Ext.refl _, 0, Nat.zero_le _, rfl⟩
  case round =>
    obtain ⟨hE, i, hi, rfl⟩ := hrel
    by_cases hil : i < l.length
    · obtain ⟨b1, o1, rfl, x0, x1, x2, x3, x4⟩ := H1.out i hil
      obtain ⟨b2, o2, rfl, y0, y1, y2, y3, y4⟩ := H2.out i hil
      generalize l.getD i grasp0 = x at x0 x1 x2 x3 x4 y0 y1 y2 y3 y4
      replace x0 := hE.get x0
      replace x1 := hE.get x1
      replace x2 := hE.get x2
      replace x3 := hE.get x3
      replace x4 := hE.get x4
      replace y0 := hE.get y0
      replace y1 := hE.get y1
      replace y2 := hE.get y2
      replace y3 := hE.get y3
      replace y4 := hE.get y4
      have hili : (i : Int) < (l.length : Int) := by omega
      go_wp2_with fail
      go_quiet (fail)
      go_wp2
      go_roundw
      case rel => exact ⟨hE.drewN _, i + 1, by omega, by go_num⟩
      case measure => simp [intOf]; omega
    · go_wp2
      go_ret
      exact ⟨rfl, hE⟩
set_option maxHeartbeats 4000000 in
theorem c24 (m : Img) (v1 v2 : Value) (w : World) (h1 : IntsAt w v1 m.pix) (h2 : IntsAt w v2 m.pix) (hl : m.pix.length ≤ maxLen) :
    Calls Try.prog 24 #[imgVal m v1, imgVal m v2] w fun e w' => e = .returned (.bool true) ∧ Ext w w' := by
  have K := Lib.hid (fun w' (h : Ext w w') => c31 m.pix v1 v2 w' (h1.ext h) (h2.ext h) hl)
  obtain ⟨a1, k1, rfl, -, -⟩ := h1.form
  obtain ⟨a2, k2, rfl, -, -⟩ := h2.form
  have q1 : (m.w == m.w) = true := by simp
  have q2 : (m.h == m.h) = true := by simp
  unfold imgVal
  clear h1 h2
  go_enter Try.func24, Try.ntmps24
  go_wp2_with (go_at_call 31; (with_reducible refine (K.out _ (by repeat (first | exact Ext.refl _ | assumption | refine Ext.alloc ?_ _ | refine Ext.drewN ?_ _ | refine ext_grow ?_ _ _ | refine Ext.trans ?_ (by assumption)))).mono ?_); rintro E w1 ⟨rfl, hb⟩)
  go_ret
  exact ⟨rfl, (by repeat (first | exact Ext.refl _ | assumption | refine Ext.alloc ?_ _ | refine Ext.drewN ?_ _ | refine ext_grow ?_ _ _ | refine Ext.trans ?_ (by assumption)))⟩
/-- an image in new memory -/
def TwinIs (m : Img) (w : World) (e : Ending) (w' : World) : Prop := ∃ v', e = .returned (.agg #[.int .i64 m.w, .int .i64 m.h, v']) ∧ w'.ownsRow w.heap.size 3 1 v' m.pix.length (ints m.pix) ∧ Ext w w'
theorem info3 : (Try.prog.info? 3).map (fun i => (i.zero, i.size, i.bytes)) = some (some (.int .i64 0), 1, 8) := by kernel_rfl
theorem info24 : (Try.prog.info? 24).map (·.size) = some 3 := by kernel_rfl
set_option maxRecDepth 100000 in
set_option maxHeartbeats 4000000 in
theorem c18 (m : Img) (v : Value) (w : World) (hv : IntsAt w v m.pix) (hl : m.pix.length * 8 ≤ 140737488351232) :
    Calls Try.prog 18 #[imgVal m v] w (TwinIs m w) := by
  have HV := Lib.hid hv
  obtain ⟨ao, cap, rfl, -, -⟩ := hv.form
  obtain ⟨i0, hi0, hz0, hz1, hz2⟩ := info_parts info3
  have hm63 : 0 + m.pix.length ≤ maxLen := by unfold maxLen; omega
  have hby : (0 + m.pix.length) * 8 ≤ 140737488355328 := by omega
  unfold imgVal
  clear hv
  go_enter Try.func18, Try.ntmps18
  go_wp2_with (at_builtin; refine wpList_append_sl rfl _ _ 22 rfl (w.heap.size + 1 + 1) 3 i0 (.int .i64 0) 1 8 Try.underlying22 hi0 hz0 hz1 hz2 rfl (by omega) (.slice none 0 0) 0 [] rfl ⟨rfl, .inl ⟨rfl, rfl⟩⟩ _ m.pix.length (ints m.pix) rfl (HV.out.ext (by repeat (first | exact Ext.refl _ | assumption | refine Ext.alloc ?_ _ | refine Ext.drewN ?_ _ | refine ext_grow ?_ _ _ | refine Ext.trans ?_ (by assumption)))) (ints_oneCell' _) hm63 hby (by simp) ?_; intro va w1 ho hg; obtain ⟨-, sa, sc, hva, -⟩ := SlAt.of_owns ho; subst hva; have O1 := Lib.hid (show w1.ownsRow (w.heap.size + 1 + 1) 3 1 (.slice sa m.pix.length sc) m.pix.length (ints m.pix) from by simpa using ho); have E1 := Lib.hid ((show Ext w _ from (by repeat (first | exact Ext.refl _ | assumption | refine Ext.alloc ?_ _ | refine Ext.drewN ?_ _ | refine ext_grow ?_ _ _ | refine Ext.trans ?_ (by assumption)))).grown hg (fun g h => by cases h)); have A1 := Lib.hid (show At w1 [(w.heap.size + 1, Obj.cells #[.int .i64 0, .int .i64 0, .slice none 0 0] 24), (w.heap.size, Obj.cells #[.int .i64 m.w, .int .i64 m.h, .slice ao m.pix.length cap] 24)] from At.ext (ext_of_grownNone hg) ⟨(by repeat (first | (refine blk_at _ _ ?_; (first | rfl | (simp only [size_one]; done))) | refine (blk_past _ _ (by simp only [size_one]; omega)).trans ?_)), (by repeat (first | (refine blk_at _ _ ?_; (first | rfl | (simp only [size_one]; done))) | refine (blk_past _ _ (by simp only [size_one]; omega)).trans ?_)), trivial⟩); clear ho hg; obtain ⟨⟨x00, x01, x02⟩, xf00, xf01, xf02⟩ := run_3 (At.at A1.out 0 rfl); obtain ⟨⟨x10, x11, x12⟩, xf10, xf11, xf12⟩ := run_3 (At.at A1.out 1 rfl); have xz0 := At.lt A1.out 0 rfl; have xy0 := Nat.lt_succ_of_lt xz0; have xx0 := Nat.lt_succ_of_lt xy0; have xz1 := At.lt A1.out 1 rfl; have xy1 := Nat.lt_succ_of_lt xz1; have xx1 := Nat.lt_succ_of_lt xy1)
  have stA := store_3 (v0 := .int .i64 m.w) (v1 := .int .i64 m.h) (v2 := .slice sa m.pix.length sc) (At.at (At.other (l := [(w.heap.size + 1, Obj.cells #[.int .i64 0, .int .i64 0, .slice none 0 0] 24)]) (set_at w1 (w.heap.size) 2 (.slice sa m.pix.length sc)) (by simp) ⟨At.at A1.out 0 rfl, trivial⟩) 0 rfl)
  refine bodyPost_ret (results_row1 rfl _ _ (w.heap.size + 1) 24 _ (0, 0) _ rfl stA.1 Try.underlying24 rfl info24) rfl ?_
  exact ⟨_, rfl, owns_base (own_set (own_set (own_set (own_set O1.out (by omega)) (by omega)) (by omega)) (by omega)) (by omega), stA.2.2 w (by omega) (E1.out.setCell (p := ⟨w.heap.size, 2, none⟩) (Nat.le_refl _) _)⟩
end Go.Proofs.Ytipkjdfnoonpcaa

/- Holds and Plan: the reference's walks. -/
namespace Go.Proofs.Ytipkjdfnoonpcaa
open Go.RowKit Go.Sort

set_option maxRecDepth 100000 in
set_option maxHeartbeats 8000000 in
theorem c20 (m : Img) (v : Value) (t : Tool) (g : Grasp) (slack : Int) (w : World) (hv : IntsAt w v m.pix) (hl : m.pix.length ≤ maxLen) :
    Calls Try.prog 20 #[imgVal m v, toolVal t, graspVal g, .int .i64 slack] w (HoldsIs m t g slack w) := by
  have HV := Lib.hid hv
  obtain ⟨ao, cap, rfl, -, -⟩ := hv.form
  have K52 := Lib.hid (fun w' (h : Ext w w') => c52 m _ t slack w' (HV.out.ext h) hl)
  have K53 := Lib.hid (fun w' => c53 g w')
  have K0 := fun w' (h : Ext w w') (h1 : m.Camera) (h2 : t.Ok) (h3 : g.near) (h4 : 0 ≤ slack ∧ slack ≤ 2) => c54 m _ t g slack w' h1 h2 (HV.out.ext h) h3 h4
  have HK0 := Lib.hid K0
  unfold graspVal imgVal toolVal at *
  clear hv hl K0
  by_cases h0 : readyE m t slack = 0
  case neg =>
    obtain ⟨r, hr⟩ : ∃ r, readyE m t slack = r := ⟨_, rfl⟩
    have q0 : (r != 0) = true := by simpa [hr] using h0
    rw [hr] at K52
    have H0 := Lib.hid h0
    have HR := Lib.hid hr
    clear h0 hr
    go_enter Try.func20, Try.ntmps20
    go_wp2_with (go_at_call 52; (with_reducible refine (K52.out _ (by repeat (first | exact Ext.refl _ | assumption | refine Ext.alloc ?_ _ | refine Ext.drewN ?_ _ | refine ext_grow ?_ _ _ | refine Ext.trans ?_ (by assumption)))).mono ?_); rintro E w1 ⟨rfl, hb⟩; have A1 := Lib.hid (show At w1 [(w.heap.size + 1 + 1, Obj.cells #[.int .i64 g.x, .int .i64 g.y, .bool g.across, .int .i64 g.width, .int .i64 g.z] 28), (w.heap.size + 1, Obj.cells #[.int .i64 t.len, .int .i64 t.grip, .int .i64 t.palm] 26), (w.heap.size, Obj.cells #[.int .i64 m.w, .int .i64 m.h, .slice ao m.pix.length cap] 24)] from At.ext hb ⟨(by repeat (first | (refine blk_at _ _ ?_; (first | rfl | (simp only [size_one]; done))) | refine (blk_past _ _ (by simp only [size_one]; omega)).trans ?_)), (by repeat (first | (refine blk_at _ _ ?_; (first | rfl | (simp only [size_one]; done))) | refine (blk_past _ _ (by simp only [size_one]; omega)).trans ?_)), (by repeat (first | (refine blk_at _ _ ?_; (first | rfl | (simp only [size_one]; done))) | refine (blk_past _ _ (by simp only [size_one]; omega)).trans ?_)), trivial⟩); have E1 := Lib.hid (show Ext w w1 from (by repeat (first | exact Ext.refl _ | assumption | refine Ext.alloc ?_ _ | refine Ext.drewN ?_ _ | refine ext_grow ?_ _ _ | refine Ext.trans ?_ (by assumption)))); obtain ⟨⟨x00, x01, x02, x03, x04⟩, -⟩ := run_5 (At.at A1.out 0 rfl); obtain ⟨⟨x10, x11, x12⟩, -⟩ := run_3 (At.at A1.out 1 rfl); obtain ⟨⟨x20, x21, x22⟩, -⟩ := run_3 (At.at A1.out 2 rfl); have xz0 := At.lt A1.out 0 rfl; have xy0 := Nat.lt_succ_of_lt xz0; have xx0 := Nat.lt_succ_of_lt xy0; have xz1 := At.lt A1.out 1 rfl; have xy1 := Nat.lt_succ_of_lt xz1; have xx1 := Nat.lt_succ_of_lt xy1; have xz2 := At.lt A1.out 2 rfl; have xy2 := Nat.lt_succ_of_lt xz2; have xx2 := Nat.lt_succ_of_lt xy2)
    go_ret2
    exact ⟨false, by rw [HR.out]; rfl, ⟨fun h => (by cases h), fun h => absurd h.1 H0.out⟩, E1.out⟩
  obtain ⟨r1, r2, r3⟩ := ready_ok h0
  rw [h0] at K52
  have H0 := Lib.hid h0
  by_cases h1 : g.near
  case neg =>
    have q1 : decide g.near = false := decide_eq_false h1
    rw [q1] at K53
    have H1 := Lib.hid h1
    have R := Lib.hid (And.intro r1 r2)
    clear h0 h1 q1 r1 r2
    go_enter Try.func20, Try.ntmps20
    go_wp2_with (first | (have _q := E1; go_at_call 53; (with_reducible refine (K53.out _).mono ?_); rintro E w2 ⟨rfl, hb2⟩; have A2 := Lib.hid (show At w2 [(w.heap.size + 1 + 1, Obj.cells #[.int .i64 g.x, .int .i64 g.y, .bool g.across, .int .i64 g.width, .int .i64 g.z] 28), (w.heap.size + 1, Obj.cells #[.int .i64 t.len, .int .i64 t.grip, .int .i64 t.palm] 26), (w.heap.size, Obj.cells #[.int .i64 m.w, .int .i64 m.h, .slice ao m.pix.length cap] 24)] from At.ext hb2 A1.out); have E2 := Lib.hid (E1.out.trans hb2); obtain ⟨⟨y00, y01, y02, y03, y04⟩, -⟩ := run_5 (At.at A2.out 0 rfl); obtain ⟨⟨y10, y11, y12⟩, -⟩ := run_3 (At.at A2.out 1 rfl); obtain ⟨⟨y20, y21, y22⟩, -⟩ := run_3 (At.at A2.out 2 rfl); have yz0 := At.lt A2.out 0 rfl; have yy0 := Nat.lt_succ_of_lt yz0; have yx0 := Nat.lt_succ_of_lt yy0; have yz1 := At.lt A2.out 1 rfl; have yy1 := Nat.lt_succ_of_lt yz1; have yx1 := Nat.lt_succ_of_lt yy1; have yz2 := At.lt A2.out 2 rfl; have yy2 := Nat.lt_succ_of_lt yz2; have yx2 := Nat.lt_succ_of_lt yy2) | (go_at_call 52; (with_reducible refine (K52.out _ (by repeat (first | exact Ext.refl _ | assumption | refine Ext.alloc ?_ _ | refine Ext.drewN ?_ _ | refine ext_grow ?_ _ _ | refine Ext.trans ?_ (by assumption)))).mono ?_); rintro E w1 ⟨rfl, hb⟩; have A1 := Lib.hid (show At w1 [(w.heap.size + 1 + 1, Obj.cells #[.int .i64 g.x, .int .i64 g.y, .bool g.across, .int .i64 g.width, .int .i64 g.z] 28), (w.heap.size + 1, Obj.cells #[.int .i64 t.len, .int .i64 t.grip, .int .i64 t.palm] 26), (w.heap.size, Obj.cells #[.int .i64 m.w, .int .i64 m.h, .slice ao m.pix.length cap] 24)] from At.ext hb ⟨(by repeat (first | (refine blk_at _ _ ?_; (first | rfl | (simp only [size_one]; done))) | refine (blk_past _ _ (by simp only [size_one]; omega)).trans ?_)), (by repeat (first | (refine blk_at _ _ ?_; (first | rfl | (simp only [size_one]; done))) | refine (blk_past _ _ (by simp only [size_one]; omega)).trans ?_)), (by repeat (first | (refine blk_at _ _ ?_; (first | rfl | (simp only [size_one]; done))) | refine (blk_past _ _ (by simp only [size_one]; omega)).trans ?_)), trivial⟩); have E1 := Lib.hid (show Ext w w1 from (by repeat (first | exact Ext.refl _ | assumption | refine Ext.alloc ?_ _ | refine Ext.drewN ?_ _ | refine ext_grow ?_ _ _ | refine Ext.trans ?_ (by assumption)))); obtain ⟨⟨x00, x01, x02, x03, x04⟩, -⟩ := run_5 (At.at A1.out 0 rfl); obtain ⟨⟨x10, x11, x12⟩, -⟩ := run_3 (At.at A1.out 1 rfl); obtain ⟨⟨x20, x21, x22⟩, -⟩ := run_3 (At.at A1.out 2 rfl); have xz0 := At.lt A1.out 0 rfl; have xy0 := Nat.lt_succ_of_lt xz0; have xx0 := Nat.lt_succ_of_lt xy0; have xz1 := At.lt A1.out 1 rfl; have xy1 := Nat.lt_succ_of_lt xz1; have xx1 := Nat.lt_succ_of_lt xy1; have xz2 := At.lt A1.out 2 rfl; have xy2 := Nat.lt_succ_of_lt xz2; have xx2 := Nat.lt_succ_of_lt xy2))
    go_ret2
    exact ⟨false, by rw [H0.out]; rfl, ⟨fun h => (by cases h), fun h => absurd (holds_near R.out.1.1 R.out.2.1.1 r3.1 h.2) (fun h9 => H1.out ⟨by omega, by omega⟩)⟩, E2.out⟩
  have q1 : decide g.near = true := decide_eq_true h1
  rw [q1] at K53
  by_cases h2 : m.Holds t g slack
  · have K54 := Lib.hid (fun w' (h : Ext w w') => (HK0.out w' h r1 r2 h1 r3).mono fun _ _ h9 => BoolIs.yes ((held_iff r2.1.1 r3.1).2 h2) h9)
    have H2 := Lib.hid h2
    clear h0 h1 h2 q1 r1 r2 r3 HK0
    go_enter Try.func20, Try.ntmps20
    go_wp2_with (first | (have _q := E2; go_at_call 54; (with_reducible refine (K54.out _ E2.out).mono ?_); rintro E w3 ⟨rfl, hb3⟩; have E3 := Lib.hid (E2.out.trans hb3)) | (have _q := E1; go_at_call 53; (with_reducible refine (K53.out _).mono ?_); rintro E w2 ⟨rfl, hb2⟩; have A2 := Lib.hid (show At w2 [(w.heap.size + 1 + 1, Obj.cells #[.int .i64 g.x, .int .i64 g.y, .bool g.across, .int .i64 g.width, .int .i64 g.z] 28), (w.heap.size + 1, Obj.cells #[.int .i64 t.len, .int .i64 t.grip, .int .i64 t.palm] 26), (w.heap.size, Obj.cells #[.int .i64 m.w, .int .i64 m.h, .slice ao m.pix.length cap] 24)] from At.ext hb2 A1.out); have E2 := Lib.hid (E1.out.trans hb2); obtain ⟨⟨y00, y01, y02, y03, y04⟩, -⟩ := run_5 (At.at A2.out 0 rfl); obtain ⟨⟨y10, y11, y12⟩, -⟩ := run_3 (At.at A2.out 1 rfl); obtain ⟨⟨y20, y21, y22⟩, -⟩ := run_3 (At.at A2.out 2 rfl); have yz0 := At.lt A2.out 0 rfl; have yy0 := Nat.lt_succ_of_lt yz0; have yx0 := Nat.lt_succ_of_lt yy0; have yz1 := At.lt A2.out 1 rfl; have yy1 := Nat.lt_succ_of_lt yz1; have yx1 := Nat.lt_succ_of_lt yy1; have yz2 := At.lt A2.out 2 rfl; have yy2 := Nat.lt_succ_of_lt yz2; have yx2 := Nat.lt_succ_of_lt yy2) | (go_at_call 52; (with_reducible refine (K52.out _ (by repeat (first | exact Ext.refl _ | assumption | refine Ext.alloc ?_ _ | refine Ext.drewN ?_ _ | refine ext_grow ?_ _ _ | refine Ext.trans ?_ (by assumption)))).mono ?_); rintro E w1 ⟨rfl, hb⟩; have A1 := Lib.hid (show At w1 [(w.heap.size + 1 + 1, Obj.cells #[.int .i64 g.x, .int .i64 g.y, .bool g.across, .int .i64 g.width, .int .i64 g.z] 28), (w.heap.size + 1, Obj.cells #[.int .i64 t.len, .int .i64 t.grip, .int .i64 t.palm] 26), (w.heap.size, Obj.cells #[.int .i64 m.w, .int .i64 m.h, .slice ao m.pix.length cap] 24)] from At.ext hb ⟨(by repeat (first | (refine blk_at _ _ ?_; (first | rfl | (simp only [size_one]; done))) | refine (blk_past _ _ (by simp only [size_one]; omega)).trans ?_)), (by repeat (first | (refine blk_at _ _ ?_; (first | rfl | (simp only [size_one]; done))) | refine (blk_past _ _ (by simp only [size_one]; omega)).trans ?_)), (by repeat (first | (refine blk_at _ _ ?_; (first | rfl | (simp only [size_one]; done))) | refine (blk_past _ _ (by simp only [size_one]; omega)).trans ?_)), trivial⟩); have E1 := Lib.hid (show Ext w w1 from (by repeat (first | exact Ext.refl _ | assumption | refine Ext.alloc ?_ _ | refine Ext.drewN ?_ _ | refine ext_grow ?_ _ _ | refine Ext.trans ?_ (by assumption)))); obtain ⟨⟨x00, x01, x02, x03, x04⟩, -⟩ := run_5 (At.at A1.out 0 rfl); obtain ⟨⟨x10, x11, x12⟩, -⟩ := run_3 (At.at A1.out 1 rfl); obtain ⟨⟨x20, x21, x22⟩, -⟩ := run_3 (At.at A1.out 2 rfl); have xz0 := At.lt A1.out 0 rfl; have xy0 := Nat.lt_succ_of_lt xz0; have xx0 := Nat.lt_succ_of_lt xy0; have xz1 := At.lt A1.out 1 rfl; have xy1 := Nat.lt_succ_of_lt xz1; have xx1 := Nat.lt_succ_of_lt xy1; have xz2 := At.lt A1.out 2 rfl; have xy2 := Nat.lt_succ_of_lt xz2; have xx2 := Nat.lt_succ_of_lt xy2))
    go_ret2
    exact ⟨true, by rw [H0.out]; rfl, ⟨fun _ => ⟨H0.out, H2.out⟩, fun _ => rfl⟩, E3.out⟩
  · have K54 := Lib.hid (fun w' (h : Ext w w') => (HK0.out w' h r1 r2 h1 r3).mono fun _ _ h9 => BoolIs.no (fun h8 => h2 ((held_iff r2.1.1 r3.1).1 h8)) h9)
    have H2 := Lib.hid h2
    clear h0 h1 h2 q1 r1 r2 r3 HK0
    go_enter Try.func20, Try.ntmps20
    go_wp2_with (first | (have _q := E2; go_at_call 54; (with_reducible refine (K54.out _ E2.out).mono ?_); rintro E w3 ⟨rfl, hb3⟩; have E3 := Lib.hid (E2.out.trans hb3)) | (have _q := E1; go_at_call 53; (with_reducible refine (K53.out _).mono ?_); rintro E w2 ⟨rfl, hb2⟩; have A2 := Lib.hid (show At w2 [(w.heap.size + 1 + 1, Obj.cells #[.int .i64 g.x, .int .i64 g.y, .bool g.across, .int .i64 g.width, .int .i64 g.z] 28), (w.heap.size + 1, Obj.cells #[.int .i64 t.len, .int .i64 t.grip, .int .i64 t.palm] 26), (w.heap.size, Obj.cells #[.int .i64 m.w, .int .i64 m.h, .slice ao m.pix.length cap] 24)] from At.ext hb2 A1.out); have E2 := Lib.hid (E1.out.trans hb2); obtain ⟨⟨y00, y01, y02, y03, y04⟩, -⟩ := run_5 (At.at A2.out 0 rfl); obtain ⟨⟨y10, y11, y12⟩, -⟩ := run_3 (At.at A2.out 1 rfl); obtain ⟨⟨y20, y21, y22⟩, -⟩ := run_3 (At.at A2.out 2 rfl); have yz0 := At.lt A2.out 0 rfl; have yy0 := Nat.lt_succ_of_lt yz0; have yx0 := Nat.lt_succ_of_lt yy0; have yz1 := At.lt A2.out 1 rfl; have yy1 := Nat.lt_succ_of_lt yz1; have yx1 := Nat.lt_succ_of_lt yy1; have yz2 := At.lt A2.out 2 rfl; have yy2 := Nat.lt_succ_of_lt yz2; have yx2 := Nat.lt_succ_of_lt yy2) | (go_at_call 52; (with_reducible refine (K52.out _ (by repeat (first | exact Ext.refl _ | assumption | refine Ext.alloc ?_ _ | refine Ext.drewN ?_ _ | refine ext_grow ?_ _ _ | refine Ext.trans ?_ (by assumption)))).mono ?_); rintro E w1 ⟨rfl, hb⟩; have A1 := Lib.hid (show At w1 [(w.heap.size + 1 + 1, Obj.cells #[.int .i64 g.x, .int .i64 g.y, .bool g.across, .int .i64 g.width, .int .i64 g.z] 28), (w.heap.size + 1, Obj.cells #[.int .i64 t.len, .int .i64 t.grip, .int .i64 t.palm] 26), (w.heap.size, Obj.cells #[.int .i64 m.w, .int .i64 m.h, .slice ao m.pix.length cap] 24)] from At.ext hb ⟨(by repeat (first | (refine blk_at _ _ ?_; (first | rfl | (simp only [size_one]; done))) | refine (blk_past _ _ (by simp only [size_one]; omega)).trans ?_)), (by repeat (first | (refine blk_at _ _ ?_; (first | rfl | (simp only [size_one]; done))) | refine (blk_past _ _ (by simp only [size_one]; omega)).trans ?_)), (by repeat (first | (refine blk_at _ _ ?_; (first | rfl | (simp only [size_one]; done))) | refine (blk_past _ _ (by simp only [size_one]; omega)).trans ?_)), trivial⟩); have E1 := Lib.hid (show Ext w w1 from (by repeat (first | exact Ext.refl _ | assumption | refine Ext.alloc ?_ _ | refine Ext.drewN ?_ _ | refine ext_grow ?_ _ _ | refine Ext.trans ?_ (by assumption)))); obtain ⟨⟨x00, x01, x02, x03, x04⟩, -⟩ := run_5 (At.at A1.out 0 rfl); obtain ⟨⟨x10, x11, x12⟩, -⟩ := run_3 (At.at A1.out 1 rfl); obtain ⟨⟨x20, x21, x22⟩, -⟩ := run_3 (At.at A1.out 2 rfl); have xz0 := At.lt A1.out 0 rfl; have xy0 := Nat.lt_succ_of_lt xz0; have xx0 := Nat.lt_succ_of_lt xy0; have xz1 := At.lt A1.out 1 rfl; have xy1 := Nat.lt_succ_of_lt xz1; have xx1 := Nat.lt_succ_of_lt xy1; have xz2 := At.lt A1.out 2 rfl; have xy2 := Nat.lt_succ_of_lt xz2; have xx2 := Nat.lt_succ_of_lt xy2))
    go_ret2
    exact ⟨false, by rw [H0.out]; rfl, ⟨fun h => (by cases h), fun h => absurd h.2 H2.out⟩, E3.out⟩
theorem zOf {w : World} {b : Nat} {c0 c1 c2 c3 : Value} {z : Int} {e : TypeId} (h : w.heap[b]? = some (.cells #[c0, c1, c2, c3, .int .i64 z] e)) : intOf ((w.cell? ⟨b, 4, none⟩).getD undef) = z := by
  rw [(run_5 h).1.2.2.2.2]
  rfl
set_option maxRecDepth 100000 in
set_option maxHeartbeats 32000000 in
theorem c22 (m : Img) (v : Value) (t : Tool) (slack : Int) (w : World) (hv : IntsAt w v m.pix) (hl : m.pix.length ≤ maxLen) :
    Calls Try.prog 22 #[imgVal m v, toolVal t, .int .i64 slack] w (PlanIs m t slack w) := by
  have HV := Lib.hid hv
  obtain ⟨ao, cap, rfl, -, -⟩ := hv.form
  have K52 := Lib.hid (fun w' (h : Ext w w') => c52 m _ t slack w' (HV.out.ext h) hl)
  unfold imgVal toolVal at *
  clear hv hl
  by_cases h0 : readyE m t slack = 0
  case neg =>
    obtain ⟨r, hr⟩ : ∃ r, readyE m t slack = r := ⟨_, rfl⟩
    have q0 : (r != 0) = true := by simpa [hr] using h0
    rw [hr] at K52
    have H0 := Lib.hid h0
    have HR := Lib.hid hr
    clear h0 hr
    go_enter Try.func22, Try.ntmps22
    go_wp2_with (go_at_call 52; (with_reducible refine (K52.out _ (by repeat (first | exact Ext.refl _ | assumption | refine Ext.alloc ?_ _ | refine Ext.drewN ?_ _ | refine ext_grow ?_ _ _ | refine Ext.trans ?_ (by assumption)))).mono ?_); rintro E w1 ⟨rfl, hb⟩; have A1 := Lib.hid (show At w1 [(w.heap.size + 1, Obj.cells #[.int .i64 t.len, .int .i64 t.grip, .int .i64 t.palm] 26), (w.heap.size, Obj.cells #[.int .i64 m.w, .int .i64 m.h, .slice ao m.pix.length cap] 24)] from At.ext hb ⟨(by repeat (first | (refine blk_at _ _ ?_; (first | rfl | (simp only [size_one]; done))) | refine (blk_past _ _ (by simp only [size_one]; omega)).trans ?_)), (by repeat (first | (refine blk_at _ _ ?_; (first | rfl | (simp only [size_one]; done))) | refine (blk_past _ _ (by simp only [size_one]; omega)).trans ?_)), trivial⟩); have E1 := Lib.hid (show Ext w w1 from (by repeat (first | exact Ext.refl _ | assumption | refine Ext.alloc ?_ _ | refine Ext.drewN ?_ _ | refine ext_grow ?_ _ _ | refine Ext.trans ?_ (by assumption)))); obtain ⟨⟨x00, x01, x02⟩, -⟩ := run_3 (At.at A1.out 0 rfl); obtain ⟨⟨x10, x11, x12⟩, -⟩ := run_3 (At.at A1.out 1 rfl); have xz0 := At.lt A1.out 0 rfl; have xy0 := Nat.lt_succ_of_lt xz0; have xx0 := Nat.lt_succ_of_lt xy0; have xz1 := At.lt A1.out 1 rfl; have xy1 := Nat.lt_succ_of_lt xz1; have xx1 := Nat.lt_succ_of_lt xy1)
    go_ret2
    exact ⟨_, [], by rw [HR.out]; rfl, ⟨rfl, .inl ⟨rfl, rfl⟩⟩, fun h => absurd h H0.out, fun _ => rfl, E1.out⟩
  obtain ⟨r1, r2, hsl⟩ := ready_ok h0
  rw [h0] at K52
  have H0 := Lib.hid h0
  have HC := Lib.hid r1
  have HT := Lib.hid r2
  obtain ⟨n1, n2⟩ := Img.len_bd r1.1
  have hmw1 : 1 ≤ m.w := r1.1.1.1
  have hmw2 : m.w ≤ 16 := r1.1.1.2
  obtain ⟨i0, hi0, hz0, hz1, hz2⟩ := info_parts info28
  clear h0 r1 r2
  go_enter Try.func22, Try.ntmps22
  go_wp2_with (go_at_call 52; (with_reducible refine (K52.out _ (by repeat (first | exact Ext.refl _ | assumption | refine Ext.alloc ?_ _ | refine Ext.drewN ?_ _ | refine ext_grow ?_ _ _ | refine Ext.trans ?_ (by assumption)))).mono ?_); rintro E w1 ⟨rfl, hb⟩; have A1 := Lib.hid (show At w1 [(w.heap.size + 1, Obj.cells #[.int .i64 t.len, .int .i64 t.grip, .int .i64 t.palm] 26), (w.heap.size, Obj.cells #[.int .i64 m.w, .int .i64 m.h, .slice ao m.pix.length cap] 24)] from At.ext hb ⟨(by repeat (first | (refine blk_at _ _ ?_; (first | rfl | (simp only [size_one]; done))) | refine (blk_past _ _ (by simp only [size_one]; omega)).trans ?_)), (by repeat (first | (refine blk_at _ _ ?_; (first | rfl | (simp only [size_one]; done))) | refine (blk_past _ _ (by simp only [size_one]; omega)).trans ?_)), trivial⟩); have E1 := Lib.hid (show Ext w w1 from (by repeat (first | exact Ext.refl _ | assumption | refine Ext.alloc ?_ _ | refine Ext.drewN ?_ _ | refine ext_grow ?_ _ _ | refine Ext.trans ?_ (by assumption)))); obtain ⟨⟨x00, x01, x02⟩, -⟩ := run_3 (At.at A1.out 0 rfl); obtain ⟨⟨x10, x11, x12⟩, -⟩ := run_3 (At.at A1.out 1 rfl); have xz0 := At.lt A1.out 0 rfl; have xy0 := Nat.lt_succ_of_lt xz0; have xx0 := Nat.lt_succ_of_lt xy0; have xz1 := At.lt A1.out 1 rfl; have xy1 := Nat.lt_succ_of_lt xz1; have xx1 := Nat.lt_succ_of_lt xy1)
  clear x00 x01 x02 x10 x11 x12 xz0 xy0 xx0 xz1 xy1 xx1
  go_loopw [9, 10] (fun ov i wr => ∃ (n : Nat) (gs : List Grasp), n ≤ 16 ∧ i = .int .i64 (n : Int) ∧ Hid (Ext w wr) ∧ Hid (At wr [(w.heap.size + 1, Obj.cells #[.int .i64 t.len, .int .i64 t.grip, .int .i64 t.palm] 26), (w.heap.size, Obj.cells #[.int .i64 m.w, .int .i64 m.h, .slice ao m.pix.length cap] 24)]) ∧ Hid (wr.ownsRow (w.heap.size + 1 + 1) 28 5 ov gs.length (grasps gs)) ∧ Hid (Gath (m.Try t slack) (n * m.pix.length) gs)) (fun _ i _ => 16 - (intOf i).toNat)
  case atStart => exact ⟨0, [], by omega, rfl, E1, A1, Lib.hid ⟨rfl, .inl ⟨rfl, rfl⟩⟩, Lib.hid (by rw [Nat.zero_mul]; rfl)⟩
  case round =>
    clear A1 E1
    obtain ⟨n, gs, hn, rfl, hE, hA, hO, hG⟩ := hrel
    by_cases hn16 : n < 16
    · have q16 : decide ((n : Int) < 16) = true := decide_eq_true (by omega)
      have q17 : decide (n < 16) = true := decide_eq_true hn16
      obtain ⟨⟨x00, x01, x02⟩, -⟩ := run_3 (At.at hA.out 0 rfl)
      obtain ⟨⟨x10, x11, x12⟩, -⟩ := run_3 (At.at hA.out 1 rfl)
      have xz0 := At.lt hA.out 0 rfl
      have xy0 := Nat.lt_succ_of_lt xz0
      have xx0 := Nat.lt_succ_of_lt xy0
      have xz1 := At.lt hA.out 1 rfl
      have xy1 := Nat.lt_succ_of_lt xz1
      have xx1 := Nat.lt_succ_of_lt xy1
      go_wp2
      clear x00 x01 x02 x10 x11 x12 xz0 xy0 xx0 xz1 xy1 xx1
      obtain ⟨wo, hwo⟩ : ∃ wo : World, wo = wr := ⟨_, rfl⟩
      subst hwo
      go_loopw [9, 11] (fun ov i wr => ∃ (k : Nat) (gs : List Grasp), k ≤ m.pix.length ∧ i = .int .i64 (k : Int) ∧ Hid (Ext w wr) ∧ Hid (At wr [(w.heap.size + 1, Obj.cells #[.int .i64 t.len, .int .i64 t.grip, .int .i64 t.palm] 26), (w.heap.size, Obj.cells #[.int .i64 m.w, .int .i64 m.h, .slice ao m.pix.length cap] 24)]) ∧ Hid (wr.ownsRow (w.heap.size + 1 + 1) 28 5 ov gs.length (grasps gs)) ∧ Hid (Gath (m.Try t slack) (n * m.pix.length + k) gs)) (fun _ i _ => m.pix.length - (intOf i).toNat)
      case atStart => exact ⟨0, gs, by omega, rfl, hE, hA, hO, hG⟩
      case round =>
        clear hE hA hO hG
        obtain ⟨k, gs, hk, rfl, hE, hA, hO, hG⟩ := hrel
        by_cases hkl : k < m.pix.length
        · obtain ⟨pb, pb2⟩ := place_bd HC.out.1 hkl
          have hkq := key_at (q := n) hkl
          obtain ⟨px, hpx⟩ : ∃ px, (k : Int) % m.w = px := ⟨_, rfl⟩
          obtain ⟨py, hpy⟩ : ∃ py, (k : Int) / m.w = py := ⟨_, rfl⟩
          obtain ⟨ac, hac⟩ : ∃ ac : Bool, decide (8 ≤ n) = ac := ⟨_, rfl⟩
          obtain ⟨W, hW⟩ : ∃ W : Int, ((n % 8 : Nat) : Int) + 1 = W := ⟨_, rfl⟩
          rw [hpx, hpy, hac, hW] at hkq
          rw [hpx] at pb
          rw [hpy] at pb2
          have hrem : (k : Int).tmod m.w = px := by rw [Int.tmod_eq_emod_of_nonneg (by omega)]; exact hpx
          have hquo : (k : Int).tdiv m.w = py := by rw [Int.tdiv_eq_ediv_of_nonneg (by omega)]; exact hpy
          have hrem8 : (n : Int).tmod 8 = W - 1 := by rw [Int.tmod_eq_emod_of_nonneg (by omega)]; omega
          have hac8 : decide ((8 : Int) ≤ (n : Int)) = ac := by rw [← hac]; exact decide_eq_decide.2 (by omega)
          have hw1 : 1 ≤ W ∧ W ≤ 8 := by omega
          have hwr : IntKind.i64.wrap (W - 1 + 1) = W := by rw [show W - 1 + 1 = W by omega]; exact IntWalk.i64_in _ (by omega)
          have HK := Lib.hid hkq
          obtain ⟨pb0, pb1⟩ := pb
          obtain ⟨pb3, pb4⟩ := pb2
          obtain ⟨hw2, hw3⟩ := hw1
          have K0 := Lib.hid (fun w' (h : Ext wr w') => c55 m _ t { x := px, y := py, across := ac, width := W, z := 0 } slack w' HC.out HT.out (HV.out.ext (hE.out.trans h)) ⟨by show -1000 ≤ px ∧ px ≤ 1000; omega, by show -1000 ≤ py ∧ py ≤ 1000; omega⟩ hsl)
          have HLT := Lib.hid (fun g9 h9 => (owns_block hO.out g9 h9).2)
          have hlen : gs.length ≤ 5000 := by have h1 := Gath.len hG.out; have h2 := Nat.mul_le_mul (show n ≤ 16 by omega) n2; omega
          have hmw : (m.w == 0) = false := by simp; omega
          obtain ⟨⟨x00, x01, x02⟩, -⟩ := run_3 (At.at hA.out 0 rfl)
          obtain ⟨⟨x10, x11, x12⟩, -⟩ := run_3 (At.at hA.out 1 rfl)
          have xz0 := At.lt hA.out 0 rfl
          have xy0 := Nat.lt_succ_of_lt xz0
          have xx0 := Nat.lt_succ_of_lt xy0
          have xz1 := At.lt hA.out 1 rfl
          have xy1 := Nat.lt_succ_of_lt xz1
          have xx1 := Nat.lt_succ_of_lt xy1
          have HAC := Lib.hid hac
          clear hkq hpx hpy hac hW
          go_wp2
          refine RT.region_one (aq := ?az1) (n := 14) (sx := 12) (vx := 44) (oz := Obj.cells #[.int .i64 0, .int .i64 0, .bool false, .int .i64 0, .int .i64 0] 28) (ox := Obj.cells #[.int .i64 px, .int .i64 py, .bool ac, .int .i64 W, .int .i64 (0)] 28) (qs1 := [_, _, _, _, _, _, _, _, _, _, _, _, _, _]) (qs2 := []) (by kernel_rfl) rfl (by kernel_rfl) (by kernel_rfl) rfl (of_decide_eq_true (by kernel_rfl)) rfl rfl (by kernel_rfl) (by kernel_rfl) (by kernel_rfl) ?_ ?_ ?_ ?_
          rotate_left
          · intro e w
            simp [execOp, go_sem, Try.underlying28]
          · intro wq hEq
            have AQ := Lib.hid (show At wq [(w.heap.size + 1, Obj.cells #[.int .i64 t.len, .int .i64 t.grip, .int .i64 t.palm] 26), (w.heap.size, Obj.cells #[.int .i64 m.w, .int .i64 m.h, .slice ao m.pix.length cap] 24)] from At.ext hEq hA.out)
            obtain ⟨⟨q00, q01, q02⟩, -⟩ := run_3 (At.at AQ.out 0 rfl)
            obtain ⟨⟨q10, q11, q12⟩, -⟩ := run_3 (At.at AQ.out 1 rfl)
            have qz0 := At.lt AQ.out 0 rfl
            have qy0 := Nat.lt_succ_of_lt qz0
            have qx0 := Nat.lt_succ_of_lt qy0
            have qz1 := At.lt AQ.out 1 rfl
            have qy1 := Nat.lt_succ_of_lt qz1
            have qx1 := Nat.lt_succ_of_lt qy1
            clear hEq
            simp only [List.cons_append, List.nil_append, List.append_nil]
            repeat (go_big_quiet_step (fail))
            refine wpQuiet_nil ?_
            exact rfl
          · intro e w b h1 h2 h3
            obtain ⟨⟨c0, c1, c2, c3, c4⟩, f0, f1, f2, f3, f4⟩ := run_5 h3
            have h2' : e (.tmp 44) = .agg #[.int .i64 px, .int .i64 py, .bool ac, .int .i64 W, .int .i64 (0)] := h2
            apply Exists.intro
            apply And.intro
            · simp [execOp, go_sem, h1, h2', c0, c1, c2, c3, c4, f0, f1, f2, f3, f4, Try.underlying28]
              exact rfl
            · exact store_5 h3
          intro bq w5 hE5 hbq hX5
          have A5 := Lib.hid (show At w5 [(bq, Obj.cells #[.int .i64 px, .int .i64 py, .bool ac, .int .i64 W, .int .i64 (0)] 28), (w.heap.size + 1, Obj.cells #[.int .i64 t.len, .int .i64 t.grip, .int .i64 t.palm] 26), (w.heap.size, Obj.cells #[.int .i64 m.w, .int .i64 m.h, .slice ao m.pix.length cap] 24)] from ⟨hX5, At.ext hE5 hA.out⟩)
          obtain ⟨⟨y00, y01, y02, y03, y04⟩, -⟩ := run_5 (At.at A5.out 0 rfl)
          obtain ⟨⟨y10, y11, y12⟩, -⟩ := run_3 (At.at A5.out 1 rfl)
          obtain ⟨⟨y20, y21, y22⟩, -⟩ := run_3 (At.at A5.out 2 rfl)
          have yz0 := At.lt A5.out 0 rfl
          have yy0 := Nat.lt_succ_of_lt yz0
          have yx0 := Nat.lt_succ_of_lt yy0
          have yz1 := At.lt A5.out 1 rfl
          have yy1 := Nat.lt_succ_of_lt yz1
          have yx1 := Nat.lt_succ_of_lt yy1
          have yz2 := At.lt A5.out 2 rfl
          have yy2 := Nat.lt_succ_of_lt yz2
          have yx2 := Nat.lt_succ_of_lt yy2
          have hwz : w.heap.size + 1 < wr.heap.size := At.lt hA.out 0 rfl
          have HLT := Lib.hid (fun g9 h9 => Nat.lt_of_lt_of_le (HLT.out g9 h9) hbq)
          have hwq : w.heap.size + 1 < bq := Nat.lt_of_lt_of_le hwz hbq
          clear hX5 hrem hquo hrem8 hac8 hwr
          by_cases har : m.Around t { x := px, y := py, across := ac, width := W, z := 0 } slack
          case neg =>
            have K55 := Lib.hid (fun w' (h : Ext wr w') => (K0.out w' h).mono fun _ _ h9 => BoolIs.no har h9)
            have HN := Lib.hid (show m.Try t slack (n * m.pix.length + k) none from .inr ⟨fun u hu => har (by
              have h9 := around_of_holds (g := m.key (n * m.pix.length + k)) HT.out.1.1 hsl.1 (by rw [HK.out]; exact ⟨Int.le_refl _, by show (0 : Int) ≤ 255; omega⟩) hu
              rw [HK.out] at h9
              exact h9), rfl⟩)
            unfold imgVal toolVal graspVal at K55
            dsimp only at K55
            clear har K0
            go_wp2_with (go_at_call 55; (with_reducible refine (K55.out _ hE5).mono ?_); rintro E w6 ⟨rfl, hb6⟩; have A6 := Lib.hid (show At w6 [(bq, Obj.cells #[.int .i64 px, .int .i64 py, .bool ac, .int .i64 W, .int .i64 (0)] 28), (w.heap.size + 1, Obj.cells #[.int .i64 t.len, .int .i64 t.grip, .int .i64 t.palm] 26), (w.heap.size, Obj.cells #[.int .i64 m.w, .int .i64 m.h, .slice ao m.pix.length cap] 24)] from At.ext hb6 A5.out); have E6 := Lib.hid (hE.out.trans (hE5.trans hb6)); have O6 := Lib.hid (owns_ext hO.out (hE5.trans hb6)); have hz6 := hb6.size; obtain ⟨⟨z00, z01, z02, z03, z04⟩, zf00, zf01, zf02, zf03, zf04⟩ := run_5 (At.at A6.out 0 rfl); obtain ⟨⟨z10, z11, z12⟩, zf10, zf11, zf12⟩ := run_3 (At.at A6.out 1 rfl); obtain ⟨⟨z20, z21, z22⟩, zf20, zf21, zf22⟩ := run_3 (At.at A6.out 2 rfl); have zz0 := At.lt A6.out 0 rfl; have zy0 := Nat.lt_succ_of_lt zz0; have zx0 := Nat.lt_succ_of_lt zy0; have zz1 := At.lt A6.out 1 rfl; have zy1 := Nat.lt_succ_of_lt zz1; have zx1 := Nat.lt_succ_of_lt zy1; have zz2 := At.lt A6.out 2 rfl; have zy2 := Nat.lt_succ_of_lt zz2; have zx2 := Nat.lt_succ_of_lt zy2)
            go_roundw
            case rel => exact ⟨k + 1, gs, by omega, by go_num, E6, Lib.hid (At.erase A6.out 0), O6, Lib.hid (by rw [(show n * m.pix.length + (k + 1) = (n * m.pix.length + k) + 1 by omega)]; exact gath_no hG.out HN.out)⟩
            case measure => simp [intOf]; omega
          have K55 := Lib.hid (fun w' (h : Ext wr w') => (K0.out w' h).mono fun _ _ h9 => BoolIs.yes har h9)
          unfold imgVal toolVal graspVal at K55
          dsimp only at K55
          clear har K0
          go_wp2_with (go_at_call 55; (with_reducible refine (K55.out _ hE5).mono ?_); rintro E w6 ⟨rfl, hb6⟩; have A6 := Lib.hid (show At w6 [(bq, Obj.cells #[.int .i64 px, .int .i64 py, .bool ac, .int .i64 W, .int .i64 (0)] 28), (w.heap.size + 1, Obj.cells #[.int .i64 t.len, .int .i64 t.grip, .int .i64 t.palm] 26), (w.heap.size, Obj.cells #[.int .i64 m.w, .int .i64 m.h, .slice ao m.pix.length cap] 24)] from At.ext hb6 A5.out); have E6 := Lib.hid (hE.out.trans (hE5.trans hb6)); have O6 := Lib.hid (owns_ext hO.out (hE5.trans hb6)); have hz6 := hb6.size; obtain ⟨⟨z00, z01, z02, z03, z04⟩, zf00, zf01, zf02, zf03, zf04⟩ := run_5 (At.at A6.out 0 rfl); obtain ⟨⟨z10, z11, z12⟩, zf10, zf11, zf12⟩ := run_3 (At.at A6.out 1 rfl); obtain ⟨⟨z20, z21, z22⟩, zf20, zf21, zf22⟩ := run_3 (At.at A6.out 2 rfl); have zz0 := At.lt A6.out 0 rfl; have zy0 := Nat.lt_succ_of_lt zz0; have zx0 := Nat.lt_succ_of_lt zy0; have zz1 := At.lt A6.out 1 rfl; have zy1 := Nat.lt_succ_of_lt zz1; have zx1 := Nat.lt_succ_of_lt zy1; have zz2 := At.lt A6.out 2 rfl; have zy2 := Nat.lt_succ_of_lt zz2; have zx2 := Nat.lt_succ_of_lt zy2)
          go_loopw [53] (fun _ wz => ∃ z : Int, 0 ≤ z ∧ z ≤ 256 ∧ Hid (Ext w wz) ∧ Hid (At wz [(bq, Obj.cells #[.int .i64 px, .int .i64 py, .bool ac, .int .i64 W, .int .i64 (z)] 28), (w.heap.size + 1, Obj.cells #[.int .i64 t.len, .int .i64 t.grip, .int .i64 t.palm] 26), (w.heap.size, Obj.cells #[.int .i64 m.w, .int .i64 m.h, .slice ao m.pix.length cap] 24)]) ∧ Hid (wz.ownsRow (w.heap.size + 1 + 1) 28 5 u9 gs.length (grasps gs)) ∧ Hid (∀ u, 0 ≤ u → u < z → ¬ m.Holds t { x := px, y := py, across := ac, width := W, z := u } slack)) (fun _ wz => (256 - intOf ((wz.cell? ⟨bq, 4, none⟩).getD undef)).toNat)
          case atStart => exact ⟨0, by omega, by omega, E6, A6, O6, Lib.hid (fun u u1 u2 => by omega)⟩
          case round =>
            clear A5 hE5 hbq hb
            obtain ⟨z, hz1', hz2', hEz, hAz, hOz, hN⟩ := hrel
            obtain ⟨⟨p00, p01, p02, p03, p04⟩, pf00, pf01, pf02, pf03, pf04⟩ := run_5 (At.at hAz.out 0 rfl)
            obtain ⟨⟨p10, p11, p12⟩, pf10, pf11, pf12⟩ := run_3 (At.at hAz.out 1 rfl)
            obtain ⟨⟨p20, p21, p22⟩, pf20, pf21, pf22⟩ := run_3 (At.at hAz.out 2 rfl)
            have pz0 := At.lt hAz.out 0 rfl
            have py0 := Nat.lt_succ_of_lt pz0
            have px0 := Nat.lt_succ_of_lt py0
            have pz1 := At.lt hAz.out 1 rfl
            have py1 := Nat.lt_succ_of_lt pz1
            have px1 := Nat.lt_succ_of_lt py1
            have pz2 := At.lt hAz.out 2 rfl
            have py2 := Nat.lt_succ_of_lt pz2
            have px2 := Nat.lt_succ_of_lt py2
            have hbq := At.lt hAz.out 0 rfl
            by_cases hz255 : z ≤ 255
            case neg =>
              have hz9 : z = 256 := by omega
              have HT := Lib.hid (show m.Try t slack (n * m.pix.length + k) none from .inr ⟨fun u hu => by
                rw [HK.out] at hu
                have h8 : 0 ≤ u ∧ u ≤ 255 := hu.2.1
                exact hN.out u h8.1 (by omega) hu, rfl⟩)
              clear hz9
              go_wp2
              go_roundw
              case rel => exact ⟨k + 1, gs, by omega, by go_num, hEz, Lib.hid (At.erase hAz.out 0), hOz, Lib.hid (by rw [(show n * m.pix.length + (k + 1) = (n * m.pix.length + k) + 1 by omega)]; exact gath_no hG.out HT.out)⟩
              case measure => simp [intOf]; omega
            have K0 := Lib.hid (fun w' (h : Ext w w') => c54 m _ t { x := px, y := py, across := ac, width := W, z := z } slack w' HC.out HT.out (HV.out.ext h) ⟨by show -1000 ≤ px ∧ px ≤ 1000; omega, by show -1000 ≤ py ∧ py ≤ 1000; omega⟩ hsl)
            by_cases hh : m.Holds t { x := px, y := py, across := ac, width := W, z := z } slack
            · have K54 := Lib.hid (fun w' (h : Ext w w') => (K0.out w' h).mono fun _ _ h9 => BoolIs.yes ((held_iff HT.out.1.1 hsl.1).2 hh) h9)
              have HH := Lib.hid (show m.Try t slack (n * m.pix.length + k) (some { x := px, y := py, across := ac, width := W, z := z }) from .inl ⟨z, by rw [HK.out]; exact hh, fun u hu => by
                rw [HK.out] at hu
                have h8 : 0 ≤ u ∧ u ≤ 255 := hu.2.1
                refine Classical.byContradiction fun h9 => hN.out u h8.1 (by omega) hu, by rw [HK.out]⟩)
              unfold imgVal toolVal graspVal at K54
              dsimp only at K54
              clear hh K0
              go_wp2_with (first | (go_at_call 54; (with_reducible refine (K54.out _ hEz.out).mono ?_); rintro E w7 ⟨rfl, hb7⟩; have A7 := Lib.hid (show At w7 [(bq, Obj.cells #[.int .i64 px, .int .i64 py, .bool ac, .int .i64 W, .int .i64 (z)] 28), (w.heap.size + 1, Obj.cells #[.int .i64 t.len, .int .i64 t.grip, .int .i64 t.palm] 26), (w.heap.size, Obj.cells #[.int .i64 m.w, .int .i64 m.h, .slice ao m.pix.length cap] 24)] from At.ext hb7 hAz.out); have E7 := Lib.hid (hEz.out.trans hb7); have O7 := Lib.hid (owns_ext hOz.out hb7); have hz7 := hb7.size; obtain ⟨⟨q00, q01, q02, q03, q04⟩, qf00, qf01, qf02, qf03, qf04⟩ := run_5 (At.at A7.out 0 rfl); obtain ⟨⟨q10, q11, q12⟩, qf10, qf11, qf12⟩ := run_3 (At.at A7.out 1 rfl); obtain ⟨⟨q20, q21, q22⟩, qf20, qf21, qf22⟩ := run_3 (At.at A7.out 2 rfl); have qz0 := At.lt A7.out 0 rfl; have qy0 := Nat.lt_succ_of_lt qz0; have qx0 := Nat.lt_succ_of_lt qy0; have qz1 := At.lt A7.out 1 rfl; have qy1 := Nat.lt_succ_of_lt qz1; have qx1 := Nat.lt_succ_of_lt qy1; have qz2 := At.lt A7.out 2 rfl; have qy2 := Nat.lt_succ_of_lt qz2; have qx2 := Nat.lt_succ_of_lt qy2) | (at_builtin; refine wpList_append_at rfl _ _ 35 rfl (w.heap.size + 1 + 1) 28 i0 (.agg #[.int .i64 0, .int .i64 0, .bool false, .int .i64 0, .int .i64 0]) 5 40 Try.underlying35 hi0 hz0 hz1 hz2 rfl (by omega) u9 gs.length (grasps gs) rfl (owns_ext O7.out ((Ext.refl _).alloc _)) _ 1 (graspCells { x := px, y := py, across := ac, width := W, z := z }) rfl (SlAt.lit_at _ (w7.heap.size) rfl (graspCells { x := px, y := py, across := ac, width := W, z := z }) 28 5 rfl) (grasps_one _) (by unfold maxLen; omega) (by omega) (by simp; omega) ?_; intro va w8 ho hg hat; have A8 := Lib.hid (show At w8 [(w.heap.size + 1, Obj.cells #[.int .i64 t.len, .int .i64 t.grip, .int .i64 t.palm] 26), (w.heap.size, Obj.cells #[.int .i64 m.w, .int .i64 m.h, .slice ao m.pix.length cap] 24)] from At.grown hg (At.alloc (At.erase A7.out 0) _) (by intro k9 hk9; simp only [List.map_cons, List.map_nil, List.mem_cons, List.not_mem_nil, or_false] at hk9; rcases hk9 with rfl | rfl; all_goals exact fun h9 => by have := (owns_block O7.out _ h9).1; omega)); have E8 := Lib.hid (((E7.out.alloc _)).grown hg (fun g9 h9 => by have := (owns_block O7.out g9 h9).1; omega)); have O8 := Lib.hid ho; clear ho hg hat))
              go_roundw
              case rel => exact ⟨k + 1, gs ++ [{ x := px, y := py, across := ac, width := W, z := z }], by omega, by go_num, E8, A8, Lib.hid (by rw [grasps_snoc, List.length_append]; exact O8.out), Lib.hid (by rw [(show n * m.pix.length + (k + 1) = (n * m.pix.length + k) + 1 by omega)]; exact gath_yes hG.out HH.out)⟩
              case measure => simp [intOf]; omega
            · have K54 := Lib.hid (fun w' (h : Ext w w') => (K0.out w' h).mono fun _ _ h9 => BoolIs.no (fun h8 => hh ((held_iff HT.out.1.1 hsl.1).1 h8)) h9)
              have HH := Lib.hid hh
              unfold imgVal toolVal graspVal at K54
              dsimp only at K54
              clear hh K0
              go_wp2_with (go_at_call 54; (with_reducible refine (K54.out _ hEz.out).mono ?_); rintro E w7 ⟨rfl, hb7⟩; have A7 := Lib.hid (show At w7 [(bq, Obj.cells #[.int .i64 px, .int .i64 py, .bool ac, .int .i64 W, .int .i64 (z)] 28), (w.heap.size + 1, Obj.cells #[.int .i64 t.len, .int .i64 t.grip, .int .i64 t.palm] 26), (w.heap.size, Obj.cells #[.int .i64 m.w, .int .i64 m.h, .slice ao m.pix.length cap] 24)] from At.ext hb7 hAz.out); have E7 := Lib.hid (hEz.out.trans hb7); have O7 := Lib.hid (owns_ext hOz.out hb7); have hz7 := hb7.size; obtain ⟨⟨q00, q01, q02, q03, q04⟩, qf00, qf01, qf02, qf03, qf04⟩ := run_5 (At.at A7.out 0 rfl); obtain ⟨⟨q10, q11, q12⟩, qf10, qf11, qf12⟩ := run_3 (At.at A7.out 1 rfl); obtain ⟨⟨q20, q21, q22⟩, qf20, qf21, qf22⟩ := run_3 (At.at A7.out 2 rfl); have qz0 := At.lt A7.out 0 rfl; have qy0 := Nat.lt_succ_of_lt qz0; have qx0 := Nat.lt_succ_of_lt qy0; have qz1 := At.lt A7.out 1 rfl; have qy1 := Nat.lt_succ_of_lt qz1; have qx1 := Nat.lt_succ_of_lt qy1; have qz2 := At.lt A7.out 2 rfl; have qy2 := Nat.lt_succ_of_lt qz2; have qx2 := Nat.lt_succ_of_lt qy2)
              have hA9 := Lib.hid (show At (w7.setCell ⟨bq, 4, none⟩ (.int .i64 (z + 1))) [(bq, Obj.cells #[.int .i64 px, .int .i64 py, .bool ac, .int .i64 W, .int .i64 (z + 1)] 28), (w.heap.size + 1, Obj.cells #[.int .i64 t.len, .int .i64 t.grip, .int .i64 t.palm] 26), (w.heap.size, Obj.cells #[.int .i64 m.w, .int .i64 m.h, .slice ao m.pix.length cap] 24)] from ⟨(st_one (At.at A7.out 0 rfl) 4 _).1, At.other (set_at _ _ _ _) (by simp; omega) (At.erase A7.out 0)⟩)
              go_roundw
              case rel => exact ⟨z + 1, by omega, by omega, Lib.hid (E7.out.setCell (p := ⟨bq, 4, none⟩) (show w.heap.size ≤ bq by omega) _), hA9, Lib.hid (owns_at O7.out (fun g9 hg9 => set_at _ _ _ _ g9 (by have := HLT.out g9 hg9; omega))), Lib.hid (fun u u1 u2 hu => by
                rcases Int.lt_or_le u z with h9 | h9
                · exact hN.out u u1 h9 hu
                · have : u = z := by omega
                  rw [this] at hu; exact HH.out hu)⟩
              case measure => rw [zOf (At.at hA9.out 0 rfl), zOf (At.at hAz.out 0 rfl)]; omega
        · have hkn : k = m.pix.length := by omega
          have HG2 := Lib.hid (show Gath (m.Try t slack) ((n + 1) * m.pix.length) gs from by rw [show (n + 1) * m.pix.length = n * m.pix.length + k by rw [hkn, Nat.succ_mul]]; exact hG.out)
          clear hkn
          obtain ⟨⟨x00, x01, x02⟩, -⟩ := run_3 (At.at hA.out 0 rfl)
          obtain ⟨⟨x10, x11, x12⟩, -⟩ := run_3 (At.at hA.out 1 rfl)
          have xz0 := At.lt hA.out 0 rfl
          have xy0 := Nat.lt_succ_of_lt xz0
          have xx0 := Nat.lt_succ_of_lt xy0
          have xz1 := At.lt hA.out 1 rfl
          have xy1 := Nat.lt_succ_of_lt xz1
          have xx1 := Nat.lt_succ_of_lt xy1
          go_wp2
          go_roundw
          case rel => exact ⟨n + 1, gs, by omega, by go_num, hE, hA, hO, HG2⟩
          case measure => simp [intOf]; omega
    · have hn9 : n = 16 := by omega
      have HG2 := Lib.hid (show Gath (m.Try t slack) (16 * m.pix.length) gs from hn9 ▸ hG.out)
      clear hn9
      go_wp2
      go_ret2
      exact ⟨_, gs, by rw [H0.out]; rfl, owns_base hO.out (by omega), fun _ => HG2.out, fun h => absurd H0.out h, hE.out⟩
end Go.Proofs.Ytipkjdfnoonpcaa
