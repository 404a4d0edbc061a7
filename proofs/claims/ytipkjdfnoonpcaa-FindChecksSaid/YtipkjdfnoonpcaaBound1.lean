/- The bound of an area: the program's walk. -/
import Derived.Test.YtipkjdfnoonpcaaSten
set_option linter.unusedVariables false
set_option linter.unusedSimpArgs false
namespace Go.Proofs.Ytipkjdfnoonpcaa
open Go.RowKit Go.Sort

def pt0 : Pt := ⟨0, 0, 0⟩
def PtsAt (w : World) (v : Value) (l : List Pt) : Prop := SlAt w 3 v l.length (pts l)
theorem PtsAt.ext {w w' : World} {v : Value} {l : List Pt} (h : PtsAt w v l) (hb : Ext w w') : PtsAt w' v l := SlAt.ext h hb
theorem pts_get (l : List Pt) : ∀ (i f : Nat), i < l.length → f < 3 → (pts l)[i * 3 + f]? = (ptCells (l.getD i pt0))[f]? := by
  induction l with
  | nil => intro i f h; simp at h
  | cons x l ih =>
    intro i f hi hf
    rw [pts, List.flatMap_cons]
    match i with
    | 0 =>
      rw [List.getElem?_append_left (by simp [ptCells]; omega)]
      simp
    | i + 1 =>
      rw [List.getElem?_append_right (by simp [ptCells]; omega)]
      have := ih i f (by simpa using hi) hf
      simp only [pts] at this
      simpa [ptCells, show (i + 1) * 3 + f - 3 = i * 3 + f by omega] using this
theorem PtsAt.form {w : World} {v : Value} {l : List Pt} (h : PtsAt w v l) :
    ∃ ao cap, v = .slice ao l.length cap ∧ cap ≤ maxLen ∧ ∀ j, j < l.length → ∃ b off, ao = some ⟨b, off, none⟩ ∧ w.cell? ⟨b, off + j * 3, none⟩ = some (.int .i64 (l.getD j pt0).x) ∧ w.cell? ⟨b, off + j * 3 + 1, none⟩ = some (.int .i64 (l.getD j pt0).y) ∧ w.cell? ⟨b, off + j * 3 + 2, none⟩ = some (.int .i64 (l.getD j pt0).v) := by
  obtain ⟨h1, ao, cap, h2, h3, h4, h5, h6⟩ := h
  refine ⟨ao, cap, h2, h4, fun j hj => ?_⟩
  obtain ⟨b, off, e0, c0⟩ := h6 (j * 3 + 0) _ (by rw [pts_get l j 0 hj (by omega)]; rfl)
  obtain ⟨b1, off1, e1, c1⟩ := h6 (j * 3 + 1) _ (by rw [pts_get l j 1 hj (by omega)]; rfl)
  obtain ⟨b2, off2, e2, c2⟩ := h6 (j * 3 + 2) _ (by rw [pts_get l j 2 hj (by omega)]; rfl)
  rw [e0] at e1 e2
  cases e1
  cases e2
  exact ⟨b, off, e0, c0, c1, c2⟩
theorem getD_mem_pt {l : List Pt} {k : Nat} (h : k < l.length) : l.getD k pt0 ∈ l := by
  rw [List.getD_eq_getElem?_getD, List.getElem?_eq_getElem h]
  exact List.getElem_mem h
theorem take_snoc_pt {l : List Pt} {k : Nat} (h : k < l.length) : l.take (k + 1) = l.take k ++ [l.getD k pt0] := by
  rw [List.take_succ_eq_append_getElem h, List.getD_eq_getElem?_getD, List.getElem?_eq_getElem h]; rfl
/-- the least so far: rows from ylo to before y, and in row y columns before x -/
def Clip (d : Int → Int → Int) (xlo xhi ylo y x ln : Int) : Prop :=
  ∀ c, c ≤ ln ↔ c ≤ 255 ∧ (∀ Y, ylo ≤ Y → Y < y → ∀ X, xlo ≤ X → X ≤ xhi → c ≤ d X Y) ∧ ∀ X, xlo ≤ X → X < x → c ≤ d X y
theorem clip_start (d : Int → Int → Int) (xlo xhi ylo : Int) : Clip d xlo xhi ylo ylo xlo 255 := fun c => ⟨fun h => ⟨h, fun Y h1 h2 => by omega, fun X h1 h2 => by omega⟩, fun h => h.1⟩
theorem clip_step {d : Int → Int → Int} {xlo xhi ylo y x ln : Int} (hx : xlo ≤ x) (h : Clip d xlo xhi ylo y x ln) : Clip d xlo xhi ylo y (x + 1) (min ln (d x y)) := fun c => by
  rw [Int.le_min, h c]
  constructor
  · rintro ⟨⟨h1, h2, h3⟩, h4⟩
    refine ⟨h1, h2, fun X k1 k2 => ?_⟩
    rcases Int.lt_or_le X x with h9 | h9
    · exact h3 X k1 h9
    · have : X = x := by omega
      rw [this]; exact h4
  · rintro ⟨h1, h2, h3⟩
    exact ⟨⟨h1, h2, fun X k1 k2 => h3 X k1 (by omega)⟩, h3 x hx (by omega)⟩
theorem clip_row {d : Int → Int → Int} {xlo xhi ylo y x ln : Int} (hy : ylo ≤ y) (hx : xhi < x) (hx2 : x ≤ xhi + 1 ∨ x ≤ xlo) (h : Clip d xlo xhi ylo y x ln) : Clip d xlo xhi ylo (y + 1) xlo ln := fun c => by
  rw [h c]
  constructor
  · rintro ⟨h1, h2, h3⟩
    refine ⟨h1, fun Y k1 k2 X j1 j2 => ?_, fun X k1 k2 => by omega⟩
    rcases Int.lt_or_le Y y with h9 | h9
    · exact h2 Y k1 h9 X j1 j2
    · have : Y = y := by omega
      rw [this]; exact h3 X j1 (by omega)
  · rintro ⟨h1, h2, h3⟩
    refine ⟨h1, fun Y k1 k2 X j1 j2 => h2 Y k1 (by omega) X j1 j2, fun X k1 k2 => ?_⟩
    exact h2 y hy (by omega) X k1 (by omega)
theorem clip_end {m : Img} {px py pv x0 y0 x1 y1 xlo xhi ylo yhi y ln : Int} (hm : m.Camera) (hp : 0 ≤ pv ∧ pv ≤ 255) (h1 : Hid (max (y0 + py) 0 = ylo)) (h2 : Hid (min (y1 + py) (m.h - 1) = yhi)) (h3 : Hid (max (x0 + px) 0 = xlo)) (h4 : Hid (min (x1 + px) (m.w - 1) = xhi))
    (hy : ylo ≤ y) (hy2 : yhi < y) (hy3 : y ≤ yhi + 1 ∨ y ≤ ylo) (h : Clip (fun X Y => max (pv - m.at X Y) (-(pv - m.at X Y))) xlo xhi ylo y xlo ln) : ln = least m ⟨px, py, pv⟩ x0 y0 x1 y1 := by
  have h1 := h1.out
  have h2 := h2.out
  have h3 := h3.out
  have h4 := h4.out
  refine eq_of_le_iff fun c => ?_
  by_cases hc : c ≤ 255
  case neg =>
    have k1 := ((h ln).1 (Int.le_refl _)).1
    have k2 := least_le m ⟨px, py, pv⟩ x0 y0 x1 y1
    constructor <;> intro h9 <;> omega
  rw [le_least hc, h c]
  constructor
  · rintro ⟨_, k, _⟩ y' j1 j2 x' i1 i2
    unfold adds
    split
    · rename_i hin
      obtain ⟨⟨g1, g2⟩, g3, g4⟩ := hin
      dsimp only at g1 g2 g3 g4
      exact k (y' + py) (by omega) (by omega) (x' + px) (by omega) (by omega)
    · exact hc
  · intro k
    refine ⟨hc, fun Y j1 j2 X i1 i2 => ?_, fun X j1 j2 => by omega⟩
    have h9 := k (Y - py) (by omega) (by omega) (X - px) (by omega) (by omega)
    unfold adds at h9
    dsimp only at h9
    rw [show X - px + px = X by omega, show Y - py + py = Y by omega, if_pos ⟨⟨by omega, by omega⟩, by omega, by omega⟩] at h9
    exact h9
set_option maxRecDepth 100000 in
set_option maxHeartbeats 16000000 in
theorem c70 (m : Img) (v : Value) (s : List Pt) (sv : Value) (a : Area) (w : World) (hm : m.Camera) (hv : IntsAt w v m.pix) (hs : PtsAt w sv s) (ha : a.Ok m) (hsl : s.length ≤ 64) (hb : ∀ p ∈ s, -20 ≤ p.x ∧ p.x ≤ 20 ∧ -20 ≤ p.y ∧ p.y ≤ 20 ∧ 0 ≤ p.v ∧ p.v ≤ 255) :
    Calls Try.prog 70 #[sv, imgVal m v, .agg #[.int .i64 a.x0, .int .i64 a.y0, .int .i64 a.x1, .int .i64 a.y1, .int .i64 a.turn, .int .i64 a.scale]] w fun e w' => e = .returned (.int .i64 (sumL (fun p => least m p a.x0 a.y0 a.x1 a.y1) s)) ∧ Ext w w' := by
  have HM := Lib.hid hm
  have HB := Lib.hid hb
  obtain ⟨ao, cap, rfl, -, hc⟩ := hv.form
  obtain ⟨po, pc, rfl, -, hpp⟩ := hs.form
  have HC := Lib.hid hc
  have HP0 := Lib.hid hpp
  obtain ⟨⟨a1, a2, a3⟩, ⟨a4, a5, a6⟩, -⟩ := ha
  obtain ⟨⟨w1, w2⟩, ⟨w3, w4⟩, -⟩ := hm.1
  obtain ⟨n1, n2⟩ := Img.len_bd hm.1
  unfold imgVal
  clear hv hs hc hpp hm hb
  go_enter Try.func70, Try.ntmps70
  go_wp2
  go_loopw [7, 16] (fun sv iv wr => ∃ (k : Nat) (sm : Int), k ≤ s.length ∧ iv = .int .i64 (k : Int) ∧ sv = .int .i64 sm ∧ 0 ≤ sm ∧ sm ≤ 255 * k ∧ Hid (Ext w wr) ∧ Hid (At wr [(w.heap.size + 1, Obj.cells #[.int .i64 a.x0, .int .i64 a.y0, .int .i64 a.x1, .int .i64 a.y1, .int .i64 a.turn, .int .i64 a.scale] 47), (w.heap.size, Obj.cells #[.int .i64 m.w, .int .i64 m.h, .slice ao m.pix.length cap] 24)]) ∧ Hid (sumL (fun p => least m p a.x0 a.y0 a.x1 a.y1) (s.take k) = sm)) (fun _ iv _ => s.length - (intOf iv).toNat)
  case atStart => exact ⟨0, 0, by omega, rfl, rfl, by omega, by omega, Lib.hid (by repeat (first | exact Ext.refl _ | assumption | refine Ext.alloc ?_ _ | refine Ext.drewN ?_ _ | refine ext_grow ?_ _ _ | refine Ext.trans ?_ (by assumption))), Lib.hid ⟨(by repeat (first | (refine blk_at _ _ ?_; (first | rfl | (simp only [size_one]; done))) | refine (blk_past _ _ (by simp only [size_one]; omega)).trans ?_)), (by repeat (first | (refine blk_at _ _ ?_; (first | rfl | (simp only [size_one]; done))) | refine (blk_past _ _ (by simp only [size_one]; omega)).trans ?_)), trivial⟩, Lib.hid rfl⟩
  case round =>
    obtain ⟨k, sm, hk, rfl, rfl, s1, s2, hE, hA, hSM⟩ := hrel
    obtain ⟨⟨v00, v01, v02, v03, v04, v05⟩, -⟩ := run_6 (At.at hA.out 0 rfl)
    obtain ⟨⟨v10, v11, v12⟩, -⟩ := run_3 (At.at hA.out 1 rfl)
    have vz0 := At.lt hA.out 0 rfl
    have vy0 := Nat.lt_succ_of_lt vz0
    have vx0 := Nat.lt_succ_of_lt vy0
    have vz1 := At.lt hA.out 1 rfl
    have vy1 := Nat.lt_succ_of_lt vz1
    have vx1 := Nat.lt_succ_of_lt vy1
    have HSM := hSM
    by_cases hkl : k < s.length
    · obtain ⟨gb, go, rfl, c0, c1, c2⟩ := HP0.out k hkl
      have c0 := hE.out.get c0
      have c1 := hE.out.get c1
      have c2 := hE.out.get c2
      have zc := World.block_lt_of_cell? _ _ c0
      simp only at zc
      obtain ⟨bx1, bx2, by1, by2, pv1, pv2⟩ := HB.out _ (getD_mem_pt hkl)
      obtain ⟨⟨px, py, pv⟩, hp⟩ : ∃ p, s.getD k pt0 = p := ⟨_, rfl⟩
      rw [hp] at c0 c1 c2 bx1 bx2 by1 by2 pv1 pv2
      dsimp only at c0 c1 c2 bx1 bx2 by1 by2 pv1 pv2
      have HP := Lib.hid hp
      clear hp
      obtain ⟨ylo, hylo⟩ : ∃ z, max (a.y0 + py) 0 = z := ⟨_, rfl⟩
      obtain ⟨yhi, hyhi⟩ : ∃ z, min (a.y1 + py) (m.h - 1) = z := ⟨_, rfl⟩
      obtain ⟨xlo, hxlo⟩ : ∃ z, max (a.x0 + px) 0 = z := ⟨_, rfl⟩
      obtain ⟨xhi, hxhi⟩ : ∃ z, min (a.x1 + px) (m.w - 1) = z := ⟨_, rfl⟩
      have n1 : (if a.y0 + py < 0 then 0 else a.y0 + py) = ylo := by rw [← hylo]; split <;> omega
      have n2 : (if m.h - 1 < a.y1 + py then m.h - 1 else a.y1 + py) = yhi := by rw [← hyhi]; split <;> omega
      have n3 : (if a.y1 + py < m.h - 1 then a.y1 + py else m.h - 1) = yhi := by rw [← hyhi]; split <;> omega
      have n4 : (if a.x0 + px < 0 then 0 else a.x0 + px) = xlo := by rw [← hxlo]; split <;> omega
      have n5 : (if m.w - 1 < a.x1 + px then m.w - 1 else a.x1 + px) = xhi := by rw [← hxhi]; split <;> omega
      have n6 : (if a.x1 + px < m.w - 1 then a.x1 + px else m.w - 1) = xhi := by rw [← hxhi]; split <;> omega
      have n7 : 0 ≤ ylo := by omega
      have n8 : yhi ≤ m.h - 1 := by omega
      have n9 : 0 ≤ xlo := by omega
      have n10 : xhi ≤ m.w - 1 := by omega
      have n11 : ylo ≤ 40 := by omega
      have n12 : xlo ≤ 40 := by omega
      have n13 : -40 ≤ yhi := by omega
      have n14 : -40 ≤ xhi := by omega
      have hkli : (k : Int) < (s.length : Int) := by omega
      replace hylo := Lib.hid hylo
      replace hyhi := Lib.hid hyhi
      replace hxlo := Lib.hid hxlo
      replace hxhi := Lib.hid hxhi
      go_wp2
      obtain ⟨BX, hBX⟩ : ∃ BX, wr.heap.size = BX := ⟨_, rfl⟩
      obtain ⟨wo, hwo⟩ : ∃ wo : World, wo = wr := ⟨_, rfl⟩
      subst hwo
      have AB := Lib.hid (show At (wo.alloc (Obj.cells #[.int .i64 px, .int .i64 py, .int .i64 pv] 141)) [(BX, Obj.cells #[.int .i64 px, .int .i64 py, .int .i64 pv] 141), (w.heap.size + 1, Obj.cells #[.int .i64 a.x0, .int .i64 a.y0, .int .i64 a.x1, .int .i64 a.y1, .int .i64 a.turn, .int .i64 a.scale] 47), (w.heap.size, Obj.cells #[.int .i64 m.w, .int .i64 m.h, .slice ao m.pix.length cap] 24)] from ⟨blk_at _ _ hBX.symm, At.alloc hA.out _⟩)
      have EB := Lib.hid (hE.out.alloc (Obj.cells #[.int .i64 px, .int .i64 py, .int .i64 pv] 141))
      clear v00 v01 v02 v03 v04 v05 v10 v11 v12 vz0 vy0 vx0 vz1 vy1 vx1
      clear c0 c1 c2 zc
      rw [hBX]
      go_loopw [10, 11] (fun lv yv wr => ∃ y ln : Int, ylo ≤ y ∧ (y ≤ yhi + 1 ∨ y ≤ ylo) ∧ yv = .int .i64 y ∧ lv = .int .i64 ln ∧ 0 ≤ ln ∧ ln ≤ 255 ∧ Hid (Ext w wr) ∧ Hid (At wr [(BX, Obj.cells #[.int .i64 px, .int .i64 py, .int .i64 pv] 141), (w.heap.size + 1, Obj.cells #[.int .i64 a.x0, .int .i64 a.y0, .int .i64 a.x1, .int .i64 a.y1, .int .i64 a.turn, .int .i64 a.scale] 47), (w.heap.size, Obj.cells #[.int .i64 m.w, .int .i64 m.h, .slice ao m.pix.length cap] 24)]) ∧ Hid (Clip (fun X Y => max (pv - m.at X Y) (-(pv - m.at X Y))) xlo xhi ylo y xlo ln)) (fun _ yv _ => (yhi + 1 - intOf yv).toNat)
      case atStart => exact ⟨ylo, 255, by omega, by omega, rfl, rfl, by omega, by omega, EB, AB, Lib.hid (clip_start _ _ _ _)⟩
      case round =>
        clear hE hA AB EB hBX hSM
        obtain ⟨y, ln, hy1, hy2, rfl, rfl, l1, l2, hE, hA, hL⟩ := hrel
        obtain ⟨⟨x00, x01, x02⟩, -⟩ := run_3 (At.at hA.out 0 rfl)
        obtain ⟨⟨x10, x11, x12, x13, x14, x15⟩, -⟩ := run_6 (At.at hA.out 1 rfl)
        obtain ⟨⟨x20, x21, x22⟩, -⟩ := run_3 (At.at hA.out 2 rfl)
        have xz0 := At.lt hA.out 0 rfl
        have xy0 := Nat.lt_succ_of_lt xz0
        have xx0 := Nat.lt_succ_of_lt xy0
        have xz1 := At.lt hA.out 1 rfl
        have xy1 := Nat.lt_succ_of_lt xz1
        have xx1 := Nat.lt_succ_of_lt xy1
        have xz2 := At.lt hA.out 2 rfl
        have xy2 := Nat.lt_succ_of_lt xz2
        have xx2 := Nat.lt_succ_of_lt xy2
        by_cases hyy : y ≤ yhi
        · go_wp2
          clear x00 x01 x02 x10 x11 x12 x13 x14 x15 x20 x21 x22 xz0 xy0 xx0 xz1 xy1 xx1 xz2 xy2 xx2
          obtain ⟨wp, hwp⟩ : ∃ wp : World, wp = wr := ⟨_, rfl⟩
          subst hwp
          go_loopw [10, 12] (fun lv xv wr => ∃ x ln : Int, xlo ≤ x ∧ (x ≤ xhi + 1 ∨ x ≤ xlo) ∧ xv = .int .i64 x ∧ lv = .int .i64 ln ∧ 0 ≤ ln ∧ ln ≤ 255 ∧ Hid (Ext w wr) ∧ Hid (At wr [(BX, Obj.cells #[.int .i64 px, .int .i64 py, .int .i64 pv] 141), (w.heap.size + 1, Obj.cells #[.int .i64 a.x0, .int .i64 a.y0, .int .i64 a.x1, .int .i64 a.y1, .int .i64 a.turn, .int .i64 a.scale] 47), (w.heap.size, Obj.cells #[.int .i64 m.w, .int .i64 m.h, .slice ao m.pix.length cap] 24)]) ∧ Hid (Clip (fun X Y => max (pv - m.at X Y) (-(pv - m.at X Y))) xlo xhi ylo y x ln)) (fun _ xv _ => (xhi + 1 - intOf xv).toNat)
          case atStart => exact ⟨xlo, ln, by omega, by omega, rfl, rfl, l1, l2, hE, hA, hL⟩
          case round =>
            clear hE hA hL l1 l2
            obtain ⟨x, ln, hx1, hx2, rfl, rfl, l1, l2, hE, hA, hL⟩ := hrel
            obtain ⟨⟨x00, x01, x02⟩, -⟩ := run_3 (At.at hA.out 0 rfl)
            obtain ⟨⟨x10, x11, x12, x13, x14, x15⟩, -⟩ := run_6 (At.at hA.out 1 rfl)
            obtain ⟨⟨x20, x21, x22⟩, -⟩ := run_3 (At.at hA.out 2 rfl)
            have xz0 := At.lt hA.out 0 rfl
            have xy0 := Nat.lt_succ_of_lt xz0
            have xx0 := Nat.lt_succ_of_lt xy0
            have xz1 := At.lt hA.out 1 rfl
            have xy1 := Nat.lt_succ_of_lt xz1
            have xx1 := Nat.lt_succ_of_lt xy1
            have xz2 := At.lt hA.out 2 rfl
            have xy2 := Nat.lt_succ_of_lt xz2
            have xx2 := Nat.lt_succ_of_lt xy2
            by_cases hxx : x ≤ xhi
            · have hin : m.In x y := ⟨⟨by omega, by omega⟩, by omega, by omega⟩
              obtain ⟨i1, i2, i3, i4⟩ := Img.idx HM.out.1 hin
              obtain ⟨r1, r2⟩ := Img.at_bd HM.out hin
              obtain ⟨b9, off9, rfl, c0⟩ := HC.out (y * m.w + x).toNat (by omega)
              have e9 : m.pix.getD (y * m.w + x).toNat 0 = m.at x y := rfl
              rw [e9] at c0
              have c0 := hE.out.get c0
              have zc := World.block_lt_of_cell? _ _ c0
              simp only at zc
              obtain ⟨r, hr⟩ : ∃ r, m.at x y = r := ⟨_, rfl⟩
              rw [hr] at c0 r1 r2
              have HR := Lib.hid hr
              clear hr e9 hin
              obtain ⟨ab, hab⟩ : ∃ ab, max (pv - r) (-(pv - r)) = ab := ⟨_, rfl⟩
              obtain ⟨l3, hl3⟩ : ∃ l3, min ln ab = l3 := ⟨_, rfl⟩
              have m1 : (if pv - r < -(pv - r) then -(pv - r) else pv - r) = ab := by rw [← hab]; split <;> omega
              have m2 : (if ab < ln then ab else ln) = l3 := by rw [← hl3]; split <;> omega
              have m3 : (if ln < ab then ln else ab) = l3 := by rw [← hl3]; split <;> omega
              have ab1 : 0 ≤ ab := by omega
              have ab2 : ab ≤ 255 := by omega
              have l31 : 0 ≤ l3 := by omega
              have l32 : l3 ≤ 255 := by omega
              have wa : IntKind.i64.wrap (y * m.w) = y * m.w := IntWalk.i64_in _ (by omega)
              have wb : IntKind.i64.wrap (y * m.w + x) = y * m.w + x := IntWalk.i64_in _ (by omega)
              have wc : IntKind.i64.wrap (pv - r) = pv - r := IntWalk.i64_in _ (by omega)
              have hi2 : y * m.w + x < (m.pix.length : Int) := i2
              have HS := Lib.hid (show Clip (fun X Y => max (pv - m.at X Y) (-(pv - m.at X Y))) xlo xhi ylo y (x + 1) l3 from by
                have := clip_step hx1 hL.out
                rw [HR.out, hab, hl3] at this
                exact this)
              clear hab hl3
              go_wp2
              go_quiet (fail)
              have hb6 : Ext wr (wr.drewN nq) := (Ext.refl _).drewN nq
              generalize hw6 : wr.drewN nq = w6 at hb6 ⊢
              clear hw6 wa wb wc
              have A6 := Lib.hid (show At w6 [(BX, Obj.cells #[.int .i64 px, .int .i64 py, .int .i64 pv] 141), (w.heap.size + 1, Obj.cells #[.int .i64 a.x0, .int .i64 a.y0, .int .i64 a.x1, .int .i64 a.y1, .int .i64 a.turn, .int .i64 a.scale] 47), (w.heap.size, Obj.cells #[.int .i64 m.w, .int .i64 m.h, .slice (some ⟨b9, off9, none⟩) m.pix.length cap] 24)] from At.ext hb6 hA.out)
              obtain ⟨⟨y00, y01, y02⟩, -⟩ := run_3 (At.at A6.out 0 rfl)
              obtain ⟨⟨y10, y11, y12, y13, y14, y15⟩, -⟩ := run_6 (At.at A6.out 1 rfl)
              obtain ⟨⟨y20, y21, y22⟩, -⟩ := run_3 (At.at A6.out 2 rfl)
              have yz0 := At.lt A6.out 0 rfl
              have yy0 := Nat.lt_succ_of_lt yz0
              have yx0 := Nat.lt_succ_of_lt yy0
              have yz1 := At.lt A6.out 1 rfl
              have yy1 := Nat.lt_succ_of_lt yz1
              have yx1 := Nat.lt_succ_of_lt yy1
              have yz2 := At.lt A6.out 2 rfl
              have yy2 := Nat.lt_succ_of_lt yz2
              have yx2 := Nat.lt_succ_of_lt yy2
              go_wp2
              go_roundw
              case rel => exact ⟨x + 1, l3, by omega, by omega, rfl, rfl, by omega, by omega, Lib.hid (hE.out.trans hb6), A6, HS⟩
              case measure => simp [intOf]; omega
            · have HS := Lib.hid (show Clip (fun X Y => max (pv - m.at X Y) (-(pv - m.at X Y))) xlo xhi ylo (y + 1) xlo ln from clip_row hy1 (by omega) hx2 hL.out)
              go_wp2
              go_roundw
              case rel => exact ⟨y + 1, ln, by omega, by omega, rfl, rfl, by omega, by omega, hE, hA, HS⟩
              case measure => simp [intOf]; omega
        · have HS := Lib.hid (show sumL (fun p => least m p a.x0 a.y0 a.x1 a.y1) (s.take (k + 1)) = sm + ln from by
            rw [take_snoc_pt hkl, sumL_snoc, HSM.out, HP.out]
            congr 1
            exact (clip_end HM.out ⟨pv1, pv2⟩ hylo hyhi hxlo hxhi hy1 (by omega) hy2 hL.out).symm)
          go_wp2
          go_roundw
          case rel => exact ⟨k + 1, sm + ln, by omega, by go_num, rfl, by omega, by omega, hE, Lib.hid (At.erase hA.out 0), HS⟩
          case measure => simp [intOf]; omega
    · have hkk : k = s.length := by omega
      have HF := Lib.hid (show sumL (fun p => least m p a.x0 a.y0 a.x1 a.y1) s = sm from by have h9 := hSM.out; rw [hkk, List.take_length] at h9; exact h9)
      clear hkk
      go_wp2
      go_ret
      exact ⟨ret_int HF.out.symm, hE.out⟩
end Go.Proofs.Ytipkjdfnoonpcaa
