/- Layer 7's images, tools and grasps as plain data; when a grasp holds. No program in sight. -/
import Derived.Test.YtipkjdfnoonpcaaBase
set_option linter.unusedVariables false
set_option linter.unusedSimpArgs false
namespace Go.Proofs.Ytipkjdfnoonpcaa
open Go.RowKit Go.Sort

structure Img where
  w : Int
  h : Int
  pix : List Int

def Img.Sized (m : Img) : Prop := (1 ≤ m.w ∧ m.w ≤ 16) ∧ (1 ≤ m.h ∧ m.h ≤ 16) ∧ (m.pix.length : Int) = m.w * m.h
instance (m : Img) : Decidable m.Sized := by unfold Img.Sized; infer_instance
/-- all numbers lie in a range -/
def allIn (lo hi : Int) (l : List Int) : Prop := ∀ n ∈ l, lo ≤ n ∧ n ≤ hi
instance (lo hi : Int) (l : List Int) : Decidable (allIn lo hi l) := by unfold allIn; infer_instance
def Img.Valid (m : Img) : Prop := m.Sized ∧ allIn (-2147483648) 2147483648 m.pix
instance (m : Img) : Decidable m.Valid := by unfold Img.Valid; infer_instance
def Img.Camera (m : Img) : Prop := m.Sized ∧ allIn 0 255 m.pix
instance (m : Img) : Decidable m.Camera := by unfold Img.Camera; infer_instance
theorem Img.camera_iff (m : Img) : m.Camera ↔ m.Valid ∧ allIn 0 255 m.pix := by
  unfold Img.Camera Img.Valid
  constructor
  · rintro ⟨h1, h2⟩
    exact ⟨⟨h1, fun n hn => by have := h2 n hn; omega⟩, h2⟩
  · rintro ⟨⟨h1, _⟩, h2⟩
    exact ⟨h1, h2⟩
theorem Img.len_bd {m : Img} (h : m.Sized) : 1 ≤ m.pix.length ∧ m.pix.length ≤ 256 := by
  obtain ⟨⟨h1, h2⟩, ⟨h3, h4⟩, h5⟩ := h
  have a : 1 * 1 ≤ m.w * m.h := Int.mul_le_mul h1 h3 (by omega) (by omega)
  have b : m.w * m.h ≤ 16 * 16 := Int.mul_le_mul h2 h4 (by omega) (by omega)
  omega
def Img.In (m : Img) (x y : Int) : Prop := (0 ≤ x ∧ x ≤ m.w - 1) ∧ (0 ≤ y ∧ y ≤ m.h - 1)
instance (m : Img) (x y : Int) : Decidable (m.In x y) := by unfold Img.In; infer_instance
def Img.at (m : Img) (x y : Int) : Int := m.pix.getD (y * m.w + x).toNat 0
theorem Img.idx {m : Img} (h : m.Sized) {x y : Int} (hi : m.In x y) : 0 ≤ y * m.w + x ∧ y * m.w + x < m.pix.length ∧ y * m.w ≤ 240 ∧ 0 ≤ y * m.w := by
  obtain ⟨⟨h1, h2⟩, ⟨h3, h4⟩, h5⟩ := h
  obtain ⟨⟨a1, a2⟩, b1, b2⟩ := hi
  have e0 : 0 ≤ y * m.w := Int.mul_nonneg b1 (by omega)
  have e1 : y * m.w ≤ (m.h - 1) * m.w := Int.mul_le_mul_of_nonneg_right b2 (by omega)
  have e2 : (m.h - 1) * m.w = m.w * m.h - m.w := by rw [Int.sub_mul, Int.mul_comm m.h, Int.one_mul]
  have e3 : y * m.w ≤ 15 * 16 := Int.mul_le_mul (by omega) h2 (by omega) (by omega)
  omega
theorem Img.at_bd {m : Img} (h : m.Camera) {x y : Int} (hi : m.In x y) : 0 ≤ m.at x y ∧ m.at x y ≤ 255 := by
  have hx := Img.idx h.1 hi
  refine h.2 _ ?_
  unfold Img.at
  rw [List.getD_eq_getElem?_getD, List.getElem?_eq_getElem (by omega)]
  exact List.getElem_mem _

/-! ### views -/
/-- with columns and rows exchanged, if 'a' -/
def Img.vin (m : Img) (a : Bool) (x y : Int) : Prop := if a then m.In y x else m.In x y
instance (m : Img) (a : Bool) (x y : Int) : Decidable (m.vin a x y) := by unfold Img.vin; infer_instance
def Img.vat (m : Img) (a : Bool) (x y : Int) : Int := if a then m.at y x else m.at x y
theorem Img.vat_bd {m : Img} (h : m.Camera) {a : Bool} {x y : Int} (hi : m.vin a x y) : 0 ≤ m.vat a x y ∧ m.vat a x y ≤ 255 := by
  cases a
  · exact Img.at_bd h hi
  · exact Img.at_bd h hi

/-- one row of a grasp: the cells from -1 to the width are pixels, the fingers' heights are at most z, and the lane's greatest is from z + grip to z + palm -/
def Img.row (m : Img) (a : Bool) (palm grip width z x y : Int) : Prop :=
  (∀ o, -1 ≤ o → o ≤ width → m.vin a (x + o) y) ∧ m.vat a (x + -1) y ≤ z ∧ m.vat a (x + width) y ≤ z ∧ (∀ o, 0 ≤ o → o < width → m.vat a (x + o) y ≤ z + palm) ∧ (∃ o, 0 ≤ o ∧ o < width ∧ z + grip ≤ m.vat a (x + o) y)
def Img.holds (m : Img) (a : Bool) (len palm grip width slack x y z : Int) : Prop :=
  (0 ≤ z ∧ z ≤ 255) ∧ ∀ dy, -slack ≤ dy → dy < len + slack → ∀ dx, -slack ≤ dx → dx ≤ slack → m.row a palm grip width z (x + dx) (y + dy)

/-! ### the program's loops, step by step -/
/-- behind the rows before 'dy' and, in row 'dy', the columns before 'dx' -/
def Img.upto (m : Img) (a : Bool) (palm grip width slack x y dy dx z : Int) : Prop :=
  (0 ≤ z ∧ z ≤ 255) ∧ (∀ e, -slack ≤ e → e < dy → ∀ d, -slack ≤ d → d ≤ slack → m.row a palm grip width z (x + d) (y + e)) ∧ ∀ d, -slack ≤ d → d < dx → m.row a palm grip width z (x + d) (y + dy)
/-- the range of z, as two numbers -/
def Rng (lo hi : Int) (p : Int → Prop) : Prop := (0 ≤ lo ∧ lo ≤ 255) ∧ (-255 ≤ hi ∧ hi ≤ 255) ∧ ∀ z, (lo ≤ z ∧ z ≤ hi) ↔ p z
theorem rng_start (m : Img) (a : Bool) (palm grip width slack x y : Int) : Rng 0 255 (m.upto a palm grip width slack x y (-slack) (-slack)) := by
  refine ⟨by omega, by omega, fun z => ⟨fun h => ⟨h, fun e h1 h2 => by omega, fun d h1 h2 => by omega⟩, fun h => h.1⟩⟩
theorem rng_row {m : Img} {a : Bool} {palm grip width slack x y dy lo hi : Int} (hd : -slack ≤ dy) (hs : 0 ≤ slack) (h : Rng lo hi (m.upto a palm grip width slack x y dy (slack + 1))) : Rng lo hi (m.upto a palm grip width slack x y (dy + 1) (-slack)) := by
  refine ⟨h.1, h.2.1, fun z => (h.2.2 z).trans ⟨fun ⟨h1, h2, h3⟩ => ⟨h1, fun e e1 e2 d d1 d2 => ?_, fun d d1 d2 => by omega⟩, fun ⟨h1, h2, h3⟩ => ⟨h1, fun e e1 e2 d d1 d2 => h2 e e1 (by omega) d d1 d2, fun d d1 d2 => h2 dy hd (by omega) d d1 (by omega)⟩⟩⟩
  rcases Int.lt_or_le e dy with h9 | h9
  · exact h2 e e1 h9 d d1 d2
  · obtain rfl : e = dy := by omega
    exact h3 d d1 (by omega)
theorem rng_end {m : Img} {a : Bool} {len palm grip width slack x y dy lo hi : Int} (hd : dy = len + slack) (h : Rng lo hi (m.upto a palm grip width slack x y dy (-slack))) : Rng lo hi (m.holds a len palm grip width slack x y) := by
  subst hd
  exact ⟨h.1, h.2.1, fun z => (h.2.2 z).trans ⟨fun ⟨h1, h2, _⟩ => ⟨h1, h2⟩, fun ⟨h1, h2⟩ => ⟨h1, h2, fun d d1 d2 => by omega⟩⟩⟩
theorem rng_out {m : Img} {a : Bool} {len palm grip width slack x y dy dx o : Int} (h1 : -slack ≤ dy) (h2 : dy < len + slack) (h3 : -slack ≤ dx) (h4 : dx ≤ slack) (h5 : -1 ≤ o) (h6 : o ≤ width) (h : ¬ m.vin a (x + dx + o) (y + dy)) : Rng 0 (-1) (m.holds a len palm grip width slack x y) :=
  ⟨by omega, by omega, fun z => ⟨fun h => by omega, fun hz => absurd ((hz.2 dy h1 h2 dx h3 h4).1 o h5 h6) h⟩⟩
/-- in one row, behind the cells before 'o' -/
def Img.lane (m : Img) (a : Bool) (width x y lo o lo1 lane : Int) : Prop :=
  ((0 ≤ lo1 ∧ lo1 ≤ 255) ∧ 0 ≤ lane ∧ lane ≤ 255) ∧ (∀ k, -1 ≤ k → k < o → m.vin a (x + k) y) ∧ (∀ c, lo1 ≤ c ↔ lo ≤ c ∧ (-1 < o → m.vat a (x + -1) y ≤ c) ∧ (width < o → m.vat a (x + width) y ≤ c)) ∧
    ∀ c, lane ≤ c ↔ 0 ≤ c ∧ ∀ k, 0 ≤ k → k < o → k < width → m.vat a (x + k) y ≤ c
theorem lane_start (m : Img) (a : Bool) (width x y lo : Int) (hw : 1 ≤ width) (h : 0 ≤ lo ∧ lo ≤ 255) : m.lane a width x y lo (-1) lo 0 :=
  ⟨by omega, fun k h1 h2 => by omega, fun c => ⟨fun h => ⟨h, fun h9 => by omega, fun h9 => by omega⟩, fun h => h.1⟩, fun c => ⟨fun h => ⟨h, fun k h1 h2 => by omega⟩, fun h => h.1⟩⟩
theorem lane_in {m : Img} {a : Bool} {width x y o : Int} (k1 : ∀ k, -1 ≤ k → k < o → m.vin a (x + k) y) (hi : m.vin a (x + o) y) : ∀ k, -1 ≤ k → k < o + 1 → m.vin a (x + k) y := fun k h1 h2 => by
  rcases Int.lt_or_le k o with h9 | h9
  · exact k1 k h1 h9
  · obtain rfl : k = o := by omega
    exact hi
theorem lane_first {m : Img} {a : Bool} {width x y lo lo1 lane : Int} (hc : m.Camera) (hw : 1 ≤ width) (h : m.lane a width x y lo (-1) lo1 lane) (hi : m.vin a (x + -1) y) : m.lane a width x y lo (-1 + 1) (max lo1 (m.vat a (x + -1) y)) lane := by
  obtain ⟨k0, k1, k2, k3⟩ := h
  have hb := Img.vat_bd hc hi
  refine ⟨by omega, lane_in (width := width) k1 hi, fun c => ?_, fun c => ?_⟩
  · have := k2 c
    rw [Int.max_le, this]
    constructor
    · rintro ⟨⟨h1, _⟩, h2⟩; exact ⟨h1, fun _ => h2, fun h9 => by omega⟩
    · rintro ⟨h1, h2, _⟩; exact ⟨⟨h1, fun h9 => by omega, fun h9 => by omega⟩, h2 (by omega)⟩
  · rw [k3 c]
    exact ⟨fun h => ⟨h.1, fun k h1 h2 => by omega⟩, fun h => ⟨h.1, fun k h1 h2 => by omega⟩⟩
theorem lane_last {m : Img} {a : Bool} {width x y lo lo1 lane : Int} (hc : m.Camera) (hw : 1 ≤ width) (h : m.lane a width x y lo width lo1 lane) (hi : m.vin a (x + width) y) : m.lane a width x y lo (width + 1) (max lo1 (m.vat a (x + width) y)) lane := by
  obtain ⟨k0, k1, k2, k3⟩ := h
  have hb := Img.vat_bd hc hi
  refine ⟨by omega, lane_in (width := width) k1 hi, fun c => ?_, fun c => ?_⟩
  · have := k2 c
    rw [Int.max_le, this]
    constructor
    · rintro ⟨⟨h1, h2, _⟩, h3⟩; exact ⟨h1, fun _ => h2 (by omega), fun _ => h3⟩
    · rintro ⟨h1, h2, h3⟩; exact ⟨⟨h1, fun _ => h2 (by omega), fun h9 => by omega⟩, h3 (by omega)⟩
  · rw [k3 c]
    exact ⟨fun h => ⟨h.1, fun k h1 h2 h3 => h.2 k h1 h3 h3⟩, fun h => ⟨h.1, fun k h1 h2 h3 => h.2 k h1 (by omega) h3⟩⟩
theorem lane_mid {m : Img} {a : Bool} {width x y lo lo1 lane o : Int} (hc : m.Camera) (h0 : 0 ≤ o) (hw : o < width) (h : m.lane a width x y lo o lo1 lane) (hi : m.vin a (x + o) y) : m.lane a width x y lo (o + 1) lo1 (max lane (m.vat a (x + o) y)) := by
  obtain ⟨k0, k1, k2, k3⟩ := h
  have hb := Img.vat_bd hc hi
  refine ⟨by omega, lane_in (width := width) k1 hi, fun c => ?_, fun c => ?_⟩
  · rw [k2 c]
    exact ⟨fun ⟨h1, h2, h3⟩ => ⟨h1, fun _ => h2 (by omega), fun h9 => by omega⟩, fun ⟨h1, h2, h3⟩ => ⟨h1, fun _ => h2 (by omega), fun h9 => by omega⟩⟩
  · rw [Int.max_le, k3 c]
    constructor
    · rintro ⟨⟨h1, h2⟩, h3⟩
      refine ⟨h1, fun k e1 e2 e3 => ?_⟩
      rcases Int.lt_or_le k o with h9 | h9
      · exact h2 k e1 h9 e3
      · obtain rfl : k = o := by omega
        exact h3
    · rintro ⟨h1, h2⟩
      exact ⟨⟨h1, fun k e1 e2 e3 => h2 k e1 (by omega) e3⟩, h2 o h0 (by omega) hw⟩
theorem rng_cell {m : Img} {a : Bool} {palm grip width slack x y dy dx lo hi lo1 lane : Int} (hg : 1 ≤ grip ∧ grip ≤ palm ∧ palm ≤ 255) (hd : -slack ≤ dx) (hw : 1 ≤ width) (h : Rng lo hi (m.upto a palm grip width slack x y dy dx)) (hl : m.lane a width (x + dx) (y + dy) lo (width + 1) lo1 lane) :
    Rng (max lo1 (lane - palm)) (min hi (lane - grip)) (m.upto a palm grip width slack x y dy (dx + 1)) := by
  obtain ⟨k0, k1, k2, k3⟩ := hl
  refine ⟨by omega, ⟨by have := h.2.1; omega, by have := h.2.1; omega⟩, fun z => ?_⟩
  have hz := h.2.2 z
  have hk := k2 z
  have h3 := k3 (z + palm)
  have h4 := k3 (z + grip - 1)
  have key : ∀ (hz0 : 0 ≤ z), m.row a palm grip width z (x + dx) (y + dy) ↔ ((-1 < width + 1 → m.vat a (x + dx + -1) (y + dy) ≤ z) ∧ (width < width + 1 → m.vat a (x + dx + width) (y + dy) ≤ z)) ∧ lane ≤ z + palm ∧ z + grip ≤ lane := by
    intro hz0
    constructor
    · rintro ⟨r1, r2, r3, r4, o, r5, r6, r7⟩
      refine ⟨⟨fun _ => r2, fun _ => r3⟩, h3.2 ⟨by omega, fun k e1 _ e2 => r4 k e1 e2⟩, ?_⟩
      have := (k3 lane).1 (Int.le_refl _)
      have := this.2 o r5 (by omega) r6
      omega
    · rintro ⟨⟨r1, r2⟩, r3, r4⟩
      refine ⟨fun o e1 e2 => k1 o e1 (by omega), r1 (by omega), r2 (by omega), fun o e1 e2 => (h3.1 r3).2 o e1 (by omega) e2, ?_⟩
      refine Classical.byContradiction fun hn => ?_
      have : lane ≤ z + grip - 1 := h4.2 ⟨by omega, fun k e1 _ e2 => by
        refine Classical.byContradiction fun h9 => hn ⟨k, e1, e2, by omega⟩⟩
      omega
  constructor
  · rintro ⟨e1, e2⟩
    have a1 : lo1 ≤ z := by omega
    have a2 : lane - palm ≤ z := by omega
    have a3 : z ≤ hi := by omega
    have a4 : z ≤ lane - grip := by omega
    obtain ⟨b1, b2⟩ := hk.1 a1
    obtain ⟨c1, c2, c3⟩ := hz.1 ⟨b1, a3⟩
    refine ⟨c1, c2, fun d d1 d2 => ?_⟩
    rcases Int.lt_or_le d dx with h9 | h9
    · exact c3 d d1 h9
    · obtain rfl : d = dx := by omega
      exact (key c1.1).2 ⟨b2, by omega, by omega⟩
  · rintro ⟨c1, c2, c3⟩
    obtain ⟨b2, a2, a4⟩ := (key c1.1).1 (c3 dx hd (by omega))
    obtain ⟨b1, a3⟩ := hz.2 ⟨c1, c2, fun d d1 d2 => c3 d d1 (by omega)⟩
    have a1 := hk.2 ⟨b1, b2⟩
    omega
end Go.Proofs.Ytipkjdfnoonpcaa
