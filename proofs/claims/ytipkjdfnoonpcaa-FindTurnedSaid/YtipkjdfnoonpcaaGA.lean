/- Joined from the parts GraspSpec, GraspPlan, PoseSpec, Basic, Basic2, Ready, Height, Tips, Holds. -/
import Derived.Test.YtipkjdfnoonpcaaBase
import Derived.Test.YtipkjdfnoonpcaaProg
import Derived.Test.YtipkjdfnoonpcaaArgs
import Derived.Test.YtipkjdfnoonpcaaBlocks
import Derived.Test.YtipkjdfnoonpcaaCells
set_option linter.unusedVariables false
set_option linter.unusedSimpArgs false
/- Layer 7's images, tools and grasps as plain data; when a grasp holds. No program in sight. -/
namespace Go.Proofs.Ytipkjdfnoonpcaa
open Go.RowKit Go.Sort

structure Img where
  w : Int
  h : Int
  pix : List Int

def Img.Sized (m : Img) : Prop := (1 ≤ m.w ∧ m.w ≤ 16) ∧ (1 ≤ m.h ∧ m.h ≤ 16) ∧ (m.pix.length : Int) = m.w * m.h
instance (m : Img) : Decidable m.Sized := by unfold Img.Sized; infer_instance
/-- all numbers lie in a range -/
def allIn (lo hi : Int) (l : List Int) : Prop := ∀ n ∈ l, lo ≤ n ∧ n ≤ hi
instance (lo hi : Int) (l : List Int) : Decidable (allIn lo hi l) := by unfold allIn; infer_instance
def Img.Valid (m : Img) : Prop := m.Sized ∧ allIn (-2147483648) 2147483648 m.pix
instance (m : Img) : Decidable m.Valid := by unfold Img.Valid; infer_instance
def Img.Camera (m : Img) : Prop := m.Sized ∧ allIn 0 255 m.pix
instance (m : Img) : Decidable m.Camera := by unfold Img.Camera; infer_instance
theorem Img.camera_iff (m : Img) : m.Camera ↔ m.Valid ∧ allIn 0 255 m.pix := by
  unfold Img.Camera Img.Valid
  constructor
  · rintro ⟨h1, h2⟩
    exact ⟨⟨h1, fun n hn => by have := h2 n hn; omega⟩, h2⟩
  · rintro ⟨⟨h1, _⟩, h2⟩
    exact ⟨h1, h2⟩
theorem Img.len_bd {m : Img} (h : m.Sized) : 1 ≤ m.pix.length ∧ m.pix.length ≤ 256 := by
  obtain ⟨⟨h1, h2⟩, ⟨h3, h4⟩, h5⟩ := h
  have a : 1 * 1 ≤ m.w * m.h := Int.mul_le_mul h1 h3 (by omega) (by omega)
  have b : m.w * m.h ≤ 16 * 16 := Int.mul_le_mul h2 h4 (by omega) (by omega)
  omega
def Img.In (m : Img) (x y : Int) : Prop := (0 ≤ x ∧ x ≤ m.w - 1) ∧ (0 ≤ y ∧ y ≤ m.h - 1)
instance (m : Img) (x y : Int) : Decidable (m.In x y) := by unfold Img.In; infer_instance
def Img.at (m : Img) (x y : Int) : Int := m.pix.getD (y * m.w + x).toNat 0
theorem Img.idx {m : Img} (h : m.Sized) {x y : Int} (hi : m.In x y) : 0 ≤ y * m.w + x ∧ y * m.w + x < m.pix.length ∧ y * m.w ≤ 240 ∧ 0 ≤ y * m.w := by
  obtain ⟨⟨h1, h2⟩, ⟨h3, h4⟩, h5⟩ := h
  obtain ⟨⟨a1, a2⟩, b1, b2⟩ := hi
  have e0 : 0 ≤ y * m.w := Int.mul_nonneg b1 (by omega)
  have e1 : y * m.w ≤ (m.h - 1) * m.w := Int.mul_le_mul_of_nonneg_right b2 (by omega)
  have e2 : (m.h - 1) * m.w = m.w * m.h - m.w := by rw [Int.sub_mul, Int.mul_comm m.h, Int.one_mul]
  have e3 : y * m.w ≤ 15 * 16 := Int.mul_le_mul (by omega) h2 (by omega) (by omega)
  omega
theorem Img.at_bd {m : Img} (h : m.Camera) {x y : Int} (hi : m.In x y) : 0 ≤ m.at x y ∧ m.at x y ≤ 255 := by
  have hx := Img.idx h.1 hi
  refine h.2 _ ?_
  unfold Img.at
  rw [List.getD_eq_getElem?_getD, List.getElem?_eq_getElem (by omega)]
  exact List.getElem_mem _

/-! ### views -/
/-- with columns and rows exchanged, if 'a' -/
def Img.vin (m : Img) (a : Bool) (x y : Int) : Prop := if a then m.In y x else m.In x y
instance (m : Img) (a : Bool) (x y : Int) : Decidable (m.vin a x y) := by unfold Img.vin; infer_instance
def Img.vat (m : Img) (a : Bool) (x y : Int) : Int := if a then m.at y x else m.at x y
theorem Img.vat_bd {m : Img} (h : m.Camera) {a : Bool} {x y : Int} (hi : m.vin a x y) : 0 ≤ m.vat a x y ∧ m.vat a x y ≤ 255 := by
  cases a
  · exact Img.at_bd h hi
  · exact Img.at_bd h hi

/-- one row of a grasp: the cells from -1 to the width are pixels, the fingers' heights are at most z, and the lane's greatest is from z + grip to z + palm -/
def Img.row (m : Img) (a : Bool) (palm grip width z x y : Int) : Prop :=
  (∀ o, -1 ≤ o → o ≤ width → m.vin a (x + o) y) ∧ m.vat a (x + -1) y ≤ z ∧ m.vat a (x + width) y ≤ z ∧ (∀ o, 0 ≤ o → o < width → m.vat a (x + o) y ≤ z + palm) ∧ (∃ o, 0 ≤ o ∧ o < width ∧ z + grip ≤ m.vat a (x + o) y)
def Img.holds (m : Img) (a : Bool) (len palm grip width slack x y z : Int) : Prop :=
  (0 ≤ z ∧ z ≤ 255) ∧ ∀ dy, -slack ≤ dy → dy < len + slack → ∀ dx, -slack ≤ dx → dx ≤ slack → m.row a palm grip width z (x + dx) (y + dy)

/-! ### the program's loops, step by step -/
/-- behind the rows before 'dy' and, in row 'dy', the columns before 'dx' -/
def Img.upto (m : Img) (a : Bool) (palm grip width slack x y dy dx z : Int) : Prop :=
  (0 ≤ z ∧ z ≤ 255) ∧ (∀ e, -slack ≤ e → e < dy → ∀ d, -slack ≤ d → d ≤ slack → m.row a palm grip width z (x + d) (y + e)) ∧ ∀ d, -slack ≤ d → d < dx → m.row a palm grip width z (x + d) (y + dy)
/-- the range of z, as two numbers -/
def Rng (lo hi : Int) (p : Int → Prop) : Prop := (0 ≤ lo ∧ lo ≤ 255) ∧ (-255 ≤ hi ∧ hi ≤ 255) ∧ ∀ z, (lo ≤ z ∧ z ≤ hi) ↔ p z
theorem rng_start (m : Img) (a : Bool) (palm grip width slack x y : Int) : Rng 0 255 (m.upto a palm grip width slack x y (-slack) (-slack)) := by
  refine ⟨by omega, by omega, fun z => ⟨fun h => ⟨h, fun e h1 h2 => by omega, fun d h1 h2 => by omega⟩, fun h => h.1⟩⟩
theorem rng_row {m : Img} {a : Bool} {palm grip width slack x y dy lo hi : Int} (hd : -slack ≤ dy) (hs : 0 ≤ slack) (h : Rng lo hi (m.upto a palm grip width slack x y dy (slack + 1))) : Rng lo hi (m.upto a palm grip width slack x y (dy + 1) (-slack)) := by
  refine ⟨h.1, h.2.1, fun z => (h.2.2 z).trans ⟨fun ⟨h1, h2, h3⟩ => ⟨h1, fun e e1 e2 d d1 d2 => ?_, fun d d1 d2 => by omega⟩, fun ⟨h1, h2, h3⟩ => ⟨h1, fun e e1 e2 d d1 d2 => h2 e e1 (by omega) d d1 d2, fun d d1 d2 => h2 dy hd (by omega) d d1 (by omega)⟩⟩⟩
  rcases Int.lt_or_le e dy with h9 | h9
  · exact h2 e e1 h9 d d1 d2
  · obtain rfl : e = dy := by omega
    exact h3 d d1 (by omega)
theorem rng_end {m : Img} {a : Bool} {len palm grip width slack x y dy lo hi : Int} (hd : dy = len + slack) (h : Rng lo hi (m.upto a palm grip width slack x y dy (-slack))) : Rng lo hi (m.holds a len palm grip width slack x y) := by
  subst hd
  exact ⟨h.1, h.2.1, fun z => (h.2.2 z).trans ⟨fun ⟨h1, h2, _⟩ => ⟨h1, h2⟩, fun ⟨h1, h2⟩ => ⟨h1, h2, fun d d1 d2 => by omega⟩⟩⟩
theorem rng_out {m : Img} {a : Bool} {len palm grip width slack x y dy dx o : Int} (h1 : -slack ≤ dy) (h2 : dy < len + slack) (h3 : -slack ≤ dx) (h4 : dx ≤ slack) (h5 : -1 ≤ o) (h6 : o ≤ width) (h : ¬ m.vin a (x + dx + o) (y + dy)) : Rng 0 (-1) (m.holds a len palm grip width slack x y) :=
  ⟨by omega, by omega, fun z => ⟨fun h => by omega, fun hz => absurd ((hz.2 dy h1 h2 dx h3 h4).1 o h5 h6) h⟩⟩
/-- in one row, behind the cells before 'o' -/
def Img.lane (m : Img) (a : Bool) (width x y lo o lo1 lane : Int) : Prop :=
  ((0 ≤ lo1 ∧ lo1 ≤ 255) ∧ 0 ≤ lane ∧ lane ≤ 255) ∧ (∀ k, -1 ≤ k → k < o → m.vin a (x + k) y) ∧ (∀ c, lo1 ≤ c ↔ lo ≤ c ∧ (-1 < o → m.vat a (x + -1) y ≤ c) ∧ (width < o → m.vat a (x + width) y ≤ c)) ∧
    ∀ c, lane ≤ c ↔ 0 ≤ c ∧ ∀ k, 0 ≤ k → k < o → k < width → m.vat a (x + k) y ≤ c
theorem lane_start (m : Img) (a : Bool) (width x y lo : Int) (hw : 1 ≤ width) (h : 0 ≤ lo ∧ lo ≤ 255) : m.lane a width x y lo (-1) lo 0 :=
  ⟨by omega, fun k h1 h2 => by omega, fun c => ⟨fun h => ⟨h, fun h9 => by omega, fun h9 => by omega⟩, fun h => h.1⟩, fun c => ⟨fun h => ⟨h, fun k h1 h2 => by omega⟩, fun h => h.1⟩⟩
theorem lane_in {m : Img} {a : Bool} {width x y o : Int} (k1 : ∀ k, -1 ≤ k → k < o → m.vin a (x + k) y) (hi : m.vin a (x + o) y) : ∀ k, -1 ≤ k → k < o + 1 → m.vin a (x + k) y := fun k h1 h2 => by
  rcases Int.lt_or_le k o with h9 | h9
  · exact k1 k h1 h9
  · obtain rfl : k = o := by omega
    exact hi
theorem lane_first {m : Img} {a : Bool} {width x y lo lo1 lane : Int} (hc : m.Camera) (hw : 1 ≤ width) (h : m.lane a width x y lo (-1) lo1 lane) (hi : m.vin a (x + -1) y) : m.lane a width x y lo (-1 + 1) (max lo1 (m.vat a (x + -1) y)) lane := by
  obtain ⟨k0, k1, k2, k3⟩ := h
  have hb := Img.vat_bd hc hi
  refine ⟨by omega, lane_in (width := width) k1 hi, fun c => ?_, fun c => ?_⟩
  · have := k2 c
    rw [Int.max_le, this]
    constructor
    · rintro ⟨⟨h1, _⟩, h2⟩; exact ⟨h1, fun _ => h2, fun h9 => by omega⟩
    · rintro ⟨h1, h2, _⟩; exact ⟨⟨h1, fun h9 => by omega, fun h9 => by omega⟩, h2 (by omega)⟩
  · rw [k3 c]
    exact ⟨fun h => ⟨h.1, fun k h1 h2 => by omega⟩, fun h => ⟨h.1, fun k h1 h2 => by omega⟩⟩
theorem lane_last {m : Img} {a : Bool} {width x y lo lo1 lane : Int} (hc : m.Camera) (hw : 1 ≤ width) (h : m.lane a width x y lo width lo1 lane) (hi : m.vin a (x + width) y) : m.lane a width x y lo (width + 1) (max lo1 (m.vat a (x + width) y)) lane := by
  obtain ⟨k0, k1, k2, k3⟩ := h
  have hb := Img.vat_bd hc hi
  refine ⟨by omega, lane_in (width := width) k1 hi, fun c => ?_, fun c => ?_⟩
  · have := k2 c
    rw [Int.max_le, this]
    constructor
    · rintro ⟨⟨h1, h2, _⟩, h3⟩; exact ⟨h1, fun _ => h2 (by omega), fun _ => h3⟩
    · rintro ⟨h1, h2, h3⟩; exact ⟨⟨h1, fun _ => h2 (by omega), fun h9 => by omega⟩, h3 (by omega)⟩
  · rw [k3 c]
    exact ⟨fun h => ⟨h.1, fun k h1 h2 h3 => h.2 k h1 h3 h3⟩, fun h => ⟨h.1, fun k h1 h2 h3 => h.2 k h1 (by omega) h3⟩⟩
theorem lane_mid {m : Img} {a : Bool} {width x y lo lo1 lane o : Int} (hc : m.Camera) (h0 : 0 ≤ o) (hw : o < width) (h : m.lane a width x y lo o lo1 lane) (hi : m.vin a (x + o) y) : m.lane a width x y lo (o + 1) lo1 (max lane (m.vat a (x + o) y)) := by
  obtain ⟨k0, k1, k2, k3⟩ := h
  have hb := Img.vat_bd hc hi
  refine ⟨by omega, lane_in (width := width) k1 hi, fun c => ?_, fun c => ?_⟩
  · rw [k2 c]
    exact ⟨fun ⟨h1, h2, h3⟩ => ⟨h1, fun _ => h2 (by omega), fun h9 => by omega⟩, fun ⟨h1, h2, h3⟩ => ⟨h1, fun _ => h2 (by omega), fun h9 => by omega⟩⟩
  · rw [Int.max_le, k3 c]
    constructor
    · rintro ⟨⟨h1, h2⟩, h3⟩
      refine ⟨h1, fun k e1 e2 e3 => ?_⟩
      rcases Int.lt_or_le k o with h9 | h9
      · exact h2 k e1 h9 e3
      · obtain rfl : k = o := by omega
        exact h3
    · rintro ⟨h1, h2⟩
      exact ⟨⟨h1, fun k e1 e2 e3 => h2 k e1 (by omega) e3⟩, h2 o h0 (by omega) hw⟩
theorem rng_cell {m : Img} {a : Bool} {palm grip width slack x y dy dx lo hi lo1 lane : Int} (hg : 1 ≤ grip ∧ grip ≤ palm ∧ palm ≤ 255) (hd : -slack ≤ dx) (hw : 1 ≤ width) (h : Rng lo hi (m.upto a palm grip width slack x y dy dx)) (hl : m.lane a width (x + dx) (y + dy) lo (width + 1) lo1 lane) :
    Rng (max lo1 (lane - palm)) (min hi (lane - grip)) (m.upto a palm grip width slack x y dy (dx + 1)) := by
  obtain ⟨k0, k1, k2, k3⟩ := hl
  refine ⟨by omega, ⟨by have := h.2.1; omega, by have := h.2.1; omega⟩, fun z => ?_⟩
  have hz := h.2.2 z
  have hk := k2 z
  have h3 := k3 (z + palm)
  have h4 := k3 (z + grip - 1)
  have key : ∀ (hz0 : 0 ≤ z), m.row a palm grip width z (x + dx) (y + dy) ↔ ((-1 < width + 1 → m.vat a (x + dx + -1) (y + dy) ≤ z) ∧ (width < width + 1 → m.vat a (x + dx + width) (y + dy) ≤ z)) ∧ lane ≤ z + palm ∧ z + grip ≤ lane := by
    intro hz0
    constructor
    · rintro ⟨r1, r2, r3, r4, o, r5, r6, r7⟩
      refine ⟨⟨fun _ => r2, fun _ => r3⟩, h3.2 ⟨by omega, fun k e1 _ e2 => r4 k e1 e2⟩, ?_⟩
      have := (k3 lane).1 (Int.le_refl _)
      have := this.2 o r5 (by omega) r6
      omega
    · rintro ⟨⟨r1, r2⟩, r3, r4⟩
      refine ⟨fun o e1 e2 => k1 o e1 (by omega), r1 (by omega), r2 (by omega), fun o e1 e2 => (h3.1 r3).2 o e1 (by omega) e2, ?_⟩
      refine Classical.byContradiction fun hn => ?_
      have : lane ≤ z + grip - 1 := h4.2 ⟨by omega, fun k e1 _ e2 => by
        refine Classical.byContradiction fun h9 => hn ⟨k, e1, e2, by omega⟩⟩
      omega
  constructor
  · rintro ⟨e1, e2⟩
    have a1 : lo1 ≤ z := by omega
    have a2 : lane - palm ≤ z := by omega
    have a3 : z ≤ hi := by omega
    have a4 : z ≤ lane - grip := by omega
    obtain ⟨b1, b2⟩ := hk.1 a1
    obtain ⟨c1, c2, c3⟩ := hz.1 ⟨b1, a3⟩
    refine ⟨c1, c2, fun d d1 d2 => ?_⟩
    rcases Int.lt_or_le d dx with h9 | h9
    · exact c3 d d1 h9
    · obtain rfl : d = dx := by omega
      exact (key c1.1).2 ⟨b2, by omega, by omega⟩
  · rintro ⟨c1, c2, c3⟩
    obtain ⟨b2, a2, a4⟩ := (key c1.1).1 (c3 dx hd (by omega))
    obtain ⟨b1, a3⟩ := hz.2 ⟨c1, c2, fun d d1 d2 => c3 d d1 (by omega)⟩
    have a1 := hk.2 ⟨b1, b2⟩
    omega
end Go.Proofs.Ytipkjdfnoonpcaa

/- When a grasp holds, as the reference says it, and plans. No program in sight. -/
namespace Go.Proofs.Ytipkjdfnoonpcaa
open Go.RowKit Go.Sort

structure Tool where
  len : Int
  grip : Int
  palm : Int
def Tool.Ok (t : Tool) : Prop := (1 ≤ t.len ∧ t.len ≤ 4) ∧ 1 ≤ t.grip ∧ t.grip ≤ t.palm ∧ t.palm ≤ 255
instance (t : Tool) : Decidable t.Ok := by unfold Tool.Ok; infer_instance
structure Grasp where
  x : Int
  y : Int
  across : Bool
  width : Int
  z : Int
theorem Grasp.ext {g k : Grasp} (h1 : g.x = k.x) (h2 : g.y = k.y) (h3 : g.across = k.across) (h4 : g.width = k.width) (h5 : g.z = k.z) : g = k := by
  cases g; cases k; simp_all
/-- the place in the view of the grasp's direction -/
def Grasp.vx (g : Grasp) : Int := if g.across then g.y else g.x
def Grasp.vy (g : Grasp) : Int := if g.across then g.x else g.y
def Grasp.at (g : Grasp) (dx dy : Int) : Grasp := { g with x := g.x + dx, y := g.y + dy }
def Img.Holds (m : Img) (t : Tool) (g : Grasp) (slack : Int) : Prop :=
  (1 ≤ g.width ∧ g.width ≤ 8) ∧ m.holds g.across t.len t.palm t.grip g.width slack g.vx g.vy g.z

/-! ### the reference's words -/
/-- all cells are pixels, and width and z are allowed -/
def Img.Allowed (m : Img) (t : Tool) (g : Grasp) : Prop :=
  (1 ≤ g.width ∧ g.width ≤ 8) ∧ (0 ≤ g.z ∧ g.z ≤ 255) ∧ ∀ o, -1 ≤ o → o ≤ g.width → ∀ f, 0 ≤ f → f < t.len → m.vin g.across (g.vx + o) (g.vy + f)
/-- the heights are right -/
def Img.held (m : Img) (t : Tool) (g : Grasp) : Prop :=
  ∀ f, 0 ≤ f → f < t.len → (m.vat g.across (g.vx + -1) (g.vy + f) ≤ g.z ∧ m.vat g.across (g.vx + g.width) (g.vy + f) ≤ g.z) ∧
    (∀ o, 0 ≤ o → o < g.width → m.vat g.across (g.vx + o) (g.vy + f) ≤ g.z + t.palm) ∧ (∃ o, 0 ≤ o ∧ o < g.width ∧ g.z + t.grip ≤ m.vat g.across (g.vx + o) (g.vy + f))
def Img.Held (m : Img) (t : Tool) (g : Grasp) (slack : Int) : Prop :=
  ∀ dy, -slack ≤ dy → dy ≤ slack → ∀ dx, -slack ≤ dx → dx ≤ slack → m.Allowed t (g.at dx dy) ∧ m.held t (g.at dx dy)
/-- all grasps around are allowed -/
def Img.Around (m : Img) (t : Tool) (g : Grasp) (slack : Int) : Prop :=
  ∀ dy, -slack ≤ dy → dy ≤ slack → ∀ dx, -slack ≤ dx → dx ≤ slack → m.Allowed t (g.at dx dy)
theorem Grasp.vx_at (g : Grasp) (dx dy : Int) : (g.at dx dy).vx = g.vx + (if g.across then dy else dx) := by
  unfold Grasp.vx Grasp.at
  cases g.across <;> simp
theorem Grasp.vy_at (g : Grasp) (dx dy : Int) : (g.at dx dy).vy = g.vy + (if g.across then dx else dy) := by
  unfold Grasp.vy Grasp.at
  cases g.across <;> simp
theorem allowed_held_iff {m : Img} {t : Tool} {g : Grasp} (hl : 1 ≤ t.len) : m.Allowed t g ∧ m.held t g ↔
    ((1 ≤ g.width ∧ g.width ≤ 8) ∧ 0 ≤ g.z ∧ g.z ≤ 255) ∧ ∀ f, 0 ≤ f → f < t.len → m.row g.across t.palm t.grip g.width g.z g.vx (g.vy + f) := by
  constructor
  · rintro ⟨⟨h1, h2, h3⟩, h4⟩
    refine ⟨⟨h1, h2⟩, fun f f1 f2 => ?_⟩
    obtain ⟨⟨a1, a2⟩, a3, a4⟩ := h4 f f1 f2
    exact ⟨fun o o1 o2 => h3 o o1 o2 f f1 f2, a1, a2, a3, a4⟩
  · rintro ⟨⟨h1, h2⟩, h3⟩
    exact ⟨⟨h1, h2, fun o o1 o2 f f1 f2 => (h3 f f1 f2).1 o o1 o2⟩, fun f f1 f2 => ⟨⟨(h3 f f1 f2).2.1, (h3 f f1 f2).2.2.1⟩, (h3 f f1 f2).2.2.2⟩⟩
theorem held_iff {m : Img} {t : Tool} {g : Grasp} {slack : Int} (hl : 1 ≤ t.len) (hs : 0 ≤ slack) : m.Held t g slack ↔ m.Holds t g slack := by
  have key : ∀ dx dy, (m.Allowed t (g.at dx dy) ∧ m.held t (g.at dx dy)) ↔ ((1 ≤ g.width ∧ g.width ≤ 8) ∧ 0 ≤ g.z ∧ g.z ≤ 255) ∧ ∀ f, 0 ≤ f → f < t.len → m.row g.across t.palm t.grip g.width g.z (g.vx + (if g.across then dy else dx)) (g.vy + (if g.across then dx else dy) + f) := by
    intro dx dy
    rw [allowed_held_iff hl, Grasp.vx_at, Grasp.vy_at]
    exact Iff.rfl
  constructor
  · intro h
    have h0 := (key 0 0).1 (h 0 (by omega) (by omega) 0 (by omega) (by omega))
    refine ⟨h0.1.1, h0.1.2, fun e e1 e2 d d1 d2 => ?_⟩
    -- e = dy + f
    obtain ⟨dy, f, rfl, y1, y2, f1, f2⟩ : ∃ dy f : Int, e = dy + f ∧ -slack ≤ dy ∧ dy ≤ slack ∧ 0 ≤ f ∧ f < t.len := by
      rcases Int.lt_or_le e slack with h9 | h9
      · exact ⟨e, 0, by omega, by omega, by omega, by omega, by omega⟩
      · exact ⟨slack, e - slack, by omega, by omega, by omega, by omega, by omega⟩
    cases ha : g.across with
    | false =>
      have := ((key d dy).1 (h dy y1 y2 d d1 d2)).2 f f1 f2
      rw [ha] at this
      simpa [Int.add_assoc] using this
    | true =>
      have := ((key dy d).1 (h d d1 d2 dy y1 y2)).2 f f1 f2
      rw [ha] at this
      simpa [Int.add_assoc] using this
  · rintro ⟨h1, h2, h3⟩ dy y1 y2 dx x1 x2
    refine (key dx dy).2 ⟨⟨h1, h2⟩, fun f f1 f2 => ?_⟩
    cases ha : g.across with
    | false =>
      have := h3 (dy + f) (by omega) (by omega) dx x1 x2
      rw [ha] at this
      simpa [Int.add_assoc] using this
    | true =>
      have := h3 (dx + f) (by omega) (by omega) dy y1 y2
      rw [ha] at this
      simpa [Int.add_assoc] using this
theorem holds_near {m : Img} {t : Tool} {g : Grasp} {slack : Int} (hm : m.Sized) (hl : 1 ≤ t.len) (hs : 0 ≤ slack) (h : m.Holds t g slack) : (0 ≤ g.x ∧ g.x ≤ 15) ∧ 0 ≤ g.y ∧ g.y ≤ 15 := by
  obtain ⟨h1, h2, h3⟩ := h
  have := (h3 0 (by omega) (by omega) 0 (by omega) (by omega)).1 0 (by omega) (by omega)
  obtain ⟨m1, m2, m3⟩ := hm
  unfold Grasp.vx Grasp.vy Img.vin Img.In at this
  cases ha : g.across with
  | false => rw [ha] at this; simp at this; omega
  | true => rw [ha] at this; simp at this; omega
theorem around_of_holds {m : Img} {t : Tool} {g : Grasp} {slack z : Int} (hl : 1 ≤ t.len) (hs : 0 ≤ slack) (hz : 0 ≤ g.z ∧ g.z ≤ 255) (h : m.Holds t { g with z := z } slack) : m.Around t g slack := by
  have h9 := (held_iff hl hs).2 h
  intro dy y1 y2 dx x1 x2
  obtain ⟨⟨a1, _, a3⟩, _⟩ := h9 dy y1 y2 dx x1 x2
  exact ⟨a1, hz, a3⟩

/-! ### plans -/
/-- what comes of n tries, each of which gives one thing or none -/
def Gath {α : Type} (p : Nat → Option α → Prop) : Nat → List α → Prop
  | 0, gs => gs = []
  | n + 1, gs => ∃ gs' o, Gath p n gs' ∧ p n o ∧ gs = gs' ++ o.toList
theorem Gath.unique {α : Type} {p : Nat → Option α → Prop} (hp : ∀ n a b, p n a → p n b → a = b) : ∀ {n : Nat} {gs ks : List α}, Gath p n gs → Gath p n ks → gs = ks
  | 0, _, _, h, k => h.trans k.symm
  | n + 1, _, _, ⟨g1, o1, a1, a2, a3⟩, ⟨g2, o2, b1, b2, b3⟩ => by rw [a3, b3, Gath.unique hp a1 b1, hp n o1 o2 a2 b2]
theorem Gath.len {α : Type} {p : Nat → Option α → Prop} : ∀ {n : Nat} {gs : List α}, Gath p n gs → gs.length ≤ n
  | 0, _, h => by rw [h]; simp
  | n + 1, _, ⟨g1, o1, a1, a2, a3⟩ => by
    have := Gath.len a1
    rw [a3, List.length_append]
    cases o1 <;> simp <;> omega
theorem Gath.mem {α : Type} {p : Nat → Option α → Prop} : ∀ {n : Nat} {gs : List α} {g : α}, Gath p n gs → g ∈ gs → ∃ k, k < n ∧ p k (some g)
  | 0, _, _, h, hg => by rw [h] at hg; simp at hg
  | n + 1, _, g, ⟨g1, o1, a1, a2, a3⟩, hg => by
    rw [a3] at hg
    rcases List.mem_append.1 hg with h9 | h9
    · obtain ⟨k, k1, k2⟩ := Gath.mem a1 h9
      exact ⟨k, by omega, k2⟩
    · cases o1 with
      | none => simp at h9
      | some x =>
        simp at h9
        subst h9
        exact ⟨n, by omega, a2⟩
theorem Gath.got {α : Type} {p : Nat → Option α → Prop} (hp : ∀ n a b, p n a → p n b → a = b) : ∀ {n : Nat} {gs : List α} {g : α} {k : Nat}, Gath p n gs → k < n → p k (some g) → g ∈ gs
  | 0, _, _, _, _, hk, _ => by omega
  | n + 1, _, g, k, ⟨g1, o1, a1, a2, a3⟩, hk, hg => by
    rw [a3]
    rcases Nat.lt_or_ge k n with h9 | h9
    · exact List.mem_append_left _ (Gath.got hp a1 h9 hg)
    · obtain rfl : k = n := by omega
      rw [hp _ _ _ a2 hg]
      simp
/-- the grasp of the try k: direction, then width, then place -/
def Img.key (m : Img) (k : Nat) : Grasp :=
  let i : Int := ((k % m.pix.length : Nat) : Int)
  let q := k / m.pix.length
  { x := i % m.w, y := i / m.w, across := decide (8 ≤ q), width := ((q % 8 : Nat) : Int) + 1, z := 0 }
/-- the grasp with the least z, if there is one -/
def Img.Try (m : Img) (t : Tool) (slack : Int) (k : Nat) (o : Option Grasp) : Prop :=
  (∃ z, m.Holds t { m.key k with z := z } slack ∧ (∀ u, m.Holds t { m.key k with z := u } slack → z ≤ u) ∧ o = some { m.key k with z := z }) ∨ ((∀ u, ¬ m.Holds t { m.key k with z := u } slack) ∧ o = none)
theorem try_unique {m : Img} {t : Tool} {slack : Int} (n : Nat) (a b : Option Grasp) (ha : m.Try t slack n a) (hb : m.Try t slack n b) : a = b := by
  rcases ha with ⟨z, h1, h2, rfl⟩ | ⟨h1, rfl⟩ <;> rcases hb with ⟨u, k1, k2, rfl⟩ | ⟨k1, rfl⟩
  · have : z = u := by have := h2 u k1; have := k2 z h1; omega
    rw [this]
  · exact absurd h1 (k1 z)
  · exact absurd k1 (h1 u)
  · rfl
def Img.Plan (m : Img) (t : Tool) (slack : Int) (gs : List Grasp) : Prop := Gath (m.Try t slack) (16 * m.pix.length) gs
end Go.Proofs.Ytipkjdfnoonpcaa

/- Layer 7's templates, poses, areas, offsets, distances and bounds as plain data. No program in sight. -/
namespace Go.Proofs.Ytipkjdfnoonpcaa
open Go.RowKit Go.Sort

structure Tpl where
  w : Int
  h : Int
  pix : List Int
def Tpl.Ok (t : Tpl) : Prop := ((1 ≤ t.w ∧ t.w ≤ 8) ∧ (1 ≤ t.h ∧ t.h ≤ 8) ∧ (t.pix.length : Int) = t.w * t.h) ∧ allIn (-1) 255 t.pix ∧ ∃ n ∈ t.pix, 0 ≤ n
instance tplOkDec (t : Tpl) : Decidable t.Ok := by unfold Tpl.Ok; infer_instance
theorem Tpl.len_bd {t : Tpl} (h : t.Ok) : 1 ≤ t.pix.length ∧ t.pix.length ≤ 64 := by
  obtain ⟨⟨⟨h1, h2⟩, ⟨h3, h4⟩, h5⟩, _⟩ := h
  have a : 1 * 1 ≤ t.w * t.h := Int.mul_le_mul h1 h3 (by omega) (by omega)
  have b : t.w * t.h ≤ 8 * 8 := Int.mul_le_mul h2 h4 (by omega) (by omega)
  omega
theorem Tpl.pix_bd {t : Tpl} (h : t.Ok) {k : Nat} (hk : k < t.pix.length) : -1 ≤ t.pix.getD k 0 ∧ t.pix.getD k 0 ≤ 255 := by
  refine h.2.1 _ ?_
  rw [List.getD_eq_getElem?_getD, List.getElem?_eq_getElem hk]
  exact List.getElem_mem _
/-- a turn and a scale are allowed -/
def Posed (turn scale : Int) : Prop := (0 ≤ turn ∧ turn ≤ 11) ∧ (1 ≤ scale ∧ scale ≤ 4)
instance (turn scale : Int) : Decidable (Posed turn scale) := by unfold Posed; infer_instance
def dirBase (r : Int) : Int × Int := if r = 0 then (5, 0) else if r = 1 then (4, 3) else (3, 4)
def rot : Nat → Int × Int → Int × Int
  | 0, d => d
  | n + 1, d => (-(rot n d).2, (rot n d).1)
def dirOf (turn : Int) : Int × Int := rot (turn / 3).toNat (dirBase (turn % 3))
theorem rot_bd : ∀ (n : Nat) (d : Int × Int), -5 ≤ d.1 → d.1 ≤ 5 → -5 ≤ d.2 → d.2 ≤ 5 → (-5 ≤ (rot n d).1 ∧ (rot n d).1 ≤ 5) ∧ -5 ≤ (rot n d).2 ∧ (rot n d).2 ≤ 5
  | 0, _, h1, h2, h3, h4 => ⟨⟨h1, h2⟩, h3, h4⟩
  | n + 1, d, h1, h2, h3, h4 => by
    have := rot_bd n d h1 h2 h3 h4
    simp only [rot]
    omega
theorem dirBase_bd (r : Int) : (-5 ≤ (dirBase r).1 ∧ (dirBase r).1 ≤ 5) ∧ -5 ≤ (dirBase r).2 ∧ (dirBase r).2 ≤ 5 := by
  unfold dirBase
  split
  · omega
  · split <;> omega
theorem dirOf_bd (turn : Int) : (-5 ≤ (dirOf turn).1 ∧ (dirOf turn).1 ≤ 5) ∧ -5 ≤ (dirOf turn).2 ∧ (dirOf turn).2 ≤ 5 := by
  obtain ⟨⟨h1, h2⟩, h3, h4⟩ := dirBase_bd (turn % 3)
  exact rot_bd _ _ h1 h2 h3 h4
def offX (t : Tpl) (turn scale i j : Int) : Int := (scale * ((dirOf turn).1 * (2 * i - t.w + 1) - (dirOf turn).2 * (2 * j - t.h + 1)) + 10) / 20
def offY (t : Tpl) (turn scale i j : Int) : Int := (scale * ((dirOf turn).2 * (2 * i - t.w + 1) + (dirOf turn).1 * (2 * j - t.h + 1)) + 10) / 20
theorem mul_bd {a b A B : Int} (ha : -A ≤ a ∧ a ≤ A) (hb : -B ≤ b ∧ b ≤ B) : -(A * B) ≤ a * b ∧ a * b ≤ A * B := by
  have hA : 0 ≤ A := by omega
  have hB : 0 ≤ B := by omega
  have h : (a * b).natAbs ≤ (A * B).natAbs := by
    rw [Int.natAbs_mul, Int.natAbs_mul]
    exact Nat.mul_le_mul (by omega) (by omega)
  have := Int.mul_nonneg hA hB
  omega
theorem off_bd {a b u v scale : Int} (ha : -5 ≤ a ∧ a ≤ 5) (hb : -5 ≤ b ∧ b ≤ 5) (hu : -8 ≤ u ∧ u ≤ 8) (hv : -8 ≤ v ∧ v ≤ 8) (hs : 1 ≤ scale ∧ scale ≤ 4) :
    (-40 ≤ a * u ∧ a * u ≤ 40) ∧ (-40 ≤ b * v ∧ b * v ≤ 40) ∧ (-320 ≤ scale * (a * u - b * v) ∧ scale * (a * u - b * v) ≤ 320) ∧ -320 ≤ scale * (a * u + b * v) ∧ scale * (a * u + b * v) ≤ 320 := by
  have h1 := mul_bd (A := 5) (B := 8) ha hu
  have h2 := mul_bd (A := 5) (B := 8) hb hv
  have h3 := mul_bd (a := scale) (b := a * u - b * v) (A := 4) (B := 80) (by omega) (by omega)
  have h4 := mul_bd (a := scale) (b := a * u + b * v) (A := 4) (B := 80) (by omega) (by omega)
  omega
/-- rounded down, by the quotient that Go gives -/
theorem tdiv_two {a b : Int} (hb : 0 < b) : a.tdiv b = a / b ∨ a.tdiv b = a / b + 1 := by
  rw [Int.tdiv_eq_ediv, Int.sign_eq_one_of_pos hb]
  split
  · left; omega
  · right; rfl
theorem ediv_bd {a b : Int} (hb : 0 < b) : a / b * b ≤ a ∧ a < (a / b + 1) * b := by
  have e2 := Int.mul_ediv_add_emod a b
  have m1 := Int.emod_nonneg a (by omega : b ≠ 0)
  have m2 := Int.emod_lt_of_pos a hb
  rw [Int.add_mul, Int.mul_comm (a / b) b]
  omega
theorem floor_yes {a b : Int} (hb : 0 < b) (h : a < a.tdiv b * b) : a.tdiv b - 1 = a / b := by
  have h1 := ediv_bd (a := a) hb
  rcases tdiv_two (a := a) hb with e | e
  · rw [e] at h; omega
  · omega
theorem floor_no {a b : Int} (hb : 0 < b) (h : a.tdiv b * b ≤ a) : a.tdiv b = a / b := by
  have h1 := ediv_bd (a := a) hb
  rcases tdiv_two (a := a) hb with e | e
  · exact e
  · rw [e] at h; omega

/-! ### the least over a range -/
def minR (f : Int → Int) (lo : Int) : Nat → Int
  | 0 => 255
  | n + 1 => min (minR f lo n) (f (lo + n))
theorem le_minR {f : Int → Int} {lo c : Int} : ∀ {n : Nat}, c ≤ minR f lo n ↔ c ≤ 255 ∧ ∀ x, lo ≤ x → x < lo + n → c ≤ f x
  | 0 => ⟨fun h => ⟨h, fun x h1 h2 => by omega⟩, fun h => h.1⟩
  | n + 1 => by
    rw [minR, Int.le_min, le_minR]
    constructor
    · rintro ⟨⟨h1, h2⟩, h3⟩
      refine ⟨h1, fun x e1 e2 => ?_⟩
      by_cases hx : x = lo + n
      · rw [hx]; exact h3
      · exact h2 x e1 (by omega)
    · rintro ⟨h1, h2⟩
      exact ⟨⟨h1, fun x e1 e2 => h2 x e1 (by omega)⟩, h2 _ (by omega) (by omega)⟩
theorem eq_of_le_iff {a b : Int} (h : ∀ c, c ≤ a ↔ c ≤ b) : a = b := by
  have h1 := (h a).1 (Int.le_refl _)
  have h2 := (h b).2 (Int.le_refl _)
  omega
structure Area where
  x0 : Int
  y0 : Int
  x1 : Int
  y1 : Int
  turn : Int
  scale : Int
def Area.Ok (m : Img) (a : Area) : Prop := (0 ≤ a.x0 ∧ a.x0 ≤ a.x1 ∧ a.x1 ≤ m.w - 1) ∧ (0 ≤ a.y0 ∧ a.y0 ≤ a.y1 ∧ a.y1 ≤ m.h - 1) ∧ Posed a.turn a.scale
instance areaOkDec (m : Img) (a : Area) : Decidable (a.Ok m) := by unfold Area.Ok; infer_instance
structure Pt where
  x : Int
  y : Int
  v : Int
/-- what a pixel that counts adds at a place -/
def adds (m : Img) (p : Pt) (x y : Int) : Int := if m.In (x + p.x) (y + p.y) then max (p.v - m.at (x + p.x) (y + p.y)) (-(p.v - m.at (x + p.x) (y + p.y))) else 255
def least (m : Img) (p : Pt) (x0 y0 x1 y1 : Int) : Int := minR (fun y => minR (fun x => adds m p x y) x0 (x1 - x0 + 1).toNat) y0 (y1 - y0 + 1).toNat
theorem le_least {m : Img} {p : Pt} {x0 y0 x1 y1 c : Int} (hc : c ≤ 255) : c ≤ least m p x0 y0 x1 y1 ↔ ∀ y, y0 ≤ y → y ≤ y1 → ∀ x, x0 ≤ x → x ≤ x1 → c ≤ adds m p x y := by
  unfold least
  rw [le_minR]
  constructor
  · rintro ⟨_, h⟩ y h1 h2 x h3 h4
    exact ((le_minR).1 (h y h1 (by omega))).2 x h3 (by omega)
  · intro h
    exact ⟨hc, fun y h1 h2 => le_minR.2 ⟨hc, fun x h3 h4 => h y h1 (by omega) x h3 (by omega)⟩⟩
theorem least_le (m : Img) (p : Pt) (x0 y0 x1 y1 : Int) : least m p x0 y0 x1 y1 ≤ 255 := ((le_minR).1 (Int.le_refl (least m p x0 y0 x1 y1))).1
theorem adds_bd {m : Img} {p : Pt} (hm : m.Camera) (hp : 0 ≤ p.v ∧ p.v ≤ 255) (x y : Int) : 0 ≤ adds m p x y ∧ adds m p x y ≤ 255 := by
  unfold adds
  split
  · have := Img.at_bd hm (by assumption)
    omega
  · omega
theorem least_nn {m : Img} {p : Pt} (hm : m.Camera) (hp : 0 ≤ p.v ∧ p.v ≤ 255) (x0 y0 x1 y1 : Int) : 0 ≤ least m p x0 y0 x1 y1 :=
  (le_least (by omega)).2 fun y _ _ x _ _ => (adds_bd hm hp x y).1
/-- the pixels that count, with their offsets -/
def ptOf (t : Tpl) (turn scale : Int) (n : Nat) : Pt := ⟨offX t turn scale ((n : Int) % t.w) ((n : Int) / t.w), offY t turn scale ((n : Int) % t.w) ((n : Int) / t.w), t.pix.getD n 0⟩
def stencil (t : Tpl) (turn scale : Int) : Nat → List Pt
  | 0 => []
  | n + 1 => if 0 ≤ t.pix.getD n 0 then stencil t turn scale n ++ [ptOf t turn scale n] else stencil t turn scale n
theorem stencil_len (t : Tpl) (turn scale : Int) : ∀ n, (stencil t turn scale n).length ≤ n
  | 0 => by simp [stencil]
  | n + 1 => by
    have := stencil_len t turn scale n
    unfold stencil
    split <;> simp <;> omega
def sumL (f : Pt → Int) (l : List Pt) : Int := l.foldl (fun s p => s + f p) 0
theorem sumL_snoc (f : Pt → Int) (l : List Pt) (p : Pt) : sumL f (l ++ [p]) = sumL f l + f p := by simp [sumL]
theorem sumL_bd {f : Pt → Int} : ∀ {l : List Pt}, (∀ p ∈ l, 0 ≤ f p ∧ f p ≤ 255) → 0 ≤ sumL f l ∧ sumL f l ≤ 255 * l.length := by
  intro l
  have gen : ∀ (l : List Pt) (s : Int), (∀ p ∈ l, 0 ≤ f p ∧ f p ≤ 255) → s ≤ l.foldl (fun s p => s + f p) s ∧ l.foldl (fun s p => s + f p) s ≤ s + 255 * l.length := by
    intro l
    induction l with
    | nil => intro s _; simp
    | cons p l ih =>
      intro s h
      have h1 := ih (s + f p) fun q hq => h q (by simp [hq])
      have h2 := h p (by simp)
      simp only [List.foldl_cons, List.length_cons]
      omega
  intro h
  have := gen l 0 h
  unfold sumL
  omega
def bound (m : Img) (t : Tpl) (a : Area) : Int := sumL (fun p => least m p a.x0 a.y0 a.x1 a.y1) (stencil t a.turn a.scale t.pix.length)
/-- the limit's range -/
theorem stencil_mem {t : Tpl} {turn scale : Int} : ∀ {n : Nat} {p : Pt}, p ∈ stencil t turn scale n → ∃ k, k < n ∧ 0 ≤ t.pix.getD k 0 ∧ p = ptOf t turn scale k
  | 0, p, h => by simp [stencil] at h
  | n + 1, p, h => by
    unfold stencil at h
    split at h
    · rcases List.mem_append.1 h with h | h
      · obtain ⟨k, h1, h2⟩ := stencil_mem h
        exact ⟨k, by omega, h2⟩
      · simp at h
        exact ⟨n, by omega, by assumption, h⟩
    · obtain ⟨k, h1, h2⟩ := stencil_mem h
      exact ⟨k, by omega, h2⟩
theorem stencil_v {t : Tpl} (h : t.Ok) {turn scale : Int} {p : Pt} (hp : p ∈ stencil t turn scale t.pix.length) : 0 ≤ p.v ∧ p.v ≤ 255 := by
  obtain ⟨k, h1, h2, rfl⟩ := stencil_mem hp
  exact ⟨h2, (Tpl.pix_bd h h1).2⟩
theorem bound_bd {m : Img} {t : Tpl} {a : Area} (hm : m.Camera) (ht : t.Ok) : 0 ≤ bound m t a ∧ bound m t a ≤ 16320 := by
  have h1 := stencil_len t a.turn a.scale t.pix.length
  have h2 := Tpl.len_bd ht
  have := sumL_bd (f := fun p => least m p a.x0 a.y0 a.x1 a.y1) (l := stencil t a.turn a.scale t.pix.length) fun p hp => ⟨least_nn hm (stencil_v ht hp) _ _ _ _, least_le _ _ _ _ _ _⟩
  unfold bound
  omega
end Go.Proofs.Ytipkjdfnoonpcaa

/- Layer 7's numbers in ranges, images and their pixels: the program's functions and the reference's. -/
namespace Go.Proofs.Ytipkjdfnoonpcaa
open Go.RowKit Go.Sort

def imgCells (m : Img) (v : Value) : Array Value := #[.int .i64 m.w, .int .i64 m.h, v]
def imgVal (m : Img) (v : Value) : Value := .agg #[.int .i64 m.w, .int .i64 m.h, v]
theorem IntsAt.form {w : World} {v : Value} {l : List Int} (h : IntsAt w v l) : ∃ ao cap, v = .slice ao l.length cap ∧ (l.length ≤ cap ∧ cap ≤ maxLen) ∧ ∀ j, j < l.length → ∃ b off, ao = some ⟨b, off, none⟩ ∧ w.cell? ⟨b, off + j, none⟩ = some (.int .i64 (l.getD j 0)) := by
  obtain ⟨-, ao, cap, e, h1, h2, -, hc⟩ := h
  exact ⟨ao, cap, e, ⟨h1, h2⟩, fun j hj => hc j _ (ints_get hj)⟩
theorem allIn_snoc {lo hi : Int} {l : List Int} {k : Nat} (hk : k < l.length) : allIn lo hi (l.take (k + 1)) ↔ allIn lo hi (l.take k) ∧ lo ≤ l.getD k 0 ∧ l.getD k 0 ≤ hi := by
  rw [List.take_succ_eq_append_getElem hk, List.getD_eq_getElem?_getD, List.getElem?_eq_getElem hk]
  unfold allIn
  constructor
  · intro h
    exact ⟨fun n hn => h n (List.mem_append_left _ hn), h _ (List.mem_append_right _ (List.mem_singleton.2 rfl))⟩
  · rintro ⟨h1, h2⟩ n hn
    rcases List.mem_append.1 hn with h9 | h9
    · exact h1 n h9
    · simp at h9; subst h9; exact h2
theorem allIn_not {lo hi : Int} {l : List Int} {k : Nat} (hk : k < l.length) (h : ¬ (lo ≤ l.getD k 0 ∧ l.getD k 0 ≤ hi)) : ¬ allIn lo hi l := fun h9 => h (h9 _ (by
  rw [List.getD_eq_getElem?_getD, List.getElem?_eq_getElem hk]; exact List.getElem_mem hk))
set_option maxHeartbeats 1000000 in
theorem within_same (f : FuncId) (hf : f = 50 ∨ f = 107) (lo hi : Int) (v : Value) (l : List Int) (w : World) (hv : IntsAt w v l) (hl : l.length ≤ maxLen) :
    Calls Try.prog f #[.int .i64 lo, .int .i64 hi, v] w fun e w' => e = .returned (.bool (decide (allIn lo hi l))) ∧ w = w' := by
  unfold maxLen at hl
  obtain ⟨ao, cap, rfl, -, hc⟩ := hv.form
  have HC := Lib.hid hc
  clear hc hv
  rcases hf with rfl | rfl
  case inl =>
    go_enter Try.func50, Try.ntmps50
    go_wp2
    go_loop [11] (fun i => ∃ k : Nat, k ≤ l.length ∧ i = .int .i64 (k : Int) ∧ Hid (allIn lo hi (l.take k))) (fun i => l.length - (intOf i).toNat)
    case atStart => exact ⟨0, Nat.zero_le _, rfl, Lib.hid (fun n hn => by simp at hn)⟩
    case round =>
      obtain ⟨k, hk, rfl, hI⟩ := hrel
      by_cases hkl : k < l.length
      · obtain ⟨b, off, rfl, c0⟩ := HC.out k hkl
        obtain ⟨x, hx⟩ : ∃ x, l.getD k 0 = x := ⟨_, rfl⟩
        rw [hx] at c0
        have HX := Lib.hid hx
        clear hx
        by_cases h1 : x < lo
        · go_wp2
          go_ret
          exact ⟨ret_bool (decide_eq_false (allIn_not hkl (by rw [HX.out]; omega))).symm, rfl⟩
        · by_cases h2 : hi < x
          · go_wp2
            go_ret
            exact ⟨ret_bool (decide_eq_false (allIn_not hkl (by rw [HX.out]; omega))).symm, rfl⟩
          · go_wp2
            go_round
            case rel => exact ⟨k + 1, by omega, by go_num, Lib.hid ((allIn_snoc hkl).2 ⟨hI.out, by rw [HX.out]; omega⟩)⟩
            case measure => simp [intOf]; omega
      · go_wp2
        go_ret
        have := hI.out
        rw [List.take_of_length_le (by omega)] at this
        exact ⟨ret_bool (decide_eq_true this).symm, rfl⟩
  case inr =>
    go_enter Try.func107, Try.ntmps107
    go_wp2
    go_loop [11] (fun i => ∃ k : Nat, k ≤ l.length ∧ i = .int .i64 (k : Int) ∧ Hid (allIn lo hi (l.take k))) (fun i => l.length - (intOf i).toNat)
    case atStart => exact ⟨0, Nat.zero_le _, rfl, Lib.hid (fun n hn => by simp at hn)⟩
    case round =>
      obtain ⟨k, hk, rfl, hI⟩ := hrel
      by_cases hkl : k < l.length
      · obtain ⟨b, off, rfl, c0⟩ := HC.out k hkl
        obtain ⟨x, hx⟩ : ∃ x, l.getD k 0 = x := ⟨_, rfl⟩
        rw [hx] at c0
        have HX := Lib.hid hx
        clear hx
        by_cases h1 : x < lo
        · go_wp2
          go_ret
          exact ⟨ret_bool (decide_eq_false (allIn_not hkl (by rw [HX.out]; omega))).symm, rfl⟩
        · by_cases h2 : hi < x
          · go_wp2
            go_ret
            exact ⟨ret_bool (decide_eq_false (allIn_not hkl (by rw [HX.out]; omega))).symm, rfl⟩
          · go_wp2
            go_round
            case rel => exact ⟨k + 1, by omega, by go_num, Lib.hid ((allIn_snoc hkl).2 ⟨hI.out, by rw [HX.out]; omega⟩)⟩
            case measure => simp [intOf]; omega
      · go_wp2
        go_ret
        have := hI.out
        rw [List.take_of_length_le (by omega)] at this
        exact ⟨ret_bool (decide_eq_true this).symm, rfl⟩
theorem within_walk (f : FuncId) (hf : f = 50 ∨ f = 107) (lo hi : Int) (v : Value) (l : List Int) (w : World) (hv : IntsAt w v l) (hl : l.length ≤ maxLen) :
    Calls Try.prog f #[.int .i64 lo, .int .i64 hi, v] w fun e w' => e = .returned (.bool (decide (allIn lo hi l))) ∧ Ext w w' :=
  (within_same f hf lo hi v l w hv hl).mono fun _ _ ⟨h1, h2⟩ => ⟨h1, h2 ▸ Ext.refl _⟩
theorem within_one_same (f : FuncId) (hf : f = 50 ∨ f = 107) (lo hi x : Int) (k : Nat) (w : World) (hk : k = w.heap.size) :
    Calls Try.prog f #[.int .i64 lo, .int .i64 hi, .slice (some ⟨k, 0, none⟩) 1 1] (w.alloc (.cells #[.int .i64 x] 3)) fun e w' => e = .returned (.bool (decide (lo ≤ x ∧ x ≤ hi))) ∧ w.alloc (.cells #[.int .i64 x] 3) = w' := by
  refine (within_same f hf lo hi _ [x] _ (SlAt.of_owns (by subst hk; exact owns_lit w (ints [x]) 3 1 1 0 (Nat.zero_le _) (by unfold maxLen; omega) rfl)) (by simp [maxLen])).mono ?_
  rintro e w' ⟨rfl, h⟩
  exact ⟨ret_bool (by simp [allIn]), h⟩
/-- of one number, of two: a slice that the call itself has just laid -/
theorem one_at (w : World) (k : Nat) (hk : k = w.heap.size) (x : Int) : IntsAt (w.alloc (.cells #[.int .i64 x] 3)) (.slice (some ⟨k, 0, none⟩) 1 1) [x] := by
  subst hk
  exact SlAt.of_owns (owns_lit w (ints [x]) 3 1 1 0 (Nat.zero_le _) (by unfold maxLen; omega) rfl)
theorem two_at (w : World) (k : Nat) (hk : k = w.heap.size) (x y : Int) : IntsAt (w.alloc (.cells #[.int .i64 x, .int .i64 y] 3)) (.slice (some ⟨k, 0, none⟩) 2 2) [x, y] := by
  subst hk
  exact SlAt.of_owns (owns_lit w (ints [x, y]) 3 2 1 0 (Nat.zero_le _) (by unfold maxLen; omega) rfl)
theorem within_one (f : FuncId) (hf : f = 50 ∨ f = 107) (lo hi x : Int) (k : Nat) (w : World) (hk : k = w.heap.size) :
    Calls Try.prog f #[.int .i64 lo, .int .i64 hi, .slice (some ⟨k, 0, none⟩) 1 1] (w.alloc (.cells #[.int .i64 x] 3)) fun e w' => e = .returned (.bool (decide (lo ≤ x ∧ x ≤ hi))) ∧ Ext (w.alloc (.cells #[.int .i64 x] 3)) w' := by
  refine (within_walk f hf lo hi _ [x] _ (one_at w k hk x) (by simp [maxLen])).mono ?_
  rintro e w' ⟨rfl, h⟩
  exact ⟨ret_bool (by simp [allIn]), h⟩
theorem within_two (f : FuncId) (hf : f = 50 ∨ f = 107) (lo hi x y : Int) (k : Nat) (w : World) (hk : k = w.heap.size) :
    Calls Try.prog f #[.int .i64 lo, .int .i64 hi, .slice (some ⟨k, 0, none⟩) 2 2] (w.alloc (.cells #[.int .i64 x, .int .i64 y] 3)) fun e w' => e = .returned (.bool (decide ((lo ≤ x ∧ x ≤ hi) ∧ lo ≤ y ∧ y ≤ hi))) ∧ Ext (w.alloc (.cells #[.int .i64 x, .int .i64 y] 3)) w' := by
  refine (within_walk f hf lo hi _ [x, y] _ (two_at w k hk x y) (by simp [maxLen])).mono ?_
  rintro e w' ⟨rfl, h⟩
  exact ⟨ret_bool (by simp [allIn]), h⟩
set_option maxHeartbeats 1000000 in
theorem rwithin_same (f : FuncId) (hf : f = 61 ∨ f = 83) (n lo hi : Int) (w : World) :
    Calls Try.prog f #[.int .i64 n, .int .i64 lo, .int .i64 hi] w fun e w' => e = .returned (.bool (decide (lo ≤ n ∧ n ≤ hi))) ∧ w = w' := by
  rcases hf with rfl | rfl
  · go_enter Try.func61, Try.ntmps61
    go_wp2
    all_goals (go_ret; refine ⟨ret_bool ?_, rfl⟩; simp; omega)
  · go_enter Try.func83, Try.ntmps83
    go_wp2
    all_goals (go_ret; refine ⟨ret_bool ?_, rfl⟩; simp; omega)
theorem rwithin_walk (f : FuncId) (hf : f = 61 ∨ f = 83) (n lo hi : Int) (w : World) :
    Calls Try.prog f #[.int .i64 n, .int .i64 lo, .int .i64 hi] w fun e w' => e = .returned (.bool (decide (lo ≤ n ∧ n ≤ hi))) ∧ Ext w w' :=
  (rwithin_same f hf n lo hi w).mono fun _ _ ⟨h1, h2⟩ => ⟨h1, h2 ▸ Ext.refl _⟩
end Go.Proofs.Ytipkjdfnoonpcaa

/- Layer 7's camera images and their pixels: the program's functions and the reference's. -/
namespace Go.Proofs.Ytipkjdfnoonpcaa
open Go.RowKit Go.Sort

set_option maxHeartbeats 1000000 in
theorem c98 (m : Img) (v : Value) (x y : Int) (w : World) (hm : m.Sized) :
    Calls Try.prog 98 #[imgVal m v, .int .i64 x, .int .i64 y] w fun e w' => e = .returned (.bool (decide (m.In x y))) ∧ Ext w w' := by
  obtain ⟨⟨h1, h2⟩, ⟨h3, h4⟩, -⟩ := hm
  unfold imgVal
  by_cases hx : 0 ≤ x ∧ x ≤ m.w - 1
  · have q1 : decide (0 ≤ x ∧ x ≤ m.w - 1) = true := decide_eq_true hx
    have HX := Lib.hid hx
    clear hx
    go_enter Try.func98, Try.ntmps98
    go_wp2_with (go_at_call 83; (with_reducible refine (rwithin_walk 83 (.inr rfl) _ _ _ _).mono ?_); rintro e w' ⟨rfl, hb⟩; have hc := hb.cell; have hf := hb.frozen; have hz := hb.size)
    go_ret
    exact ⟨ret_bool (by have := HX.out; simp [Img.In, this.1, this.2]), (by repeat (first | exact Ext.refl _ | assumption | refine Ext.alloc ?_ _ | refine Ext.drewN ?_ _ | refine ext_grow ?_ _ _ | refine Ext.trans ?_ (by assumption)))⟩
  · have q1 : decide (0 ≤ x ∧ x ≤ m.w - 1) = false := decide_eq_false hx
    have HX := Lib.hid hx
    clear hx
    go_enter Try.func98, Try.ntmps98
    go_wp2_with (go_at_call 83; (with_reducible refine (rwithin_walk 83 (.inr rfl) _ _ _ _).mono ?_); rintro e w' ⟨rfl, hb⟩; have hc := hb.cell; have hf := hb.frozen; have hz := hb.size)
    go_ret
    exact ⟨ret_bool (decide_eq_false (fun h => HX.out h.1)).symm, (by repeat (first | exact Ext.refl _ | assumption | refine Ext.alloc ?_ _ | refine Ext.drewN ?_ _ | refine ext_grow ?_ _ _ | refine Ext.trans ?_ (by assumption)))⟩
set_option maxHeartbeats 1000000 in
theorem c48 (m : Img) (v : Value) (x y : Int) (w : World) (hm : m.Sized) (hi : m.In x y) (hv : IntsAt w v m.pix) :
    Calls Try.prog 48 #[imgVal m v, .int .i64 x, .int .i64 y] w fun e w' => e = .returned (.int .i64 (m.at x y)) ∧ Ext w w' := by
  obtain ⟨i1, i2, i3, i4⟩ := Img.idx hm hi
  obtain ⟨k1, k2⟩ := Img.len_bd hm
  obtain ⟨ao, cap, rfl, ⟨g1, g2⟩, hc⟩ := hv.form
  obtain ⟨b, off, rfl, c0⟩ := hc (y * m.w + x).toNat (by omega)
  have hx : m.pix.getD (y * m.w + x).toNat 0 = m.at x y := rfl
  rw [hx] at c0
  have z0 := World.block_lt_of_cell? _ _ c0
  simp only at z0
  obtain ⟨h1, h2⟩ := hi
  unfold imgVal
  obtain ⟨r, hr⟩ : ∃ r, m.at x y = r := ⟨_, rfl⟩
  rw [hr] at c0 ⊢
  have HC := Lib.hid hc
  clear hr hx hc hv hm
  go_enter Try.func48, Try.ntmps48
  go_wp2
  go_ret
  exact ⟨rfl, (by repeat (first | exact Ext.refl _ | assumption | refine Ext.alloc ?_ _ | refine Ext.drewN ?_ _ | refine ext_grow ?_ _ _ | refine Ext.trans ?_ (by assumption)))⟩
theorem mul_side {a b : Int} (h : (1 ≤ a ∧ a ≤ 16) ∧ 1 ≤ b ∧ b ≤ 16) : 1 ≤ a * b ∧ a * b ≤ 256 := by
  have h1 : 1 * 1 ≤ a * b := Int.mul_le_mul h.1.1 h.2.1 (by omega) (by omega)
  have h2 : a * b ≤ 16 * 16 := Int.mul_le_mul h.1.2 h.2.2 (by omega) (by omega)
  omega
set_option maxHeartbeats 2000000 in
theorem c84 (m : Img) (v : Value) (w : World) (hv : IntsAt w v m.pix) (hl : m.pix.length ≤ maxLen) :
    Calls Try.prog 84 #[imgVal m v] w fun e w' => e = .returned (.bool (decide m.Valid)) ∧ Ext w w' := by
  have HV := Lib.hid hv
  obtain ⟨ao, cap, rfl, -, -⟩ := hv.form
  have hlm : m.pix.length ≤ 9223372036854775807 := hl
  unfold imgVal
  clear hv
  by_cases hs : (1 ≤ m.w ∧ m.w ≤ 16) ∧ 1 ≤ m.h ∧ m.h ≤ 16
  · obtain ⟨p1, p2⟩ := mul_side hs
    have q1 : decide ((1 ≤ m.w ∧ m.w ≤ 16) ∧ 1 ≤ m.h ∧ m.h ≤ 16) = true := decide_eq_true hs
    have HS := Lib.hid hs
    clear hs
    by_cases hn : (m.pix.length : Int) = m.w * m.h
    · have q2 : ((m.pix.length : Int) == m.w * m.h) = true := by simpa using hn
      have HN := Lib.hid hn
      clear hn
      go_enter Try.func84, Try.ntmps84
      go_wp2_with (first | (have _q := hb; go_at_call 107; (with_reducible refine (within_walk 107 (.inr rfl) _ _ _ m.pix _ (HV.out.ext (by repeat (first | exact Ext.refl _ | assumption | refine Ext.alloc ?_ _ | refine Ext.drewN ?_ _ | refine ext_grow ?_ _ _ | refine Ext.trans ?_ (by assumption)))) hl).mono ?_); rintro e w2 ⟨rfl, hb2⟩) | (go_at_call 107; (with_reducible refine (within_two 107 (.inr rfl) _ _ _ _ _ _ (by simp)).mono ?_); rintro e w1 ⟨rfl, hb⟩; have hc := hb.cell; have hf := hb.frozen; have hz := hb.size))
      go_ret
      exact ⟨ret_bool (decide_eq_decide.2 ⟨fun h => ⟨⟨HS.out.1, HS.out.2, HN.out⟩, h⟩, fun h => h.2⟩), (by repeat (first | exact Ext.refl _ | assumption | refine Ext.alloc ?_ _ | refine Ext.drewN ?_ _ | refine ext_grow ?_ _ _ | refine Ext.trans ?_ (by assumption)))⟩
    · have q2 : ((m.pix.length : Int) == m.w * m.h) = false := by simpa using hn
      have HN := Lib.hid hn
      clear hn
      go_enter Try.func84, Try.ntmps84
      go_wp2_with (go_at_call 107; (with_reducible refine (within_two 107 (.inr rfl) _ _ _ _ _ _ (by simp)).mono ?_); rintro e w1 ⟨rfl, hb⟩; have hc := hb.cell; have hf := hb.frozen; have hz := hb.size)
      go_ret
      exact ⟨ret_bool (decide_eq_false (fun h => HN.out h.1.2.2)).symm, (by repeat (first | exact Ext.refl _ | assumption | refine Ext.alloc ?_ _ | refine Ext.drewN ?_ _ | refine ext_grow ?_ _ _ | refine Ext.trans ?_ (by assumption)))⟩
  · have q1 : decide ((1 ≤ m.w ∧ m.w ≤ 16) ∧ 1 ≤ m.h ∧ m.h ≤ 16) = false := decide_eq_false hs
    have HS := Lib.hid hs
    clear hs
    go_enter Try.func84, Try.ntmps84
    go_wp2_with (go_at_call 107; (with_reducible refine (within_two 107 (.inr rfl) _ _ _ _ _ _ (by simp)).mono ?_); rintro e w1 ⟨rfl, hb⟩; have hc := hb.cell; have hf := hb.frozen; have hz := hb.size)
    go_ret
    exact ⟨ret_bool (decide_eq_false (fun h => HS.out ⟨h.1.1, h.1.2.1⟩)).symm, (by repeat (first | exact Ext.refl _ | assumption | refine Ext.alloc ?_ _ | refine Ext.drewN ?_ _ | refine ext_grow ?_ _ _ | refine Ext.trans ?_ (by assumption)))⟩
def checkImg (m : Img) : Int := if m.Valid then 0 else 20
set_option maxHeartbeats 2000000 in
theorem c110 (m : Img) (v : Value) (w : World) (hv : IntsAt w v m.pix) (hl : m.pix.length ≤ maxLen) :
    Calls Try.prog 110 #[imgVal m v] w fun e w' => e = .returned (.int .i64 (checkImg m)) ∧ Ext w w' := by
  have K := Lib.hid (fun w' (h : Ext w w') => c84 m v w' (hv.ext h) hl)
  obtain ⟨t, ht⟩ : ∃ t, decide m.Valid = t := ⟨_, rfl⟩
  rw [ht] at K
  have HT := Lib.hid ht
  unfold imgVal at K ⊢
  clear hv ht
  cases t
  · go_enter Try.func110, Try.ntmps110
    go_wp2_with (go_at_call 84; (with_reducible refine (K.out _ (by repeat (first | exact Ext.refl _ | assumption | refine Ext.alloc ?_ _ | refine Ext.drewN ?_ _ | refine ext_grow ?_ _ _ | refine Ext.trans ?_ (by assumption)))).mono ?_); rintro e w1 ⟨rfl, hb⟩)
    go_ret
    exact ⟨ret_int (by unfold checkImg; rw [if_neg (of_decide_eq_false HT.out)]), (by repeat (first | exact Ext.refl _ | assumption | refine Ext.alloc ?_ _ | refine Ext.drewN ?_ _ | refine ext_grow ?_ _ _ | refine Ext.trans ?_ (by assumption)))⟩
  · go_enter Try.func110, Try.ntmps110
    go_wp2_with (go_at_call 84; (with_reducible refine (K.out _ (by repeat (first | exact Ext.refl _ | assumption | refine Ext.alloc ?_ _ | refine Ext.drewN ?_ _ | refine ext_grow ?_ _ _ | refine Ext.trans ?_ (by assumption)))).mono ?_); rintro e w1 ⟨rfl, hb⟩)
    go_ret
    exact ⟨ret_int (by unfold checkImg; rw [if_pos (of_decide_eq_true HT.out)]), (by repeat (first | exact Ext.refl _ | assumption | refine Ext.alloc ?_ _ | refine Ext.drewN ?_ _ | refine ext_grow ?_ _ _ | refine Ext.trans ?_ (by assumption)))⟩
set_option maxHeartbeats 2000000 in
theorem c89 (m : Img) (v : Value) (w : World) (hv : IntsAt w v m.pix) (hl : m.pix.length ≤ maxLen) :
    Calls Try.prog 89 #[imgVal m v] w fun e w' => e = .returned (.bool (decide m.Camera)) ∧ Ext w w' := by
  have HV := Lib.hid hv
  obtain ⟨ao, cap, rfl, -, -⟩ := hv.form
  have K := Lib.hid (fun w' (h : Ext w w') => c110 m _ w' (HV.out.ext h) hl)
  unfold imgVal at K ⊢
  clear hv
  by_cases hs : m.Valid
  · have hk : checkImg m = 0 := if_pos hs
    rw [hk] at K
    have HS := Lib.hid hs
    clear hs hk
    go_enter Try.func89, Try.ntmps89
    go_wp2_with (first | (go_at_call 110; (with_reducible refine (K.out _ (by repeat (first | exact Ext.refl _ | assumption | refine Ext.alloc ?_ _ | refine Ext.drewN ?_ _ | refine ext_grow ?_ _ _ | refine Ext.trans ?_ (by assumption)))).mono ?_); rintro e w1 ⟨rfl, hb⟩; have hc := hb.cell; have hf := hb.frozen; have hz := hb.size) | (go_at_call 50; (with_reducible refine (within_walk 50 (.inl rfl) _ _ _ m.pix _ (HV.out.ext (by repeat (first | exact Ext.refl _ | assumption | refine Ext.alloc ?_ _ | refine Ext.drewN ?_ _ | refine ext_grow ?_ _ _ | refine Ext.trans ?_ (by assumption)))) hl).mono ?_); rintro e w2 ⟨rfl, hb2⟩))
    go_ret
    exact ⟨ret_bool (decide_eq_decide.2 ((Img.camera_iff m).trans ⟨fun h => h.2, fun h => ⟨HS.out, h⟩⟩).symm), (by repeat (first | exact Ext.refl _ | assumption | refine Ext.alloc ?_ _ | refine Ext.drewN ?_ _ | refine ext_grow ?_ _ _ | refine Ext.trans ?_ (by assumption)))⟩
  · have hk : checkImg m = 20 := if_neg hs
    rw [hk] at K
    have HS := Lib.hid hs
    clear hs hk
    go_enter Try.func89, Try.ntmps89
    go_wp2_with (go_at_call 110; (with_reducible refine (K.out _ (by repeat (first | exact Ext.refl _ | assumption | refine Ext.alloc ?_ _ | refine Ext.drewN ?_ _ | refine ext_grow ?_ _ _ | refine Ext.trans ?_ (by assumption)))).mono ?_); rintro e w1 ⟨rfl, hb⟩; have hc := hb.cell; have hf := hb.frozen; have hz := hb.size)
    go_ret
    exact ⟨ret_bool (decide_eq_false (fun h => HS.out ((Img.camera_iff m).1 h).1)).symm, (by repeat (first | exact Ext.refl _ | assumption | refine Ext.alloc ?_ _ | refine Ext.drewN ?_ _ | refine ext_grow ?_ _ _ | refine Ext.trans ?_ (by assumption)))⟩
end Go.Proofs.Ytipkjdfnoonpcaa

/- Layer 7's valid images, tools and slacks: the reference's functions, and both readings of what is ready. -/
namespace Go.Proofs.Ytipkjdfnoonpcaa
open Go.RowKit Go.Sort

set_option maxHeartbeats 2000000 in
theorem c45 (m : Img) (v : Value) (w : World) (hv : IntsAt w v m.pix) (hl : m.pix.length ≤ maxLen) :
    Calls Try.prog 45 #[imgVal m v] w fun e w' => e = .returned (.bool (decide m.Valid)) ∧ Ext w w' := by
  obtain ⟨ao, cap, rfl, -, hc⟩ := hv.form
  have HC := Lib.hid hc
  have hlm : m.pix.length ≤ 9223372036854775807 := hl
  unfold imgVal
  clear hv hc
  by_cases hs : 1 ≤ m.w ∧ m.w ≤ 16
  case neg =>
    have q1 : decide (1 ≤ m.w ∧ m.w ≤ 16) = false := decide_eq_false hs
    have HS := Lib.hid hs
    clear hs
    go_enter Try.func45, Try.ntmps45
    go_wp2_with (go_at_call 83; (with_reducible refine (rwithin_same 83 (.inr rfl) _ _ _ _).mono ?_); rintro e w' ⟨rfl, rfl⟩)
    go_ret
    exact ⟨ret_bool (decide_eq_false (fun h => HS.out h.1.1)).symm, (by repeat (first | exact Ext.refl _ | assumption | refine Ext.alloc ?_ _ | refine Ext.drewN ?_ _ | refine ext_grow ?_ _ _ | refine Ext.trans ?_ (by assumption)))⟩
  by_cases ht : 1 ≤ m.h ∧ m.h ≤ 16
  case neg =>
    have q1 : decide (1 ≤ m.w ∧ m.w ≤ 16) = true := decide_eq_true hs
    have q2 : decide (1 ≤ m.h ∧ m.h ≤ 16) = false := decide_eq_false ht
    have HS := Lib.hid ht
    clear hs ht
    go_enter Try.func45, Try.ntmps45
    go_wp2_with (go_at_call 83; (with_reducible refine (rwithin_same 83 (.inr rfl) _ _ _ _).mono ?_); rintro e w' ⟨rfl, rfl⟩)
    go_ret
    exact ⟨ret_bool (decide_eq_false (fun h => HS.out h.1.2.1)).symm, (by repeat (first | exact Ext.refl _ | assumption | refine Ext.alloc ?_ _ | refine Ext.drewN ?_ _ | refine ext_grow ?_ _ _ | refine Ext.trans ?_ (by assumption)))⟩
  obtain ⟨p1, p2⟩ := mul_side ⟨hs, ht⟩
  have q1 : decide (1 ≤ m.w ∧ m.w ≤ 16) = true := decide_eq_true hs
  have q2 : decide (1 ≤ m.h ∧ m.h ≤ 16) = true := decide_eq_true ht
  have HS := Lib.hid hs
  have HT := Lib.hid ht
  clear hs ht
  by_cases hn : (m.pix.length : Int) = m.w * m.h
  case neg =>
    have q3 : ((m.pix.length : Int) != m.w * m.h) = true := by simpa using hn
    have HN := Lib.hid hn
    clear hn
    go_enter Try.func45, Try.ntmps45
    go_wp2_with (go_at_call 83; (with_reducible refine (rwithin_same 83 (.inr rfl) _ _ _ _).mono ?_); rintro e w' ⟨rfl, rfl⟩)
    go_ret
    exact ⟨ret_bool (decide_eq_false (fun h => HN.out h.1.2.2)).symm, (by repeat (first | exact Ext.refl _ | assumption | refine Ext.alloc ?_ _ | refine Ext.drewN ?_ _ | refine ext_grow ?_ _ _ | refine Ext.trans ?_ (by assumption)))⟩
  have q3 : ((m.pix.length : Int) != m.w * m.h) = false := by simpa using hn
  have HN := Lib.hid hn
  clear hn
  go_enter Try.func45, Try.ntmps45
  go_wp2_with (go_at_call 83; (with_reducible refine (rwithin_same 83 (.inr rfl) _ _ _ _).mono ?_); rintro e w' ⟨rfl, rfl⟩)
  go_loop [3] (fun i => ∃ k : Nat, k ≤ m.pix.length ∧ i = .int .i64 (k : Int) ∧ Hid (allIn (-2147483648) 2147483648 (m.pix.take k))) (fun i => m.pix.length - (intOf i).toNat)
  case atStart => exact ⟨0, Nat.zero_le _, rfl, Lib.hid (fun n hn => by simp at hn)⟩
  case round =>
    obtain ⟨k, hk, rfl, hI⟩ := hrel
    by_cases hkl : k < m.pix.length
    · obtain ⟨b, off, rfl, c0⟩ := HC.out k hkl
      obtain ⟨x, hx⟩ : ∃ x, m.pix.getD k 0 = x := ⟨_, rfl⟩
      rw [hx] at c0
      have HX := Lib.hid hx
      have z0 := World.block_lt_of_cell? _ _ c0
      simp only at z0
      clear hx
      by_cases h1 : -2147483648 ≤ x ∧ x ≤ 2147483648
      · have q4 : decide (-2147483648 ≤ x ∧ x ≤ 2147483648) = true := decide_eq_true h1
        have H1 := Lib.hid h1
        clear h1
        go_wp2_with (go_at_call 83; (with_reducible refine (rwithin_same 83 (.inr rfl) _ _ _ _).mono ?_); rintro e w' ⟨rfl, rfl⟩)
        go_round
        case rel => exact ⟨k + 1, by omega, by go_num, Lib.hid ((allIn_snoc hkl).2 ⟨hI.out, by rw [HX.out]; exact H1.out⟩)⟩
        case measure => simp [intOf]; omega
      · have q4 : decide (-2147483648 ≤ x ∧ x ≤ 2147483648) = false := decide_eq_false h1
        have H1 := Lib.hid h1
        clear h1
        go_wp2_with (go_at_call 83; (with_reducible refine (rwithin_same 83 (.inr rfl) _ _ _ _).mono ?_); rintro e w' ⟨rfl, rfl⟩)
        go_ret
        exact ⟨ret_bool (decide_eq_false (fun h => allIn_not hkl (by rw [HX.out]; exact H1.out) h.2)).symm, (by repeat (first | exact Ext.refl _ | assumption | refine Ext.alloc ?_ _ | refine Ext.drewN ?_ _ | refine ext_grow ?_ _ _ | refine Ext.trans ?_ (by assumption)))⟩
    · go_wp2
      go_ret
      have := hI.out
      rw [List.take_of_length_le (by omega)] at this
      exact ⟨ret_bool (decide_eq_true ⟨⟨HS.out, HT.out, HN.out⟩, this⟩).symm, (by repeat (first | exact Ext.refl _ | assumption | refine Ext.alloc ?_ _ | refine Ext.drewN ?_ _ | refine ext_grow ?_ _ _ | refine Ext.trans ?_ (by assumption)))⟩
set_option maxHeartbeats 2000000 in
theorem c42 (m : Img) (v : Value) (w : World) (hv : IntsAt w v m.pix) (hl : m.pix.length ≤ maxLen) :
    Calls Try.prog 42 #[imgVal m v] w fun e w' => e = .returned (.bool (decide m.Camera)) ∧ Ext w w' := by
  have HV := Lib.hid hv
  obtain ⟨ao, cap, rfl, -, -⟩ := hv.form
  have K := Lib.hid (fun w' (h : Ext w w') => c45 m _ w' (HV.out.ext h) hl)
  have hlm : m.pix.length ≤ 9223372036854775807 := hl
  unfold imgVal at K ⊢
  clear hv
  by_cases hs : m.Valid
  case neg =>
    have hk : decide m.Valid = false := decide_eq_false hs
    rw [hk] at K
    have HS := Lib.hid hs
    clear hs hk
    go_enter Try.func42, Try.ntmps42
    go_wp2_with (go_at_call 45; (with_reducible refine (K.out _ (by repeat (first | exact Ext.refl _ | assumption | refine Ext.alloc ?_ _ | refine Ext.drewN ?_ _ | refine ext_grow ?_ _ _ | refine Ext.trans ?_ (by assumption)))).mono ?_); rintro e w1 ⟨rfl, hb⟩)
    go_ret
    exact ⟨ret_bool (decide_eq_false (fun h => HS.out ((Img.camera_iff m).1 h).1)).symm, (by repeat (first | exact Ext.refl _ | assumption | refine Ext.alloc ?_ _ | refine Ext.drewN ?_ _ | refine ext_grow ?_ _ _ | refine Ext.trans ?_ (by assumption)))⟩
  have hk : decide m.Valid = true := decide_eq_true hs
  rw [hk] at K
  have HS := Lib.hid hs
  clear hs hk
  go_enter Try.func42, Try.ntmps42
  go_wp2_with (go_at_call 45; (with_reducible refine (K.out _ (by repeat (first | exact Ext.refl _ | assumption | refine Ext.alloc ?_ _ | refine Ext.drewN ?_ _ | refine ext_grow ?_ _ _ | refine Ext.trans ?_ (by assumption)))).mono ?_); rintro e w1 ⟨rfl, hb⟩; have hc := hb.cell; have hf := hb.frozen; have hz := hb.size)
  have hE : Ext w w1 := (by repeat (first | exact Ext.refl _ | assumption | refine Ext.alloc ?_ _ | refine Ext.drewN ?_ _ | refine ext_grow ?_ _ _ | refine Ext.trans ?_ (by assumption)))
  obtain ⟨⟨c0, c1, c2⟩, f0, f1, f2⟩ := run_3 (hb.blk (one_first w _))
  have HV1 := Lib.hid (HV.out.ext hE)
  clear hc hf
  go_loop [3] (fun i => ∃ k : Nat, k ≤ m.pix.length ∧ i = .int .i64 (k : Int) ∧ Hid (allIn 0 255 (m.pix.take k))) (fun i => m.pix.length - (intOf i).toNat)
  case atStart => exact ⟨0, Nat.zero_le _, rfl, Lib.hid (fun n hn => by simp at hn)⟩
  case round =>
    obtain ⟨k, hk, rfl, hI⟩ := hrel
    by_cases hkl : k < m.pix.length
    · obtain ⟨ao2, cap2, he, -, hc2⟩ := HV1.out.form
      injection he with e1 _ e2
      subst e1
      subst e2
      obtain ⟨b, off, rfl, c3⟩ := hc2 k hkl
      obtain ⟨x, hx⟩ : ∃ x, m.pix.getD k 0 = x := ⟨_, rfl⟩
      rw [hx] at c3
      have HX := Lib.hid hx
      clear hx hc2
      by_cases h1 : 0 ≤ x ∧ x ≤ 255
      · have q4 : decide (0 ≤ x ∧ x ≤ 255) = true := decide_eq_true h1
        have H1 := Lib.hid h1
        clear h1
        go_wp2_with (go_at_call 61; (with_reducible refine (rwithin_same 61 (.inl rfl) _ _ _ _).mono ?_); rintro e w' ⟨rfl, rfl⟩)
        go_round
        case rel => exact ⟨k + 1, by omega, by go_num, Lib.hid ((allIn_snoc hkl).2 ⟨hI.out, by rw [HX.out]; exact H1.out⟩)⟩
        case measure => simp [intOf]; omega
      · have q4 : decide (0 ≤ x ∧ x ≤ 255) = false := decide_eq_false h1
        have H1 := Lib.hid h1
        clear h1
        go_wp2_with (go_at_call 61; (with_reducible refine (rwithin_same 61 (.inl rfl) _ _ _ _).mono ?_); rintro e w' ⟨rfl, rfl⟩)
        go_ret
        exact ⟨ret_bool (decide_eq_false (fun h => allIn_not hkl (by rw [HX.out]; exact H1.out) h.2)).symm, hE⟩
    · go_wp2
      go_ret
      have := hI.out
      rw [List.take_of_length_le (by omega)] at this
      exact ⟨ret_bool (decide_eq_true ((Img.camera_iff m).2 ⟨HS.out, this⟩)).symm, hE⟩
def toolVal (t : Tool) : Value := .agg #[.int .i64 t.len, .int .i64 t.grip, .int .i64 t.palm]
set_option maxHeartbeats 2000000 in
theorem c91 (t : Tool) (w : World) : Calls Try.prog 91 #[toolVal t] w fun e w' => e = .returned (.bool (decide t.Ok)) ∧ Ext w w' := by
  unfold toolVal
  by_cases h1 : 1 ≤ t.len ∧ t.len ≤ 4
  case neg =>
    have q1 : decide (1 ≤ t.len ∧ t.len ≤ 4) = false := decide_eq_false h1
    have H1 := Lib.hid h1
    clear h1
    go_enter Try.func91, Try.ntmps91
    go_wp2_with (go_at_call 61; (with_reducible refine (rwithin_same 61 (.inl rfl) _ _ _ _).mono ?_); rintro e w' ⟨rfl, rfl⟩)
    go_ret
    exact ⟨ret_bool (decide_eq_false (fun h => H1.out h.1)).symm, (by repeat (first | exact Ext.refl _ | assumption | refine Ext.alloc ?_ _ | refine Ext.drewN ?_ _ | refine ext_grow ?_ _ _ | refine Ext.trans ?_ (by assumption)))⟩
  have q1 : decide (1 ≤ t.len ∧ t.len ≤ 4) = true := decide_eq_true h1
  have H1 := Lib.hid h1
  clear h1
  by_cases h2 : 1 ≤ t.grip
  case neg =>
    go_enter Try.func91, Try.ntmps91
    go_wp2_with (go_at_call 61; (with_reducible refine (rwithin_same 61 (.inl rfl) _ _ _ _).mono ?_); rintro e w' ⟨rfl, rfl⟩)
    go_ret
    exact ⟨ret_bool (decide_eq_false (fun h => by have := h.2.1; omega)).symm, (by repeat (first | exact Ext.refl _ | assumption | refine Ext.alloc ?_ _ | refine Ext.drewN ?_ _ | refine ext_grow ?_ _ _ | refine Ext.trans ?_ (by assumption)))⟩
  by_cases h3 : t.grip ≤ t.palm
  case neg =>
    go_enter Try.func91, Try.ntmps91
    go_wp2_with (go_at_call 61; (with_reducible refine (rwithin_same 61 (.inl rfl) _ _ _ _).mono ?_); rintro e w' ⟨rfl, rfl⟩)
    go_ret
    exact ⟨ret_bool (decide_eq_false (fun h => by have := h.2.2.1; omega)).symm, (by repeat (first | exact Ext.refl _ | assumption | refine Ext.alloc ?_ _ | refine Ext.drewN ?_ _ | refine ext_grow ?_ _ _ | refine Ext.trans ?_ (by assumption)))⟩
  by_cases h4 : t.palm ≤ 255
  case neg =>
    go_enter Try.func91, Try.ntmps91
    go_wp2_with (go_at_call 61; (with_reducible refine (rwithin_same 61 (.inl rfl) _ _ _ _).mono ?_); rintro e w' ⟨rfl, rfl⟩)
    go_ret
    exact ⟨ret_bool (decide_eq_decide.2 ⟨fun h => absurd h (by omega), fun h => h.2.2.2⟩), (by repeat (first | exact Ext.refl _ | assumption | refine Ext.alloc ?_ _ | refine Ext.drewN ?_ _ | refine ext_grow ?_ _ _ | refine Ext.trans ?_ (by assumption)))⟩
  go_enter Try.func91, Try.ntmps91
  go_wp2_with (go_at_call 61; (with_reducible refine (rwithin_same 61 (.inl rfl) _ _ _ _).mono ?_); rintro e w' ⟨rfl, rfl⟩)
  go_ret
  exact ⟨ret_bool (decide_eq_true ⟨H1.out, h2, h3, h4⟩).symm, (by repeat (first | exact Ext.refl _ | assumption | refine Ext.alloc ?_ _ | refine Ext.drewN ?_ _ | refine ext_grow ?_ _ _ | refine Ext.trans ?_ (by assumption)))⟩
/-- the error of a height map, a tool and a slack -/
def readyE (m : Img) (t : Tool) (slack : Int) : Int := if m.Camera then if t.Ok then if 0 ≤ slack ∧ slack ≤ 2 then 0 else 2 else 72 else 20
set_option maxHeartbeats 2000000 in
theorem c52 (m : Img) (v : Value) (t : Tool) (slack : Int) (w : World) (hv : IntsAt w v m.pix) (hl : m.pix.length ≤ maxLen) :
    Calls Try.prog 52 #[imgVal m v, toolVal t, .int .i64 slack] w fun e w' => e = .returned (.int .i64 (readyE m t slack)) ∧ Ext w w' := by
  have HV := Lib.hid hv
  obtain ⟨ao, cap, rfl, -, -⟩ := hv.form
  have K := Lib.hid (fun w' (h : Ext w w') => c42 m _ w' (HV.out.ext h) hl)
  have KT := Lib.hid (fun w' => c91 t w')
  unfold imgVal toolVal at *
  clear hv
  by_cases h1 : m.Camera
  case neg =>
    have q1 : decide m.Camera = false := decide_eq_false h1
    rw [q1] at K
    have H1 := Lib.hid h1
    clear h1 q1
    go_enter Try.func52, Try.ntmps52
    go_wp2_with (go_at_call 42; (with_reducible refine (K.out _ (by repeat (first | exact Ext.refl _ | assumption | refine Ext.alloc ?_ _ | refine Ext.drewN ?_ _ | refine ext_grow ?_ _ _ | refine Ext.trans ?_ (by assumption)))).mono ?_); rintro e w1 ⟨rfl, hb⟩)
    go_ret
    exact ⟨ret_int (by unfold readyE; rw [if_neg H1.out]), (by repeat (first | exact Ext.refl _ | assumption | refine Ext.alloc ?_ _ | refine Ext.drewN ?_ _ | refine ext_grow ?_ _ _ | refine Ext.trans ?_ (by assumption)))⟩
  have q1 : decide m.Camera = true := decide_eq_true h1
  rw [q1] at K
  have H1 := Lib.hid h1
  clear h1 q1
  by_cases h2 : t.Ok
  case neg =>
    have q1 : decide t.Ok = false := decide_eq_false h2
    rw [q1] at KT
    have H2 := Lib.hid h2
    clear h2 q1
    go_enter Try.func52, Try.ntmps52
    go_wp2_with (first | (go_at_call 42; (with_reducible refine (K.out _ (by repeat (first | exact Ext.refl _ | assumption | refine Ext.alloc ?_ _ | refine Ext.drewN ?_ _ | refine ext_grow ?_ _ _ | refine Ext.trans ?_ (by assumption)))).mono ?_); rintro e w1 ⟨rfl, hb⟩; have hc := hb.cell; have hf := hb.frozen; have hz := hb.size) | (go_at_call 91; (with_reducible refine (KT.out _).mono ?_); rintro e w2 ⟨rfl, hb2⟩))
    go_ret
    exact ⟨ret_int (by unfold readyE; rw [if_pos H1.out, if_neg H2.out]), (by repeat (first | exact Ext.refl _ | assumption | refine Ext.alloc ?_ _ | refine Ext.drewN ?_ _ | refine ext_grow ?_ _ _ | refine Ext.trans ?_ (by assumption)))⟩
  have q1 : decide t.Ok = true := decide_eq_true h2
  rw [q1] at KT
  have H2 := Lib.hid h2
  clear h2 q1
  by_cases h3 : 0 ≤ slack ∧ slack ≤ 2
  case neg =>
    have q1 : decide (0 ≤ slack ∧ slack ≤ 2) = false := decide_eq_false h3
    have H3 := Lib.hid h3
    clear h3
    go_enter Try.func52, Try.ntmps52
    go_wp2_with (first | (go_at_call 42; (with_reducible refine (K.out _ (by repeat (first | exact Ext.refl _ | assumption | refine Ext.alloc ?_ _ | refine Ext.drewN ?_ _ | refine ext_grow ?_ _ _ | refine Ext.trans ?_ (by assumption)))).mono ?_); rintro e w1 ⟨rfl, hb⟩; have hc := hb.cell; have hf := hb.frozen; have hz := hb.size) | (go_at_call 91; (with_reducible refine (KT.out _).mono ?_); rintro e w2 ⟨rfl, hb2⟩) | (go_at_call 61; (with_reducible refine (rwithin_same 61 (.inl rfl) _ _ _ _).mono ?_); rintro e w' ⟨rfl, rfl⟩))
    go_ret
    exact ⟨ret_int (by unfold readyE; rw [if_pos H1.out, if_pos H2.out, if_neg H3.out]), (by repeat (first | exact Ext.refl _ | assumption | refine Ext.alloc ?_ _ | refine Ext.drewN ?_ _ | refine ext_grow ?_ _ _ | refine Ext.trans ?_ (by assumption)))⟩
  have q1 : decide (0 ≤ slack ∧ slack ≤ 2) = true := decide_eq_true h3
  have H3 := Lib.hid h3
  clear h3
  go_enter Try.func52, Try.ntmps52
  go_wp2_with (first | (go_at_call 42; (with_reducible refine (K.out _ (by repeat (first | exact Ext.refl _ | assumption | refine Ext.alloc ?_ _ | refine Ext.drewN ?_ _ | refine ext_grow ?_ _ _ | refine Ext.trans ?_ (by assumption)))).mono ?_); rintro e w1 ⟨rfl, hb⟩; have hc := hb.cell; have hf := hb.frozen; have hz := hb.size) | (go_at_call 91; (with_reducible refine (KT.out _).mono ?_); rintro e w2 ⟨rfl, hb2⟩) | (go_at_call 61; (with_reducible refine (rwithin_same 61 (.inl rfl) _ _ _ _).mono ?_); rintro e w' ⟨rfl, rfl⟩))
  go_ret
  exact ⟨ret_int (by unfold readyE; rw [if_pos H1.out, if_pos H2.out, if_pos H3.out]), (by repeat (first | exact Ext.refl _ | assumption | refine Ext.alloc ?_ _ | refine Ext.drewN ?_ _ | refine ext_grow ?_ _ _ | refine Ext.trans ?_ (by assumption)))⟩
set_option maxHeartbeats 4000000 in
theorem c49 (m : Img) (v : Value) (t : Tool) (slack : Int) (w : World) (hv : IntsAt w v m.pix) (hl : m.pix.length ≤ maxLen) :
    Calls Try.prog 49 #[imgVal m v, toolVal t, .int .i64 slack] w fun e w' => e = .returned (.int .i64 (readyE m t slack)) ∧ Ext w w' := by
  have HV := Lib.hid hv
  obtain ⟨ao, cap, rfl, -, -⟩ := hv.form
  have K := Lib.hid (fun w' (h : Ext w w') => c89 m _ w' (HV.out.ext h) hl)
  unfold imgVal toolVal at *
  clear hv
  by_cases h1 : m.Camera
  case neg =>
    have q1 : decide m.Camera = false := decide_eq_false h1
    rw [q1] at K
    have H1 := Lib.hid h1
    clear h1 q1
    go_enter Try.func49, Try.ntmps49
    go_wp2_with (go_at_call 89; (with_reducible refine (K.out _ (by repeat (first | exact Ext.refl _ | assumption | refine Ext.alloc ?_ _ | refine Ext.drewN ?_ _ | refine ext_grow ?_ _ _ | refine Ext.trans ?_ (by assumption)))).mono ?_); rintro e w1 ⟨rfl, hb⟩; have hc := hb.cell; have hf := hb.frozen; have hz : w.heap.size + 1 < w1.heap.size := by have := hb.size; simp at this; omega)
    go_ret
    exact ⟨ret_int (by unfold readyE; rw [if_neg H1.out]), (by repeat (first | exact Ext.refl _ | assumption | refine Ext.alloc ?_ _ | refine Ext.drewN ?_ _ | refine ext_grow ?_ _ _ | refine Ext.trans ?_ (by assumption)))⟩
  have q1 : decide m.Camera = true := decide_eq_true h1
  rw [q1] at K
  have H1 := Lib.hid h1
  clear h1 q1
  by_cases h2 : 1 ≤ t.len ∧ t.len ≤ 4
  case neg =>
    have q1 : decide (1 ≤ t.len ∧ t.len ≤ 4) = false := decide_eq_false h2
    have H2 := Lib.hid h2
    clear h2
    go_enter Try.func49, Try.ntmps49
    go_wp2_with (first | (go_at_call 89; (with_reducible refine (K.out _ (by repeat (first | exact Ext.refl _ | assumption | refine Ext.alloc ?_ _ | refine Ext.drewN ?_ _ | refine ext_grow ?_ _ _ | refine Ext.trans ?_ (by assumption)))).mono ?_); rintro e w1 ⟨rfl, hb⟩; have hc := hb.cell; have hf := hb.frozen; have hz : w.heap.size + 1 < w1.heap.size := by have := hb.size; simp at this; omega) | (have _q := hb; go_at_call 50; (with_reducible refine (within_one_same 50 (.inl rfl) 1 4 _ _ _ (by simp)).mono ?_); rintro e w2 ⟨rfl, rfl⟩))
    go_ret
    refine ⟨ret_int ?_, (by repeat (first | exact Ext.refl _ | assumption | refine Ext.alloc ?_ _ | refine Ext.drewN ?_ _ | refine ext_grow ?_ _ _ | refine Ext.trans ?_ (by assumption)))⟩; unfold readyE; rw [if_pos H1.out]; exact (if_neg (fun h => H2.out h.1)).symm
  have q1 : decide (1 ≤ t.len ∧ t.len ≤ 4) = true := decide_eq_true h2
  have H2 := Lib.hid h2
  clear h2
  by_cases h3 : 1 ≤ t.grip
  case neg =>
    go_enter Try.func49, Try.ntmps49
    go_wp2_with (first | (go_at_call 89; (with_reducible refine (K.out _ (by repeat (first | exact Ext.refl _ | assumption | refine Ext.alloc ?_ _ | refine Ext.drewN ?_ _ | refine ext_grow ?_ _ _ | refine Ext.trans ?_ (by assumption)))).mono ?_); rintro e w1 ⟨rfl, hb⟩; have hc := hb.cell; have hf := hb.frozen; have hz : w.heap.size + 1 < w1.heap.size := by have := hb.size; simp at this; omega) | (have _q := hb; go_at_call 50; (with_reducible refine (within_one_same 50 (.inl rfl) 1 4 _ _ _ (by simp)).mono ?_); rintro e w2 ⟨rfl, rfl⟩))
    go_ret
    refine ⟨ret_int ?_, (by repeat (first | exact Ext.refl _ | assumption | refine Ext.alloc ?_ _ | refine Ext.drewN ?_ _ | refine ext_grow ?_ _ _ | refine Ext.trans ?_ (by assumption)))⟩; unfold readyE; rw [if_pos H1.out]; exact (if_neg (fun h => by have := h.2.1; omega)).symm
  by_cases h4 : t.grip ≤ t.palm
  case neg =>
    go_enter Try.func49, Try.ntmps49
    go_wp2_with (first | (go_at_call 89; (with_reducible refine (K.out _ (by repeat (first | exact Ext.refl _ | assumption | refine Ext.alloc ?_ _ | refine Ext.drewN ?_ _ | refine ext_grow ?_ _ _ | refine Ext.trans ?_ (by assumption)))).mono ?_); rintro e w1 ⟨rfl, hb⟩; have hc := hb.cell; have hf := hb.frozen; have hz : w.heap.size + 1 < w1.heap.size := by have := hb.size; simp at this; omega) | (have _q := hb; go_at_call 50; (with_reducible refine (within_one_same 50 (.inl rfl) 1 4 _ _ _ (by simp)).mono ?_); rintro e w2 ⟨rfl, rfl⟩))
    go_ret
    refine ⟨ret_int ?_, (by repeat (first | exact Ext.refl _ | assumption | refine Ext.alloc ?_ _ | refine Ext.drewN ?_ _ | refine ext_grow ?_ _ _ | refine Ext.trans ?_ (by assumption)))⟩; unfold readyE; rw [if_pos H1.out]; exact (if_neg (fun h => by have := h.2.2.1; omega)).symm
  by_cases h5 : t.palm ≤ 255
  case neg =>
    go_enter Try.func49, Try.ntmps49
    go_wp2_with (first | (go_at_call 89; (with_reducible refine (K.out _ (by repeat (first | exact Ext.refl _ | assumption | refine Ext.alloc ?_ _ | refine Ext.drewN ?_ _ | refine ext_grow ?_ _ _ | refine Ext.trans ?_ (by assumption)))).mono ?_); rintro e w1 ⟨rfl, hb⟩; have hc := hb.cell; have hf := hb.frozen; have hz : w.heap.size + 1 < w1.heap.size := by have := hb.size; simp at this; omega) | (have _q := hb; go_at_call 50; (with_reducible refine (within_one_same 50 (.inl rfl) 1 4 _ _ _ (by simp)).mono ?_); rintro e w2 ⟨rfl, rfl⟩))
    go_ret
    refine ⟨ret_int ?_, (by repeat (first | exact Ext.refl _ | assumption | refine Ext.alloc ?_ _ | refine Ext.drewN ?_ _ | refine ext_grow ?_ _ _ | refine Ext.trans ?_ (by assumption)))⟩; unfold readyE; rw [if_pos H1.out]; exact (if_neg (fun h => by have := h.2.2.2; omega)).symm
  by_cases h6 : 0 ≤ slack ∧ slack ≤ 2
  case neg =>
    have q2 : decide (0 ≤ slack ∧ slack ≤ 2) = false := decide_eq_false h6
    have H6 := Lib.hid h6
    clear h6
    go_enter Try.func49, Try.ntmps49
    go_wp2_with (first | (go_at_call 89; (with_reducible refine (K.out _ (by repeat (first | exact Ext.refl _ | assumption | refine Ext.alloc ?_ _ | refine Ext.drewN ?_ _ | refine ext_grow ?_ _ _ | refine Ext.trans ?_ (by assumption)))).mono ?_); rintro e w1 ⟨rfl, hb⟩; have hc := hb.cell; have hf := hb.frozen; have hz : w.heap.size + 1 < w1.heap.size := by have := hb.size; simp at this; omega) | (have _q := hb; go_at_call 50; (with_reducible refine (within_one_same 50 (.inl rfl) 1 4 _ _ _ (by simp)).mono ?_); rintro e w2 ⟨rfl, rfl⟩) | (have _q := hb; go_at_call 50; (with_reducible refine (within_one_same 50 (.inl rfl) 0 2 _ _ _ (by simp)).mono ?_); rintro e w2 ⟨rfl, rfl⟩))
    go_ret
    refine ⟨ret_int ?_, (by repeat (first | exact Ext.refl _ | assumption | refine Ext.alloc ?_ _ | refine Ext.drewN ?_ _ | refine ext_grow ?_ _ _ | refine Ext.trans ?_ (by assumption)))⟩; unfold readyE; rw [if_pos H1.out]; rw [if_pos ⟨H2.out, h3, h4, h5⟩, if_neg H6.out]
  have q2 : decide (0 ≤ slack ∧ slack ≤ 2) = true := decide_eq_true h6
  have H6 := Lib.hid h6
  clear h6
  go_enter Try.func49, Try.ntmps49
  go_wp2_with (first | (go_at_call 89; (with_reducible refine (K.out _ (by repeat (first | exact Ext.refl _ | assumption | refine Ext.alloc ?_ _ | refine Ext.drewN ?_ _ | refine ext_grow ?_ _ _ | refine Ext.trans ?_ (by assumption)))).mono ?_); rintro e w1 ⟨rfl, hb⟩; have hc := hb.cell; have hf := hb.frozen; have hz : w.heap.size + 1 < w1.heap.size := by have := hb.size; simp at this; omega) | (have _q := hb; go_at_call 50; (with_reducible refine (within_one_same 50 (.inl rfl) 1 4 _ _ _ (by simp)).mono ?_); rintro e w2 ⟨rfl, rfl⟩) | (have _q := hb; go_at_call 50; (with_reducible refine (within_one_same 50 (.inl rfl) 0 2 _ _ _ (by simp)).mono ?_); rintro e w2 ⟨rfl, rfl⟩))
  go_ret
  refine ⟨ret_int ?_, (by repeat (first | exact Ext.refl _ | assumption | refine Ext.alloc ?_ _ | refine Ext.drewN ?_ _ | refine ext_grow ?_ _ _ | refine Ext.trans ?_ (by assumption)))⟩; unfold readyE; rw [if_pos H1.out]; rw [if_pos ⟨H2.out, h3, h4, h5⟩, if_pos H6.out]
end Go.Proofs.Ytipkjdfnoonpcaa

/- The height at a place of a view. -/
namespace Go.Proofs.Ytipkjdfnoonpcaa
open Go.RowKit Go.Sort

def viewVal (m : Img) (v : Value) (a : Bool) : Value := .agg #[.int .i64 m.w, .int .i64 m.h, v, .bool a]
def HeightIs (m : Img) (a : Bool) (x y : Int) (e : Ending) : Prop := (m.vin a x y ∧ e = .returned (.tuple #[.int .i64 (m.vat a x y), .bool true])) ∨ (¬ m.vin a x y ∧ e = .returned (.tuple #[.int .i64 0, .bool false]))
set_option maxHeartbeats 4000000 in
theorem c90 (m : Img) (v : Value) (a : Bool) (x y : Int) (w : World) (hm : m.Sized) (hv : IntsAt w v m.pix) :
    Calls Try.prog 90 #[viewVal m v a, .int .i64 x, .int .i64 y] w fun e w' => HeightIs m a x y e ∧ Ext w w' := by
  obtain ⟨k1, k2⟩ := Img.len_bd hm
  obtain ⟨ao, cap, rfl, ⟨g1, g2⟩, hc⟩ := hv.form
  have hs : 1 ≤ m.w ∧ m.w ≤ 16 ∧ 1 ≤ m.h ∧ m.h ≤ 16 := ⟨hm.1.1, hm.1.2, hm.2.1.1, hm.2.1.2⟩
  obtain ⟨s1, s2, s3, s4⟩ := hs
  unfold viewVal
  clear hv
  cases a
  case false =>
    by_cases hx : 0 ≤ x ∧ x ≤ m.w - 1
    case neg =>
      have q1 : decide (0 ≤ x ∧ x ≤ m.w - 1) = false := decide_eq_false hx
      have HX := Lib.hid hx
      clear hx
      go_enter Try.func90, Try.ntmps90
      go_wp2_with (go_at_call 50; (with_reducible refine (within_one_same 50 (.inl rfl) _ _ _ _ _ (by simp)).mono ?_); rintro e w' ⟨rfl, rfl⟩)
      go_ret2
      exact ⟨.inr ⟨fun h => HX.out h.1, rfl⟩, (by repeat (first | exact Ext.refl _ | assumption | refine Ext.alloc ?_ _ | refine Ext.drewN ?_ _ | refine ext_grow ?_ _ _ | refine Ext.trans ?_ (by assumption)))⟩
    have q1 : decide (0 ≤ x ∧ x ≤ m.w - 1) = true := decide_eq_true hx
    by_cases hy : 0 ≤ y ∧ y ≤ m.h - 1
    case neg =>
      have q2 : decide (0 ≤ y ∧ y ≤ m.h - 1) = false := decide_eq_false hy
      have HY := Lib.hid hy
      clear hx hy
      go_enter Try.func90, Try.ntmps90
      go_wp2_with (go_at_call 50; (with_reducible refine (within_one_same 50 (.inl rfl) _ _ _ _ _ (by simp)).mono ?_); rintro e w' ⟨rfl, rfl⟩)
      go_ret2
      exact ⟨.inr ⟨fun h => HY.out h.2, rfl⟩, (by repeat (first | exact Ext.refl _ | assumption | refine Ext.alloc ?_ _ | refine Ext.drewN ?_ _ | refine ext_grow ?_ _ _ | refine Ext.trans ?_ (by assumption)))⟩
    have q2 : decide (0 ≤ y ∧ y ≤ m.h - 1) = true := decide_eq_true hy
    have hi : m.In x y := ⟨hx, hy⟩
    obtain ⟨i1, i2, i3, i4⟩ := Img.idx hm hi
    obtain ⟨b, off, rfl, c0⟩ := hc (y * m.w + x).toNat (by omega)
    have e9 : m.pix.getD (y * m.w + x).toNat 0 = m.vat false x y := rfl
    rw [e9] at c0
    have z0 := World.block_lt_of_cell? _ _ c0
    simp only at z0
    have z1 : b < w.heap.size + 1 := by omega
    have z2 : b < w.heap.size + 1 + 1 := by omega
    obtain ⟨r, hr⟩ : ∃ r, m.vat false x y = r := ⟨_, rfl⟩
    rw [hr] at c0
    have HR := Lib.hid hr
    have HI := Lib.hid hi
    obtain ⟨x1, x2⟩ := hx
    obtain ⟨y1, y2⟩ := hy
    have hxw : x < m.w := by omega
    have hyw : y < m.h := by omega
    clear hr e9 hc hi
    go_enter Try.func90, Try.ntmps90
    go_wp2_with (go_at_call 50; (with_reducible refine (within_one_same 50 (.inl rfl) _ _ _ _ _ (by simp)).mono ?_); rintro e w' ⟨rfl, rfl⟩)
    go_ret2
    exact ⟨.inl ⟨HI.out, by rw [HR.out]; rfl⟩, (by repeat (first | exact Ext.refl _ | assumption | refine Ext.alloc ?_ _ | refine Ext.drewN ?_ _ | refine ext_grow ?_ _ _ | refine Ext.trans ?_ (by assumption)))⟩
  case true =>
    by_cases hx : 0 ≤ y ∧ y ≤ m.w - 1
    case neg =>
      have q1 : decide (0 ≤ y ∧ y ≤ m.w - 1) = false := decide_eq_false hx
      have HX := Lib.hid hx
      clear hx
      go_enter Try.func90, Try.ntmps90
      go_wp2_with (go_at_call 50; (with_reducible refine (within_one_same 50 (.inl rfl) _ _ _ _ _ (by simp)).mono ?_); rintro e w' ⟨rfl, rfl⟩)
      go_ret2
      exact ⟨.inr ⟨fun h => HX.out h.1, rfl⟩, (by repeat (first | exact Ext.refl _ | assumption | refine Ext.alloc ?_ _ | refine Ext.drewN ?_ _ | refine ext_grow ?_ _ _ | refine Ext.trans ?_ (by assumption)))⟩
    have q1 : decide (0 ≤ y ∧ y ≤ m.w - 1) = true := decide_eq_true hx
    by_cases hy : 0 ≤ x ∧ x ≤ m.h - 1
    case neg =>
      have q2 : decide (0 ≤ x ∧ x ≤ m.h - 1) = false := decide_eq_false hy
      have HY := Lib.hid hy
      clear hx hy
      go_enter Try.func90, Try.ntmps90
      go_wp2_with (go_at_call 50; (with_reducible refine (within_one_same 50 (.inl rfl) _ _ _ _ _ (by simp)).mono ?_); rintro e w' ⟨rfl, rfl⟩)
      go_ret2
      exact ⟨.inr ⟨fun h => HY.out h.2, rfl⟩, (by repeat (first | exact Ext.refl _ | assumption | refine Ext.alloc ?_ _ | refine Ext.drewN ?_ _ | refine ext_grow ?_ _ _ | refine Ext.trans ?_ (by assumption)))⟩
    have q2 : decide (0 ≤ x ∧ x ≤ m.h - 1) = true := decide_eq_true hy
    have hi : m.In y x := ⟨hx, hy⟩
    obtain ⟨i1, i2, i3, i4⟩ := Img.idx hm hi
    obtain ⟨b, off, rfl, c0⟩ := hc (x * m.w + y).toNat (by omega)
    have e9 : m.pix.getD (x * m.w + y).toNat 0 = m.vat true x y := rfl
    rw [e9] at c0
    have z0 := World.block_lt_of_cell? _ _ c0
    simp only at z0
    have z1 : b < w.heap.size + 1 := by omega
    have z2 : b < w.heap.size + 1 + 1 := by omega
    obtain ⟨r, hr⟩ : ∃ r, m.vat true x y = r := ⟨_, rfl⟩
    rw [hr] at c0
    have HR := Lib.hid hr
    have HI := Lib.hid hi
    obtain ⟨x1, x2⟩ := hx
    obtain ⟨y1, y2⟩ := hy
    have hxw : y < m.w := by omega
    have hyw : x < m.h := by omega
    clear hr e9 hc hi
    go_enter Try.func90, Try.ntmps90
    go_wp2_with (go_at_call 50; (with_reducible refine (within_one_same 50 (.inl rfl) _ _ _ _ _ (by simp)).mono ?_); rintro e w' ⟨rfl, rfl⟩)
    go_ret2
    exact ⟨.inl ⟨HI.out, by rw [HR.out]; rfl⟩, (by repeat (first | exact Ext.refl _ | assumption | refine Ext.alloc ?_ _ | refine Ext.drewN ?_ _ | refine ext_grow ?_ _ _ | refine Ext.trans ?_ (by assumption)))⟩

theorem c90_yes (m : Img) (v : Value) (a : Bool) (x y : Int) (w : World) (hm : m.Sized) (hv : IntsAt w v m.pix) (h : m.vin a x y) :
    Calls Try.prog 90 #[viewVal m v a, .int .i64 x, .int .i64 y] w fun e w' => e = .returned (.tuple #[.int .i64 (m.vat a x y), .bool true]) ∧ Ext w w' :=
  (c90 m v a x y w hm hv).mono fun _ _ ⟨h1, h2⟩ => ⟨by rcases h1 with h1 | h1; exact h1.2; exact absurd h h1.1, h2⟩
theorem c90_no (m : Img) (v : Value) (a : Bool) (x y : Int) (w : World) (hm : m.Sized) (hv : IntsAt w v m.pix) (h : ¬ m.vin a x y) :
    Calls Try.prog 90 #[viewVal m v a, .int .i64 x, .int .i64 y] w fun e w' => e = .returned (.tuple #[.int .i64 0, .bool false]) ∧ Ext w w' :=
  (c90 m v a x y w hm hv).mono fun _ _ ⟨h1, h2⟩ => ⟨by rcases h1 with h1 | h1; exact absurd h1.1 h; exact h1.2, h2⟩
end Go.Proofs.Ytipkjdfnoonpcaa

/- The range of Z for which the grasps around a place hold. -/
namespace Go.Proofs.Ytipkjdfnoonpcaa
open Go.RowKit Go.Sort

theorem info98 : (Try.prog.info? 98).map (·.size) = some 2 := by kernel_rfl
/-- what 'tips' answers -/
def TipsIs (m : Img) (t : Tool) (a : Bool) (x y width slack : Int) (w : World) (e : Ending) (w' : World) : Prop :=
  ∃ lo hi : Int, e = .returned (.agg #[.int .i64 lo, .int .i64 hi]) ∧ Rng lo hi (m.holds a t.len t.palm t.grip width slack x y) ∧ Ext w w'
set_option maxRecDepth 100000 in
set_option maxHeartbeats 16000000 in
theorem c51 (m : Img) (v : Value) (t : Tool) (a : Bool) (x y width slack : Int) (w : World) (hm : m.Camera) (ht : t.Ok) (hv : IntsAt w v m.pix) (hx : 0 ≤ x ∧ x ≤ 16) (hy : 0 ≤ y ∧ y ≤ 16) (hw : 1 ≤ width ∧ width ≤ 8) (hs : 0 ≤ slack ∧ slack ≤ 2) :
    Calls Try.prog 51 #[viewVal m v a, toolVal t, .int .i64 x, .int .i64 y, .int .i64 width, .int .i64 slack] w (TipsIs m t a x y width slack w) := by
  have HC := Lib.hid hm
  have HM := Lib.hid hm.1
  have HV := Lib.hid hv
  obtain ⟨ao, cap, rfl, -, -⟩ := hv.form
  obtain ⟨v, hvv⟩ : ∃ v, Value.slice ao m.pix.length cap = v := ⟨_, rfl⟩
  obtain ⟨⟨t1, t2⟩, hg⟩ := ht
  obtain ⟨g1, g2, g3⟩ := id hg
  obtain ⟨x1, x2⟩ := hx
  obtain ⟨y1, y2⟩ := hy
  obtain ⟨hw1, hw2⟩ := hw
  obtain ⟨hs1, hs2⟩ := hs
  unfold viewVal toolVal
  rw [hvv] at HV ⊢
  clear hv hm hvv
  go_enter Try.func51, Try.ntmps51
  go_wp2
  go_loopw [14] (fun i wr => ∃ dy lo hi : Int, -slack ≤ dy ∧ dy ≤ t.len + slack ∧ i = .int .i64 dy ∧ Hid (Ext w wr) ∧ Hid (At wr [(w.heap.size + 1 + 1 + 1, Obj.cells #[.int .i64 (lo), .int .i64 (hi)] 98), (w.heap.size + 1 + 1, Obj.cells #[.int .i64 0, .int .i64 0] 98), (w.heap.size + 1, Obj.cells #[.int .i64 t.len, .int .i64 t.grip, .int .i64 t.palm] 26), (w.heap.size, Obj.cells #[.int .i64 m.w, .int .i64 m.h, v, .bool a] 96)]) ∧ Hid (Rng lo hi (m.upto a t.palm t.grip width slack x y dy (-slack)))) (fun i _ => (t.len + slack - intOf i).toNat)
  case atStart => exact ⟨-slack, 0, 255, by omega, by omega, rfl, Lib.hid (by repeat (first | exact Ext.refl _ | assumption | refine Ext.alloc ?_ _ | refine Ext.drewN ?_ _ | refine ext_grow ?_ _ _ | refine Ext.trans ?_ (by assumption))), Lib.hid (show At _ [(w.heap.size + 1 + 1 + 1, Obj.cells #[.int .i64 (0), .int .i64 (255)] 98), (w.heap.size + 1 + 1, Obj.cells #[.int .i64 0, .int .i64 0] 98), (w.heap.size + 1, Obj.cells #[.int .i64 t.len, .int .i64 t.grip, .int .i64 t.palm] 26), (w.heap.size, Obj.cells #[.int .i64 m.w, .int .i64 m.h, v, .bool a] 96)] from ⟨(by repeat (first | (refine blk_at _ _ ?_; (first | rfl | (simp only [size_one]; done))) | refine (blk_past _ _ (by simp only [size_one]; omega)).trans ?_)), (by repeat (first | (refine blk_at _ _ ?_; (first | rfl | (simp only [size_one]; done))) | refine (blk_past _ _ (by simp only [size_one]; omega)).trans ?_)), (by repeat (first | (refine blk_at _ _ ?_; (first | rfl | (simp only [size_one]; done))) | refine (blk_past _ _ (by simp only [size_one]; omega)).trans ?_)), (by repeat (first | (refine blk_at _ _ ?_; (first | rfl | (simp only [size_one]; done))) | refine (blk_past _ _ (by simp only [size_one]; omega)).trans ?_)), trivial⟩), Lib.hid (rng_start m a t.palm t.grip width slack x y)⟩
  case round =>
    obtain ⟨dy, lo, hi, hd1, hd3, rfl, hE, hA, hR⟩ := hrel
    obtain ⟨⟨r1, r2⟩, ⟨r3, r4⟩, -⟩ := id hR.out
    obtain ⟨⟨xa0, xa1⟩, xaf0, xaf1⟩ := run_2 (At.at hA.out 0 rfl)
    obtain ⟨⟨xb0, xb1⟩, xbf0, xbf1⟩ := run_2 (At.at hA.out 1 rfl)
    obtain ⟨⟨xc0, xc1, xc2⟩, -⟩ := run_3 (At.at hA.out 2 rfl)
    obtain ⟨⟨xd0, xd1, xd2, xd3⟩, -⟩ := run_4 (At.at hA.out 3 rfl)
    have xz := At.lt hA.out 0 rfl
    by_cases hd2 : dy < t.len + slack
    · go_wp2
      obtain ⟨wo, hwo⟩ : ∃ wo : World, wo = wr := ⟨_, rfl⟩
      subst hwo
      clear xa0 xa1 xaf0 xaf1 xb0 xb1 xbf0 xbf1 xc0 xc1 xc2 xd0 xd1 xd2 xd3 xz
      go_loopw [15] (fun i wr => ∃ dx lo hi : Int, -slack ≤ dx ∧ dx ≤ slack + 1 ∧ i = .int .i64 dx ∧ Hid (Ext w wr) ∧ Hid (At wr [(w.heap.size + 1 + 1 + 1, Obj.cells #[.int .i64 (lo), .int .i64 (hi)] 98), (w.heap.size + 1 + 1, Obj.cells #[.int .i64 0, .int .i64 0] 98), (w.heap.size + 1, Obj.cells #[.int .i64 t.len, .int .i64 t.grip, .int .i64 t.palm] 26), (w.heap.size, Obj.cells #[.int .i64 m.w, .int .i64 m.h, v, .bool a] 96)]) ∧ Hid (Rng lo hi (m.upto a t.palm t.grip width slack x y dy dx))) (fun i _ => (slack + 1 - intOf i).toNat)
      case atStart => exact ⟨-slack, lo, hi, by omega, by omega, rfl, hE, hA, hR⟩
      case round =>
        clear hE hA hR r1 r2 r3 r4
        obtain ⟨dx, lo, hi, hx1, hx3, rfl, hE, hA, hR⟩ := hrel
        obtain ⟨⟨r1, r2⟩, ⟨r3, r4⟩, -⟩ := id hR.out
        obtain ⟨⟨xa0, xa1⟩, xaf0, xaf1⟩ := run_2 (At.at hA.out 0 rfl)
        obtain ⟨⟨xb0, xb1⟩, xbf0, xbf1⟩ := run_2 (At.at hA.out 1 rfl)
        obtain ⟨⟨xc0, xc1, xc2⟩, -⟩ := run_3 (At.at hA.out 2 rfl)
        obtain ⟨⟨xd0, xd1, xd2, xd3⟩, -⟩ := run_4 (At.at hA.out 3 rfl)
        have xz := At.lt hA.out 0 rfl
        by_cases hx2 : dx ≤ slack
        · go_wp2
          have HR := hR
          obtain ⟨wo, hwo⟩ : ∃ wo : World, wo = wr := ⟨_, rfl⟩
          subst hwo
          clear xa0 xa1 xaf0 xaf1 xb0 xb1 xbf0 xbf1 xc0 xc1 xc2 xd0 xd1 xd2 xd3 xz
          go_loopw [16, 17] (fun l i wr => ∃ o lo1 ln : Int, -1 ≤ o ∧ o ≤ width + 1 ∧ i = .int .i64 o ∧ l = .int .i64 ln ∧ Hid (Ext w wr) ∧ Hid (At wr [(w.heap.size + 1 + 1 + 1, Obj.cells #[.int .i64 (lo1), .int .i64 (hi)] 98), (w.heap.size + 1 + 1, Obj.cells #[.int .i64 0, .int .i64 0] 98), (w.heap.size + 1, Obj.cells #[.int .i64 t.len, .int .i64 t.grip, .int .i64 t.palm] 26), (w.heap.size, Obj.cells #[.int .i64 m.w, .int .i64 m.h, v, .bool a] 96)]) ∧ Hid (m.lane a width (x + dx) (y + dy) lo o lo1 ln)) (fun _ i _ => (width + 1 - intOf i).toNat)
          case atStart => exact ⟨-1, lo, 0, by omega, by omega, rfl, rfl, hE, hA, Lib.hid (lane_start m a width (x + dx) (y + dy) lo hw1 ⟨r1, r2⟩)⟩
          case round =>
            clear hE hA
            obtain ⟨o, lo1, ln, ho1, ho2, rfl, rfl, hE, hA, hI⟩ := hrel
            obtain ⟨⟨⟨l1, l2⟩, l3, l4⟩, -⟩ := id hI.out
            by_cases how : o ≤ width
            · obtain ⟨⟨xa0, xa1⟩, xaf0, xaf1⟩ := run_2 (At.at hA.out 0 rfl)
              obtain ⟨⟨xb0, xb1⟩, xbf0, xbf1⟩ := run_2 (At.at hA.out 1 rfl)
              obtain ⟨⟨xc0, xc1, xc2⟩, -⟩ := run_3 (At.at hA.out 2 rfl)
              obtain ⟨⟨xd0, xd1, xd2, xd3⟩, -⟩ := run_4 (At.at hA.out 3 rfl)
              have xz := At.lt hA.out 0 rfl
              by_cases hin : m.vin a (x + dx + o) (y + dy)
              case neg =>
                have K := Lib.hid (fun w' (h : Ext w w') => c90_no m _ a (x + dx + o) (y + dy) w' HM.out (HV.out.ext h) hin)
                have HIN := Lib.hid hin
                unfold viewVal at K
                clear hin
                go_wp2_with (go_at_call 90; (with_reducible refine (K.out _ hE.out).mono ?_); rintro E w1 ⟨rfl, hb⟩; have A1 := Lib.hid (show At w1 [(w.heap.size + 1 + 1 + 1, Obj.cells #[.int .i64 (lo1), .int .i64 (hi)] 98), (w.heap.size + 1 + 1, Obj.cells #[.int .i64 0, .int .i64 0] 98), (w.heap.size + 1, Obj.cells #[.int .i64 t.len, .int .i64 t.grip, .int .i64 t.palm] 26), (w.heap.size, Obj.cells #[.int .i64 m.w, .int .i64 m.h, v, .bool a] 96)] from At.ext hb hA.out); have E1 := Lib.hid (hE.out.trans hb); obtain ⟨⟨ya0, ya1⟩, yaf0, yaf1⟩ := run_2 (At.at A1.out 0 rfl); obtain ⟨⟨yb0, yb1⟩, ybf0, ybf1⟩ := run_2 (At.at A1.out 1 rfl); obtain ⟨⟨yc0, yc1, yc2⟩, -⟩ := run_3 (At.at A1.out 2 rfl); obtain ⟨⟨yd0, yd1, yd2, yd3⟩, -⟩ := run_4 (At.at A1.out 3 rfl); have yz := At.lt A1.out 0 rfl)
                have stA := store_2 (v0 := .int .i64 0) (v1 := .int .i64 (-1)) (At.at A1.out 1 rfl)
                refine bodyPost_ret (results_row1 rfl _ _ (w.heap.size + 1 + 1) 98 _ (0, 0) _ rfl stA.1 Try.underlying98 rfl info98) rfl ?_
                exact ⟨0, -1, rfl, rng_out hd1 hd2 hx1 hx2 ho1 how HIN.out, stA.2.2 w (by omega) E1.out⟩
              have hb9 := Img.vat_bd HC.out hin
              have K := Lib.hid (fun w' (h : Ext w w') => c90_yes m _ a (x + dx + o) (y + dy) w' HM.out (HV.out.ext h) hin)
              have HIN := Lib.hid hin
              unfold viewVal at K
              obtain ⟨h, hh⟩ : ∃ h, m.vat a (x + dx + o) (y + dy) = h := ⟨_, rfl⟩
              rw [hh] at K hb9
              have HH := Lib.hid hh
              obtain ⟨hb8, hb7⟩ := hb9
              clear hin hh
              by_cases c1 : o = -1
              · have t1 : (o == -1) = true := by simpa using c1
                have C1 := Lib.hid c1
                clear c1
                rcases Int.lt_or_le lo1 h with hm | hm
                · go_wp2_with (go_at_call 90; (with_reducible refine (K.out _ hE.out).mono ?_); rintro E w1 ⟨rfl, hb⟩; have A1 := Lib.hid (show At w1 [(w.heap.size + 1 + 1 + 1, Obj.cells #[.int .i64 (lo1), .int .i64 (hi)] 98), (w.heap.size + 1 + 1, Obj.cells #[.int .i64 0, .int .i64 0] 98), (w.heap.size + 1, Obj.cells #[.int .i64 t.len, .int .i64 t.grip, .int .i64 t.palm] 26), (w.heap.size, Obj.cells #[.int .i64 m.w, .int .i64 m.h, v, .bool a] 96)] from At.ext hb hA.out); have E1 := Lib.hid (hE.out.trans hb); obtain ⟨⟨ya0, ya1⟩, yaf0, yaf1⟩ := run_2 (At.at A1.out 0 rfl); obtain ⟨⟨yb0, yb1⟩, ybf0, ybf1⟩ := run_2 (At.at A1.out 1 rfl); obtain ⟨⟨yc0, yc1, yc2⟩, -⟩ := run_3 (At.at A1.out 2 rfl); obtain ⟨⟨yd0, yd1, yd2, yd3⟩, -⟩ := run_4 (At.at A1.out 3 rfl); have yz := At.lt A1.out 0 rfl)
                  go_roundw
                  case rel => exact ⟨o + 1, h, ln, by omega, by omega, rfl, rfl, Lib.hid (E1.out.setCell (p := ⟨w.heap.size + 1 + 1 + 1, 0, none⟩) (show w.heap.size ≤ w.heap.size + 1 + 1 + 1 by omega) _), Lib.hid (show At (World.setCell _ ⟨w.heap.size + 1 + 1 + 1, 0, none⟩ (.int .i64 (h))) [(w.heap.size + 1 + 1 + 1, Obj.cells #[.int .i64 (h), .int .i64 (hi)] 98), (w.heap.size + 1 + 1, Obj.cells #[.int .i64 0, .int .i64 0] 98), (w.heap.size + 1, Obj.cells #[.int .i64 t.len, .int .i64 t.grip, .int .i64 t.palm] 26), (w.heap.size, Obj.cells #[.int .i64 m.w, .int .i64 m.h, v, .bool a] 96)] from ⟨(st_one (At.at A1.out 0 rfl) 0 _).1, At.other (set_at _ _ _ _) (by simp; omega) (At.erase A1.out 0)⟩), Lib.hid (by
                    have := C1.out; subst this
                    have h9 := lane_first HC.out hw1 hI.out HIN.out
                    rw [HH.out, Int.max_eq_right (Int.le_of_lt hm)] at h9
                    exact h9)⟩
                  case measure => simp [intOf]; omega
                · go_wp2_with (go_at_call 90; (with_reducible refine (K.out _ hE.out).mono ?_); rintro E w1 ⟨rfl, hb⟩; have A1 := Lib.hid (show At w1 [(w.heap.size + 1 + 1 + 1, Obj.cells #[.int .i64 (lo1), .int .i64 (hi)] 98), (w.heap.size + 1 + 1, Obj.cells #[.int .i64 0, .int .i64 0] 98), (w.heap.size + 1, Obj.cells #[.int .i64 t.len, .int .i64 t.grip, .int .i64 t.palm] 26), (w.heap.size, Obj.cells #[.int .i64 m.w, .int .i64 m.h, v, .bool a] 96)] from At.ext hb hA.out); have E1 := Lib.hid (hE.out.trans hb); obtain ⟨⟨ya0, ya1⟩, yaf0, yaf1⟩ := run_2 (At.at A1.out 0 rfl); obtain ⟨⟨yb0, yb1⟩, ybf0, ybf1⟩ := run_2 (At.at A1.out 1 rfl); obtain ⟨⟨yc0, yc1, yc2⟩, -⟩ := run_3 (At.at A1.out 2 rfl); obtain ⟨⟨yd0, yd1, yd2, yd3⟩, -⟩ := run_4 (At.at A1.out 3 rfl); have yz := At.lt A1.out 0 rfl)
                  go_roundw
                  case rel => exact ⟨o + 1, lo1, ln, by omega, by omega, rfl, rfl, Lib.hid (E1.out.setCell (p := ⟨w.heap.size + 1 + 1 + 1, 0, none⟩) (show w.heap.size ≤ w.heap.size + 1 + 1 + 1 by omega) _), Lib.hid (show At (World.setCell _ ⟨w.heap.size + 1 + 1 + 1, 0, none⟩ (.int .i64 (lo1))) [(w.heap.size + 1 + 1 + 1, Obj.cells #[.int .i64 (lo1), .int .i64 (hi)] 98), (w.heap.size + 1 + 1, Obj.cells #[.int .i64 0, .int .i64 0] 98), (w.heap.size + 1, Obj.cells #[.int .i64 t.len, .int .i64 t.grip, .int .i64 t.palm] 26), (w.heap.size, Obj.cells #[.int .i64 m.w, .int .i64 m.h, v, .bool a] 96)] from ⟨(st_one (At.at A1.out 0 rfl) 0 _).1, At.other (set_at _ _ _ _) (by simp; omega) (At.erase A1.out 0)⟩), Lib.hid (by
                    have := C1.out; subst this
                    have h9 := lane_first HC.out hw1 hI.out HIN.out
                    rw [HH.out, Int.max_eq_left hm] at h9
                    exact h9)⟩
                  case measure => simp [intOf]; omega
              · have t1 : (o == -1) = false := by simpa using c1
                by_cases c2 : o = width
                · have t2 : (o == width) = true := by simpa using c2
                  have C2 := Lib.hid c2
                  clear c1 c2
                  rcases Int.lt_or_le lo1 h with hm | hm
                  · go_wp2_with (go_at_call 90; (with_reducible refine (K.out _ hE.out).mono ?_); rintro E w1 ⟨rfl, hb⟩; have A1 := Lib.hid (show At w1 [(w.heap.size + 1 + 1 + 1, Obj.cells #[.int .i64 (lo1), .int .i64 (hi)] 98), (w.heap.size + 1 + 1, Obj.cells #[.int .i64 0, .int .i64 0] 98), (w.heap.size + 1, Obj.cells #[.int .i64 t.len, .int .i64 t.grip, .int .i64 t.palm] 26), (w.heap.size, Obj.cells #[.int .i64 m.w, .int .i64 m.h, v, .bool a] 96)] from At.ext hb hA.out); have E1 := Lib.hid (hE.out.trans hb); obtain ⟨⟨ya0, ya1⟩, yaf0, yaf1⟩ := run_2 (At.at A1.out 0 rfl); obtain ⟨⟨yb0, yb1⟩, ybf0, ybf1⟩ := run_2 (At.at A1.out 1 rfl); obtain ⟨⟨yc0, yc1, yc2⟩, -⟩ := run_3 (At.at A1.out 2 rfl); obtain ⟨⟨yd0, yd1, yd2, yd3⟩, -⟩ := run_4 (At.at A1.out 3 rfl); have yz := At.lt A1.out 0 rfl)
                    go_roundw
                    case rel => exact ⟨o + 1, h, ln, by omega, by omega, rfl, rfl, Lib.hid (E1.out.setCell (p := ⟨w.heap.size + 1 + 1 + 1, 0, none⟩) (show w.heap.size ≤ w.heap.size + 1 + 1 + 1 by omega) _), Lib.hid (show At (World.setCell _ ⟨w.heap.size + 1 + 1 + 1, 0, none⟩ (.int .i64 (h))) [(w.heap.size + 1 + 1 + 1, Obj.cells #[.int .i64 (h), .int .i64 (hi)] 98), (w.heap.size + 1 + 1, Obj.cells #[.int .i64 0, .int .i64 0] 98), (w.heap.size + 1, Obj.cells #[.int .i64 t.len, .int .i64 t.grip, .int .i64 t.palm] 26), (w.heap.size, Obj.cells #[.int .i64 m.w, .int .i64 m.h, v, .bool a] 96)] from ⟨(st_one (At.at A1.out 0 rfl) 0 _).1, At.other (set_at _ _ _ _) (by simp; omega) (At.erase A1.out 0)⟩), Lib.hid (by
                      have := C2.out; subst this
                      have h9 := lane_last HC.out hw1 hI.out HIN.out
                      rw [HH.out, Int.max_eq_right (Int.le_of_lt hm)] at h9
                      exact h9)⟩
                    case measure => simp [intOf]; omega
                  · go_wp2_with (go_at_call 90; (with_reducible refine (K.out _ hE.out).mono ?_); rintro E w1 ⟨rfl, hb⟩; have A1 := Lib.hid (show At w1 [(w.heap.size + 1 + 1 + 1, Obj.cells #[.int .i64 (lo1), .int .i64 (hi)] 98), (w.heap.size + 1 + 1, Obj.cells #[.int .i64 0, .int .i64 0] 98), (w.heap.size + 1, Obj.cells #[.int .i64 t.len, .int .i64 t.grip, .int .i64 t.palm] 26), (w.heap.size, Obj.cells #[.int .i64 m.w, .int .i64 m.h, v, .bool a] 96)] from At.ext hb hA.out); have E1 := Lib.hid (hE.out.trans hb); obtain ⟨⟨ya0, ya1⟩, yaf0, yaf1⟩ := run_2 (At.at A1.out 0 rfl); obtain ⟨⟨yb0, yb1⟩, ybf0, ybf1⟩ := run_2 (At.at A1.out 1 rfl); obtain ⟨⟨yc0, yc1, yc2⟩, -⟩ := run_3 (At.at A1.out 2 rfl); obtain ⟨⟨yd0, yd1, yd2, yd3⟩, -⟩ := run_4 (At.at A1.out 3 rfl); have yz := At.lt A1.out 0 rfl)
                    go_roundw
                    case rel => exact ⟨o + 1, lo1, ln, by omega, by omega, rfl, rfl, Lib.hid (E1.out.setCell (p := ⟨w.heap.size + 1 + 1 + 1, 0, none⟩) (show w.heap.size ≤ w.heap.size + 1 + 1 + 1 by omega) _), Lib.hid (show At (World.setCell _ ⟨w.heap.size + 1 + 1 + 1, 0, none⟩ (.int .i64 (lo1))) [(w.heap.size + 1 + 1 + 1, Obj.cells #[.int .i64 (lo1), .int .i64 (hi)] 98), (w.heap.size + 1 + 1, Obj.cells #[.int .i64 0, .int .i64 0] 98), (w.heap.size + 1, Obj.cells #[.int .i64 t.len, .int .i64 t.grip, .int .i64 t.palm] 26), (w.heap.size, Obj.cells #[.int .i64 m.w, .int .i64 m.h, v, .bool a] 96)] from ⟨(st_one (At.at A1.out 0 rfl) 0 _).1, At.other (set_at _ _ _ _) (by simp; omega) (At.erase A1.out 0)⟩), Lib.hid (by
                      have := C2.out; subst this
                      have h9 := lane_last HC.out hw1 hI.out HIN.out
                      rw [HH.out, Int.max_eq_left hm] at h9
                      exact h9)⟩
                    case measure => simp [intOf]; omega
                · have t2 : (o == width) = false := by simpa using c2
                  have o1 : 0 ≤ o := by omega
                  have o2 : o < width := by omega
                  clear c1 c2
                  rcases Int.lt_or_le ln h with hm | hm
                  · go_wp2_with (go_at_call 90; (with_reducible refine (K.out _ hE.out).mono ?_); rintro E w1 ⟨rfl, hb⟩; have A1 := Lib.hid (show At w1 [(w.heap.size + 1 + 1 + 1, Obj.cells #[.int .i64 (lo1), .int .i64 (hi)] 98), (w.heap.size + 1 + 1, Obj.cells #[.int .i64 0, .int .i64 0] 98), (w.heap.size + 1, Obj.cells #[.int .i64 t.len, .int .i64 t.grip, .int .i64 t.palm] 26), (w.heap.size, Obj.cells #[.int .i64 m.w, .int .i64 m.h, v, .bool a] 96)] from At.ext hb hA.out); have E1 := Lib.hid (hE.out.trans hb); obtain ⟨⟨ya0, ya1⟩, yaf0, yaf1⟩ := run_2 (At.at A1.out 0 rfl); obtain ⟨⟨yb0, yb1⟩, ybf0, ybf1⟩ := run_2 (At.at A1.out 1 rfl); obtain ⟨⟨yc0, yc1, yc2⟩, -⟩ := run_3 (At.at A1.out 2 rfl); obtain ⟨⟨yd0, yd1, yd2, yd3⟩, -⟩ := run_4 (At.at A1.out 3 rfl); have yz := At.lt A1.out 0 rfl)
                    go_roundw
                    case rel => exact ⟨o + 1, lo1, h, by omega, by omega, rfl, rfl, E1, A1, Lib.hid (by
                      have h9 := lane_mid HC.out o1 o2 hI.out HIN.out
                      rw [HH.out, Int.max_eq_right (Int.le_of_lt hm)] at h9
                      exact h9)⟩
                    case measure => simp [intOf]; omega
                  · go_wp2_with (go_at_call 90; (with_reducible refine (K.out _ hE.out).mono ?_); rintro E w1 ⟨rfl, hb⟩; have A1 := Lib.hid (show At w1 [(w.heap.size + 1 + 1 + 1, Obj.cells #[.int .i64 (lo1), .int .i64 (hi)] 98), (w.heap.size + 1 + 1, Obj.cells #[.int .i64 0, .int .i64 0] 98), (w.heap.size + 1, Obj.cells #[.int .i64 t.len, .int .i64 t.grip, .int .i64 t.palm] 26), (w.heap.size, Obj.cells #[.int .i64 m.w, .int .i64 m.h, v, .bool a] 96)] from At.ext hb hA.out); have E1 := Lib.hid (hE.out.trans hb); obtain ⟨⟨ya0, ya1⟩, yaf0, yaf1⟩ := run_2 (At.at A1.out 0 rfl); obtain ⟨⟨yb0, yb1⟩, ybf0, ybf1⟩ := run_2 (At.at A1.out 1 rfl); obtain ⟨⟨yc0, yc1, yc2⟩, -⟩ := run_3 (At.at A1.out 2 rfl); obtain ⟨⟨yd0, yd1, yd2, yd3⟩, -⟩ := run_4 (At.at A1.out 3 rfl); have yz := At.lt A1.out 0 rfl)
                    go_roundw
                    case rel => exact ⟨o + 1, lo1, ln, by omega, by omega, rfl, rfl, E1, A1, Lib.hid (by
                      have h9 := lane_mid HC.out o1 o2 hI.out HIN.out
                      rw [HH.out, Int.max_eq_left hm] at h9
                      exact h9)⟩
                    case measure => simp [intOf]; omega
            · obtain rfl : o = width + 1 := by omega
              obtain ⟨⟨xa0, xa1⟩, xaf0, xaf1⟩ := run_2 (At.at hA.out 0 rfl)
              obtain ⟨⟨xb0, xb1⟩, xbf0, xbf1⟩ := run_2 (At.at hA.out 1 rfl)
              obtain ⟨⟨xc0, xc1, xc2⟩, -⟩ := run_3 (At.at hA.out 2 rfl)
              obtain ⟨⟨xd0, xd1, xd2, xd3⟩, -⟩ := run_4 (At.at hA.out 3 rfl)
              have xz := At.lt hA.out 0 rfl
              have HN := Lib.hid (rng_cell hg hx1 hw1 HR.out hI.out)
              clear how
              rcases Int.lt_or_le lo1 (ln - t.palm) with hm | hm <;> rcases Int.lt_or_le (ln - t.grip) hi with hn | hn
              · go_wp2
                go_roundw
                case rel => exact ⟨dx + 1, ln - t.palm, ln - t.grip, by omega, by omega, rfl, Lib.hid ((hE.out.setCell (p := ⟨w.heap.size + 1 + 1 + 1, 0, none⟩) (show w.heap.size ≤ w.heap.size + 1 + 1 + 1 by omega) _).setCell (p := ⟨w.heap.size + 1 + 1 + 1, 1, none⟩) (show w.heap.size ≤ w.heap.size + 1 + 1 + 1 by omega) _), Lib.hid (show At _ [(w.heap.size + 1 + 1 + 1, Obj.cells #[.int .i64 (ln - t.palm), .int .i64 (ln - t.grip)] 98), (w.heap.size + 1 + 1, Obj.cells #[.int .i64 0, .int .i64 0] 98), (w.heap.size + 1, Obj.cells #[.int .i64 t.len, .int .i64 t.grip, .int .i64 t.palm] 26), (w.heap.size, Obj.cells #[.int .i64 m.w, .int .i64 m.h, v, .bool a] 96)] from ⟨(st_one (st_one (At.at hA.out 0 rfl) 0 (.int .i64 (ln - t.palm))).1 1 (.int .i64 (ln - t.grip))).1, At.other (set_at _ _ _ _) (by simp; omega) (At.other (set_at _ _ _ _) (by simp; omega) (At.erase hA.out 0))⟩), Lib.hid (by
                  have h9 := HN.out
                  rw [Int.max_eq_right (Int.le_of_lt hm), Int.min_eq_right (Int.le_of_lt hn)] at h9
                  exact h9)⟩
                case measure => simp [intOf]; omega
              · go_wp2
                go_roundw
                case rel => exact ⟨dx + 1, ln - t.palm, hi, by omega, by omega, rfl, Lib.hid ((hE.out.setCell (p := ⟨w.heap.size + 1 + 1 + 1, 0, none⟩) (show w.heap.size ≤ w.heap.size + 1 + 1 + 1 by omega) _).setCell (p := ⟨w.heap.size + 1 + 1 + 1, 1, none⟩) (show w.heap.size ≤ w.heap.size + 1 + 1 + 1 by omega) _), Lib.hid (show At _ [(w.heap.size + 1 + 1 + 1, Obj.cells #[.int .i64 (ln - t.palm), .int .i64 (hi)] 98), (w.heap.size + 1 + 1, Obj.cells #[.int .i64 0, .int .i64 0] 98), (w.heap.size + 1, Obj.cells #[.int .i64 t.len, .int .i64 t.grip, .int .i64 t.palm] 26), (w.heap.size, Obj.cells #[.int .i64 m.w, .int .i64 m.h, v, .bool a] 96)] from ⟨(st_one (st_one (At.at hA.out 0 rfl) 0 (.int .i64 (ln - t.palm))).1 1 (.int .i64 (hi))).1, At.other (set_at _ _ _ _) (by simp; omega) (At.other (set_at _ _ _ _) (by simp; omega) (At.erase hA.out 0))⟩), Lib.hid (by
                  have h9 := HN.out
                  rw [Int.max_eq_right (Int.le_of_lt hm), Int.min_eq_left hn] at h9
                  exact h9)⟩
                case measure => simp [intOf]; omega
              · go_wp2
                go_roundw
                case rel => exact ⟨dx + 1, lo1, ln - t.grip, by omega, by omega, rfl, Lib.hid ((hE.out.setCell (p := ⟨w.heap.size + 1 + 1 + 1, 0, none⟩) (show w.heap.size ≤ w.heap.size + 1 + 1 + 1 by omega) _).setCell (p := ⟨w.heap.size + 1 + 1 + 1, 1, none⟩) (show w.heap.size ≤ w.heap.size + 1 + 1 + 1 by omega) _), Lib.hid (show At _ [(w.heap.size + 1 + 1 + 1, Obj.cells #[.int .i64 (lo1), .int .i64 (ln - t.grip)] 98), (w.heap.size + 1 + 1, Obj.cells #[.int .i64 0, .int .i64 0] 98), (w.heap.size + 1, Obj.cells #[.int .i64 t.len, .int .i64 t.grip, .int .i64 t.palm] 26), (w.heap.size, Obj.cells #[.int .i64 m.w, .int .i64 m.h, v, .bool a] 96)] from ⟨(st_one (st_one (At.at hA.out 0 rfl) 0 (.int .i64 (lo1))).1 1 (.int .i64 (ln - t.grip))).1, At.other (set_at _ _ _ _) (by simp; omega) (At.other (set_at _ _ _ _) (by simp; omega) (At.erase hA.out 0))⟩), Lib.hid (by
                  have h9 := HN.out
                  rw [Int.max_eq_left hm, Int.min_eq_right (Int.le_of_lt hn)] at h9
                  exact h9)⟩
                case measure => simp [intOf]; omega
              · go_wp2
                go_roundw
                case rel => exact ⟨dx + 1, lo1, hi, by omega, by omega, rfl, Lib.hid ((hE.out.setCell (p := ⟨w.heap.size + 1 + 1 + 1, 0, none⟩) (show w.heap.size ≤ w.heap.size + 1 + 1 + 1 by omega) _).setCell (p := ⟨w.heap.size + 1 + 1 + 1, 1, none⟩) (show w.heap.size ≤ w.heap.size + 1 + 1 + 1 by omega) _), Lib.hid (show At _ [(w.heap.size + 1 + 1 + 1, Obj.cells #[.int .i64 (lo1), .int .i64 (hi)] 98), (w.heap.size + 1 + 1, Obj.cells #[.int .i64 0, .int .i64 0] 98), (w.heap.size + 1, Obj.cells #[.int .i64 t.len, .int .i64 t.grip, .int .i64 t.palm] 26), (w.heap.size, Obj.cells #[.int .i64 m.w, .int .i64 m.h, v, .bool a] 96)] from ⟨(st_one (st_one (At.at hA.out 0 rfl) 0 (.int .i64 (lo1))).1 1 (.int .i64 (hi))).1, At.other (set_at _ _ _ _) (by simp; omega) (At.other (set_at _ _ _ _) (by simp; omega) (At.erase hA.out 0))⟩), Lib.hid (by
                  have h9 := HN.out
                  rw [Int.max_eq_left hm, Int.min_eq_left hn] at h9
                  exact h9)⟩
                case measure => simp [intOf]; omega
        · obtain rfl : dx = slack + 1 := by omega
          go_wp2
          go_roundw
          case rel => exact ⟨dy + 1, lo, hi, by omega, by omega, rfl, hE, hA, Lib.hid (rng_row hd1 hs1 hR.out)⟩
          case measure => simp [intOf]; omega
    · have hd4 : dy = t.len + slack := by omega
      have HN := Lib.hid (rng_end hd4 hR.out)
      clear hd4
      go_wp2
      have stA := store_2 (v0 := .int .i64 lo) (v1 := .int .i64 hi) (At.at hA.out 1 rfl)
      refine bodyPost_ret (results_row1 rfl _ _ (w.heap.size + 1 + 1) 98 _ (0, 0) _ rfl stA.1 Try.underlying98 rfl info98) rfl ?_
      exact ⟨lo, hi, rfl, HN.out, stA.2.2 w (by omega) hE.out⟩
end Go.Proofs.Ytipkjdfnoonpcaa

/- Holds: the program's walk. -/
namespace Go.Proofs.Ytipkjdfnoonpcaa
open Go.RowKit Go.Sort

theorem within_two_same (f : FuncId) (hf : f = 50 ∨ f = 107) (lo hi x y : Int) (k : Nat) (w : World) (hk : k = w.heap.size) :
    Calls Try.prog f #[.int .i64 lo, .int .i64 hi, .slice (some ⟨k, 0, none⟩) 2 2] (w.alloc (.cells #[.int .i64 x, .int .i64 y] 3)) fun e w' => e = .returned (.bool (decide ((lo ≤ x ∧ x ≤ hi) ∧ lo ≤ y ∧ y ≤ hi))) ∧ w.alloc (.cells #[.int .i64 x, .int .i64 y] 3) = w' := by
  refine (within_same f hf lo hi _ [x, y] _ (SlAt.of_owns (by subst hk; exact owns_lit w (ints [x, y]) 3 2 1 0 (Nat.zero_le _) (by unfold maxLen; omega) rfl)) (by simp [maxLen])).mono ?_
  rintro e w' ⟨rfl, h⟩
  exact ⟨ret_bool (by simp [allIn]), h⟩
def graspVal (g : Grasp) : Value := .agg #[.int .i64 g.x, .int .i64 g.y, .bool g.across, .int .i64 g.width, .int .i64 g.z]
/-- what 'Holds' answers -/
def HoldsIs (m : Img) (t : Tool) (g : Grasp) (slack : Int) (w : World) (e : Ending) (w' : World) : Prop :=
  ∃ b : Bool, e = .returned (.tuple #[.bool b, .int .i64 (readyE m t slack)]) ∧ (b = true ↔ readyE m t slack = 0 ∧ m.Holds t g slack) ∧ Ext w w'
theorem ready_ok {m : Img} {t : Tool} {slack : Int} (h : readyE m t slack = 0) : m.Camera ∧ t.Ok ∧ 0 ≤ slack ∧ slack ≤ 2 := by
  unfold readyE at h
  by_cases h1 : m.Camera
  · rw [if_pos h1] at h
    by_cases h2 : t.Ok
    · rw [if_pos h2] at h
      by_cases h3 : 0 ≤ slack ∧ slack ≤ 2
      · exact ⟨h1, h2, h3⟩
      · rw [if_neg h3] at h; omega
    · rw [if_neg h2] at h; omega
  · rw [if_neg h1] at h; omega
set_option maxRecDepth 100000 in
set_option maxHeartbeats 16000000 in
theorem c19 (m : Img) (v : Value) (t : Tool) (g : Grasp) (slack : Int) (w : World) (hv : IntsAt w v m.pix) (hl : m.pix.length ≤ maxLen) :
    Calls Try.prog 19 #[imgVal m v, toolVal t, graspVal g, .int .i64 slack] w (HoldsIs m t g slack w) := by
  have HV := Lib.hid hv
  obtain ⟨ao, cap, rfl, -, -⟩ := hv.form
  have K49 := Lib.hid (fun w' (h : Ext w w') => c49 m _ t slack w' (HV.out.ext h) hl)
  unfold graspVal
  unfold imgVal toolVal at *
  clear hv hl
  by_cases h0 : readyE m t slack = 0
  case neg =>
    obtain ⟨r, hr⟩ : ∃ r, readyE m t slack = r := ⟨_, rfl⟩
    have q0 : (r != 0) = true := by simpa [hr] using h0
    rw [hr] at K49
    have H0 := Lib.hid h0
    have HR := Lib.hid hr
    clear h0 hr
    go_enter Try.func19, Try.ntmps19
    go_wp2_with (go_at_call 49; (with_reducible refine (K49.out _ (by repeat (first | exact Ext.refl _ | assumption | refine Ext.alloc ?_ _ | refine Ext.drewN ?_ _ | refine ext_grow ?_ _ _ | refine Ext.trans ?_ (by assumption)))).mono ?_); rintro E w1 ⟨rfl, hb⟩; have A1 := Lib.hid (show At w1 [(w.heap.size + 1 + 1, Obj.cells #[.int .i64 g.x, .int .i64 g.y, .bool g.across, .int .i64 g.width, .int .i64 g.z] 28), (w.heap.size + 1, Obj.cells #[.int .i64 t.len, .int .i64 t.grip, .int .i64 t.palm] 26), (w.heap.size, Obj.cells #[.int .i64 m.w, .int .i64 m.h, .slice ao m.pix.length cap] 24)] from At.ext hb ⟨(by repeat (first | (refine blk_at _ _ ?_; (first | rfl | (simp only [size_one]; done))) | refine (blk_past _ _ (by simp only [size_one]; omega)).trans ?_)), (by repeat (first | (refine blk_at _ _ ?_; (first | rfl | (simp only [size_one]; done))) | refine (blk_past _ _ (by simp only [size_one]; omega)).trans ?_)), (by repeat (first | (refine blk_at _ _ ?_; (first | rfl | (simp only [size_one]; done))) | refine (blk_past _ _ (by simp only [size_one]; omega)).trans ?_)), trivial⟩); obtain ⟨⟨x00, x01, x02, x03, x04⟩, -⟩ := run_5 (At.at A1.out 0 rfl); obtain ⟨⟨x10, x11, x12⟩, -⟩ := run_3 (At.at A1.out 1 rfl); obtain ⟨⟨x20, x21, x22⟩, -⟩ := run_3 (At.at A1.out 2 rfl); have xz0 := At.lt A1.out 0 rfl; have xy0 := Nat.lt_succ_of_lt xz0; have xx0 := Nat.lt_succ_of_lt xy0; have xz1 := At.lt A1.out 1 rfl; have xy1 := Nat.lt_succ_of_lt xz1; have xx1 := Nat.lt_succ_of_lt xy1; have xz2 := At.lt A1.out 2 rfl; have xy2 := Nat.lt_succ_of_lt xz2; have xx2 := Nat.lt_succ_of_lt xy2)
    go_ret2
    exact ⟨false, by rw [HR.out]; rfl, ⟨fun h => (by cases h), fun h => absurd h.1 H0.out⟩, (by repeat (first | exact Ext.refl _ | assumption | refine Ext.alloc ?_ _ | refine Ext.drewN ?_ _ | refine ext_grow ?_ _ _ | refine Ext.trans ?_ (by assumption)))⟩
  obtain ⟨r1, r2, r3⟩ := ready_ok h0
  rw [h0] at K49
  have H0 := Lib.hid h0
  have R1 := Lib.hid r1
  have R2 := Lib.hid r2
  clear h0 r1 r2
  by_cases h1 : (0 ≤ g.x ∧ g.x ≤ 16) ∧ 0 ≤ g.y ∧ g.y ≤ 16
  case neg =>
    have q1 : decide ((0 ≤ g.x ∧ g.x ≤ 16) ∧ 0 ≤ g.y ∧ g.y ≤ 16) = false := decide_eq_false h1
    have H1 := Lib.hid h1
    clear h1
    go_enter Try.func19, Try.ntmps19
    go_wp2_with (first | (have _q := hb; go_at_call 50; (with_reducible refine (within_two_same 50 (.inl rfl) _ _ _ _ _ _ (by simp)).mono ?_); rintro E w' ⟨rfl, rfl⟩) | (go_at_call 49; (with_reducible refine (K49.out _ (by repeat (first | exact Ext.refl _ | assumption | refine Ext.alloc ?_ _ | refine Ext.drewN ?_ _ | refine ext_grow ?_ _ _ | refine Ext.trans ?_ (by assumption)))).mono ?_); rintro E w1 ⟨rfl, hb⟩; have A1 := Lib.hid (show At w1 [(w.heap.size + 1 + 1, Obj.cells #[.int .i64 g.x, .int .i64 g.y, .bool g.across, .int .i64 g.width, .int .i64 g.z] 28), (w.heap.size + 1, Obj.cells #[.int .i64 t.len, .int .i64 t.grip, .int .i64 t.palm] 26), (w.heap.size, Obj.cells #[.int .i64 m.w, .int .i64 m.h, .slice ao m.pix.length cap] 24)] from At.ext hb ⟨(by repeat (first | (refine blk_at _ _ ?_; (first | rfl | (simp only [size_one]; done))) | refine (blk_past _ _ (by simp only [size_one]; omega)).trans ?_)), (by repeat (first | (refine blk_at _ _ ?_; (first | rfl | (simp only [size_one]; done))) | refine (blk_past _ _ (by simp only [size_one]; omega)).trans ?_)), (by repeat (first | (refine blk_at _ _ ?_; (first | rfl | (simp only [size_one]; done))) | refine (blk_past _ _ (by simp only [size_one]; omega)).trans ?_)), trivial⟩); obtain ⟨⟨x00, x01, x02, x03, x04⟩, -⟩ := run_5 (At.at A1.out 0 rfl); obtain ⟨⟨x10, x11, x12⟩, -⟩ := run_3 (At.at A1.out 1 rfl); obtain ⟨⟨x20, x21, x22⟩, -⟩ := run_3 (At.at A1.out 2 rfl); have xz0 := At.lt A1.out 0 rfl; have xy0 := Nat.lt_succ_of_lt xz0; have xx0 := Nat.lt_succ_of_lt xy0; have xz1 := At.lt A1.out 1 rfl; have xy1 := Nat.lt_succ_of_lt xz1; have xx1 := Nat.lt_succ_of_lt xy1; have xz2 := At.lt A1.out 2 rfl; have xy2 := Nat.lt_succ_of_lt xz2; have xx2 := Nat.lt_succ_of_lt xy2))
    go_ret2
    exact ⟨false, by rw [H0.out]; rfl, ⟨fun h => (by cases h), fun h => absurd (holds_near R1.out.1 R2.out.1.1 r3.1 h.2) (fun h9 => H1.out (by omega))⟩, (by repeat (first | exact Ext.refl _ | assumption | refine Ext.alloc ?_ _ | refine Ext.drewN ?_ _ | refine ext_grow ?_ _ _ | refine Ext.trans ?_ (by assumption)))⟩
  have q1 : decide ((0 ≤ g.x ∧ g.x ≤ 16) ∧ 0 ≤ g.y ∧ g.y ≤ 16) = true := decide_eq_true h1
  have H1 := Lib.hid h1
  clear h1
  by_cases h2 : 1 ≤ g.width ∧ g.width ≤ 8
  case neg =>
    have q2 : decide (1 ≤ g.width ∧ g.width ≤ 8) = false := decide_eq_false h2
    have H2 := Lib.hid h2
    clear h2
    go_enter Try.func19, Try.ntmps19
    go_wp2_with (first | (have _q := hb; go_at_call 50; (with_reducible refine (within_one_same 50 (.inl rfl) _ _ _ _ _ (by simp)).mono ?_); rintro E w' ⟨rfl, rfl⟩) | (have _q := hb; go_at_call 50; (with_reducible refine (within_two_same 50 (.inl rfl) _ _ _ _ _ _ (by simp)).mono ?_); rintro E w' ⟨rfl, rfl⟩) | (go_at_call 49; (with_reducible refine (K49.out _ (by repeat (first | exact Ext.refl _ | assumption | refine Ext.alloc ?_ _ | refine Ext.drewN ?_ _ | refine ext_grow ?_ _ _ | refine Ext.trans ?_ (by assumption)))).mono ?_); rintro E w1 ⟨rfl, hb⟩; have A1 := Lib.hid (show At w1 [(w.heap.size + 1 + 1, Obj.cells #[.int .i64 g.x, .int .i64 g.y, .bool g.across, .int .i64 g.width, .int .i64 g.z] 28), (w.heap.size + 1, Obj.cells #[.int .i64 t.len, .int .i64 t.grip, .int .i64 t.palm] 26), (w.heap.size, Obj.cells #[.int .i64 m.w, .int .i64 m.h, .slice ao m.pix.length cap] 24)] from At.ext hb ⟨(by repeat (first | (refine blk_at _ _ ?_; (first | rfl | (simp only [size_one]; done))) | refine (blk_past _ _ (by simp only [size_one]; omega)).trans ?_)), (by repeat (first | (refine blk_at _ _ ?_; (first | rfl | (simp only [size_one]; done))) | refine (blk_past _ _ (by simp only [size_one]; omega)).trans ?_)), (by repeat (first | (refine blk_at _ _ ?_; (first | rfl | (simp only [size_one]; done))) | refine (blk_past _ _ (by simp only [size_one]; omega)).trans ?_)), trivial⟩); obtain ⟨⟨x00, x01, x02, x03, x04⟩, -⟩ := run_5 (At.at A1.out 0 rfl); obtain ⟨⟨x10, x11, x12⟩, -⟩ := run_3 (At.at A1.out 1 rfl); obtain ⟨⟨x20, x21, x22⟩, -⟩ := run_3 (At.at A1.out 2 rfl); have xz0 := At.lt A1.out 0 rfl; have xy0 := Nat.lt_succ_of_lt xz0; have xx0 := Nat.lt_succ_of_lt xy0; have xz1 := At.lt A1.out 1 rfl; have xy1 := Nat.lt_succ_of_lt xz1; have xx1 := Nat.lt_succ_of_lt xy1; have xz2 := At.lt A1.out 2 rfl; have xy2 := Nat.lt_succ_of_lt xz2; have xx2 := Nat.lt_succ_of_lt xy2))
    go_ret2
    exact ⟨false, by rw [H0.out]; rfl, ⟨fun h => (by cases h), fun h => absurd h.2.1 H2.out⟩, (by repeat (first | exact Ext.refl _ | assumption | refine Ext.alloc ?_ _ | refine Ext.drewN ?_ _ | refine ext_grow ?_ _ _ | refine Ext.trans ?_ (by assumption)))⟩
  have q2 : decide (1 ≤ g.width ∧ g.width ≤ 8) = true := decide_eq_true h2
  have H2 := Lib.hid h2
  clear h2
  obtain ⟨gx, gy, ga, gw, gz⟩ := g
  dsimp only at *
  cases ga
  case false =>
    have K51 := Lib.hid (fun w' (h : Ext w w') => c51 m _ t false gx gy gw slack w' R1.out R2.out (HV.out.ext h) (by have := H1.out; omega) (by have := H1.out; omega) H2.out r3)
    unfold viewVal toolVal at K51
    go_enter Try.func19, Try.ntmps19
    go_wp2_with (first | (have _q := hb; go_at_call 50; (with_reducible refine (within_one_same 50 (.inl rfl) _ _ _ _ _ (by simp)).mono ?_); rintro E w' ⟨rfl, rfl⟩) | (have _q := hb; go_at_call 50; (with_reducible refine (within_two_same 50 (.inl rfl) _ _ _ _ _ _ (by simp)).mono ?_); rintro E w' ⟨rfl, rfl⟩) | (go_at_call 49; (with_reducible refine (K49.out _ (by repeat (first | exact Ext.refl _ | assumption | refine Ext.alloc ?_ _ | refine Ext.drewN ?_ _ | refine ext_grow ?_ _ _ | refine Ext.trans ?_ (by assumption)))).mono ?_); rintro E w1 ⟨rfl, hb⟩; have A1 := Lib.hid (show At w1 [(w.heap.size + 1 + 1, Obj.cells #[.int .i64 gx, .int .i64 gy, .bool false, .int .i64 gw, .int .i64 gz] 28), (w.heap.size + 1, Obj.cells #[.int .i64 t.len, .int .i64 t.grip, .int .i64 t.palm] 26), (w.heap.size, Obj.cells #[.int .i64 m.w, .int .i64 m.h, .slice ao m.pix.length cap] 24)] from At.ext hb ⟨(by repeat (first | (refine blk_at _ _ ?_; (first | rfl | (simp only [size_one]; done))) | refine (blk_past _ _ (by simp only [size_one]; omega)).trans ?_)), (by repeat (first | (refine blk_at _ _ ?_; (first | rfl | (simp only [size_one]; done))) | refine (blk_past _ _ (by simp only [size_one]; omega)).trans ?_)), (by repeat (first | (refine blk_at _ _ ?_; (first | rfl | (simp only [size_one]; done))) | refine (blk_past _ _ (by simp only [size_one]; omega)).trans ?_)), trivial⟩); obtain ⟨⟨x00, x01, x02, x03, x04⟩, -⟩ := run_5 (At.at A1.out 0 rfl); obtain ⟨⟨x10, x11, x12⟩, -⟩ := run_3 (At.at A1.out 1 rfl); obtain ⟨⟨x20, x21, x22⟩, -⟩ := run_3 (At.at A1.out 2 rfl); have xz0 := At.lt A1.out 0 rfl; have xy0 := Nat.lt_succ_of_lt xz0; have xx0 := Nat.lt_succ_of_lt xy0; have xz1 := At.lt A1.out 1 rfl; have xy1 := Nat.lt_succ_of_lt xz1; have xx1 := Nat.lt_succ_of_lt xy1; have xz2 := At.lt A1.out 2 rfl; have xy2 := Nat.lt_succ_of_lt xz2; have xx2 := Nat.lt_succ_of_lt xy2))
    go_quiet (fail)
    go_wp2_with (first | (have _q := hb; go_at_call 50; (with_reducible refine (within_one_same 50 (.inl rfl) _ _ _ _ _ (by simp)).mono ?_); rintro E w' ⟨rfl, rfl⟩) | (have _q := hb; go_at_call 51; (with_reducible refine (K51.out _ (by repeat (first | exact Ext.refl _ | assumption | refine Ext.alloc ?_ _ | refine Ext.drewN ?_ _ | refine ext_grow ?_ _ _ | refine Ext.trans ?_ (by assumption)))).mono ?_); rintro E w2 ⟨lo, hi, rfl, hr, hb2⟩; have HR := Lib.hid hr; clear hr; have A2 := Lib.hid (show At w2 [(w.heap.size + 1 + 1, Obj.cells #[.int .i64 gx, .int .i64 gy, .bool false, .int .i64 gw, .int .i64 gz] 28), (w.heap.size + 1, Obj.cells #[.int .i64 t.len, .int .i64 t.grip, .int .i64 t.palm] 26), (w.heap.size, Obj.cells #[.int .i64 m.w, .int .i64 m.h, .slice ao m.pix.length cap] 24)] from At.ext (show Ext w1 w2 from (by repeat (first | exact Ext.refl _ | assumption | refine Ext.alloc ?_ _ | refine Ext.drewN ?_ _ | refine ext_grow ?_ _ _ | refine Ext.trans ?_ (by assumption)))) A1.out); obtain ⟨⟨y00, y01, y02, y03, y04⟩, -⟩ := run_5 (At.at A2.out 0 rfl); obtain ⟨⟨y10, y11, y12⟩, -⟩ := run_3 (At.at A2.out 1 rfl); obtain ⟨⟨y20, y21, y22⟩, -⟩ := run_3 (At.at A2.out 2 rfl); have yz0 := At.lt A2.out 0 rfl; have yy0 := Nat.lt_succ_of_lt yz0; have yx0 := Nat.lt_succ_of_lt yy0; have yz1 := At.lt A2.out 1 rfl; have yy1 := Nat.lt_succ_of_lt yz1; have yx1 := Nat.lt_succ_of_lt yy1; have yz2 := At.lt A2.out 2 rfl; have yy2 := Nat.lt_succ_of_lt yz2; have yx2 := Nat.lt_succ_of_lt yy2))
    go_ret2
    refine ⟨_, by rw [H0.out]; rfl, ?_, (by repeat (first | exact Ext.refl _ | assumption | refine Ext.alloc ?_ _ | refine Ext.drewN ?_ _ | refine ext_grow ?_ _ _ | refine Ext.trans ?_ (by assumption)))⟩
    have hbb : ((decide (lo ≤ gz) && decide (gz ≤ hi)) = true) ↔ (lo ≤ gz ∧ gz ≤ hi) := by simp
    refine hbb.trans ?_
    exact (HR.out.2.2 gz).trans ⟨fun h => ⟨H0.out, H2.out, h⟩, fun h => h.2.2⟩
  case true =>
    have K51 := Lib.hid (fun w' (h : Ext w w') => c51 m _ t true gy gx gw slack w' R1.out R2.out (HV.out.ext h) (by have := H1.out; omega) (by have := H1.out; omega) H2.out r3)
    unfold viewVal toolVal at K51
    go_enter Try.func19, Try.ntmps19
    go_wp2_with (first | (have _q := hb; go_at_call 50; (with_reducible refine (within_one_same 50 (.inl rfl) _ _ _ _ _ (by simp)).mono ?_); rintro E w' ⟨rfl, rfl⟩) | (have _q := hb; go_at_call 50; (with_reducible refine (within_two_same 50 (.inl rfl) _ _ _ _ _ _ (by simp)).mono ?_); rintro E w' ⟨rfl, rfl⟩) | (go_at_call 49; (with_reducible refine (K49.out _ (by repeat (first | exact Ext.refl _ | assumption | refine Ext.alloc ?_ _ | refine Ext.drewN ?_ _ | refine ext_grow ?_ _ _ | refine Ext.trans ?_ (by assumption)))).mono ?_); rintro E w1 ⟨rfl, hb⟩; have A1 := Lib.hid (show At w1 [(w.heap.size + 1 + 1, Obj.cells #[.int .i64 gx, .int .i64 gy, .bool true, .int .i64 gw, .int .i64 gz] 28), (w.heap.size + 1, Obj.cells #[.int .i64 t.len, .int .i64 t.grip, .int .i64 t.palm] 26), (w.heap.size, Obj.cells #[.int .i64 m.w, .int .i64 m.h, .slice ao m.pix.length cap] 24)] from At.ext hb ⟨(by repeat (first | (refine blk_at _ _ ?_; (first | rfl | (simp only [size_one]; done))) | refine (blk_past _ _ (by simp only [size_one]; omega)).trans ?_)), (by repeat (first | (refine blk_at _ _ ?_; (first | rfl | (simp only [size_one]; done))) | refine (blk_past _ _ (by simp only [size_one]; omega)).trans ?_)), (by repeat (first | (refine blk_at _ _ ?_; (first | rfl | (simp only [size_one]; done))) | refine (blk_past _ _ (by simp only [size_one]; omega)).trans ?_)), trivial⟩); obtain ⟨⟨x00, x01, x02, x03, x04⟩, -⟩ := run_5 (At.at A1.out 0 rfl); obtain ⟨⟨x10, x11, x12⟩, -⟩ := run_3 (At.at A1.out 1 rfl); obtain ⟨⟨x20, x21, x22⟩, -⟩ := run_3 (At.at A1.out 2 rfl); have xz0 := At.lt A1.out 0 rfl; have xy0 := Nat.lt_succ_of_lt xz0; have xx0 := Nat.lt_succ_of_lt xy0; have xz1 := At.lt A1.out 1 rfl; have xy1 := Nat.lt_succ_of_lt xz1; have xx1 := Nat.lt_succ_of_lt xy1; have xz2 := At.lt A1.out 2 rfl; have xy2 := Nat.lt_succ_of_lt xz2; have xx2 := Nat.lt_succ_of_lt xy2))
    go_quiet (fail)
    go_wp2_with (first | (have _q := hb; go_at_call 50; (with_reducible refine (within_one_same 50 (.inl rfl) _ _ _ _ _ (by simp)).mono ?_); rintro E w' ⟨rfl, rfl⟩) | (have _q := hb; go_at_call 51; (with_reducible refine (K51.out _ (by repeat (first | exact Ext.refl _ | assumption | refine Ext.alloc ?_ _ | refine Ext.drewN ?_ _ | refine ext_grow ?_ _ _ | refine Ext.trans ?_ (by assumption)))).mono ?_); rintro E w2 ⟨lo, hi, rfl, hr, hb2⟩; have HR := Lib.hid hr; clear hr; have A2 := Lib.hid (show At w2 [(w.heap.size + 1 + 1, Obj.cells #[.int .i64 gx, .int .i64 gy, .bool true, .int .i64 gw, .int .i64 gz] 28), (w.heap.size + 1, Obj.cells #[.int .i64 t.len, .int .i64 t.grip, .int .i64 t.palm] 26), (w.heap.size, Obj.cells #[.int .i64 m.w, .int .i64 m.h, .slice ao m.pix.length cap] 24)] from At.ext (show Ext w1 w2 from (by repeat (first | exact Ext.refl _ | assumption | refine Ext.alloc ?_ _ | refine Ext.drewN ?_ _ | refine ext_grow ?_ _ _ | refine Ext.trans ?_ (by assumption)))) A1.out); obtain ⟨⟨y00, y01, y02, y03, y04⟩, -⟩ := run_5 (At.at A2.out 0 rfl); obtain ⟨⟨y10, y11, y12⟩, -⟩ := run_3 (At.at A2.out 1 rfl); obtain ⟨⟨y20, y21, y22⟩, -⟩ := run_3 (At.at A2.out 2 rfl); have yz0 := At.lt A2.out 0 rfl; have yy0 := Nat.lt_succ_of_lt yz0; have yx0 := Nat.lt_succ_of_lt yy0; have yz1 := At.lt A2.out 1 rfl; have yy1 := Nat.lt_succ_of_lt yz1; have yx1 := Nat.lt_succ_of_lt yy1; have yz2 := At.lt A2.out 2 rfl; have yy2 := Nat.lt_succ_of_lt yz2; have yx2 := Nat.lt_succ_of_lt yy2))
    go_ret2
    refine ⟨_, by rw [H0.out]; rfl, ?_, (by repeat (first | exact Ext.refl _ | assumption | refine Ext.alloc ?_ _ | refine Ext.drewN ?_ _ | refine ext_grow ?_ _ _ | refine Ext.trans ?_ (by assumption)))⟩
    have hbb : ((decide (lo ≤ gz) && decide (gz ≤ hi)) = true) ↔ (lo ≤ gz ∧ gz ≤ hi) := by simp
    refine hbb.trans ?_
    exact (HR.out.2.2 gz).trans ⟨fun h => ⟨H0.out, H2.out, h⟩, fun h => h.2.2⟩
end Go.Proofs.Ytipkjdfnoonpcaa
