/- When a grasp holds, as the reference says it, and plans. No program in sight. -/
import Derived.Test.YtipkjdfnoonpcaaGraspSpec
set_option linter.unusedVariables false
set_option linter.unusedSimpArgs false
namespace Go.Proofs.Ytipkjdfnoonpcaa
open Go.RowKit Go.Sort

structure Tool where
  len : Int
  grip : Int
  palm : Int
def Tool.Ok (t : Tool) : Prop := (1 ≤ t.len ∧ t.len ≤ 4) ∧ 1 ≤ t.grip ∧ t.grip ≤ t.palm ∧ t.palm ≤ 255
instance (t : Tool) : Decidable t.Ok := by unfold Tool.Ok; infer_instance
structure Grasp where
  x : Int
  y : Int
  across : Bool
  width : Int
  z : Int
theorem Grasp.ext {g k : Grasp} (h1 : g.x = k.x) (h2 : g.y = k.y) (h3 : g.across = k.across) (h4 : g.width = k.width) (h5 : g.z = k.z) : g = k := by
  cases g; cases k; simp_all
/-- the place in the view of the grasp's direction -/
def Grasp.vx (g : Grasp) : Int := if g.across then g.y else g.x
def Grasp.vy (g : Grasp) : Int := if g.across then g.x else g.y
def Grasp.at (g : Grasp) (dx dy : Int) : Grasp := { g with x := g.x + dx, y := g.y + dy }
def Img.Holds (m : Img) (t : Tool) (g : Grasp) (slack : Int) : Prop :=
  (1 ≤ g.width ∧ g.width ≤ 8) ∧ m.holds g.across t.len t.palm t.grip g.width slack g.vx g.vy g.z

/-! ### the reference's words -/
/-- all cells are pixels, and width and z are allowed -/
def Img.Allowed (m : Img) (t : Tool) (g : Grasp) : Prop :=
  (1 ≤ g.width ∧ g.width ≤ 8) ∧ (0 ≤ g.z ∧ g.z ≤ 255) ∧ ∀ o, -1 ≤ o → o ≤ g.width → ∀ f, 0 ≤ f → f < t.len → m.vin g.across (g.vx + o) (g.vy + f)
/-- the heights are right -/
def Img.held (m : Img) (t : Tool) (g : Grasp) : Prop :=
  ∀ f, 0 ≤ f → f < t.len → (m.vat g.across (g.vx + -1) (g.vy + f) ≤ g.z ∧ m.vat g.across (g.vx + g.width) (g.vy + f) ≤ g.z) ∧
    (∀ o, 0 ≤ o → o < g.width → m.vat g.across (g.vx + o) (g.vy + f) ≤ g.z + t.palm) ∧ (∃ o, 0 ≤ o ∧ o < g.width ∧ g.z + t.grip ≤ m.vat g.across (g.vx + o) (g.vy + f))
def Img.Held (m : Img) (t : Tool) (g : Grasp) (slack : Int) : Prop :=
  ∀ dy, -slack ≤ dy → dy ≤ slack → ∀ dx, -slack ≤ dx → dx ≤ slack → m.Allowed t (g.at dx dy) ∧ m.held t (g.at dx dy)
/-- all grasps around are allowed -/
def Img.Around (m : Img) (t : Tool) (g : Grasp) (slack : Int) : Prop :=
  ∀ dy, -slack ≤ dy → dy ≤ slack → ∀ dx, -slack ≤ dx → dx ≤ slack → m.Allowed t (g.at dx dy)
theorem Grasp.vx_at (g : Grasp) (dx dy : Int) : (g.at dx dy).vx = g.vx + (if g.across then dy else dx) := by
  unfold Grasp.vx Grasp.at
  cases g.across <;> simp
theorem Grasp.vy_at (g : Grasp) (dx dy : Int) : (g.at dx dy).vy = g.vy + (if g.across then dx else dy) := by
  unfold Grasp.vy Grasp.at
  cases g.across <;> simp
theorem allowed_held_iff {m : Img} {t : Tool} {g : Grasp} (hl : 1 ≤ t.len) : m.Allowed t g ∧ m.held t g ↔
    ((1 ≤ g.width ∧ g.width ≤ 8) ∧ 0 ≤ g.z ∧ g.z ≤ 255) ∧ ∀ f, 0 ≤ f → f < t.len → m.row g.across t.palm t.grip g.width g.z g.vx (g.vy + f) := by
  constructor
  · rintro ⟨⟨h1, h2, h3⟩, h4⟩
    refine ⟨⟨h1, h2⟩, fun f f1 f2 => ?_⟩
    obtain ⟨⟨a1, a2⟩, a3, a4⟩ := h4 f f1 f2
    exact ⟨fun o o1 o2 => h3 o o1 o2 f f1 f2, a1, a2, a3, a4⟩
  · rintro ⟨⟨h1, h2⟩, h3⟩
    exact ⟨⟨h1, h2, fun o o1 o2 f f1 f2 => (h3 f f1 f2).1 o o1 o2⟩, fun f f1 f2 => ⟨⟨(h3 f f1 f2).2.1, (h3 f f1 f2).2.2.1⟩, (h3 f f1 f2).2.2.2⟩⟩
theorem held_iff {m : Img} {t : Tool} {g : Grasp} {slack : Int} (hl : 1 ≤ t.len) (hs : 0 ≤ slack) : m.Held t g slack ↔ m.Holds t g slack := by
  have key : ∀ dx dy, (m.Allowed t (g.at dx dy) ∧ m.held t (g.at dx dy)) ↔ ((1 ≤ g.width ∧ g.width ≤ 8) ∧ 0 ≤ g.z ∧ g.z ≤ 255) ∧ ∀ f, 0 ≤ f → f < t.len → m.row g.across t.palm t.grip g.width g.z (g.vx + (if g.across then dy else dx)) (g.vy + (if g.across then dx else dy) + f) := by
    intro dx dy
    rw [allowed_held_iff hl, Grasp.vx_at, Grasp.vy_at]
    exact Iff.rfl
  constructor
  · intro h
    have h0 := (key 0 0).1 (h 0 (by omega) (by omega) 0 (by omega) (by omega))
    refine ⟨h0.1.1, h0.1.2, fun e e1 e2 d d1 d2 => ?_⟩
    -- e = dy + f
    obtain ⟨dy, f, rfl, y1, y2, f1, f2⟩ : ∃ dy f : Int, e = dy + f ∧ -slack ≤ dy ∧ dy ≤ slack ∧ 0 ≤ f ∧ f < t.len := by
      rcases Int.lt_or_le e slack with h9 | h9
      · exact ⟨e, 0, by omega, by omega, by omega, by omega, by omega⟩
      · exact ⟨slack, e - slack, by omega, by omega, by omega, by omega, by omega⟩
    cases ha : g.across with
    | false =>
      have := ((key d dy).1 (h dy y1 y2 d d1 d2)).2 f f1 f2
      rw [ha] at this
      simpa [Int.add_assoc] using this
    | true =>
      have := ((key dy d).1 (h d d1 d2 dy y1 y2)).2 f f1 f2
      rw [ha] at this
      simpa [Int.add_assoc] using this
  · rintro ⟨h1, h2, h3⟩ dy y1 y2 dx x1 x2
    refine (key dx dy).2 ⟨⟨h1, h2⟩, fun f f1 f2 => ?_⟩
    cases ha : g.across with
    | false =>
      have := h3 (dy + f) (by omega) (by omega) dx x1 x2
      rw [ha] at this
      simpa [Int.add_assoc] using this
    | true =>
      have := h3 (dx + f) (by omega) (by omega) dy y1 y2
      rw [ha] at this
      simpa [Int.add_assoc] using this
theorem holds_near {m : Img} {t : Tool} {g : Grasp} {slack : Int} (hm : m.Sized) (hl : 1 ≤ t.len) (hs : 0 ≤ slack) (h : m.Holds t g slack) : (0 ≤ g.x ∧ g.x ≤ 15) ∧ 0 ≤ g.y ∧ g.y ≤ 15 := by
  obtain ⟨h1, h2, h3⟩ := h
  have := (h3 0 (by omega) (by omega) 0 (by omega) (by omega)).1 0 (by omega) (by omega)
  obtain ⟨m1, m2, m3⟩ := hm
  unfold Grasp.vx Grasp.vy Img.vin Img.In at this
  cases ha : g.across with
  | false => rw [ha] at this; simp at this; omega
  | true => rw [ha] at this; simp at this; omega
theorem around_of_holds {m : Img} {t : Tool} {g : Grasp} {slack z : Int} (hl : 1 ≤ t.len) (hs : 0 ≤ slack) (hz : 0 ≤ g.z ∧ g.z ≤ 255) (h : m.Holds t { g with z := z } slack) : m.Around t g slack := by
  have h9 := (held_iff hl hs).2 h
  intro dy y1 y2 dx x1 x2
  obtain ⟨⟨a1, _, a3⟩, _⟩ := h9 dy y1 y2 dx x1 x2
  exact ⟨a1, hz, a3⟩

/-! ### plans -/
/-- what comes of n tries, each of which gives one thing or none -/
def Gath {α : Type} (p : Nat → Option α → Prop) : Nat → List α → Prop
  | 0, gs => gs = []
  | n + 1, gs => ∃ gs' o, Gath p n gs' ∧ p n o ∧ gs = gs' ++ o.toList
theorem Gath.unique {α : Type} {p : Nat → Option α → Prop} (hp : ∀ n a b, p n a → p n b → a = b) : ∀ {n : Nat} {gs ks : List α}, Gath p n gs → Gath p n ks → gs = ks
  | 0, _, _, h, k => h.trans k.symm
  | n + 1, _, _, ⟨g1, o1, a1, a2, a3⟩, ⟨g2, o2, b1, b2, b3⟩ => by rw [a3, b3, Gath.unique hp a1 b1, hp n o1 o2 a2 b2]
theorem Gath.len {α : Type} {p : Nat → Option α → Prop} : ∀ {n : Nat} {gs : List α}, Gath p n gs → gs.length ≤ n
  | 0, _, h => by rw [h]; simp
  | n + 1, _, ⟨g1, o1, a1, a2, a3⟩ => by
    have := Gath.len a1
    rw [a3, List.length_append]
    cases o1 <;> simp <;> omega
theorem Gath.mem {α : Type} {p : Nat → Option α → Prop} : ∀ {n : Nat} {gs : List α} {g : α}, Gath p n gs → g ∈ gs → ∃ k, k < n ∧ p k (some g)
  | 0, _, _, h, hg => by rw [h] at hg; simp at hg
  | n + 1, _, g, ⟨g1, o1, a1, a2, a3⟩, hg => by
    rw [a3] at hg
    rcases List.mem_append.1 hg with h9 | h9
    · obtain ⟨k, k1, k2⟩ := Gath.mem a1 h9
      exact ⟨k, by omega, k2⟩
    · cases o1 with
      | none => simp at h9
      | some x =>
        simp at h9
        subst h9
        exact ⟨n, by omega, a2⟩
theorem Gath.got {α : Type} {p : Nat → Option α → Prop} (hp : ∀ n a b, p n a → p n b → a = b) : ∀ {n : Nat} {gs : List α} {g : α} {k : Nat}, Gath p n gs → k < n → p k (some g) → g ∈ gs
  | 0, _, _, _, _, hk, _ => by omega
  | n + 1, _, g, k, ⟨g1, o1, a1, a2, a3⟩, hk, hg => by
    rw [a3]
    rcases Nat.lt_or_ge k n with h9 | h9
    · exact List.mem_append_left _ (Gath.got hp a1 h9 hg)
    · obtain rfl : k = n := by omega
      rw [hp _ _ _ a2 hg]
      simp
/-- the grasp of the try k: direction, then width, then place -/
def Img.key (m : Img) (k : Nat) : Grasp :=
  let i : Int := ((k % m.pix.length : Nat) : Int)
  let q := k / m.pix.length
  { x := i % m.w, y := i / m.w, across := decide (8 ≤ q), width := ((q % 8 : Nat) : Int) + 1, z := 0 }
/-- the grasp with the least z, if there is one -/
def Img.Try (m : Img) (t : Tool) (slack : Int) (k : Nat) (o : Option Grasp) : Prop :=
  (∃ z, m.Holds t { m.key k with z := z } slack ∧ (∀ u, m.Holds t { m.key k with z := u } slack → z ≤ u) ∧ o = some { m.key k with z := z }) ∨ ((∀ u, ¬ m.Holds t { m.key k with z := u } slack) ∧ o = none)
theorem try_unique {m : Img} {t : Tool} {slack : Int} (n : Nat) (a b : Option Grasp) (ha : m.Try t slack n a) (hb : m.Try t slack n b) : a = b := by
  rcases ha with ⟨z, h1, h2, rfl⟩ | ⟨h1, rfl⟩ <;> rcases hb with ⟨u, k1, k2, rfl⟩ | ⟨k1, rfl⟩
  · have : z = u := by have := h2 u k1; have := k2 z h1; omega
    rw [this]
  · exact absurd h1 (k1 z)
  · exact absurd k1 (h1 u)
  · rfl
def Img.Plan (m : Img) (t : Tool) (slack : Int) (gs : List Grasp) : Prop := Gath (m.Try t slack) (16 * m.pix.length) gs
end Go.Proofs.Ytipkjdfnoonpcaa
