/- Plans, step by step. No walk. -/
import Derived.Test.YtipkjdfnoonpcaaHolds
import Derived.Test.YtipkjdfnoonpcaaOne
set_option linter.unusedVariables false
set_option linter.unusedSimpArgs false
namespace Go.Proofs.Ytipkjdfnoonpcaa
open Go.RowKit Go.Sort

theorem key_at {m : Img} {q k : Nat} (hk : k < m.pix.length) : m.key (q * m.pix.length + k) = { x := (k : Int) % m.w, y := (k : Int) / m.w, across := decide (8 ≤ q), width := ((q % 8 : Nat) : Int) + 1, z := 0 } := by
  have h1 : (q * m.pix.length + k) % m.pix.length = k := by rw [Nat.mul_comm, Nat.mul_add_mod, Nat.mod_eq_of_lt hk]
  have h2 : (q * m.pix.length + k) / m.pix.length = q := by
    rw [Nat.mul_comm, Nat.mul_add_div (by omega), Nat.div_eq_of_lt hk, Nat.add_zero]
  unfold Img.key
  rw [h1, h2]
theorem place_bd {m : Img} (hm : m.Sized) {k : Nat} (hk : k < m.pix.length) : (0 ≤ (k : Int) % m.w ∧ (k : Int) % m.w ≤ 15) ∧ 0 ≤ (k : Int) / m.w ∧ (k : Int) / m.w ≤ 15 := by
  obtain ⟨⟨h1, h2⟩, ⟨h3, h4⟩, h5⟩ := hm
  have a1 := Int.emod_nonneg (k : Int) (show m.w ≠ 0 by omega)
  have a2 := Int.emod_lt_of_pos (k : Int) (show 0 < m.w by omega)
  have a3 : 0 ≤ (k : Int) / m.w := Int.ediv_nonneg (by omega) (by omega)
  have a4 : (k : Int) / m.w < m.h := Int.ediv_lt_of_lt_mul (by omega) (by rw [Int.mul_comm]; omega)
  omega
theorem holds_rng {m : Img} {t : Tool} {x y width lo hi slack : Int} {a : Bool} (hw : 1 ≤ width ∧ width ≤ 8) (h : Rng lo hi (m.holds a t.len t.palm t.grip width slack (if a then y else x) (if a then x else y))) (u z0 : Int) : m.Holds t { ({ x := x, y := y, across := a, width := width, z := z0 } : Grasp) with z := u } slack ↔ lo ≤ u ∧ u ≤ hi := by
  unfold Img.Holds
  exact ⟨fun h9 => (h.2.2 u).2 h9.2, fun h9 => ⟨hw, (h.2.2 u).1 h9⟩⟩
theorem try_yes {m : Img} {t : Tool} {slack x y width lo hi : Int} {a : Bool} {n : Nat} (hk : m.key n = { x := x, y := y, across := a, width := width, z := 0 }) (hw : 1 ≤ width ∧ width ≤ 8) (h : Rng lo hi (m.holds a t.len t.palm t.grip width slack (if a then y else x) (if a then x else y))) (hl : lo ≤ hi) :
    m.Try t slack n (some { x := x, y := y, across := a, width := width, z := lo }) := by
  left
  rw [hk]
  exact ⟨lo, (holds_rng hw h lo 0).2 ⟨Int.le_refl _, hl⟩, fun u hu => ((holds_rng hw h u 0).1 hu).1, rfl⟩
theorem try_no {m : Img} {t : Tool} {slack x y width lo hi : Int} {a : Bool} {n : Nat} (hk : m.key n = { x := x, y := y, across := a, width := width, z := 0 }) (hw : 1 ≤ width ∧ width ≤ 8) (h : Rng lo hi (m.holds a t.len t.palm t.grip width slack (if a then y else x) (if a then x else y))) (hl : hi < lo) :
    m.Try t slack n none := by
  right
  rw [hk]
  exact ⟨fun u hu => by have := (holds_rng hw h u 0).1 hu; omega, rfl⟩
def graspCells (g : Grasp) : List Value := [.int .i64 g.x, .int .i64 g.y, .bool g.across, .int .i64 g.width, .int .i64 g.z]
def grasps (gs : List Grasp) : List Value := gs.flatMap graspCells
theorem grasps_length (gs : List Grasp) : (grasps gs).length = gs.length * 5 := by
  induction gs with
  | nil => rfl
  | cons g gs ih => show (graspCells g ++ grasps gs).length = _; rw [List.length_append, ih]; simp [graspCells]; omega
theorem grasps_snoc (gs : List Grasp) (g : Grasp) : grasps (gs ++ [g]) = grasps gs ++ graspCells g := by simp [grasps]
theorem grasps_one (g : Grasp) : ∀ u ∈ graspCells g, u.oneCell' = true := by
  intro u hu
  simp only [graspCells, List.mem_cons, List.not_mem_nil, or_false] at hu
  rcases hu with rfl | rfl | rfl | rfl | rfl <;> rfl
/-- what 'Plan' answers -/
def PlanIs (m : Img) (t : Tool) (slack : Int) (w : World) (e : Ending) (w' : World) : Prop :=
  ∃ v' gs, e = .returned (.tuple #[v', .int .i64 (readyE m t slack)]) ∧ w'.ownsRow w.heap.size 28 5 v' gs.length (grasps gs) ∧ (readyE m t slack = 0 → m.Plan t slack gs) ∧ (readyE m t slack ≠ 0 → gs = []) ∧ Ext w w'
theorem info28 : (Try.prog.info? 28).map (fun i => (i.zero, i.size, i.bytes)) = some (some (.agg #[.int .i64 0, .int .i64 0, .bool false, .int .i64 0, .int .i64 0]), 5, 40) := by kernel_rfl
theorem gath_yes {α : Type} {p : Nat → Option α → Prop} {n : Nat} {gs : List α} {g : α} (h : Gath p n gs) (k : p n (some g)) : Gath p (n + 1) (gs ++ [g]) := ⟨gs, some g, h, k, rfl⟩
theorem gath_no {α : Type} {p : Nat → Option α → Prop} {n : Nat} {gs : List α} (h : Gath p n gs) (k : p n none) : Gath p (n + 1) gs := ⟨gs, none, h, k, by simp⟩
end Go.Proofs.Ytipkjdfnoonpcaa
