/- What the grasps of a plan are. -/
import Derived.Test.YtipkjdfnoonpcaaCloseFn
set_option linter.unusedVariables false
set_option linter.unusedSimpArgs false
namespace Go.Proofs.Ytipkjdfnoonpcaa
open Go.RowKit Go.Sort

theorem holdsB0 {m : Img} {t : Tool} {g : Grasp} : HoldsB m t g 0 = true ↔ (1 ≤ g.width ∧ g.width ≤ 8) ∧ (0 ≤ g.z ∧ g.z ≤ 255) ∧ ∀ k, 0 ≤ k → k < t.len → m.row g.across t.palm t.grip g.width g.z g.vx (g.vy + k) := HoldsB_iff.trans holds0
theorem holds_around {m : Img} {t : Tool} {g : Grasp} {slack : Int} (hl : 1 ≤ t.len) (hs : 0 ≤ slack) (h : HoldsB m t g slack = true) {dx dy : Int} (y1 : -slack ≤ dy) (y2 : dy ≤ slack) (x1 : -slack ≤ dx) (x2 : dx ≤ slack) : HoldsB m t (g.at dx dy) 0 = true := by
  have h1 := (held_iff hl hs).2 (HoldsB_iff.1 h) dy y1 y2 dx x1 x2
  have h2 := (allowed_held_iff hl).1 h1
  exact holdsB0.2 ⟨h2.1.1, h2.1.2, h2.2⟩
theorem holds_less {m : Img} {t : Tool} {g : Grasp} {a b : Int} (hab : b ≤ a) (h : HoldsB m t g a = true) : HoldsB m t g b = true := by
  obtain ⟨h1, h2, h3⟩ := HoldsB_iff.1 h
  exact HoldsB_iff.2 ⟨h1, h2, fun dy d1 d2 dx x1 x2 => h3 dy (by omega) (by omega) dx (by omega) (by omega)⟩
theorem plan_mem {m : Img} {t : Tool} {g : Grasp} {slack : Int} (hm : m.Sized) (hl : 1 ≤ t.len) (hs : 0 ≤ slack) (hg : g ∈ planB m t slack) :
    HoldsB m t g slack = true ∧ ((0 ≤ g.x ∧ g.x ≤ 15) ∧ 0 ≤ g.y ∧ g.y ≤ 15) ∧ ((1 ≤ g.width ∧ g.width ≤ 8) ∧ 0 ≤ g.z ∧ g.z ≤ 255) ∧ HoldsB m t { g with z := g.z - 1 } slack = false := by
  obtain ⟨k, -, hk⟩ := Gath.mem (planB_plan m t slack) hg
  rcases hk with ⟨z, h1, h2, h3⟩ | ⟨-, h3⟩
  · cases h3
    refine ⟨HoldsB_iff.2 h1, holds_near hm hl hs h1, ⟨h1.1, h1.2.1⟩, ?_⟩
    rw [Bool.eq_false_iff]
    intro h4
    have := h2 (z - 1) (HoldsB_iff.1 h4)
    omega
  · cases h3
end Go.Proofs.Ytipkjdfnoonpcaa
