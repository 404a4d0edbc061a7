/- Plans as a function: what 'Plan' gathers can be computed. No program in sight. -/
import Derived.Test.YtipkjdfnoonpcaaGB
set_option linter.unusedVariables false
set_option linter.unusedSimpArgs false
namespace Go.Proofs.Ytipkjdfnoonpcaa
open Go.RowKit Go.Sort

def allR (lo : Int) (n : Nat) (p : Int → Bool) : Bool := (List.range n).all fun k => p (lo + (k : Int))
def anyR (lo : Int) (n : Nat) (p : Int → Bool) : Bool := (List.range n).any fun k => p (lo + (k : Int))
theorem allR_iff {lo : Int} {n : Nat} {p : Int → Bool} : allR lo n p = true ↔ ∀ x, lo ≤ x → x < lo + n → p x = true := by
  unfold allR
  rw [List.all_eq_true]
  constructor
  · intro h x h1 h2
    have := h (x - lo).toNat (List.mem_range.2 (by omega))
    rwa [show lo + ((x - lo).toNat : Int) = x by omega] at this
  · intro h k hk
    have := List.mem_range.1 hk
    exact h _ (by omega) (by omega)
theorem anyR_iff {lo : Int} {n : Nat} {p : Int → Bool} : anyR lo n p = true ↔ ∃ x, lo ≤ x ∧ x < lo + n ∧ p x = true := by
  unfold anyR
  rw [List.any_eq_true]
  constructor
  · rintro ⟨k, hk, h⟩
    have := List.mem_range.1 hk
    exact ⟨_, by omega, by omega, h⟩
  · rintro ⟨x, h1, h2, h⟩
    exact ⟨(x - lo).toNat, List.mem_range.2 (by omega), by rwa [show lo + ((x - lo).toNat : Int) = x by omega]⟩
def rowB (m : Img) (a : Bool) (palm grip width z x y : Int) : Bool :=
  allR (-1) (width + 2).toNat (fun o => decide (m.vin a (x + o) y)) && (decide (m.vat a (x + -1) y ≤ z) && (decide (m.vat a (x + width) y ≤ z) &&
    (allR 0 width.toNat (fun o => decide (m.vat a (x + o) y ≤ z + palm)) && anyR 0 width.toNat (fun o => decide (z + grip ≤ m.vat a (x + o) y)))))
theorem rowB_iff {m : Img} {a : Bool} {palm grip width z x y : Int} (hw : 0 ≤ width) : rowB m a palm grip width z x y = true ↔ m.row a palm grip width z x y := by
  unfold rowB Img.row
  simp only [Bool.and_eq_true, allR_iff, anyR_iff, decide_eq_true_eq]
  constructor
  · rintro ⟨h1, h2, h3, h4, o, h5, h6, h7⟩
    exact ⟨fun o k1 k2 => h1 o k1 (by omega), h2, h3, fun o k1 k2 => h4 o k1 (by omega), o, h5, by omega, h7⟩
  · rintro ⟨h1, h2, h3, h4, o, h5, h6, h7⟩
    exact ⟨fun o k1 k2 => h1 o k1 (by omega), h2, h3, fun o k1 k2 => h4 o k1 (by omega), o, h5, by omega, h7⟩
def HoldsB (m : Img) (t : Tool) (g : Grasp) (slack : Int) : Bool :=
  decide (1 ≤ g.width ∧ g.width ≤ 8) && (decide (0 ≤ g.z ∧ g.z ≤ 255) && allR (-slack) (t.len + 2 * slack).toNat (fun dy => allR (-slack) (2 * slack + 1).toNat fun dx => rowB m g.across t.palm t.grip g.width g.z (g.vx + dx) (g.vy + dy)))
theorem HoldsB_iff {m : Img} {t : Tool} {g : Grasp} {slack : Int} : HoldsB m t g slack = true ↔ m.Holds t g slack := by
  unfold HoldsB Img.Holds Img.holds
  simp only [Bool.and_eq_true, allR_iff, decide_eq_true_eq]
  constructor
  · rintro ⟨h1, h2, h3⟩
    exact ⟨h1, h2, fun dy k1 k2 dx k3 k4 => (rowB_iff (by omega)).1 (h3 dy k1 (by omega) dx k3 (by omega))⟩
  · rintro ⟨h1, h2, h3⟩
    exact ⟨h1, h2, fun dy k1 k2 dx k3 k4 => (rowB_iff (by omega)).2 (h3 dy k1 (by omega) dx k3 (by omega))⟩
def atZ (g : Grasp) (z : Nat) : Grasp := { g with z := (z : Int) }
def tryB (m : Img) (t : Tool) (slack : Int) (k : Nat) : Option Grasp := ((List.range 256).find? fun z => HoldsB m t (atZ (m.key k) z) slack).map (atZ (m.key k))
theorem find_range {p : Nat → Bool} : ∀ {n z : Nat}, (List.range n).find? p = some z → p z = true ∧ z < n ∧ ∀ u, u < z → p u = false
  | 0, _, h => by simp at h
  | n + 1, z, h => by
    rw [List.range_succ, List.find?_append] at h
    cases hf : (List.range n).find? p with
    | some y =>
      rw [hf] at h
      simp at h
      subst h
      obtain ⟨h1, h2, h3⟩ := find_range hf
      exact ⟨h1, by omega, h3⟩
    | none =>
      rw [hf] at h
      simp at h
      obtain ⟨h1, rfl⟩ : p n = true ∧ n = z := by
        by_cases hp : p n = true
        · simp [List.find?_cons, hp] at h; exact ⟨hp, h⟩
        · simp [List.find?_cons, hp] at h
      refine ⟨h1, by omega, fun u hu => ?_⟩
      have := List.find?_eq_none.1 hf u (List.mem_range.2 hu)
      simpa using this
theorem tryB_try (m : Img) (t : Tool) (slack : Int) (k : Nat) : m.Try t slack k (tryB m t slack k) := by
  unfold tryB
  cases hf : (List.range 256).find? fun z => HoldsB m t (atZ (m.key k) z) slack with
  | some z =>
    obtain ⟨h1, h2, h3⟩ := find_range hf
    left
    refine ⟨(z : Int), HoldsB_iff.1 h1, fun u hu => ?_, rfl⟩
    have hz : 0 ≤ u ∧ u ≤ 255 := hu.2.1
    rcases Int.lt_or_le u z with h9 | h9
    · have h8 := h3 u.toNat (by omega)
      have h7 : HoldsB m t (atZ (m.key k) u.toNat) slack = true := HoldsB_iff.2 (by
        unfold atZ
        rw [show ((u.toNat : Nat) : Int) = u by omega]
        exact hu)
      rw [h7] at h8
      cases h8
    · exact h9
  | none =>
    right
    refine ⟨fun u hu => ?_, rfl⟩
    have hz : 0 ≤ u ∧ u ≤ 255 := hu.2.1
    have h8 := List.find?_eq_none.1 hf u.toNat (List.mem_range.2 (by omega))
    refine h8 (HoldsB_iff.2 ?_)
    unfold atZ
    rw [show ((u.toNat : Nat) : Int) = u by omega]
    exact hu
def planB (m : Img) (t : Tool) (slack : Int) : List Grasp := (List.range (16 * m.pix.length)).filterMap (tryB m t slack)
theorem planB_plan (m : Img) (t : Tool) (slack : Int) : m.Plan t slack (planB m t slack) := by
  unfold planB Img.Plan
  generalize 16 * m.pix.length = n
  induction n with
  | zero => rfl
  | succ n ih =>
    refine ⟨_, tryB m t slack n, ih, tryB_try m t slack n, ?_⟩
    rw [List.range_succ, List.filterMap_append]
    cases h : tryB m t slack n <;> simp [List.filterMap_cons, h]
theorem plan_eq {m : Img} {t : Tool} {slack : Int} {gs : List Grasp} (h : m.Plan t slack gs) : gs = planB m t slack := Gath.unique try_unique h (planB_plan m t slack)
end Go.Proofs.Ytipkjdfnoonpcaa
