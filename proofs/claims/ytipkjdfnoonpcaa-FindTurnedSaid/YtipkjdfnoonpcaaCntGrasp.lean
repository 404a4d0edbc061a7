/- Maps that count grasps. -/
import Derived.Test.YtipkjdfnoonpcaaCntMap
import Derived.Test.YtipkjdfnoonpcaaHoldFn
set_option linter.unusedVariables false
set_option linter.unusedSimpArgs false
namespace Go.Proofs.Ytipkjdfnoonpcaa
open Go.RowKit Go.Sort

open Go.Maps (Keyed)

def Grasp.Wf (p : Grasp) : Prop := (Lit.int .i64 p.x).wf = true ∧ (Lit.int .i64 p.y).wf = true ∧ (Lit.int .i64 p.width).wf = true ∧ (Lit.int .i64 p.z).wf = true
def graspAgg (p : Grasp) : Value := .agg #[.int .i64 p.x, .int .i64 p.y, .bool p.across, .int .i64 p.width, .int .i64 p.z]
def graspLit (p : Grasp) : Lit := .string (keyBytes [.int .i64 p.x, .int .i64 p.y, .bool p.across, .int .i64 p.width, .int .i64 p.z])
theorem grasp_key {p : Grasp} (h : p.Wf) : keyOf Try.prog 28 (graspAgg p) = some (graspLit p) := by
  obtain ⟨h0, h1, h2, h3⟩ := h
  have hkt : Try.prog.keyType 28 = true := by kernel_rfl
  have hc : Try.prog.cellsOf 28 = 5 := by kernel_rfl
  have hc3 : Try.prog.cellsOf 3 = 1 := by kernel_rfl
  have hc4 : Try.prog.cellsOf 4 = 1 := by kernel_rfl
  have hcP : Try.prog.cellsOf 45 = 4 := by kernel_rfl
  obtain ⟨m, hm⟩ : ∃ m, Try.prog.types.size = m + 2 := ⟨Try.prog.types.size - 2, by have : 1 < Try.prog.types.size := of_decide_eq_true (by kernel_rfl); omega⟩
  unfold keyOf graspAgg
  simp only [Try.underlying28]
  rw [if_pos (by simp [hkt, Value.formed, Try.underlying28, hc]), hm]
  unfold Program.keyLits
  simp only [Try.underlying28, Value.cells]
  rw [if_pos (by rw [hc]; exact ⟨rfl, by kernel_rfl⟩)]
  simp [Program.keyLits, Try.underlying3, Try.underlying4, hc3, hc4, Value.cells, h0, h1, h2, h3, graspLit]
theorem grasp_keyed : Keyed Try.prog 28 := Keyed.of_law (deep_law_gate laidOut (of_decide_eq_true (by kernel_rfl)) (of_decide_eq_true (by kernel_rfl)) (by kernel_rfl) (by rw [Try.underlying28]))
theorem grasp_klaw : WideMaps.KeyLaw Try.prog 28 := deep_law_gate laidOut (of_decide_eq_true (by kernel_rfl)) (of_decide_eq_true (by kernel_rfl)) (by kernel_rfl) (by rw [Try.underlying28])
theorem grasp_inj {p q : Grasp} (hp : p.Wf) (hq : q.Wf) (h : graspAgg p = graspAgg q → p = q) (e : graspLit p = graspLit q) : p = q := by
  have h3 := grasp_keyed.inj (grasp_key hp) (show keyOf Try.prog 28 (graspAgg q) = _ from (grasp_key hq).trans (congrArg some e.symm))
  exact h h3

theorem grasp_enc : KeyEnc 28 graspAgg graspLit Grasp.Wf := ⟨fun _ h => grasp_key h, fun p q hp hq e => grasp_inj hp hq (fun h => by
  obtain ⟨p0, p1, p2, p3, p4⟩ := p
  obtain ⟨q0, q1, q2, q3, q4⟩ := q
  unfold graspAgg at h
  simp at h
  obtain ⟨rfl, rfl, rfl, rfl, rfl⟩ := h
  rfl) e, grasp_keyed, grasp_klaw⟩
end Go.Proofs.Ytipkjdfnoonpcaa
