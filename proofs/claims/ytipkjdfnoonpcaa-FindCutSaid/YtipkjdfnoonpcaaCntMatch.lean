/- Maps that count matches. -/
import Derived.Test.YtipkjdfnoonpcaaCntMap
import Derived.Test.YtipkjdfnoonpcaaHoldFn
set_option linter.unusedVariables false
set_option linter.unusedSimpArgs false
namespace Go.Proofs.Ytipkjdfnoonpcaa
open Go.RowKit Go.Sort

open Go.Maps (Keyed)

def Match.Wf (p : Match) : Prop := (Lit.int .i64 p.pose.x).wf = true ∧ (Lit.int .i64 p.pose.y).wf = true ∧ (Lit.int .i64 p.pose.turn).wf = true ∧ (Lit.int .i64 p.pose.scale).wf = true ∧ (Lit.int .i64 p.dist).wf = true
def matchAgg (p : Match) : Value := .agg #[.int .i64 p.pose.x, .int .i64 p.pose.y, .int .i64 p.pose.turn, .int .i64 p.pose.scale, .int .i64 p.dist]
def matchLit (p : Match) : Lit := .string (keyBytes [.int .i64 p.pose.x, .int .i64 p.pose.y, .int .i64 p.pose.turn, .int .i64 p.pose.scale, .int .i64 p.dist])
theorem match_key {p : Match} (h : p.Wf) : keyOf Try.prog 80 (matchAgg p) = some (matchLit p) := by
  obtain ⟨h0, h1, h2, h3, h4⟩ := h
  have hkt : Try.prog.keyType 80 = true := by kernel_rfl
  have hc : Try.prog.cellsOf 80 = 5 := by kernel_rfl
  have hc3 : Try.prog.cellsOf 3 = 1 := by kernel_rfl
  have hc4 : Try.prog.cellsOf 4 = 1 := by kernel_rfl
  have hcP : Try.prog.cellsOf 45 = 4 := by kernel_rfl
  obtain ⟨m, hm⟩ : ∃ m, Try.prog.types.size = m + 2 := ⟨Try.prog.types.size - 2, by have : 1 < Try.prog.types.size := of_decide_eq_true (by kernel_rfl); omega⟩
  unfold keyOf matchAgg
  simp only [Try.underlying80]
  rw [if_pos (by simp [hkt, Value.formed, Try.underlying80, hc]), hm]
  unfold Program.keyLits
  simp only [Try.underlying80, Value.cells]
  rw [if_pos (by rw [hc]; exact ⟨rfl, by kernel_rfl⟩)]
  simp [Program.keyLits, Try.underlying3, Try.underlying45, hcP, hc3, hc4, Value.cells, h0, h1, h2, h3, h4, matchLit]
  rw [if_pos (by decide)]
  rfl
theorem match_keyed : Keyed Try.prog 80 := Keyed.of_law (deep_law_gate laidOut (of_decide_eq_true (by kernel_rfl)) (of_decide_eq_true (by kernel_rfl)) (by kernel_rfl) (by rw [Try.underlying80]))
theorem match_klaw : WideMaps.KeyLaw Try.prog 80 := deep_law_gate laidOut (of_decide_eq_true (by kernel_rfl)) (of_decide_eq_true (by kernel_rfl)) (by kernel_rfl) (by rw [Try.underlying80])
theorem match_inj {p q : Match} (hp : p.Wf) (hq : q.Wf) (h : matchAgg p = matchAgg q → p = q) (e : matchLit p = matchLit q) : p = q := by
  have h3 := match_keyed.inj (match_key hp) (show keyOf Try.prog 80 (matchAgg q) = _ from (match_key hq).trans (congrArg some e.symm))
  exact h h3

theorem match_enc : KeyEnc 80 matchAgg matchLit Match.Wf := ⟨fun _ h => match_key h, fun p q hp hq e => match_inj hp hq (fun h => by
  obtain ⟨⟨p0, p1, p2, p3⟩, p4⟩ := p
  obtain ⟨⟨q0, q1, q2, q3⟩, q4⟩ := q
  unfold matchAgg at h
  simp at h
  obtain ⟨rfl, rfl, rfl, rfl, rfl⟩ := h
  rfl) e, match_keyed, match_klaw⟩
end Go.Proofs.Ytipkjdfnoonpcaa
