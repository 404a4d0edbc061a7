/- What 'ends' answers, in plain Lean; and blocks of four cells. -/
import Derived.Test.YtodoimeiklilhaaDoorSpans2
import Derived.Test.YtodoimeiklilhaaDoorLast
set_option linter.unusedVariables false
set_option linter.unusedSimpArgs false
namespace Go.Proofs.YtodoimeiklilhaaDoor
open Go.RowKit Go.Sort

abbrev Box := Option (Rat × Rat)
def stepBox (s : Box) (x : Rat) : Rat × Rat := match s with | none => (x, x) | some (lo, hi) => (ratMin lo x, ratMax hi x)
/-- the enclosure of the results, or the first error -/
def endsR (f : Rat → Rat → Frac × Int) : Box → List (Rat × Rat) → Box × Int
  | s, [] => (s, 0)
  | s, (p, q) :: l => if (f p q).2 = 0 then endsR f (some (stepBox s (f p q).1.val)) l else (none, (f p q).2)
def boxCells : Box → Array Value
  | none => #[.int .i64 0, .int .i64 0, .int .i64 0, .int .i64 0]
  | some (lo, hi) => #[.int .i64 (nm lo), .int .i64 (dn lo), .int .i64 (nm hi), .int .i64 (dn hi)]
abbrev boxV (s : Box) : Value := .agg (boxCells s)
abbrev sansV (r : Box × Int) : Value := .tuple #[boxV r.1, .int .i64 r.2]
def BoxFits (s : Box) : Prop := ∀ b, s = some b → Fits b.1 ∧ Fits b.2
/-- an operation: where it does not err it answers a number that fits; where it errs, nought -/
def GoodOp (f : Rat → Rat → Frac × Int) : Prop := ∀ p q, Fits p → Fits q → ((f p q).2 = 0 → ∃ x, Fits x ∧ (f p q).1 = fracOf x) ∧ ((f p q).2 ≠ 0 → (f p q).1 = ⟨0, 0⟩)
theorem answer_good (g : Rat → Rat → Rat) : GoodOp (fun p q => answer (g p q)) := by
  intro p q _ _
  show ((answer (g p q)).2 = 0 → ∃ x, Fits x ∧ (answer (g p q)).1 = fracOf x) ∧ ((answer (g p q)).2 ≠ 0 → (answer (g p q)).1 = ⟨0, 0⟩)
  unfold answer
  by_cases h : Fits (g p q)
  · rw [if_pos h]; exact ⟨fun _ => ⟨_, h, rfl⟩, fun h => absurd rfl h⟩
  · rw [if_neg h]; exact ⟨fun h => by simp at h, fun _ => rfl⟩
theorem quotR_good : GoodOp quotR := by
  intro p q _ _
  unfold quotR
  by_cases h0 : nm q = 0
  · rw [if_pos h0]; exact ⟨fun h => by simp at h, fun _ => rfl⟩
  · rw [if_neg h0]
    unfold answer
    by_cases h : Fits (p / q)
    · rw [if_pos h]; exact ⟨fun _ => ⟨_, h, rfl⟩, fun h => absurd rfl h⟩
    · rw [if_neg h]; exact ⟨fun h => by simp at h, fun _ => rfl⟩
theorem min_fits {p q : Rat} (hp : Fits p) (hq : Fits q) : Fits (ratMin p q) := by unfold ratMin; split <;> assumption
theorem max_fits {p q : Rat} (hp : Fits p) (hq : Fits q) : Fits (ratMax p q) := by unfold ratMax; split <;> assumption
theorem step_fits {s : Box} {x : Rat} (hs : BoxFits s) (hx : Fits x) : BoxFits (some (stepBox s x)) := by
  intro b hb
  obtain rfl : stepBox s x = b := by simpa using hb
  cases s with
  | none => exact ⟨hx, hx⟩
  | some b => exact ⟨min_fits (hs b rfl).1 hx, max_fits (hs b rfl).2 hx⟩
theorem drop_cons {l : List (Rat × Rat)} {k : Nat} (hk : k < l.length) : l.drop k = l.getD k (0, 0) :: l.drop (k + 1) := by
  rw [List.drop_eq_getElem_cons hk, List.getD_eq_getElem?_getD, List.getElem?_eq_getElem hk]; rfl
theorem ends_err {f : Rat → Rat → Frac × Int} {l : List (Rat × Rat)} {s : Box} {k : Nat} {p q : Rat} (hk : k < l.length) (hg : l.getD k (0, 0) = (p, q)) (h : endsR f none l = endsR f s (l.drop k)) (he : (f p q).2 ≠ 0) : endsR f none l = (none, (f p q).2) := by
  rw [h, drop_cons hk, hg]; show (if _ then _ else _) = _; rw [if_neg he]
theorem ends_ok {f : Rat → Rat → Frac × Int} {l : List (Rat × Rat)} {s : Box} {k : Nat} {p q x : Rat} (hk : k < l.length) (hg : l.getD k (0, 0) = (p, q)) (h : endsR f none l = endsR f s (l.drop k)) (he : (f p q).2 = 0) (hx : (f p q).1 = fracOf x) :
    endsR f none l = endsR f (some (stepBox s x)) (l.drop (k + 1)) := by
  rw [h, drop_cons hk, hg]; show (if _ then _ else _) = _; rw [if_pos he, hx, fracOf_val]
theorem ends_done {f : Rat → Rat → Frac × Int} {l : List (Rat × Rat)} {s : Box} {k : Nat} (hk : ¬ k < l.length) (h : endsR f none l = endsR f s (l.drop k)) : endsR f none l = (s, 0) := by
  rw [h, List.drop_eq_nil_of_le (by omega)]; rfl
theorem run_four {w : World} {b : Nat} {c0 c1 c2 c3 : Value} {e : TypeId} (h : w.heap[b]? = some (.cells #[c0, c1, c2, c3] e)) :
    (w.cell? ⟨b, 0, none⟩ = some c0 ∧ w.cell? ⟨b, 1, none⟩ = some c1 ∧ w.cell? ⟨b, 2, none⟩ = some c2 ∧ w.cell? ⟨b, 3, none⟩ = some c3) ∧ w.frozen? ⟨b, 0, none⟩ = false ∧ w.frozen? ⟨b, 1, none⟩ = false ∧ w.frozen? ⟨b, 2, none⟩ = false ∧ w.frozen? ⟨b, 3, none⟩ = false := by
  simp [World.cell?, World.frozen?, h]
theorem store_four {w : World} {b : Nat} {c0 c1 c2 c3 v0 v1 v2 v3 : Value} {e : TypeId} {fr : Nat × Nat} (h : w.heap[b]? = some (.cells #[c0, c1, c2, c3] e fr)) :
    ((((w.setCell ⟨b, 0, none⟩ v0).setCell ⟨b, 1, none⟩ v1).setCell ⟨b, 2, none⟩ v2).setCell ⟨b, 3, none⟩ v3).heap[b]? = some (.cells #[v0, v1, v2, v3] e fr) ∧
    (∀ k, k ≠ b → ((((w.setCell ⟨b, 0, none⟩ v0).setCell ⟨b, 1, none⟩ v1).setCell ⟨b, 2, none⟩ v2).setCell ⟨b, 3, none⟩ v3).heap[k]? = w.heap[k]?) ∧
      ∀ wb : World, wb.heap.size ≤ b → Ext wb w → Ext wb ((((w.setCell ⟨b, 0, none⟩ v0).setCell ⟨b, 1, none⟩ v1).setCell ⟨b, 2, none⟩ v2).setCell ⟨b, 3, none⟩ v3) := by
  refine ⟨by simp [World.setCell, Array.getElem?_modify, h], fun k hk => ?_, fun wb hb hE => (((hE.setCell hb _).setCell hb _).setCell hb _).setCell hb _⟩
  rw [Below.heap_setCell _ _ _ _ hk, Below.heap_setCell _ _ _ _ hk, Below.heap_setCell _ _ _ _ hk, Below.heap_setCell _ _ _ _ hk]
theorem info_span : (Tryd.prog.info? 41).map (·.size) = some 4 := by kernel_rfl
def PairCells (w : World) (b : Nat) (l : List (Rat × Rat)) : Prop := ∀ j, j < l.length → w.cell? ⟨b, j * 4, none⟩ = some (.int .i64 (nm (l.getD j (0, 0)).1)) ∧ w.cell? ⟨b, j * 4 + 1, none⟩ = some (.int .i64 (dn (l.getD j (0, 0)).1)) ∧
  w.cell? ⟨b, j * 4 + 2, none⟩ = some (.int .i64 (nm (l.getD j (0, 0)).2)) ∧ w.cell? ⟨b, j * 4 + 3, none⟩ = some (.int .i64 (dn (l.getD j (0, 0)).2))
end Go.Proofs.YtodoimeiklilhaaDoor
