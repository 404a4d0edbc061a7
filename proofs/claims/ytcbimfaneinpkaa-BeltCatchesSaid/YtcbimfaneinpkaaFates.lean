/- SameFates of one list. -/
import Derived.Test.YtcbimfaneinpkaaAdvance
set_option linter.unusedVariables false
set_option linter.unusedSimpArgs false
namespace Go.Proofs.Ytcbimfaneinpkaa
open Go.RowKit Go.Sort

def FatesAt (w : World) (v : Value) (l : List Fate) : Prop := SlAt w 3 v l.length (fatesL l)
theorem FatesAt.ext {w w' : World} {v : Value} {l : List Fate} (h : FatesAt w v l) (hb : Ext w w') : FatesAt w' v l := SlAt.ext h hb
def fate9 : Fate := ⟨-1, 0, false⟩
theorem fatesL_length (l : List Fate) : (fatesL l).length = l.length * 3 := by
  induction l with
  | nil => rfl
  | cons x l ih => simp only [fatesL, List.flatMap_cons, List.length_append, List.length_cons] at ih ⊢; simp [fateCells, ih]; omega
theorem fates_get (l : List Fate) : ∀ (i f : Nat), i < l.length → f < 3 → (fatesL l)[i * 3 + f]? = (fateCells (l.getD i fate9))[f]? := by
  induction l with
  | nil => intro i f h; simp at h
  | cons x l ih =>
    intro i f hi hf
    rw [fatesL, List.flatMap_cons]
    match i with
    | 0 =>
      rw [List.getElem?_append_left (by simp [fateCells]; omega)]
      simp
    | i + 1 =>
      rw [List.getElem?_append_right (by simp [fateCells]; omega)]
      have := ih i f (by simpa using hi) hf
      simp only [fatesL] at this
      simpa [fateCells, show (i + 1) * 3 + f - 3 = i * 3 + f by omega] using this
theorem FatesAt.form {w : World} {v : Value} {l : List Fate} (h : FatesAt w v l) :
    ∃ ao cap, v = .slice ao l.length cap ∧ cap ≤ maxLen ∧ ∀ j, j < l.length → ∃ b off, ao = some ⟨b, off, none⟩ ∧ w.cell? ⟨b, off + j * 3, none⟩ = some (.int .i64 (l.getD j fate9).id) ∧ w.cell? ⟨b, off + j * 3 + 1, none⟩ = some (.int .u8 (l.getD j fate9).verdict) ∧ w.cell? ⟨b, off + j * 3 + 2, none⟩ = some (.bool (l.getD j fate9).hit) := by
  obtain ⟨h1, ao, cap, h2, h3, h4, h5, h6⟩ := h
  refine ⟨ao, cap, h2, h4, fun j hj => ?_⟩
  obtain ⟨b, off, e0, c0⟩ := h6 (j * 3 + 0) _ (by rw [fates_get l j 0 hj (by omega)]; rfl)
  obtain ⟨b1, off1, e1, c1⟩ := h6 (j * 3 + 1) _ (by rw [fates_get l j 1 hj (by omega)]; rfl)
  obtain ⟨b2, off2, e2, c2⟩ := h6 (j * 3 + 2) _ (by rw [fates_get l j 2 hj (by omega)]; rfl)
  rw [e0] at e1 e2
  cases e1
  cases e2
  exact ⟨b, off, e0, c0, c1, c2⟩
theorem fates_own {w : World} {b n : Nat} {v : Value} {l : List Fate} (h : w.ownsRow b 93 3 v n (fatesL l)) (hn : n = l.length) : FatesAt w v l := by
  subst hn
  exact SlAt.of_owns h
set_option maxRecDepth 100000 in
set_option maxHeartbeats 4000000 in
theorem w42 (l : List Fate) (v1 v2 : Value) (w : World) (h1 : FatesAt w v1 l) (h2 : FatesAt w v2 l) (hl : l.length ≤ 1000000) :
    Calls Try.prog 42 #[v1, v2] w fun e w' => e = .returned (.bool true) ∧ Ext w w' := by
  obtain ⟨a1, c1, rfl, -, hc1⟩ := h1.form
  obtain ⟨a2, c2, rfl, -, hc2⟩ := h2.form
  have H1 := Lib.hid hc1
  have H2 := Lib.hid hc2
  clear hc1 hc2 h1 h2
  go_enter Try.func42, Try.ntmps42
  go_wp2
  go_loopw [5] (fun v wr => Ext w wr ∧ ∃ i : Nat, i ≤ l.length ∧ v = .int .i64 (i : Int)) (fun v _ => l.length - (intOf v).toNat)
  case atStart => exact ⟨Ext.refl _, 0, Nat.zero_le _, rfl⟩
  case round =>
    obtain ⟨hE, i, hi, rfl⟩ := hrel
    by_cases hil : i < l.length
    · obtain ⟨b1, o1, rfl, x0, x1, x2⟩ := H1.out i hil
      obtain ⟨b2, o2, rfl, y0, y1, y2⟩ := H2.out i hil
      generalize l.getD i fate9 = x at x0 x1 x2 y0 y1 y2
      replace x0 := hE.get x0
      replace x1 := hE.get x1
      replace x2 := hE.get x2
      replace y0 := hE.get y0
      replace y1 := hE.get y1
      replace y2 := hE.get y2
      go_wp2_with fail
      go_quiet (fail)
      go_wp2
      go_roundw
      case rel => exact ⟨hE.drewN _, i + 1, by omega, by go_num⟩
      case measure => simp [intOf]; omega
    · go_wp2
      go_ret
      exact ⟨rfl, hE⟩
end Go.Proofs.Ytcbimfaneinpkaa
