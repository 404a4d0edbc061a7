/- What a search of all choices of places finds: plain. No program in sight. -/
import Derived.Test.YtlnofbdhamingaaDoorThroughP
set_option linter.unusedVariables false
set_option linter.unusedSimpArgs false
namespace Go.Proofs.YtlnofbdhamingaaDoor
open Go.RowKit Go.Sort

/-- whether a message fits that is right at some places and at so many of others -/
noncomputable def srchB (wd : List Nat) (er : List Bool) (k : Nat) (ps os : List Nat) : Bool := open Classical in decide (∃ M, FitsW wd er k M ∧ RightAll M wd ps ∧ k ≤ rightN M wd os + ps.length)
theorem srchB_iff {wd : List Nat} {er : List Bool} {k : Nat} {ps os : List Nat} : srchB wd er k ps os = true ↔ ∃ M, FitsW wd er k M ∧ RightAll M wd ps ∧ k ≤ rightN M wd os + ps.length := by
  unfold srchB
  exact @decide_eq_true_iff _ (Classical.propDecidable _)
noncomputable def bestM (wd : List Nat) (er : List Bool) (k : Nat) : List Nat := (decR wd er k).getD []
theorem bestM_of {wd : List Nat} {er : List Bool} {k : Nat} (hR : RecvOk wd er k) {M : List Nat} (h : FitsW wd er k M) : bestM wd er k = M := by
  unfold bestM
  rw [decR_some hR h]; rfl
theorem rightAll_through {wd ps : List Nat} (hw : Syms wd) (h : Places ps) : RightAll (throughR wd ps) wd ps := fun i hi => by
  obtain ⟨m, hm, rfl⟩ := List.getElem_of_mem hi
  have := throughK_val hw h hm (Nat.le_refl _)
  rw [if_pos hm, List.getD_eq_getElem?_getD (l := ps), List.getElem?_eq_getElem hm, Option.getD_some] at this
  exact this
/-- enough places: what goes through them, if it fits -/
theorem srch_base {wd : List Nat} {er : List Bool} {k : Nat} {ps os : List Nat} (hw : Syms wd) (h : Places ps) (hk : ps.length = k) : srchB wd er k ps os = true ↔ FitsW wd er k (throughR wd ps) := by
  rw [srchB_iff]
  constructor
  · rintro ⟨M, h1, h2, -⟩
    rw [through_only hw h h1.1 (by rw [h1.2.1, hk]) h2]
    exact h1
  · intro h1
    exact ⟨_, h1, rightAll_through hw h, by omega⟩
theorem srch_up {wd : List Nat} {er : List Bool} {k i : Nat} {ps os : List Nat} (hi : i < os.length) (h : srchB wd er k (ps ++ [os.getD i 0]) (os.drop (i + 1)) = true) : srchB wd er k ps os = true := by
  rw [srchB_iff] at h ⊢
  obtain ⟨M, h1, h2, h3⟩ := h
  refine ⟨M, h1, fun j hj => h2 j (List.mem_append_left _ hj), ?_⟩
  have e : rightN M wd os = rightN M wd (os.take (i + 1)) + rightN M wd (os.drop (i + 1)) := by rw [← rightN_append, List.take_append_drop]
  rw [take_grow hi, rightN_append, rightN_one, if_pos (h2 _ (List.mem_append_right _ (List.mem_singleton.2 rfl)))] at e
  rw [List.length_append] at h3
  simp only [List.length_cons, List.length_nil] at h3
  omega
theorem srch_no {wd : List Nat} {er : List Bool} {k : Nat} {ps os : List Nat} : srchB wd er k ps os = false ↔ NoFit wd er k ps os := by
  rw [← Bool.not_eq_true, srchB_iff]
  unfold NoFit
  constructor
  · intro h M h1 h2
    exact Nat.lt_of_not_le fun h3 => h ⟨M, h1, h2, h3⟩
  · rintro h ⟨M, h1, h2, h3⟩
    have := h M h1 h2
    omega
theorem places_app {ps os : List Nat} {i : Nat} (h : Places (ps ++ os)) (hi : i < os.length) : Places ((ps ++ [os.getD i 0]) ++ os.drop (i + 1)) := by
  have hs : ((ps ++ [os.getD i 0]) ++ os.drop (i + 1)).Sublist (ps ++ os) := by
    rw [List.append_assoc]
    refine List.Sublist.append (List.Sublist.refl _) ?_
    have e : os.drop i = os.getD i 0 :: os.drop (i + 1) := by
      rw [List.drop_eq_getElem_cons hi, List.getD_eq_getElem?_getD, List.getElem?_eq_getElem hi]; rfl
    have : [os.getD i 0] ++ os.drop (i + 1) = os.drop i := by rw [e]; rfl
    rw [this]
    exact List.drop_sublist i os
  exact ⟨fun j hj => h.1 j (hs.subset hj), h.2.sublist hs⟩
theorem places_left {ps os : List Nat} (h : Places (ps ++ os)) : Places ps := ⟨fun j hj => h.1 j (List.mem_append_left _ hj), h.2.sublist (List.sublist_append_left ps os)⟩
end Go.Proofs.YtlnofbdhamingaaDoor
