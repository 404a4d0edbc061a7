/- Slices as lists of cells: what a slice that came in, or that a call made, reads as; and that it stays so while the world grows. Generic: no program in sight. -/
import Derived.Test.YtcbimfaneinpkaaBase
namespace Go.Proofs.Ytcbimfaneinpkaa
open Go.RowKit Go.Sort

/-- 'v' is a slice of 'n' elements of 'sz' cells each; its cells are 'cs'. -/
def SlAt (w : World) (sz : Nat) (v : Value) (n : Nat) (cs : List Value) : Prop :=
  cs.length = n * sz ∧ ∃ ao cap, v = .slice ao n cap ∧ n ≤ cap ∧ cap ≤ maxLen ∧ (ao = none → cap = 0) ∧
    ∀ j u, cs[j]? = some u → ∃ b off, ao = some ⟨b, off, none⟩ ∧ w.cell? ⟨b, off + j, none⟩ = some u

theorem SlAt.ext {w w' : World} {sz : Nat} {v : Value} {n : Nat} {cs : List Value} (h : SlAt w sz v n cs) (hb : Ext w w') : SlAt w' sz v n cs := by
  obtain ⟨h1, ao, cap, h2, h3, h4, h5, h6⟩ := h
  refine ⟨h1, ao, cap, h2, h3, h4, h5, fun j u hj => ?_⟩
  obtain ⟨b, off, ha, hc⟩ := h6 j u hj
  exact ⟨b, off, ha, hb.get hc⟩

/-- Whatever keeps the cells keeps the reading. -/
theorem SlAt.keep {w w' : World} {sz : Nat} {v : Value} {n : Nat} {cs : List Value} (h : SlAt w sz v n cs) (hb : ∀ b o u, v.ownBlock = some b → w.cell? ⟨b, o, none⟩ = some u → w'.cell? ⟨b, o, none⟩ = some u) : SlAt w' sz v n cs := by
  obtain ⟨h1, ao, cap, h2, h3, h4, h5, h6⟩ := h
  refine ⟨h1, ao, cap, h2, h3, h4, h5, fun j u hj => ?_⟩
  obtain ⟨b, off, ha, hc⟩ := h6 j u hj
  exact ⟨b, off, ha, hb _ _ _ (by rw [h2, ha]; rfl) hc⟩

theorem SlAt.nil (w : World) (sz : Nat) : SlAt w sz (.slice none 0 0) 0 [] := ⟨by simp, none, 0, rfl, Nat.le_refl _, Nat.zero_le _, fun _ => rfl, fun j u h => by simp at h⟩

/-- Empty, or at an address. -/
theorem SlAt.cases {w : World} {sz : Nat} {v : Value} {n : Nat} {cs : List Value} (hs : 0 < sz) (h : SlAt w sz v n cs) :
    (n = 0 ∧ cs = [] ∧ ∃ ao cap, v = .slice ao 0 cap ∧ cap ≤ maxLen ∧ (ao = none → cap = 0)) ∨
    (0 < n ∧ ∃ b off cap, v = .slice (some ⟨b, off, none⟩) n cap ∧ n ≤ cap ∧ cap ≤ maxLen ∧ ∀ j u, cs[j]? = some u → w.cell? ⟨b, off + j, none⟩ = some u) := by
  obtain ⟨h1, ao, cap, h2, h3, h4, h5, h6⟩ := h
  rcases Nat.eq_zero_or_pos n with h0 | h0
  · subst h0
    exact .inl ⟨rfl, List.eq_nil_of_length_eq_zero (by simpa using h1), ao, cap, h2, h4, h5⟩
  · right
    have hl : 0 < cs.length := by rw [h1]; exact Nat.mul_pos h0 hs
    obtain ⟨b, off, ha, _⟩ := h6 0 cs[0] (by simp [hl])
    refine ⟨h0, b, off, cap, by rw [h2, ha], h3, h4, fun j u hj => ?_⟩
    obtain ⟨b', off', ha', hc⟩ := h6 j u hj
    rw [ha] at ha'
    cases ha'
    exact hc

/-- What an append or a make has left reads as its cells. -/
theorem SlAt.of_owns {w : World} {base : Nat} {e : TypeId} {sz : Nat} {v : Value} {n : Nat} {cs : List Value} (h : w.ownsRow base e sz v n cs) : SlAt w sz v n cs := by
  obtain ⟨h1, h2⟩ := h
  rcases h2 with ⟨rfl, rfl⟩ | ⟨g, cap, cur, rfl, hg, hh, hn, hc, hsz, htake⟩
  · have : cs = [] := List.eq_nil_of_length_eq_zero (by simpa using h1)
    subst this
    exact SlAt.nil w sz
  · refine ⟨h1, _, _, rfl, hn, hc, (fun h => by cases h), fun j u hj => ⟨g, 0, rfl, ?_⟩⟩
    rw [← htake] at hj
    have hj' : j < n * sz := by
      have := (List.getElem?_eq_some_iff.1 hj).1
      simp at this
      omega
    rw [List.getElem?_take_of_lt hj'] at hj
    simp only [World.cell?, hh, Nat.zero_add]
    simpa using hj

/-- An owned row stays so while the world grows. -/
theorem owns_ext {w w' : World} {base : Nat} {e : TypeId} {sz : Nat} {v : Value} {n : Nat} {cs : List Value} (h : w.ownsRow base e sz v n cs) (hb : Ext w w') : w'.ownsRow base e sz v n cs := by
  obtain ⟨h1, h2⟩ := h
  refine ⟨h1, ?_⟩
  rcases h2 with h2 | ⟨g, cap, cur, hv, hg, hh, r⟩
  · exact .inl h2
  · refine .inr ⟨g, cap, cur, hv, hg, ?_, r⟩
    have hlt : g < w.heap.size := by
      rcases Nat.lt_or_ge g w.heap.size with h | h
      · exact h
      · simp [Array.getElem?_eq_none h] at hh
    rw [Below.block hb g hlt]
    exact hh

theorem owns_base {w : World} {base base' : Nat} {e : TypeId} {sz : Nat} {v : Value} {n : Nat} {cs : List Value} (h : w.ownsRow base e sz v n cs) (hb : base' ≤ base) : w.ownsRow base' e sz v n cs := by
  obtain ⟨h1, h2⟩ := h
  refine ⟨h1, ?_⟩
  rcases h2 with h2 | ⟨g, cap, cur, hv, hg, r⟩
  · exact .inl h2
  · exact .inr ⟨g, cap, cur, hv, by omega, r⟩

theorem owns_block {w : World} {base : Nat} {e : TypeId} {sz : Nat} {v : Value} {n : Nat} {cs : List Value} (h : w.ownsRow base e sz v n cs) : ∀ g, v.ownBlock = some g → base ≤ g ∧ g < w.heap.size := by
  obtain ⟨h1, h2⟩ := h
  intro g hg
  rcases h2 with ⟨rfl, _⟩ | ⟨g', cap, cur, rfl, hb, hh, _⟩
  · simp [Value.ownBlock] at hg
  · simp [Value.ownBlock] at hg
    subst hg
    refine ⟨hb, ?_⟩
    rcases Nat.lt_or_ge g' w.heap.size with h | h
    · exact h
    · simp [Array.getElem?_eq_none h] at hh

/-- A world that grew by a row of the call's own has only grown. -/
theorem Ext.owned {a w w' : World} {v : Value} (h : Ext a w) (hg : w.grownBy w' v.ownBlock) (hr : ∀ k, v.ownBlock = some k → a.heap.size ≤ k) : Ext a w' := h.grown hg hr
theorem Ext.grownNone {a w w' : World} (h : Ext a w) (hg : w.grownBy w' none) : Ext a w' := h.grown hg (fun k hk => by cases hk)
theorem ext_of_grownNone {w w' : World} (hg : w.grownBy w' none) : Ext w w' := (Ext.refl w).grownNone hg

/-! ### Slices of ints -/
def ints (l : List Int) : List Value := l.map (Value.int .i64)
theorem ints_length (l : List Int) : (ints l).length = l.length := by simp [ints]
theorem ints_get {l : List Int} {j : Nat} (h : j < l.length) : (ints l)[j]? = some (.int .i64 (l.getD j 0)) := by
  simp [ints, List.getElem?_eq_getElem h, List.getD_eq_getElem?_getD]
def IntsAt (w : World) (v : Value) (l : List Int) : Prop := SlAt w 1 v l.length (ints l)
theorem IntsAt.ext {w w' : World} {v : Value} {l : List Int} (h : IntsAt w v l) (hb : Ext w w') : IntsAt w' v l := SlAt.ext h hb
theorem IntsAt.cases {w : World} {v : Value} {l : List Int} (h : IntsAt w v l) :
    (l = [] ∧ ∃ ao cap, v = .slice ao 0 cap ∧ cap ≤ maxLen ∧ (ao = none → cap = 0)) ∨
    (0 < l.length ∧ ∃ b off cap, v = .slice (some ⟨b, off, none⟩) l.length cap ∧ l.length ≤ cap ∧ cap ≤ maxLen ∧ ∀ j, j < l.length → w.cell? ⟨b, off + j, none⟩ = some (.int .i64 (l.getD j 0))) := by
  rcases SlAt.cases (by omega) h with ⟨h0, _, h1⟩ | ⟨h0, b, off, cap, h1, h2, h3, h4⟩
  · exact .inl ⟨List.eq_nil_of_length_eq_zero h0, h1⟩
  · exact .inr ⟨h0, b, off, cap, h1, h2, h3, fun j hj => h4 j _ (ints_get hj)⟩
/-- A cell's number behind a name. -/
theorem hid_cell {w : World} {a : Addr} {k : IntKind} {x0 : Int} (h : w.cell? a = some (.int k x0)) : ∃ x, w.cell? a = some (.int k x) ∧ Hid (x0 = x) := ⟨x0, h, rfl⟩
end Go.Proofs.Ytcbimfaneinpkaa
