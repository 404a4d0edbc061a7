/- What calls keep of a track: plain laws. No program in sight. -/
import Derived.Test.YtcbimfaneinpkaaSteps
set_option linter.unusedVariables false
set_option linter.unusedSimpArgs false
namespace Go.Proofs.Ytcbimfaneinpkaa

/-- a part later on -/
def Grown (s u : Seen) : Prop := u.id = s.id ∧ u.at_ = s.at_ ∧ u.verdict = s.verdict ∧ (s.hit = true → u.hit = true)
theorem Grown.refl (s : Seen) : Grown s s := ⟨rfl, rfl, rfl, id⟩
theorem Grown.trans {a b c : Seen} (h : Grown a b) (k : Grown b c) : Grown a c := ⟨k.1.trans h.1, k.2.1.trans h.2.1, k.2.2.1.trans h.2.2.1, fun x => k.2.2.2 (h.2.2.2 x)⟩
theorem grown_hit (t : Track) (n : Int) (x : Seen) : Grown x (hitAt t n x) := ⟨rfl, rfl, rfl, fun h => by unfold hitAt; simp [h]⟩
/-- lists, part by part -/
def Grows (l m : List Seen) : Prop := l.length = m.length ∧ ∀ i, i < l.length → Grown (l.getD i seen0) (m.getD i seen0)
theorem Grows.refl (l : List Seen) : Grows l l := ⟨rfl, fun _ _ => Grown.refl _⟩
theorem Grows.trans {a b c : List Seen} (h : Grows a b) (k : Grows b c) : Grows a c := ⟨h.1.trans k.1, fun i hi => (h.2 i hi).trans (k.2 i (by have := h.1; omega))⟩
theorem grows_map (t : Track) (n : Int) (l : List Seen) : Grows l (l.map (hitAt t n)) := by
  refine ⟨by simp, fun i hi => ?_⟩
  rw [getD_get hi, getD_get (by simpa using hi), List.getElem_map]
  exact grown_hit t n _
theorem Grows.cons {x y : Seen} {l m : List Seen} (h : Grown x y) (k : Grows l m) : Grows (x :: l) (y :: m) := by
  refine ⟨by simp [k.1], fun i hi => ?_⟩
  cases i with
  | zero => exact h
  | succ i => exact k.2 i (by simpa using hi)
theorem passN_grows : ∀ (n : Nat) {t : Track}, t.ok → t.count + n ≤ 1099511627776 → ∃ g : List Seen, (passN n t).2 = g.map fateOf ∧ Grows t.parts (g ++ (passN n t).1.parts)
  | 0, t, _, _ => ⟨[], rfl, Grows.refl _⟩
  | n + 1, t, h, hc => by
    have hk : (pass1 t).ok := pass1_ok h (by omega)
    obtain ⟨g, e1, e2⟩ := passN_grows n hk (by show t.count + 1 + (n : Int) ≤ _; omega)
    have e3 : Grows (leftR t (t.count + 1)) (g ++ (passN n (pass1 t)).1.parts) := e2
    rcases gone_split h with ⟨s1, s2⟩ | ⟨x, l, s0, s1, s2, -⟩
    · refine ⟨g, ?_, ?_⟩
      · simp only [passN, fates1, s1, List.map_nil, List.nil_append, e1]
      · refine Grows.trans (grows_map t (t.count + 1) _) ?_
        rw [← s2]; exact e3
    · refine ⟨hitAt t (t.count + 1) x :: g, ?_, ?_⟩
      · simp only [passN, fates1, s1, List.map_cons, List.map_nil, e1]; rfl
      · rw [s0]
        refine Grows.trans (grows_map t (t.count + 1) _) ?_
        rw [List.map_cons, ← s2]
        exact Grows.cons (Grown.refl _) e3
theorem passN_lens {n : Nat} {t : Track} (h : t.ok) (hc : t.count + n ≤ 1099511627776) : (passN n t).1.parts.length + (passN n t).2.length = t.parts.length := by
  obtain ⟨g, e1, e2, -⟩ := passN_grows n h hc
  rw [e1, e2]; simp; omega
def fate0 : Fate := ⟨-1, 0, false⟩
theorem passN_fate {n : Nat} {t : Track} (h : t.ok) (hc : t.count + n ≤ 1099511627776) {i : Nat} (hi : i < (passN n t).2.length) :
    ((passN n t).2.getD i fate0).id = (t.parts.getD i seen0).id ∧ ((passN n t).2.getD i fate0).verdict = (t.parts.getD i seen0).verdict ∧ ((t.parts.getD i seen0).hit = true → ((passN n t).2.getD i fate0).hit = true) := by
  obtain ⟨g, e1, e2, e3⟩ := passN_grows n h hc
  rw [e1] at hi ⊢
  have hg : i < g.length := by simpa using hi
  have := e3 i (by rw [e2]; simp; omega)
  rw [List.getD_eq_getElem?_getD (l := g ++ _), List.getElem?_append_left hg, List.getElem?_eq_getElem hg] at this
  rw [List.getD_eq_getElem?_getD (l := g.map fateOf), List.getElem?_map, List.getElem?_eq_getElem hg]
  exact ⟨this.1, this.2.2.1, this.2.2.2⟩
theorem passN_part {n : Nat} {t : Track} (h : t.ok) (hc : t.count + n ≤ 1099511627776) {i : Nat} (h1 : (passN n t).2.length ≤ i) (hi : i < t.parts.length) :
    Grown (t.parts.getD i seen0) ((passN n t).1.parts.getD (i - (passN n t).2.length) seen0) := by
  obtain ⟨g, e1, e2, e3⟩ := passN_grows n h hc
  have hg : (passN n t).2.length = g.length := by rw [e1]; simp
  have := e3 i hi
  rw [List.getD_eq_getElem?_getD (l := g ++ _), List.getElem?_append_right (by omega), ← hg, ← List.getD_eq_getElem?_getD] at this
  exact this
/-! ### tells -/
theorem place_spec {l : List Seen} {id : Int} (h : place l id < l.length) : (l.getD (place l id) seen0).id = id := by
  have := List.findIdx_getElem (xs := l) (p := fun x : Seen => decide (x.id = id)) (w := h)
  rw [getD_get h]
  exact of_decide_eq_true this
theorem place_of {l : List Seen} (hr : Rising l) {i : Nat} (hi : i < l.length) : place l (l.getD i seen0).id = i := by
  have h1 : place l (l.getD i seen0).id < l.length := List.findIdx_lt_length_of_exists ⟨l[i], List.getElem_mem hi, by rw [getD_get hi]; simp⟩
  have h2 := place_spec h1
  generalize place l (l.getD i seen0).id = j at h1 h2 ⊢
  rw [getD_get h1, getD_get hi] at h2
  rcases Nat.lt_trichotomy j i with h | h | h
  · have := (List.pairwise_iff_getElem.1 hr _ _ h1 hi h).1; omega
  · exact h
  · have := (List.pairwise_iff_getElem.1 hr _ _ hi h1 h).1; omega
theorem place_le {l : List Seen} {id : Int} : place l id ≤ l.length := List.findIdx_le_length
theorem set_get {l : List Seen} {i j : Nat} {x : Seen} (hi : i < l.length) : (l.set i x).getD j seen0 = if j = i then x else l.getD j seen0 := by
  rw [List.getD_eq_getElem?_getD, List.getElem?_set]
  by_cases h : i = j
  · subst h; simp [hi]
  · rw [if_neg h, if_neg (fun e => h e.symm)]; rfl
theorem told_ok {t : Track} (h : t.ok) {i : Nat} (hi : i < t.parts.length) {v : Int} (hv : v ≤ 3) : (told t i v).ok := by
  obtain ⟨h1, ⟨s1, s2, s3, s4, s5⟩, h3⟩ := h
  refine ⟨h1, ⟨s1, s2, s3, s4, by show (t.parts.set i _).length ≤ 32; simpa using s5⟩, fun k hk => ?_⟩
  have hk' : k < t.parts.length := by simpa [told] using hk
  have hp := h3 k hk'
  have e1 : (told t i v).parts.getD k seen0 = if k = i then ⟨(t.parts.getD i seen0).id, (t.parts.getD i seen0).at_, v, (t.parts.getD i seen0).hit⟩ else t.parts.getD k seen0 := set_get hi
  have e2 : (lastOf (told t i v).parts k).id = (lastOf t.parts k).id ∧ (lastOf (told t i v).parts k).at_ = (lastOf t.parts k).at_ := by
    cases k with
    | zero => exact ⟨rfl, rfl⟩
    | succ k =>
      rw [lastOf_succ, lastOf_succ]
      have : (told t i v).parts.getD k seen0 = if k = i then ⟨(t.parts.getD i seen0).id, (t.parts.getD i seen0).at_, v, (t.parts.getD i seen0).hit⟩ else t.parts.getD k seen0 := set_get hi
      rw [this]
      split
      · rename_i e; subst e; exact ⟨rfl, rfl⟩
      · exact ⟨rfl, rfl⟩
  obtain ⟨a1, a2, a3, a4, a5, a6, a7⟩ := hp
  rw [e1]
  split
  · rename_i e
    subst e
    exact ⟨by rw [e2.1]; exact a1, a2, by rw [e2.2]; exact a3, a4, a5, hv, a7⟩
  · exact ⟨by rw [e2.1]; exact a1, a2, by rw [e2.2]; exact a3, a4, a5, a6, a7⟩
end Go.Proofs.Ytcbimfaneinpkaa
