/- What assignments are: plain laws. No program in sight. -/
import Derived.Test.YtcbimfaneinpkaaMatchSpec
set_option linter.unusedVariables false
set_option linter.unusedSimpArgs false
namespace Go.Proofs.Ytcbimfaneinpkaa

theorem choose_sound (b : Belt) (fi se : List Int) : ∀ (k : Nat) (x0 x : List Nat), assigned b fi se x0 → (∀ m, m < x0.length → x0.getD m 0 < fi.length) → x ∈ choose b fi se k x0 →
    assigned b fi se x ∧ (∀ m, m < x.length → x.getD m 0 < fi.length) ∧ x.length = x0.length + k ∧ ∃ y, x = x0 ++ y := by
  intro k
  induction k with
  | zero => intro x0 x h1 h2 hx; simp only [choose, List.mem_singleton] at hx; subst hx; exact ⟨h1, h2, rfl, [], by simp⟩
  | succ k ih =>
    intro x0 x h1 h2 hx
    simp only [choose, List.mem_flatMap] at hx
    obtain ⟨i, hi, hx⟩ := hx
    rw [List.mem_range'_1] at hi
    have hf0 : from_ x0 ≤ fi.length := (follows b fi se x0 h1 fi.length).1 h2
    split at hx
    · rename_i hf
      have ha := (assigned_snoc b fi se x0 i).2 ⟨h1, (follows b fi se x0 h1 i).2 hi.1, hf⟩
      have hlt : ∀ m, m < (x0 ++ [i]).length → (x0 ++ [i]).getD m 0 < fi.length := by
        intro m hm
        simp at hm
        rcases Nat.lt_or_ge m x0.length with h | h
        · rw [getD_snoc_lt x0 i 0 h]; exact h2 m h
        · have : m = x0.length := by omega
          subst this
          rw [getD_snoc_eq]; omega
      obtain ⟨r1, r2, r3, y, r4⟩ := ih (x0 ++ [i]) x ha hlt hx
      exact ⟨r1, r2, by rw [r3]; simp; omega, i :: y, by rw [r4]; simp⟩
    · simp at hx
theorem assigned_prefix {b : Belt} {fi se : List Int} {x y : List Nat} (h : assigned b fi se (x ++ y)) : assigned b fi se x := by
  intro j hj i hi
  have := h j (by simp; omega) i hi
  have e : ∀ m, m < x.length → (x ++ y).getD m 0 = x.getD m 0 := fun m hm => by simp [List.getD_eq_getElem?_getD, List.getElem?_append_left hm]
  rw [e j hj, e i (by omega)] at this
  exact this
theorem choose_complete (b : Belt) (fi se : List Int) : ∀ (y x0 : List Nat), assigned b fi se (x0 ++ y) → (∀ m ∈ y, m < fi.length) → x0 ++ y ∈ choose b fi se y.length x0 := by
  intro y
  induction y with
  | nil => intro x0 _ _; simp [choose]
  | cons i y ih =>
    intro x0 h hm
    simp only [List.length_cons, choose, List.mem_flatMap]
    have hp : assigned b fi se (x0 ++ [i]) := assigned_prefix (y := y) (by simpa using h)
    obtain ⟨a1, a2, a3⟩ := (assigned_snoc b fi se x0 i).1 hp
    have hi := hm i (by simp)
    have hfr := (follows b fi se x0 a1 i).1 a2
    refine ⟨i, List.mem_range'_1.2 ⟨hfr, by omega⟩, ?_⟩
    rw [if_pos a3]
    have := ih (x0 ++ [i]) (by simpa using h) (fun m hm' => hm m (by simp [hm']))
    simpa using this
/-- the order of lists -/
def lexLt (x y : List Nat) : Prop := ∃ i, i < x.length ∧ (∀ j, j < i → x.getD j 0 = y.getD j 0) ∧ x.getD i 0 < y.getD i 0
theorem pairwise_flatMap' {α β : Type} {R : β → β → Prop} {S : α → α → Prop} : ∀ (l : List α) (f : α → List β), l.Pairwise S → (∀ a ∈ l, (f a).Pairwise R) → (∀ a ∈ l, ∀ a' ∈ l, S a a' → ∀ x ∈ f a, ∀ y ∈ f a', R x y) → (l.flatMap f).Pairwise R
  | [], f, _, _, _ => by simp
  | a :: l, f, h, h1, h2 => by
    rw [List.flatMap_cons, List.pairwise_append]
    obtain ⟨p1, p2⟩ := List.pairwise_cons.1 h
    refine ⟨h1 a (by simp), pairwise_flatMap' l f p2 (fun b hb => h1 b (by simp [hb])) (fun b hb b' hb' hs => h2 b (by simp [hb]) b' (by simp [hb']) hs), fun x hx y hy => ?_⟩
    obtain ⟨b, hb, hy⟩ := List.mem_flatMap.1 hy
    exact h2 a (by simp) b (by simp [hb]) (p1 b hb) x hx y hy
theorem choose_prefix (b : Belt) (fi se : List Int) : ∀ (k : Nat) (x0 x : List Nat), x ∈ choose b fi se k x0 → ∃ y, x = x0 ++ y := by
  intro k
  induction k with
  | zero => intro x0 x hx; simp only [choose, List.mem_singleton] at hx; subst hx; exact ⟨[], by simp⟩
  | succ k ih =>
    intro x0 x hx
    simp only [choose, List.mem_flatMap] at hx
    obtain ⟨i, hi, hx⟩ := hx
    split at hx
    · obtain ⟨y, r⟩ := ih _ _ hx
      exact ⟨i :: y, by rw [r]; simp⟩
    · simp at hx
theorem choose_sorted (b : Belt) (fi se : List Int) : ∀ (k : Nat) (x0 : List Nat), (choose b fi se k x0).Pairwise lexLt := by
  intro k
  induction k with
  | zero => intro x0; simp [choose]
  | succ k ih =>
    intro x0
    simp only [choose]
    refine pairwise_flatMap' (S := (· < ·)) _ _ List.pairwise_lt_range' (fun i _ => ?_) (fun i _ i' _ hlt x hx y hy => ?_)
    · split
      · exact ih _
      · exact List.Pairwise.nil
    · split at hx
      · split at hy
        · obtain ⟨u, rfl⟩ := choose_prefix b fi se k _ _ hx
          obtain ⟨v, rfl⟩ := choose_prefix b fi se k _ _ hy
          refine ⟨x0.length, by simp, fun j hj => ?_, ?_⟩
          · simp [List.getD_eq_getElem?_getD, List.getElem?_append_left hj]
          · simpa [List.getD_eq_getElem?_getD] using hlt
        · simp at hy
      · simp at hx
/-- with more slip there are not fewer -/
theorem flatMap_more {α β : Type} : ∀ (l : List α) (f g : α → List β), (∀ a ∈ l, (f a).length ≤ (g a).length) → (l.flatMap f).length ≤ (l.flatMap g).length
  | [], _, _, _ => by simp
  | a :: l, f, g, h => by
    have h1 := h a (by simp)
    have h2 := flatMap_more l f g (fun b hb => h b (by simp [hb]))
    simp only [List.flatMap_cons, List.length_append]
    omega
theorem choose_more (b c : Belt) (fi se : List Int) (h : ∀ x0 i m, fits b fi se x0 i m → fits c fi se x0 i m) : ∀ (k : Nat) (x0 : List Nat), (choose b fi se k x0).length ≤ (choose c fi se k x0).length := by
  intro k
  induction k with
  | zero => intro x0; simp [choose]
  | succ k ih =>
    intro x0
    simp only [choose]
    refine flatMap_more _ _ _ fun i _ => ?_
    by_cases hf : fits b fi se x0 i x0.length
    · rw [if_pos hf, if_pos (h _ _ _ hf)]
      exact ih _
    · rw [if_neg hf]; simp
theorem agree_sign {b : Belt} (h : b.ok) {x y : Int} (ha : agree b x y) : (0 ≤ x ∧ 0 ≤ y) ∨ (x ≤ 0 ∧ y ≤ 0) := by
  obtain ⟨h1, h2⟩ := ha
  obtain ⟨a1, a2, a3, a4, -⟩ := h
  have hl : 0 < least b := by unfold least; omega
  have hm : 0 < most b := by unfold most; omega
  rcases Int.lt_or_le x 0 with hx | hx
  · rcases Int.lt_or_le 0 y with hy | hy
    · have := Int.mul_pos hy hl
      have := Int.mul_neg_of_neg_of_pos hx hm
      omega
    · right; omega
  · rcases Int.lt_or_le y 0 with hy | hy
    · have := Int.mul_nonneg hx (Int.le_of_lt hl)
      have := Int.mul_neg_of_neg_of_pos hy hm
      omega
    · left; omega
/-- gaps that are not backwards agree on looser belts -/
theorem agree_more {b c : Belt} (hs : c.step = b.step) (hl : b.slip ≤ c.slip) {x y : Int} (hx : 0 ≤ x) (hy : 0 ≤ y) (ha : agree b x y) : agree c x y := by
  have key : ∀ z : Int, 0 ≤ z → z * least c ≤ z * least b ∧ z * most b ≤ z * most c := by
    intro z hz
    exact ⟨Int.mul_le_mul_of_nonneg_left (by unfold least; omega) hz, Int.mul_le_mul_of_nonneg_left (by unfold most; omega) hz⟩
  have k1 := key x hx
  have k2 := key y hy
  obtain ⟨h1, h2⟩ := ha
  exact ⟨by omega, by omega⟩
theorem Incr.le {l : List Int} (h : Incr l) {i j : Nat} (hij : i ≤ j) (hj : j < l.length) : l.getD i 0 ≤ l.getD j 0 := by
  induction j with
  | zero => obtain rfl : i = 0 := by omega
            exact Int.le_refl _
  | succ j ih =>
    rcases Nat.lt_or_ge i (j + 1) with h1 | h1
    · have := ih (by omega) (by omega)
      have := (h (j + 1) hj).2 (by omega)
      simp only [Nat.add_sub_cancel] at this
      omega
    · obtain rfl : i = j + 1 := by omega
      exact Int.le_refl _
theorem choose_slip {b c : Belt} (hb : b.ok) (hs : c.step = b.step) (hl : b.slip ≤ c.slip) {fi se : List Int} (hi : Incr se) : ∀ (k : Nat) (x0 : List Nat), x0.length + k = se.length → (choose b fi se k x0).length ≤ (choose c fi se k x0).length := by
  intro k
  induction k with
  | zero => intro x0 _; simp [choose]
  | succ k ih =>
    intro x0 hx
    simp only [choose]
    refine flatMap_more _ _ _ fun i _ => ?_
    by_cases hf : fits b fi se x0 i x0.length
    · have hc : fits c fi se x0 i x0.length := by
        intro m hm
        have ha := hf m hm
        have hy : 0 ≤ se.getD x0.length 0 - se.getD m 0 := by have := hi.le (i := m) (j := x0.length) (by omega) (by omega); omega
        have hy2 : 0 < se.getD x0.length 0 - se.getD m 0 := by
          have h9 := hi.le (i := m) (j := x0.length - 1) (by omega) (by omega)
          have h8 := (hi x0.length (by omega)).2 (by omega)
          omega
        rcases agree_sign hb ha with ⟨h1, h2⟩ | ⟨h1, h2⟩
        · exact agree_more hs hl h1 hy ha
        · omega
      rw [if_pos hf, if_pos hc]
      exact ih _ (by simp; omega)
    · rw [if_neg hf]; simp
end Go.Proofs.Ytcbimfaneinpkaa
