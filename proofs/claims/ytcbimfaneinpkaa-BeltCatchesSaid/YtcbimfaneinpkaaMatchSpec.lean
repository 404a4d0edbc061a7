/- Assignments of two stations: the plain functions of the program and of the reference, and that they are one. No program in sight. -/
import Derived.Test.YtcbimfaneinpkaaSpec
namespace Go.Proofs.Ytcbimfaneinpkaa

/-- counts that increase -/
def Incr (l : List Int) : Prop := ∀ i, i < l.length → (0 ≤ l.getD i 0 ∧ l.getD i 0 ≤ 1099511627776) ∧ (0 < i → l.getD (i - 1) 0 < l.getD i 0)
instance (l : List Int) : Decidable (Incr l) := by unfold Incr; infer_instance

def agree (b : Belt) (x y : Int) : Prop := x * least b ≤ y * most b ∧ y * least b ≤ x * most b
instance (b : Belt) (x y : Int) : Decidable (agree b x y) := by unfold agree; infer_instance

/-- the gaps of the first 'm' parts of 'x' and a part that is given the index 'i' agree -/
def fits (b : Belt) (fi se : List Int) (x : List Nat) (i m : Nat) : Prop :=
  ∀ k, k < m → agree b (fi.getD i 0 - fi.getD (x.getD k 0) 0) (se.getD x.length 0 - se.getD k 0)
instance (b : Belt) (fi se : List Int) (x : List Nat) (i m : Nat) : Decidable (fits b fi se x i m) := by unfold fits; infer_instance

/-- the first index that may follow -/
def from_ (x : List Nat) : Nat := if x.length = 0 then 0 else x.getD (x.length - 1) 0 + 1

/-- the program's: 'k' parts are still to be given an index -/
def choose (b : Belt) (fi se : List Int) : Nat → List Nat → List (List Nat)
  | 0, x => [x]
  | k + 1, x => (List.range' (from_ x) (fi.length - from_ x)).flatMap fun i => if fits b fi se x i x.length then choose b fi se k (x ++ [i]) else []

/-- the reference's -/
def assigned (b : Belt) (fi se : List Int) (x : List Nat) : Prop :=
  ∀ j, j < x.length → ∀ i, i < j → x.getD i 0 < x.getD j 0 ∧ agree b (fi.getD (x.getD j 0) 0 - fi.getD (x.getD i 0) 0) (se.getD j 0 - se.getD i 0)
instance (b : Belt) (fi se : List Int) (x : List Nat) : Decidable (assigned b fi se x) := by unfold assigned; infer_instance

def extended (b : Belt) (fi se : List Int) : Nat → List Nat → List (List Nat)
  | 0, x => if assigned b fi se x then [x] else []
  | k + 1, x => if assigned b fi se x then (List.range fi.length).flatMap fun i => extended b fi se k (x ++ [i]) else []

theorem getD_snoc_lt {α : Type} (x : List α) (i : α) (d : α) {j : Nat} (h : j < x.length) : (x ++ [i]).getD j d = x.getD j d := by
  simp [List.getD_eq_getElem?_getD, List.getElem?_append_left h]
theorem getD_snoc_eq {α : Type} (x : List α) (i : α) (d : α) : (x ++ [i]).getD x.length d = i := by
  simp [List.getD_eq_getElem?_getD]

theorem assigned_snoc (b : Belt) (fi se : List Int) (x : List Nat) (i : Nat) :
    assigned b fi se (x ++ [i]) ↔ assigned b fi se x ∧ (∀ m, m < x.length → x.getD m 0 < i) ∧ fits b fi se x i x.length := by
  constructor
  · intro h
    refine ⟨fun j hj m hm => ?_, fun m hm => ?_, fun m hm => ?_⟩
    · have := h j (by simp; omega) m hm
      rwa [getD_snoc_lt x i 0 hj, getD_snoc_lt x i 0 (by omega)] at this
    · have := (h x.length (by simp) m hm).1
      rwa [getD_snoc_eq, getD_snoc_lt x i 0 hm] at this
    · have := (h x.length (by simp) m hm).2
      rwa [getD_snoc_eq, getD_snoc_lt x i 0 hm] at this
  · rintro ⟨h1, h2, h3⟩ j hj m hm
    simp at hj
    rcases Nat.lt_or_ge j x.length with h | h
    · rw [getD_snoc_lt x i 0 h, getD_snoc_lt x i 0 (by omega)]
      exact h1 j h m hm
    · have hjx : j = x.length := by omega
      subst hjx
      rw [getD_snoc_eq, getD_snoc_lt x i 0 hm]
      exact ⟨h2 m hm, h3 m hm⟩

/-- an index follows all of an assignment's if it is from 'from_' on -/
theorem follows (b : Belt) (fi se : List Int) (x : List Nat) (h : assigned b fi se x) (i : Nat) : (∀ m, m < x.length → x.getD m 0 < i) ↔ from_ x ≤ i := by
  unfold from_
  split
  · rename_i h0
    exact ⟨fun _ => Nat.zero_le _, fun _ m hm => by omega⟩
  · rename_i h0
    constructor
    · intro hm
      exact hm (x.length - 1) (by omega)
    · intro hi m hm
      rcases Nat.lt_or_ge m (x.length - 1) with h1 | h1
      · have := (h (x.length - 1) (by omega) m h1).1
        omega
      · have : m = x.length - 1 := by omega
        subst this
        omega

theorem flatMap_none {α β : Type} (l : List α) (f : α → List β) (h : ∀ a ∈ l, f a = []) : l.flatMap f = [] := by
  induction l with
  | nil => rfl
  | cons a l ih => simp [h a (by simp), ih (fun b hb => h b (by simp [hb]))]
theorem flatMap_same {α β : Type} (l : List α) (f g : α → List β) (h : ∀ a ∈ l, f a = g a) : l.flatMap f = l.flatMap g := by
  induction l with
  | nil => rfl
  | cons a l ih => simp [h a (by simp), ih (fun b hb => h b (by simp [hb]))]

/-- The two are one. -/
theorem extended_eq (b : Belt) (fi se : List Int) : ∀ (k : Nat) (x : List Nat), assigned b fi se x → (∀ m, m < x.length → x.getD m 0 < fi.length) → extended b fi se k x = choose b fi se k x := by
  intro k
  induction k with
  | zero => intro x h _; simp [extended, choose, h]
  | succ k ih =>
    intro x h hlt
    have hfrom : from_ x ≤ fi.length := (follows b fi se x h fi.length).1 hlt
    have hn : ∀ i, ¬ assigned b fi se (x ++ [i]) → extended b fi se k (x ++ [i]) = [] := by
      intro i hi
      cases k <;> simp [extended, hi]
    simp only [extended, choose, h, if_true]
    have hr : List.range fi.length = List.range (from_ x) ++ List.range' (from_ x) (fi.length - from_ x) := by
      rw [List.range_eq_range', List.range_eq_range']
      have := List.range'_append_1 (s := 0) (m := from_ x) (n := fi.length - from_ x)
      rw [Nat.zero_add] at this
      rw [this]
      congr 1
      omega
    rw [hr, List.flatMap_append, flatMap_none (List.range (from_ x)), List.nil_append]
    · refine flatMap_same _ _ _ fun i hi => ?_
      rw [List.mem_range'_1] at hi
      have hfol := (follows b fi se x h i).2 hi.1
      by_cases hf : fits b fi se x i x.length
      · rw [if_pos hf]
        refine ih _ ((assigned_snoc b fi se x i).2 ⟨h, hfol, hf⟩) ?_
        intro m hm
        simp at hm
        rcases Nat.lt_or_ge m x.length with h1 | h1
        · rw [getD_snoc_lt x i 0 h1]; exact hlt m h1
        · have : m = x.length := by omega
          subst this
          rw [getD_snoc_eq]; omega
      · rw [if_neg hf]
        exact hn i (fun ha => hf ((assigned_snoc b fi se x i).1 ha).2.2)
    · intro i hi
      refine hn i (fun ha => ?_)
      have h1 := (follows b fi se x h i).1 ((assigned_snoc b fi se x i).1 ha).2.1
      have := List.mem_range.1 hi
      omega

theorem flatMap_len {α β : Type} (l : List α) (f : α → List β) (c : Nat) (h : ∀ a ∈ l, (f a).length ≤ c) : (l.flatMap f).length ≤ l.length * c := by
  induction l with
  | nil => simp
  | cons a l ih =>
    have h1 := h a (by simp)
    have h2 := ih (fun b hb => h b (by simp [hb]))
    simp only [List.flatMap_cons, List.length_append, List.length_cons, Nat.add_mul]
    omega

theorem choose_len (b : Belt) (fi se : List Int) : ∀ (k : Nat) (x : List Nat), (choose b fi se k x).length ≤ fi.length ^ k := by
  intro k
  induction k with
  | zero => intro x; simp [choose]
  | succ k ih =>
    intro x
    simp only [choose]
    refine Nat.le_trans (flatMap_len _ _ (fi.length ^ k) fun i _ => ?_) ?_
    · split
      · exact ih _
      · simp
    · rw [Nat.pow_succ, List.length_range', Nat.mul_comm (fi.length ^ k)]
      exact Nat.mul_le_mul_right _ (Nat.sub_le _ _)
theorem extended_len (b : Belt) (fi se : List Int) : ∀ (k : Nat) (x : List Nat), (extended b fi se k x).length ≤ fi.length ^ k := by
  intro k
  induction k with
  | zero => intro x; simp only [extended]; split <;> simp
  | succ k ih =>
    intro x
    simp only [extended]
    split
    · refine Nat.le_trans (flatMap_len _ _ (fi.length ^ k) fun i _ => ih _) ?_
      rw [Nat.pow_succ, List.length_range, Nat.mul_comm (fi.length ^ k)]
      exact Nat.le_refl _
    · simp
theorem pow_bd {n k : Nat} (hn : n ≤ 10) (hk : k ≤ 10) : n ^ k ≤ 10000000000 :=
  Nat.le_trans (Nat.pow_le_pow_left hn k) (Nat.pow_le_pow_right (by omega) hk)

/-- what 'Match' returns: a list of assignments, and a number of an error -/
def matched (b : Belt) (fi se : List Int) : List (List Nat) × Int :=
  if b.ok then
    if fi.length ≤ 10 ∧ se.length ≤ 10 then
      if Incr fi ∧ Incr se then if choose b fi se se.length [] = [] then ([], 6) else (choose b fi se se.length [], 0) else ([], 2)
    else ([], 4)
  else ([], 90)
end Go.Proofs.Ytcbimfaneinpkaa
