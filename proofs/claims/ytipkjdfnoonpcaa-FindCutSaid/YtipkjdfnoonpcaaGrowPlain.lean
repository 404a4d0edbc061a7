/- What Find finds with a greater limit; Find as a function. -/
import Derived.Test.YtipkjdfnoonpcaaHoldFn
set_option linter.unusedVariables false
set_option linter.unusedSimpArgs false
namespace Go.Proofs.Ytipkjdfnoonpcaa
open Go.RowKit Go.Sort

theorem canon_grow (m : Img) (t : Tpl) {a b : Int} (h : a ≤ b) (T S : Int) : canon m t a T S = (canon m t b T S).filter fun x => decide (x.dist ≤ a) := by
  unfold canon canonP
  rw [List.filter_map (f := mkOf m t T S), List.filter_filter]
  congr 1
  refine List.filter_congr fun p _ => ?_
  show decide (bound m t (onePose T S p).area ≤ a) = (decide (bound m t (onePose T S p).area ≤ a) && decide (bound m t (onePose T S p).area ≤ b))
  by_cases h1 : bound m t (onePose T S p).area ≤ a
  · rw [decide_eq_true h1, decide_eq_true (show bound m t (onePose T S p).area ≤ b by omega)]; rfl
  · rw [decide_eq_false h1]; rfl
theorem msOf_grow (m : Img) (t : Tpl) {a b : Int} (h : a ≤ b) (l : List PS) : msOf m t a l = (msOf m t b l).filter fun x => decide (x.dist ≤ a) := by
  induction l with
  | nil => rfl
  | cons x l ih =>
    unfold msOf at ih ⊢
    rw [List.flatMap_cons, List.flatMap_cons, List.filter_append, ← ih, ← canon_grow m t h]
theorem filter_at {α : Type} (q : α → Bool) {L : List α} (d : α) {i : Nat} (hi : i < L.length) :
    L.filter q = (L.take i).filter q ++ ((if q (L.getD i d) = true then [L.getD i d] else []) ++ (L.drop (i + 1)).filter q) := by
  have e : L.drop i = L.getD i d :: L.drop (i + 1) := by
    rw [List.drop_eq_getElem_cons hi, List.getD_eq_getElem?_getD, List.getElem?_eq_getElem hi]; rfl
  conv => lhs; rw [← List.take_append_drop i L, List.filter_append, e, List.filter_cons]
  split <;> simp
theorem filter_yes {α : Type} (q : α → Bool) {L : List α} (d : α) {i : Nat} (hi : i < L.length) (h : q (L.getD i d) = true) :
    (L.take i).countP q < (L.filter q).length ∧ (L.filter q).getD ((L.take i).countP q) d = L.getD i d := by
  rw [filter_at q d hi, if_pos h, List.countP_eq_length_filter]
  constructor
  · simp
  · rw [List.getD_eq_getElem?_getD, List.getElem?_append_right (Nat.le_refl _), Nat.sub_self]
    rfl
theorem filter_get {α : Type} (q : α → Bool) {L : List α} (d : α) {k : Nat} (hk : k < (L.filter q).length) : q ((L.filter q).getD k d) = true := by
  have h := getD_mem_at d hk
  exact (List.mem_filter.1 h).2
theorem foundM_eq (m : Img) (t : Tpl) (limit : Int) : (if findE m t limit = 0 then msOf m t limit (upto 48) else []) = foundM m t limit := rfl
theorem foundA_eq (m : Img) (t : Tpl) (limit : Int) : (if findE m t limit = 0 then arOf m t limit (upto 48) else []) = foundA m t limit := rfl
theorem c36b (m : Img) (v : Value) (t : Tpl) (tv : Value) (limit : Int) (w : World) (hv : IntsAt w v m.pix) (hml : m.pix.length ≤ maxLen) (htv : IntsAt w tv t.pix) (htl : t.pix.length ≤ maxLen) :
    Calls Try.prog 36 #[imgVal m v, tplVal t tv, .int .i64 limit] w fun e w' => ∃ mo mc ao ac, e = .returned (.tuple #[.agg #[.slice mo (foundM m t limit).length mc, .slice ao (foundA m t limit).length ac], .int .i64 (findE m t limit)]) ∧
      MatchesAt w' (.slice mo (foundM m t limit).length mc) (foundM m t limit) ∧ AreasAt w' (.slice ao (foundA m t limit).length ac) (foundA m t limit) ∧ Ext w w' := by
  refine (c36 m v t tv limit w hv hml htv htl).mono ?_
  rintro e w' ⟨mv, av, rfl, h1, h2, hE⟩
  rw [foundM_eq] at h1
  rw [foundA_eq] at h2
  have s1 : MatchesAt w' mv (foundM m t limit) := SlAt.of_owns h1
  have s2 : AreasAt w' av (foundA m t limit) := SlAt.of_owns h2
  obtain ⟨mo, mc, e1, -⟩ := MatchesAt.form s1
  obtain ⟨ao, ac, e2, -⟩ := AreasAt.form s2
  subst e1
  subst e2
  exact ⟨mo, mc, ao, ac, rfl, s1, s2, hE⟩
theorem foundM_grow {m : Img} {t : Tpl} {a b : Int} (h0 : 0 ≤ a) (h : a ≤ b) (hb : b ≤ 16320) : findE m t b = findE m t a ∧ foundM m t a = (foundM m t b).filter fun x => decide (x.dist ≤ a) := by
  have e : findE m t b = findE m t a := by
    unfold findE
    rw [if_pos (show 0 ≤ b ∧ b ≤ 16320 by omega), if_pos (show 0 ≤ a ∧ a ≤ 16320 by omega)]
  refine ⟨e, ?_⟩
  unfold foundM
  rw [e]
  by_cases h1 : findE m t a = 0
  · rw [if_pos h1, if_pos h1, msOf_grow m t h]
  · rw [if_neg h1, if_neg h1]; rfl
end Go.Proofs.Ytipkjdfnoonpcaa
