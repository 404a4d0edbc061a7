/- One count of parts as they truly are: plain laws; and how things lie in memory. -/
import Derived.Test.YtcbimfaneinpkaaCatchLaws
import Derived.Test.YtcbimfaneinpkaaAtG
import Derived.Test.YtcbimfaneinpkaaFates
import Derived.Test.YtcbimfaneinpkaaLawB
import Derived.Test.YtcbimfaneinpkaaSplit
set_option linter.unusedVariables false
set_option linter.unusedSimpArgs false
namespace Go.Proofs.Ytcbimfaneinpkaa
open Go.RowKit Go.Sort

theorem gone_cases {t : Track} (hok : t.ok) : (fates1 t = [] ∧ leftR t (t.count + 1) = t.parts.map (hitAt t (t.count + 1))) ∨
    ∃ p l, t.parts = p :: l ∧ p.at_ + final t.belt = t.count + 1 ∧ fates1 t = [fateOf (hitAt t (t.count + 1) p)] ∧ leftR t (t.count + 1) = l.map (hitAt t (t.count + 1)) := by
  obtain ⟨hI, hR⟩ := parts_iff.1 hok.2.2
  cases hp : t.parts with
  | nil => left; unfold fates1 goneR leftR; rw [hp]; exact ⟨rfl, rfl⟩
  | cons p l =>
    rw [hp] at hR hI
    unfold Rising at hR
    rw [List.pairwise_cons] at hR
    have hpi := hI p (by simp)
    have hno : ∀ y ∈ l, leaves t (t.count + 1) (hitAt t (t.count + 1) y) = false := by
      intro y hy
      have h1 := (hR.1 y hy).2
      have h2 := hpi.2.2.2.2.1
      show decide (y.at_ + final t.belt = t.count + 1) = false
      exact decide_eq_false (by omega)
    have h1 : (l.map (hitAt t (t.count + 1))).filter (leaves t (t.count + 1)) = [] := by
      rw [List.filter_eq_nil_iff]
      intro y hy
      obtain ⟨z, hz, rfl⟩ := List.mem_map.1 hy
      rw [hno z hz]; simp
    have h2 : (l.map (hitAt t (t.count + 1))).filter (fun x => !leaves t (t.count + 1) x) = l.map (hitAt t (t.count + 1)) := by
      rw [List.filter_eq_self]
      intro y hy
      obtain ⟨z, hz, rfl⟩ := List.mem_map.1 hy
      rw [hno z hz]; rfl
    by_cases hl : p.at_ + final t.belt = t.count + 1
    · right
      have e : leaves t (t.count + 1) (hitAt t (t.count + 1) p) = true := decide_eq_true hl
      refine ⟨p, l, rfl, hl, ?_, ?_⟩
      · unfold fates1 goneR
        rw [hp, List.map_cons, List.filter_cons, e, h1]
        rfl
      · unfold leftR
        rw [hp, List.map_cons, List.filter_cons, e, h2]
        rfl
    · left
      have e : leaves t (t.count + 1) (hitAt t (t.count + 1) p) = false := decide_eq_false hl
      refine ⟨?_, ?_⟩
      · unfold fates1 goneR
        rw [hp, List.map_cons, List.filter_cons, e, h1]
        rfl
      · unfold leftR
        rw [hp, List.map_cons, List.filter_cons, e, h2]
        rfl
/-- whether a thing is the one that leaves -/
def goes (fs : List Fate) (x : Thing) : Bool := match fs with
  | [] => false
  | f :: _ => decide (f.id = x.id)
/-- what a count says of one thing -/
def RoundOk (b : Belt) (by_ : Int) (op : Bool) (fs : List Fate) (x : Thing) : Prop :=
  (atGate b by_ x = true → x.verdict ≠ 1 → op = true) ∧ (∀ f, fs = [f] → f.id = x.id → f.verdict = x.verdict ∧ b.gate < x.front + by_ - x.length ∧ ((moveT b by_ op x).hit = true → f.hit = true) ∧ (x.verdict ≠ 1 → f.hit = true))
theorem count_round {b : Belt} {t : Track} {xs : List Thing} (h : Follows b t xs) {by_ : Int} (h1 : least b ≤ by_) (h2 : by_ ≤ most b) (hc : t.count + 1 ≤ 1099511627776) :
    (fates1 t = [] ∨ ∃ f, fates1 t = [f]) ∧ (∀ x ∈ xs, RoundOk b by_ (openAt t (t.count + 1)) (fates1 t) x) ∧
    Follows b (pass1 t) ((xs.filter fun x => !goes (fates1 t) x).map (moveT b by_ (openAt t (t.count + 1)))) ∧ (xs.filter fun x => !goes (fates1 t) x).length + (fates1 t).length = xs.length := by
  have hb : b.ok := h.2.1 ▸ h.1.1
  have hgate : ∀ x ∈ xs, atGate b by_ x = true → x.verdict ≠ 1 → openAt t (t.count + 1) = true := by
    intro x hx hg hv
    obtain ⟨i, hi, rfl⟩ := List.getElem_of_mem hx
    have hf := h.2.2.2 i hi
    rw [getT hi] at hf
    have hin := h.in hi
    refine open_for hin.1 ?_ (at_here hb h.2.1 hf hin.2 h1 h2 hg)
    rw [← hf.2.1]; exact hv
  rcases gone_cases h.1 with ⟨e1, e2⟩ | ⟨p, l, ep, el, e1, e2⟩
  · rw [e1]
    have ef : (xs.filter fun x => !goes [] x) = xs := by rw [List.filter_eq_self]; intro x _; rfl
    rw [ef]
    exact ⟨.inl rfl, fun x hx => ⟨hgate x hx, fun f hf => by cases hf⟩, follows_stay h h1 h2 hc e2, rfl⟩
  · cases xs with
    | nil => have := h.2.2.1; rw [ep] at this; simp at this
    | cons x xs =>
      have hlen : xs.length = l.length := by have := h.2.2.1; rw [ep] at this; simpa using this
      have hf0 := h.2.2.2 0 (by simp)
      have e3 : t.parts.getD 0 seen0 = p := by rw [ep]; rfl
      have e4 : (x :: xs).getD 0 thing0 = x := rfl
      rw [e3, e4] at hf0
      have hR := (parts_iff.1 h.1.2.2).2
      rw [ep] at hR
      unfold Rising at hR
      rw [List.pairwise_cons] at hR
      have hne : ∀ y ∈ xs, p.id ≠ y.id := by
        intro y hy
        obtain ⟨i, hi, rfl⟩ := List.getElem_of_mem hy
        have hf := h.2.2.2 (i + 1) (by simp; omega)
        have e5 : t.parts.getD (i + 1) seen0 = l.getD i seen0 := by rw [ep]; rfl
        have e6 : (x :: xs).getD (i + 1) thing0 = xs.getD i thing0 := rfl
        rw [e5, e6, getT hi, getD_get (by omega)] at hf
        have := (hR.1 l[i] (List.getElem_mem (by omega))).1
        rw [hf.1]; omega
      rw [e1]
      have g0 : goes [fateOf (hitAt t (t.count + 1) p)] x = true := decide_eq_true (show p.id = x.id from hf0.1.symm)
      have ef : ((x :: xs).filter fun x => !goes [fateOf (hitAt t (t.count + 1) p)] x) = xs := by
        rw [List.filter_cons, g0]
        simp only [Bool.not_true, Bool.false_eq_true, if_false]
        rw [List.filter_eq_self]
        intro y hy
        have : goes [fateOf (hitAt t (t.count + 1) p)] y = false := decide_eq_false (hne y hy)
        rw [this]; rfl
      rw [ef]
      refine ⟨.inr ⟨_, rfl⟩, fun y hy => ⟨hgate y hy, fun f hf hid => ?_⟩, follows_leave h h1 h2 hc ep e2, by simp⟩
      injection hf with hf
      subst hf
      have hyx : y = x := by
        rcases List.mem_cons.1 hy with h9 | h9
        · exact h9
        · exact absurd hid (hne y h9)
      subst hyx
      have hm : p ∈ t.parts := by rw [ep]; simp
      have hl := leave_ok hb h.2.1 hm hf0 h1 (by rw [← h.2.1]; exact el)
      have hmv := move_fits hb h.2.1 hf0 ((parts_iff.1 h.1.2.2).1 p hm) h1 h2
      exact ⟨hf0.2.1.symm, hl.1, hmv.2.2.1, fun hv => hl.2 (by rw [← hf0.2.1]; exact hv)⟩

/-! ### Things in memory -/
def thingCells (x : Thing) : List Value := [.int .i64 x.id, .int .i64 x.front, .int .i64 x.length, .int .u8 x.verdict, .bool x.hit]
def thingsL (l : List Thing) : List Value := l.flatMap thingCells
theorem thingsL_length (l : List Thing) : (thingsL l).length = l.length * 5 := by
  induction l with
  | nil => rfl
  | cons x l ih => simp only [thingsL, List.flatMap_cons, List.length_append, List.length_cons] at ih ⊢; simp [thingCells, ih]; omega
theorem thingsL_append (l m : List Thing) : thingsL (l ++ m) = thingsL l ++ thingsL m := List.flatMap_append
theorem things_get (l : List Thing) : ∀ (i f : Nat), i < l.length → f < 5 → (thingsL l)[i * 5 + f]? = (thingCells (l.getD i thing0))[f]? := by
  induction l with
  | nil => intro i f h; simp at h
  | cons x l ih =>
    intro i f hi hf
    rw [thingsL, List.flatMap_cons]
    match i with
    | 0 =>
      rw [List.getElem?_append_left (by simp [thingCells]; omega)]
      simp
    | i + 1 =>
      rw [List.getElem?_append_right (by simp [thingCells]; omega)]
      have := ih i f (by simpa using hi) hf
      simp only [thingsL] at this
      simpa [thingCells, show (i + 1) * 5 + f - 5 = i * 5 + f by omega] using this
theorem things_one (l : List Thing) : ∀ u ∈ thingsL l, u.oneCell' = true := by
  intro u hu
  simp only [thingsL, List.mem_flatMap, thingCells, List.mem_cons, List.not_mem_nil, or_false] at hu
  obtain ⟨x, -, h⟩ := hu
  rcases h with rfl | rfl | rfl | rfl | rfl <;> rfl
def ThingsAt (w : World) (v : Value) (l : List Thing) : Prop := SlAt w 5 v l.length (thingsL l)
theorem ThingsAt.ext {w w' : World} {v : Value} {l : List Thing} (h : ThingsAt w v l) (hb : Ext w w') : ThingsAt w' v l := SlAt.ext h hb
theorem ThingsAt.form {w : World} {v : Value} {l : List Thing} (h : ThingsAt w v l) : ∃ ao cap, v = .slice ao l.length cap ∧ l.length ≤ cap ∧
    ∀ i, i < l.length → ∃ b off, ao = some ⟨b, off, none⟩ ∧ w.cell? ⟨b, off + i * 5, none⟩ = some (.int .i64 (l.getD i thing0).id) ∧ w.cell? ⟨b, off + i * 5 + 1, none⟩ = some (.int .i64 (l.getD i thing0).front) ∧
      w.cell? ⟨b, off + i * 5 + 2, none⟩ = some (.int .i64 (l.getD i thing0).length) ∧ w.cell? ⟨b, off + i * 5 + 3, none⟩ = some (.int .u8 (l.getD i thing0).verdict) ∧ w.cell? ⟨b, off + i * 5 + 4, none⟩ = some (.bool (l.getD i thing0).hit) := by
  rcases SlAt.cases (by omega) h with ⟨h0, _, ao, cap, h1, h2, h3⟩ | ⟨h0, b, off, cap, h1, h2, h3, h4⟩
  · exact ⟨ao, cap, by rw [h1, h0], by omega, fun i hi => by omega⟩
  · refine ⟨some ⟨b, off, none⟩, cap, h1, h2, fun i hi => ⟨b, off, rfl, ?_, ?_, ?_, ?_, ?_⟩⟩
    · exact h4 (i * 5 + 0) _ (by rw [things_get l i 0 hi (by omega)]; rfl)
    · exact h4 (i * 5 + 1) _ (by rw [things_get l i 1 hi (by omega)]; rfl)
    · exact h4 (i * 5 + 2) _ (by rw [things_get l i 2 hi (by omega)]; rfl)
    · exact h4 (i * 5 + 3) _ (by rw [things_get l i 3 hi (by omega)]; rfl)
    · exact h4 (i * 5 + 4) _ (by rw [things_get l i 4 hi (by omega)]; rfl)
theorem things_own {w : World} {b n : Nat} {v : Value} {l : List Thing} (h : w.ownsRow b 131 5 v n (thingsL l)) (hn : n = l.length) : ThingsAt w v l := by
  subst hn
  exact SlAt.of_owns h
theorem info131 : (Try.prog.info? 131).map (fun i => (i.zero, i.size, i.bytes)) = some (some (.agg #[.int .i64 0, .int .i64 0, .int .i64 0, .int .u8 0, .bool false]), 5, 32) := by kernel_rfl
theorem takeT_get {l : List Thing} {k : Nat} (hk : k < l.length) : l.take (k + 1) = l.take k ++ [l.getD k thing0] := by
  rw [List.take_add_one, List.getElem?_eq_getElem hk, getT hk]; rfl
theorem run_11 {w : World} {b : Nat} {c0 c1 c2 c3 c4 c5 c6 c7 c8 c9 c10 : Value} {e : TypeId} (h : w.heap[b]? = some (.cells #[c0, c1, c2, c3, c4, c5, c6, c7, c8, c9, c10] e)) :
    (w.cell? ⟨b, 0, none⟩ = some c0 ∧ w.cell? ⟨b, 1, none⟩ = some c1 ∧ w.cell? ⟨b, 2, none⟩ = some c2 ∧ w.cell? ⟨b, 3, none⟩ = some c3 ∧ w.cell? ⟨b, 4, none⟩ = some c4 ∧ w.cell? ⟨b, 5, none⟩ = some c5 ∧ w.cell? ⟨b, 6, none⟩ = some c6 ∧ w.cell? ⟨b, 7, none⟩ = some c7 ∧ w.cell? ⟨b, 8, none⟩ = some c8 ∧ w.cell? ⟨b, 9, none⟩ = some c9 ∧ w.cell? ⟨b, 10, none⟩ = some c10) ∧
      w.frozen? ⟨b, 0, none⟩ = false ∧ w.frozen? ⟨b, 1, none⟩ = false ∧ w.frozen? ⟨b, 2, none⟩ = false ∧ w.frozen? ⟨b, 3, none⟩ = false ∧ w.frozen? ⟨b, 4, none⟩ = false ∧ w.frozen? ⟨b, 5, none⟩ = false ∧ w.frozen? ⟨b, 6, none⟩ = false ∧ w.frozen? ⟨b, 7, none⟩ = false ∧ w.frozen? ⟨b, 8, none⟩ = false ∧ w.frozen? ⟨b, 9, none⟩ = false ∧ w.frozen? ⟨b, 10, none⟩ = false := by
  simp [World.cell?, World.frozen?, h]
theorem run_5 {w : World} {b : Nat} {c0 c1 c2 c3 c4 : Value} {e : TypeId} (h : w.heap[b]? = some (.cells #[c0, c1, c2, c3, c4] e)) :
    (w.cell? ⟨b, 0, none⟩ = some c0 ∧ w.cell? ⟨b, 1, none⟩ = some c1 ∧ w.cell? ⟨b, 2, none⟩ = some c2 ∧ w.cell? ⟨b, 3, none⟩ = some c3 ∧ w.cell? ⟨b, 4, none⟩ = some c4) ∧
      w.frozen? ⟨b, 0, none⟩ = false ∧ w.frozen? ⟨b, 1, none⟩ = false ∧ w.frozen? ⟨b, 2, none⟩ = false ∧ w.frozen? ⟨b, 3, none⟩ = false ∧ w.frozen? ⟨b, 4, none⟩ = false := by
  simp [World.cell?, World.frozen?, h]
end Go.Proofs.Ytcbimfaneinpkaa
