/- Parts as they truly are, and a track that follows them: plain laws. No program in sight. -/
import Derived.Test.YtcbimfaneinpkaaHitLaws
set_option linter.unusedVariables false
set_option linter.unusedSimpArgs false
namespace Go.Proofs.Ytcbimfaneinpkaa

structure Thing where
  id : Int
  front : Int
  length : Int
  verdict : Int
  hit : Bool
instance : Inhabited Thing := ⟨⟨0, 0, 0, 0, false⟩⟩
abbrev thing0 : Thing := ⟨0, 0, 0, 0, false⟩
/-- a part's place, by the counts since it passed the sensor -/
def Fits (b : Belt) (c : Int) (x : Thing) (p : Seen) : Prop :=
  x.id = p.id ∧ x.verdict = p.verdict ∧ (x.hit = true → p.hit = true) ∧ 0 ≤ x.length ∧ x.length ≤ b.length ∧ (c - p.at_) * least b ≤ x.front ∧ x.front ≤ (c - p.at_) * most b
/-- whether a part is at the gate's place during a count -/
def atGate (b : Belt) (by_ : Int) (x : Thing) : Bool := decide (b.gate ≤ x.front + by_) && decide (x.front - x.length ≤ b.gate)
def moveT (b : Belt) (by_ : Int) (op : Bool) (x : Thing) : Thing := ⟨x.id, x.front + by_, x.length, x.verdict, x.hit || (atGate b by_ x && op)⟩
theorem mul_div_lt {a d : Int} (hd : 1 ≤ d) : a < (a / d + 1) * d := by
  have := Int.lt_ediv_add_one_mul_self a (show 0 < d by omega)
  exact this
theorem at_here {b : Belt} (hb : b.ok) {t : Track} (ht : t.belt = b) {x : Thing} {p : Seen} (h : Fits b t.count x p) (hp : partIn t p) {by_ : Int} (h1 : least b ≤ by_) (h2 : by_ ≤ most b) (hg : atGate b by_ x = true) :
    here t (t.count + 1) p = true := by
  obtain ⟨-, -, -, l1, l2, f1, f2⟩ := h
  obtain ⟨a1, a2, a3, a4, a5, a6, a7, a8⟩ := hb
  have hl : 1 ≤ least b := by unfold least; omega
  have hm : 1 ≤ most b := by unfold most; omega
  unfold atGate at hg
  simp only [Bool.and_eq_true, decide_eq_true_eq] at hg
  obtain ⟨g1, g2⟩ := hg
  unfold here
  simp only [Bool.and_eq_true, decide_eq_true_eq]
  rw [ht]
  constructor
  · -- the gate's place is not beyond the farthest front
    have : b.gate ≤ (t.count + 1 - p.at_) * most b := by
      have : (t.count + 1 - p.at_) * most b = (t.count - p.at_) * most b + most b := by rw [show t.count + 1 - p.at_ = (t.count - p.at_) + 1 by omega, Int.add_mul, Int.one_mul]
      omega
    have h3 : (b.gate - 1) / most b < t.count + 1 - p.at_ := (Int.ediv_lt_iff_lt_mul (by omega)).2 (by omega)
    unfold first winFrom
    omega
  · have h3 : (t.count - p.at_) ≤ (b.gate + b.length) / least b := (Int.le_ediv_iff_mul_le (by omega)).2 (by omega)
    unfold final winTo
    omega
theorem move_fits {b : Belt} (hb : b.ok) {t : Track} (ht : t.belt = b) {x : Thing} {p : Seen} (h : Fits b t.count x p) (hp : partIn t p) {by_ : Int} (h1 : least b ≤ by_) (h2 : by_ ≤ most b) :
    Fits b (t.count + 1) (moveT b by_ (openAt t (t.count + 1)) x) (hitAt t (t.count + 1) p) := by
  have hh := at_here hb ht h hp h1 h2
  obtain ⟨i1, i2, i3, l1, l2, f1, f2⟩ := h
  have e : ∀ m : Int, (t.count + 1 - p.at_) * m = (t.count - p.at_) * m + m := fun m => by rw [show t.count + 1 - p.at_ = (t.count - p.at_) + 1 by omega, Int.add_mul, Int.one_mul]
  refine ⟨i1, i2, fun h9 => ?_, l1, l2, ?_, ?_⟩
  · have h8 : (x.hit || (atGate b by_ x && openAt t (t.count + 1))) = true := h9
    simp only [Bool.or_eq_true, Bool.and_eq_true] at h8
    show (p.hit || (openAt t (t.count + 1) && here t (t.count + 1) p)) = true
    simp only [Bool.or_eq_true, Bool.and_eq_true]
    rcases h8 with h8 | ⟨h8, h7⟩
    · exact .inl (i3 h8)
    · exact .inr ⟨h7, hh h8⟩
  · show (t.count + 1 - p.at_) * least b ≤ x.front + by_
    rw [e]; omega
  · show x.front + by_ ≤ (t.count + 1 - p.at_) * most b
    rw [e]; omega
/-- a part without 'Pass' meets an open gate -/
theorem open_for {t : Track} {p : Seen} (hm : p ∈ t.parts) (hv : p.verdict ≠ 1) {n : Int} (hh : here t n p = true) : openAt t n = true := by
  unfold here at hh
  simp only [Bool.and_eq_true, decide_eq_true_eq] at hh
  exact openAt_iff.2 ⟨p, hm, hv, hh.1, hh.2⟩
/-- one that leaves is behind the gate, and was hit if it had not passed -/
theorem leave_ok {b : Belt} (hb : b.ok) {t : Track} (ht : t.belt = b) {x : Thing} {p : Seen} (hm : p ∈ t.parts) (h : Fits b t.count x p) {by_ : Int} (h1 : least b ≤ by_) (hl : p.at_ + final b = t.count + 1) :
    b.gate < x.front + by_ - x.length ∧ (p.verdict ≠ 1 → (hitAt t (t.count + 1) p).hit = true) := by
  have f0 := first_final hb
  obtain ⟨i1, i2, i3, l1, l2, f1, f2⟩ := h
  obtain ⟨a1, a2, a3, a4, a5, a6, a7, a8⟩ := hb
  constructor
  · have e : (t.count + 1 - p.at_) * least b = (t.count - p.at_) * least b + least b := by rw [show t.count + 1 - p.at_ = (t.count - p.at_) + 1 by omega, Int.add_mul, Int.one_mul]
    have hd := mul_div_lt (a := b.gate + b.length) (d := least b) (by unfold least; omega)
    have e2 : t.count + 1 - p.at_ = (b.gate + b.length) / least b + 1 := by unfold final winTo at hl; omega
    rw [← e2] at hd
    omega
  · intro hv
    have hh : here t (t.count + 1) p = true := by
      unfold here
      simp only [Bool.and_eq_true, decide_eq_true_eq]
      rw [ht]
      omega
    show (p.hit || (openAt t (t.count + 1) && here t (t.count + 1) p)) = true
    rw [open_for hm hv hh, hh]
    simp
/-- the things of a track -/
def Follows (b : Belt) (t : Track) (xs : List Thing) : Prop := t.ok ∧ t.belt = b ∧ xs.length = t.parts.length ∧ ∀ i, i < xs.length → Fits b t.count (xs.getD i thing0) (t.parts.getD i seen0)
theorem getT {l : List Thing} {i : Nat} (h : i < l.length) : l.getD i thing0 = l[i] := by
  rw [List.getD_eq_getElem?_getD, List.getElem?_eq_getElem h]; rfl
theorem Follows.in {b : Belt} {t : Track} {xs : List Thing} (h : Follows b t xs) {i : Nat} (hi : i < xs.length) : t.parts.getD i seen0 ∈ t.parts ∧ partIn t (t.parts.getD i seen0) := by
  have hi' : i < t.parts.length := by have := h.2.2.1; omega
  have hm : t.parts.getD i seen0 ∈ t.parts := by rw [getD_get hi']; exact List.getElem_mem hi'
  exact ⟨hm, (parts_iff.1 h.1.2.2).1 _ hm⟩
/-- after a count: none has left -/
theorem follows_stay {b : Belt} {t : Track} {xs : List Thing} (h : Follows b t xs) {by_ : Int} (h1 : least b ≤ by_) (h2 : by_ ≤ most b) (hc : t.count + 1 ≤ 1099511627776)
    (hl : leftR t (t.count + 1) = t.parts.map (hitAt t (t.count + 1))) : Follows b (pass1 t) (xs.map (moveT b by_ (openAt t (t.count + 1)))) := by
  have hb : b.ok := h.2.1 ▸ h.1.1
  refine ⟨pass1_ok h.1 hc, h.2.1, ?_, fun i hi => ?_⟩
  · show (xs.map _).length = (leftR t (t.count + 1)).length
    rw [hl]; simp [h.2.2.1]
  · have hi' : i < xs.length := by simpa using hi
    have e1 : (xs.map (moveT b by_ (openAt t (t.count + 1)))).getD i thing0 = moveT b by_ (openAt t (t.count + 1)) (xs.getD i thing0) := by
      rw [getT hi, List.getElem_map, getT hi']
    have e2 : (pass1 t).parts.getD i seen0 = hitAt t (t.count + 1) (t.parts.getD i seen0) := by
      show (leftR t (t.count + 1)).getD i seen0 = _
      have hp : i < t.parts.length := by have := h.2.2.1; omega
      rw [hl, getD_get (by simpa using hp), List.getElem_map, getD_get hp]
    rw [e1, e2]
    exact move_fits hb h.2.1 (h.2.2.2 i hi') (h.in hi').2 h1 h2
/-- after a count: the first one has left -/
theorem follows_leave {b : Belt} {t : Track} {x : Thing} {xs : List Thing} (h : Follows b t (x :: xs)) {by_ : Int} (h1 : least b ≤ by_) (h2 : by_ ≤ most b) (hc : t.count + 1 ≤ 1099511627776) {p : Seen} {l : List Seen} (hp : t.parts = p :: l)
    (hl : leftR t (t.count + 1) = l.map (hitAt t (t.count + 1))) : Follows b (pass1 t) (xs.map (moveT b by_ (openAt t (t.count + 1)))) := by
  have hb : b.ok := h.2.1 ▸ h.1.1
  have hlen : xs.length = l.length := by have := h.2.2.1; rw [hp] at this; simpa using this
  refine ⟨pass1_ok h.1 hc, h.2.1, ?_, fun i hi => ?_⟩
  · show (xs.map _).length = (leftR t (t.count + 1)).length
    rw [hl]; simp [hlen]
  · have hi' : i < xs.length := by simpa using hi
    have e1 : (xs.map (moveT b by_ (openAt t (t.count + 1)))).getD i thing0 = moveT b by_ (openAt t (t.count + 1)) (xs.getD i thing0) := by
      rw [getT hi, List.getElem_map, getT hi']
    have e2 : (pass1 t).parts.getD i seen0 = hitAt t (t.count + 1) (l.getD i seen0) := by
      show (leftR t (t.count + 1)).getD i seen0 = _
      have hp2 : i < l.length := by omega
      rw [hl, getD_get (by simpa using hp2), List.getElem_map, getD_get hp2]
    have hin := h.in (i := i + 1) (by simp; omega)
    have hfit := h.2.2.2 (i + 1) (by simp; omega)
    have e3 : t.parts.getD (i + 1) seen0 = l.getD i seen0 := by rw [hp]; rfl
    have e4 : (x :: xs).getD (i + 1) thing0 = xs.getD i thing0 := rfl
    rw [e3] at hin hfit
    rw [e4] at hfit
    rw [e1, e2]
    exact move_fits hb h.2.1 hfit hin.2 h1 h2
/-- a part passes the sensor -/
def sensed (t : Track) : Track := ⟨t.belt, t.count, t.next + 1, t.parts ++ [⟨t.next, t.count, 0, false⟩]⟩
theorem sensed_ok {t : Track} (h : t.ok) (h1 : ¬ (0 < t.parts.length ∧ (t.parts.getD (t.parts.length - 1) seen0).at_ = t.count)) (h2 : ¬ (t.parts.length = 32 ∨ t.next = 1099511627776)) : (sensed t).ok := by
  obtain ⟨hb, ⟨s1, s2, s3, s4, s5⟩, h3⟩ := h
  have hf := (to_bd hb hb.2.2.2.2.1 hb.2.2.2.2.2.1).1
  refine ⟨hb, ⟨s1, s2, by show 0 ≤ t.next + 1; omega, by show t.next + 1 ≤ 1099511627776; omega, by show (t.parts ++ [_]).length ≤ 32; simp; omega⟩, fun i hi => ?_⟩
  have hi' : i < t.parts.length + 1 := by simpa [sensed] using hi
  have hlo : ∀ k, k ≤ t.parts.length → lastOf (sensed t).parts k = lastOf t.parts k := by
    intro k hk
    cases k with
    | zero => rfl
    | succ k =>
      rw [lastOf_succ, lastOf_succ]
      show (t.parts ++ [_]).getD k seen0 = _
      simp [List.getD_eq_getElem?_getD, List.getElem?_append_left hk]
  rw [hlo i (by omega)]
  rcases Nat.lt_or_ge i t.parts.length with h4 | h4
  · have e : (sensed t).parts.getD i seen0 = t.parts.getD i seen0 := by
      show (t.parts ++ [_]).getD i seen0 = _
      simp [List.getD_eq_getElem?_getD, List.getElem?_append_left h4]
    rw [e]
    obtain ⟨a1, a2, a3, a4, a5, a6, a7⟩ := h3 i h4
    exact ⟨a1, by show _ < t.next + 1; omega, a3, a4, a5, a6, a7⟩
  · obtain rfl : i = t.parts.length := by omega
    have e : (sensed t).parts.getD t.parts.length seen0 = ⟨t.next, t.count, 0, false⟩ := by
      show (t.parts ++ [_]).getD _ seen0 = _
      simp [List.getD_eq_getElem?_getD]
    rw [e]
    have hlast : (lastOf t.parts t.parts.length).id < t.next ∧ (lastOf t.parts t.parts.length).at_ < t.count := by
      rcases Nat.eq_zero_or_pos t.parts.length with h5 | h5
      · rw [h5, lastOf_zero]; exact ⟨by show (-1 : Int) < _; omega, by show (-1 : Int) < _; omega⟩
      · obtain ⟨k, hk⟩ : ∃ k, t.parts.length = k + 1 := ⟨t.parts.length - 1, by omega⟩
        rw [hk, lastOf_succ]
        have := h3 k (by omega)
        rw [hk] at h1
        simp only [Nat.add_sub_cancel] at h1
        obtain ⟨a1, a2, a3, a4, -⟩ := this
        exact ⟨a2, by have : (t.parts.getD k seen0).at_ ≠ t.count := fun h9 => h1 ⟨by omega, h9⟩; omega⟩
    exact ⟨hlast.1, by show t.next < t.next + 1; omega, hlast.2, Int.le_refl _, by show t.count < t.count + final t.belt; unfold final; omega, by show (0 : Int) ≤ 3; omega, fun h9 => by cases h9⟩
theorem follows_sense {b : Belt} {t : Track} {xs : List Thing} (h : Follows b t xs) (hs : (sensed t).ok) {n : Int} (h1 : 0 ≤ n) (h2 : n ≤ b.length) : Follows b (sensed t) (xs ++ [⟨t.next, 0, n, 0, false⟩]) := by
  refine ⟨hs, h.2.1, by simp [sensed, h.2.2.1], fun i hi => ?_⟩
  have hl := h.2.2.1
  rcases Nat.lt_or_ge i xs.length with h4 | h4
  · have e1 : (sensed t).parts.getD i seen0 = t.parts.getD i seen0 := by
      show (t.parts ++ [_]).getD i seen0 = _
      simp [List.getD_eq_getElem?_getD, List.getElem?_append_left (show i < t.parts.length by omega)]
    have e2 : (xs ++ [(⟨t.next, 0, n, 0, false⟩ : Thing)]).getD i thing0 = xs.getD i thing0 := by simp [List.getD_eq_getElem?_getD, List.getElem?_append_left h4]
    rw [e1, e2]
    exact h.2.2.2 i h4
  · have hi' : i < xs.length + 1 := by simpa using hi
    obtain rfl : i = xs.length := by omega
    have e1 : (sensed t).parts.getD xs.length seen0 = ⟨t.next, t.count, 0, false⟩ := by
      show (t.parts ++ [_]).getD _ seen0 = _
      rw [hl]
      simp [List.getD_eq_getElem?_getD]
    have e2 : (xs ++ [(⟨t.next, 0, n, 0, false⟩ : Thing)]).getD xs.length thing0 = ⟨t.next, 0, n, 0, false⟩ := by simp [List.getD_eq_getElem?_getD]
    rw [e1, e2]
    refine ⟨rfl, rfl, fun h9 => (by cases h9), h1, h2, ?_, ?_⟩
    · show (t.count - t.count) * _ ≤ (0 : Int); simp
    · show (0 : Int) ≤ (t.count - t.count) * _; simp
def tellT (x : Thing) (v : Int) : Thing := ⟨x.id, x.front, x.length, v, x.hit⟩
theorem setT_get {l : List Thing} {i j : Nat} {x : Thing} (hi : i < l.length) : (l.set i x).getD j thing0 = if j = i then x else l.getD j thing0 := by
  rw [List.getD_eq_getElem?_getD, List.getElem?_set]
  by_cases h : i = j
  · subst h; simp [hi]
  · rw [if_neg h, if_neg (fun e => h e.symm)]; rfl
theorem follows_tell {b : Belt} {t : Track} {xs : List Thing} (h : Follows b t xs) {i : Nat} (hi : i < xs.length) {v : Int} (hv : v ≤ 3) : Follows b (told t i v) (xs.set i (tellT (xs.getD i thing0) v)) := by
  have hl := h.2.2.1
  refine ⟨told_ok h.1 (by omega) hv, h.2.1, by simp [told, hl], fun k hk => ?_⟩
  have hk' : k < xs.length := by simpa using hk
  have e1 : (told t i v).parts.getD k seen0 = if k = i then ⟨(t.parts.getD i seen0).id, (t.parts.getD i seen0).at_, v, (t.parts.getD i seen0).hit⟩ else t.parts.getD k seen0 := set_get (by omega)
  rw [e1, setT_get hi]
  by_cases hki : k = i
  · subst hki
    rw [if_pos rfl, if_pos rfl]
    obtain ⟨i1, i2, i3, l1, l2, f1, f2⟩ := h.2.2.2 k hk'
    exact ⟨i1, rfl, i3, l1, l2, f1, f2⟩
  · rw [if_neg hki, if_neg hki]
    exact h.2.2.2 k hk'
end Go.Proofs.Ytcbimfaneinpkaa
