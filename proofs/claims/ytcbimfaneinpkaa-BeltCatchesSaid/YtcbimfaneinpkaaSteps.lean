/- What tells and counts do to a track: plain functions, and their laws. No program in sight. -/
import Derived.Test.YtcbimfaneinpkaaTrackSpec
set_option linter.unusedVariables false
set_option linter.unusedSimpArgs false
namespace Go.Proofs.Ytcbimfaneinpkaa

/-- what a count makes of a part, and what becomes of a part that has left -/
structure Fate where
  id : Int
  verdict : Int
  hit : Bool
  deriving DecidableEq
def fateOf (x : Seen) : Fate := ⟨x.id, x.verdict, x.hit⟩
def here (t : Track) (n : Int) (x : Seen) : Bool := decide (x.at_ + first t.belt ≤ n) && decide (n ≤ x.at_ + final t.belt)
def openAt (t : Track) (n : Int) : Bool := t.parts.any fun x => decide (x.verdict ≠ 1) && here t n x
def openR (t : Track) : Bool × Int := if t.ok then (openAt t (t.count + 1), 0) else (false, checkTrack t)
def hitAt (t : Track) (n : Int) (x : Seen) : Seen := ⟨x.id, x.at_, x.verdict, x.hit || (openAt t n && here t n x)⟩
def leaves (t : Track) (n : Int) (x : Seen) : Bool := decide (x.at_ + final t.belt = n)
def goneR (t : Track) (n : Int) : List Seen := (t.parts.map (hitAt t n)).filter (leaves t n)
def leftR (t : Track) (n : Int) : List Seen := (t.parts.map (hitAt t n)).filter fun x => !leaves t n x
def pass1 (t : Track) : Track := ⟨t.belt, t.count + 1, t.next, leftR t (t.count + 1)⟩
def fates1 (t : Track) : List Fate := (goneR t (t.count + 1)).map fateOf
def passN : Nat → Track → Track × List Fate
  | 0, t => (t, [])
  | n + 1, t => ((passN n (pass1 t)).1, fates1 t ++ (passN n (pass1 t)).2)
def noTrack' : Track := ⟨⟨0, 0, 0, 0⟩, 0, 0, []⟩
def advanceR (t : Track) (n : Int) : Track × List Fate × Int :=
  if t.ok then if 1 ≤ n ∧ n ≤ 1000 then if t.count + n ≤ 1099511627776 then ((passN n.toNat t).1, (passN n.toNat t).2, 0) else (noTrack', [], 9) else (noTrack', [], 2) else (noTrack', [], checkTrack t)
/-- where a part stands -/
def place (l : List Seen) (id : Int) : Nat := l.findIdx fun x => decide (x.id = id)
def told (t : Track) (i : Nat) (v : Int) : Track := ⟨t.belt, t.count, t.next, t.parts.set i ⟨(t.parts.getD i seen0).id, (t.parts.getD i seen0).at_, v, (t.parts.getD i seen0).hit⟩⟩
def tellR (t : Track) (id v : Int) : Track × Int :=
  if t.ok then
    if 1 ≤ v ∧ v ≤ 3 then
      if place t.parts id < t.parts.length then
        if (t.parts.getD (place t.parts id) seen0).verdict ≠ 0 ∨ (t.parts.getD (place t.parts id) seen0).at_ + first t.belt ≤ t.count then (noTrack', 91)
        else (told t (place t.parts id) v, 0)
      else (noTrack', 6)
    else (noTrack', 2)
  else (noTrack', checkTrack t)

/-! ### A valid track, in core's words -/
theorem getD_get {l : List Seen} {i : Nat} (h : i < l.length) : l.getD i seen0 = l[i] := by
  rw [List.getD_eq_getElem?_getD, List.getElem?_eq_getElem h]; rfl
/-- what each part of a valid track meets by itself -/
def partIn (t : Track) (x : Seen) : Prop := 0 ≤ x.id ∧ x.id < t.next ∧ 0 ≤ x.at_ ∧ x.at_ ≤ t.count ∧ t.count < x.at_ + final t.belt ∧ x.verdict ≤ 3 ∧ (x.hit = true → x.at_ + first t.belt ≤ t.count)
def Rising (l : List Seen) : Prop := l.Pairwise fun x y => x.id < y.id ∧ x.at_ < y.at_
theorem lastOf_lt {t : Track} (h : partsOk t) : ∀ i, i ≤ t.parts.length → -1 ≤ (lastOf t.parts i).id ∧ -1 ≤ (lastOf t.parts i).at_ := by
  intro i
  induction i with
  | zero => intro _; exact ⟨Int.le_refl _, Int.le_refl _⟩
  | succ i ih =>
    intro hi
    have h1 := h i (by omega)
    have h2 := ih (by omega)
    rw [lastOf_succ]
    exact ⟨by have := h1.1; omega, by have := h1.2.2.1; omega⟩
theorem parts_iff {t : Track} : partsOk t ↔ (∀ x ∈ t.parts, partIn t x) ∧ Rising t.parts := by
  constructor
  · intro h
    refine ⟨fun x hx => ?_, ?_⟩
    · obtain ⟨i, hi, rfl⟩ := List.getElem_of_mem hx
      have h1 := h i hi
      have h2 := lastOf_lt h i (by omega)
      rw [getD_get hi] at h1
      obtain ⟨a1, a2, a3, a4, a5, a6, a7⟩ := h1
      exact ⟨by omega, a2, by omega, a4, a5, a6, a7⟩
    · refine List.pairwise_iff_getElem.2 fun i j hi hj hij => ?_
      have key : ∀ d i, i + d + 1 < t.parts.length → (t.parts.getD i seen0).id < (t.parts.getD (i + d + 1) seen0).id ∧ (t.parts.getD i seen0).at_ < (t.parts.getD (i + d + 1) seen0).at_ := by
        intro d
        induction d with
        | zero =>
          intro i hi
          have := h (i + 1) hi
          rw [lastOf_succ] at this
          exact ⟨this.1, this.2.2.1⟩
        | succ d ih =>
          intro i hi
          have h1 := ih i (by omega)
          have h2 := h (i + d + 2) hi
          rw [show i + d + 2 = (i + d + 1) + 1 by omega, lastOf_succ] at h2
          obtain ⟨b1, b2, b3, -⟩ := h2
          rw [show i + (d + 1) + 1 = i + d + 1 + 1 by omega]
          exact ⟨by omega, by omega⟩
      have := key (j - i - 1) i (by omega)
      rw [show i + (j - i - 1) + 1 = j by omega, getD_get hi, getD_get hj] at this
      exact this
  · rintro ⟨h1, h2⟩ i hi
    have hx := h1 _ (List.getElem_mem hi)
    rw [getD_get hi]
    obtain ⟨a0, a1, a2, a3, a4, a5, a6⟩ := hx
    cases i with
    | zero => rw [lastOf_zero]; exact ⟨by show (-1 : Int) < _; omega, a1, by show (-1 : Int) < _; omega, a3, a4, a5, a6⟩
    | succ i =>
      rw [lastOf_succ, getD_get (by omega)]
      have := List.pairwise_iff_getElem.1 h2 i (i + 1) (by omega) hi (by omega)
      exact ⟨this.1, a1, this.2, a3, a4, a5, a6⟩
/-! ### A count -/
theorem hitAt_at (t : Track) (n : Int) (x : Seen) : (hitAt t n x).at_ = x.at_ := rfl
theorem leaves_hit (t : Track) (n m : Int) (x : Seen) : leaves t n (hitAt t m x) = true ↔ x.at_ + final t.belt = n := by
  unfold leaves
  exact decide_eq_true_iff
theorem Rising.map {t : Track} {n : Int} {l : List Seen} (h : Rising l) : Rising (l.map (hitAt t n)) := by
  unfold Rising at *
  rw [List.pairwise_map]
  exact h
theorem pass1_ok {t : Track} (h : t.ok) (hc : t.count + 1 ≤ 1099511627776) : (pass1 t).ok := by
  obtain ⟨h1, ⟨s1, s2, s3, s4, s5⟩, h3⟩ := h
  obtain ⟨p1, p2⟩ := parts_iff.1 h3
  have hlen : (leftR t (t.count + 1)).length ≤ t.parts.length := Nat.le_trans (List.length_filter_le _ _) (by simp)
  refine ⟨h1, ⟨by show 0 ≤ t.count + 1; omega, hc, s3, s4, by show (leftR t (t.count + 1)).length ≤ 32; omega⟩, parts_iff.2 ⟨fun x hx => ?_, ?_⟩⟩
  · have hx' : x ∈ leftR t (t.count + 1) := hx
    unfold leftR at hx'
    rw [List.mem_filter] at hx'
    obtain ⟨hm, hn⟩ := hx'
    obtain ⟨y, hy, rfl⟩ := List.mem_map.1 hm
    have hl : ¬ (y.at_ + final t.belt = t.count + 1) := fun h => by rw [(leaves_hit t _ _ y).2 h] at hn; cases hn
    obtain ⟨a0, a1, a2, a3, a4, a5, a6⟩ := p1 y hy
    refine ⟨a0, a1, a2, by show y.at_ ≤ t.count + 1; omega, by show t.count + 1 < y.at_ + final t.belt; omega, a5, fun hh => ?_⟩
    show y.at_ + first t.belt ≤ t.count + 1
    have hh' : (y.hit || (openAt t (t.count + 1) && here t (t.count + 1) y)) = true := hh
    simp only [Bool.or_eq_true, Bool.and_eq_true, here, decide_eq_true_eq] at hh'
    rcases hh' with h9 | h9
    · have := a6 h9; omega
    · exact h9.2.1
  · exact List.Pairwise.filter _ (p2.map)
theorem passN_count (n : Nat) : ∀ t : Track, (passN n t).1.count = t.count + n ∧ (passN n t).1.next = t.next ∧ (passN n t).1.belt = t.belt := by
  induction n with
  | zero => intro t; exact ⟨by simp [passN], rfl, rfl⟩
  | succ n ih =>
    intro t
    obtain ⟨h1, h2, h3⟩ := ih (pass1 t)
    exact ⟨by show (passN n (pass1 t)).1.count = _; rw [h1]; show t.count + 1 + (n : Int) = _; omega, h2, h3⟩
theorem passN_ok : ∀ (n : Nat) {t : Track}, t.ok → t.count + n ≤ 1099511627776 → (passN n t).1.ok
  | 0, t, h, _ => h
  | n + 1, t, h, hc => passN_ok n (pass1_ok h (by omega)) (by show t.count + 1 + (n : Int) ≤ _; omega)
theorem passN_add : ∀ (n m : Nat) (t : Track), passN (n + m) t = ((passN m (passN n t).1).1, (passN n t).2 ++ (passN m (passN n t).1).2)
  | 0, m, t => by simp [passN]
  | n + 1, m, t => by
    have h := passN_add n m (pass1 t)
    rw [show n + 1 + m = (n + m) + 1 by omega]
    simp only [passN, h, List.append_assoc]
/-- a track without parts just counts -/
theorem passN_none : ∀ (n : Nat) (t : Track), t.parts = [] → passN n t = (⟨t.belt, t.count + n, t.next, []⟩, [])
  | 0, t, h => by obtain ⟨b, c, x, p⟩ := t; cases h; simp [passN]
  | n + 1, t, h => by
    have e : pass1 t = ⟨t.belt, t.count + 1, t.next, []⟩ := by simp [pass1, leftR, h]
    have f : fates1 t = [] := by simp [fates1, goneR, h]
    simp only [passN, e, f, passN_none n ⟨t.belt, t.count + 1, t.next, []⟩ rfl, List.nil_append]
    congr 2
    omega
/-- what leaves is the first part, or none -/
theorem gone_split {t : Track} (h : t.ok) : (goneR t (t.count + 1) = [] ∧ leftR t (t.count + 1) = t.parts.map (hitAt t (t.count + 1))) ∨
    ∃ x l, t.parts = x :: l ∧ goneR t (t.count + 1) = [hitAt t (t.count + 1) x] ∧ leftR t (t.count + 1) = l.map (hitAt t (t.count + 1)) ∧ x.at_ + final t.belt = t.count + 1 := by
  obtain ⟨h1, -, h3⟩ := h
  obtain ⟨p1, p2⟩ := parts_iff.1 h3
  have stay : ∀ l : List Seen, (∀ x ∈ l, t.count + 1 < x.at_ + final t.belt) → (l.map (hitAt t (t.count + 1))).filter (leaves t (t.count + 1)) = [] ∧ (l.map (hitAt t (t.count + 1))).filter (fun x => !leaves t (t.count + 1) x) = l.map (hitAt t (t.count + 1)) := by
    intro l hl
    constructor
    · rw [List.filter_eq_nil_iff]
      intro x hx
      obtain ⟨y, hy, rfl⟩ := List.mem_map.1 hx
      have := hl y hy
      rw [leaves_hit]
      omega
    · rw [List.filter_eq_self]
      intro x hx
      obtain ⟨y, hy, rfl⟩ := List.mem_map.1 hx
      have := hl y hy
      have : leaves t (t.count + 1) (hitAt t (t.count + 1) y) = false := by
        rw [← Bool.not_eq_true, leaves_hit]
        omega
      rw [this]; rfl
  unfold goneR leftR
  cases hp : t.parts with
  | nil => exact .inl ⟨by simp, by simp⟩
  | cons x l =>
    rw [hp] at p1 p2
    have hrest : ∀ y ∈ l, x.at_ < y.at_ := fun y hy => ((List.pairwise_cons.1 p2).1 y hy).2
    have hx := (p1 x (by simp)).2.2.2.2.1
    by_cases hg : x.at_ + final t.belt = t.count + 1
    · right
      obtain ⟨s1, s2⟩ := stay l (fun y hy => by have := hrest y hy; omega)
      have hl1 : leaves t (t.count + 1) (hitAt t (t.count + 1) x) = true := (leaves_hit t _ _ x).2 hg
      refine ⟨x, l, rfl, ?_, ?_, hg⟩
      · rw [List.map_cons, List.filter_cons_of_pos hl1, s1]
      · rw [List.map_cons, List.filter_cons_of_neg (by simp [hl1]), s2]
    · left
      exact stay (x :: l) (fun y hy => by
        rcases List.mem_cons.1 hy with rfl | hy
        · omega
        · have := hrest y hy; omega)
end Go.Proofs.Ytcbimfaneinpkaa
