/- Joined from the parts RowsM, SearchSpec, OutAt, Search1, Search2, Search3. -/
import Derived.Test.YtipkjdfnoonpcaaGD
import Derived.Test.YtipkjdfnoonpcaaGE
import Derived.Test.YtipkjdfnoonpcaaTwo
set_option linter.unusedVariables false
set_option linter.unusedSimpArgs false
/- Rows of matches and of areas: their cells, their types; rows of different types lie apart. -/
namespace Go.Proofs.Ytipkjdfnoonpcaa
open Go.RowKit Go.Sort

theorem matches_one (l : List Match) : ∀ u ∈ l.flatMap matchCells, u.oneCell' = true := by
  intro u hu
  obtain ⟨x, _, hx⟩ := List.mem_flatMap.1 hu
  exact matchCells_one x u hx
theorem areas_one (l : List Area) : ∀ u ∈ l.flatMap areaCells, u.oneCell' = true := by
  intro u hu
  obtain ⟨x, _, hx⟩ := List.mem_flatMap.1 hu
  exact areaCells_one x u hx
theorem owns_type {w : World} {base e sz n : Nat} {v : Value} {cs : List Value} (h : w.ownsRow base e sz v n cs) : ∀ g, v.ownBlock = some g → ∃ cur fr, w.heap[g]? = some (.cells cur e fr) := by
  obtain ⟨h1, h2⟩ := h
  intro g hg
  rcases h2 with ⟨rfl, _⟩ | ⟨g', cap, cur, rfl, hb, hh, _⟩
  · simp [Value.ownBlock] at hg
  · simp [Value.ownBlock] at hg
    subst hg
    exact ⟨_, _, hh⟩
theorem owns_apart {w : World} {base e sz n k e' : Nat} {v : Value} {cs : List Value} {cs' : Array Value} {fr : Nat × Nat} (h : w.ownsRow base e sz v n cs) (hk : w.heap[k]? = some (.cells cs' e' fr)) (he : e ≠ e') : v.ownBlock ≠ some k := by
  intro hv
  obtain ⟨cur, fr', h'⟩ := owns_type h k hv
  rw [hk] at h'
  cases h'
  exact he rfl
def zeroMatch : Value := .agg #[.int .i64 0, .int .i64 0, .int .i64 0, .int .i64 0, .int .i64 0]
def zeroArea : Value := .agg #[.int .i64 0, .int .i64 0, .int .i64 0, .int .i64 0, .int .i64 0, .int .i64 0]
theorem info80 : (Try.prog.info? 80).map (fun i => (i.zero, i.size, i.bytes)) = some (some zeroMatch, 5, 40) := by kernel_rfl
theorem inf47 : (Try.prog.info? 47).map (fun i => (i.zero, i.size, i.bytes)) = some (some zeroArea, 6, 48) := by kernel_rfl
end Go.Proofs.Ytipkjdfnoonpcaa

/- What a search of an area finds, as plain data. No program in sight. -/
namespace Go.Proofs.Ytipkjdfnoonpcaa
open Go.RowKit Go.Sort

/-! ### bounds of areas within areas -/
theorem sumL_mono {f g : Pt → Int} {l : List Pt} (h : ∀ p ∈ l, f p ≤ g p) : sumL f l ≤ sumL g l := by
  have gen : ∀ (l : List Pt) (s s' : Int), s ≤ s' → (∀ p ∈ l, f p ≤ g p) → l.foldl (fun s p => s + f p) s ≤ l.foldl (fun s p => s + g p) s' := by
    intro l
    induction l with
    | nil => intro s s' hs _; exact hs
    | cons p l ih =>
      intro s s' hs h
      have := h p (by simp)
      refine ih _ _ ?_ fun q hq => h q (by simp [hq])
      show s + f p ≤ s' + g p
      omega
  exact gen l 0 0 (by omega) h
theorem least_mono (m : Img) (p : Pt) {x0 y0 x1 y1 a0 b0 a1 b1 : Int} (h1 : x0 ≤ a0) (h2 : a1 ≤ x1) (h3 : y0 ≤ b0) (h4 : b1 ≤ y1) : least m p x0 y0 x1 y1 ≤ least m p a0 b0 a1 b1 :=
  (le_least (least_le _ _ _ _ _ _)).2 fun y k1 k2 x k3 k4 => (le_least (least_le _ _ _ _ _ _)).1 (Int.le_refl _) y (by omega) (by omega) x (by omega) (by omega)
theorem bound_mono (m : Img) (t : Tpl) {a b : Area} (h1 : a.x0 ≤ b.x0) (h2 : b.x1 ≤ a.x1) (h3 : a.y0 ≤ b.y0) (h4 : b.y1 ≤ a.y1) (h5 : a.turn = b.turn) (h6 : a.scale = b.scale) : bound m t a ≤ bound m t b := by
  unfold bound
  rw [h5, h6]
  exact sumL_mono fun p _ => least_mono m p h1 h2 h3 h4

/-! ### the search -/
def leftOf (a : Area) : Area := if a.y1 - a.y0 ≤ a.x1 - a.x0 then { a with x1 := (a.x0 + a.x1) / 2 } else { a with y1 := (a.y0 + a.y1) / 2 }
def rightOf (a : Area) : Area := if a.y1 - a.y0 ≤ a.x1 - a.x0 then { a with x0 := (a.x0 + a.x1) / 2 + 1 } else { a with y0 := (a.y0 + a.y1) / 2 + 1 }
def Area.One (a : Area) : Prop := a.x0 = a.x1 ∧ a.y0 = a.y1
instance (a : Area) : Decidable a.One := by unfold Area.One; infer_instance
def Area.size (a : Area) : Int := (a.x1 - a.x0) + (a.y1 - a.y0)
def matchOf (m : Img) (t : Tpl) (a : Area) : Match := ⟨⟨a.x0, a.y0, a.turn, a.scale⟩, bound m t a⟩
def search (m : Img) (t : Tpl) (limit : Int) : Nat → Area → List Match × List Area
  | 0, a => if limit < bound m t a then ([], [a]) else ([matchOf m t a], [])
  | k + 1, a => if limit < bound m t a then ([], [a]) else if a.One then ([matchOf m t a], []) else
      ((search m t limit k (leftOf a)).1 ++ (search m t limit k (rightOf a)).1, (search m t limit k (leftOf a)).2 ++ (search m t limit k (rightOf a)).2)
theorem search_far {m : Img} {t : Tpl} {limit : Int} {a : Area} (k : Nat) (h : limit < bound m t a) : search m t limit k a = ([], [a]) := by
  cases k <;> simp [search, h]
theorem search_one {m : Img} {t : Tpl} {limit : Int} {a : Area} (k : Nat) (h : ¬ limit < bound m t a) (h1 : a.One) : search m t limit k a = ([matchOf m t a], []) := by
  cases k <;> simp [search, h, h1]
theorem search_more {m : Img} {t : Tpl} {limit : Int} {a : Area} (k : Nat) (h : ¬ limit < bound m t a) (h1 : ¬ a.One) : search m t limit (k + 1) a =
    ((search m t limit k (leftOf a)).1 ++ (search m t limit k (rightOf a)).1, (search m t limit k (leftOf a)).2 ++ (search m t limit k (rightOf a)).2) := by
  simp [search, h, h1]
theorem left_wide {a : Area} (h : a.y1 - a.y0 ≤ a.x1 - a.x0) : leftOf a = ⟨a.x0, a.y0, (a.x0 + a.x1) / 2, a.y1, a.turn, a.scale⟩ := by unfold leftOf; rw [if_pos h]
theorem left_high {a : Area} (h : ¬ a.y1 - a.y0 ≤ a.x1 - a.x0) : leftOf a = ⟨a.x0, a.y0, a.x1, (a.y0 + a.y1) / 2, a.turn, a.scale⟩ := by unfold leftOf; rw [if_neg h]
theorem right_wide {a : Area} (h : a.y1 - a.y0 ≤ a.x1 - a.x0) : rightOf a = ⟨(a.x0 + a.x1) / 2 + 1, a.y0, a.x1, a.y1, a.turn, a.scale⟩ := by unfold rightOf; rw [if_pos h]
theorem right_high {a : Area} (h : ¬ a.y1 - a.y0 ≤ a.x1 - a.x0) : rightOf a = ⟨a.x0, (a.y0 + a.y1) / 2 + 1, a.x1, a.y1, a.turn, a.scale⟩ := by unfold rightOf; rw [if_neg h]
/-- an area of which there is something -/
def Area.Full (a : Area) : Prop := a.x0 ≤ a.x1 ∧ a.y0 ≤ a.y1
theorem Area.Ok.full {m : Img} {a : Area} (h : a.Ok m) : a.Full := ⟨h.1.2.1, h.2.1.2.1⟩
/-- all that is wanted of the two halves -/
theorem halves {a : Area} (hf : a.Full) (h1 : ¬ a.One) : ((leftOf a).Full ∧ (rightOf a).Full) ∧ ((leftOf a).size < a.size ∧ (rightOf a).size < a.size) ∧
    ((a.x0 ≤ (leftOf a).x0 ∧ (leftOf a).x1 ≤ a.x1 ∧ a.y0 ≤ (leftOf a).y0 ∧ (leftOf a).y1 ≤ a.y1) ∧ (a.x0 ≤ (rightOf a).x0 ∧ (rightOf a).x1 ≤ a.x1 ∧ a.y0 ≤ (rightOf a).y0 ∧ (rightOf a).y1 ≤ a.y1)) ∧
    (((leftOf a).turn = a.turn ∧ (leftOf a).scale = a.scale) ∧ (rightOf a).turn = a.turn ∧ (rightOf a).scale = a.scale) ∧
    ∀ p : Pose, (a.Has p ↔ (leftOf a).Has p ∨ (rightOf a).Has p) ∧ ¬ ((leftOf a).Has p ∧ (rightOf a).Has p) := by
  obtain ⟨f1, f2⟩ := hf
  unfold Area.One at h1
  by_cases hw : a.y1 - a.y0 ≤ a.x1 - a.x0
  · rw [left_wide hw, right_wide hw]
    unfold Area.Full Area.size Area.Has
    simp only
    refine ⟨⟨⟨?_, ?_⟩, ?_, ?_⟩, ⟨?_, ?_⟩, ⟨⟨?_, ?_, ?_, ?_⟩, ?_, ?_, ?_, ?_⟩, by simp, fun p => ⟨?_, ?_⟩⟩ <;> omega
  · rw [left_high hw, right_high hw]
    unfold Area.Full Area.size Area.Has
    simp only
    refine ⟨⟨⟨?_, ?_⟩, ?_, ?_⟩, ⟨?_, ?_⟩, ⟨⟨?_, ?_, ?_, ?_⟩, ?_, ?_, ?_, ?_⟩, by simp, fun p => ⟨?_, ?_⟩⟩ <;> omega
theorem halves_ok {m : Img} {a : Area} (h : a.Ok m) (h1 : ¬ a.One) : (leftOf a).Ok m ∧ (rightOf a).Ok m := by
  obtain ⟨⟨l1, r1⟩, -, ⟨⟨a1, a2, a3, a4⟩, b1, b2, b3, b4⟩, ⟨⟨c1, c2⟩, d1, d2⟩, -⟩ := halves h.full h1
  obtain ⟨⟨h1, h2, h3⟩, ⟨h4, h5, h6⟩, h7⟩ := h
  unfold Area.Full at l1 r1
  refine ⟨⟨⟨by omega, l1.1, by omega⟩, ⟨by omega, l1.2, by omega⟩, ?_⟩, ⟨by omega, r1.1, by omega⟩, ⟨by omega, r1.2, by omega⟩, ?_⟩
  · rw [c1, c2]; exact h7
  · rw [d1, d2]; exact h7
theorem size_nn {a : Area} (h : a.Full) : 0 ≤ a.size := by unfold Area.Full Area.size at *; omega
theorem one_of_size {a : Area} (h : a.Full) (h1 : a.size ≤ 0) : a.One := by
  unfold Area.Full Area.size Area.One at *
  omega
theorem pose_area_ok {m : Img} {a : Area} (h : a.Ok m) {p : Pose} (hp : a.Has p) : p.area.Ok m := by
  unfold Area.Ok Area.Has Pose.area at *
  obtain ⟨⟨e1, e2⟩, h1, h2⟩ := hp
  rw [← e1, ← e2]
  refine ⟨⟨?_, ?_, ?_⟩, ⟨?_, ?_, ?_⟩, h.2.2⟩ <;> simp only <;> omega
theorem one_area {a : Area} (h : a.One) : (⟨a.x0, a.y0, a.turn, a.scale⟩ : Pose).area = a := by
  unfold Area.One at h
  unfold Pose.area
  cases a
  simp_all
theorem one_has {a : Area} (h : a.One) (p : Pose) : a.Has p ↔ (⟨a.x0, a.y0, a.turn, a.scale⟩ : Pose) = p := by
  unfold Area.One at h
  unfold Area.Has
  cases p
  simp only [Pose.mk.injEq]
  omega
theorem hits_append (l l' : List Match) (p : Pose) : hits (l ++ l') p = hits l p + hits l' p := List.countP_append ..
theorem hasN_append (l l' : List Area) (p : Pose) : hasN (l ++ l') p = hasN l p + hasN l' p := List.countP_append ..
theorem hits_one (x : Match) (p : Pose) : hits [x] p = if x.pose = p then 1 else 0 := by simp [hits, List.countP_cons]
theorem hasN_one (a : Area) (p : Pose) : hasN [a] p = if a.Has p then 1 else 0 := by simp [hasN, List.countP_cons]
theorem hits_nil (p : Pose) : hits [] p = 0 := rfl
theorem hasN_nil (p : Pose) : hasN [] p = 0 := rfl

/-- **each match and area is right, and each pose of the area is in one of them, once** -/
theorem search_right {m : Img} {t : Tpl} {limit : Int} : ∀ (k : Nat) (a : Area), a.Ok m → a.size ≤ k →
    (∀ x ∈ (search m t limit k a).1, MatchOk m t limit x ∧ a.Has x.pose) ∧ (∀ b ∈ (search m t limit k a).2, AreaOk m t limit b) ∧
      (∀ p, hits (search m t limit k a).1 p + hasN (search m t limit k a).2 p = if a.Has p then 1 else 0) ∧
      ((search m t limit k a).1.length + (search m t limit k a).2.length : Int) ≤ (a.x1 - a.x0 + 1) * (a.y1 - a.y0 + 1) := by
  have prod : ∀ {a : Area}, a.Full → 1 ≤ (a.x1 - a.x0 + 1) * (a.y1 - a.y0 + 1) := fun {a} hf => by
    have h1 := hf.1
    have h2 := hf.2
    have h3 : 0 < (a.x1 - a.x0 + 1) * (a.y1 - a.y0 + 1) := Int.mul_pos (by omega) (by omega)
    omega
  have far : ∀ (k : Nat) (a : Area), a.Ok m → limit < bound m t a → (∀ x ∈ (search m t limit k a).1, MatchOk m t limit x ∧ a.Has x.pose) ∧ (∀ b ∈ (search m t limit k a).2, AreaOk m t limit b) ∧
      (∀ p, hits (search m t limit k a).1 p + hasN (search m t limit k a).2 p = if a.Has p then 1 else 0) ∧
      ((search m t limit k a).1.length + (search m t limit k a).2.length : Int) ≤ (a.x1 - a.x0 + 1) * (a.y1 - a.y0 + 1) := by
    intro k a ha hb
    rw [search_far k hb]
    refine ⟨(fun x hx => by cases hx), (fun b hb' => by rw [List.mem_singleton.1 hb']; exact ⟨ha, hb⟩), (fun p => by rw [hits_nil, hasN_one, Nat.zero_add]), ?_⟩
    have := prod ha.full
    simpa using this
  have one : ∀ (k : Nat) (a : Area), a.Ok m → ¬ limit < bound m t a → a.One → (∀ x ∈ (search m t limit k a).1, MatchOk m t limit x ∧ a.Has x.pose) ∧ (∀ b ∈ (search m t limit k a).2, AreaOk m t limit b) ∧
      (∀ p, hits (search m t limit k a).1 p + hasN (search m t limit k a).2 p = if a.Has p then 1 else 0) ∧
      ((search m t limit k a).1.length + (search m t limit k a).2.length : Int) ≤ (a.x1 - a.x0 + 1) * (a.y1 - a.y0 + 1) := by
    intro k a ha hb h1
    rw [search_one k hb h1]
    refine ⟨fun x hx => ?_, fun b hb' => (by cases hb'), fun p => ?_, ?_⟩
    · rw [List.mem_singleton.1 hx]
      refine ⟨⟨?_, ?_, ?_⟩, (one_has h1 _).2 rfl⟩
      · show (Pose.area ⟨a.x0, a.y0, a.turn, a.scale⟩).Ok m
        rw [one_area h1]; exact ha
      · show bound m t a ≤ limit
        omega
      · show bound m t (Pose.area ⟨a.x0, a.y0, a.turn, a.scale⟩) = bound m t a
        rw [one_area h1]
    · rw [hits_one, hasN_nil, Nat.add_zero]
      show (if (⟨a.x0, a.y0, a.turn, a.scale⟩ : Pose) = p then 1 else 0) = _
      by_cases h : a.Has p
      · rw [if_pos h, if_pos ((one_has h1 p).1 h)]
      · rw [if_neg h, if_neg (fun e => h ((one_has h1 p).2 e))]
    · have := prod ha.full
      simpa using this
  intro k
  induction k with
  | zero =>
    intro a ha hs
    by_cases hb : limit < bound m t a
    · exact far 0 a ha hb
    · exact one 0 a ha hb (one_of_size ha.full (by simpa using hs))
  | succ k ih =>
    intro a ha hs
    by_cases hb : limit < bound m t a
    · exact far (k + 1) a ha hb
    by_cases h1 : a.One
    · exact one (k + 1) a ha hb h1
    obtain ⟨⟨l1, r1⟩, ⟨s1, s2⟩, -, -, hp⟩ := halves ha.full h1
    obtain ⟨o1, o2⟩ := halves_ok ha h1
    obtain ⟨p1, p2, p3, p4⟩ := ih (leftOf a) o1 (by omega)
    obtain ⟨q1, q2, q3, q4⟩ := ih (rightOf a) o2 (by omega)
    rw [search_more k hb h1]
    simp only
    refine ⟨fun x hx => ?_, fun b hb' => ?_, fun p => ?_, ?_⟩
    · rcases List.mem_append.1 hx with hx | hx
      · exact ⟨(p1 x hx).1, ((hp _).1).2 (.inl (p1 x hx).2)⟩
      · exact ⟨(q1 x hx).1, ((hp _).1).2 (.inr (q1 x hx).2)⟩
    · rcases List.mem_append.1 hb' with hb' | hb'
      · exact p2 b hb'
      · exact q2 b hb'
    · rw [hits_append, hasN_append]
      have e1 := p3 p
      have e2 := q3 p
      obtain ⟨i1, i2⟩ := hp p
      by_cases c1 : (leftOf a).Has p
      · have c2 : ¬ (rightOf a).Has p := fun c => i2 ⟨c1, c⟩
        rw [if_pos c1] at e1
        rw [if_neg c2] at e2
        rw [if_pos (i1.2 (.inl c1))]
        omega
      · by_cases c2 : (rightOf a).Has p
        · rw [if_neg c1] at e1
          rw [if_pos c2] at e2
          rw [if_pos (i1.2 (.inr c2))]
          omega
        · rw [if_neg c1] at e1
          rw [if_neg c2] at e2
          rw [if_neg (fun c => (i1.1 c).elim c1 c2)]
          omega
    · rw [List.length_append, List.length_append]
      have e : (a.x1 - a.x0 + 1) * (a.y1 - a.y0 + 1) = ((leftOf a).x1 - (leftOf a).x0 + 1) * ((leftOf a).y1 - (leftOf a).y0 + 1) + ((rightOf a).x1 - (rightOf a).x0 + 1) * ((rightOf a).y1 - (rightOf a).y0 + 1) := by
        by_cases hw : a.y1 - a.y0 ≤ a.x1 - a.x0
        · rw [left_wide hw, right_wide hw]
          simp only
          generalize (a.x0 + a.x1) / 2 = c
          rw [← Int.add_mul]
          congr 1
          omega
        · rw [left_high hw, right_high hw]
          simp only
          generalize (a.y0 + a.y1) / 2 = c
          rw [← Int.mul_add]
          congr 1
          omega
      rw [e]
      simp only [Int.natCast_add]
      omega
/-- **which poses are matches** -/
theorem search_hits {m : Img} {t : Tpl} {limit : Int} (k : Nat) (a : Area) (ha : a.Ok m) (hk : a.size ≤ k) (p : Pose) : hits (search m t limit k a).1 p = if a.Has p ∧ bound m t p.area ≤ limit then 1 else 0 := by
  obtain ⟨h1, h2, h3, -⟩ := search_right (t := t) (limit := limit) k a ha hk
  have h := h3 p
  by_cases hp : a.Has p
  · rw [if_pos hp] at h
    by_cases hb : bound m t p.area ≤ limit
    · rw [if_pos ⟨hp, hb⟩]
      have : hasN (search m t limit k a).2 p = 0 := by
        rcases Nat.eq_zero_or_pos (hasN (search m t limit k a).2 p) with h0 | h0
        · exact h0
        · obtain ⟨b, hb1, hb2⟩ := List.countP_pos_iff.1 h0
          have hb2 : b.Has p := of_decide_eq_true hb2
          have := (h2 b hb1).2
          have := bound_mono m t (a := b) (b := p.area) hb2.2.1.1 hb2.2.1.2 hb2.2.2.1 hb2.2.2.2 hb2.1.1 hb2.1.2
          omega
      omega
    · rw [if_neg (fun c => hb c.2)]
      rcases Nat.eq_zero_or_pos (hits (search m t limit k a).1 p) with h0 | h0
      · exact h0
      · obtain ⟨x, hx1, hx2⟩ := List.countP_pos_iff.1 h0
        have hx2 : x.pose = p := of_decide_eq_true hx2
        have := (h1 x hx1).1
        rw [← hx2] at hb
        have e1 := this.2.1
        have e2 := this.2.2
        omega
  · rw [if_neg hp] at h
    rw [if_neg (fun c => hp c.1)]
    omega
end Go.Proofs.Ytipkjdfnoonpcaa

/- What a call of 'search' may touch: the variable 'out' and its two rows. -/
namespace Go.Proofs.Ytipkjdfnoonpcaa
open Go.RowKit Go.Sort

theorem owns_lt {w : World} {base e sz n k : Nat} {v : Value} {cs : List Value} (h : w.ownsRow base e sz v n cs) (hk : v.ownBlock = some k) : k < w.heap.size := (owns_block h k hk).2
/-- the variable 'out': its two rows -/
def OutAt (w : World) (N bo : Nat) (mv av : Value) (ms : List Match) (ar : List Area) : Prop :=
  w.heap[bo]? = some (.cells #[mv, av] 63) ∧ w.ownsRow N 80 5 mv ms.length (ms.flatMap matchCells) ∧ w.ownsRow N 47 6 av ar.length (ar.flatMap areaCells)
theorem OutAt.move {w w' : World} {N bo : Nat} {mv av : Value} {ms : List Match} {ar : List Area} (h : OutAt w N bo mv av ms ar) (hk : ∀ k, (k = bo ∨ mv.ownBlock = some k ∨ av.ownBlock = some k) → w'.heap[k]? = w.heap[k]?) : OutAt w' N bo mv av ms ar :=
  ⟨(hk bo (.inl rfl)).trans h.1, owns_at h.2.1 fun k h1 => hk k (.inr (.inl h1)), owns_at h.2.2 fun k h1 => hk k (.inr (.inr h1))⟩
theorem OutAt.lt {w : World} {N bo : Nat} {mv av : Value} {ms : List Match} {ar : List Area} (h : OutAt w N bo mv av ms ar) {k : Nat} (hk : k = bo ∨ mv.ownBlock = some k ∨ av.ownBlock = some k) : k < w.heap.size := by
  rcases hk with rfl | hk | hk
  · exact (Array.getElem?_eq_some_iff.1 h.1).1
  · exact owns_lt h.2.1 hk
  · exact owns_lt h.2.2 hk
theorem OutAt.ext {w w' : World} {N bo : Nat} {mv av : Value} {ms : List Match} {ar : List Area} (h : OutAt w N bo mv av ms ar) (hb : Ext w w') : OutAt w' N bo mv av ms ar :=
  h.move fun k hk => Below.block hb k (h.lt hk)
theorem OutAt.set {w : World} {N bo b o : Nat} {u : Value} {mv av : Value} {ms : List Match} {ar : List Area} (h : OutAt w N bo mv av ms ar) (hb : ∀ k, (k = bo ∨ mv.ownBlock = some k ∨ av.ownBlock = some k) → k < b) : OutAt (w.setCell ⟨b, o, none⟩ u) N bo mv av ms ar :=
  h.move fun k hk => set_at w b o u k (Nat.ne_of_lt (hb k hk))
/-- from one world to another only 'out' and its rows have turned -/
structure Upd (w w' : World) (bo : Nat) (mv av mv' av' : Value) : Prop where
  size : w.heap.size ≤ w'.heap.size
  keep : ∀ k, k < w.heap.size → k ≠ bo → mv.ownBlock ≠ some k → av.ownBlock ≠ some k → w'.heap[k]? = w.heap[k]?
  m : mv'.ownBlock = mv.ownBlock ∨ ∀ k, mv'.ownBlock = some k → w.heap.size ≤ k
  a : av'.ownBlock = av.ownBlock ∨ ∀ k, av'.ownBlock = some k → w.heap.size ≤ k
theorem Upd.of_ext {w w' : World} {bo : Nat} {mv av : Value} (h : Ext w w') : Upd w w' bo mv av mv av := ⟨h.size, fun k hk _ _ _ => Below.block h k hk, .inl rfl, .inl rfl⟩
theorem Upd.trans {w w1 w2 : World} {bo : Nat} {mv av m1 a1 m2 a2 : Value} (h : Upd w w1 bo mv av m1 a1) (g : Upd w1 w2 bo m1 a1 m2 a2) : Upd w w2 bo mv av m2 a2 := by
  refine ⟨Nat.le_trans h.size g.size, fun k hk h1 h2 h3 => (g.keep k (Nat.lt_of_lt_of_le hk h.size) h1 ?_ ?_).trans (h.keep k hk h1 h2 h3), ?_, ?_⟩
  · rcases h.m with e | e
    · rw [e]; exact h2
    · intro e2; have := e k e2; omega
  · rcases h.a with e | e
    · rw [e]; exact h3
    · intro e2; have := e k e2; omega
  · rcases g.m with e | e
    · rw [e]; exact h.m
    · exact .inr fun k hk => Nat.le_trans h.size (e k hk)
  · rcases g.a with e | e
    · rw [e]; exact h.a
    · exact .inr fun k hk => Nat.le_trans h.size (e k hk)
/-- blocks that are not 'out' nor its rows -/
theorem At.upd {w w' : World} {bo : Nat} {mv av mv' av' : Value} (hu : Upd w w' bo mv av mv' av') : ∀ {l : List (Nat × Obj)}, At w l → (∀ k ∈ l.map Prod.fst, k ≠ bo ∧ mv.ownBlock ≠ some k ∧ av.ownBlock ≠ some k) → At w' l
  | [], _, _ => trivial
  | (k, o) :: _, h, hne => ⟨(hu.keep k (Array.getElem?_eq_some_iff.1 h.1).1 (hne k (by simp)).1 (hne k (by simp)).2.1 (hne k (by simp)).2.2).trans h.1, At.upd hu h.2 fun k' hk' => hne k' (by simp only [List.map_cons, List.mem_cons]; exact .inr hk')⟩
theorem owns_upd {w w' : World} {bo : Nat} {mv av mv' av' : Value} {base e sz n : Nat} {v : Value} {cs : List Value} (hu : Upd w w' bo mv av mv' av') (h : w.ownsRow base e sz v n cs)
    (hne : ∀ k, v.ownBlock = some k → k ≠ bo ∧ mv.ownBlock ≠ some k ∧ av.ownBlock ≠ some k) : w'.ownsRow base e sz v n cs :=
  owns_at h fun k hk => hu.keep k (owns_lt h hk) (hne k hk).1 (hne k hk).2.1 (hne k hk).2.2
/-- what is of another type is not 'out' nor its rows -/
theorem OutAt.ne {w : World} {N bo : Nat} {mv av : Value} {ms : List Match} {ar : List Area} (h : OutAt w N bo mv av ms ar) {k e : Nat} {cs : Array Value} {fr : Nat × Nat} (hk : w.heap[k]? = some (.cells cs e fr)) (h1 : e ≠ 63) (h2 : 80 ≠ e) (h3 : 47 ≠ e) :
    k ≠ bo ∧ mv.ownBlock ≠ some k ∧ av.ownBlock ≠ some k := by
  refine ⟨fun e1 => ?_, owns_apart h.2.1 hk h2, owns_apart h.2.2 hk h3⟩
  subst e1
  rw [h.1] at hk
  cases hk
  exact h1 rfl
/-- what is younger is not 'out' nor its rows -/
theorem OutAt.young {w : World} {N bo : Nat} {mv av : Value} {ms : List Match} {ar : List Area} (h : OutAt w N bo mv av ms ar) {k : Nat} (hk : w.heap.size ≤ k) : k ≠ bo ∧ mv.ownBlock ≠ some k ∧ av.ownBlock ≠ some k :=
  ⟨fun e => by have := h.lt (.inl e); omega, fun e => by have := h.lt (.inr (.inl e)); omega, fun e => by have := h.lt (.inr (.inr e)); omega⟩
theorem OutAt.forms {w : World} {N bo : Nat} {mv av : Value} {ms : List Match} {ar : List Area} (h : OutAt w N bo mv av ms ar) : (∃ mo mc, mv = .slice mo ms.length mc) ∧ ∃ ao ac, av = .slice ao ar.length ac := by
  obtain ⟨-, ⟨mo, mc, h1, -⟩⟩ := SlAt.of_owns h.2.1
  obtain ⟨-, ⟨ao, ac, h2, -⟩⟩ := SlAt.of_owns h.2.2
  exact ⟨⟨mo, mc, h1⟩, ao, ac, h2⟩
theorem OutAt.push_a {w w3 : World} {N bo : Nat} {mv av v' : Value} {ms : List Match} {ar : List Area} {x : Area} (h : OutAt w N bo mv av ms ar) (ho : w3.ownsRow N 47 6 v' (ar ++ [x]).length ((ar ++ [x]).flatMap areaCells)) (hg : (w.alloc (.cells (areaCells x).toArray 47)).grownBy w3 av.ownBlock)
    (hat : v'.ownBlock = av.ownBlock ∨ v'.ownBlock = some (w.alloc (.cells (areaCells x).toArray 47)).heap.size) : w3.heap[bo]? = some (.cells #[mv, av] 63) ∧ OutAt (w3.setCell ⟨bo, 1, none⟩ v') N bo mv v' ms (ar ++ [x]) ∧ Upd w (w3.setCell ⟨bo, 1, none⟩ v') bo mv av mv v' ∧ ∀ w0 : World, Ext w0 w → w0.heap.size ≤ N → w0.heap.size ≤ bo → Ext w0 (w3.setCell ⟨bo, 1, none⟩ v') := by
  have hX : Ext w (w.alloc (.cells (areaCells x).toArray 47)) := (Ext.refl w).alloc _
  have hb := h.lt (.inl rfl)
  have hsz := size_one w (.cells (areaCells x).toArray 47)
  have nb : av.ownBlock ≠ some bo := owns_apart h.2.2 h.1 (by decide)
  have k0 : w3.heap[bo]? = some (.cells #[mv, av] 63) := (hg.block bo (by omega) (fun e => nb e.symm)).trans (hX.blk h.1)
  have st := st_one k0 1 v'
  have no : v'.ownBlock ≠ some bo := owns_apart ho k0 (by decide)
  have ho' := owns_at (w' := w3.setCell ⟨bo, 1, none⟩ v') ho fun k hk => st.2.1 k (fun e => no (by rw [hk, e]))
  have hO3 := owns_at (w' := w3) (owns_ext h.2.1 hX) fun k hk => hg.block k (owns_lt (owns_ext h.2.1 hX) hk) (fun e => by
    obtain ⟨cur, fr, hc⟩ := owns_type h.2.1 k hk
    exact owns_apart h.2.2 hc (by decide) e.symm)
  have no2 : mv.ownBlock ≠ some bo := owns_apart h.2.1 h.1 (by decide)
  have hO' := owns_at (w' := w3.setCell ⟨bo, 1, none⟩ v') hO3 fun k hk => st.2.1 k (fun e => no2 (by rw [hk, e]))
  refine ⟨k0, ⟨st.1, hO', ho'⟩, ⟨?_, ?_, ?_, ?_⟩, fun w0 hE hN hB => st.2.2 w0 hB ((hE.alloc _).grown hg fun k hk => Nat.le_trans hN (owns_block h.2.2 k hk).1)⟩
  · have := hg.size
    rw [World.size_setCell]
    omega
  · intro k hk h1 h2 h3
    rw [st.2.1 k h1, hg.block k (by omega) (fun e => h3 e.symm), blk_past w _ hk]
  · exact .inl rfl
  · rcases hat with e | e
    · exact .inl e
    · right
      intro k hk
      rw [e] at hk
      cases hk
      omega
theorem OutAt.push_m {w w3 : World} {N bo : Nat} {mv av v' : Value} {ms : List Match} {ar : List Area} {x : Match} (h : OutAt w N bo mv av ms ar) (ho : w3.ownsRow N 80 5 v' (ms ++ [x]).length ((ms ++ [x]).flatMap matchCells)) (hg : (w.alloc (.cells (matchCells x).toArray 80)).grownBy w3 mv.ownBlock)
    (hat : v'.ownBlock = mv.ownBlock ∨ v'.ownBlock = some (w.alloc (.cells (matchCells x).toArray 80)).heap.size) : w3.heap[bo]? = some (.cells #[mv, av] 63) ∧ OutAt (w3.setCell ⟨bo, 0, none⟩ v') N bo v' av (ms ++ [x]) ar ∧ Upd w (w3.setCell ⟨bo, 0, none⟩ v') bo mv av v' av ∧ ∀ w0 : World, Ext w0 w → w0.heap.size ≤ N → w0.heap.size ≤ bo → Ext w0 (w3.setCell ⟨bo, 0, none⟩ v') := by
  have hX : Ext w (w.alloc (.cells (matchCells x).toArray 80)) := (Ext.refl w).alloc _
  have hb := h.lt (.inl rfl)
  have hsz := size_one w (.cells (matchCells x).toArray 80)
  have nb : mv.ownBlock ≠ some bo := owns_apart h.2.1 h.1 (by decide)
  have k0 : w3.heap[bo]? = some (.cells #[mv, av] 63) := (hg.block bo (by omega) (fun e => nb e.symm)).trans (hX.blk h.1)
  have st := st_one k0 0 v'
  have no : v'.ownBlock ≠ some bo := owns_apart ho k0 (by decide)
  have ho' := owns_at (w' := w3.setCell ⟨bo, 0, none⟩ v') ho fun k hk => st.2.1 k (fun e => no (by rw [hk, e]))
  have hO3 := owns_at (w' := w3) (owns_ext h.2.2 hX) fun k hk => hg.block k (owns_lt (owns_ext h.2.2 hX) hk) (fun e => by
    obtain ⟨cur, fr, hc⟩ := owns_type h.2.2 k hk
    exact owns_apart h.2.1 hc (by decide) e.symm)
  have no2 : av.ownBlock ≠ some bo := owns_apart h.2.2 h.1 (by decide)
  have hO' := owns_at (w' := w3.setCell ⟨bo, 0, none⟩ v') hO3 fun k hk => st.2.1 k (fun e => no2 (by rw [hk, e]))
  refine ⟨k0, ⟨st.1, ho', hO'⟩, ⟨?_, ?_, ?_, ?_⟩, fun w0 hE hN hB => st.2.2 w0 hB ((hE.alloc _).grown hg fun k hk => Nat.le_trans hN (owns_block h.2.1 k hk).1)⟩
  · have := hg.size
    rw [World.size_setCell]
    omega
  · intro k hk h1 h2 h3
    rw [st.2.1 k h1, hg.block k (by omega) (fun e => h2 e.symm), blk_past w _ hk]
  · rcases hat with e | e
    · exact .inl e
    · right
      intro k hk
      rw [e] at hk
      cases hk
      omega
  · exact .inl rfl
end Go.Proofs.Ytipkjdfnoonpcaa

/- The closure 'search': where the bound is too great, or one pose is left: the walk. -/
namespace Go.Proofs.Ytipkjdfnoonpcaa
open Go.RowKit Go.Sort

/-- what a call of 'search' leaves -/
def SearchIs (S : List Match × List Area) (w0 : World) (N bo : Nat) (ms : List Match) (ar : List Area) (mv av : Value) (w : World) (e : Ending) (w' : World) : Prop :=
  ∃ mv' av', e = .returned (.tuple #[]) ∧ Ext w0 w' ∧ OutAt w' N bo mv' av' (ms ++ S.1) (ar ++ S.2) ∧ Upd w w' bo mv av mv' av'
set_option maxRecDepth 100000 in
set_option maxHeartbeats 16000000 in
theorem c76_far (m : Img) (v : Value) (t : Tpl) (turn scale limit : Int) (sv : Value) (w0 : World) (N bs bm bl bo bf : Nat) (mo so : Option Addr) (mc sn sc : Nat) (hm : m.Camera) (ht : t.Ok) (hps : Posed turn scale) (hN : w0.heap.size ≤ N) (hbo : w0.heap.size ≤ bo) (hNb : N ≤ bo + 1) (hv : IntsAt w0 v m.pix) (hv0 : v = .slice mo m.pix.length mc) (hs0 : sv = .slice so sn sc) (a : Area) (ms : List Match) (ar : List Area) (mv av : Value) (w : World) (ha : a.Ok m) (htu : a.turn = turn) (hsc : a.scale = scale) (hE : Ext w0 w) (hP : ∃ b, w.ownsRow b 141 3 sv (stencil t turn scale t.pix.length).length (pts (stencil t turn scale t.pix.length))) (hA : At w [(bs, Obj.cells #[.slice so sn sc] 113), (bm, Obj.cells #[.int .i64 m.w, .int .i64 m.h, .slice mo m.pix.length mc] 24), (bl, Obj.cells #[.int .i64 limit] 3), (bf, Obj.cells #[.func (.func 76) #[] #[.pointer (some ⟨bs, 0, none⟩), .pointer (some ⟨bm, 0, none⟩), .pointer (some ⟨bl, 0, none⟩), .pointer (some ⟨bo, 0, none⟩), .pointer (some ⟨bf, 0, none⟩)]] 120)]) (hO : OutAt w N bo mv av ms ar) (hn : ar.length < 100000) (hb : limit < bound m t a) :
    Calls Try.prog 76 #[areaVal a, .pointer (some ⟨bs, 0, none⟩), .pointer (some ⟨bm, 0, none⟩), .pointer (some ⟨bl, 0, none⟩), .pointer (some ⟨bo, 0, none⟩), .pointer (some ⟨bf, 0, none⟩)] w (SearchIs ([], [a]) w0 N bo ms ar mv av w) := by
  have HV := Lib.hid hA
  have HO := Lib.hid hO
  have HE := Lib.hid hE
  have HP := Lib.hid (show PtsAt w sv (stencil t a.turn a.scale t.pix.length) by
    obtain ⟨b, h⟩ := hP
    rw [htu, hsc]
    exact SlAt.of_owns h)
  have K70 := Lib.hid (fun w' (h : Ext w0 w') (hs : PtsAt w' sv (stencil t a.turn a.scale t.pix.length)) => c70 m v (stencil t a.turn a.scale t.pix.length) sv a w' hm (hv.ext h) hs ha (Nat.le_trans (stencil_len _ _ _ _) (Tpl.len_bd ht).2) (sten_in ht ha.2.2))
  obtain ⟨bd, hbd⟩ : ∃ bd, bound m t a = bd := ⟨_, rfl⟩
  have hbd' : sumL (fun p => least m p a.x0 a.y0 a.x1 a.y1) (stencil t a.turn a.scale t.pix.length) = bd := hbd
  simp only [hbd'] at K70
  obtain ⟨⟨mb, mz, rfl⟩, ab, az, rfl⟩ := hO.forms
  subst hv0 hs0
  obtain ⟨b1, b2⟩ : (0 ≤ a.x0 ∧ a.x0 ≤ a.x1 ∧ a.x1 ≤ 15) ∧ 0 ≤ a.y0 ∧ a.y0 ≤ a.y1 ∧ a.y1 ≤ 15 := by
    obtain ⟨⟨h1, h2, h3⟩, ⟨h4, h5, h6⟩, -⟩ := ha
    obtain ⟨⟨g1, g2⟩, ⟨g3, g4⟩, -⟩ := hm.1
    refine ⟨⟨?_, ?_, ?_⟩, ?_, ?_, ?_⟩ <;> omega
  obtain ⟨⟨b10, b11, b12⟩, b20, b21, b22⟩ := And.intro b1 b2
  have HPT := Lib.hid hP
  rw [hbd] at hb
  have hb0 : decide (limit < bd) = true := decide_eq_true hb
  clear hb
  unfold imgVal at K70
  unfold areaVal
  have HTU := Lib.hid htu
  have HSC := Lib.hid hsc
  obtain ⟨e00, ef00⟩ := run_1 (At.at hA 0 rfl)
  obtain ⟨⟨e10, e11, e12⟩, ef10, ef11, ef12⟩ := run_3 (At.at hA 1 rfl)
  obtain ⟨e20, ef20⟩ := run_1 (At.at hA 2 rfl)
  obtain ⟨e30, ef30⟩ := run_1 (At.at hA 3 rfl)
  have ez0 := At.lt hA 0 rfl
  have ey0 := Nat.lt_succ_of_lt ez0
  have ex0 := Nat.lt_succ_of_lt ey0
  have ez1 := At.lt hA 1 rfl
  have ey1 := Nat.lt_succ_of_lt ez1
  have ex1 := Nat.lt_succ_of_lt ey1
  have ez2 := At.lt hA 2 rfl
  have ey2 := Nat.lt_succ_of_lt ez2
  have ex2 := Nat.lt_succ_of_lt ey2
  have ez3 := At.lt hA 3 rfl
  have ey3 := Nat.lt_succ_of_lt ez3
  have ex3 := Nat.lt_succ_of_lt ey3
  clear hA hO hE hP ha hbd hbd' hv htu hsc b1 b2
  obtain ⟨i8, hi8, hz8, hs8, hy8⟩ := info_parts info80
  obtain ⟨i4, hi4, hz4, hs4, hy4⟩ := info_parts inf47
  go_enter Try.func76, Try.ntmps76
  go_wp2_with (go_at_call 70; (with_reducible refine (K70.out _ (HE.out.alloc _) (PtsAt.ext HP.out ((Ext.refl w).alloc _))).mono ?_); rintro E w1 ⟨rfl, hb1⟩; have A1 := Lib.hid (show At w1 [(w.heap.size, Obj.cells #[.int .i64 a.x0, .int .i64 a.y0, .int .i64 a.x1, .int .i64 a.y1, .int .i64 a.turn, .int .i64 a.scale] 47), (bs, Obj.cells #[.slice so sn sc] 113), (bm, Obj.cells #[.int .i64 m.w, .int .i64 m.h, .slice mo m.pix.length mc] 24), (bl, Obj.cells #[.int .i64 limit] 3), (bf, Obj.cells #[.func (.func 76) #[] #[.pointer (some ⟨bs, 0, none⟩), .pointer (some ⟨bm, 0, none⟩), .pointer (some ⟨bl, 0, none⟩), .pointer (some ⟨bo, 0, none⟩), .pointer (some ⟨bf, 0, none⟩)]] 120)] from At.ext hb1 ⟨blk_at _ _ rfl, At.alloc HV.out _⟩); have X1 := Lib.hid (show Ext w w1 from ((Ext.refl w).alloc _).trans hb1); obtain ⟨⟨x00, x01, x02, x03, x04, x05⟩, xf00, xf01, xf02, xf03, xf04, xf05⟩ := run_6 (At.at A1.out 0 rfl); obtain ⟨x10, xf10⟩ := run_1 (At.at A1.out 1 rfl); obtain ⟨⟨x20, x21, x22⟩, xf20, xf21, xf22⟩ := run_3 (At.at A1.out 2 rfl); obtain ⟨x30, xf30⟩ := run_1 (At.at A1.out 3 rfl); obtain ⟨x40, xf40⟩ := run_1 (At.at A1.out 4 rfl); have xz0 := At.lt A1.out 0 rfl; have xy0 := Nat.lt_succ_of_lt xz0; have xx0 := Nat.lt_succ_of_lt xy0; have xz1 := At.lt A1.out 1 rfl; have xy1 := Nat.lt_succ_of_lt xz1; have xx1 := Nat.lt_succ_of_lt xy1; have xz2 := At.lt A1.out 2 rfl; have xy2 := Nat.lt_succ_of_lt xz2; have xx2 := Nat.lt_succ_of_lt xy2; have xz3 := At.lt A1.out 3 rfl; have xy3 := Nat.lt_succ_of_lt xz3; have xx3 := Nat.lt_succ_of_lt xy3; have xz4 := At.lt A1.out 4 rfl; have xy4 := Nat.lt_succ_of_lt xz4; have xx4 := Nat.lt_succ_of_lt xy4)
  go_quiet (fail)
  go_wp2_with fail
  refine RT.region_two (aq := ?aq1) (n := 2) (sx := 10) (sy := 11) (vx := 26) (vy := 27) (oz := .cells #[.int .i64 0, .int .i64 0, .int .i64 0, .int .i64 0, .int .i64 0, .int .i64 0] 47) (ox := .cells #[.int .i64 a.x0, .int .i64 a.y0, .int .i64 a.x1, .int .i64 a.y1, .int .i64 a.turn, .int .i64 a.scale] 47) (oy := .cells #[.int .i64 a.x0, .int .i64 a.y0, .int .i64 a.x1, .int .i64 a.y1, .int .i64 a.turn, .int .i64 a.scale] 47) (qs := [_, _]) (by kernel_rfl) rfl (by kernel_rfl) (by kernel_rfl) rfl rfl (of_decide_eq_true (by kernel_rfl)) (of_decide_eq_true (by kernel_rfl)) rfl rfl rfl rfl (by kernel_rfl) (by kernel_rfl) (by kernel_rfl) (by kernel_rfl) ?_ ?_ ?_ ?_ ?_ ?_
  rotate_left
  · intro e w
    simp [execOp, go_sem, Try.underlying47]
  · intro e w
    simp [execOp, go_sem, Try.underlying47]
  · intro wq hEq
    have AQ := Lib.hid (show At wq [(w.heap.size, Obj.cells #[.int .i64 a.x0, .int .i64 a.y0, .int .i64 a.x1, .int .i64 a.y1, .int .i64 a.turn, .int .i64 a.scale] 47), (bs, Obj.cells #[.slice so sn sc] 113), (bm, Obj.cells #[.int .i64 m.w, .int .i64 m.h, .slice mo m.pix.length mc] 24), (bl, Obj.cells #[.int .i64 limit] 3), (bf, Obj.cells #[.func (.func 76) #[] #[.pointer (some ⟨bs, 0, none⟩), .pointer (some ⟨bm, 0, none⟩), .pointer (some ⟨bl, 0, none⟩), .pointer (some ⟨bo, 0, none⟩), .pointer (some ⟨bf, 0, none⟩)]] 120)] from At.ext hEq (At.ext ((Ext.refl w1).drewN nq) A1.out))
    obtain ⟨⟨q00, q01, q02, q03, q04, q05⟩, -⟩ := run_6 (At.at AQ.out 0 rfl)
    obtain ⟨q10, -⟩ := run_1 (At.at AQ.out 1 rfl)
    obtain ⟨⟨q20, q21, q22⟩, -⟩ := run_3 (At.at AQ.out 2 rfl)
    obtain ⟨q30, -⟩ := run_1 (At.at AQ.out 3 rfl)
    obtain ⟨q40, -⟩ := run_1 (At.at AQ.out 4 rfl)
    have qz0 := At.lt AQ.out 0 rfl
    have qy0 := Nat.lt_succ_of_lt qz0
    have qx0 := Nat.lt_succ_of_lt qy0
    have qz1 := At.lt AQ.out 1 rfl
    have qy1 := Nat.lt_succ_of_lt qz1
    have qx1 := Nat.lt_succ_of_lt qy1
    have qz2 := At.lt AQ.out 2 rfl
    have qy2 := Nat.lt_succ_of_lt qz2
    have qx2 := Nat.lt_succ_of_lt qy2
    have qz3 := At.lt AQ.out 3 rfl
    have qy3 := Nat.lt_succ_of_lt qz3
    have qx3 := Nat.lt_succ_of_lt qy3
    have qz4 := At.lt AQ.out 4 rfl
    have qy4 := Nat.lt_succ_of_lt qz4
    have qx4 := Nat.lt_succ_of_lt qy4
    clear hEq
    simp only [List.cons_append, List.nil_append]
    repeat (go_big_quiet_step (fail))
    refine wpQuiet_nil ?_
    exact rfl
  · intro e w b h1 h2 h3
    obtain ⟨⟨c0, c1, c2, c3, c4, c5⟩, f0, f1, f2, f3, f4, f5⟩ := run_6 h3
    have h2' : e (.tmp 26) = .agg #[.int .i64 a.x0, .int .i64 a.y0, .int .i64 a.x1, .int .i64 a.y1, .int .i64 a.turn, .int .i64 a.scale] := h2
    apply Exists.intro
    apply And.intro
    · simp [execOp, go_sem, h1, h2', c0, c1, c2, c3, c4, c5, f0, f1, f2, f3, f4, f5, Try.underlying47]
      exact rfl
    · exact store_6 h3
  · intro e w b h1 h2 h3
    obtain ⟨⟨c0, c1, c2, c3, c4, c5⟩, f0, f1, f2, f3, f4, f5⟩ := run_6 h3
    have h2' : e (.tmp 27) = .agg #[.int .i64 a.x0, .int .i64 a.y0, .int .i64 a.x1, .int .i64 a.y1, .int .i64 a.turn, .int .i64 a.scale] := h2
    apply Exists.intro
    apply And.intro
    · simp [execOp, go_sem, h1, h2', c0, c1, c2, c3, c4, c5, f0, f1, f2, f3, f4, f5, Try.underlying47]
      exact rfl
    · exact store_6 h3
  · intro bx by_ w2 hE2 hbx hby hne hX hY
    have X12 := Lib.hid (show Ext w1 w2 from ((Ext.refl w1).drewN nq).trans hE2)
    have X2 := Lib.hid (X1.out.trans X12.out)
    have A2 := Lib.hid (show At w2 [(bx, Obj.cells #[.int .i64 a.x0, .int .i64 a.y0, .int .i64 a.x1, .int .i64 a.y1, .int .i64 a.turn, .int .i64 a.scale] 47), (by_, Obj.cells #[.int .i64 a.x0, .int .i64 a.y0, .int .i64 a.x1, .int .i64 a.y1, .int .i64 a.turn, .int .i64 a.scale] 47), (w.heap.size, Obj.cells #[.int .i64 a.x0, .int .i64 a.y0, .int .i64 a.x1, .int .i64 a.y1, .int .i64 a.turn, .int .i64 a.scale] 47), (bs, Obj.cells #[.slice so sn sc] 113), (bm, Obj.cells #[.int .i64 m.w, .int .i64 m.h, .slice mo m.pix.length mc] 24), (bl, Obj.cells #[.int .i64 limit] 3), (bf, Obj.cells #[.func (.func 76) #[] #[.pointer (some ⟨bs, 0, none⟩), .pointer (some ⟨bm, 0, none⟩), .pointer (some ⟨bl, 0, none⟩), .pointer (some ⟨bo, 0, none⟩), .pointer (some ⟨bf, 0, none⟩)]] 120)] from ⟨hX, hY, At.ext X12.out A1.out⟩)
    have O1 := Lib.hid (HO.out.ext X1.out)
    have O2 := Lib.hid (HO.out.ext X2.out)
    have hbx : w1.heap.size ≤ bx := hbx
    have hby : w1.heap.size ≤ by_ := hby
    have NE := Lib.hid (show ∀ p ∈ [bx, by_, w.heap.size, bs, bm, bl, bf], p ≠ bo ∧ Value.ownBlock (.slice mb ms.length mz) ≠ some p ∧ Value.ownBlock (.slice ab ar.length az) ≠ some p from by
      intro p hp
      simp only [List.mem_cons, List.not_mem_nil, or_false] at hp
      rcases hp with rfl | rfl | rfl | rfl | rfl | rfl | rfl
      · exact O1.out.young hbx
      · exact O1.out.young hby
      · exact HO.out.young (Nat.le_refl _)
      · exact HO.out.ne (At.at HV.out 0 rfl) (by decide) (by decide) (by decide)
      · exact HO.out.ne (At.at HV.out 1 rfl) (by decide) (by decide) (by decide)
      · exact HO.out.ne (At.at HV.out 2 rfl) (by decide) (by decide) (by decide)
      · exact HO.out.ne (At.at HV.out 3 rfl) (by decide) (by decide) (by decide))
    clear hE2 hX hY
    clear x00 x01 x02 x03 x04 x05 x10 x20 x21 x22 x30 x40 xf00 xf01 xf02 xf03 xf04 xf05 xf10 xf20 xf21 xf22 xf30 xf40 xz0 xy0 xx0 xz1 xy1 xx1 xz2 xy2 xx2 xz3 xy3 xx3 xz4 xy4 xx4
    clear e00 e10 e11 e12 e20 e30 ef00 ef10 ef11 ef12 ef20 ef30 ez0 ey0 ex0 ez1 ey1 ex1 ez2 ey2 ex2 ez3 ey3 ex3
    obtain ⟨⟨y00, y01, y02, y03, y04, y05⟩, yf00, yf01, yf02, yf03, yf04, yf05⟩ := run_6 (At.at A2.out 0 rfl)
    obtain ⟨⟨y10, y11, y12, y13, y14, y15⟩, yf10, yf11, yf12, yf13, yf14, yf15⟩ := run_6 (At.at A2.out 1 rfl)
    obtain ⟨⟨y20, y21, y22, y23, y24, y25⟩, yf20, yf21, yf22, yf23, yf24, yf25⟩ := run_6 (At.at A2.out 2 rfl)
    obtain ⟨y30, yf30⟩ := run_1 (At.at A2.out 3 rfl)
    obtain ⟨⟨y40, y41, y42⟩, yf40, yf41, yf42⟩ := run_3 (At.at A2.out 4 rfl)
    obtain ⟨y50, yf50⟩ := run_1 (At.at A2.out 5 rfl)
    obtain ⟨y60, yf60⟩ := run_1 (At.at A2.out 6 rfl)
    have yz0 := At.lt A2.out 0 rfl
    have yy0 := Nat.lt_succ_of_lt yz0
    have yx0 := Nat.lt_succ_of_lt yy0
    have yz1 := At.lt A2.out 1 rfl
    have yy1 := Nat.lt_succ_of_lt yz1
    have yx1 := Nat.lt_succ_of_lt yy1
    have yz2 := At.lt A2.out 2 rfl
    have yy2 := Nat.lt_succ_of_lt yz2
    have yx2 := Nat.lt_succ_of_lt yy2
    have yz3 := At.lt A2.out 3 rfl
    have yy3 := Nat.lt_succ_of_lt yz3
    have yx3 := Nat.lt_succ_of_lt yy3
    have yz4 := At.lt A2.out 4 rfl
    have yy4 := Nat.lt_succ_of_lt yz4
    have yx4 := Nat.lt_succ_of_lt yy4
    have yz5 := At.lt A2.out 5 rfl
    have yy5 := Nat.lt_succ_of_lt yz5
    have yx5 := Nat.lt_succ_of_lt yy5
    have yz6 := At.lt A2.out 6 rfl
    have yy6 := Nat.lt_succ_of_lt yz6
    have yx6 := Nat.lt_succ_of_lt yy6
    obtain ⟨⟨oc0, oc1⟩, of0, of1⟩ := run_2 O2.out.1
    have oz := O2.out.lt (.inl rfl)
    have oy := Nat.lt_succ_of_lt oz
    go_wp2_with (at_builtin; refine wpList_append_at rfl _ _ 61 rfl N 47 i4 zeroArea 6 48 Try.underlying61 hi4 hz4 hs4 hy4 rfl (by omega) (.slice ab ar.length az) ar.length (ar.flatMap areaCells) rfl (owns_ext O2.out.2.2 ((Ext.refl w2).alloc _)) _ 1 (areaCells a) rfl (SlAt.lit_at w2 _ rfl (areaCells a) 47 6 rfl) (areaCells_one a) (by unfold maxLen; omega) (by omega) (by have := oz; have := hNb; simp; omega) ?_; intro v' w3 ho hg hat; obtain ⟨q0, q1, q2, q3⟩ := O2.out.push_a (x := a) (by simpa [List.flatMap_append] using ho) hg hat; obtain ⟨-, vo, vc, hv', -⟩ := SlAt.of_owns ho; subst hv'; have Q1 := Lib.hid q1; have Q2 := Lib.hid q2; have Q3 := Lib.hid q3; obtain ⟨⟨oc0, oc1⟩, of0, of1⟩ := run_2 q0; have A3 := Lib.hid (show At w3 [(bx, Obj.cells #[.int .i64 a.x0, .int .i64 a.y0, .int .i64 a.x1, .int .i64 a.y1, .int .i64 a.turn, .int .i64 a.scale] 47), (by_, Obj.cells #[.int .i64 a.x0, .int .i64 a.y0, .int .i64 a.x1, .int .i64 a.y1, .int .i64 a.turn, .int .i64 a.scale] 47), (w.heap.size, Obj.cells #[.int .i64 a.x0, .int .i64 a.y0, .int .i64 a.x1, .int .i64 a.y1, .int .i64 a.turn, .int .i64 a.scale] 47), (bs, Obj.cells #[.slice so sn sc] 113), (bm, Obj.cells #[.int .i64 m.w, .int .i64 m.h, .slice mo m.pix.length mc] 24), (bl, Obj.cells #[.int .i64 limit] 3), (bf, Obj.cells #[.func (.func 76) #[] #[.pointer (some ⟨bs, 0, none⟩), .pointer (some ⟨bm, 0, none⟩), .pointer (some ⟨bl, 0, none⟩), .pointer (some ⟨bo, 0, none⟩), .pointer (some ⟨bf, 0, none⟩)]] 120)] from At.grown hg (At.alloc A2.out _) (fun k hk => (NE.out k hk).2.2)); clear ho hg hat q0 q1 q2 q3)
    refine bodyPost_ret (results_none rfl _ _ _) rfl ?_
    exact ⟨_, _, rfl, Q3.out w0 (HE.out.trans X2.out) hN hbo, by simpa using Q1.out, (Upd.of_ext X2.out).trans Q2.out⟩
set_option maxRecDepth 100000 in
set_option maxHeartbeats 16000000 in
theorem c76_one (m : Img) (v : Value) (t : Tpl) (turn scale limit : Int) (sv : Value) (w0 : World) (N bs bm bl bo bf : Nat) (mo so : Option Addr) (mc sn sc : Nat) (hm : m.Camera) (ht : t.Ok) (hps : Posed turn scale) (hN : w0.heap.size ≤ N) (hbo : w0.heap.size ≤ bo) (hNb : N ≤ bo + 1) (hv : IntsAt w0 v m.pix) (hv0 : v = .slice mo m.pix.length mc) (hs0 : sv = .slice so sn sc) (a : Area) (ms : List Match) (ar : List Area) (mv av : Value) (w : World) (ha : a.Ok m) (htu : a.turn = turn) (hsc : a.scale = scale) (hE : Ext w0 w) (hP : ∃ b, w.ownsRow b 141 3 sv (stencil t turn scale t.pix.length).length (pts (stencil t turn scale t.pix.length))) (hA : At w [(bs, Obj.cells #[.slice so sn sc] 113), (bm, Obj.cells #[.int .i64 m.w, .int .i64 m.h, .slice mo m.pix.length mc] 24), (bl, Obj.cells #[.int .i64 limit] 3), (bf, Obj.cells #[.func (.func 76) #[] #[.pointer (some ⟨bs, 0, none⟩), .pointer (some ⟨bm, 0, none⟩), .pointer (some ⟨bl, 0, none⟩), .pointer (some ⟨bo, 0, none⟩), .pointer (some ⟨bf, 0, none⟩)]] 120)]) (hO : OutAt w N bo mv av ms ar) (hn : ms.length < 100000) (hb : ¬ limit < bound m t a) (h1 : a.One) :
    Calls Try.prog 76 #[areaVal a, .pointer (some ⟨bs, 0, none⟩), .pointer (some ⟨bm, 0, none⟩), .pointer (some ⟨bl, 0, none⟩), .pointer (some ⟨bo, 0, none⟩), .pointer (some ⟨bf, 0, none⟩)] w (SearchIs ([matchOf m t a], []) w0 N bo ms ar mv av w) := by
  have HV := Lib.hid hA
  have HO := Lib.hid hO
  have HE := Lib.hid hE
  have HP := Lib.hid (show PtsAt w sv (stencil t a.turn a.scale t.pix.length) by
    obtain ⟨b, h⟩ := hP
    rw [htu, hsc]
    exact SlAt.of_owns h)
  have K70 := Lib.hid (fun w' (h : Ext w0 w') (hs : PtsAt w' sv (stencil t a.turn a.scale t.pix.length)) => c70 m v (stencil t a.turn a.scale t.pix.length) sv a w' hm (hv.ext h) hs ha (Nat.le_trans (stencil_len _ _ _ _) (Tpl.len_bd ht).2) (sten_in ht ha.2.2))
  obtain ⟨bd, hbd⟩ : ∃ bd, bound m t a = bd := ⟨_, rfl⟩
  have hbd' : sumL (fun p => least m p a.x0 a.y0 a.x1 a.y1) (stencil t a.turn a.scale t.pix.length) = bd := hbd
  simp only [hbd'] at K70
  obtain ⟨⟨mb, mz, rfl⟩, ab, az, rfl⟩ := hO.forms
  subst hv0 hs0
  obtain ⟨b1, b2⟩ : (0 ≤ a.x0 ∧ a.x0 ≤ a.x1 ∧ a.x1 ≤ 15) ∧ 0 ≤ a.y0 ∧ a.y0 ≤ a.y1 ∧ a.y1 ≤ 15 := by
    obtain ⟨⟨h1, h2, h3⟩, ⟨h4, h5, h6⟩, -⟩ := ha
    obtain ⟨⟨g1, g2⟩, ⟨g3, g4⟩, -⟩ := hm.1
    refine ⟨⟨?_, ?_, ?_⟩, ?_, ?_, ?_⟩ <;> omega
  obtain ⟨⟨b10, b11, b12⟩, b20, b21, b22⟩ := And.intro b1 b2
  have HPT := Lib.hid hP
  rw [hbd] at hb
  have hb0 : decide (limit < bd) = false := decide_eq_false hb
  clear hb
  have hw0 : (a.x1 - a.x0 == 0) = true := by have := h1.1; simp; omega
  have hw1 : (a.y1 - a.y0 == 0) = true := by have := h1.2; simp; omega
  have HB := Lib.hid hbd
  clear h1
  unfold imgVal at K70
  unfold areaVal
  have HTU := Lib.hid htu
  have HSC := Lib.hid hsc
  obtain ⟨e00, ef00⟩ := run_1 (At.at hA 0 rfl)
  obtain ⟨⟨e10, e11, e12⟩, ef10, ef11, ef12⟩ := run_3 (At.at hA 1 rfl)
  obtain ⟨e20, ef20⟩ := run_1 (At.at hA 2 rfl)
  obtain ⟨e30, ef30⟩ := run_1 (At.at hA 3 rfl)
  have ez0 := At.lt hA 0 rfl
  have ey0 := Nat.lt_succ_of_lt ez0
  have ex0 := Nat.lt_succ_of_lt ey0
  have ez1 := At.lt hA 1 rfl
  have ey1 := Nat.lt_succ_of_lt ez1
  have ex1 := Nat.lt_succ_of_lt ey1
  have ez2 := At.lt hA 2 rfl
  have ey2 := Nat.lt_succ_of_lt ez2
  have ex2 := Nat.lt_succ_of_lt ey2
  have ez3 := At.lt hA 3 rfl
  have ey3 := Nat.lt_succ_of_lt ez3
  have ex3 := Nat.lt_succ_of_lt ey3
  clear hA hO hE hP ha hbd hbd' hv htu hsc b1 b2
  obtain ⟨i8, hi8, hz8, hs8, hy8⟩ := info_parts info80
  obtain ⟨i4, hi4, hz4, hs4, hy4⟩ := info_parts inf47
  go_enter Try.func76, Try.ntmps76
  go_wp2_with (go_at_call 70; (with_reducible refine (K70.out _ (HE.out.alloc _) (PtsAt.ext HP.out ((Ext.refl w).alloc _))).mono ?_); rintro E w1 ⟨rfl, hb1⟩; have A1 := Lib.hid (show At w1 [(w.heap.size, Obj.cells #[.int .i64 a.x0, .int .i64 a.y0, .int .i64 a.x1, .int .i64 a.y1, .int .i64 a.turn, .int .i64 a.scale] 47), (bs, Obj.cells #[.slice so sn sc] 113), (bm, Obj.cells #[.int .i64 m.w, .int .i64 m.h, .slice mo m.pix.length mc] 24), (bl, Obj.cells #[.int .i64 limit] 3), (bf, Obj.cells #[.func (.func 76) #[] #[.pointer (some ⟨bs, 0, none⟩), .pointer (some ⟨bm, 0, none⟩), .pointer (some ⟨bl, 0, none⟩), .pointer (some ⟨bo, 0, none⟩), .pointer (some ⟨bf, 0, none⟩)]] 120)] from At.ext hb1 ⟨blk_at _ _ rfl, At.alloc HV.out _⟩); have X1 := Lib.hid (show Ext w w1 from ((Ext.refl w).alloc _).trans hb1); obtain ⟨⟨x00, x01, x02, x03, x04, x05⟩, xf00, xf01, xf02, xf03, xf04, xf05⟩ := run_6 (At.at A1.out 0 rfl); obtain ⟨x10, xf10⟩ := run_1 (At.at A1.out 1 rfl); obtain ⟨⟨x20, x21, x22⟩, xf20, xf21, xf22⟩ := run_3 (At.at A1.out 2 rfl); obtain ⟨x30, xf30⟩ := run_1 (At.at A1.out 3 rfl); obtain ⟨x40, xf40⟩ := run_1 (At.at A1.out 4 rfl); have xz0 := At.lt A1.out 0 rfl; have xy0 := Nat.lt_succ_of_lt xz0; have xx0 := Nat.lt_succ_of_lt xy0; have xz1 := At.lt A1.out 1 rfl; have xy1 := Nat.lt_succ_of_lt xz1; have xx1 := Nat.lt_succ_of_lt xy1; have xz2 := At.lt A1.out 2 rfl; have xy2 := Nat.lt_succ_of_lt xz2; have xx2 := Nat.lt_succ_of_lt xy2; have xz3 := At.lt A1.out 3 rfl; have xy3 := Nat.lt_succ_of_lt xz3; have xx3 := Nat.lt_succ_of_lt xy3; have xz4 := At.lt A1.out 4 rfl; have xy4 := Nat.lt_succ_of_lt xz4; have xx4 := Nat.lt_succ_of_lt xy4)
  go_quiet (fail)
  go_wp2_with fail
  refine RT.region_two (aq := ?aq1) (n := 2) (sx := 10) (sy := 11) (vx := 26) (vy := 27) (oz := .cells #[.int .i64 0, .int .i64 0, .int .i64 0, .int .i64 0, .int .i64 0, .int .i64 0] 47) (ox := .cells #[.int .i64 a.x0, .int .i64 a.y0, .int .i64 a.x1, .int .i64 a.y1, .int .i64 a.turn, .int .i64 a.scale] 47) (oy := .cells #[.int .i64 a.x0, .int .i64 a.y0, .int .i64 a.x1, .int .i64 a.y1, .int .i64 a.turn, .int .i64 a.scale] 47) (qs := [_, _]) (by kernel_rfl) rfl (by kernel_rfl) (by kernel_rfl) rfl rfl (of_decide_eq_true (by kernel_rfl)) (of_decide_eq_true (by kernel_rfl)) rfl rfl rfl rfl (by kernel_rfl) (by kernel_rfl) (by kernel_rfl) (by kernel_rfl) ?_ ?_ ?_ ?_ ?_ ?_
  rotate_left
  · intro e w
    simp [execOp, go_sem, Try.underlying47]
  · intro e w
    simp [execOp, go_sem, Try.underlying47]
  · intro wq hEq
    have AQ := Lib.hid (show At wq [(w.heap.size, Obj.cells #[.int .i64 a.x0, .int .i64 a.y0, .int .i64 a.x1, .int .i64 a.y1, .int .i64 a.turn, .int .i64 a.scale] 47), (bs, Obj.cells #[.slice so sn sc] 113), (bm, Obj.cells #[.int .i64 m.w, .int .i64 m.h, .slice mo m.pix.length mc] 24), (bl, Obj.cells #[.int .i64 limit] 3), (bf, Obj.cells #[.func (.func 76) #[] #[.pointer (some ⟨bs, 0, none⟩), .pointer (some ⟨bm, 0, none⟩), .pointer (some ⟨bl, 0, none⟩), .pointer (some ⟨bo, 0, none⟩), .pointer (some ⟨bf, 0, none⟩)]] 120)] from At.ext hEq (At.ext ((Ext.refl w1).drewN nq) A1.out))
    obtain ⟨⟨q00, q01, q02, q03, q04, q05⟩, -⟩ := run_6 (At.at AQ.out 0 rfl)
    obtain ⟨q10, -⟩ := run_1 (At.at AQ.out 1 rfl)
    obtain ⟨⟨q20, q21, q22⟩, -⟩ := run_3 (At.at AQ.out 2 rfl)
    obtain ⟨q30, -⟩ := run_1 (At.at AQ.out 3 rfl)
    obtain ⟨q40, -⟩ := run_1 (At.at AQ.out 4 rfl)
    have qz0 := At.lt AQ.out 0 rfl
    have qy0 := Nat.lt_succ_of_lt qz0
    have qx0 := Nat.lt_succ_of_lt qy0
    have qz1 := At.lt AQ.out 1 rfl
    have qy1 := Nat.lt_succ_of_lt qz1
    have qx1 := Nat.lt_succ_of_lt qy1
    have qz2 := At.lt AQ.out 2 rfl
    have qy2 := Nat.lt_succ_of_lt qz2
    have qx2 := Nat.lt_succ_of_lt qy2
    have qz3 := At.lt AQ.out 3 rfl
    have qy3 := Nat.lt_succ_of_lt qz3
    have qx3 := Nat.lt_succ_of_lt qy3
    have qz4 := At.lt AQ.out 4 rfl
    have qy4 := Nat.lt_succ_of_lt qz4
    have qx4 := Nat.lt_succ_of_lt qy4
    clear hEq
    simp only [List.cons_append, List.nil_append]
    repeat (go_big_quiet_step (fail))
    refine wpQuiet_nil ?_
    exact rfl
  · intro e w b h1 h2 h3
    obtain ⟨⟨c0, c1, c2, c3, c4, c5⟩, f0, f1, f2, f3, f4, f5⟩ := run_6 h3
    have h2' : e (.tmp 26) = .agg #[.int .i64 a.x0, .int .i64 a.y0, .int .i64 a.x1, .int .i64 a.y1, .int .i64 a.turn, .int .i64 a.scale] := h2
    apply Exists.intro
    apply And.intro
    · simp [execOp, go_sem, h1, h2', c0, c1, c2, c3, c4, c5, f0, f1, f2, f3, f4, f5, Try.underlying47]
      exact rfl
    · exact store_6 h3
  · intro e w b h1 h2 h3
    obtain ⟨⟨c0, c1, c2, c3, c4, c5⟩, f0, f1, f2, f3, f4, f5⟩ := run_6 h3
    have h2' : e (.tmp 27) = .agg #[.int .i64 a.x0, .int .i64 a.y0, .int .i64 a.x1, .int .i64 a.y1, .int .i64 a.turn, .int .i64 a.scale] := h2
    apply Exists.intro
    apply And.intro
    · simp [execOp, go_sem, h1, h2', c0, c1, c2, c3, c4, c5, f0, f1, f2, f3, f4, f5, Try.underlying47]
      exact rfl
    · exact store_6 h3
  · intro bx by_ w2 hE2 hbx hby hne hX hY
    have X12 := Lib.hid (show Ext w1 w2 from ((Ext.refl w1).drewN nq).trans hE2)
    have X2 := Lib.hid (X1.out.trans X12.out)
    have A2 := Lib.hid (show At w2 [(bx, Obj.cells #[.int .i64 a.x0, .int .i64 a.y0, .int .i64 a.x1, .int .i64 a.y1, .int .i64 a.turn, .int .i64 a.scale] 47), (by_, Obj.cells #[.int .i64 a.x0, .int .i64 a.y0, .int .i64 a.x1, .int .i64 a.y1, .int .i64 a.turn, .int .i64 a.scale] 47), (w.heap.size, Obj.cells #[.int .i64 a.x0, .int .i64 a.y0, .int .i64 a.x1, .int .i64 a.y1, .int .i64 a.turn, .int .i64 a.scale] 47), (bs, Obj.cells #[.slice so sn sc] 113), (bm, Obj.cells #[.int .i64 m.w, .int .i64 m.h, .slice mo m.pix.length mc] 24), (bl, Obj.cells #[.int .i64 limit] 3), (bf, Obj.cells #[.func (.func 76) #[] #[.pointer (some ⟨bs, 0, none⟩), .pointer (some ⟨bm, 0, none⟩), .pointer (some ⟨bl, 0, none⟩), .pointer (some ⟨bo, 0, none⟩), .pointer (some ⟨bf, 0, none⟩)]] 120)] from ⟨hX, hY, At.ext X12.out A1.out⟩)
    have O1 := Lib.hid (HO.out.ext X1.out)
    have O2 := Lib.hid (HO.out.ext X2.out)
    have hbx : w1.heap.size ≤ bx := hbx
    have hby : w1.heap.size ≤ by_ := hby
    have NE := Lib.hid (show ∀ p ∈ [bx, by_, w.heap.size, bs, bm, bl, bf], p ≠ bo ∧ Value.ownBlock (.slice mb ms.length mz) ≠ some p ∧ Value.ownBlock (.slice ab ar.length az) ≠ some p from by
      intro p hp
      simp only [List.mem_cons, List.not_mem_nil, or_false] at hp
      rcases hp with rfl | rfl | rfl | rfl | rfl | rfl | rfl
      · exact O1.out.young hbx
      · exact O1.out.young hby
      · exact HO.out.young (Nat.le_refl _)
      · exact HO.out.ne (At.at HV.out 0 rfl) (by decide) (by decide) (by decide)
      · exact HO.out.ne (At.at HV.out 1 rfl) (by decide) (by decide) (by decide)
      · exact HO.out.ne (At.at HV.out 2 rfl) (by decide) (by decide) (by decide)
      · exact HO.out.ne (At.at HV.out 3 rfl) (by decide) (by decide) (by decide))
    clear hE2 hX hY
    clear x00 x01 x02 x03 x04 x05 x10 x20 x21 x22 x30 x40 xf00 xf01 xf02 xf03 xf04 xf05 xf10 xf20 xf21 xf22 xf30 xf40 xz0 xy0 xx0 xz1 xy1 xx1 xz2 xy2 xx2 xz3 xy3 xx3 xz4 xy4 xx4
    clear e00 e10 e11 e12 e20 e30 ef00 ef10 ef11 ef12 ef20 ef30 ez0 ey0 ex0 ez1 ey1 ex1 ez2 ey2 ex2 ez3 ey3 ex3
    obtain ⟨⟨y00, y01, y02, y03, y04, y05⟩, yf00, yf01, yf02, yf03, yf04, yf05⟩ := run_6 (At.at A2.out 0 rfl)
    obtain ⟨⟨y10, y11, y12, y13, y14, y15⟩, yf10, yf11, yf12, yf13, yf14, yf15⟩ := run_6 (At.at A2.out 1 rfl)
    obtain ⟨⟨y20, y21, y22, y23, y24, y25⟩, yf20, yf21, yf22, yf23, yf24, yf25⟩ := run_6 (At.at A2.out 2 rfl)
    obtain ⟨y30, yf30⟩ := run_1 (At.at A2.out 3 rfl)
    obtain ⟨⟨y40, y41, y42⟩, yf40, yf41, yf42⟩ := run_3 (At.at A2.out 4 rfl)
    obtain ⟨y50, yf50⟩ := run_1 (At.at A2.out 5 rfl)
    obtain ⟨y60, yf60⟩ := run_1 (At.at A2.out 6 rfl)
    have yz0 := At.lt A2.out 0 rfl
    have yy0 := Nat.lt_succ_of_lt yz0
    have yx0 := Nat.lt_succ_of_lt yy0
    have yz1 := At.lt A2.out 1 rfl
    have yy1 := Nat.lt_succ_of_lt yz1
    have yx1 := Nat.lt_succ_of_lt yy1
    have yz2 := At.lt A2.out 2 rfl
    have yy2 := Nat.lt_succ_of_lt yz2
    have yx2 := Nat.lt_succ_of_lt yy2
    have yz3 := At.lt A2.out 3 rfl
    have yy3 := Nat.lt_succ_of_lt yz3
    have yx3 := Nat.lt_succ_of_lt yy3
    have yz4 := At.lt A2.out 4 rfl
    have yy4 := Nat.lt_succ_of_lt yz4
    have yx4 := Nat.lt_succ_of_lt yy4
    have yz5 := At.lt A2.out 5 rfl
    have yy5 := Nat.lt_succ_of_lt yz5
    have yx5 := Nat.lt_succ_of_lt yy5
    have yz6 := At.lt A2.out 6 rfl
    have yy6 := Nat.lt_succ_of_lt yz6
    have yx6 := Nat.lt_succ_of_lt yy6
    obtain ⟨⟨oc0, oc1⟩, of0, of1⟩ := run_2 O2.out.1
    have oz := O2.out.lt (.inl rfl)
    have oy := Nat.lt_succ_of_lt oz
    go_wp2_with (at_builtin; refine wpList_append_at rfl _ _ 60 rfl N 80 i8 zeroMatch 5 40 Try.underlying60 hi8 hz8 hs8 hy8 rfl (by omega) (.slice mb ms.length mz) ms.length (ms.flatMap matchCells) rfl (owns_ext O2.out.2.1 ((Ext.refl w2).alloc _)) _ 1 (matchCells (⟨⟨a.x0, a.y0, a.turn, a.scale⟩, bd⟩ : Match)) rfl (SlAt.lit_at w2 _ rfl (matchCells (⟨⟨a.x0, a.y0, a.turn, a.scale⟩, bd⟩ : Match)) 80 5 rfl) (matchCells_one (⟨⟨a.x0, a.y0, a.turn, a.scale⟩, bd⟩ : Match)) (by unfold maxLen; omega) (by omega) (by have := oz; have := hNb; simp; omega) ?_; intro v' w3 ho hg hat; obtain ⟨q0, q1, q2, q3⟩ := O2.out.push_m (x := (⟨⟨a.x0, a.y0, a.turn, a.scale⟩, bd⟩ : Match)) (by simpa [List.flatMap_append] using ho) hg hat; obtain ⟨-, vo, vc, hv', -⟩ := SlAt.of_owns ho; subst hv'; have Q1 := Lib.hid q1; have Q2 := Lib.hid q2; have Q3 := Lib.hid q3; obtain ⟨⟨oc0, oc1⟩, of0, of1⟩ := run_2 q0; have A3 := Lib.hid (show At w3 [(bx, Obj.cells #[.int .i64 a.x0, .int .i64 a.y0, .int .i64 a.x1, .int .i64 a.y1, .int .i64 a.turn, .int .i64 a.scale] 47), (by_, Obj.cells #[.int .i64 a.x0, .int .i64 a.y0, .int .i64 a.x1, .int .i64 a.y1, .int .i64 a.turn, .int .i64 a.scale] 47), (w.heap.size, Obj.cells #[.int .i64 a.x0, .int .i64 a.y0, .int .i64 a.x1, .int .i64 a.y1, .int .i64 a.turn, .int .i64 a.scale] 47), (bs, Obj.cells #[.slice so sn sc] 113), (bm, Obj.cells #[.int .i64 m.w, .int .i64 m.h, .slice mo m.pix.length mc] 24), (bl, Obj.cells #[.int .i64 limit] 3), (bf, Obj.cells #[.func (.func 76) #[] #[.pointer (some ⟨bs, 0, none⟩), .pointer (some ⟨bm, 0, none⟩), .pointer (some ⟨bl, 0, none⟩), .pointer (some ⟨bo, 0, none⟩), .pointer (some ⟨bf, 0, none⟩)]] 120)] from At.grown hg (At.alloc A2.out _) (fun k hk => (NE.out k hk).2.1)); clear ho hg hat q0 q1 q2 q3)
    refine bodyPost_ret (results_none rfl _ _ _) rfl ?_
    have e : matchOf m t a = ⟨⟨a.x0, a.y0, a.turn, a.scale⟩, bd⟩ := by unfold matchOf; rw [HB.out]
    rw [e]
    exact ⟨_, _, rfl, Q3.out w0 (HE.out.trans X2.out) hN hbo, by simpa using Q1.out, (Upd.of_ext X2.out).trans Q2.out⟩
end Go.Proofs.Ytipkjdfnoonpcaa

/- The closure 'search': two halves: the walk. -/
namespace Go.Proofs.Ytipkjdfnoonpcaa
open Go.RowKit Go.Sort

set_option maxRecDepth 100000 in
set_option maxHeartbeats 16000000 in
theorem c76_wide (m : Img) (v : Value) (t : Tpl) (turn scale limit : Int) (sv : Value) (w0 : World) (N bs bm bl bo bf : Nat) (mo so : Option Addr) (mc sn sc : Nat) (hm : m.Camera) (ht : t.Ok) (hps : Posed turn scale) (hN : w0.heap.size ≤ N) (hbo : w0.heap.size ≤ bo) (hNb : N ≤ bo + 1) (hv : IntsAt w0 v m.pix) (hv0 : v = .slice mo m.pix.length mc) (hs0 : sv = .slice so sn sc) (a : Area) (ms : List Match) (ar : List Area) (mv av : Value) (w : World) (ha : a.Ok m) (htu : a.turn = turn) (hsc : a.scale = scale) (hE : Ext w0 w) (hP : ∃ b, w.ownsRow b 141 3 sv (stencil t turn scale t.pix.length).length (pts (stencil t turn scale t.pix.length))) (hA : At w [(bs, Obj.cells #[.slice so sn sc] 113), (bm, Obj.cells #[.int .i64 m.w, .int .i64 m.h, .slice mo m.pix.length mc] 24), (bl, Obj.cells #[.int .i64 limit] 3), (bf, Obj.cells #[.func (.func 76) #[] #[.pointer (some ⟨bs, 0, none⟩), .pointer (some ⟨bm, 0, none⟩), .pointer (some ⟨bl, 0, none⟩), .pointer (some ⟨bo, 0, none⟩), .pointer (some ⟨bf, 0, none⟩)]] 120)]) (hO : OutAt w N bo mv av ms ar) (SL SR : List Match × List Area) (ihL : ∀ (ms : List Match) (ar : List Area) (mv av : Value) (w : World), Ext w0 w → (∃ b, w.ownsRow b 141 3 sv (stencil t turn scale t.pix.length).length (pts (stencil t turn scale t.pix.length))) → At w [(bs, Obj.cells #[.slice so sn sc] 113), (bm, Obj.cells #[.int .i64 m.w, .int .i64 m.h, .slice mo m.pix.length mc] 24), (bl, Obj.cells #[.int .i64 limit] 3), (bf, Obj.cells #[.func (.func 76) #[] #[.pointer (some ⟨bs, 0, none⟩), .pointer (some ⟨bm, 0, none⟩), .pointer (some ⟨bl, 0, none⟩), .pointer (some ⟨bo, 0, none⟩), .pointer (some ⟨bf, 0, none⟩)]] 120)] → OutAt w N bo mv av ms ar → ms.length + SL.1.length ≤ 100000 → ar.length + SL.2.length ≤ 100000 → Calls Try.prog 76 #[areaVal (leftOf a), .pointer (some ⟨bs, 0, none⟩), .pointer (some ⟨bm, 0, none⟩), .pointer (some ⟨bl, 0, none⟩), .pointer (some ⟨bo, 0, none⟩), .pointer (some ⟨bf, 0, none⟩)] w (SearchIs SL w0 N bo ms ar mv av w)) (ihR : ∀ (ms : List Match) (ar : List Area) (mv av : Value) (w : World), Ext w0 w → (∃ b, w.ownsRow b 141 3 sv (stencil t turn scale t.pix.length).length (pts (stencil t turn scale t.pix.length))) → At w [(bs, Obj.cells #[.slice so sn sc] 113), (bm, Obj.cells #[.int .i64 m.w, .int .i64 m.h, .slice mo m.pix.length mc] 24), (bl, Obj.cells #[.int .i64 limit] 3), (bf, Obj.cells #[.func (.func 76) #[] #[.pointer (some ⟨bs, 0, none⟩), .pointer (some ⟨bm, 0, none⟩), .pointer (some ⟨bl, 0, none⟩), .pointer (some ⟨bo, 0, none⟩), .pointer (some ⟨bf, 0, none⟩)]] 120)] → OutAt w N bo mv av ms ar → ms.length + SR.1.length ≤ 100000 → ar.length + SR.2.length ≤ 100000 → Calls Try.prog 76 #[areaVal (rightOf a), .pointer (some ⟨bs, 0, none⟩), .pointer (some ⟨bm, 0, none⟩), .pointer (some ⟨bl, 0, none⟩), .pointer (some ⟨bo, 0, none⟩), .pointer (some ⟨bf, 0, none⟩)] w (SearchIs SR w0 N bo ms ar mv av w)) (hs1 : ms.length + (SL.1.length + SR.1.length) ≤ 100000) (hs2 : ar.length + (SL.2.length + SR.2.length) ≤ 100000) (hb : ¬ limit < bound m t a) (h1 : ¬ a.One) (hw : a.y1 - a.y0 ≤ a.x1 - a.x0) :
    Calls Try.prog 76 #[areaVal a, .pointer (some ⟨bs, 0, none⟩), .pointer (some ⟨bm, 0, none⟩), .pointer (some ⟨bl, 0, none⟩), .pointer (some ⟨bo, 0, none⟩), .pointer (some ⟨bf, 0, none⟩)] w (SearchIs (SL.1 ++ SR.1, SL.2 ++ SR.2) w0 N bo ms ar mv av w) := by
  have HV := Lib.hid hA
  have HO := Lib.hid hO
  have HE := Lib.hid hE
  have HP := Lib.hid (show PtsAt w sv (stencil t a.turn a.scale t.pix.length) by
    obtain ⟨b, h⟩ := hP
    rw [htu, hsc]
    exact SlAt.of_owns h)
  have K70 := Lib.hid (fun w' (h : Ext w0 w') (hs : PtsAt w' sv (stencil t a.turn a.scale t.pix.length)) => c70 m v (stencil t a.turn a.scale t.pix.length) sv a w' hm (hv.ext h) hs ha (Nat.le_trans (stencil_len _ _ _ _) (Tpl.len_bd ht).2) (sten_in ht ha.2.2))
  obtain ⟨bd, hbd⟩ : ∃ bd, bound m t a = bd := ⟨_, rfl⟩
  have hbd' : sumL (fun p => least m p a.x0 a.y0 a.x1 a.y1) (stencil t a.turn a.scale t.pix.length) = bd := hbd
  simp only [hbd'] at K70
  obtain ⟨⟨mb, mz, rfl⟩, ab, az, rfl⟩ := hO.forms
  subst hv0 hs0
  obtain ⟨b1, b2⟩ : (0 ≤ a.x0 ∧ a.x0 ≤ a.x1 ∧ a.x1 ≤ 15) ∧ 0 ≤ a.y0 ∧ a.y0 ≤ a.y1 ∧ a.y1 ≤ 15 := by
    obtain ⟨⟨h1, h2, h3⟩, ⟨h4, h5, h6⟩, -⟩ := ha
    obtain ⟨⟨g1, g2⟩, ⟨g3, g4⟩, -⟩ := hm.1
    refine ⟨⟨?_, ?_, ?_⟩, ?_, ?_, ?_⟩ <;> omega
  obtain ⟨⟨b10, b11, b12⟩, b20, b21, b22⟩ := And.intro b1 b2
  have HPT := Lib.hid hP
  rw [hbd] at hb
  have hb0 : decide (limit < bd) = false := decide_eq_false hb
  clear hb
  rw [left_wide hw] at ihL
  rw [right_wide hw] at ihR
  unfold areaVal at ihL ihR
  have IL := Lib.hid ihL
  have IR := Lib.hid ihR
  clear ihL ihR
  have hw0 : (a.x1 - a.x0 == 0) = false := by unfold Area.One at h1; simp; omega
  have hw2 : decide (a.y1 - a.y0 ≤ a.x1 - a.x0) = true := decide_eq_true hw
  clear h1 hw
  unfold imgVal at K70
  unfold areaVal
  have HTU := Lib.hid htu
  have HSC := Lib.hid hsc
  obtain ⟨e00, ef00⟩ := run_1 (At.at hA 0 rfl)
  obtain ⟨⟨e10, e11, e12⟩, ef10, ef11, ef12⟩ := run_3 (At.at hA 1 rfl)
  obtain ⟨e20, ef20⟩ := run_1 (At.at hA 2 rfl)
  obtain ⟨e30, ef30⟩ := run_1 (At.at hA 3 rfl)
  have ez0 := At.lt hA 0 rfl
  have ey0 := Nat.lt_succ_of_lt ez0
  have ex0 := Nat.lt_succ_of_lt ey0
  have ez1 := At.lt hA 1 rfl
  have ey1 := Nat.lt_succ_of_lt ez1
  have ex1 := Nat.lt_succ_of_lt ey1
  have ez2 := At.lt hA 2 rfl
  have ey2 := Nat.lt_succ_of_lt ez2
  have ex2 := Nat.lt_succ_of_lt ey2
  have ez3 := At.lt hA 3 rfl
  have ey3 := Nat.lt_succ_of_lt ez3
  have ex3 := Nat.lt_succ_of_lt ey3
  clear hA hO hE hP ha hbd hbd' hv htu hsc b1 b2
  obtain ⟨i8, hi8, hz8, hs8, hy8⟩ := info_parts info80
  obtain ⟨i4, hi4, hz4, hs4, hy4⟩ := info_parts inf47
  go_enter Try.func76, Try.ntmps76
  go_wp2_with (go_at_call 70; (with_reducible refine (K70.out _ (HE.out.alloc _) (PtsAt.ext HP.out ((Ext.refl w).alloc _))).mono ?_); rintro E w1 ⟨rfl, hb1⟩; have A1 := Lib.hid (show At w1 [(w.heap.size, Obj.cells #[.int .i64 a.x0, .int .i64 a.y0, .int .i64 a.x1, .int .i64 a.y1, .int .i64 a.turn, .int .i64 a.scale] 47), (bs, Obj.cells #[.slice so sn sc] 113), (bm, Obj.cells #[.int .i64 m.w, .int .i64 m.h, .slice mo m.pix.length mc] 24), (bl, Obj.cells #[.int .i64 limit] 3), (bf, Obj.cells #[.func (.func 76) #[] #[.pointer (some ⟨bs, 0, none⟩), .pointer (some ⟨bm, 0, none⟩), .pointer (some ⟨bl, 0, none⟩), .pointer (some ⟨bo, 0, none⟩), .pointer (some ⟨bf, 0, none⟩)]] 120)] from At.ext hb1 ⟨blk_at _ _ rfl, At.alloc HV.out _⟩); have X1 := Lib.hid (show Ext w w1 from ((Ext.refl w).alloc _).trans hb1); obtain ⟨⟨x00, x01, x02, x03, x04, x05⟩, xf00, xf01, xf02, xf03, xf04, xf05⟩ := run_6 (At.at A1.out 0 rfl); obtain ⟨x10, xf10⟩ := run_1 (At.at A1.out 1 rfl); obtain ⟨⟨x20, x21, x22⟩, xf20, xf21, xf22⟩ := run_3 (At.at A1.out 2 rfl); obtain ⟨x30, xf30⟩ := run_1 (At.at A1.out 3 rfl); obtain ⟨x40, xf40⟩ := run_1 (At.at A1.out 4 rfl); have xz0 := At.lt A1.out 0 rfl; have xy0 := Nat.lt_succ_of_lt xz0; have xx0 := Nat.lt_succ_of_lt xy0; have xz1 := At.lt A1.out 1 rfl; have xy1 := Nat.lt_succ_of_lt xz1; have xx1 := Nat.lt_succ_of_lt xy1; have xz2 := At.lt A1.out 2 rfl; have xy2 := Nat.lt_succ_of_lt xz2; have xx2 := Nat.lt_succ_of_lt xy2; have xz3 := At.lt A1.out 3 rfl; have xy3 := Nat.lt_succ_of_lt xz3; have xx3 := Nat.lt_succ_of_lt xy3; have xz4 := At.lt A1.out 4 rfl; have xy4 := Nat.lt_succ_of_lt xz4; have xx4 := Nat.lt_succ_of_lt xy4)
  go_quiet (fail)
  go_wp2_with fail
  refine RT.region_two (aq := ?aq1) (n := 2) (sx := 10) (sy := 11) (vx := 26) (vy := 27) (oz := .cells #[.int .i64 0, .int .i64 0, .int .i64 0, .int .i64 0, .int .i64 0, .int .i64 0] 47) (ox := .cells #[.int .i64 a.x0, .int .i64 a.y0, .int .i64 a.x1, .int .i64 a.y1, .int .i64 a.turn, .int .i64 a.scale] 47) (oy := .cells #[.int .i64 a.x0, .int .i64 a.y0, .int .i64 a.x1, .int .i64 a.y1, .int .i64 a.turn, .int .i64 a.scale] 47) (qs := [_, _]) (by kernel_rfl) rfl (by kernel_rfl) (by kernel_rfl) rfl rfl (of_decide_eq_true (by kernel_rfl)) (of_decide_eq_true (by kernel_rfl)) rfl rfl rfl rfl (by kernel_rfl) (by kernel_rfl) (by kernel_rfl) (by kernel_rfl) ?_ ?_ ?_ ?_ ?_ ?_
  rotate_left
  · intro e w
    simp [execOp, go_sem, Try.underlying47]
  · intro e w
    simp [execOp, go_sem, Try.underlying47]
  · intro wq hEq
    have AQ := Lib.hid (show At wq [(w.heap.size, Obj.cells #[.int .i64 a.x0, .int .i64 a.y0, .int .i64 a.x1, .int .i64 a.y1, .int .i64 a.turn, .int .i64 a.scale] 47), (bs, Obj.cells #[.slice so sn sc] 113), (bm, Obj.cells #[.int .i64 m.w, .int .i64 m.h, .slice mo m.pix.length mc] 24), (bl, Obj.cells #[.int .i64 limit] 3), (bf, Obj.cells #[.func (.func 76) #[] #[.pointer (some ⟨bs, 0, none⟩), .pointer (some ⟨bm, 0, none⟩), .pointer (some ⟨bl, 0, none⟩), .pointer (some ⟨bo, 0, none⟩), .pointer (some ⟨bf, 0, none⟩)]] 120)] from At.ext hEq (At.ext ((Ext.refl w1).drewN nq) A1.out))
    obtain ⟨⟨q00, q01, q02, q03, q04, q05⟩, -⟩ := run_6 (At.at AQ.out 0 rfl)
    obtain ⟨q10, -⟩ := run_1 (At.at AQ.out 1 rfl)
    obtain ⟨⟨q20, q21, q22⟩, -⟩ := run_3 (At.at AQ.out 2 rfl)
    obtain ⟨q30, -⟩ := run_1 (At.at AQ.out 3 rfl)
    obtain ⟨q40, -⟩ := run_1 (At.at AQ.out 4 rfl)
    have qz0 := At.lt AQ.out 0 rfl
    have qy0 := Nat.lt_succ_of_lt qz0
    have qx0 := Nat.lt_succ_of_lt qy0
    have qz1 := At.lt AQ.out 1 rfl
    have qy1 := Nat.lt_succ_of_lt qz1
    have qx1 := Nat.lt_succ_of_lt qy1
    have qz2 := At.lt AQ.out 2 rfl
    have qy2 := Nat.lt_succ_of_lt qz2
    have qx2 := Nat.lt_succ_of_lt qy2
    have qz3 := At.lt AQ.out 3 rfl
    have qy3 := Nat.lt_succ_of_lt qz3
    have qx3 := Nat.lt_succ_of_lt qy3
    have qz4 := At.lt AQ.out 4 rfl
    have qy4 := Nat.lt_succ_of_lt qz4
    have qx4 := Nat.lt_succ_of_lt qy4
    clear hEq
    simp only [List.cons_append, List.nil_append]
    repeat (go_big_quiet_step (fail))
    refine wpQuiet_nil ?_
    exact rfl
  · intro e w b h1 h2 h3
    obtain ⟨⟨c0, c1, c2, c3, c4, c5⟩, f0, f1, f2, f3, f4, f5⟩ := run_6 h3
    have h2' : e (.tmp 26) = .agg #[.int .i64 a.x0, .int .i64 a.y0, .int .i64 a.x1, .int .i64 a.y1, .int .i64 a.turn, .int .i64 a.scale] := h2
    apply Exists.intro
    apply And.intro
    · simp [execOp, go_sem, h1, h2', c0, c1, c2, c3, c4, c5, f0, f1, f2, f3, f4, f5, Try.underlying47]
      exact rfl
    · exact store_6 h3
  · intro e w b h1 h2 h3
    obtain ⟨⟨c0, c1, c2, c3, c4, c5⟩, f0, f1, f2, f3, f4, f5⟩ := run_6 h3
    have h2' : e (.tmp 27) = .agg #[.int .i64 a.x0, .int .i64 a.y0, .int .i64 a.x1, .int .i64 a.y1, .int .i64 a.turn, .int .i64 a.scale] := h2
    apply Exists.intro
    apply And.intro
    · simp [execOp, go_sem, h1, h2', c0, c1, c2, c3, c4, c5, f0, f1, f2, f3, f4, f5, Try.underlying47]
      exact rfl
    · exact store_6 h3
  · intro bx by_ w2 hE2 hbx hby hne hX hY
    have X12 := Lib.hid (show Ext w1 w2 from ((Ext.refl w1).drewN nq).trans hE2)
    have X2 := Lib.hid (X1.out.trans X12.out)
    have A2 := Lib.hid (show At w2 [(bx, Obj.cells #[.int .i64 a.x0, .int .i64 a.y0, .int .i64 a.x1, .int .i64 a.y1, .int .i64 a.turn, .int .i64 a.scale] 47), (by_, Obj.cells #[.int .i64 a.x0, .int .i64 a.y0, .int .i64 a.x1, .int .i64 a.y1, .int .i64 a.turn, .int .i64 a.scale] 47), (w.heap.size, Obj.cells #[.int .i64 a.x0, .int .i64 a.y0, .int .i64 a.x1, .int .i64 a.y1, .int .i64 a.turn, .int .i64 a.scale] 47), (bs, Obj.cells #[.slice so sn sc] 113), (bm, Obj.cells #[.int .i64 m.w, .int .i64 m.h, .slice mo m.pix.length mc] 24), (bl, Obj.cells #[.int .i64 limit] 3), (bf, Obj.cells #[.func (.func 76) #[] #[.pointer (some ⟨bs, 0, none⟩), .pointer (some ⟨bm, 0, none⟩), .pointer (some ⟨bl, 0, none⟩), .pointer (some ⟨bo, 0, none⟩), .pointer (some ⟨bf, 0, none⟩)]] 120)] from ⟨hX, hY, At.ext X12.out A1.out⟩)
    have O1 := Lib.hid (HO.out.ext X1.out)
    have O2 := Lib.hid (HO.out.ext X2.out)
    have hbx : w1.heap.size ≤ bx := hbx
    have hby : w1.heap.size ≤ by_ := hby
    have NE := Lib.hid (show ∀ p ∈ [bx, by_, w.heap.size, bs, bm, bl, bf], p ≠ bo ∧ Value.ownBlock (.slice mb ms.length mz) ≠ some p ∧ Value.ownBlock (.slice ab ar.length az) ≠ some p from by
      intro p hp
      simp only [List.mem_cons, List.not_mem_nil, or_false] at hp
      rcases hp with rfl | rfl | rfl | rfl | rfl | rfl | rfl
      · exact O1.out.young hbx
      · exact O1.out.young hby
      · exact HO.out.young (Nat.le_refl _)
      · exact HO.out.ne (At.at HV.out 0 rfl) (by decide) (by decide) (by decide)
      · exact HO.out.ne (At.at HV.out 1 rfl) (by decide) (by decide) (by decide)
      · exact HO.out.ne (At.at HV.out 2 rfl) (by decide) (by decide) (by decide)
      · exact HO.out.ne (At.at HV.out 3 rfl) (by decide) (by decide) (by decide))
    clear hE2 hX hY
    clear x00 x01 x02 x03 x04 x05 x10 x20 x21 x22 x30 x40 xf00 xf01 xf02 xf03 xf04 xf05 xf10 xf20 xf21 xf22 xf30 xf40 xz0 xy0 xx0 xz1 xy1 xx1 xz2 xy2 xx2 xz3 xy3 xx3 xz4 xy4 xx4
    clear e00 e10 e11 e12 e20 e30 ef00 ef10 ef11 ef12 ef20 ef30 ez0 ey0 ex0 ez1 ey1 ex1 ez2 ey2 ex2 ez3 ey3 ex3
    obtain ⟨⟨y00, y01, y02, y03, y04, y05⟩, yf00, yf01, yf02, yf03, yf04, yf05⟩ := run_6 (At.at A2.out 0 rfl)
    obtain ⟨⟨y10, y11, y12, y13, y14, y15⟩, yf10, yf11, yf12, yf13, yf14, yf15⟩ := run_6 (At.at A2.out 1 rfl)
    obtain ⟨⟨y20, y21, y22, y23, y24, y25⟩, yf20, yf21, yf22, yf23, yf24, yf25⟩ := run_6 (At.at A2.out 2 rfl)
    obtain ⟨y30, yf30⟩ := run_1 (At.at A2.out 3 rfl)
    obtain ⟨⟨y40, y41, y42⟩, yf40, yf41, yf42⟩ := run_3 (At.at A2.out 4 rfl)
    obtain ⟨y50, yf50⟩ := run_1 (At.at A2.out 5 rfl)
    obtain ⟨y60, yf60⟩ := run_1 (At.at A2.out 6 rfl)
    have yz0 := At.lt A2.out 0 rfl
    have yy0 := Nat.lt_succ_of_lt yz0
    have yx0 := Nat.lt_succ_of_lt yy0
    have yz1 := At.lt A2.out 1 rfl
    have yy1 := Nat.lt_succ_of_lt yz1
    have yx1 := Nat.lt_succ_of_lt yy1
    have yz2 := At.lt A2.out 2 rfl
    have yy2 := Nat.lt_succ_of_lt yz2
    have yx2 := Nat.lt_succ_of_lt yy2
    have yz3 := At.lt A2.out 3 rfl
    have yy3 := Nat.lt_succ_of_lt yz3
    have yx3 := Nat.lt_succ_of_lt yy3
    have yz4 := At.lt A2.out 4 rfl
    have yy4 := Nat.lt_succ_of_lt yz4
    have yx4 := Nat.lt_succ_of_lt yy4
    have yz5 := At.lt A2.out 5 rfl
    have yy5 := Nat.lt_succ_of_lt yz5
    have yx5 := Nat.lt_succ_of_lt yy5
    have yz6 := At.lt A2.out 6 rfl
    have yy6 := Nat.lt_succ_of_lt yz6
    have yx6 := Nat.lt_succ_of_lt yy6
    obtain ⟨⟨oc0, oc1⟩, of0, of1⟩ := run_2 O2.out.1
    have oz := O2.out.lt (.inl rfl)
    have oy := Nat.lt_succ_of_lt oz
    have s1 := st_one (At.at A2.out 0 rfl) 2 (.int .i64 ((a.x0 + a.x1) / 2))
    have s2 := st_one ((s1.2.1 by_ (fun e => hne e.symm)).trans (At.at A2.out 1 rfl)) 0 (.int .i64 ((a.x0 + a.x1) / 2 + 1))
    have d0 := At.lt A1.out 0 rfl
    have d1 := At.lt A1.out 1 rfl
    have d2 := At.lt A1.out 2 rfl
    have d3 := At.lt A1.out 3 rfl
    have d4 := At.lt A1.out 4 rfl
    have A4 := Lib.hid (show At ((w2.setCell ⟨bx, 2, none⟩ (.int .i64 ((a.x0 + a.x1) / 2))).setCell ⟨by_, 0, none⟩ (.int .i64 ((a.x0 + a.x1) / 2 + 1))) [(bx, Obj.cells #[.int .i64 a.x0, .int .i64 a.y0, .int .i64 ((a.x0 + a.x1) / 2), .int .i64 a.y1, .int .i64 a.turn, .int .i64 a.scale] 47), (by_, Obj.cells #[.int .i64 ((a.x0 + a.x1) / 2 + 1), .int .i64 a.y0, .int .i64 a.x1, .int .i64 a.y1, .int .i64 a.turn, .int .i64 a.scale] 47), (w.heap.size, Obj.cells #[.int .i64 a.x0, .int .i64 a.y0, .int .i64 a.x1, .int .i64 a.y1, .int .i64 a.turn, .int .i64 a.scale] 47), (bs, Obj.cells #[.slice so sn sc] 113), (bm, Obj.cells #[.int .i64 m.w, .int .i64 m.h, .slice mo m.pix.length mc] 24), (bl, Obj.cells #[.int .i64 limit] 3), (bf, Obj.cells #[.func (.func 76) #[] #[.pointer (some ⟨bs, 0, none⟩), .pointer (some ⟨bm, 0, none⟩), .pointer (some ⟨bl, 0, none⟩), .pointer (some ⟨bo, 0, none⟩), .pointer (some ⟨bf, 0, none⟩)]] 120)] from ⟨(s2.2.1 bx hne).trans s1.1, s2.1, ((s2.2.1 _ (Nat.ne_of_lt (Nat.lt_of_lt_of_le d0 hby))).trans (s1.2.1 _ (Nat.ne_of_lt (Nat.lt_of_lt_of_le d0 hbx)))).trans (At.at A2.out 2 rfl), ((s2.2.1 _ (Nat.ne_of_lt (Nat.lt_of_lt_of_le d1 hby))).trans (s1.2.1 _ (Nat.ne_of_lt (Nat.lt_of_lt_of_le d1 hbx)))).trans (At.at A2.out 3 rfl), ((s2.2.1 _ (Nat.ne_of_lt (Nat.lt_of_lt_of_le d2 hby))).trans (s1.2.1 _ (Nat.ne_of_lt (Nat.lt_of_lt_of_le d2 hbx)))).trans (At.at A2.out 4 rfl), ((s2.2.1 _ (Nat.ne_of_lt (Nat.lt_of_lt_of_le d3 hby))).trans (s1.2.1 _ (Nat.ne_of_lt (Nat.lt_of_lt_of_le d3 hbx)))).trans (At.at A2.out 5 rfl), ((s2.2.1 _ (Nat.ne_of_lt (Nat.lt_of_lt_of_le d4 hby))).trans (s1.2.1 _ (Nat.ne_of_lt (Nat.lt_of_lt_of_le d4 hbx)))).trans (At.at A2.out 6 rfl), trivial⟩)
    have X4 := Lib.hid (show Ext w ((w2.setCell ⟨bx, 2, none⟩ (.int .i64 ((a.x0 + a.x1) / 2))).setCell ⟨by_, 0, none⟩ (.int .i64 ((a.x0 + a.x1) / 2 + 1))) from (X2.out.setCell (p := ⟨bx, 2, none⟩) (Nat.le_trans X1.out.size hbx) _).setCell (p := ⟨by_, 0, none⟩) (Nat.le_trans X1.out.size hby) _)
    have E4 := Lib.hid (HE.out.trans X4.out)
    have AE4 := Lib.hid (show At ((w2.setCell ⟨bx, 2, none⟩ (.int .i64 ((a.x0 + a.x1) / 2))).setCell ⟨by_, 0, none⟩ (.int .i64 ((a.x0 + a.x1) / 2 + 1))) [(bs, Obj.cells #[.slice so sn sc] 113), (bm, Obj.cells #[.int .i64 m.w, .int .i64 m.h, .slice mo m.pix.length mc] 24), (bl, Obj.cells #[.int .i64 limit] 3), (bf, Obj.cells #[.func (.func 76) #[] #[.pointer (some ⟨bs, 0, none⟩), .pointer (some ⟨bm, 0, none⟩), .pointer (some ⟨bl, 0, none⟩), .pointer (some ⟨bo, 0, none⟩), .pointer (some ⟨bf, 0, none⟩)]] 120)] from A4.out.2.2.2)
    have P4 := Lib.hid (show ∃ b, ((w2.setCell ⟨bx, 2, none⟩ (.int .i64 ((a.x0 + a.x1) / 2))).setCell ⟨by_, 0, none⟩ (.int .i64 ((a.x0 + a.x1) / 2 + 1))).ownsRow b 141 3 (.slice so sn sc) (stencil t turn scale t.pix.length).length (pts (stencil t turn scale t.pix.length)) from by obtain ⟨b, h⟩ := HPT.out; exact ⟨b, owns_ext h X4.out⟩)
    have O4 := Lib.hid (show OutAt ((w2.setCell ⟨bx, 2, none⟩ (.int .i64 ((a.x0 + a.x1) / 2))).setCell ⟨by_, 0, none⟩ (.int .i64 ((a.x0 + a.x1) / 2 + 1))) N bo (.slice mb ms.length mz) (.slice ab ar.length az) ms ar from (O2.out.set (fun k hk => Nat.lt_of_lt_of_le (O1.out.lt hk) hbx)).set (fun k hk => Nat.lt_of_lt_of_le (O1.out.lt hk) hby))
    clear s1 s2 d0 d1 d2 d3 d4
    obtain ⟨⟨u00, u01, u02, u03, u04, u05⟩, -⟩ := run_6 (At.at A4.out 0 rfl)
    obtain ⟨⟨u10, u11, u12, u13, u14, u15⟩, -⟩ := run_6 (At.at A4.out 1 rfl)
    obtain ⟨⟨u20, u21, u22, u23, u24, u25⟩, -⟩ := run_6 (At.at A4.out 2 rfl)
    obtain ⟨u30, -⟩ := run_1 (At.at A4.out 3 rfl)
    obtain ⟨⟨u40, u41, u42⟩, -⟩ := run_3 (At.at A4.out 4 rfl)
    obtain ⟨u50, -⟩ := run_1 (At.at A4.out 5 rfl)
    obtain ⟨u60, -⟩ := run_1 (At.at A4.out 6 rfl)
    have uz0 := At.lt A4.out 0 rfl
    have uy0 := Nat.lt_succ_of_lt uz0
    have ux0 := Nat.lt_succ_of_lt uy0
    have uz1 := At.lt A4.out 1 rfl
    have uy1 := Nat.lt_succ_of_lt uz1
    have ux1 := Nat.lt_succ_of_lt uy1
    have uz2 := At.lt A4.out 2 rfl
    have uy2 := Nat.lt_succ_of_lt uz2
    have ux2 := Nat.lt_succ_of_lt uy2
    have uz3 := At.lt A4.out 3 rfl
    have uy3 := Nat.lt_succ_of_lt uz3
    have ux3 := Nat.lt_succ_of_lt uy3
    have uz4 := At.lt A4.out 4 rfl
    have uy4 := Nat.lt_succ_of_lt uz4
    have ux4 := Nat.lt_succ_of_lt uy4
    have uz5 := At.lt A4.out 5 rfl
    have uy5 := Nat.lt_succ_of_lt uz5
    have ux5 := Nat.lt_succ_of_lt uy5
    have uz6 := At.lt A4.out 6 rfl
    have uy6 := Nat.lt_succ_of_lt uz6
    have ux6 := Nat.lt_succ_of_lt uy6
    have z1 : ms.length + SL.1.length ≤ 100000 := by omega
    have z2 : ar.length + SL.2.length ≤ 100000 := by omega
    have z3 : (ms ++ SL.1).length + SR.1.length ≤ 100000 := by rw [List.length_append]; omega
    have z4 : (ar ++ SL.2).length + SR.2.length ≤ 100000 := by rw [List.length_append]; omega
    go_wp2_with (first | (have _q := E5; go_at_call 76; (with_reducible refine (IR.out _ _ _ _ _ E5.out P5.out AE5.out O5.out z3 z4).mono ?_); rintro E w6 ⟨mv6, av6, rfl, hE6, hO6, hU6⟩; have E6 := Lib.hid hE6; have O6 := Lib.hid hO6; have U6 := Lib.hid hU6; clear hE6 hO6 hU6) | (go_at_call 76; (with_reducible refine (IL.out _ _ _ _ _ E4.out P4.out AE4.out O4.out z1 z2).mono ?_); rintro E w5 ⟨mv5, av5, rfl, hE5, hO5, hU5⟩; have E5 := Lib.hid hE5; have O5 := Lib.hid hO5; have U5 := Lib.hid hU5; have A5 := Lib.hid (show At w5 [(bx, Obj.cells #[.int .i64 a.x0, .int .i64 a.y0, .int .i64 ((a.x0 + a.x1) / 2), .int .i64 a.y1, .int .i64 a.turn, .int .i64 a.scale] 47), (by_, Obj.cells #[.int .i64 ((a.x0 + a.x1) / 2 + 1), .int .i64 a.y0, .int .i64 a.x1, .int .i64 a.y1, .int .i64 a.turn, .int .i64 a.scale] 47), (w.heap.size, Obj.cells #[.int .i64 a.x0, .int .i64 a.y0, .int .i64 a.x1, .int .i64 a.y1, .int .i64 a.turn, .int .i64 a.scale] 47), (bs, Obj.cells #[.slice so sn sc] 113), (bm, Obj.cells #[.int .i64 m.w, .int .i64 m.h, .slice mo m.pix.length mc] 24), (bl, Obj.cells #[.int .i64 limit] 3), (bf, Obj.cells #[.func (.func 76) #[] #[.pointer (some ⟨bs, 0, none⟩), .pointer (some ⟨bm, 0, none⟩), .pointer (some ⟨bl, 0, none⟩), .pointer (some ⟨bo, 0, none⟩), .pointer (some ⟨bf, 0, none⟩)]] 120)] from At.upd hU5 A4.out NE.out); have AE5 := Lib.hid (show At w5 [(bs, Obj.cells #[.slice so sn sc] 113), (bm, Obj.cells #[.int .i64 m.w, .int .i64 m.h, .slice mo m.pix.length mc] 24), (bl, Obj.cells #[.int .i64 limit] 3), (bf, Obj.cells #[.func (.func 76) #[] #[.pointer (some ⟨bs, 0, none⟩), .pointer (some ⟨bm, 0, none⟩), .pointer (some ⟨bl, 0, none⟩), .pointer (some ⟨bo, 0, none⟩), .pointer (some ⟨bf, 0, none⟩)]] 120)] from A5.out.2.2.2); have P5 := Lib.hid (show ∃ b, w5.ownsRow b 141 3 (.slice so sn sc) (stencil t turn scale t.pix.length).length (pts (stencil t turn scale t.pix.length)) from by obtain ⟨b, h⟩ := P4.out; exact ⟨b, owns_upd hU5 h fun k hk => by obtain ⟨cur, fr, hc⟩ := owns_type h k hk; exact O4.out.ne hc (by decide) (by decide) (by decide)⟩); clear hE5 hO5 hU5; obtain ⟨⟨v00, v01, v02, v03, v04, v05⟩, -⟩ := run_6 (At.at A5.out 0 rfl); obtain ⟨⟨v10, v11, v12, v13, v14, v15⟩, -⟩ := run_6 (At.at A5.out 1 rfl); obtain ⟨⟨v20, v21, v22, v23, v24, v25⟩, -⟩ := run_6 (At.at A5.out 2 rfl); obtain ⟨v30, -⟩ := run_1 (At.at A5.out 3 rfl); obtain ⟨⟨v40, v41, v42⟩, -⟩ := run_3 (At.at A5.out 4 rfl); obtain ⟨v50, -⟩ := run_1 (At.at A5.out 5 rfl); obtain ⟨v60, -⟩ := run_1 (At.at A5.out 6 rfl); have vz0 := At.lt A5.out 0 rfl; have vy0 := Nat.lt_succ_of_lt vz0; have vx0 := Nat.lt_succ_of_lt vy0; have vz1 := At.lt A5.out 1 rfl; have vy1 := Nat.lt_succ_of_lt vz1; have vx1 := Nat.lt_succ_of_lt vy1; have vz2 := At.lt A5.out 2 rfl; have vy2 := Nat.lt_succ_of_lt vz2; have vx2 := Nat.lt_succ_of_lt vy2; have vz3 := At.lt A5.out 3 rfl; have vy3 := Nat.lt_succ_of_lt vz3; have vx3 := Nat.lt_succ_of_lt vy3; have vz4 := At.lt A5.out 4 rfl; have vy4 := Nat.lt_succ_of_lt vz4; have vx4 := Nat.lt_succ_of_lt vy4; have vz5 := At.lt A5.out 5 rfl; have vy5 := Nat.lt_succ_of_lt vz5; have vx5 := Nat.lt_succ_of_lt vy5; have vz6 := At.lt A5.out 6 rfl; have vy6 := Nat.lt_succ_of_lt vz6; have vx6 := Nat.lt_succ_of_lt vy6))
    refine bodyPost_ret (results_none rfl _ _ _) rfl ?_
    exact ⟨_, _, rfl, E6.out, by have := O6.out; simp only [List.append_assoc] at this; exact this, (Upd.of_ext X4.out).trans (U5.out.trans U6.out)⟩
end Go.Proofs.Ytipkjdfnoonpcaa

/- The closure 'search': two halves, the one above the other: the walk; and the whole by induction. -/
namespace Go.Proofs.Ytipkjdfnoonpcaa
open Go.RowKit Go.Sort

set_option maxRecDepth 100000 in
set_option maxHeartbeats 16000000 in
theorem c76_high0 (m : Img) (v : Value) (t : Tpl) (turn scale limit : Int) (sv : Value) (w0 : World) (N bs bm bl bo bf : Nat) (mo so : Option Addr) (mc sn sc : Nat) (hm : m.Camera) (ht : t.Ok) (hps : Posed turn scale) (hN : w0.heap.size ≤ N) (hbo : w0.heap.size ≤ bo) (hNb : N ≤ bo + 1) (hv : IntsAt w0 v m.pix) (hv0 : v = .slice mo m.pix.length mc) (hs0 : sv = .slice so sn sc) (a : Area) (ms : List Match) (ar : List Area) (mv av : Value) (w : World) (ha : a.Ok m) (htu : a.turn = turn) (hsc : a.scale = scale) (hE : Ext w0 w) (hP : ∃ b, w.ownsRow b 141 3 sv (stencil t turn scale t.pix.length).length (pts (stencil t turn scale t.pix.length))) (hA : At w [(bs, Obj.cells #[.slice so sn sc] 113), (bm, Obj.cells #[.int .i64 m.w, .int .i64 m.h, .slice mo m.pix.length mc] 24), (bl, Obj.cells #[.int .i64 limit] 3), (bf, Obj.cells #[.func (.func 76) #[] #[.pointer (some ⟨bs, 0, none⟩), .pointer (some ⟨bm, 0, none⟩), .pointer (some ⟨bl, 0, none⟩), .pointer (some ⟨bo, 0, none⟩), .pointer (some ⟨bf, 0, none⟩)]] 120)]) (hO : OutAt w N bo mv av ms ar) (SL SR : List Match × List Area) (ihL : ∀ (ms : List Match) (ar : List Area) (mv av : Value) (w : World), Ext w0 w → (∃ b, w.ownsRow b 141 3 sv (stencil t turn scale t.pix.length).length (pts (stencil t turn scale t.pix.length))) → At w [(bs, Obj.cells #[.slice so sn sc] 113), (bm, Obj.cells #[.int .i64 m.w, .int .i64 m.h, .slice mo m.pix.length mc] 24), (bl, Obj.cells #[.int .i64 limit] 3), (bf, Obj.cells #[.func (.func 76) #[] #[.pointer (some ⟨bs, 0, none⟩), .pointer (some ⟨bm, 0, none⟩), .pointer (some ⟨bl, 0, none⟩), .pointer (some ⟨bo, 0, none⟩), .pointer (some ⟨bf, 0, none⟩)]] 120)] → OutAt w N bo mv av ms ar → ms.length + SL.1.length ≤ 100000 → ar.length + SL.2.length ≤ 100000 → Calls Try.prog 76 #[areaVal (leftOf a), .pointer (some ⟨bs, 0, none⟩), .pointer (some ⟨bm, 0, none⟩), .pointer (some ⟨bl, 0, none⟩), .pointer (some ⟨bo, 0, none⟩), .pointer (some ⟨bf, 0, none⟩)] w (SearchIs SL w0 N bo ms ar mv av w)) (ihR : ∀ (ms : List Match) (ar : List Area) (mv av : Value) (w : World), Ext w0 w → (∃ b, w.ownsRow b 141 3 sv (stencil t turn scale t.pix.length).length (pts (stencil t turn scale t.pix.length))) → At w [(bs, Obj.cells #[.slice so sn sc] 113), (bm, Obj.cells #[.int .i64 m.w, .int .i64 m.h, .slice mo m.pix.length mc] 24), (bl, Obj.cells #[.int .i64 limit] 3), (bf, Obj.cells #[.func (.func 76) #[] #[.pointer (some ⟨bs, 0, none⟩), .pointer (some ⟨bm, 0, none⟩), .pointer (some ⟨bl, 0, none⟩), .pointer (some ⟨bo, 0, none⟩), .pointer (some ⟨bf, 0, none⟩)]] 120)] → OutAt w N bo mv av ms ar → ms.length + SR.1.length ≤ 100000 → ar.length + SR.2.length ≤ 100000 → Calls Try.prog 76 #[areaVal (rightOf a), .pointer (some ⟨bs, 0, none⟩), .pointer (some ⟨bm, 0, none⟩), .pointer (some ⟨bl, 0, none⟩), .pointer (some ⟨bo, 0, none⟩), .pointer (some ⟨bf, 0, none⟩)] w (SearchIs SR w0 N bo ms ar mv av w)) (hs1 : ms.length + (SL.1.length + SR.1.length) ≤ 100000) (hs2 : ar.length + (SL.2.length + SR.2.length) ≤ 100000) (hb : ¬ limit < bound m t a) (h1 : ¬ a.One) (hw : ¬ a.y1 - a.y0 ≤ a.x1 - a.x0) (hx : a.x1 = a.x0) :
    Calls Try.prog 76 #[areaVal a, .pointer (some ⟨bs, 0, none⟩), .pointer (some ⟨bm, 0, none⟩), .pointer (some ⟨bl, 0, none⟩), .pointer (some ⟨bo, 0, none⟩), .pointer (some ⟨bf, 0, none⟩)] w (SearchIs (SL.1 ++ SR.1, SL.2 ++ SR.2) w0 N bo ms ar mv av w) := by
  have HV := Lib.hid hA
  have HO := Lib.hid hO
  have HE := Lib.hid hE
  have HP := Lib.hid (show PtsAt w sv (stencil t a.turn a.scale t.pix.length) by
    obtain ⟨b, h⟩ := hP
    rw [htu, hsc]
    exact SlAt.of_owns h)
  have K70 := Lib.hid (fun w' (h : Ext w0 w') (hs : PtsAt w' sv (stencil t a.turn a.scale t.pix.length)) => c70 m v (stencil t a.turn a.scale t.pix.length) sv a w' hm (hv.ext h) hs ha (Nat.le_trans (stencil_len _ _ _ _) (Tpl.len_bd ht).2) (sten_in ht ha.2.2))
  obtain ⟨bd, hbd⟩ : ∃ bd, bound m t a = bd := ⟨_, rfl⟩
  have hbd' : sumL (fun p => least m p a.x0 a.y0 a.x1 a.y1) (stencil t a.turn a.scale t.pix.length) = bd := hbd
  simp only [hbd'] at K70
  obtain ⟨⟨mb, mz, rfl⟩, ab, az, rfl⟩ := hO.forms
  subst hv0 hs0
  obtain ⟨b1, b2⟩ : (0 ≤ a.x0 ∧ a.x0 ≤ a.x1 ∧ a.x1 ≤ 15) ∧ 0 ≤ a.y0 ∧ a.y0 ≤ a.y1 ∧ a.y1 ≤ 15 := by
    obtain ⟨⟨h1, h2, h3⟩, ⟨h4, h5, h6⟩, -⟩ := ha
    obtain ⟨⟨g1, g2⟩, ⟨g3, g4⟩, -⟩ := hm.1
    refine ⟨⟨?_, ?_, ?_⟩, ?_, ?_, ?_⟩ <;> omega
  obtain ⟨⟨b10, b11, b12⟩, b20, b21, b22⟩ := And.intro b1 b2
  have HPT := Lib.hid hP
  rw [hbd] at hb
  have hb0 : decide (limit < bd) = false := decide_eq_false hb
  clear hb
  rw [left_high hw] at ihL
  rw [right_high hw] at ihR
  unfold areaVal at ihL ihR
  have IL := Lib.hid ihL
  have IR := Lib.hid ihR
  clear ihL ihR
  have hw0 : (a.x1 - a.x0 == 0) = true := by simp; omega
  have hw1 : (a.y1 - a.y0 == 0) = false := by unfold Area.One at h1; simp; omega
  have hw2 : decide (a.y1 - a.y0 ≤ a.x1 - a.x0) = false := decide_eq_false hw
  clear h1 hw hx
  unfold imgVal at K70
  unfold areaVal
  have HTU := Lib.hid htu
  have HSC := Lib.hid hsc
  obtain ⟨e00, ef00⟩ := run_1 (At.at hA 0 rfl)
  obtain ⟨⟨e10, e11, e12⟩, ef10, ef11, ef12⟩ := run_3 (At.at hA 1 rfl)
  obtain ⟨e20, ef20⟩ := run_1 (At.at hA 2 rfl)
  obtain ⟨e30, ef30⟩ := run_1 (At.at hA 3 rfl)
  have ez0 := At.lt hA 0 rfl
  have ey0 := Nat.lt_succ_of_lt ez0
  have ex0 := Nat.lt_succ_of_lt ey0
  have ez1 := At.lt hA 1 rfl
  have ey1 := Nat.lt_succ_of_lt ez1
  have ex1 := Nat.lt_succ_of_lt ey1
  have ez2 := At.lt hA 2 rfl
  have ey2 := Nat.lt_succ_of_lt ez2
  have ex2 := Nat.lt_succ_of_lt ey2
  have ez3 := At.lt hA 3 rfl
  have ey3 := Nat.lt_succ_of_lt ez3
  have ex3 := Nat.lt_succ_of_lt ey3
  clear hA hO hE hP ha hbd hbd' hv htu hsc b1 b2
  obtain ⟨i8, hi8, hz8, hs8, hy8⟩ := info_parts info80
  obtain ⟨i4, hi4, hz4, hs4, hy4⟩ := info_parts inf47
  go_enter Try.func76, Try.ntmps76
  go_wp2_with (go_at_call 70; (with_reducible refine (K70.out _ (HE.out.alloc _) (PtsAt.ext HP.out ((Ext.refl w).alloc _))).mono ?_); rintro E w1 ⟨rfl, hb1⟩; have A1 := Lib.hid (show At w1 [(w.heap.size, Obj.cells #[.int .i64 a.x0, .int .i64 a.y0, .int .i64 a.x1, .int .i64 a.y1, .int .i64 a.turn, .int .i64 a.scale] 47), (bs, Obj.cells #[.slice so sn sc] 113), (bm, Obj.cells #[.int .i64 m.w, .int .i64 m.h, .slice mo m.pix.length mc] 24), (bl, Obj.cells #[.int .i64 limit] 3), (bf, Obj.cells #[.func (.func 76) #[] #[.pointer (some ⟨bs, 0, none⟩), .pointer (some ⟨bm, 0, none⟩), .pointer (some ⟨bl, 0, none⟩), .pointer (some ⟨bo, 0, none⟩), .pointer (some ⟨bf, 0, none⟩)]] 120)] from At.ext hb1 ⟨blk_at _ _ rfl, At.alloc HV.out _⟩); have X1 := Lib.hid (show Ext w w1 from ((Ext.refl w).alloc _).trans hb1); obtain ⟨⟨x00, x01, x02, x03, x04, x05⟩, xf00, xf01, xf02, xf03, xf04, xf05⟩ := run_6 (At.at A1.out 0 rfl); obtain ⟨x10, xf10⟩ := run_1 (At.at A1.out 1 rfl); obtain ⟨⟨x20, x21, x22⟩, xf20, xf21, xf22⟩ := run_3 (At.at A1.out 2 rfl); obtain ⟨x30, xf30⟩ := run_1 (At.at A1.out 3 rfl); obtain ⟨x40, xf40⟩ := run_1 (At.at A1.out 4 rfl); have xz0 := At.lt A1.out 0 rfl; have xy0 := Nat.lt_succ_of_lt xz0; have xx0 := Nat.lt_succ_of_lt xy0; have xz1 := At.lt A1.out 1 rfl; have xy1 := Nat.lt_succ_of_lt xz1; have xx1 := Nat.lt_succ_of_lt xy1; have xz2 := At.lt A1.out 2 rfl; have xy2 := Nat.lt_succ_of_lt xz2; have xx2 := Nat.lt_succ_of_lt xy2; have xz3 := At.lt A1.out 3 rfl; have xy3 := Nat.lt_succ_of_lt xz3; have xx3 := Nat.lt_succ_of_lt xy3; have xz4 := At.lt A1.out 4 rfl; have xy4 := Nat.lt_succ_of_lt xz4; have xx4 := Nat.lt_succ_of_lt xy4)
  go_quiet (fail)
  go_wp2_with fail
  refine RT.region_two (aq := ?aq1) (n := 2) (sx := 10) (sy := 11) (vx := 26) (vy := 27) (oz := .cells #[.int .i64 0, .int .i64 0, .int .i64 0, .int .i64 0, .int .i64 0, .int .i64 0] 47) (ox := .cells #[.int .i64 a.x0, .int .i64 a.y0, .int .i64 a.x1, .int .i64 a.y1, .int .i64 a.turn, .int .i64 a.scale] 47) (oy := .cells #[.int .i64 a.x0, .int .i64 a.y0, .int .i64 a.x1, .int .i64 a.y1, .int .i64 a.turn, .int .i64 a.scale] 47) (qs := [_, _]) (by kernel_rfl) rfl (by kernel_rfl) (by kernel_rfl) rfl rfl (of_decide_eq_true (by kernel_rfl)) (of_decide_eq_true (by kernel_rfl)) rfl rfl rfl rfl (by kernel_rfl) (by kernel_rfl) (by kernel_rfl) (by kernel_rfl) ?_ ?_ ?_ ?_ ?_ ?_
  rotate_left
  · intro e w
    simp [execOp, go_sem, Try.underlying47]
  · intro e w
    simp [execOp, go_sem, Try.underlying47]
  · intro wq hEq
    have AQ := Lib.hid (show At wq [(w.heap.size, Obj.cells #[.int .i64 a.x0, .int .i64 a.y0, .int .i64 a.x1, .int .i64 a.y1, .int .i64 a.turn, .int .i64 a.scale] 47), (bs, Obj.cells #[.slice so sn sc] 113), (bm, Obj.cells #[.int .i64 m.w, .int .i64 m.h, .slice mo m.pix.length mc] 24), (bl, Obj.cells #[.int .i64 limit] 3), (bf, Obj.cells #[.func (.func 76) #[] #[.pointer (some ⟨bs, 0, none⟩), .pointer (some ⟨bm, 0, none⟩), .pointer (some ⟨bl, 0, none⟩), .pointer (some ⟨bo, 0, none⟩), .pointer (some ⟨bf, 0, none⟩)]] 120)] from At.ext hEq (At.ext ((Ext.refl w1).drewN nq) A1.out))
    obtain ⟨⟨q00, q01, q02, q03, q04, q05⟩, -⟩ := run_6 (At.at AQ.out 0 rfl)
    obtain ⟨q10, -⟩ := run_1 (At.at AQ.out 1 rfl)
    obtain ⟨⟨q20, q21, q22⟩, -⟩ := run_3 (At.at AQ.out 2 rfl)
    obtain ⟨q30, -⟩ := run_1 (At.at AQ.out 3 rfl)
    obtain ⟨q40, -⟩ := run_1 (At.at AQ.out 4 rfl)
    have qz0 := At.lt AQ.out 0 rfl
    have qy0 := Nat.lt_succ_of_lt qz0
    have qx0 := Nat.lt_succ_of_lt qy0
    have qz1 := At.lt AQ.out 1 rfl
    have qy1 := Nat.lt_succ_of_lt qz1
    have qx1 := Nat.lt_succ_of_lt qy1
    have qz2 := At.lt AQ.out 2 rfl
    have qy2 := Nat.lt_succ_of_lt qz2
    have qx2 := Nat.lt_succ_of_lt qy2
    have qz3 := At.lt AQ.out 3 rfl
    have qy3 := Nat.lt_succ_of_lt qz3
    have qx3 := Nat.lt_succ_of_lt qy3
    have qz4 := At.lt AQ.out 4 rfl
    have qy4 := Nat.lt_succ_of_lt qz4
    have qx4 := Nat.lt_succ_of_lt qy4
    clear hEq
    simp only [List.cons_append, List.nil_append]
    repeat (go_big_quiet_step (fail))
    refine wpQuiet_nil ?_
    exact rfl
  · intro e w b h1 h2 h3
    obtain ⟨⟨c0, c1, c2, c3, c4, c5⟩, f0, f1, f2, f3, f4, f5⟩ := run_6 h3
    have h2' : e (.tmp 26) = .agg #[.int .i64 a.x0, .int .i64 a.y0, .int .i64 a.x1, .int .i64 a.y1, .int .i64 a.turn, .int .i64 a.scale] := h2
    apply Exists.intro
    apply And.intro
    · simp [execOp, go_sem, h1, h2', c0, c1, c2, c3, c4, c5, f0, f1, f2, f3, f4, f5, Try.underlying47]
      exact rfl
    · exact store_6 h3
  · intro e w b h1 h2 h3
    obtain ⟨⟨c0, c1, c2, c3, c4, c5⟩, f0, f1, f2, f3, f4, f5⟩ := run_6 h3
    have h2' : e (.tmp 27) = .agg #[.int .i64 a.x0, .int .i64 a.y0, .int .i64 a.x1, .int .i64 a.y1, .int .i64 a.turn, .int .i64 a.scale] := h2
    apply Exists.intro
    apply And.intro
    · simp [execOp, go_sem, h1, h2', c0, c1, c2, c3, c4, c5, f0, f1, f2, f3, f4, f5, Try.underlying47]
      exact rfl
    · exact store_6 h3
  · intro bx by_ w2 hE2 hbx hby hne hX hY
    have X12 := Lib.hid (show Ext w1 w2 from ((Ext.refl w1).drewN nq).trans hE2)
    have X2 := Lib.hid (X1.out.trans X12.out)
    have A2 := Lib.hid (show At w2 [(bx, Obj.cells #[.int .i64 a.x0, .int .i64 a.y0, .int .i64 a.x1, .int .i64 a.y1, .int .i64 a.turn, .int .i64 a.scale] 47), (by_, Obj.cells #[.int .i64 a.x0, .int .i64 a.y0, .int .i64 a.x1, .int .i64 a.y1, .int .i64 a.turn, .int .i64 a.scale] 47), (w.heap.size, Obj.cells #[.int .i64 a.x0, .int .i64 a.y0, .int .i64 a.x1, .int .i64 a.y1, .int .i64 a.turn, .int .i64 a.scale] 47), (bs, Obj.cells #[.slice so sn sc] 113), (bm, Obj.cells #[.int .i64 m.w, .int .i64 m.h, .slice mo m.pix.length mc] 24), (bl, Obj.cells #[.int .i64 limit] 3), (bf, Obj.cells #[.func (.func 76) #[] #[.pointer (some ⟨bs, 0, none⟩), .pointer (some ⟨bm, 0, none⟩), .pointer (some ⟨bl, 0, none⟩), .pointer (some ⟨bo, 0, none⟩), .pointer (some ⟨bf, 0, none⟩)]] 120)] from ⟨hX, hY, At.ext X12.out A1.out⟩)
    have O1 := Lib.hid (HO.out.ext X1.out)
    have O2 := Lib.hid (HO.out.ext X2.out)
    have hbx : w1.heap.size ≤ bx := hbx
    have hby : w1.heap.size ≤ by_ := hby
    have NE := Lib.hid (show ∀ p ∈ [bx, by_, w.heap.size, bs, bm, bl, bf], p ≠ bo ∧ Value.ownBlock (.slice mb ms.length mz) ≠ some p ∧ Value.ownBlock (.slice ab ar.length az) ≠ some p from by
      intro p hp
      simp only [List.mem_cons, List.not_mem_nil, or_false] at hp
      rcases hp with rfl | rfl | rfl | rfl | rfl | rfl | rfl
      · exact O1.out.young hbx
      · exact O1.out.young hby
      · exact HO.out.young (Nat.le_refl _)
      · exact HO.out.ne (At.at HV.out 0 rfl) (by decide) (by decide) (by decide)
      · exact HO.out.ne (At.at HV.out 1 rfl) (by decide) (by decide) (by decide)
      · exact HO.out.ne (At.at HV.out 2 rfl) (by decide) (by decide) (by decide)
      · exact HO.out.ne (At.at HV.out 3 rfl) (by decide) (by decide) (by decide))
    clear hE2 hX hY
    clear x00 x01 x02 x03 x04 x05 x10 x20 x21 x22 x30 x40 xf00 xf01 xf02 xf03 xf04 xf05 xf10 xf20 xf21 xf22 xf30 xf40 xz0 xy0 xx0 xz1 xy1 xx1 xz2 xy2 xx2 xz3 xy3 xx3 xz4 xy4 xx4
    clear e00 e10 e11 e12 e20 e30 ef00 ef10 ef11 ef12 ef20 ef30 ez0 ey0 ex0 ez1 ey1 ex1 ez2 ey2 ex2 ez3 ey3 ex3
    obtain ⟨⟨y00, y01, y02, y03, y04, y05⟩, yf00, yf01, yf02, yf03, yf04, yf05⟩ := run_6 (At.at A2.out 0 rfl)
    obtain ⟨⟨y10, y11, y12, y13, y14, y15⟩, yf10, yf11, yf12, yf13, yf14, yf15⟩ := run_6 (At.at A2.out 1 rfl)
    obtain ⟨⟨y20, y21, y22, y23, y24, y25⟩, yf20, yf21, yf22, yf23, yf24, yf25⟩ := run_6 (At.at A2.out 2 rfl)
    obtain ⟨y30, yf30⟩ := run_1 (At.at A2.out 3 rfl)
    obtain ⟨⟨y40, y41, y42⟩, yf40, yf41, yf42⟩ := run_3 (At.at A2.out 4 rfl)
    obtain ⟨y50, yf50⟩ := run_1 (At.at A2.out 5 rfl)
    obtain ⟨y60, yf60⟩ := run_1 (At.at A2.out 6 rfl)
    have yz0 := At.lt A2.out 0 rfl
    have yy0 := Nat.lt_succ_of_lt yz0
    have yx0 := Nat.lt_succ_of_lt yy0
    have yz1 := At.lt A2.out 1 rfl
    have yy1 := Nat.lt_succ_of_lt yz1
    have yx1 := Nat.lt_succ_of_lt yy1
    have yz2 := At.lt A2.out 2 rfl
    have yy2 := Nat.lt_succ_of_lt yz2
    have yx2 := Nat.lt_succ_of_lt yy2
    have yz3 := At.lt A2.out 3 rfl
    have yy3 := Nat.lt_succ_of_lt yz3
    have yx3 := Nat.lt_succ_of_lt yy3
    have yz4 := At.lt A2.out 4 rfl
    have yy4 := Nat.lt_succ_of_lt yz4
    have yx4 := Nat.lt_succ_of_lt yy4
    have yz5 := At.lt A2.out 5 rfl
    have yy5 := Nat.lt_succ_of_lt yz5
    have yx5 := Nat.lt_succ_of_lt yy5
    have yz6 := At.lt A2.out 6 rfl
    have yy6 := Nat.lt_succ_of_lt yz6
    have yx6 := Nat.lt_succ_of_lt yy6
    obtain ⟨⟨oc0, oc1⟩, of0, of1⟩ := run_2 O2.out.1
    have oz := O2.out.lt (.inl rfl)
    have oy := Nat.lt_succ_of_lt oz
    have s1 := st_one (At.at A2.out 0 rfl) 3 (.int .i64 ((a.y0 + a.y1) / 2))
    have s2 := st_one ((s1.2.1 by_ (fun e => hne e.symm)).trans (At.at A2.out 1 rfl)) 1 (.int .i64 ((a.y0 + a.y1) / 2 + 1))
    have d0 := At.lt A1.out 0 rfl
    have d1 := At.lt A1.out 1 rfl
    have d2 := At.lt A1.out 2 rfl
    have d3 := At.lt A1.out 3 rfl
    have d4 := At.lt A1.out 4 rfl
    have A4 := Lib.hid (show At ((w2.setCell ⟨bx, 3, none⟩ (.int .i64 ((a.y0 + a.y1) / 2))).setCell ⟨by_, 1, none⟩ (.int .i64 ((a.y0 + a.y1) / 2 + 1))) [(bx, Obj.cells #[.int .i64 a.x0, .int .i64 a.y0, .int .i64 a.x1, .int .i64 ((a.y0 + a.y1) / 2), .int .i64 a.turn, .int .i64 a.scale] 47), (by_, Obj.cells #[.int .i64 a.x0, .int .i64 ((a.y0 + a.y1) / 2 + 1), .int .i64 a.x1, .int .i64 a.y1, .int .i64 a.turn, .int .i64 a.scale] 47), (w.heap.size, Obj.cells #[.int .i64 a.x0, .int .i64 a.y0, .int .i64 a.x1, .int .i64 a.y1, .int .i64 a.turn, .int .i64 a.scale] 47), (bs, Obj.cells #[.slice so sn sc] 113), (bm, Obj.cells #[.int .i64 m.w, .int .i64 m.h, .slice mo m.pix.length mc] 24), (bl, Obj.cells #[.int .i64 limit] 3), (bf, Obj.cells #[.func (.func 76) #[] #[.pointer (some ⟨bs, 0, none⟩), .pointer (some ⟨bm, 0, none⟩), .pointer (some ⟨bl, 0, none⟩), .pointer (some ⟨bo, 0, none⟩), .pointer (some ⟨bf, 0, none⟩)]] 120)] from ⟨(s2.2.1 bx hne).trans s1.1, s2.1, ((s2.2.1 _ (Nat.ne_of_lt (Nat.lt_of_lt_of_le d0 hby))).trans (s1.2.1 _ (Nat.ne_of_lt (Nat.lt_of_lt_of_le d0 hbx)))).trans (At.at A2.out 2 rfl), ((s2.2.1 _ (Nat.ne_of_lt (Nat.lt_of_lt_of_le d1 hby))).trans (s1.2.1 _ (Nat.ne_of_lt (Nat.lt_of_lt_of_le d1 hbx)))).trans (At.at A2.out 3 rfl), ((s2.2.1 _ (Nat.ne_of_lt (Nat.lt_of_lt_of_le d2 hby))).trans (s1.2.1 _ (Nat.ne_of_lt (Nat.lt_of_lt_of_le d2 hbx)))).trans (At.at A2.out 4 rfl), ((s2.2.1 _ (Nat.ne_of_lt (Nat.lt_of_lt_of_le d3 hby))).trans (s1.2.1 _ (Nat.ne_of_lt (Nat.lt_of_lt_of_le d3 hbx)))).trans (At.at A2.out 5 rfl), ((s2.2.1 _ (Nat.ne_of_lt (Nat.lt_of_lt_of_le d4 hby))).trans (s1.2.1 _ (Nat.ne_of_lt (Nat.lt_of_lt_of_le d4 hbx)))).trans (At.at A2.out 6 rfl), trivial⟩)
    have X4 := Lib.hid (show Ext w ((w2.setCell ⟨bx, 3, none⟩ (.int .i64 ((a.y0 + a.y1) / 2))).setCell ⟨by_, 1, none⟩ (.int .i64 ((a.y0 + a.y1) / 2 + 1))) from (X2.out.setCell (p := ⟨bx, 3, none⟩) (Nat.le_trans X1.out.size hbx) _).setCell (p := ⟨by_, 1, none⟩) (Nat.le_trans X1.out.size hby) _)
    have E4 := Lib.hid (HE.out.trans X4.out)
    have AE4 := Lib.hid (show At ((w2.setCell ⟨bx, 3, none⟩ (.int .i64 ((a.y0 + a.y1) / 2))).setCell ⟨by_, 1, none⟩ (.int .i64 ((a.y0 + a.y1) / 2 + 1))) [(bs, Obj.cells #[.slice so sn sc] 113), (bm, Obj.cells #[.int .i64 m.w, .int .i64 m.h, .slice mo m.pix.length mc] 24), (bl, Obj.cells #[.int .i64 limit] 3), (bf, Obj.cells #[.func (.func 76) #[] #[.pointer (some ⟨bs, 0, none⟩), .pointer (some ⟨bm, 0, none⟩), .pointer (some ⟨bl, 0, none⟩), .pointer (some ⟨bo, 0, none⟩), .pointer (some ⟨bf, 0, none⟩)]] 120)] from A4.out.2.2.2)
    have P4 := Lib.hid (show ∃ b, ((w2.setCell ⟨bx, 3, none⟩ (.int .i64 ((a.y0 + a.y1) / 2))).setCell ⟨by_, 1, none⟩ (.int .i64 ((a.y0 + a.y1) / 2 + 1))).ownsRow b 141 3 (.slice so sn sc) (stencil t turn scale t.pix.length).length (pts (stencil t turn scale t.pix.length)) from by obtain ⟨b, h⟩ := HPT.out; exact ⟨b, owns_ext h X4.out⟩)
    have O4 := Lib.hid (show OutAt ((w2.setCell ⟨bx, 3, none⟩ (.int .i64 ((a.y0 + a.y1) / 2))).setCell ⟨by_, 1, none⟩ (.int .i64 ((a.y0 + a.y1) / 2 + 1))) N bo (.slice mb ms.length mz) (.slice ab ar.length az) ms ar from (O2.out.set (fun k hk => Nat.lt_of_lt_of_le (O1.out.lt hk) hbx)).set (fun k hk => Nat.lt_of_lt_of_le (O1.out.lt hk) hby))
    clear s1 s2 d0 d1 d2 d3 d4
    obtain ⟨⟨u00, u01, u02, u03, u04, u05⟩, -⟩ := run_6 (At.at A4.out 0 rfl)
    obtain ⟨⟨u10, u11, u12, u13, u14, u15⟩, -⟩ := run_6 (At.at A4.out 1 rfl)
    obtain ⟨⟨u20, u21, u22, u23, u24, u25⟩, -⟩ := run_6 (At.at A4.out 2 rfl)
    obtain ⟨u30, -⟩ := run_1 (At.at A4.out 3 rfl)
    obtain ⟨⟨u40, u41, u42⟩, -⟩ := run_3 (At.at A4.out 4 rfl)
    obtain ⟨u50, -⟩ := run_1 (At.at A4.out 5 rfl)
    obtain ⟨u60, -⟩ := run_1 (At.at A4.out 6 rfl)
    have uz0 := At.lt A4.out 0 rfl
    have uy0 := Nat.lt_succ_of_lt uz0
    have ux0 := Nat.lt_succ_of_lt uy0
    have uz1 := At.lt A4.out 1 rfl
    have uy1 := Nat.lt_succ_of_lt uz1
    have ux1 := Nat.lt_succ_of_lt uy1
    have uz2 := At.lt A4.out 2 rfl
    have uy2 := Nat.lt_succ_of_lt uz2
    have ux2 := Nat.lt_succ_of_lt uy2
    have uz3 := At.lt A4.out 3 rfl
    have uy3 := Nat.lt_succ_of_lt uz3
    have ux3 := Nat.lt_succ_of_lt uy3
    have uz4 := At.lt A4.out 4 rfl
    have uy4 := Nat.lt_succ_of_lt uz4
    have ux4 := Nat.lt_succ_of_lt uy4
    have uz5 := At.lt A4.out 5 rfl
    have uy5 := Nat.lt_succ_of_lt uz5
    have ux5 := Nat.lt_succ_of_lt uy5
    have uz6 := At.lt A4.out 6 rfl
    have uy6 := Nat.lt_succ_of_lt uz6
    have ux6 := Nat.lt_succ_of_lt uy6
    have z1 : ms.length + SL.1.length ≤ 100000 := by omega
    have z2 : ar.length + SL.2.length ≤ 100000 := by omega
    have z3 : (ms ++ SL.1).length + SR.1.length ≤ 100000 := by rw [List.length_append]; omega
    have z4 : (ar ++ SL.2).length + SR.2.length ≤ 100000 := by rw [List.length_append]; omega
    go_wp2_with (first | (have _q := E5; go_at_call 76; (with_reducible refine (IR.out _ _ _ _ _ E5.out P5.out AE5.out O5.out z3 z4).mono ?_); rintro E w6 ⟨mv6, av6, rfl, hE6, hO6, hU6⟩; have E6 := Lib.hid hE6; have O6 := Lib.hid hO6; have U6 := Lib.hid hU6; clear hE6 hO6 hU6) | (go_at_call 76; (with_reducible refine (IL.out _ _ _ _ _ E4.out P4.out AE4.out O4.out z1 z2).mono ?_); rintro E w5 ⟨mv5, av5, rfl, hE5, hO5, hU5⟩; have E5 := Lib.hid hE5; have O5 := Lib.hid hO5; have U5 := Lib.hid hU5; have A5 := Lib.hid (show At w5 [(bx, Obj.cells #[.int .i64 a.x0, .int .i64 a.y0, .int .i64 a.x1, .int .i64 ((a.y0 + a.y1) / 2), .int .i64 a.turn, .int .i64 a.scale] 47), (by_, Obj.cells #[.int .i64 a.x0, .int .i64 ((a.y0 + a.y1) / 2 + 1), .int .i64 a.x1, .int .i64 a.y1, .int .i64 a.turn, .int .i64 a.scale] 47), (w.heap.size, Obj.cells #[.int .i64 a.x0, .int .i64 a.y0, .int .i64 a.x1, .int .i64 a.y1, .int .i64 a.turn, .int .i64 a.scale] 47), (bs, Obj.cells #[.slice so sn sc] 113), (bm, Obj.cells #[.int .i64 m.w, .int .i64 m.h, .slice mo m.pix.length mc] 24), (bl, Obj.cells #[.int .i64 limit] 3), (bf, Obj.cells #[.func (.func 76) #[] #[.pointer (some ⟨bs, 0, none⟩), .pointer (some ⟨bm, 0, none⟩), .pointer (some ⟨bl, 0, none⟩), .pointer (some ⟨bo, 0, none⟩), .pointer (some ⟨bf, 0, none⟩)]] 120)] from At.upd hU5 A4.out NE.out); have AE5 := Lib.hid (show At w5 [(bs, Obj.cells #[.slice so sn sc] 113), (bm, Obj.cells #[.int .i64 m.w, .int .i64 m.h, .slice mo m.pix.length mc] 24), (bl, Obj.cells #[.int .i64 limit] 3), (bf, Obj.cells #[.func (.func 76) #[] #[.pointer (some ⟨bs, 0, none⟩), .pointer (some ⟨bm, 0, none⟩), .pointer (some ⟨bl, 0, none⟩), .pointer (some ⟨bo, 0, none⟩), .pointer (some ⟨bf, 0, none⟩)]] 120)] from A5.out.2.2.2); have P5 := Lib.hid (show ∃ b, w5.ownsRow b 141 3 (.slice so sn sc) (stencil t turn scale t.pix.length).length (pts (stencil t turn scale t.pix.length)) from by obtain ⟨b, h⟩ := P4.out; exact ⟨b, owns_upd hU5 h fun k hk => by obtain ⟨cur, fr, hc⟩ := owns_type h k hk; exact O4.out.ne hc (by decide) (by decide) (by decide)⟩); clear hE5 hO5 hU5; obtain ⟨⟨v00, v01, v02, v03, v04, v05⟩, -⟩ := run_6 (At.at A5.out 0 rfl); obtain ⟨⟨v10, v11, v12, v13, v14, v15⟩, -⟩ := run_6 (At.at A5.out 1 rfl); obtain ⟨⟨v20, v21, v22, v23, v24, v25⟩, -⟩ := run_6 (At.at A5.out 2 rfl); obtain ⟨v30, -⟩ := run_1 (At.at A5.out 3 rfl); obtain ⟨⟨v40, v41, v42⟩, -⟩ := run_3 (At.at A5.out 4 rfl); obtain ⟨v50, -⟩ := run_1 (At.at A5.out 5 rfl); obtain ⟨v60, -⟩ := run_1 (At.at A5.out 6 rfl); have vz0 := At.lt A5.out 0 rfl; have vy0 := Nat.lt_succ_of_lt vz0; have vx0 := Nat.lt_succ_of_lt vy0; have vz1 := At.lt A5.out 1 rfl; have vy1 := Nat.lt_succ_of_lt vz1; have vx1 := Nat.lt_succ_of_lt vy1; have vz2 := At.lt A5.out 2 rfl; have vy2 := Nat.lt_succ_of_lt vz2; have vx2 := Nat.lt_succ_of_lt vy2; have vz3 := At.lt A5.out 3 rfl; have vy3 := Nat.lt_succ_of_lt vz3; have vx3 := Nat.lt_succ_of_lt vy3; have vz4 := At.lt A5.out 4 rfl; have vy4 := Nat.lt_succ_of_lt vz4; have vx4 := Nat.lt_succ_of_lt vy4; have vz5 := At.lt A5.out 5 rfl; have vy5 := Nat.lt_succ_of_lt vz5; have vx5 := Nat.lt_succ_of_lt vy5; have vz6 := At.lt A5.out 6 rfl; have vy6 := Nat.lt_succ_of_lt vz6; have vx6 := Nat.lt_succ_of_lt vy6))
    refine bodyPost_ret (results_none rfl _ _ _) rfl ?_
    exact ⟨_, _, rfl, E6.out, by have := O6.out; simp only [List.append_assoc] at this; exact this, (Upd.of_ext X4.out).trans (U5.out.trans U6.out)⟩
set_option maxRecDepth 100000 in
set_option maxHeartbeats 16000000 in
theorem c76_high1 (m : Img) (v : Value) (t : Tpl) (turn scale limit : Int) (sv : Value) (w0 : World) (N bs bm bl bo bf : Nat) (mo so : Option Addr) (mc sn sc : Nat) (hm : m.Camera) (ht : t.Ok) (hps : Posed turn scale) (hN : w0.heap.size ≤ N) (hbo : w0.heap.size ≤ bo) (hNb : N ≤ bo + 1) (hv : IntsAt w0 v m.pix) (hv0 : v = .slice mo m.pix.length mc) (hs0 : sv = .slice so sn sc) (a : Area) (ms : List Match) (ar : List Area) (mv av : Value) (w : World) (ha : a.Ok m) (htu : a.turn = turn) (hsc : a.scale = scale) (hE : Ext w0 w) (hP : ∃ b, w.ownsRow b 141 3 sv (stencil t turn scale t.pix.length).length (pts (stencil t turn scale t.pix.length))) (hA : At w [(bs, Obj.cells #[.slice so sn sc] 113), (bm, Obj.cells #[.int .i64 m.w, .int .i64 m.h, .slice mo m.pix.length mc] 24), (bl, Obj.cells #[.int .i64 limit] 3), (bf, Obj.cells #[.func (.func 76) #[] #[.pointer (some ⟨bs, 0, none⟩), .pointer (some ⟨bm, 0, none⟩), .pointer (some ⟨bl, 0, none⟩), .pointer (some ⟨bo, 0, none⟩), .pointer (some ⟨bf, 0, none⟩)]] 120)]) (hO : OutAt w N bo mv av ms ar) (SL SR : List Match × List Area) (ihL : ∀ (ms : List Match) (ar : List Area) (mv av : Value) (w : World), Ext w0 w → (∃ b, w.ownsRow b 141 3 sv (stencil t turn scale t.pix.length).length (pts (stencil t turn scale t.pix.length))) → At w [(bs, Obj.cells #[.slice so sn sc] 113), (bm, Obj.cells #[.int .i64 m.w, .int .i64 m.h, .slice mo m.pix.length mc] 24), (bl, Obj.cells #[.int .i64 limit] 3), (bf, Obj.cells #[.func (.func 76) #[] #[.pointer (some ⟨bs, 0, none⟩), .pointer (some ⟨bm, 0, none⟩), .pointer (some ⟨bl, 0, none⟩), .pointer (some ⟨bo, 0, none⟩), .pointer (some ⟨bf, 0, none⟩)]] 120)] → OutAt w N bo mv av ms ar → ms.length + SL.1.length ≤ 100000 → ar.length + SL.2.length ≤ 100000 → Calls Try.prog 76 #[areaVal (leftOf a), .pointer (some ⟨bs, 0, none⟩), .pointer (some ⟨bm, 0, none⟩), .pointer (some ⟨bl, 0, none⟩), .pointer (some ⟨bo, 0, none⟩), .pointer (some ⟨bf, 0, none⟩)] w (SearchIs SL w0 N bo ms ar mv av w)) (ihR : ∀ (ms : List Match) (ar : List Area) (mv av : Value) (w : World), Ext w0 w → (∃ b, w.ownsRow b 141 3 sv (stencil t turn scale t.pix.length).length (pts (stencil t turn scale t.pix.length))) → At w [(bs, Obj.cells #[.slice so sn sc] 113), (bm, Obj.cells #[.int .i64 m.w, .int .i64 m.h, .slice mo m.pix.length mc] 24), (bl, Obj.cells #[.int .i64 limit] 3), (bf, Obj.cells #[.func (.func 76) #[] #[.pointer (some ⟨bs, 0, none⟩), .pointer (some ⟨bm, 0, none⟩), .pointer (some ⟨bl, 0, none⟩), .pointer (some ⟨bo, 0, none⟩), .pointer (some ⟨bf, 0, none⟩)]] 120)] → OutAt w N bo mv av ms ar → ms.length + SR.1.length ≤ 100000 → ar.length + SR.2.length ≤ 100000 → Calls Try.prog 76 #[areaVal (rightOf a), .pointer (some ⟨bs, 0, none⟩), .pointer (some ⟨bm, 0, none⟩), .pointer (some ⟨bl, 0, none⟩), .pointer (some ⟨bo, 0, none⟩), .pointer (some ⟨bf, 0, none⟩)] w (SearchIs SR w0 N bo ms ar mv av w)) (hs1 : ms.length + (SL.1.length + SR.1.length) ≤ 100000) (hs2 : ar.length + (SL.2.length + SR.2.length) ≤ 100000) (hb : ¬ limit < bound m t a) (h1 : ¬ a.One) (hw : ¬ a.y1 - a.y0 ≤ a.x1 - a.x0) (hx : ¬ a.x1 = a.x0) :
    Calls Try.prog 76 #[areaVal a, .pointer (some ⟨bs, 0, none⟩), .pointer (some ⟨bm, 0, none⟩), .pointer (some ⟨bl, 0, none⟩), .pointer (some ⟨bo, 0, none⟩), .pointer (some ⟨bf, 0, none⟩)] w (SearchIs (SL.1 ++ SR.1, SL.2 ++ SR.2) w0 N bo ms ar mv av w) := by
  have HV := Lib.hid hA
  have HO := Lib.hid hO
  have HE := Lib.hid hE
  have HP := Lib.hid (show PtsAt w sv (stencil t a.turn a.scale t.pix.length) by
    obtain ⟨b, h⟩ := hP
    rw [htu, hsc]
    exact SlAt.of_owns h)
  have K70 := Lib.hid (fun w' (h : Ext w0 w') (hs : PtsAt w' sv (stencil t a.turn a.scale t.pix.length)) => c70 m v (stencil t a.turn a.scale t.pix.length) sv a w' hm (hv.ext h) hs ha (Nat.le_trans (stencil_len _ _ _ _) (Tpl.len_bd ht).2) (sten_in ht ha.2.2))
  obtain ⟨bd, hbd⟩ : ∃ bd, bound m t a = bd := ⟨_, rfl⟩
  have hbd' : sumL (fun p => least m p a.x0 a.y0 a.x1 a.y1) (stencil t a.turn a.scale t.pix.length) = bd := hbd
  simp only [hbd'] at K70
  obtain ⟨⟨mb, mz, rfl⟩, ab, az, rfl⟩ := hO.forms
  subst hv0 hs0
  obtain ⟨b1, b2⟩ : (0 ≤ a.x0 ∧ a.x0 ≤ a.x1 ∧ a.x1 ≤ 15) ∧ 0 ≤ a.y0 ∧ a.y0 ≤ a.y1 ∧ a.y1 ≤ 15 := by
    obtain ⟨⟨h1, h2, h3⟩, ⟨h4, h5, h6⟩, -⟩ := ha
    obtain ⟨⟨g1, g2⟩, ⟨g3, g4⟩, -⟩ := hm.1
    refine ⟨⟨?_, ?_, ?_⟩, ?_, ?_, ?_⟩ <;> omega
  obtain ⟨⟨b10, b11, b12⟩, b20, b21, b22⟩ := And.intro b1 b2
  have HPT := Lib.hid hP
  rw [hbd] at hb
  have hb0 : decide (limit < bd) = false := decide_eq_false hb
  clear hb
  rw [left_high hw] at ihL
  rw [right_high hw] at ihR
  unfold areaVal at ihL ihR
  have IL := Lib.hid ihL
  have IR := Lib.hid ihR
  clear ihL ihR
  have hw0 : (a.x1 - a.x0 == 0) = false := by simp; omega
  have hw1 : (a.y1 - a.y0 == 0) = false := by unfold Area.One at h1; simp; omega
  have hw2 : decide (a.y1 - a.y0 ≤ a.x1 - a.x0) = false := decide_eq_false hw
  clear h1 hw hx
  unfold imgVal at K70
  unfold areaVal
  have HTU := Lib.hid htu
  have HSC := Lib.hid hsc
  obtain ⟨e00, ef00⟩ := run_1 (At.at hA 0 rfl)
  obtain ⟨⟨e10, e11, e12⟩, ef10, ef11, ef12⟩ := run_3 (At.at hA 1 rfl)
  obtain ⟨e20, ef20⟩ := run_1 (At.at hA 2 rfl)
  obtain ⟨e30, ef30⟩ := run_1 (At.at hA 3 rfl)
  have ez0 := At.lt hA 0 rfl
  have ey0 := Nat.lt_succ_of_lt ez0
  have ex0 := Nat.lt_succ_of_lt ey0
  have ez1 := At.lt hA 1 rfl
  have ey1 := Nat.lt_succ_of_lt ez1
  have ex1 := Nat.lt_succ_of_lt ey1
  have ez2 := At.lt hA 2 rfl
  have ey2 := Nat.lt_succ_of_lt ez2
  have ex2 := Nat.lt_succ_of_lt ey2
  have ez3 := At.lt hA 3 rfl
  have ey3 := Nat.lt_succ_of_lt ez3
  have ex3 := Nat.lt_succ_of_lt ey3
  clear hA hO hE hP ha hbd hbd' hv htu hsc b1 b2
  obtain ⟨i8, hi8, hz8, hs8, hy8⟩ := info_parts info80
  obtain ⟨i4, hi4, hz4, hs4, hy4⟩ := info_parts inf47
  go_enter Try.func76, Try.ntmps76
  go_wp2_with (go_at_call 70; (with_reducible refine (K70.out _ (HE.out.alloc _) (PtsAt.ext HP.out ((Ext.refl w).alloc _))).mono ?_); rintro E w1 ⟨rfl, hb1⟩; have A1 := Lib.hid (show At w1 [(w.heap.size, Obj.cells #[.int .i64 a.x0, .int .i64 a.y0, .int .i64 a.x1, .int .i64 a.y1, .int .i64 a.turn, .int .i64 a.scale] 47), (bs, Obj.cells #[.slice so sn sc] 113), (bm, Obj.cells #[.int .i64 m.w, .int .i64 m.h, .slice mo m.pix.length mc] 24), (bl, Obj.cells #[.int .i64 limit] 3), (bf, Obj.cells #[.func (.func 76) #[] #[.pointer (some ⟨bs, 0, none⟩), .pointer (some ⟨bm, 0, none⟩), .pointer (some ⟨bl, 0, none⟩), .pointer (some ⟨bo, 0, none⟩), .pointer (some ⟨bf, 0, none⟩)]] 120)] from At.ext hb1 ⟨blk_at _ _ rfl, At.alloc HV.out _⟩); have X1 := Lib.hid (show Ext w w1 from ((Ext.refl w).alloc _).trans hb1); obtain ⟨⟨x00, x01, x02, x03, x04, x05⟩, xf00, xf01, xf02, xf03, xf04, xf05⟩ := run_6 (At.at A1.out 0 rfl); obtain ⟨x10, xf10⟩ := run_1 (At.at A1.out 1 rfl); obtain ⟨⟨x20, x21, x22⟩, xf20, xf21, xf22⟩ := run_3 (At.at A1.out 2 rfl); obtain ⟨x30, xf30⟩ := run_1 (At.at A1.out 3 rfl); obtain ⟨x40, xf40⟩ := run_1 (At.at A1.out 4 rfl); have xz0 := At.lt A1.out 0 rfl; have xy0 := Nat.lt_succ_of_lt xz0; have xx0 := Nat.lt_succ_of_lt xy0; have xz1 := At.lt A1.out 1 rfl; have xy1 := Nat.lt_succ_of_lt xz1; have xx1 := Nat.lt_succ_of_lt xy1; have xz2 := At.lt A1.out 2 rfl; have xy2 := Nat.lt_succ_of_lt xz2; have xx2 := Nat.lt_succ_of_lt xy2; have xz3 := At.lt A1.out 3 rfl; have xy3 := Nat.lt_succ_of_lt xz3; have xx3 := Nat.lt_succ_of_lt xy3; have xz4 := At.lt A1.out 4 rfl; have xy4 := Nat.lt_succ_of_lt xz4; have xx4 := Nat.lt_succ_of_lt xy4)
  go_quiet (fail)
  go_wp2_with fail
  refine RT.region_two (aq := ?aq1) (n := 2) (sx := 10) (sy := 11) (vx := 26) (vy := 27) (oz := .cells #[.int .i64 0, .int .i64 0, .int .i64 0, .int .i64 0, .int .i64 0, .int .i64 0] 47) (ox := .cells #[.int .i64 a.x0, .int .i64 a.y0, .int .i64 a.x1, .int .i64 a.y1, .int .i64 a.turn, .int .i64 a.scale] 47) (oy := .cells #[.int .i64 a.x0, .int .i64 a.y0, .int .i64 a.x1, .int .i64 a.y1, .int .i64 a.turn, .int .i64 a.scale] 47) (qs := [_, _]) (by kernel_rfl) rfl (by kernel_rfl) (by kernel_rfl) rfl rfl (of_decide_eq_true (by kernel_rfl)) (of_decide_eq_true (by kernel_rfl)) rfl rfl rfl rfl (by kernel_rfl) (by kernel_rfl) (by kernel_rfl) (by kernel_rfl) ?_ ?_ ?_ ?_ ?_ ?_
  rotate_left
  · intro e w
    simp [execOp, go_sem, Try.underlying47]
  · intro e w
    simp [execOp, go_sem, Try.underlying47]
  · intro wq hEq
    have AQ := Lib.hid (show At wq [(w.heap.size, Obj.cells #[.int .i64 a.x0, .int .i64 a.y0, .int .i64 a.x1, .int .i64 a.y1, .int .i64 a.turn, .int .i64 a.scale] 47), (bs, Obj.cells #[.slice so sn sc] 113), (bm, Obj.cells #[.int .i64 m.w, .int .i64 m.h, .slice mo m.pix.length mc] 24), (bl, Obj.cells #[.int .i64 limit] 3), (bf, Obj.cells #[.func (.func 76) #[] #[.pointer (some ⟨bs, 0, none⟩), .pointer (some ⟨bm, 0, none⟩), .pointer (some ⟨bl, 0, none⟩), .pointer (some ⟨bo, 0, none⟩), .pointer (some ⟨bf, 0, none⟩)]] 120)] from At.ext hEq (At.ext ((Ext.refl w1).drewN nq) A1.out))
    obtain ⟨⟨q00, q01, q02, q03, q04, q05⟩, -⟩ := run_6 (At.at AQ.out 0 rfl)
    obtain ⟨q10, -⟩ := run_1 (At.at AQ.out 1 rfl)
    obtain ⟨⟨q20, q21, q22⟩, -⟩ := run_3 (At.at AQ.out 2 rfl)
    obtain ⟨q30, -⟩ := run_1 (At.at AQ.out 3 rfl)
    obtain ⟨q40, -⟩ := run_1 (At.at AQ.out 4 rfl)
    have qz0 := At.lt AQ.out 0 rfl
    have qy0 := Nat.lt_succ_of_lt qz0
    have qx0 := Nat.lt_succ_of_lt qy0
    have qz1 := At.lt AQ.out 1 rfl
    have qy1 := Nat.lt_succ_of_lt qz1
    have qx1 := Nat.lt_succ_of_lt qy1
    have qz2 := At.lt AQ.out 2 rfl
    have qy2 := Nat.lt_succ_of_lt qz2
    have qx2 := Nat.lt_succ_of_lt qy2
    have qz3 := At.lt AQ.out 3 rfl
    have qy3 := Nat.lt_succ_of_lt qz3
    have qx3 := Nat.lt_succ_of_lt qy3
    have qz4 := At.lt AQ.out 4 rfl
    have qy4 := Nat.lt_succ_of_lt qz4
    have qx4 := Nat.lt_succ_of_lt qy4
    clear hEq
    simp only [List.cons_append, List.nil_append]
    repeat (go_big_quiet_step (fail))
    refine wpQuiet_nil ?_
    exact rfl
  · intro e w b h1 h2 h3
    obtain ⟨⟨c0, c1, c2, c3, c4, c5⟩, f0, f1, f2, f3, f4, f5⟩ := run_6 h3
    have h2' : e (.tmp 26) = .agg #[.int .i64 a.x0, .int .i64 a.y0, .int .i64 a.x1, .int .i64 a.y1, .int .i64 a.turn, .int .i64 a.scale] := h2
    apply Exists.intro
    apply And.intro
    · simp [execOp, go_sem, h1, h2', c0, c1, c2, c3, c4, c5, f0, f1, f2, f3, f4, f5, Try.underlying47]
      exact rfl
    · exact store_6 h3
  · intro e w b h1 h2 h3
    obtain ⟨⟨c0, c1, c2, c3, c4, c5⟩, f0, f1, f2, f3, f4, f5⟩ := run_6 h3
    have h2' : e (.tmp 27) = .agg #[.int .i64 a.x0, .int .i64 a.y0, .int .i64 a.x1, .int .i64 a.y1, .int .i64 a.turn, .int .i64 a.scale] := h2
    apply Exists.intro
    apply And.intro
    · simp [execOp, go_sem, h1, h2', c0, c1, c2, c3, c4, c5, f0, f1, f2, f3, f4, f5, Try.underlying47]
      exact rfl
    · exact store_6 h3
  · intro bx by_ w2 hE2 hbx hby hne hX hY
    have X12 := Lib.hid (show Ext w1 w2 from ((Ext.refl w1).drewN nq).trans hE2)
    have X2 := Lib.hid (X1.out.trans X12.out)
    have A2 := Lib.hid (show At w2 [(bx, Obj.cells #[.int .i64 a.x0, .int .i64 a.y0, .int .i64 a.x1, .int .i64 a.y1, .int .i64 a.turn, .int .i64 a.scale] 47), (by_, Obj.cells #[.int .i64 a.x0, .int .i64 a.y0, .int .i64 a.x1, .int .i64 a.y1, .int .i64 a.turn, .int .i64 a.scale] 47), (w.heap.size, Obj.cells #[.int .i64 a.x0, .int .i64 a.y0, .int .i64 a.x1, .int .i64 a.y1, .int .i64 a.turn, .int .i64 a.scale] 47), (bs, Obj.cells #[.slice so sn sc] 113), (bm, Obj.cells #[.int .i64 m.w, .int .i64 m.h, .slice mo m.pix.length mc] 24), (bl, Obj.cells #[.int .i64 limit] 3), (bf, Obj.cells #[.func (.func 76) #[] #[.pointer (some ⟨bs, 0, none⟩), .pointer (some ⟨bm, 0, none⟩), .pointer (some ⟨bl, 0, none⟩), .pointer (some ⟨bo, 0, none⟩), .pointer (some ⟨bf, 0, none⟩)]] 120)] from ⟨hX, hY, At.ext X12.out A1.out⟩)
    have O1 := Lib.hid (HO.out.ext X1.out)
    have O2 := Lib.hid (HO.out.ext X2.out)
    have hbx : w1.heap.size ≤ bx := hbx
    have hby : w1.heap.size ≤ by_ := hby
    have NE := Lib.hid (show ∀ p ∈ [bx, by_, w.heap.size, bs, bm, bl, bf], p ≠ bo ∧ Value.ownBlock (.slice mb ms.length mz) ≠ some p ∧ Value.ownBlock (.slice ab ar.length az) ≠ some p from by
      intro p hp
      simp only [List.mem_cons, List.not_mem_nil, or_false] at hp
      rcases hp with rfl | rfl | rfl | rfl | rfl | rfl | rfl
      · exact O1.out.young hbx
      · exact O1.out.young hby
      · exact HO.out.young (Nat.le_refl _)
      · exact HO.out.ne (At.at HV.out 0 rfl) (by decide) (by decide) (by decide)
      · exact HO.out.ne (At.at HV.out 1 rfl) (by decide) (by decide) (by decide)
      · exact HO.out.ne (At.at HV.out 2 rfl) (by decide) (by decide) (by decide)
      · exact HO.out.ne (At.at HV.out 3 rfl) (by decide) (by decide) (by decide))
    clear hE2 hX hY
    clear x00 x01 x02 x03 x04 x05 x10 x20 x21 x22 x30 x40 xf00 xf01 xf02 xf03 xf04 xf05 xf10 xf20 xf21 xf22 xf30 xf40 xz0 xy0 xx0 xz1 xy1 xx1 xz2 xy2 xx2 xz3 xy3 xx3 xz4 xy4 xx4
    clear e00 e10 e11 e12 e20 e30 ef00 ef10 ef11 ef12 ef20 ef30 ez0 ey0 ex0 ez1 ey1 ex1 ez2 ey2 ex2 ez3 ey3 ex3
    obtain ⟨⟨y00, y01, y02, y03, y04, y05⟩, yf00, yf01, yf02, yf03, yf04, yf05⟩ := run_6 (At.at A2.out 0 rfl)
    obtain ⟨⟨y10, y11, y12, y13, y14, y15⟩, yf10, yf11, yf12, yf13, yf14, yf15⟩ := run_6 (At.at A2.out 1 rfl)
    obtain ⟨⟨y20, y21, y22, y23, y24, y25⟩, yf20, yf21, yf22, yf23, yf24, yf25⟩ := run_6 (At.at A2.out 2 rfl)
    obtain ⟨y30, yf30⟩ := run_1 (At.at A2.out 3 rfl)
    obtain ⟨⟨y40, y41, y42⟩, yf40, yf41, yf42⟩ := run_3 (At.at A2.out 4 rfl)
    obtain ⟨y50, yf50⟩ := run_1 (At.at A2.out 5 rfl)
    obtain ⟨y60, yf60⟩ := run_1 (At.at A2.out 6 rfl)
    have yz0 := At.lt A2.out 0 rfl
    have yy0 := Nat.lt_succ_of_lt yz0
    have yx0 := Nat.lt_succ_of_lt yy0
    have yz1 := At.lt A2.out 1 rfl
    have yy1 := Nat.lt_succ_of_lt yz1
    have yx1 := Nat.lt_succ_of_lt yy1
    have yz2 := At.lt A2.out 2 rfl
    have yy2 := Nat.lt_succ_of_lt yz2
    have yx2 := Nat.lt_succ_of_lt yy2
    have yz3 := At.lt A2.out 3 rfl
    have yy3 := Nat.lt_succ_of_lt yz3
    have yx3 := Nat.lt_succ_of_lt yy3
    have yz4 := At.lt A2.out 4 rfl
    have yy4 := Nat.lt_succ_of_lt yz4
    have yx4 := Nat.lt_succ_of_lt yy4
    have yz5 := At.lt A2.out 5 rfl
    have yy5 := Nat.lt_succ_of_lt yz5
    have yx5 := Nat.lt_succ_of_lt yy5
    have yz6 := At.lt A2.out 6 rfl
    have yy6 := Nat.lt_succ_of_lt yz6
    have yx6 := Nat.lt_succ_of_lt yy6
    obtain ⟨⟨oc0, oc1⟩, of0, of1⟩ := run_2 O2.out.1
    have oz := O2.out.lt (.inl rfl)
    have oy := Nat.lt_succ_of_lt oz
    have s1 := st_one (At.at A2.out 0 rfl) 3 (.int .i64 ((a.y0 + a.y1) / 2))
    have s2 := st_one ((s1.2.1 by_ (fun e => hne e.symm)).trans (At.at A2.out 1 rfl)) 1 (.int .i64 ((a.y0 + a.y1) / 2 + 1))
    have d0 := At.lt A1.out 0 rfl
    have d1 := At.lt A1.out 1 rfl
    have d2 := At.lt A1.out 2 rfl
    have d3 := At.lt A1.out 3 rfl
    have d4 := At.lt A1.out 4 rfl
    have A4 := Lib.hid (show At ((w2.setCell ⟨bx, 3, none⟩ (.int .i64 ((a.y0 + a.y1) / 2))).setCell ⟨by_, 1, none⟩ (.int .i64 ((a.y0 + a.y1) / 2 + 1))) [(bx, Obj.cells #[.int .i64 a.x0, .int .i64 a.y0, .int .i64 a.x1, .int .i64 ((a.y0 + a.y1) / 2), .int .i64 a.turn, .int .i64 a.scale] 47), (by_, Obj.cells #[.int .i64 a.x0, .int .i64 ((a.y0 + a.y1) / 2 + 1), .int .i64 a.x1, .int .i64 a.y1, .int .i64 a.turn, .int .i64 a.scale] 47), (w.heap.size, Obj.cells #[.int .i64 a.x0, .int .i64 a.y0, .int .i64 a.x1, .int .i64 a.y1, .int .i64 a.turn, .int .i64 a.scale] 47), (bs, Obj.cells #[.slice so sn sc] 113), (bm, Obj.cells #[.int .i64 m.w, .int .i64 m.h, .slice mo m.pix.length mc] 24), (bl, Obj.cells #[.int .i64 limit] 3), (bf, Obj.cells #[.func (.func 76) #[] #[.pointer (some ⟨bs, 0, none⟩), .pointer (some ⟨bm, 0, none⟩), .pointer (some ⟨bl, 0, none⟩), .pointer (some ⟨bo, 0, none⟩), .pointer (some ⟨bf, 0, none⟩)]] 120)] from ⟨(s2.2.1 bx hne).trans s1.1, s2.1, ((s2.2.1 _ (Nat.ne_of_lt (Nat.lt_of_lt_of_le d0 hby))).trans (s1.2.1 _ (Nat.ne_of_lt (Nat.lt_of_lt_of_le d0 hbx)))).trans (At.at A2.out 2 rfl), ((s2.2.1 _ (Nat.ne_of_lt (Nat.lt_of_lt_of_le d1 hby))).trans (s1.2.1 _ (Nat.ne_of_lt (Nat.lt_of_lt_of_le d1 hbx)))).trans (At.at A2.out 3 rfl), ((s2.2.1 _ (Nat.ne_of_lt (Nat.lt_of_lt_of_le d2 hby))).trans (s1.2.1 _ (Nat.ne_of_lt (Nat.lt_of_lt_of_le d2 hbx)))).trans (At.at A2.out 4 rfl), ((s2.2.1 _ (Nat.ne_of_lt (Nat.lt_of_lt_of_le d3 hby))).trans (s1.2.1 _ (Nat.ne_of_lt (Nat.lt_of_lt_of_le d3 hbx)))).trans (At.at A2.out 5 rfl), ((s2.2.1 _ (Nat.ne_of_lt (Nat.lt_of_lt_of_le d4 hby))).trans (s1.2.1 _ (Nat.ne_of_lt (Nat.lt_of_lt_of_le d4 hbx)))).trans (At.at A2.out 6 rfl), trivial⟩)
    have X4 := Lib.hid (show Ext w ((w2.setCell ⟨bx, 3, none⟩ (.int .i64 ((a.y0 + a.y1) / 2))).setCell ⟨by_, 1, none⟩ (.int .i64 ((a.y0 + a.y1) / 2 + 1))) from (X2.out.setCell (p := ⟨bx, 3, none⟩) (Nat.le_trans X1.out.size hbx) _).setCell (p := ⟨by_, 1, none⟩) (Nat.le_trans X1.out.size hby) _)
    have E4 := Lib.hid (HE.out.trans X4.out)
    have AE4 := Lib.hid (show At ((w2.setCell ⟨bx, 3, none⟩ (.int .i64 ((a.y0 + a.y1) / 2))).setCell ⟨by_, 1, none⟩ (.int .i64 ((a.y0 + a.y1) / 2 + 1))) [(bs, Obj.cells #[.slice so sn sc] 113), (bm, Obj.cells #[.int .i64 m.w, .int .i64 m.h, .slice mo m.pix.length mc] 24), (bl, Obj.cells #[.int .i64 limit] 3), (bf, Obj.cells #[.func (.func 76) #[] #[.pointer (some ⟨bs, 0, none⟩), .pointer (some ⟨bm, 0, none⟩), .pointer (some ⟨bl, 0, none⟩), .pointer (some ⟨bo, 0, none⟩), .pointer (some ⟨bf, 0, none⟩)]] 120)] from A4.out.2.2.2)
    have P4 := Lib.hid (show ∃ b, ((w2.setCell ⟨bx, 3, none⟩ (.int .i64 ((a.y0 + a.y1) / 2))).setCell ⟨by_, 1, none⟩ (.int .i64 ((a.y0 + a.y1) / 2 + 1))).ownsRow b 141 3 (.slice so sn sc) (stencil t turn scale t.pix.length).length (pts (stencil t turn scale t.pix.length)) from by obtain ⟨b, h⟩ := HPT.out; exact ⟨b, owns_ext h X4.out⟩)
    have O4 := Lib.hid (show OutAt ((w2.setCell ⟨bx, 3, none⟩ (.int .i64 ((a.y0 + a.y1) / 2))).setCell ⟨by_, 1, none⟩ (.int .i64 ((a.y0 + a.y1) / 2 + 1))) N bo (.slice mb ms.length mz) (.slice ab ar.length az) ms ar from (O2.out.set (fun k hk => Nat.lt_of_lt_of_le (O1.out.lt hk) hbx)).set (fun k hk => Nat.lt_of_lt_of_le (O1.out.lt hk) hby))
    clear s1 s2 d0 d1 d2 d3 d4
    obtain ⟨⟨u00, u01, u02, u03, u04, u05⟩, -⟩ := run_6 (At.at A4.out 0 rfl)
    obtain ⟨⟨u10, u11, u12, u13, u14, u15⟩, -⟩ := run_6 (At.at A4.out 1 rfl)
    obtain ⟨⟨u20, u21, u22, u23, u24, u25⟩, -⟩ := run_6 (At.at A4.out 2 rfl)
    obtain ⟨u30, -⟩ := run_1 (At.at A4.out 3 rfl)
    obtain ⟨⟨u40, u41, u42⟩, -⟩ := run_3 (At.at A4.out 4 rfl)
    obtain ⟨u50, -⟩ := run_1 (At.at A4.out 5 rfl)
    obtain ⟨u60, -⟩ := run_1 (At.at A4.out 6 rfl)
    have uz0 := At.lt A4.out 0 rfl
    have uy0 := Nat.lt_succ_of_lt uz0
    have ux0 := Nat.lt_succ_of_lt uy0
    have uz1 := At.lt A4.out 1 rfl
    have uy1 := Nat.lt_succ_of_lt uz1
    have ux1 := Nat.lt_succ_of_lt uy1
    have uz2 := At.lt A4.out 2 rfl
    have uy2 := Nat.lt_succ_of_lt uz2
    have ux2 := Nat.lt_succ_of_lt uy2
    have uz3 := At.lt A4.out 3 rfl
    have uy3 := Nat.lt_succ_of_lt uz3
    have ux3 := Nat.lt_succ_of_lt uy3
    have uz4 := At.lt A4.out 4 rfl
    have uy4 := Nat.lt_succ_of_lt uz4
    have ux4 := Nat.lt_succ_of_lt uy4
    have uz5 := At.lt A4.out 5 rfl
    have uy5 := Nat.lt_succ_of_lt uz5
    have ux5 := Nat.lt_succ_of_lt uy5
    have uz6 := At.lt A4.out 6 rfl
    have uy6 := Nat.lt_succ_of_lt uz6
    have ux6 := Nat.lt_succ_of_lt uy6
    have z1 : ms.length + SL.1.length ≤ 100000 := by omega
    have z2 : ar.length + SL.2.length ≤ 100000 := by omega
    have z3 : (ms ++ SL.1).length + SR.1.length ≤ 100000 := by rw [List.length_append]; omega
    have z4 : (ar ++ SL.2).length + SR.2.length ≤ 100000 := by rw [List.length_append]; omega
    go_wp2_with (first | (have _q := E5; go_at_call 76; (with_reducible refine (IR.out _ _ _ _ _ E5.out P5.out AE5.out O5.out z3 z4).mono ?_); rintro E w6 ⟨mv6, av6, rfl, hE6, hO6, hU6⟩; have E6 := Lib.hid hE6; have O6 := Lib.hid hO6; have U6 := Lib.hid hU6; clear hE6 hO6 hU6) | (go_at_call 76; (with_reducible refine (IL.out _ _ _ _ _ E4.out P4.out AE4.out O4.out z1 z2).mono ?_); rintro E w5 ⟨mv5, av5, rfl, hE5, hO5, hU5⟩; have E5 := Lib.hid hE5; have O5 := Lib.hid hO5; have U5 := Lib.hid hU5; have A5 := Lib.hid (show At w5 [(bx, Obj.cells #[.int .i64 a.x0, .int .i64 a.y0, .int .i64 a.x1, .int .i64 ((a.y0 + a.y1) / 2), .int .i64 a.turn, .int .i64 a.scale] 47), (by_, Obj.cells #[.int .i64 a.x0, .int .i64 ((a.y0 + a.y1) / 2 + 1), .int .i64 a.x1, .int .i64 a.y1, .int .i64 a.turn, .int .i64 a.scale] 47), (w.heap.size, Obj.cells #[.int .i64 a.x0, .int .i64 a.y0, .int .i64 a.x1, .int .i64 a.y1, .int .i64 a.turn, .int .i64 a.scale] 47), (bs, Obj.cells #[.slice so sn sc] 113), (bm, Obj.cells #[.int .i64 m.w, .int .i64 m.h, .slice mo m.pix.length mc] 24), (bl, Obj.cells #[.int .i64 limit] 3), (bf, Obj.cells #[.func (.func 76) #[] #[.pointer (some ⟨bs, 0, none⟩), .pointer (some ⟨bm, 0, none⟩), .pointer (some ⟨bl, 0, none⟩), .pointer (some ⟨bo, 0, none⟩), .pointer (some ⟨bf, 0, none⟩)]] 120)] from At.upd hU5 A4.out NE.out); have AE5 := Lib.hid (show At w5 [(bs, Obj.cells #[.slice so sn sc] 113), (bm, Obj.cells #[.int .i64 m.w, .int .i64 m.h, .slice mo m.pix.length mc] 24), (bl, Obj.cells #[.int .i64 limit] 3), (bf, Obj.cells #[.func (.func 76) #[] #[.pointer (some ⟨bs, 0, none⟩), .pointer (some ⟨bm, 0, none⟩), .pointer (some ⟨bl, 0, none⟩), .pointer (some ⟨bo, 0, none⟩), .pointer (some ⟨bf, 0, none⟩)]] 120)] from A5.out.2.2.2); have P5 := Lib.hid (show ∃ b, w5.ownsRow b 141 3 (.slice so sn sc) (stencil t turn scale t.pix.length).length (pts (stencil t turn scale t.pix.length)) from by obtain ⟨b, h⟩ := P4.out; exact ⟨b, owns_upd hU5 h fun k hk => by obtain ⟨cur, fr, hc⟩ := owns_type h k hk; exact O4.out.ne hc (by decide) (by decide) (by decide)⟩); clear hE5 hO5 hU5; obtain ⟨⟨v00, v01, v02, v03, v04, v05⟩, -⟩ := run_6 (At.at A5.out 0 rfl); obtain ⟨⟨v10, v11, v12, v13, v14, v15⟩, -⟩ := run_6 (At.at A5.out 1 rfl); obtain ⟨⟨v20, v21, v22, v23, v24, v25⟩, -⟩ := run_6 (At.at A5.out 2 rfl); obtain ⟨v30, -⟩ := run_1 (At.at A5.out 3 rfl); obtain ⟨⟨v40, v41, v42⟩, -⟩ := run_3 (At.at A5.out 4 rfl); obtain ⟨v50, -⟩ := run_1 (At.at A5.out 5 rfl); obtain ⟨v60, -⟩ := run_1 (At.at A5.out 6 rfl); have vz0 := At.lt A5.out 0 rfl; have vy0 := Nat.lt_succ_of_lt vz0; have vx0 := Nat.lt_succ_of_lt vy0; have vz1 := At.lt A5.out 1 rfl; have vy1 := Nat.lt_succ_of_lt vz1; have vx1 := Nat.lt_succ_of_lt vy1; have vz2 := At.lt A5.out 2 rfl; have vy2 := Nat.lt_succ_of_lt vz2; have vx2 := Nat.lt_succ_of_lt vy2; have vz3 := At.lt A5.out 3 rfl; have vy3 := Nat.lt_succ_of_lt vz3; have vx3 := Nat.lt_succ_of_lt vy3; have vz4 := At.lt A5.out 4 rfl; have vy4 := Nat.lt_succ_of_lt vz4; have vx4 := Nat.lt_succ_of_lt vy4; have vz5 := At.lt A5.out 5 rfl; have vy5 := Nat.lt_succ_of_lt vz5; have vx5 := Nat.lt_succ_of_lt vy5; have vz6 := At.lt A5.out 6 rfl; have vy6 := Nat.lt_succ_of_lt vz6; have vx6 := Nat.lt_succ_of_lt vy6))
    refine bodyPost_ret (results_none rfl _ _ _) rfl ?_
    exact ⟨_, _, rfl, E6.out, by have := O6.out; simp only [List.append_assoc] at this; exact this, (Upd.of_ext X4.out).trans (U5.out.trans U6.out)⟩
theorem c76 (m : Img) (v : Value) (t : Tpl) (turn scale limit : Int) (sv : Value) (w0 : World) (N bs bm bl bo bf : Nat) (mo so : Option Addr) (mc sn sc : Nat) (hm : m.Camera) (ht : t.Ok) (hps : Posed turn scale) (hN : w0.heap.size ≤ N) (hbo : w0.heap.size ≤ bo) (hNb : N ≤ bo + 1) (hv : IntsAt w0 v m.pix) (hv0 : v = .slice mo m.pix.length mc) (hs0 : sv = .slice so sn sc) : ∀ (k : Nat) (a : Area), a.Ok m → a.size ≤ k → a.turn = turn → a.scale = scale → ∀ (ms : List Match) (ar : List Area) (mv av : Value) (w : World), Ext w0 w → (∃ b, w.ownsRow b 141 3 sv (stencil t turn scale t.pix.length).length (pts (stencil t turn scale t.pix.length))) → At w [(bs, Obj.cells #[.slice so sn sc] 113), (bm, Obj.cells #[.int .i64 m.w, .int .i64 m.h, .slice mo m.pix.length mc] 24), (bl, Obj.cells #[.int .i64 limit] 3), (bf, Obj.cells #[.func (.func 76) #[] #[.pointer (some ⟨bs, 0, none⟩), .pointer (some ⟨bm, 0, none⟩), .pointer (some ⟨bl, 0, none⟩), .pointer (some ⟨bo, 0, none⟩), .pointer (some ⟨bf, 0, none⟩)]] 120)] → OutAt w N bo mv av ms ar → ms.length + (search m t limit k a).1.length ≤ 100000 → ar.length + (search m t limit k a).2.length ≤ 100000 → Calls Try.prog 76 #[areaVal a, .pointer (some ⟨bs, 0, none⟩), .pointer (some ⟨bm, 0, none⟩), .pointer (some ⟨bl, 0, none⟩), .pointer (some ⟨bo, 0, none⟩), .pointer (some ⟨bf, 0, none⟩)] w (SearchIs (search m t limit k a) w0 N bo ms ar mv av w) := by
  intro k
  induction k with
  | zero =>
    intro a ha hk h1 h2 ms ar mv av w g1 g2 g3 g4 g5 g6
    by_cases hb : limit < bound m t a
    · rw [search_far 0 hb] at *
      exact c76_far m v t turn scale limit sv w0 N bs bm bl bo bf mo so mc sn sc hm ht hps hN hbo hNb hv hv0 hs0 a ms ar mv av w ha h1 h2 g1 g2 g3 g4 (by simp at g6; omega) hb
    · have ho := one_of_size ha.full (by simpa using hk)
      rw [search_one 0 hb ho] at *
      exact c76_one m v t turn scale limit sv w0 N bs bm bl bo bf mo so mc sn sc hm ht hps hN hbo hNb hv hv0 hs0 a ms ar mv av w ha h1 h2 g1 g2 g3 g4 (by simp at g5; omega) hb ho
  | succ k ih =>
    intro a ha hk h1 h2 ms ar mv av w g1 g2 g3 g4 g5 g6
    by_cases hb : limit < bound m t a
    · rw [search_far (k + 1) hb] at *
      exact c76_far m v t turn scale limit sv w0 N bs bm bl bo bf mo so mc sn sc hm ht hps hN hbo hNb hv hv0 hs0 a ms ar mv av w ha h1 h2 g1 g2 g3 g4 (by simp at g6; omega) hb
    by_cases ho : a.One
    · rw [search_one (k + 1) hb ho] at *
      exact c76_one m v t turn scale limit sv w0 N bs bm bl bo bf mo so mc sn sc hm ht hps hN hbo hNb hv hv0 hs0 a ms ar mv av w ha h1 h2 g1 g2 g3 g4 (by simp at g5; omega) hb ho
    obtain ⟨-, ⟨s1, s2⟩, -, ⟨⟨t1, t2⟩, t3, t4⟩, -⟩ := halves ha.full ho
    obtain ⟨o1, o2⟩ := halves_ok ha ho
    have i1 := ih (leftOf a) o1 (by omega) (t1.trans h1) (t2.trans h2)
    have i2 := ih (rightOf a) o2 (by omega) (t3.trans h1) (t4.trans h2)
    rw [search_more k hb ho] at *
    simp only [List.length_append] at g5 g6
    by_cases hw : a.y1 - a.y0 ≤ a.x1 - a.x0
    · exact c76_wide m v t turn scale limit sv w0 N bs bm bl bo bf mo so mc sn sc hm ht hps hN hbo hNb hv hv0 hs0 a ms ar mv av w ha h1 h2 g1 g2 g3 g4 _ _ i1 i2 g5 g6 hb ho hw
    by_cases hx : a.x1 = a.x0
    · exact c76_high0 m v t turn scale limit sv w0 N bs bm bl bo bf mo so mc sn sc hm ht hps hN hbo hNb hv hv0 hs0 a ms ar mv av w ha h1 h2 g1 g2 g3 g4 _ _ i1 i2 g5 g6 hb ho hw hx
    · exact c76_high1 m v t turn scale limit sv w0 N bs bm bl bo bf mo so mc sn sc hm ht hps hN hbo hNb hv hv0 hs0 a ms ar mv av w ha h1 h2 g1 g2 g3 g4 _ _ i1 i2 g5 g6 hb ho hw hx
end Go.Proofs.Ytipkjdfnoonpcaa
