/- What the reference's functions of enclosures answer: what layer 1's do. -/
import Derived.Test.YtodoimeiklilhaaRefFour
import Derived.Test.YtodoimeiklilhaaMeetJoin
set_option linter.unusedVariables false
set_option linter.unusedSimpArgs false
namespace Go.Proofs.Ytodoimeiklilhaa
open Go.RowKit Go.Sort

theorem min_self (p : Rat) : ratMin p p = p := by unfold ratMin; split <;> rfl
theorem max_self (p : Rat) : ratMax p p = p := by unfold ratMax; split <;> rfl
theorem min_le {p q : Rat} (h : p ≤ q) : ratMin p q = p := by unfold ratMin; rw [if_neg (by grind)]
theorem max_le {p q : Rat} (h : p ≤ q) : ratMax p q = q := by
  unfold ratMax
  split
  · rfl
  · rename_i k; grind
theorem answer_fits {q : Rat} (h : Fits q) : answer q = (fracOf q, 0) := if_pos h
theorem answer_not {q : Rat} (h : ¬ Fits q) : answer q = (⟨0, 0⟩, 4) := if_neg h
theorem answer_two (q : Rat) : decide ((answer q).2 = 0) = decide (Fits q) := by
  by_cases h : Fits q
  · rw [answer_fits h, decide_eq_true h]; rfl
  · rw [answer_not h, decide_eq_false h]; rfl
theorem ends_two {f : Rat → Rat → Frac × Int} {p0 q0 p1 q1 x0 x1 : Rat} (h0 : f p0 q0 = answer x0) (h1 : f p1 q1 = answer x1) (hle : x0 ≤ x1) :
    endsR f none [(p0, q0), (p1, q1)] = if Fits x0 ∧ Fits x1 then (some (x0, x1), 0) else (none, 4) := by
  simp only [endsR, h0, h1]
  by_cases k0 : Fits x0
  · rw [answer_fits k0, if_pos rfl]
    by_cases k1 : Fits x1
    · rw [answer_fits k1, if_pos rfl, if_pos ⟨k0, k1⟩]
      simp only [stepBox, fracOf_val, min_le hle, max_le hle]
    · rw [answer_not k1, if_neg (by decide), if_neg (fun h => k1 h.2)]
  · rw [answer_not k0, if_neg (by decide), if_neg (fun h => k0 h.1)]
theorem ends_fit {f : Rat → Rat → Frac × Int} {s : Box} {p q x : Rat} {l : List (Rat × Rat)} (h : f p q = answer x) (k : Fits x) : endsR f s ((p, q) :: l) = endsR f (some (stepBox s x)) l := by
  rw [show endsR f s ((p, q) :: l) = if (f p q).2 = 0 then endsR f (some (stepBox s (f p q).1.val)) l else (none, (f p q).2) from rfl, h, answer_fits k]
  show (if (0 : Int) = 0 then endsR f (some (stepBox s (fracOf x).val)) l else _) = _
  rw [if_pos rfl, fracOf_val]
theorem ends_unfit {f : Rat → Rat → Frac × Int} {s : Box} {p q x : Rat} {l : List (Rat × Rat)} (h : f p q = answer x) (k : ¬ Fits x) : endsR f s ((p, q) :: l) = (none, 4) := by
  rw [show endsR f s ((p, q) :: l) = if (f p q).2 = 0 then endsR f (some (stepBox s (f p q).1.val)) l else (none, (f p q).2) from rfl, h, answer_not k]
  rfl
theorem ends_four {f : Rat → Rat → Frac × Int} {p0 q0 p1 q1 p2 q2 p3 q3 x0 x1 x2 x3 : Rat} (h0 : f p0 q0 = answer x0) (h1 : f p1 q1 = answer x1) (h2 : f p2 q2 = answer x2) (h3 : f p3 q3 = answer x3) :
    endsR f none [(p0, q0), (p1, q1), (p2, q2), (p3, q3)] = if Fits x0 ∧ Fits x1 ∧ Fits x2 ∧ Fits x3 then (some (loF x0 x1 x2 x3 4, hiF x0 x1 x2 x3 4), 0) else (none, 4) := by
  by_cases k0 : Fits x0
  · rw [ends_fit h0 k0]
    by_cases k1 : Fits x1
    · rw [ends_fit h1 k1]
      by_cases k2 : Fits x2
      · rw [ends_fit h2 k2]
        by_cases k3 : Fits x3
        · rw [ends_fit h3 k3, if_pos ⟨k0, k1, k2, k3⟩]
          show (some (ratMin (ratMin (ratMin x0 x1) x2) x3, ratMax (ratMax (ratMax x0 x1) x2) x3), (0 : Int)) = (some (ratMin (ratMin (ratMin (ratMin x0 x0) x1) x2) x3, ratMax (ratMax (ratMax (ratMax x0 x0) x1) x2) x3), 0)
          rw [min_self, max_self]
        · rw [ends_unfit h3 k3, if_neg (fun h => k3 h.2.2.2)]
      · rw [ends_unfit h2 k2, if_neg (fun h => k2 h.2.2.1)]
    · rw [ends_unfit h1 k1, if_neg (fun h => k1 h.2.1)]
  · rw [ends_unfit h0 k0, if_neg (fun h => k0 h.1)]
theorem both_no {a b : Span} (h : ¬ (a.ok ∧ b.ok)) : (decide a.ok && decide b.ok) = false := by rw [Bool.eq_false_iff]; simpa using h
theorem r_AddSpans_ok {al ah bl bh : Rat} (h1 : Fits al) (h2 : Fits ah) (k1 : Fits bl) (k2 : Fits bh) (h3 : al ≤ ah) (k3 : bl ≤ bh) (w : World) :
    Calls Try.prog 24 #[spanV al ah, spanV bl bh] w fun E w' => E = .returned (sansV (endsR (fun p q => answer (p + q)) none [(al, bl), (ah, bh)])) ∧ Ext w w' := by
  have va := r_ValidSpan (mkSpan al ah) (mkSpan_wide h1 h2)
  have vb := r_ValidSpan (mkSpan bl bh) (mkSpan_wide k1 k2)
  rw [decide_eq_true (mkSpan_ok h1 h2 h3)] at va
  rw [decide_eq_true (mkSpan_ok k1 k2 k3)] at vb
  rw [ends_two (f := fun p q => answer (p + q)) (p0 := al) (q0 := bl) (p1 := ah) (q1 := bh) (x0 := al + bl) (x1 := ah + bh) rfl rfl (by grind)]
  have c1 := r_Plus al bl h1 k1
  have c2 := r_Plus ah bh h2 k2
  rw [answer_two] at c1 c2
  by_cases e1 : Fits (al + bl)
  · rw [answer_fits e1, decide_eq_true e1] at c1
    by_cases e2 : Fits (ah + bh)
    · rw [answer_fits e2, decide_eq_true e2] at c2
      rw [if_pos ⟨e1, e2⟩]
      refine rAddSpans_walk (nm al) (dn al) (nm ah) (dn ah) (nm bl) (dn bl) (nm bh) (dn bh) _ _ _ _ _ _ _ _ _ _ _ w ?_ va vb c1 c2
      exact if_pos ⟨rfl, rfl⟩
    · rw [answer_not e2, decide_eq_false e2] at c2
      rw [if_neg (fun h => e2 h.2)]
      refine rAddSpans_walk (nm al) (dn al) (nm ah) (dn ah) (nm bl) (dn bl) (nm bh) (dn bh) _ _ _ _ _ _ _ _ _ _ _ w ?_ va vb c1 c2
      exact if_neg (fun h => by cases h.2)
  · rw [answer_not e1, decide_eq_false e1] at c1
    rw [if_neg (fun h => e1 h.1)]
    refine rAddSpans_walk (nm al) (dn al) (nm ah) (dn ah) (nm bl) (dn bl) (nm bh) (dn bh) _ _ _ _ _ _ _ _ _ _ _ w ?_ va vb c1 c2
    exact if_neg (fun h => by cases h.1)
theorem r_AddSpans (a b : Span) (ha : a.wide) (hb : b.wide) (w : World) :
    Calls Try.prog 24 #[fspanV a, fspanV b] w fun E w' => E = .returned (sansV (spanR (fun p q => answer (p + q)) pairsAdd a b)) ∧ Ext w w' := by
  by_cases hn : a.ok ∧ b.ok
  · obtain ⟨al, ah, h1, h2, h3, rfl⟩ := Span.of_ok hn.1
    obtain ⟨bl, bh, k1, k2, k3, rfl⟩ := Span.of_ok hn.2
    rw [spanR_ok _ _ hn.1 hn.2]
    exact r_AddSpans_ok h1 h2 k1 k2 h3 k3 w
  · rw [show spanR (fun p q => answer (p + q)) pairsAdd a b = (none, 8) from if_neg hn]
    exact rAddSpans_no _ _ _ _ _ _ _ _ _ _ w (both_no hn) (r_ValidSpan a ha) (r_ValidSpan b hb)
theorem r_NegR (q : Rat) (hq : Fits q) (w : World) : Calls Try.prog 50 #[ratV q] w fun E w' => E = .returned (ratV (-q)) ∧ Ext w w' := by
  have h := r_Neg (fracOf q) w
  have e2 : wrap64 (-(fracOf q).num) = nm (-q) := by
    have k := (fits_i64 (fits_neg hq)).1
    rw [show nm (-q) = -(fracOf q).num from Rat.neg_num q] at k ⊢
    exact IntWalk.wrap64_in _ k
  rw [e2] at h
  exact h
theorem ends_sub {al ah bl bh : Rat} : endsR (fun p q => answer (p + q)) none [(al, -bh), (ah, -bl)] = endsR (fun p q => answer (p - q)) none [(al, bh), (ah, bl)] := by
  simp only [endsR, Rat.sub_eq_add_neg]
theorem r_SubSpans (a b : Span) (ha : a.wide) (hb : b.wide) (w : World) :
    Calls Try.prog 26 #[fspanV a, fspanV b] w fun E w' => E = .returned (sansV (spanR (fun p q => answer (p - q)) pairsSub a b)) ∧ Ext w w' := by
  by_cases hn : a.ok ∧ b.ok
  · obtain ⟨al, ah, h1, h2, h3, rfl⟩ := Span.of_ok hn.1
    obtain ⟨bl, bh, k1, k2, k3, rfl⟩ := Span.of_ok hn.2
    rw [spanR_ok _ _ hn.1 hn.2]
    have va := r_ValidSpan (mkSpan al ah) (mkSpan_wide h1 h2)
    have vb := r_ValidSpan (mkSpan bl bh) (mkSpan_wide k1 k2)
    rw [decide_eq_true hn.1] at va
    rw [decide_eq_true hn.2] at vb
    have c := fun w => r_AddSpans_ok h1 h2 (fits_neg k2) (fits_neg k1) h3 (show -bh ≤ -bl by grind) w
    rw [ends_sub] at c
    show Calls Try.prog _ _ w fun E w' => E = .returned (sansV (endsR (fun p q => answer (p - q)) none [(al, bh), (ah, bl)])) ∧ Ext w w'
    obtain ⟨⟨r, e⟩, hr⟩ : ∃ r, endsR (fun p q => answer (p - q)) none [(al, bh), (ah, bl)] = r := ⟨_, rfl⟩
    rw [hr] at c ⊢
    cases r with
    | none => exact rSubSpans_walk (nm al) (dn al) (nm ah) (dn ah) (nm bl) (dn bl) (nm bh) (dn bh) _ _ _ _ _ _ _ _ _ w va vb (r_NegR bh k2) (r_NegR bl k1) c
    | some x => exact rSubSpans_walk (nm al) (dn al) (nm ah) (dn ah) (nm bl) (dn bl) (nm bh) (dn bh) _ _ _ _ _ _ _ _ _ w va vb (r_NegR bh k2) (r_NegR bl k1) c
  · rw [show spanR (fun p q => answer (p - q)) pairsSub a b = (none, 8) from if_neg hn]
    exact rSubSpans_no _ _ _ _ _ _ _ _ _ _ w (both_no hn) (r_ValidSpan a ha) (r_ValidSpan b hb)
/-- what 'four' answers for four numbers, or for what stands for them where they do not fit -/
theorem r_four (x0 x1 x2 x3 : Rat) (w : World) :
    Calls Try.prog 61 #[.agg #[.int .i64 (answer x0).1.num, .int .i64 (answer x0).1.den, .int .i64 (answer x1).1.num, .int .i64 (answer x1).1.den, .int .i64 (answer x2).1.num, .int .i64 (answer x2).1.den, .int .i64 (answer x3).1.num, .int .i64 (answer x3).1.den],
      .agg #[.bool (decide (Fits x0)), .bool (decide (Fits x1)), .bool (decide (Fits x2)), .bool (decide (Fits x3))]] w fun E w' => E = .returned (sansV (if Fits x0 ∧ Fits x1 ∧ Fits x2 ∧ Fits x3 then (some (loF x0 x1 x2 x3 4, hiF x0 x1 x2 x3 4), 0) else (none, 4))) ∧ Ext w w' := by
  by_cases h : Fits x0 ∧ Fits x1 ∧ Fits x2 ∧ Fits x3
  · rw [if_pos h, answer_fits h.1, answer_fits h.2.1, answer_fits h.2.2.1, answer_fits h.2.2.2, decide_eq_true h.1, decide_eq_true h.2.1, decide_eq_true h.2.2.1, decide_eq_true h.2.2.2]
    exact four_ok x0 x1 x2 x3 h.1 h.2.1 h.2.2.1 h.2.2.2 w
  · rw [if_neg h]
    exact four_no _ _ _ _ _ _ _ _ _ _ _ _ w (by rw [Bool.eq_false_iff]; simpa [and_assoc] using h)
theorem r_MulSpans (a b : Span) (ha : a.wide) (hb : b.wide) (w : World) :
    Calls Try.prog 28 #[fspanV a, fspanV b] w fun E w' => E = .returned (sansV (spanR (fun p q => answer (p * q)) pairsAll a b)) ∧ Ext w w' := by
  by_cases hn : a.ok ∧ b.ok
  · obtain ⟨al, ah, h1, h2, h3, rfl⟩ := Span.of_ok hn.1
    obtain ⟨bl, bh, k1, k2, k3, rfl⟩ := Span.of_ok hn.2
    rw [spanR_ok _ _ hn.1 hn.2]
    have va := r_ValidSpan (mkSpan al ah) (mkSpan_wide h1 h2)
    have vb := r_ValidSpan (mkSpan bl bh) (mkSpan_wide k1 k2)
    rw [decide_eq_true hn.1] at va
    rw [decide_eq_true hn.2] at vb
    have c0 := r_Times al bl h1 k1
    have c1 := r_Times al bh h1 k2
    have c2 := r_Times ah bl h2 k1
    have c3 := r_Times ah bh h2 k2
    rw [answer_two] at c0 c1 c2 c3
    have cf := r_four (al * bl) (al * bh) (ah * bl) (ah * bh)
    rw [← ends_four (f := fun p q => answer (p * q)) (p0 := al) (q0 := bl) (p1 := al) (q1 := bh) (p2 := ah) (q2 := bl) (p3 := ah) (q3 := bh) rfl rfl rfl rfl] at cf
    show Calls Try.prog _ _ w fun E w' => E = .returned (sansV (endsR (fun p q => answer (p * q)) none [(al, bl), (al, bh), (ah, bl), (ah, bh)])) ∧ Ext w w'
    obtain ⟨⟨r, e⟩, hr⟩ : ∃ r, endsR (fun p q => answer (p * q)) none [(al, bl), (al, bh), (ah, bl), (ah, bh)] = r := ⟨_, rfl⟩
    rw [hr] at cf ⊢
    cases r with
    | none => exact rMulSpans_walk (nm al) (dn al) (nm ah) (dn ah) (nm bl) (dn bl) (nm bh) (dn bh) _ _ _ _ _ _ _ _ _ _ _ _ _ _ _ _ _ w va vb c0 c1 c2 c3 cf
    | some x => exact rMulSpans_walk (nm al) (dn al) (nm ah) (dn ah) (nm bl) (dn bl) (nm bh) (dn bh) _ _ _ _ _ _ _ _ _ _ _ _ _ _ _ _ _ w va vb c0 c1 c2 c3 cf
  · rw [show spanR (fun p q => answer (p * q)) pairsAll a b = (none, 8) from if_neg hn]
    exact rMulSpans_no _ _ _ _ _ _ _ _ _ _ w (both_no hn) (r_ValidSpan a ha) (r_ValidSpan b hb)
theorem nm_zero {q : Rat} (h : nm q = 0) : q = 0 := Rat.num_eq_zero.1 h
theorem r_DivSpans (a b : Span) (ha : a.wide) (hb : b.wide) (w : World) :
    Calls Try.prog 30 #[fspanV a, fspanV b] w fun E w' => E = .returned (sansV (divSpanR a b)) ∧ Ext w w' := by
  by_cases hn : a.ok ∧ b.ok
  · obtain ⟨al, ah, h1, h2, h3, rfl⟩ := Span.of_ok hn.1
    obtain ⟨bl, bh, k1, k2, k3, rfl⟩ := Span.of_ok hn.2
    have e : divSpanR (mkSpan al ah) (mkSpan bl bh) = if bl ≤ 0 ∧ 0 ≤ bh then (none, 10) else endsR quotR none [(al, bl), (al, bh), (ah, bl), (ah, bh)] := by
      unfold divSpanR
      rw [if_pos hn]
      show (if (fracOf bl).val ≤ 0 ∧ 0 ≤ (fracOf bh).val then _ else endsR quotR none (pairsAll (fracOf al).val (fracOf ah).val (fracOf bl).val (fracOf bh).val)) = _
      simp only [fracOf_val]
      rfl
    rw [e]
    have va := r_ValidSpan (mkSpan al ah) (mkSpan_wide h1 h2)
    have vb := r_ValidSpan (mkSpan bl bh) (mkSpan_wide k1 k2)
    rw [decide_eq_true hn.1] at va
    rw [decide_eq_true hn.2] at vb
    have ch := r_Has bl bh 0 k1 k2 (by decide)
    by_cases hz : bl ≤ 0 ∧ 0 ≤ bh
    · rw [decide_eq_true hz] at ch
      rw [if_pos hz]
      exact rDivSpans_zero (nm al) (dn al) (nm ah) (dn ah) (nm bl) (dn bl) (nm bh) (dn bh) w va vb ch
    · rw [decide_eq_false hz] at ch
      rw [if_neg hz]
      have zl : nm bl ≠ 0 := fun h => hz (by rw [nm_zero h] at k3 ⊢; exact ⟨Rat.le_refl, k3⟩)
      have zh : nm bh ≠ 0 := fun h => hz (by rw [nm_zero h] at k3 ⊢; exact ⟨k3, Rat.le_refl⟩)
      have c0 := r_Over al bl h1 k1 zl
      have c1 := r_Over al bh h1 k2 zh
      have c2 := r_Over ah bl h2 k1 zl
      have c3 := r_Over ah bh h2 k2 zh
      rw [answer_two] at c0 c1 c2 c3
      have cf := r_four (al / bl) (al / bh) (ah / bl) (ah / bh)
      rw [← ends_four (f := quotR) (p0 := al) (q0 := bl) (p1 := al) (q1 := bh) (p2 := ah) (q2 := bl) (p3 := ah) (q3 := bh) (if_neg zl) (if_neg zh) (if_neg zl) (if_neg zh)] at cf
      obtain ⟨⟨r, e⟩, hr⟩ : ∃ r, endsR quotR none [(al, bl), (al, bh), (ah, bl), (ah, bh)] = r := ⟨_, rfl⟩
      rw [hr] at cf ⊢
      cases r with
      | none => exact rDivSpans_walk (nm al) (dn al) (nm ah) (dn ah) (nm bl) (dn bl) (nm bh) (dn bh) _ _ _ _ _ _ _ _ _ _ _ _ _ _ _ _ _ w va vb ch c0 c1 c2 c3 cf
      | some x => exact rDivSpans_walk (nm al) (dn al) (nm ah) (dn ah) (nm bl) (dn bl) (nm bh) (dn bh) _ _ _ _ _ _ _ _ _ _ _ _ _ _ _ _ _ w va vb ch c0 c1 c2 c3 cf
  · rw [show divSpanR a b = (none, 8) from if_neg hn]
    exact rDivSpans_no _ _ _ _ _ _ _ _ _ _ w (both_no hn) (r_ValidSpan a ha) (r_ValidSpan b hb)
theorem r_Meet (a b : Span) (ha : a.wide) (hb : b.wide) (w : World) :
    Calls Try.prog 32 #[fspanV a, fspanV b] w fun E w' => E = .returned (sansV (meetR a b)) ∧ Ext w w' := by
  by_cases hn : a.ok ∧ b.ok
  · obtain ⟨al, ah, h1, h2, h3, rfl⟩ := Span.of_ok hn.1
    obtain ⟨bl, bh, k1, k2, k3, rfl⟩ := Span.of_ok hn.2
    have e : meetR (mkSpan al ah) (mkSpan bl bh) = if ratMax al bl ≤ ratMin ah bh then (some (ratMax al bl, ratMin ah bh), 0) else (none, 6) := by
      unfold meetR
      rw [if_pos hn]
      simp only [show (mkSpan al ah).lo.val = al from fracOf_val al, show (mkSpan al ah).hi.val = ah from fracOf_val ah, show (mkSpan bl bh).lo.val = bl from fracOf_val bl, show (mkSpan bl bh).hi.val = bh from fracOf_val bh]
    rw [e]
    have va := r_ValidSpan (mkSpan al ah) (mkSpan_wide h1 h2)
    have vb := r_ValidSpan (mkSpan bl bh) (mkSpan_wide k1 k2)
    rw [decide_eq_true hn.1] at va
    rw [decide_eq_true hn.2] at vb
    have c := rMeet_walk (nm al) (dn al) (nm ah) (dn ah) (nm bl) (dn bl) (nm bh) (dn bh) _ _ _ _ _ _ w rfl va vb (r_Most al bl h1 k1) (r_Least ah bh h2 k2) (r_Order _ _ (max_fits h1 k1) (min_fits h2 k2))
    have e2 := cmp_le_iff (ratMax al bl) (ratMin ah bh)
    by_cases hm : ratMax al bl ≤ ratMin ah bh
    · rw [decide_eq_false (by have := e2.2 hm; omega)] at c
      rw [if_pos hm]
      exact c
    · rw [decide_eq_true (by rcases Int.lt_or_le 0 (cmp (ratMax al bl) (ratMin ah bh)) with k | k; exact k; exact absurd (e2.1 k) hm)] at c
      rw [if_neg hm]
      exact c
  · rw [show meetR a b = (none, 8) from if_neg hn]
    exact rMeet_no _ _ _ _ _ _ _ _ _ _ w (both_no hn) (r_ValidSpan a ha) (r_ValidSpan b hb)
theorem r_Join (a b : Span) (ha : a.wide) (hb : b.wide) (w : World) :
    Calls Try.prog 34 #[fspanV a, fspanV b] w fun E w' => E = .returned (sansV (joinR a b)) ∧ Ext w w' := by
  by_cases hn : a.ok ∧ b.ok
  · obtain ⟨al, ah, h1, h2, h3, rfl⟩ := Span.of_ok hn.1
    obtain ⟨bl, bh, k1, k2, k3, rfl⟩ := Span.of_ok hn.2
    have e : joinR (mkSpan al ah) (mkSpan bl bh) = (some (ratMin al bl, ratMax ah bh), 0) := by
      unfold joinR
      rw [if_pos hn]
      simp only [show (mkSpan al ah).lo.val = al from fracOf_val al, show (mkSpan al ah).hi.val = ah from fracOf_val ah, show (mkSpan bl bh).lo.val = bl from fracOf_val bl, show (mkSpan bl bh).hi.val = bh from fracOf_val bh]
    rw [e]
    have va := r_ValidSpan (mkSpan al ah) (mkSpan_wide h1 h2)
    have vb := r_ValidSpan (mkSpan bl bh) (mkSpan_wide k1 k2)
    rw [decide_eq_true hn.1] at va
    rw [decide_eq_true hn.2] at vb
    exact rJoin_walk (nm al) (dn al) (nm ah) (dn ah) (nm bl) (dn bl) (nm bh) (dn bh) _ _ _ _ w va vb (r_Least al bl h1 k1) (r_Most ah bh h2 k2)
  · rw [show joinR a b = (none, 8) from if_neg hn]
    exact rJoin_no _ _ _ _ _ _ _ _ _ _ w (both_no hn) (r_ValidSpan a ha) (r_ValidSpan b hb)
end Go.Proofs.Ytodoimeiklilhaa
