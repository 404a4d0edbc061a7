/- Which parts are hit, for parts whose verdicts were told at once: plain laws. No program in sight. -/
import Derived.Test.YtcbimfaneinpkaaSteps2
set_option linter.unusedVariables false
set_option linter.unusedSimpArgs false
namespace Go.Proofs.Ytcbimfaneinpkaa

theorem first_pos {b : Belt} (h : b.ok) : 1 ≤ first b := (from_bd h h.2.2.2.2.1 h.2.2.2.2.2.1).1
theorem first_final {b : Belt} (h : b.ok) : first b ≤ final b := from_le_to h h.2.2.2.2.1
/-- whether a part is hit until a count, by the gate's openings for all parts of a list -/
def hitC (b : Belt) (S : List Seen) (c : Int) (x : Seen) : Bool :=
  S.any fun y => decide (y.verdict ≠ 1) && (decide (x.at_ + first b ≤ c) && (decide (y.at_ + first b ≤ c) && (decide (x.at_ + first b ≤ y.at_ + final b) && decide (y.at_ + first b ≤ x.at_ + final b))))
theorem hitC_iff {b : Belt} {S : List Seen} {c : Int} {x : Seen} : hitC b S c x = true ↔ ∃ y ∈ S, y.verdict ≠ 1 ∧ x.at_ + first b ≤ c ∧ y.at_ + first b ≤ c ∧ x.at_ + first b ≤ y.at_ + final b ∧ y.at_ + first b ≤ x.at_ + final b := by
  unfold hitC
  simp only [List.any_eq_true, Bool.and_eq_true, decide_eq_true_eq]
def hitP (b : Belt) (S : List Seen) (c : Int) (x : Seen) : Seen := ⟨x.id, x.at_, x.verdict, hitC b S c x⟩
def onBelt (b : Belt) (c : Int) (x : Seen) : Bool := decide (c < x.at_ + final b)
def partsC (b : Belt) (S L : List Seen) (c : Int) : List Seen := (L.filter (onBelt b c)).map (hitP b S c)
def fatesC (b : Belt) (S L : List Seen) (c : Int) : List Fate := (L.filter fun x => !onBelt b c x).map fun x => fateOf (hitP b S (x.at_ + final b) x)
structure Sim (b : Belt) (S L : List Seen) (t : Track) (fs : List Fate) : Prop where
  ok : t.ok
  belt : t.belt = b
  parts : t.parts = partsC b S L t.count
  fates : fs = fatesC b S L t.count
  sub : ∀ y ∈ L, y ∈ S
  rise : L.Pairwise fun x y => x.at_ < y.at_
theorem openAt_iff {t : Track} {n : Int} : openAt t n = true ↔ ∃ y ∈ t.parts, y.verdict ≠ 1 ∧ y.at_ + first t.belt ≤ n ∧ n ≤ y.at_ + final t.belt := by
  unfold openAt here
  simp only [List.any_eq_true, Bool.and_eq_true, decide_eq_true_eq]
theorem hit_step {b : Belt} {S L : List Seen} {t : Track} {fs : List Fate} (h : Sim b S L t fs) (hN : ∀ y ∈ S, y ∈ L ∨ t.count < y.at_) {x : Seen} (hx : onBelt b t.count x = true) :
    hitAt t (t.count + 1) (hitP b S t.count x) = hitP b S (t.count + 1) x := by
  have hbo : b.ok := h.belt ▸ h.ok.1
  have f1 := first_pos hbo
  have f2 := first_final hbo
  have hx' : t.count < x.at_ + final b := of_decide_eq_true hx
  have key : (hitC b S t.count x || (openAt t (t.count + 1) && here t (t.count + 1) (hitP b S t.count x))) = hitC b S (t.count + 1) x := by
    rw [Bool.eq_iff_iff]
    simp only [Bool.or_eq_true, Bool.and_eq_true]
    constructor
    · rintro (h1 | ⟨h1, h2⟩)
      · obtain ⟨y, hy, a1, a2, a3, a4, a5⟩ := hitC_iff.1 h1
        exact hitC_iff.2 ⟨y, hy, a1, by omega, by omega, a4, a5⟩
      · obtain ⟨y, hy, a1, a2, a3⟩ := openAt_iff.1 h1
        rw [h.parts] at hy
        obtain ⟨z, hz, rfl⟩ := List.mem_map.1 hy
        have hzL := (List.mem_filter.1 hz).1
        unfold here at h2
        simp only [Bool.and_eq_true, decide_eq_true_eq] at h2
        rw [h.belt] at a2 a3 h2
        obtain ⟨b1, b2⟩ := h2
        have b1' : x.at_ + first b ≤ t.count + 1 := b1
        have b2' : t.count + 1 ≤ x.at_ + final b := b2
        have a2' : z.at_ + first b ≤ t.count + 1 := a2
        have a3' : t.count + 1 ≤ z.at_ + final b := a3
        exact hitC_iff.2 ⟨z, h.sub z hzL, a1, b1', a2', by omega, by omega⟩
    · intro h1
      obtain ⟨y, hy, a1, a2, a3, a4, a5⟩ := hitC_iff.1 h1
      by_cases hc : x.at_ + first b ≤ t.count ∧ y.at_ + first b ≤ t.count
      · exact .inl (hitC_iff.2 ⟨y, hy, a1, hc.1, hc.2, a4, a5⟩)
      · right
        have hyl : t.count + 1 ≤ y.at_ + final b := by omega
        have hyL : y ∈ L := by
          rcases hN y hy with h9 | h9
          · exact h9
          · omega
        refine ⟨openAt_iff.2 ⟨hitP b S t.count y, ?_, a1, by rw [h.belt]; exact a3, by rw [h.belt]; exact hyl⟩, ?_⟩
        · rw [h.parts]
          exact List.mem_map.2 ⟨y, List.mem_filter.2 ⟨hyL, decide_eq_true (by omega)⟩, rfl⟩
        · unfold here
          simp only [Bool.and_eq_true, decide_eq_true_eq]
          rw [h.belt]
          exact ⟨a2, by show t.count + 1 ≤ x.at_ + final b; omega⟩
  exact congrArg (Seen.mk x.id x.at_ x.verdict) key
theorem map_filter_congr {α β : Type} (l : List α) (f g : α → β) (h : ∀ x ∈ l, f x = g x) : l.map f = l.map g := List.map_congr_left h
theorem sim_pass {b : Belt} {S L : List Seen} {t : Track} {fs : List Fate} (h : Sim b S L t fs) (hc : t.count + 1 ≤ 1099511627776) (hN : ∀ y ∈ S, y ∈ L ∨ t.count < y.at_) :
    Sim b S L (pass1 t) (fs ++ fates1 t) := by
  have e : t.parts.map (hitAt t (t.count + 1)) = (L.filter (onBelt b t.count)).map (hitP b S (t.count + 1)) := by
    rw [h.parts, partsC, List.map_map]
    refine List.map_congr_left fun x hx => ?_
    exact hit_step h hN (List.mem_filter.1 hx).2
  have hl : ∀ x : Seen, leaves t (t.count + 1) (hitP b S (t.count + 1) x) = decide (x.at_ + final b = t.count + 1) := fun x => by unfold leaves; rw [h.belt]; rfl
  refine ⟨pass1_ok h.ok hc, h.belt, ?_, ?_, h.sub, h.rise⟩
  · show leftR t (t.count + 1) = partsC b S L (t.count + 1)
    unfold leftR partsC
    rw [e, List.filter_map, List.filter_filter]
    congr 1
    refine List.filter_congr fun x _ => ?_
    simp only [Function.comp, hl, onBelt]
    rw [Bool.eq_iff_iff]
    simp only [Bool.and_eq_true, Bool.not_eq_true', decide_eq_false_iff_not, decide_eq_true_eq]
    omega
  · have e2 : fates1 t = (L.filter fun x => decide (x.at_ + final b = t.count + 1)).map fun x => fateOf (hitP b S (x.at_ + final b) x) := by
      unfold fates1 goneR
      rw [e, List.filter_map, List.filter_filter, List.map_map]
      have e3 : L.filter (fun x => (leaves t (t.count + 1) ∘ hitP b S (t.count + 1)) x && onBelt b t.count x) = L.filter fun x => decide (x.at_ + final b = t.count + 1) := by
        refine List.filter_congr fun x _ => ?_
        simp only [Function.comp, hl, onBelt]
        rw [Bool.eq_iff_iff]
        simp only [Bool.and_eq_true, decide_eq_true_eq]
        omega
      rw [e3]
      refine List.map_congr_left fun x hx => ?_
      have := of_decide_eq_true (List.mem_filter.1 hx).2
      show fateOf (hitP b S (t.count + 1) x) = _
      rw [this]
    rw [e2, h.fates]
    show _ = fatesC b S L (t.count + 1)
    unfold fatesC
    rw [← List.map_append]
    congr 1
    have hr := h.rise
    clear e e2 h hN
    induction L with
    | nil => rfl
    | cons x l ih =>
      obtain ⟨p1, p2⟩ := List.pairwise_cons.1 hr
      have ih' := ih p2
      by_cases h1 : t.count < x.at_ + final b
      · have hnone : l.filter (fun x => !onBelt b t.count x) = [] := by
          rw [List.filter_eq_nil_iff]
          intro y hy
          have := p1 y hy
          simp only [onBelt, Bool.not_eq_true', decide_eq_false_iff_not]
          omega
        rw [hnone, List.nil_append] at ih'
        have hx : (!onBelt b t.count x) = false := by unfold onBelt; simp; omega
        have e1 : (x :: l).filter (fun x => !onBelt b t.count x) = [] := by rw [List.filter_cons_of_neg (by simp [hx]), hnone]
        rw [e1, List.nil_append]
        by_cases h2 : x.at_ + final b = t.count + 1
        · rw [List.filter_cons_of_pos (by simpa using h2), List.filter_cons_of_pos (by unfold onBelt; simp; omega), ih']
        · rw [List.filter_cons_of_neg (by simpa using h2), List.filter_cons_of_neg (by unfold onBelt; simp; omega), ih']
      · rw [List.filter_cons_of_pos (by unfold onBelt; simp; omega), List.filter_cons_of_neg (by simp; omega), List.filter_cons_of_pos (by unfold onBelt; simp; omega), List.cons_append, ih']
theorem sim_passN {b : Belt} {S L : List Seen} : ∀ (n : Nat) {t : Track} {fs : List Fate}, Sim b S L t fs → t.count + n ≤ 1099511627776 → (∀ y ∈ S, y ∈ L ∨ t.count + n ≤ y.at_) → Sim b S L (passN n t).1 (fs ++ (passN n t).2)
  | 0, t, fs, h, _, _ => by simpa [passN] using h
  | n + 1, t, fs, h, hc, hN => by
    have h1 := sim_pass h (by omega) (fun y hy => by rcases hN y hy with h | h; exact .inl h; exact .inr (by omega))
    have h2 := sim_passN n h1 (by show t.count + 1 + (n : Int) ≤ _; omega) (fun y hy => by rcases hN y hy with h | h; exact .inl h; exact .inr (by show t.count + 1 + (n : Int) ≤ _; omega))
    simpa [passN, List.append_assoc] using h2
/-- a part passes the sensor, and is told its verdict -/
theorem sim_add {b : Belt} {S L : List Seen} {t u : Track} {fs : List Fate} (h : Sim b S L t fs) {x : Seen} (hx : x.at_ = t.count) (hS : x ∈ S) (hu : u.ok) (hb : u.belt = t.belt) (hc : u.count = t.count) (hp : u.parts = t.parts ++ [⟨x.id, x.at_, x.verdict, false⟩]) (hlt : ∀ y ∈ L, y.at_ < x.at_) :
    Sim b S (L ++ [x]) u fs := by
  have hbo : b.ok := h.belt ▸ h.ok.1
  have f1 := first_pos hbo
  have f2 := first_final hbo
  have hon : onBelt b t.count x = true := decide_eq_true (by omega)
  have hno : hitC b S t.count x = false := by
    rw [← Bool.not_eq_true]
    intro h9
    obtain ⟨y, hy, a1, a2, a3, a4, a5⟩ := hitC_iff.1 h9
    omega
  refine ⟨hu, hb.trans h.belt, ?_, ?_, ?_, ?_⟩
  · rw [hp, h.parts, hc]
    unfold partsC
    rw [List.filter_append, List.map_append]
    congr 1
    rw [List.filter_cons_of_pos hon]
    simp [hitP, hno]
  · rw [h.fates, hc]
    unfold fatesC
    rw [List.filter_append]
    rw [List.filter_cons_of_neg (by simp [hon])]
    simp
  · intro y hy
    rcases List.mem_append.1 hy with h9 | h9
    · exact h.sub y h9
    · rw [List.mem_singleton] at h9; subst h9; exact hS
  · rw [List.pairwise_append]
    exact ⟨h.rise, by simp, fun y hy z hz => by rw [List.mem_singleton] at hz; subst hz; exact hlt y hy⟩
/-- at the end all have left -/
theorem sim_end {b : Belt} {S L : List Seen} {t : Track} {fs : List Fate} (h : Sim b S L t fs) (he : ∀ x ∈ L, x.at_ + final b ≤ t.count) : t.parts = [] ∧ fs = L.map fun x => fateOf (hitP b S (x.at_ + final b) x) := by
  have hn : ∀ x ∈ L, onBelt b t.count x = false := fun x hx => decide_eq_false (by have := he x hx; omega)
  refine ⟨?_, ?_⟩
  · rw [h.parts, partsC, List.filter_eq_nil_iff.2 (fun x hx => by simp [hn x hx])]; rfl
  · rw [h.fates, fatesC, List.filter_eq_self.2 (fun x hx => by simp [hn x hx])]
theorem hit_end {b : Belt} (hb : b.ok) (S : List Seen) (x : Seen) : hitC b S (x.at_ + final b) x = S.any fun y => decide (y.verdict ≠ 1) && (decide (x.at_ - y.at_ < (clear b).1) && decide (y.at_ - x.at_ < (clear b).1)) := by
  have f2 := first_final hb
  have hcl : (clear b).1 = final b - first b + 1 := by unfold clear; rw [if_pos hb]
  unfold hitC
  congr 1
  funext y
  rw [hcl, Bool.eq_iff_iff]
  simp only [Bool.and_eq_true, decide_eq_true_eq]
  constructor
  · rintro ⟨a1, a2, a3, a4, a5⟩; exact ⟨a1, by omega, by omega⟩
  · rintro ⟨a1, a2, a3⟩; exact ⟨a1, by omega, by omega, by omega, by omega⟩
end Go.Proofs.Ytcbimfaneinpkaa
