/- One part of 'BeltHit': it is sensed, told its verdict, and the belt moves on. Plain laws. -/
import Derived.Test.YtcbimfaneinpkaaHitLaws
import Derived.Test.YtcbimfaneinpkaaCatchLaws
import Derived.Test.YtcbimfaneinpkaaCut
set_option linter.unusedVariables false
set_option linter.unusedSimpArgs false
namespace Go.Proofs.Ytcbimfaneinpkaa

theorem hit_round {b : Belt} {S L : List Seen} {t : Track} {fs : List Fate} (h : Sim b S L t fs) (hlen : L.length ≤ 2) (hnext : t.next ≤ 10) (hlast : ∀ y ∈ L, y.at_ < t.count) {v : Int} (hv : 1 ≤ v ∧ v ≤ 3)
    {n : Int} (hn : 1 ≤ n ∧ n ≤ 1000) (hc : t.count + n ≤ 1099511627776) (hx : (⟨t.next, t.count, v, false⟩ : Seen) ∈ S) (hS : ∀ y ∈ S, y ∈ L ++ [⟨t.next, t.count, v, false⟩] ∨ t.count + n ≤ y.at_) :
    sense t = (sensed t, t.next, 0) ∧ tellR (sensed t) t.next v = (told (sensed t) t.parts.length v, 0) ∧
    ∃ Z l, advanceR (told (sensed t) t.parts.length v) n = (Z, l, 0) ∧ Sim b S (L ++ [⟨t.next, t.count, v, false⟩]) Z (fs ++ l) ∧ Z.next = t.next + 1 ∧ Z.count = t.count + n := by
  have hok := h.ok
  have hbo : b.ok := h.belt ▸ h.ok.1
  have f1 := first_pos hbo
  have hpl : t.parts.length ≤ L.length := by rw [h.parts, partsC, List.length_map]; exact List.length_filter_le _ _
  have hpa : ∀ p ∈ t.parts, p.at_ < t.count := by
    intro p hp
    rw [h.parts] at hp
    obtain ⟨y, hy, rfl⟩ := List.mem_map.1 hp
    exact hlast y (List.mem_filter.1 hy).1
  have c1 : ¬ (0 < t.parts.length ∧ (t.parts.getD (t.parts.length - 1) seen0).at_ = t.count) := by
    rintro ⟨h0, h1⟩
    have hi : t.parts.length - 1 < t.parts.length := by omega
    rw [getD_get hi] at h1
    have := hpa _ (List.getElem_mem hi)
    omega
  have c2 : ¬ (t.parts.length = 32 ∨ t.next = 1099511627776) := by omega
  have hs : sense t = (sensed t, t.next, 0) := by
    unfold sense
    rw [if_pos hok, if_neg c1, if_neg c2]
    rfl
  have hso := sensed_ok hok c1 c2
  have hi : t.parts.length < (sensed t).parts.length := by simp [sensed]
  have hg : (sensed t).parts.getD t.parts.length seen0 = ⟨t.next, t.count, 0, false⟩ := by
    rw [getD_get hi]; simp [sensed]
  have hpl2 : place (sensed t).parts t.next = t.parts.length := by
    have := place_of (parts_iff.1 hso.2.2).2 hi
    rwa [hg] at this
  have ht : tellR (sensed t) t.next v = (told (sensed t) t.parts.length v, 0) := by
    unfold tellR
    rw [if_pos hso, if_pos hv, hpl2, if_pos hi, hg, if_neg]
    rintro (h9 | h9)
    · exact h9 rfl
    · have e : (sensed t).belt = b := h.belt
      rw [e] at h9
      have : t.count + first b ≤ t.count := h9
      omega
  have hto := told_ok hso hi (v := v) hv.2
  have hp : (told (sensed t) t.parts.length v).parts = t.parts ++ [⟨t.next, t.count, v, false⟩] := by
    show (sensed t).parts.set t.parts.length _ = _
    rw [hg]
    show (t.parts ++ [_]).set t.parts.length _ = _
    rw [List.set_append_right _ _ (Nat.le_refl _), Nat.sub_self]
    rfl
  have hsim := sim_add h (x := ⟨t.next, t.count, v, false⟩) rfl hx hto rfl rfl hp hlast
  have hadv := adv_yes (n := n) hto hn.1 hn.2 hc
  obtain ⟨z1, z2, z3⟩ := passN_count n.toNat (told (sensed t) t.parts.length v)
  have hcn : (told (sensed t) t.parts.length v).count = t.count := rfl
  have hs2 := sim_passN n.toNat hsim (by rw [hcn]; omega) (fun y hy => by rw [hcn]; rcases hS y hy with h | h; exact .inl h; exact .inr (by omega))
  refine ⟨hs, ht, _, _, hadv, hs2, ?_, ?_⟩
  · rw [z2]; rfl
  · rw [z1, hcn]; omega
theorem hit_final {b : Belt} (hb : b.ok) {S : List Seen} {Z : Track} {fs : List Fate} (h : Sim b S S Z fs) (he : ∀ x ∈ S, x.at_ + final b ≤ Z.count) :
    Z.parts = [] ∧ fs = S.map fun x => ⟨x.id, x.verdict, S.any fun y => decide (y.verdict ≠ 1) && (decide (x.at_ - y.at_ < (clear b).1) && decide (y.at_ - x.at_ < (clear b).1))⟩ := by
  obtain ⟨h1, h2⟩ := sim_end h he
  refine ⟨h1, h2.trans (List.map_congr_left fun x _ => ?_)⟩
  show (⟨x.id, x.verdict, hitC b S (x.at_ + final b) x⟩ : Fate) = _
  rw [hit_end hb]
/-- the three parts -/
def hitS (one two v0 v1 v2 : Int) : List Seen := [⟨0, 0, v0, false⟩, ⟨1, one, v1, false⟩, ⟨2, one + two, v2, false⟩]
def bad (v : Int) : Bool := v != 1
theorem hit_wants {b : Belt} (hb : b.ok) {one two v0 v1 v2 : Int} (h1 : 1 ≤ one) (h2 : 1 ≤ two) {Z : Track} {fs : List Fate} (h : Sim b (hitS one two v0 v1 v2) (hitS one two v0 v1 v2) Z fs) (he : one + two + final b ≤ Z.count) :
    Z.parts = [] ∧ fs = [⟨0, v0, bad v0 || (bad v1 && decide (one < (clear b).1) || bad v2 && decide (one + two < (clear b).1))⟩,
      ⟨1, v1, bad v1 || (bad v0 && decide (one < (clear b).1) || bad v2 && decide (two < (clear b).1))⟩,
      ⟨2, v2, bad v2 || (bad v1 && decide (two < (clear b).1) || bad v0 && decide (one + two < (clear b).1))⟩] := by
  have f2 := first_final hb
  have hcl : (clear b).1 = final b - first b + 1 := by unfold clear; rw [if_pos hb]
  have hc1 : 1 ≤ (clear b).1 := by omega
  obtain ⟨q1, q2⟩ := hit_final hb h (fun x hx => by
    simp only [hitS, List.mem_cons, List.not_mem_nil, or_false] at hx
    rcases hx with rfl | rfl | rfl <;> simp only <;> omega)
  refine ⟨q1, q2.trans ?_⟩
  generalize (clear b).1 = c at hc1
  simp only [hitS, List.map_cons, List.map_nil, List.any_cons, List.any_nil, Bool.or_false]
  have e0 : ∀ x : Int, decide (x - x < c) = true := fun x => decide_eq_true (by omega)
  congr 1
  · congr 1
    rw [Bool.eq_iff_iff]; simp [bad]; omega
  · congr 1
    · congr 1
      rw [Bool.eq_iff_iff]; simp [bad]; omega
    · congr 2
      rw [Bool.eq_iff_iff]; simp [bad]; omega
end Go.Proofs.Ytcbimfaneinpkaa
