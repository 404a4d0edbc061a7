/- A proved search has exactly all matches. -/
import Derived.Test.YtipkjdfnoonpcaaCntMatch
import Derived.Test.YtipkjdfnoonpcaaGrowPlain
set_option linter.unusedVariables false
set_option linter.unusedSimpArgs false
namespace Go.Proofs.Ytipkjdfnoonpcaa
open Go.RowKit Go.Sort

theorem msOf_step (m : Img) (t : Tpl) (limit : Int) {T S : Nat} (h1 : T < 12) (h2 : S < 4) : msOf m t limit (upto (4 * T + S + 1)) = msOf m t limit (upto (4 * T + S)) ++ canon m t limit T ((S : Int) + 1) := by
  rw [upto_succ, msOf_snoc, psAt_at h1 h2]
def canonK (m : Img) (t : Tpl) (limit T S : Int) (i : Nat) : List Match := (((List.range i).map (placeAt m)).filter fun p => decide (bound m t (onePose T S p).area ≤ limit)).map (mkOf m t T S)
theorem canonK_zero (m : Img) (t : Tpl) (limit T S : Int) : canonK m t limit T S 0 = [] := rfl
theorem canonK_full (m : Img) (t : Tpl) (limit T S : Int) : canonK m t limit T S m.pix.length = canon m t limit T S := rfl
theorem canonK_yes {m : Img} {t : Tpl} {limit T S : Int} {i : Nat} (h : bound m t (onePose T S (placeAt m i)).area ≤ limit) : canonK m t limit T S (i + 1) = canonK m t limit T S i ++ [mkOf m t T S (placeAt m i)] := by
  unfold canonK
  rw [List.range_succ, List.map_append, List.filter_append, List.map_append]
  simp [h]
theorem canonK_no {m : Img} {t : Tpl} {limit T S : Int} {i : Nat} (h : ¬ bound m t (onePose T S (placeAt m i)).area ≤ limit) : canonK m t limit T S (i + 1) = canonK m t limit T S i := by
  unfold canonK
  rw [List.range_succ, List.map_append, List.filter_append, List.map_append]
  simp [h]
theorem canonK_len (m : Img) (t : Tpl) (limit T S : Int) (i : Nat) : (canonK m t limit T S i).length ≤ i := by
  unfold canonK
  rw [List.length_map]
  exact Nat.le_trans (List.length_filter_le _ _) (by simp)
instance (m : Img) (t : Tpl) (limit : Int) (x : Match) : Decidable (MatchOk m t limit x) := by unfold MatchOk; infer_instance
theorem match_univ {m : Img} {t : Tpl} {limit : Int} (hm : m.Sized) {x : Match} (h : MatchOk m t limit x) : ∃ i : Nat, i < m.pix.length ∧ x.pose = poseAt m x.pose.turn x.pose.scale i := by
  obtain ⟨⟨h1, h2, hp⟩, -, -⟩ := h
  have hu := in_univ hm (p := x.pose) (by unfold Pose.area at h1 h2; unfold Img.In; simp only at h1 h2; omega) hp
  obtain ⟨T, S, i, h3, h4, h5, h6⟩ := univ_mem.1 hu
  have e1 : x.pose.turn = T := by rw [h6]; rfl
  have e2 : x.pose.scale = (S : Int) + 1 := by rw [h6]; rfl
  exact ⟨i, h5, by rw [e1, e2]; exact h6⟩
theorem proved_count {m : Img} {t : Tpl} {limit : Int} {ms : List Match} {ar : List Area} (hm : m.Sized) (h : Proved m t limit ms ar) (x : Match) : ms.count x = if MatchOk m t limit x then 1 else 0 := by
  obtain ⟨h1, h2, h3⟩ := h
  by_cases hx : MatchOk m t limit x
  · rw [if_pos hx]
    obtain ⟨i, hi, hp⟩ := match_univ hm hx
    have hpos := hx.1.2.2
    have h4 := h3 x.pose.turn x.pose.scale hpos.1.1 (by have := hpos.1.2; unfold Pose.area at this; simp only at this; omega) hpos.2.1 hpos.2.2 i hi
    rw [← hp] at h4
    have h5 : hasN ar x.pose = 0 := by
      unfold hasN
      rw [List.countP_eq_zero]
      intro a ha h6
      obtain ⟨⟨g1, g2⟩, ⟨g3, g4⟩, g5, g6⟩ := of_decide_eq_true h6
      have := bound_mono m t (a := a) (b := x.pose.area) g3 g4 g5 g6 g1 g2
      have := (h2 a ha).2
      have := hx.2.1
      have := hx.2.2
      omega
    rw [h5, Nat.add_zero] at h4
    rw [← h4]
    unfold hits List.count
    refine List.countP_congr fun y hy => ?_
    rw [decide_eq_true_iff, beq_iff_eq]
    constructor
    · rintro rfl; rfl
    · intro e
      have k1 := (h1 y hy).2.2
      have k2 := hx.2.2
      rw [e] at k1
      obtain ⟨yp, yd⟩ := y
      obtain ⟨xp, xd⟩ := x
      simp only at e k1 k2
      rw [e, ← k1, ← k2]
  · rw [if_neg hx, List.count_eq_zero]
    exact fun h4 => hx (h1 x h4)
theorem proved_perm {m : Img} {t : Tpl} {limit : Int} {ms : List Match} {ar : List Area} (hm : m.Sized) (h : Proved m t limit ms ar) : ms.Perm (msOf m t limit (upto 48)) := by
  rw [List.perm_iff_count]
  intro x
  rw [proved_count hm h, proved_count hm (found_proved (t := t) (limit := limit) hm)]
theorem match_wf {m : Img} {t : Tpl} {limit : Int} (hc : m.Camera) (ht : t.Ok) (hl : limit ≤ 16320) {x : Match} (h : MatchOk m t limit x) : x.Wf := by
  obtain ⟨⟨h1, h2, hp⟩, h3, h4⟩ := h
  have hb := (bound_bd (a := x.pose.area) hc ht).1
  obtain ⟨⟨w1, w2⟩, ⟨w3, w4⟩, -⟩ := hc.1
  obtain ⟨⟨p1, p2⟩, p3, p4⟩ := hp
  unfold Pose.area at h1 h2 p1 p2 p3 p4
  simp only at h1 h2 p1 p2 p3 p4
  exact ⟨WalkArith.wf_i64 (by omega), WalkArith.wf_i64 (by omega), WalkArith.wf_i64 (by omega), WalkArith.wf_i64 (by omega), WalkArith.wf_i64 (by omega)⟩
def cntOf (ms : List Match) (q : Match) : Nat := ms.count q
theorem cnt_step {ms : List Match} {i : Nat} (hi : i < ms.length) : (fun q => cntOf (ms.take i) q + if q = ms.getD i match0 then 1 else 0) = cntOf (ms.take (i + 1)) := by
  funext q
  unfold cntOf
  rw [take_snoc_at match0 hi, List.count_append, List.count_singleton]
  congr 1
  by_cases h : q = ms.getD i match0
  · rw [if_pos h, h]; simp
  · rw [if_neg h, if_neg]
    intro h2
    exact h (by simpa using h2 : ms.getD i match0 = q).symm
theorem provedR_ok {m : Img} {t : Tpl} {limit : Int} {ms : List Match} {ar : List Area} (h : checkR m t limit ms ar = 0) : checkE m t = 0 ∧ (0 ≤ limit ∧ limit ≤ 16320) ∧ Proved m t limit ms ar := by
  unfold checkR at h
  by_cases h1 : checkE m t = 0
  · rw [if_pos h1] at h
    by_cases h2 : 0 ≤ limit ∧ limit ≤ 16320
    · rw [if_pos h2] at h
      by_cases h3 : Proved m t limit ms ar
      · exact ⟨h1, h2, h3⟩
      · rw [provedR_no h3] at h; cases h
    · rw [if_neg h2] at h; cases h
  · rw [if_neg h1] at h; exact absurd h h1
end Go.Proofs.Ytipkjdfnoonpcaa
