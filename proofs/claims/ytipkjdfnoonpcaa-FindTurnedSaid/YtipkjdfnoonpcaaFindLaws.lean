/- What Find leaves is a proved search. No program in sight. -/
import Derived.Test.YtipkjdfnoonpcaaSearchLaw
set_option linter.unusedVariables false
set_option linter.unusedSimpArgs false
namespace Go.Proofs.Ytipkjdfnoonpcaa
open Go.RowKit Go.Sort

theorem hits_flat (f : PS → List Match) (p : Pose) : ∀ l : List PS, hits (l.flatMap f) p = (l.map fun x => hits (f x) p).sum
  | [] => rfl
  | x :: l => by rw [List.flatMap_cons, hits_append, hits_flat f p l, List.map_cons, List.sum_cons]
theorem hasN_flat (f : PS → List Area) (p : Pose) : ∀ l : List PS, hasN (l.flatMap f) p = (l.map fun x => hasN (f x) p).sum
  | [] => rfl
  | x :: l => by rw [List.flatMap_cons, hasN_append, hasN_flat f p l, List.map_cons, List.sum_cons]
theorem sum_add (f g : PS → Nat) : ∀ l : List PS, (l.map f).sum + (l.map g).sum = (l.map fun x => f x + g x).sum
  | [] => rfl
  | x :: l => by
    have := sum_add f g l
    simp only [List.map_cons, List.sum_cons]
    omega
theorem sum_count (q : PS → Bool) : ∀ l : List PS, (l.map fun x => if q x = true then 1 else 0).sum = l.countP q
  | [] => rfl
  | x :: l => by
    rw [List.map_cons, List.sum_cons, sum_count q l, List.countP_cons]
    omega
theorem upto_once : ∀ T < 12, ∀ S < 4, (upto 48).countP (fun x => decide (x.1 = (((T : Nat) : Int), ((S : Nat) : Int) + 1))) = 1 := by decide +kernel
theorem hits_perm {l l' : List Match} (h : l.Perm l') (p : Pose) : hits l p = hits l' p := h.countP_eq _
/-- each pose of one turn and scale: in one match or area -/
theorem part_once {m : Img} {t : Tpl} {limit : Int} (hm : m.Sized) (x : PS) (p : Pose) :
    hits (canon m t limit x.1.1 x.1.2) p + hasN (search m t limit 30 (wholeOf m x.1.1 x.1.2)).2 p = if (wholeOf m x.1.1 x.1.2).Has p then 1 else 0 := by
  obtain ⟨e, pr⟩ := found_perm (t := t) (limit := limit) hm x.2
  obtain ⟨-, -, h3, -⟩ := search_right (t := t) (limit := limit) 30 _ (whole_ok hm x.2) (whole_size hm _ _)
  rw [← h3 p]
  congr 1
  refine (hits_perm ?_ p).symm
  rw [e]
  exact pr.map _
theorem whole_has_at {m : Img} {T S : Int} {p : Pose} (hi : m.In p.x p.y) : (wholeOf m T S).Has p ↔ (T, S) = (p.turn, p.scale) := by
  unfold wholeOf Area.Has
  obtain ⟨⟨h1, h2⟩, h3, h4⟩ := hi
  simp only [Prod.mk.injEq]
  constructor
  · rintro ⟨⟨e1, e2⟩, -⟩; exact ⟨e1, e2⟩
  · rintro ⟨e1, e2⟩; exact ⟨⟨e1, e2⟩, ⟨by omega, by omega⟩, by omega, by omega⟩
theorem poseAt_in {m : Img} (hm : m.Sized) {turn scale : Int} {i : Nat} (hi : i < m.pix.length) : m.In (poseAt m turn scale i).x (poseAt m turn scale i).y := by
  have hw := hm.1.1
  have hh : (placeAt m i) ∈ (List.range m.pix.length).map (placeAt m) := List.mem_map_of_mem (List.mem_range.2 hi)
  obtain ⟨⟨w1, w2⟩, ⟨h1, h2⟩, hl⟩ := hm
  have m1 := Int.emod_nonneg (i : Int) (show m.w ≠ 0 by omega)
  have m2 := Int.emod_lt_of_pos (i : Int) (show 0 < m.w by omega)
  have m3 : (i : Int) / m.w < m.h := Int.ediv_lt_of_lt_mul (by omega) (by rw [Int.mul_comm]; omega)
  have m4 : 0 ≤ (i : Int) / m.w := Int.ediv_nonneg (by omega) (by omega)
  unfold Img.In poseAt
  simp only
  omega
theorem canon_ok {m : Img} {t : Tpl} {limit T S : Int} (hm : m.Sized) (h : Posed T S) : ∀ x ∈ canon m t limit T S, MatchOk m t limit x := by
  intro x hx
  obtain ⟨p, hp, rfl⟩ := List.mem_map.1 hx
  obtain ⟨⟨⟨h1, h2⟩, h3, h4⟩, hb⟩ := (canonP_mem hm).1 hp
  refine ⟨?_, hb, rfl⟩
  unfold mkOf onePose Pose.area Area.Ok
  exact ⟨⟨h1, Int.le_refl _, h2⟩, ⟨h3, Int.le_refl _, h4⟩, h⟩
/-- **what Find leaves is proved** -/
theorem found_proved {m : Img} {t : Tpl} {limit : Int} (hm : m.Sized) : Proved m t limit (msOf m t limit (upto 48)) (arOf m t limit (upto 48)) := by
  refine ⟨fun x hx => ?_, fun a ha => ?_, fun turn scale h1 h2 h3 h4 i hi => ?_⟩
  · obtain ⟨y, hy, hx⟩ := List.mem_flatMap.1 hx
    exact canon_ok hm y.2 x hx
  · obtain ⟨y, hy, ha⟩ := List.mem_flatMap.1 ha
    exact (search_right (t := t) (limit := limit) 30 _ (whole_ok hm y.2) (whole_size hm _ _)).2.1 a ha
  · unfold msOf arOf
    rw [hits_flat, hasN_flat, sum_add]
    have e : ((upto 48).map fun x => hits (canon m t limit x.1.1 x.1.2) (poseAt m turn scale i) + hasN (search m t limit 30 (wholeOf m x.1.1 x.1.2)).2 (poseAt m turn scale i)) =
        (upto 48).map fun x => if decide (x.1 = (turn, scale)) = true then 1 else 0 := by
      refine List.map_congr_left fun x _ => ?_
      rw [part_once hm x]
      have hh := whole_has_at (T := x.1.1) (S := x.1.2) (poseAt_in hm (turn := turn) (scale := scale) hi)
      by_cases h9 : x.1 = (turn, scale)
      · rw [if_pos (hh.2 h9), if_pos (decide_eq_true h9)]
      · rw [if_neg (fun h8 => h9 (hh.1 h8)), if_neg (by simpa using h9)]
    rw [e, sum_count]
    have := upto_once turn.toNat (by omega) (scale - 1).toNat (by omega)
    rw [show ((turn.toNat : Nat) : Int) = turn by omega, show (((scale - 1).toNat : Nat) : Int) + 1 = scale by omega] at this
    exact this
theorem foundM_len {m : Img} (hm : m.Sized) (t : Tpl) (limit : Int) : (foundM m t limit).length ≤ 13000 := by
  unfold foundM
  split
  · have := msOf_len hm t limit (l := upto 48) (by rw [upto_length]; omega)
    omega
  · simp
theorem foundA_len {m : Img} (hm : m.Sized) (t : Tpl) (limit : Int) : (foundA m t limit).length ≤ 13000 := by
  unfold foundA
  split
  · have := arOf_len hm t limit (l := upto 48) (by rw [upto_length]; omega)
    omega
  · simp
/-- **Check of what Find leaves** -/
theorem check_found {m : Img} {t : Tpl} {limit : Int} (h : findE m t limit = 0) : checkR m t limit (foundM m t limit) (foundA m t limit) = 0 := by
  unfold foundM foundA
  rw [if_pos h, if_pos h]
  unfold findE at h
  by_cases h0 : checkE m t = 0
  · rw [if_pos h0] at h
    by_cases h1 : 0 ≤ limit ∧ limit ≤ 16320
    · unfold checkR
      rw [if_pos h0, if_pos h1]
      exact provedR_yes (found_proved (check_ok h0).1.1)
    · rw [if_neg h1] at h
      cases h
  · rw [if_neg h0] at h
    exact absurd h h0
end Go.Proofs.Ytipkjdfnoonpcaa
