/- What is cut out has the distance 0. -/
import Derived.Test.YtipkjdfnoonpcaaExactPlain
set_option linter.unusedVariables false
set_option linter.unusedSimpArgs false
namespace Go.Proofs.Ytipkjdfnoonpcaa
open Go.RowKit Go.Sort

def CutPix (m : Img) (x0 y0 tw : Int) (ps : List Int) : Prop := ∀ j, j < ps.length → ps.getD j 0 = m.at (x0 + (j : Int) % tw) (y0 + (j : Int) / tw) ∨ (0 < j ∧ ps.getD j 0 = -1)
theorem CutPix.nil (m : Img) (x0 y0 tw : Int) : CutPix m x0 y0 tw [] := fun j h => by simp at h
theorem CutPix.snoc {m : Img} {x0 y0 tw v : Int} {ps : List Int} (h : CutPix m x0 y0 tw ps) (hv : v = m.at (x0 + (ps.length : Int) % tw) (y0 + (ps.length : Int) / tw) ∨ (0 < ps.length ∧ v = -1)) : CutPix m x0 y0 tw (ps ++ [v]) := by
  intro j hj
  rw [List.length_append, List.length_singleton] at hj
  rw [List.getD_eq_getElem?_getD]
  rcases Nat.lt_or_ge j ps.length with h9 | h9
  · rw [List.getElem?_append_left h9, ← List.getD_eq_getElem?_getD]
    exact h j h9
  · obtain rfl : j = ps.length := by omega
    rw [List.getElem?_append_right (Nat.le_refl _), Nat.sub_self]
    exact hv
theorem cut_place {tw th j : Int} (h1 : 1 ≤ tw) (h2 : 0 ≤ j) (h3 : j < tw * th) : (0 ≤ j % tw ∧ j % tw ≤ tw - 1) ∧ 0 ≤ j / tw ∧ j / tw ≤ th - 1 := by
  have m1 := Int.emod_nonneg j (show tw ≠ 0 by omega)
  have m2 := Int.emod_lt_of_pos j (show 0 < tw by omega)
  have m3 : j / tw < th := Int.ediv_lt_of_lt_mul (by omega) (by rw [Int.mul_comm]; omega)
  have m4 : 0 ≤ j / tw := Int.ediv_nonneg h2 (by omega)
  omega
structure CutAt (m : Img) (x0 y0 tw th : Int) (ps : List Int) : Prop where
  x : 0 ≤ x0 ∧ x0 + tw ≤ m.w
  y : 0 ≤ y0 ∧ y0 + th ≤ m.h
  w : 1 ≤ tw ∧ tw ≤ 8
  h : 1 ≤ th ∧ th ≤ 8
  len : (ps.length : Int) = tw * th
  pix : CutPix m x0 y0 tw ps
theorem CutAt.in_ {m : Img} {x0 y0 tw th : Int} {ps : List Int} (h : CutAt m x0 y0 tw th ps) {j : Nat} (hj : j < ps.length) : m.In (x0 + (j : Int) % tw) (y0 + (j : Int) / tw) := by
  obtain ⟨⟨a1, a2⟩, ⟨b1, b2⟩⟩ := cut_place (th := th) h.w.1 (Int.natCast_nonneg j) (by rw [← h.len]; omega)
  have := h.x
  have := h.y
  exact ⟨⟨by omega, by omega⟩, by omega, by omega⟩
theorem CutAt.ok {m : Img} {x0 y0 tw th : Int} {ps : List Int} (hm : m.Camera) (h : CutAt m x0 y0 tw th ps) : Tpl.Ok ⟨tw, th, ps⟩ := by
  have hpos : 0 < ps.length := by
    have h1 := h.len
    have h2 : 1 * 1 ≤ tw * th := Int.mul_le_mul h.w.1 h.h.1 (by omega) (by have := h.w.1; omega)
    omega
  refine ⟨⟨h.w, h.h, h.len⟩, fun n hn => ?_, ps.getD 0 0, ?_, ?_⟩
  · obtain ⟨j, hj, e⟩ := List.getElem_of_mem hn
    have e2 : ps.getD j 0 = n := by rw [List.getD_eq_getElem?_getD, List.getElem?_eq_getElem hj, e]; rfl
    rcases h.pix j hj with h9 | ⟨-, h9⟩
    · have := Img.at_bd hm (h.in_ hj)
      rw [← e2, h9]; omega
    · rw [← e2, h9]; omega
  · exact getD_mem_at 0 hpos
  · rcases h.pix 0 hpos with h9 | ⟨h8, -⟩
    · have := Img.at_bd hm (h.in_ hpos)
      rw [h9]; exact this.1
    · omega
theorem sumL_zero {f : Pt → Int} : ∀ {l : List Pt}, (∀ p ∈ l, f p = 0) → sumL f l = 0 := by
  intro l h
  have gen : ∀ (l : List Pt) (s : Int), (∀ p ∈ l, f p = 0) → l.foldl (fun s p => s + f p) s = s := by
    intro l
    induction l with
    | nil => intro s _; rfl
    | cons p l ih =>
      intro s h
      rw [List.foldl_cons, ih _ fun q hq => h q (by simp [hq]), h p (by simp), Int.add_zero]
  exact gen l 0 h
theorem CutAt.zero {m : Img} {x0 y0 tw th : Int} {ps : List Int} (hm : m.Camera) (h : CutAt m x0 y0 tw th ps) : bound m ⟨tw, th, ps⟩ (Pose.area ⟨x0 + (tw - 1) / 2, y0 + (th - 1) / 2, 0, 2⟩) = 0 := by
  have hok := h.ok hm
  unfold bound Pose.area
  simp only
  refine sumL_zero fun p hp => ?_
  have hv := stencil_v hok hp
  have nn := least_nn hm hv (x0 + (tw - 1) / 2) (y0 + (th - 1) / 2) (x0 + (tw - 1) / 2) (y0 + (th - 1) / 2)
  rcases Int.lt_or_le 0 (least m p (x0 + (tw - 1) / 2) (y0 + (th - 1) / 2) (x0 + (tw - 1) / 2) (y0 + (th - 1) / 2)) with h9 | h9
  · exfalso
    have h8 := (le_least (c := 1) (by omega)).1 h9 (y0 + (th - 1) / 2) (Int.le_refl _) (Int.le_refl _) (x0 + (tw - 1) / 2) (Int.le_refl _) (Int.le_refl _)
    obtain ⟨k, hk, hk0, rfl⟩ := stencil_mem hp
    rcases h.pix k hk with h7 | ⟨-, h7⟩
    · have ex : offX ⟨tw, th, ps⟩ 0 2 ((k : Int) % tw) ((k : Int) / tw) = (k : Int) % tw - (tw - 1) / 2 := by
        unfold offX
        rw [show dirOf 0 = (5, 0) from by decide]
        simp only
        omega
      have ey : offY ⟨tw, th, ps⟩ 0 2 ((k : Int) % tw) ((k : Int) / tw) = (k : Int) / tw - (th - 1) / 2 := by
        unfold offY
        rw [show dirOf 0 = (5, 0) from by decide]
        simp only
        omega
      unfold adds ptOf at h8
      simp only at h8
      rw [ex, ey, show x0 + (tw - 1) / 2 + ((k : Int) % tw - (tw - 1) / 2) = x0 + (k : Int) % tw by omega, show y0 + (th - 1) / 2 + ((k : Int) / tw - (th - 1) / 2) = y0 + (k : Int) / tw by omega, if_pos (h.in_ hk), h7] at h8
      omega
    · have hk1 : 0 ≤ ps.getD k 0 := hk0
      omega
  · omega
def cutMatch (x0 y0 tw th : Int) : Match := ⟨⟨x0 + (tw - 1) / 2, y0 + (th - 1) / 2, 0, 2⟩, 0⟩
theorem CutAt.found {m : Img} {x0 y0 tw th : Int} {ps : List Int} (hm : m.Camera) (h : CutAt m x0 y0 tw th ps) :
    boundR m ⟨tw, th, ps⟩ (Pose.area ⟨x0 + (tw - 1) / 2, y0 + (th - 1) / 2, 0, 2⟩) = (0, 0) ∧ findE m ⟨tw, th, ps⟩ 0 = 0 ∧ cutMatch x0 y0 tw th ∈ foundM m ⟨tw, th, ps⟩ 0 := by
  have hok := h.ok hm
  have hce : checkE m ⟨tw, th, ps⟩ = 0 := by unfold checkE; rw [if_pos hm, if_pos hok]
  have hz := h.zero hm
  have := h.x
  have := h.y
  have := h.w
  have := h.h
  have ha : (Pose.area ⟨x0 + (tw - 1) / 2, y0 + (th - 1) / 2, 0, 2⟩).Ok m := ⟨⟨by simp only [Pose.area]; omega, by simp only [Pose.area]; omega, by simp only [Pose.area]; omega⟩, ⟨by simp only [Pose.area]; omega, by simp only [Pose.area]; omega, by simp only [Pose.area]; omega⟩, ⟨⟨(by show (0 : Int) ≤ 0; decide), (by show (0 : Int) ≤ 11; decide)⟩, (by show (1 : Int) ≤ 2; decide), (by show (2 : Int) ≤ 4; decide)⟩⟩
  have hfe : findE m ⟨tw, th, ps⟩ 0 = 0 := by unfold findE; rw [if_pos hce, if_pos (by omega)]
  refine ⟨by unfold boundR; rw [if_pos hce, if_pos ha, hz], hfe, ?_⟩
  unfold foundM
  rw [if_pos hfe]
  have hok2 : MatchOk m ⟨tw, th, ps⟩ 0 (cutMatch x0 y0 tw th) := ⟨ha, Int.le_refl _, hz⟩
  have hc := proved_count hm.1 (found_proved (t := ⟨tw, th, ps⟩) (limit := 0) hm.1) (cutMatch x0 y0 tw th)
  rw [if_pos hok2] at hc
  exact List.count_pos_iff.1 (by omega)
end Go.Proofs.Ytipkjdfnoonpcaa
