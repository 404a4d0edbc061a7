/- The plain side of 'MarkSharp': modules of a printed digit are changed. No program in sight. -/
import Derived.Test.YtlnofbdhamingaaDoorGDraw
set_option linter.unusedVariables false
set_option linter.unusedSimpArgs false
namespace Go.Proofs.YtlnofbdhamingaaDoor
open Go.RowKit Go.Sort

def sharpAt (g ch : List Nat) (i : Nat) : Nat := if ch.getD i 0 % 8 = 1 then 1 - g.getD i 0 else if ch.getD i 0 % 8 = 2 then 2 else g.getD i 0
def sharpK (g ch : List Nat) (n : Nat) : List Nat := (List.range 15).map fun i => if i < n then sharpAt g ch i else g.getD i 0
def wrongS (ch : List Nat) : Nat → Nat
  | 0 => 0
  | n + 1 => wrongS ch n + (if ch.getD n 0 % 8 = 1 then 1 else 0)
theorem wrongS_le (ch : List Nat) : ∀ n, wrongS ch n ≤ n
  | 0 => Nat.le_refl _
  | n + 1 => by
    have := wrongS_le ch n
    unfold wrongS
    split <;> omega
theorem sharpK_len (g ch : List Nat) (n : Nat) : (sharpK g ch n).length = 15 := by simp [sharpK]
theorem sharpK_get {g ch : List Nat} {n i : Nat} (h : i < 15) : (sharpK g ch n).getD i 0 = if i < n then sharpAt g ch i else g.getD i 0 := by
  unfold sharpK
  rw [List.getD_eq_getElem?_getD, List.getElem?_map, List.getElem?_range h]; rfl
theorem sharpK_zero {g : List Nat} (ch : List Nat) (hg : g.length = 15) : sharpK g ch 0 = g := by
  refine List.ext_getElem? fun i => ?_
  unfold sharpK
  rcases Nat.lt_or_ge i 15 with h | h
  · rw [List.getElem?_map, List.getElem?_range h]
    simp [List.getD_eq_getElem?_getD, List.getElem?_eq_getElem (show i < g.length by omega)]
  · rw [List.getElem?_eq_none (by simpa using h), List.getElem?_eq_none (by omega)]
theorem sharpK_set {g ch : List Nat} {n : Nat} (h : n < 15) : (sharpK g ch n).set n (sharpAt g ch n) = sharpK g ch (n + 1) := by
  refine List.ext_getElem? fun i => ?_
  rw [List.getElem?_set]
  unfold sharpK
  rw [List.length_map, List.length_range]
  by_cases hin : n = i
  · subst hin
    rw [if_pos rfl, if_pos h, List.getElem?_map, List.getElem?_range h]
    simp
  · rw [if_neg hin, List.getElem?_map, List.getElem?_map]
    rcases Nat.lt_or_ge i 15 with h9 | h9
    · rw [List.getElem?_range h9]
      simp only [Option.map_some, Option.some.injEq]
      by_cases h8 : i < n
      · rw [if_pos h8, if_pos (by omega)]
      · rw [if_neg h8, if_neg (by omega)]
    · rw [List.getElem?_eq_none (by simpa using h9)]; rfl
theorem sharpK_same {g ch : List Nat} {n : Nat} (h : n < 15) (h0 : sharpAt g ch n = g.getD n 0) : sharpK g ch (n + 1) = sharpK g ch n := by
  unfold sharpK
  refine List.map_congr_left fun i hi => ?_
  by_cases h1 : i < n
  · rw [if_pos h1, if_pos (by omega)]
  · by_cases h2 : i = n
    · subst h2
      rw [if_neg h1, if_pos (by omega), h0]
    · rw [if_neg h1, if_neg (by omega)]
theorem sharp_past {g ch : List Nat} {i : Nat} (h : ch.length ≤ i) : sharpAt g ch i = g.getD i 0 ∧ ch.getD i 0 = 0 := by
  have h0 : ch.getD i 0 = 0 := by rw [List.getD_eq_getElem?_getD, List.getElem?_eq_none h]; rfl
  refine ⟨?_, h0⟩
  unfold sharpAt
  rw [h0, if_neg (by decide), if_neg (by decide)]
theorem sharp_end {g ch : List Nat} {n : Nat} (h : ch.length ≤ n) : ∀ m, sharpK g ch (n + m) = sharpK g ch n ∧ wrongS ch (n + m) = wrongS ch n
  | 0 => ⟨rfl, rfl⟩
  | m + 1 => by
    obtain ⟨h1, h2⟩ := sharp_end (g := g) h m
    obtain ⟨p1, p2⟩ := sharp_past (g := g) (ch := ch) (i := n + m) (by omega)
    rw [← Nat.add_assoc]
    refine ⟨?_, ?_⟩
    · rw [← h1]
      unfold sharpK
      refine List.map_congr_left fun i hi => ?_
      by_cases h3 : i < n + m
      · rw [if_pos h3, if_pos (by omega)]
      · by_cases h4 : i = n + m
        · subst h4
          rw [if_neg h3, if_pos (by omega), p1]
        · rw [if_neg h3, if_neg (by omega)]
    · rw [wrongS, p2, if_neg (by decide), h2, Nat.add_zero]
theorem sharp_dist {g ch : List Nat} (hg : ∀ i, g.getD i 0 ≤ 1) : ∀ k ≤ 15, distK g (sharpK g ch 15) k = wrongS ch k
  | 0, _ => rfl
  | k + 1, h => by
    have hk := hg k
    have e : (sharpK g ch 15).getD k 0 = sharpAt g ch k := by rw [sharpK_get (by omega), if_pos (by omega)]
    rw [distK, wrongS, sharp_dist hg k (by omega), e]
    congr 1
    unfold sharpAt
    by_cases h1 : ch.getD k 0 % 8 = 1
    · rw [if_pos h1, if_pos h1, if_pos (by omega)]
    · rw [if_neg h1, if_neg h1]
      by_cases h2 : ch.getD k 0 % 8 = 2
      · rw [if_pos h2, if_neg (by omega)]
      · rw [if_neg h2, if_neg (by omega)]
theorem sharp_max {g ch : List Nat} (hg : ∀ i, g.getD i 0 ≤ 1) : maxU (sharpK g ch 15) 14 ≤ 2 := by
  obtain ⟨j, hj, e⟩ := maxU_in (sharpK g ch 15) 14
  rw [e, sharpK_get (by omega), if_pos (by omega)]
  have := hg j
  unfold sharpAt
  split
  · omega
  · split <;> omega
theorem glyph_bits {d : Nat} (h : d < 10) (i : Nat) : (glyphR d).getD i 0 ≤ 1 := by
  rcases Nat.lt_or_ge i 15 with h1 | h1
  · exact (show ∀ d < 10, ∀ i < 15, (glyphR d).getD i 0 ≤ 1 by decide) d h i h1
  · have h2 : (glyphR d).length ≤ i := by have := (show ∀ d < 10, (glyphR d).length = 15 by decide) d h; omega
    rw [List.getD_eq_getElem?_getD, List.getElem?_eq_none h2]
    exact Nat.zero_le _
theorem sharp_law {d : Nat} {ch : List Nat} (h : d < 10) : ∃ b m : Nat, digitI (sharpK (glyphR d) ch 15) = ((b, m), 0) ∧ b ≤ 9 ∧ (m ≤ wrongS ch 15 ∨ b = d) := by
  have hg := glyph_bits h
  refine ⟨_, _, show digitI _ = _ from if_pos ⟨sharpK_len _ _ _, sharp_max hg⟩, bestN_le _ 9, ?_⟩
  by_cases hb : bestN (dist (sharpK (glyphR d) ch 15)) 9 = d
  · exact .inr hb
  · have hm := (margN_inv (dist (sharpK (glyphR d) ch 15)) (bestN (dist (sharpK (glyphR d) ch 15)) 9) 10).2.1 d h (fun e => hb e.symm)
    have hd : dist (sharpK (glyphR d) ch 15) d = wrongS ch 15 := sharp_dist hg 15 (Nat.le_refl _)
    exact .inl (by show margN _ _ 10 ≤ _; omega)
end Go.Proofs.YtlnofbdhamingaaDoor
