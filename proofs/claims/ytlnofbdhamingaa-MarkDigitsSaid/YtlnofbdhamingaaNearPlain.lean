/- The nearest of ten, and its margin: plain. No program in sight. -/
import Derived.Test.YtlnofbdhamingaaGlyphFn
set_option linter.unusedVariables false
set_option linter.unusedSimpArgs false
namespace Go.Proofs.Ytlnofbdhamingaa
open Go.RowKit Go.Sort

/-- how many of the first k modules differ -/
def distK (g ms : List Nat) : Nat → Nat
  | 0 => 0
  | k + 1 => distK g ms k + (if ms.getD k 0 ≠ 2 ∧ ms.getD k 0 ≠ g.getD k 0 then 1 else 0)
theorem distK_le (g ms : List Nat) : ∀ k, distK g ms k ≤ k
  | 0 => Nat.le_refl _
  | k + 1 => by
    have := distK_le g ms k
    unfold distK
    split <;> omega
def dist (ms : List Nat) (d : Nat) : Nat := distK (glyphR d) ms 15
theorem dist_le (ms : List Nat) (d : Nat) : dist ms d ≤ 15 := distK_le _ _ 15
def nearN (f : Nat → Nat) : Nat → Nat × Nat × Nat
  | 0 => (0, 16, 16)
  | k + 1 => if f k < (nearN f k).2.1 then (k, f k, (nearN f k).2.1) else ((nearN f k).1, (nearN f k).2.1, min (nearN f k).2.2 (f k))
def bestN (f : Nat → Nat) : Nat → Nat
  | 0 => 0
  | k + 1 => if f (k + 1) < f (bestN f k) then k + 1 else bestN f k
def margN (f : Nat → Nat) (b : Nat) : Nat → Nat
  | 0 => 15
  | k + 1 => if k ≠ b then min (margN f b k) (f k - f b) else margN f b k
theorem bestN_le (f : Nat → Nat) : ∀ k, bestN f k ≤ k
  | 0 => Nat.le_refl _
  | k + 1 => by
    have := bestN_le f k
    unfold bestN
    split <;> omega
theorem bestN_min (f : Nat → Nat) : ∀ k, ∀ d ≤ k, f (bestN f k) ≤ f d
  | 0, d, h => by obtain rfl : d = 0 := by omega
                  exact Nat.le_refl _
  | k + 1, d, h => by
    have ih := bestN_min f k
    unfold bestN
    split
    · rename_i h1
      rcases Nat.lt_or_ge k d with h2 | h2
      · obtain rfl : d = k + 1 := by omega
        exact Nat.le_refl _
      · exact Nat.le_trans (Nat.le_of_lt h1) (ih d h2)
    · rename_i h1
      rcases Nat.lt_or_ge k d with h2 | h2
      · obtain rfl : d = k + 1 := by omega
        omega
      · exact ih d h2
theorem nearN_inv (f : Nat → Nat) (hf : ∀ d, f d ≤ 15) : ∀ k, (nearN f (k + 1)).1 = bestN f k ∧ (nearN f (k + 1)).2.1 = f (bestN f k) ∧
    (∀ d ≤ k, d ≠ bestN f k → (nearN f (k + 1)).2.2 ≤ f d) ∧ ((nearN f (k + 1)).2.2 = 16 ∨ ∃ d ≤ k, d ≠ bestN f k ∧ (nearN f (k + 1)).2.2 = f d)
  | 0 => by
    have h0 := hf 0
    have e : nearN f (0 + 1) = (0, f 0, 16) := by
      show (if f 0 < 16 then _ else _) = _
      rw [if_pos (by omega)]
      rfl
    rw [e]
    exact ⟨rfl, rfl, fun d hd hn => absurd (show d = 0 by omega) hn, .inl rfl⟩
  | k + 1 => by
    obtain ⟨h1, h2, h3, h4⟩ := nearN_inv f hf k
    have hb := bestN_le f k
    have hm := bestN_min f k
    have hk := hf (k + 1)
    by_cases h : f (k + 1) < f (bestN f k)
    · have e : nearN f (k + 1 + 1) = (k + 1, f (k + 1), f (bestN f k)) := by
        rw [nearN, h2, if_pos h]
      have e2 : bestN f (k + 1) = k + 1 := by rw [bestN, if_pos h]
      rw [e, e2]
      refine ⟨rfl, rfl, fun d hd hn => hm d (by omega), .inr ⟨bestN f k, by omega, by omega, rfl⟩⟩
    · have e : nearN f (k + 1 + 1) = (bestN f k, f (bestN f k), min (nearN f (k + 1)).2.2 (f (k + 1))) := by
        rw [nearN, h2, if_neg h, h1]
      have e2 : bestN f (k + 1) = bestN f k := by rw [bestN, if_neg h]
      rw [e, e2]
      refine ⟨rfl, rfl, fun d hd hn => ?_, ?_⟩
      · show min _ _ ≤ _
        rcases Nat.lt_or_ge k d with h9 | h9
        · obtain rfl : d = k + 1 := by omega
          omega
        · have := h3 d h9 hn
          omega
      · show min _ _ = 16 ∨ ∃ d ≤ k + 1, d ≠ bestN f k ∧ min _ _ = f d
        rcases Nat.lt_or_ge (f (k + 1)) (nearN f (k + 1)).2.2 with h9 | h9
        · exact .inr ⟨k + 1, by omega, by omega, by omega⟩
        · rcases h4 with h4 | ⟨d, hd, hn, h4⟩
          · exact .inl (by omega)
          · exact .inr ⟨d, by omega, hn, by omega⟩
theorem margN_inv (f : Nat → Nat) (b : Nat) : ∀ k, margN f b k ≤ 15 ∧ (∀ d < k, d ≠ b → margN f b k ≤ f d - f b) ∧ (margN f b k = 15 ∨ ∃ d < k, d ≠ b ∧ margN f b k = f d - f b)
  | 0 => ⟨Nat.le_refl _, fun d hd => absurd hd (Nat.not_lt_zero _), .inl rfl⟩
  | k + 1 => by
    obtain ⟨h1, h2, h3⟩ := margN_inv f b k
    by_cases h : k ≠ b
    · rw [margN, if_pos h]
      refine ⟨by omega, fun d hd hn => ?_, ?_⟩
      · rcases Nat.lt_or_ge d k with h9 | h9
        · have := h2 d h9 hn
          omega
        · obtain rfl : d = k := by omega
          omega
      · rcases Nat.lt_or_ge (f k - f b) (margN f b k) with h9 | h9
        · exact .inr ⟨k, by omega, h, by omega⟩
        · rcases h3 with h3 | ⟨d, hd, hn, h3⟩
          · exact .inl (by omega)
          · exact .inr ⟨d, by omega, hn, by omega⟩
    · rw [margN, if_neg h]
      refine ⟨h1, fun d hd hn => h2 d (by omega) hn, ?_⟩
      rcases h3 with h3 | ⟨d, hd, hn, h3⟩
      · exact .inl h3
      · exact .inr ⟨d, by omega, hn, h3⟩
theorem near_margin (f : Nat → Nat) (hf : ∀ d, f d ≤ 15) : (nearN f 10).2.2 = (nearN f 10).2.1 + margN f (bestN f 9) 10 := by
  obtain ⟨-, h2, h3, h4⟩ := nearN_inv f hf 9
  simp only [Nat.reduceAdd] at h2 h3 h4
  obtain ⟨m1, m2, m3⟩ := margN_inv f (bestN f 9) 10
  have hm := bestN_min f 9
  have hx : ∃ d ≤ 9, d ≠ bestN f 9 := by
    by_cases h : bestN f 9 = 0
    · exact ⟨1, by omega, by omega⟩
    · exact ⟨0, by omega, fun e => h e.symm⟩
  obtain ⟨d1, hd1, hn1⟩ := hx
  have a1 := h3 d1 hd1 hn1
  have a2 := hf d1
  rw [h2]
  rcases h4 with h4 | ⟨d, hd, hn, h4⟩
  · omega
  · have b1 := m2 d (by omega) hn
    have b2 := hm d hd
    have b3 := hf d
    rcases m3 with m3 | ⟨c, hc, hcn, m3⟩
    · omega
    · have b4 := h3 c (by omega) hcn
      have b5 := hm c (by omega)
      omega
/-- the nearest digit, and its margin -/
def nearestR (ms : List Nat) : Nat × Nat := (bestN (dist ms) 9, margN (dist ms) (bestN (dist ms) 9) 10)
theorem nearest_of (ms : List Nat) : (nearN (dist ms) 10).1 = (nearestR ms).1 ∧ (nearN (dist ms) 10).2.2 = (nearN (dist ms) 10).2.1 + (nearestR ms).2 :=
  ⟨(nearN_inv _ (dist_le ms) 9).1, near_margin _ (dist_le ms)⟩
theorem nearest_bd (ms : List Nat) : (nearestR ms).1 < 10 ∧ (nearestR ms).2 ≤ 15 := ⟨by have := bestN_le (dist ms) 9; unfold nearestR; omega, (margN_inv _ _ 10).1⟩
theorem nearN_bd (f : Nat → Nat) (hf : ∀ d, f d ≤ 15) : ∀ k, (nearN f k).1 ≤ 16 + k ∧ (nearN f k).2.1 ≤ 16 ∧ (nearN f k).2.2 ≤ 16
  | 0 => ⟨Nat.zero_le _, Nat.le_refl _, Nat.le_refl _⟩
  | k + 1 => by
    have := nearN_bd f hf k
    have := hf k
    unfold nearN
    split <;> (dsimp only; omega)
end Go.Proofs.Ytlnofbdhamingaa
