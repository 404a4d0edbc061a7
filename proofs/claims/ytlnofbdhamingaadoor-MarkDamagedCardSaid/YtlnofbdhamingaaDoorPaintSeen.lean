/- What is seen of an image that is painted. No program in sight. -/
import Derived.Test.YtlnofbdhamingaaDoorTurnMath
import Derived.Test.YtlnofbdhamingaaDoorGPaint
set_option linter.unusedVariables false
set_option linter.unusedSimpArgs false
namespace Go.Proofs.YtlnofbdhamingaaDoor
open Go.RowKit Go.Sort

/-- the reading of one value -/
def clsR (lo hi v : Int) : Nat := if v ≤ lo then 1 else if v < hi then 2 else 0
theorem col_mul {S : Nat} (hS : 1 ≤ S ∧ S ≤ 2) (lo hi v : Int) : colR lo hi S (v * S * S) = clsR lo hi v := by
  unfold colR clsR
  rcases (show S = 1 ∨ S = 2 by omega) with rfl | rfl
  · rw [show lo * ((1 : Nat) : Int) * ((1 : Nat) : Int) = lo by omega, show hi * ((1 : Nat) : Int) * ((1 : Nat) : Int) = hi by omega, show v * ((1 : Nat) : Int) * ((1 : Nat) : Int) = v by omega]
  · have e : ∀ x : Int, x * ((2 : Nat) : Int) * ((2 : Nat) : Int) = 4 * x := fun x => by omega
    rw [e, e, e]
    by_cases h1 : v ≤ lo
    · rw [if_pos h1, if_pos (by omega)]
    · rw [if_neg h1, if_neg (by omega)]
      by_cases h2 : v < hi
      · rw [if_pos h2, if_pos (by omega)]
      · rw [if_neg h2, if_neg (by omega)]
theorem idx_lt {W H S x y : Nat} (hx : x < W * S) (hy : y < H * S) : y * (W * S) + x < H * S * (W * S) := by
  have : (y + 1) * (W * S) ≤ H * S * (W * S) := Nat.mul_le_mul_right _ hy
  rw [Nat.succ_mul] at this
  omega
/-- a module all of whose pixels are alike -/
theorem psum_same (pix : List Int) {W H S i j : Nat} (hS : 1 ≤ S ∧ S ≤ 2) (hi : i < W) (hj : j < H) {v : Int} (hl : pix.length = H * S * (W * S)) (h : ∀ k, k < H * S * (W * S) → cellOf (W * S) S k = j * W + i → pix.getD k 0 = v) :
    psum pix (W * S) S (H * S * (W * S)) (j * W + i) = v * S * S := by
  have e1 := psum_full (List.replicate (H * S * (W * S)) v) (W := W) (H := H) (S := S) (i := i) (j := j) hS.1 hi hj
  have e2 : psum pix (W * S) S (H * S * (W * S)) (j * W + i) = psum (List.replicate (H * S * (W * S)) v) (W * S) S (H * S * (W * S)) (j * W + i) := by
    unfold psum
    refine sumN_congr _ fun k hk => ?_
    by_cases hc : cellOf (W * S) S k = j * W + i
    · rw [if_pos hc, if_pos hc, h k hk hc, List.getD_eq_getElem?_getD, List.getElem?_replicate, if_pos hk]; rfl
    · rw [if_neg hc, if_neg hc]
  rw [e2, e1]
  have g : ∀ x y, x < W * S → y < H * S → (List.replicate (H * S * (W * S)) v).getD (y * (W * S) + x) 0 = v := fun x y hx hy => by
    rw [List.getD_eq_getElem?_getD, List.getElem?_replicate, if_pos (idx_lt hx hy)]; rfl
  have bi : i * S + S ≤ W * S := by rw [← Nat.succ_mul]; exact Nat.mul_le_mul_right _ hi
  have bj : j * S + S ≤ H * S := by rw [← Nat.succ_mul]; exact Nat.mul_le_mul_right _ hj
  rcases (show S = 1 ∨ S = 2 by omega) with rfl | rfl
  · rw [sum2_one, g _ _ (by omega) (by omega)]; omega
  · rw [sum2_two, g _ _ (by omega) (by omega), g _ _ (by omega) (by omega), g _ _ (by omega) (by omega), g _ _ (by omega) (by omega)]; omega
theorem seen_painted {ms : List Nat} {W H S : Nat} (hS : 1 ≤ S ∧ S ≤ 2) (ink paper lo hi : Int) {N : Nat} (hN : N = H * S * (W * S)) :
    seenR (paintedR ms (W * S) S ink paper N) W H S lo hi = (List.range (W * H)).map fun t => clsR lo hi (if ms.getD t 0 = 1 then ink else paper) := by
  subst hN
  unfold seenR
  refine List.map_congr_left fun t ht => ?_
  have ht := List.mem_range.1 ht
  have hW : 0 < W := Nat.pos_of_ne_zero fun h => by subst h; simp at ht
  have e : t / W * W + t % W = t := by rw [Nat.mul_comm]; exact Nat.div_add_mod t W
  have h1 : t % W < W := Nat.mod_lt _ hW
  have h2 : t / W < H := Nat.div_lt_of_lt_mul ht
  have hp := psum_same (paintedR ms (W * S) S ink paper (H * S * (W * S))) (v := if ms.getD t 0 = 1 then ink else paper) hS h1 h2 (paintedR_length _ _ _ _ _ _) (fun k hk hc => by
    rw [e] at hc
    rw [List.getD_eq_getElem?_getD, paintedR, List.getElem?_map, List.getElem?_range hk, Option.map_some, Option.getD_some, hc])
  rw [e] at hp
  rw [hp, col_mul hS]
/-- a contrast between ink and paper -/
theorem cls_ink {lo hi ink paper : Int} (h1 : ink ≤ lo) (h2 : lo < hi) (h3 : hi ≤ paper) (x : Nat) (hx : x < 2) : clsR lo hi (if x = 1 then ink else paper) = x := by
  unfold clsR
  rcases (show x = 0 ∨ x = 1 by omega) with rfl | rfl
  · rw [if_neg (by decide : ¬ (0 : Nat) = 1), if_neg (by omega), if_neg (by omega)]
  · rw [if_pos (rfl : (1 : Nat) = 1), if_pos h1]
theorem seen_ink {ms : List Nat} {W H S : Nat} (hS : 1 ≤ S ∧ S ≤ 2) {ink paper lo hi : Int} (h1 : ink ≤ lo) (h2 : lo < hi) (h3 : hi ≤ paper) (hl : ms.length = W * H) (hb : ∀ i, ms.getD i 0 < 2) {N : Nat} (hN : N = H * S * (W * S)) :
    seenR (paintedR ms (W * S) S ink paper N) W H S lo hi = ms := by
  rw [seen_painted hS ink paper lo hi hN]
  refine List.ext_getElem? fun t => ?_
  rw [List.getElem?_map]
  rcases Nat.lt_or_ge t (W * H) with h | h
  · rw [List.getElem?_range h, Option.map_some, cls_ink h1 h2 h3 _ (hb t), List.getD_eq_getElem?_getD, List.getElem?_eq_getElem (by omega)]; rfl
  · rw [List.getElem?_eq_none (by simpa using h), List.getElem?_eq_none (by omega)]; rfl
theorem modR_lt (w : List Nat) (i : Nat) : modR w i < 2 := by
  unfold modR
  split
  · exact Nat.mod_lt _ (by omega)
  · unfold cornerR
    split
    · decide
    · split <;> decide
theorem markedR_get {w : List Nat} {i : Nat} (h : i < 64) : (markedR w 64).getD i 0 = modR w i := by
  rw [List.getD_eq_getElem?_getD, markedR, List.getElem?_map, List.getElem?_range h]; rfl
theorem marked_lt (w : List Nat) (i : Nat) : (markedR w 64).getD i 0 < 2 := by
  rcases Nat.lt_or_ge i 64 with h | h
  · rw [markedR_get h]; exact modR_lt w i
  · rw [List.getD_eq_getElem?_getD, List.getElem?_eq_none (by rw [markedR_length]; exact h)]; decide
theorem marked_corners (w : List Nat) : (markedR w 64).getD 0 0 = 1 ∧ (markedR w 64).getD 7 0 = 0 ∧ (markedR w 64).getD 56 0 = 1 ∧ (markedR w 64).getD 63 0 = 1 := by
  rw [markedR_get (by omega), markedR_get (by omega), markedR_get (by omega), markedR_get (by omega)]
  exact ⟨rfl, rfl, rfl, rfl⟩
/-! ### modules that are changed -/
/-- the module of the data bit i, changed -/
def dmgR (w ch : List Nat) (i : Nat) : Nat :=
  if ch.getD (i / 4) 0 / 16 % 2 = 1 ∧ i % 4 = ch.getD (i / 4) 0 / 32 % 4 then 2 else (bitR w i + ch.getD (i / 4) 0 % 16 / 2 ^ (3 - i % 4) % 2) % 2
theorem xor_bits : ∀ x < 16, ∀ y < 16, (x / 2 ^ 3 % 2 + y / 2 ^ 3 % 2) % 2 * 8 + (x / 2 ^ 2 % 2 + y / 2 ^ 2 % 2) % 2 * 4 + (x / 2 ^ 1 % 2 + y / 2 ^ 1 % 2) % 2 * 2 + (x / 2 ^ 0 % 2 + y / 2 ^ 0 % 2) % 2 = x ^^^ y := by decide
theorem four_idx {t r : Nat} (hr : r < 4) : (4 * t + r) / 4 = t ∧ (4 * t + r) % 4 = r := by omega
theorem dmg_word {w ch ms : List Nat} (hw : Syms w) (hm : ∀ i, i < 60 → ms.getD (atD i) 0 = dmgR w ch i) {t : Nat} (ht : t < 15) :
    eraAt ms 60 t = decide (ch.getD t 0 / 16 % 2 = 1) ∧ (¬ ch.getD t 0 / 16 % 2 = 1 → wordAt ms 60 t = w.getD t 0 ^^^ ch.getD t 0 % 16) := by
  have hx := syms_get hw t
  have hc : ∀ r, r < 4 → ms.getD (atD (4 * t + r)) 0 = if ch.getD t 0 / 16 % 2 = 1 ∧ r = ch.getD t 0 / 32 % 4 then 2 else (w.getD t 0 / 2 ^ (3 - r) % 2 + ch.getD t 0 % 16 / 2 ^ (3 - r) % 2) % 2 := fun r hr => by
    rw [hm _ (by omega)]
    unfold dmgR bitR
    rw [(four_idx hr).1, (four_idx hr).2]
  have c0 := hc 0 (by omega)
  have c1 := hc 1 (by omega)
  have c2 := hc 2 (by omega)
  have c3 := hc 3 (by omega)
  rw [Nat.add_zero] at c0
  obtain ⟨x, hx0⟩ : ∃ x, w.getD t 0 = x := ⟨_, rfl⟩
  obtain ⟨y, hy0⟩ : ∃ y, ch.getD t 0 = y := ⟨_, rfl⟩
  rw [hx0, hy0] at c0 c1 c2 c3
  rw [hx0] at hx
  rw [hx0, hy0]
  have T : ∀ r, r < 4 → decide (4 * t + r < 60) = true := fun r hr => decide_eq_true (by omega)
  have eE : eraAt ms 60 t = (lostD ms (4 * t) || lostD ms (4 * t + 1) || lostD ms (4 * t + 2) || lostD ms (4 * t + 3)) := by
    unfold eraAt
    rw [show decide (4 * t < 60) = true from T 0 (by omega), T 1 (by omega), T 2 (by omega), T 3 (by omega)]
    simp
  have eW : wordAt ms 60 t = wbit ms (4 * t) * 8 + wbit ms (4 * t + 1) * 4 + wbit ms (4 * t + 2) * 2 + wbit ms (4 * t + 3) := by
    unfold wordAt
    rw [if_pos (by omega), if_pos (by omega), if_pos (by omega), if_pos (by omega)]
  have m2 : ∀ a, a % 2 < 2 := fun a => Nat.mod_lt _ (by omega)
  by_cases h : y / 16 % 2 = 1
  · refine ⟨?_, fun h9 => absurd h h9⟩
    rw [eE, decide_eq_true h]
    have hq : y / 32 % 4 < 4 := Nat.mod_lt _ (by omega)
    rcases (show y / 32 % 4 = 0 ∨ y / 32 % 4 = 1 ∨ y / 32 % 4 = 2 ∨ y / 32 % 4 = 3 by omega) with e | e | e | e
    · rw [if_pos ⟨h, e.symm⟩] at c0
      rw [show lostD ms (4 * t) = true by unfold lostD; rw [c0]; rfl]; simp
    · rw [if_pos ⟨h, e.symm⟩] at c1
      rw [show lostD ms (4 * t + 1) = true by unfold lostD; rw [c1]; rfl]; simp
    · rw [if_pos ⟨h, e.symm⟩] at c2
      rw [show lostD ms (4 * t + 2) = true by unfold lostD; rw [c2]; rfl]; simp
    · rw [if_pos ⟨h, e.symm⟩] at c3
      rw [show lostD ms (4 * t + 3) = true by unfold lostD; rw [c3]; rfl]; simp
  · rw [if_neg (fun h9 => h h9.1)] at c0 c1 c2 c3
    have l0 : ∀ i (z : Nat), ms.getD (atD i) 0 = z % 2 → lostD ms i = false ∧ wbit ms i = z % 2 := fun i z hz => by
      have := m2 z
      unfold lostD wbit
      rw [hz, if_pos this]
      exact ⟨decide_eq_false (by omega), rfl⟩
    obtain ⟨a0, b0⟩ := l0 _ _ c0
    obtain ⟨a1, b1⟩ := l0 _ _ c1
    obtain ⟨a2, b2⟩ := l0 _ _ c2
    obtain ⟨a3, b3⟩ := l0 _ _ c3
    refine ⟨by rw [eE, a0, a1, a2, a3, decide_eq_false h]; rfl, fun _ => ?_⟩
    rw [eW, b0, b1, b2, b3]
    exact xor_bits x hx (y % 16) (Nat.mod_lt _ (by omega))
/-- a mark with changed modules: what its word says -/
theorem dmg_fits {M ch ms w : List Nat} (hw : w = (List.range 15).map fun i => gval M (powN i)) (hs : Syms w) (hm : ∀ i, i < 60 → ms.getD (atD i) 0 = dmgR w ch i) :
    errN M (wordK ms 60) (eraK ms 60) = wrongK ch 15 ∧ goneN (eraK ms 60) = lostK ch 15 := by
  have hg : ∀ i, i < 15 → w.getD i 0 = gval M (powN i) := fun i hi => by
    rw [hw, List.getD_eq_getElem?_getD, List.getElem?_map, List.getElem?_range hi]; rfl
  constructor
  · rw [errN_eq, eraK_len]
    unfold errK wrongK
    congr 1
    refine List.filter_congr fun i hi => ?_
    have hi := List.mem_range.1 hi
    obtain ⟨d1, d2⟩ := dmg_word (ms := ms) (ch := ch) hs hm hi
    rw [eraK_get hi, wordK_get hi, d1]
    by_cases h1 : ch.getD i 0 / 16 % 2 = 1
    · rw [decide_eq_true h1, decide_eq_false (by omega)]; rfl
    · rw [decide_eq_false h1, decide_eq_true (by omega), d2 h1, hg i hi]
      congr 1
      by_cases h2 : ch.getD i 0 % 16 = 0
      · rw [h2, Nat.xor_zero]; simp
      · rw [decide_eq_true h2, bne_iff_ne]
        exact fun h9 => h2 (xor_ne.1 h9)
  · unfold goneN goneK lostK
    rw [eraK_len]
    refine congrArg List.length (List.filter_congr fun i hi => ?_)
    have hi := List.mem_range.1 hi
    rw [eraK_get hi, (dmg_word (ms := ms) (ch := ch) hs hm hi).1]
theorem encR_val (M : List Nat) : encR M = (List.range 15).map fun i => gval M (powN i) := rfl
/-- what is read from a mark with changed modules -/
theorem dmg_cand {M ch ms : List Nat} {k t : Nat} (hM : Syms M) (hk : M.length = k) (h1 : 1 ≤ k) (h2 : k ≤ 13) (hu : upright ms = true) (hm : ∀ i, i < 60 → ms.getD (atD i) 0 = dmgR (encR M) ch i) (hf : 2 * wrongK ch 15 + lostK ch 15 ≤ 15 - k) :
    candR k t ms = some ⟨M, t, wrongK ch 15, lostK ch 15⟩ := by
  obtain ⟨e1, e2⟩ := dmg_fits (ch := ch) (encR_val M) (encR_lt hM) hm
  rw [cand_of h1 h2 hu ⟨hM, hk, by rw [e1, e2]; exact hf⟩, e1, e2]
theorem marked_data {w : List Nat} {i : Nat} (h : i < 60) : (markedR w 64).getD (atD i) 0 = bitR w i := by
  obtain ⟨h1, h2⟩ := data_atD i h
  rw [markedR_get (atD_lt h)]
  unfold modR
  rw [if_pos h1, h2]
theorem none_dmg (w : List Nat) (i : Nat) : dmgR w [] i = bitR w i := by
  have hb : bitR w i < 2 := Nat.mod_lt _ (by omega)
  unfold dmgR
  rw [show (([] : List Nat).getD (i / 4) 0) = 0 from rfl, if_neg (by intro h; exact absurd h.1 (by decide)), Nat.zero_mod, Nat.zero_div, Nat.zero_mod, Nat.add_zero, Nat.mod_eq_of_lt hb]
theorem none_wrong : wrongK [] 15 = 0 ∧ lostK [] 15 = 0 := by decide
/-- what is read from a mark as it was drawn -/
theorem marked_cand {M : List Nat} {k t : Nat} (hM : Syms M) (hk : M.length = k) (h1 : 1 ≤ k) (h2 : k ≤ 13) : candR k t (markedR (encR M) 64) = some ⟨M, t, 0, 0⟩ := by
  obtain ⟨c0, c7, c56, c63⟩ := marked_corners (encR M)
  have := dmg_cand (t := t) (ch := []) hM hk h1 h2 (turned_not c0 c7 c56 c63).1 (fun i hi => by rw [marked_data hi, none_dmg]) (by rw [none_wrong.1, none_wrong.2]; omega)
  rw [none_wrong.1, none_wrong.2] at this
  exact this
end Go.Proofs.YtlnofbdhamingaaDoor
