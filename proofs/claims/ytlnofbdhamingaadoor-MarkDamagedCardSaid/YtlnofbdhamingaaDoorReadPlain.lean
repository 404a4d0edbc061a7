/- What is read from a mark that was drawn, turned, damaged: plain. No program in sight. -/
import Derived.Test.YtlnofbdhamingaaDoorPaintSeen
import Derived.Test.YtlnofbdhamingaaDoorGRead
set_option linter.unusedVariables false
set_option linter.unusedSimpArgs false
namespace Go.Proofs.YtlnofbdhamingaaDoor
open Go.RowKit Go.Sort

theorem readA_sq {S : Nat} (hS : 1 ≤ S ∧ S ≤ 2) {m : Img} (h : SqCam S m) {c : Con} (hc : c.Ok) {k : Nat} (h1 : 1 ≤ k) (h2 : k ≤ 13) : readA m c (k : Int) = ansR (readI m S c.lo c.hi k) := by
  obtain ⟨e1, e2, e3⟩ := h
  rw [readA_def, if_pos e3, if_pos ⟨hc, by omega, by omega⟩, if_pos ⟨by rw [e1, e2], by omega⟩, e1, show (((8 * S : Nat) : Int) / 8).toNat = S by omega, Int.toNat_natCast]
  cases readI m S c.lo c.hi k <;> rfl
theorem painted_all {ms : List Nat} {ww S : Nat} {ink paper : Int} (h1 : 0 ≤ ink) (h2 : ink < paper) (h3 : paper ≤ 255) (k : Nat) : allIn 0 255 (paintedR ms ww S ink paper k) := by
  intro x hx
  unfold paintedR at hx
  obtain ⟨i, _, rfl⟩ := List.mem_map.1 hx
  split <;> omega
theorem sq_of {S : Nat} (hS : 1 ≤ S ∧ S ≤ 2) {pix : List Int} (hl : pix.length = 8 * S * (8 * S)) (ha : allIn 0 255 pix) : SqCam S ⟨((8 * S : Nat) : Int), ((8 * S : Nat) : Int), pix⟩ := by
  refine ⟨rfl, rfl, ⟨⟨?_, ?_⟩, ⟨?_, ?_⟩, ?_⟩, ha⟩
  · show (1 : Int) ≤ ((8 * S : Nat) : Int); omega
  · show ((8 * S : Nat) : Int) ≤ 16; omega
  · show (1 : Int) ≤ ((8 * S : Nat) : Int); omega
  · show ((8 * S : Nat) : Int) ≤ 16; omega
  · show (pix.length : Int) = ((8 * S : Nat) : Int) * ((8 * S : Nat) : Int)
    rw [hl]; exact Int.natCast_mul _ _
/-- the image that is drawn -/
def markI (M : List Nat) (S : Nat) (ink paper : Int) : Img := ⟨((8 * S : Nat) : Int), ((8 * S : Nat) : Int), paintedR (markedR (encR M) 64) (8 * S) S ink paper (8 * S * (8 * S))⟩
theorem markI_sq (M : List Nat) {S : Nat} (hS : 1 ≤ S ∧ S ≤ 2) {ink paper : Int} (h1 : 0 ≤ ink) (h2 : ink < paper) (h3 : paper ≤ 255) : SqCam S (markI M S ink paper) := sq_of hS (paintedR_length _ _ _ _ _ _) (painted_all h1 h2 h3 _)
theorem markI_seen (M : List Nat) {S : Nat} (hS : 1 ≤ S ∧ S ≤ 2) {ink paper lo hi : Int} (h1 : ink ≤ lo) (h2 : lo < hi) (h3 : hi ≤ paper) : seenR (markI M S ink paper).pix 8 8 S lo hi = markedR (encR M) 64 := by
  unfold markI
  exact seen_ink (W := 8) (H := 8) hS h1 h2 h3 (by rw [markedR_length]) (marked_lt _) rfl
/-- what is read from a mark that was drawn and turned -/
theorem read_drawn {M : List Nat} {k S n : Nat} (hM : Syms M) (hk : M.length = k) (k1 : 1 ≤ k) (k2 : k ≤ 13) (hS : 1 ≤ S ∧ S ≤ 2) {ink paper : Int} (h1 : 0 ≤ ink) (h2 : ink < paper) (h3 : paper ≤ 255) {c : Con} (hc : c.Ok) (h4 : ink ≤ c.lo) (h5 : c.hi ≤ paper) (hn : n < 4) :
    readA (turnN n (markI M S ink paper)) c (k : Int) = (⟨M, (4 - n) % 4, 0, 0⟩, 0) := by
  obtain ⟨c0, c7, c56, c63⟩ := marked_corners (encR M)
  have hsq := markI_sq M hS h1 h2 h3
  rw [readA_sq hS (turnN_cam hS hsq n) hc k1 k2, read_turned hS hsq c.lo c.hi (markI_seen M hS h4 hc.2.1 h5) c0 c7 c56 c63 hn, marked_cand hM hk k1 k2]
  rfl
/-! ### a mark with changed modules -/
def inkOf (b : Nat) : Int := if b = 1 then 0 else 255
/-- a pixel of a mark with changed modules -/
def dmgP (w ch : List Nat) (j : Nat) : Int :=
  if isData j = true then (if ch.getD (tOf j / 4) 0 / 16 % 2 = 1 ∧ tOf j % 4 = ch.getD (tOf j / 4) 0 / 32 % 4 then 128 else if ch.getD (tOf j / 4) 0 % 16 / 2 ^ (3 - tOf j % 4) % 2 = 1 then 255 - inkOf (bitR w (tOf j)) else inkOf (bitR w (tOf j))) else inkOf (cornerR j).1
def dmgK (w ch : List Nat) (n : Nat) : List Int := (List.range 64).map fun j => if j < n then dmgP w ch j else inkOf (modR w j)
theorem dmgK_len (w ch : List Nat) (n : Nat) : (dmgK w ch n).length = 64 := by simp [dmgK]
theorem dmgK_get {w ch : List Nat} {n j : Nat} (h : j < 64) : (dmgK w ch n).getD j 0 = if j < n then dmgP w ch j else inkOf (modR w j) := by
  rw [List.getD_eq_getElem?_getD, dmgK, List.getElem?_map, List.getElem?_range h]; rfl
theorem dmgK_zero (w ch : List Nat) : paintedR (markedR w 64) (8 * 1) 1 0 255 (8 * 1 * (8 * 1)) = dmgK w ch 0 := by
  unfold paintedR dmgK
  refine List.map_congr_left fun j hj => ?_
  have hj := List.mem_range.1 hj
  rw [if_neg (Nat.not_lt_zero _)]
  have e : cellOf (8 * 1) 1 j = j := by
    unfold cellOf
    omega
  rw [e, markedR_get (by omega)]
  rfl
theorem dmgK_set {w ch : List Nat} {n : Nat} (h : n < 64) : (dmgK w ch n).set n (dmgP w ch n) = dmgK w ch (n + 1) := by
  refine List.ext_getElem? fun i => ?_
  rcases Nat.lt_or_ge i 64 with hi | hi
  · by_cases e : n = i
    · subst e
      rw [List.getElem?_set_self (by rw [dmgK_len]; exact hi)]
      unfold dmgK
      rw [List.getElem?_map, List.getElem?_range hi, Option.map_some, if_pos (Nat.lt_succ_self n)]
    · rw [List.getElem?_set_ne e]
      unfold dmgK
      rw [List.getElem?_map, List.getElem?_map, List.getElem?_range hi, Option.map_some, Option.map_some]
      congr 1
      by_cases h2 : i < n
      · rw [if_pos h2, if_pos (by omega)]
      · rw [if_neg h2, if_neg (by omega)]
  · rw [List.getElem?_eq_none (by rw [List.length_set, dmgK_len]; exact hi), List.getElem?_eq_none (by rw [dmgK_len]; exact hi)]
theorem dmgK_same {w ch : List Nat} {n : Nat} (h0 : dmgP w ch n = inkOf (modR w n)) : dmgK w ch (n + 1) = dmgK w ch n := by
  unfold dmgK
  refine List.map_congr_left fun i hi => ?_
  by_cases h1 : i < n
  · rw [if_pos h1, if_pos (by omega)]
  · by_cases h2 : i = n
    · subst h2
      rw [if_neg h1, if_pos (by omega), h0]
    · rw [if_neg h1, if_neg (by omega)]
theorem dmgP_corner {w ch : List Nat} {j : Nat} (h : isData j = false) : dmgP w ch j = inkOf (modR w j) := by
  unfold dmgP modR
  rw [if_neg (by rw [h]; exact Bool.false_ne_true), if_neg (by rw [h]; exact Bool.false_ne_true)]
theorem dmgP_data {w ch : List Nat} {j : Nat} (h : isData j = true) : dmgP w ch j = if ch.getD (tOf j / 4) 0 / 16 % 2 = 1 ∧ tOf j % 4 = ch.getD (tOf j / 4) 0 / 32 % 4 then 128 else if ch.getD (tOf j / 4) 0 % 16 / 2 ^ (3 - tOf j % 4) % 2 = 1 then 255 - inkOf (modR w j) else inkOf (modR w j) := by
  unfold dmgP modR
  rw [if_pos h, if_pos h]
theorem cls_inkOf (b : Nat) (hb : b < 2) : clsR 100 150 (inkOf b) = b ∧ clsR 100 150 (255 - inkOf b) = (b + 1) % 2 := by
  rcases (show b = 0 ∨ b = 1 by omega) with rfl | rfl <;> exact ⟨rfl, rfl⟩
theorem inkOf_bd (b : Nat) : inkOf b = 0 ∨ inkOf b = 255 := by
  unfold inkOf
  split
  · exact .inl rfl
  · exact .inr rfl
theorem dmgP_bd (w ch : List Nat) (j : Nat) : 0 ≤ dmgP w ch j ∧ dmgP w ch j ≤ 255 := by
  have h1 := inkOf_bd (bitR w (tOf j))
  have h2 := inkOf_bd (cornerR j).1
  unfold dmgP
  repeat' split
  all_goals omega
theorem dmg_all (w ch : List Nat) : allIn 0 255 (dmgK w ch 64) := by
  intro x hx
  unfold dmgK at hx
  obtain ⟨i, hi, rfl⟩ := List.mem_map.1 hx
  rw [if_pos (List.mem_range.1 hi)]
  exact dmgP_bd w ch i
theorem psum_eight {pix : List Int} {t : Nat} (ht : t < 64) : psum pix (8 * 1) 1 (8 * 1 * (8 * 1)) t = pix.getD t 0 := by
  have hp := psum_full pix (W := 8) (H := 8) (S := 1) (i := t % 8) (j := t / 8) (by omega) (by omega) (by omega)
  rw [sum2_one] at hp
  rw [show t / 8 * 8 + t % 8 = t by omega] at hp
  rw [hp]
  congr 1
  omega
theorem col_one (lo hi v : Int) : colR lo hi 1 v = clsR lo hi v := by
  have := col_mul (S := 1) ⟨by omega, by omega⟩ lo hi v
  rw [show v * ((1 : Nat) : Int) * ((1 : Nat) : Int) = v by omega] at this
  exact this
theorem dmg_seen (w ch : List Nat) {j : Nat} (hj : j < 64) : (seenR (dmgK w ch 64) 8 8 1 100 150).getD j 0 = clsR 100 150 (dmgP w ch j) := by
  rw [seenR_get (by omega), psum_eight hj, col_one, dmgK_get hj, if_pos hj]
theorem dmg_data (w ch : List Nat) {i : Nat} (h : i < 60) : (seenR (dmgK w ch 64) 8 8 1 100 150).getD (atD i) 0 = dmgR w ch i := by
  obtain ⟨h1, h2⟩ := data_atD i h
  rw [dmg_seen w ch (atD_lt h)]
  unfold dmgP dmgR
  rw [if_pos h1, h2]
  have hb : bitR w i < 2 := Nat.mod_lt _ (by omega)
  obtain ⟨c1, c2⟩ := cls_inkOf _ hb
  by_cases h3 : ch.getD (i / 4) 0 / 16 % 2 = 1 ∧ i % 4 = ch.getD (i / 4) 0 / 32 % 4
  · rw [if_pos h3, if_pos h3]; rfl
  · rw [if_neg h3, if_neg h3]
    have hy : ch.getD (i / 4) 0 % 16 / 2 ^ (3 - i % 4) % 2 < 2 := Nat.mod_lt _ (by omega)
    by_cases h4 : ch.getD (i / 4) 0 % 16 / 2 ^ (3 - i % 4) % 2 = 1
    · rw [if_pos h4, c2, h4]
    · rw [if_neg h4, c1, show ch.getD (i / 4) 0 % 16 / 2 ^ (3 - i % 4) % 2 = 0 by omega, Nat.add_zero, Nat.mod_eq_of_lt hb]
theorem dmg_corners (w ch : List Nat) : (seenR (dmgK w ch 64) 8 8 1 100 150).getD 0 0 = 1 ∧ (seenR (dmgK w ch 64) 8 8 1 100 150).getD 7 0 = 0 ∧ (seenR (dmgK w ch 64) 8 8 1 100 150).getD 56 0 = 1 ∧ (seenR (dmgK w ch 64) 8 8 1 100 150).getD 63 0 = 1 := by
  rw [dmg_seen w ch (by omega), dmg_seen w ch (by omega), dmg_seen w ch (by omega), dmg_seen w ch (by omega)]
  exact ⟨rfl, rfl, rfl, rfl⟩
def dmgI (w ch : List Nat) : Img := ⟨((8 * 1 : Nat) : Int), ((8 * 1 : Nat) : Int), dmgK w ch 64⟩
theorem dmgI_sq (w ch : List Nat) : SqCam 1 (dmgI w ch) := sq_of ⟨by omega, by omega⟩ (dmgK_len w ch 64) (dmg_all w ch)
theorem read_damaged {M ch : List Nat} {k n : Nat} (hM : Syms M) (hk : M.length = k) (k1 : 1 ≤ k) (k2 : k ≤ 13) (hf : 2 * wrongK ch 15 + lostK ch 15 ≤ 15 - k) (hn : n < 4) :
    readA (turnN n (dmgI (encR M) ch)) ⟨100, 150⟩ (k : Int) = (⟨M, (4 - n) % 4, wrongK ch 15, lostK ch 15⟩, 0) := by
  obtain ⟨c0, c7, c56, c63⟩ := dmg_corners (encR M) ch
  have hS : 1 ≤ 1 ∧ 1 ≤ 2 := ⟨by omega, by omega⟩
  have hsq := dmgI_sq (encR M) ch
  rw [readA_sq hS (turnN_cam hS hsq n) (c := ⟨100, 150⟩) ⟨by decide, by decide, by decide⟩ k1 k2, read_turned hS hsq 100 150 rfl c0 c7 c56 c63 hn]
  show ansR (candR k ((4 - n) % 4) (seenR (dmgK (encR M) ch 64) 8 8 1 100 150)) = _
  rw [dmg_cand hM hk k1 k2 (turned_not c0 c7 c56 c63).1 (fun i hi => dmg_data (encR M) ch hi) hf]
  rfl
end Go.Proofs.YtlnofbdhamingaaDoor
