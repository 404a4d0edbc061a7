/- What is decoded of a word that is spoiled, and of any word: plain. No program in sight. -/
import Derived.Test.YtlnofbdhamingaaDoorGDecode
import Derived.Test.YtlnofbdhamingaaDoorGMath
set_option linter.unusedVariables false
set_option linter.unusedSimpArgs false
namespace Go.Proofs.YtlnofbdhamingaaDoor
open Go.RowKit Go.Sort

theorem syms_all {l : List Nat} (h : Syms l) : allSym l = true := by
  unfold allSym
  rw [List.all_eq_true]
  intro x hx
  have := h x hx
  simp only [decide_eq_true_eq]
  omega
theorem message_of {l : List Nat} (h : Syms l) (h1 : 1 ≤ l.length) (h2 : l.length ≤ 13) : isMessage l = true := by
  unfold isMessage
  rw [decide_eq_true h1, decide_eq_true h2, syms_all h]; rfl
theorem message_len {l : List Nat} (h : isMessage l = true) : 1 ≤ l.length ∧ l.length ≤ 13 := by
  unfold isMessage at h
  simp only [Bool.and_eq_true, decide_eq_true_eq] at h
  exact h.1
theorem outK_syms {w ch : List Nat} {n : Nat} (h : Syms w) : Syms (outK w ch n) := fun x hx => by
  unfold outK at hx
  obtain ⟨i, _, rfl⟩ := List.mem_map.1 hx
  split
  · exact xor_lt (syms_get h i) (Nat.mod_lt _ (by omega))
  · exact syms_get h i
/-- Decode of a word that is spoiled a little -/
theorem corrects_law {M ch : List Nat} {k : Nat} (hm : isMessage M = true) (hk : M.length = k) (hf : 2 * wrongK ch 15 + lostK ch 15 ≤ 15 - k) :
    decA (outK (encR M) ch 15) (erK ch 15 15) (k : Int) = ((M, wrongK ch 15), 0) := by
  have hs := (message_syms hm).1
  have hl := message_len hm
  obtain ⟨e1, e2⟩ := spoil_err (M := M) (w := encR M) (ch := ch) rfl
  have hok : DecOk (outK (encR M) ch 15) (erK ch 15 15) (k : Int) := ⟨by rw [outK_len, encR_length], syms_all (outK_syms (encR_lt hs)), erK_len _ _ _, by omega, by omega⟩
  have hfit : FitsW (outK (encR M) ch 15) (erK ch 15 15) k M := ⟨hs, hk, by rw [e1, e2]; exact hf⟩
  have hR := hok.recv
  rw [Int.toNat_natCast] at hR
  rw [decA_def, if_pos hok, Int.toNat_natCast, decR_some hR hfit]
  show ((M, errN M (outK (encR M) ch 15) (erK ch 15 15)), (0 : Int)) = _
  rw [e1]
/-- what the law's 'errors' counts -/
def errL (M w : List Nat) (er : List Bool) : Nat := if isMessage M = true then errK M w er 15 else 100
theorem fits_no {M wd : List Nat} {er : List Bool} {k : Int} (hD : DecOk wd er k) (hn : ¬ (isMessage M = true ∧ (M.length : Int) = k ∧ 2 * errK M wd er 15 + goneK er 15 ≤ 15 - k.toNat)) : ¬ FitsW wd er k.toNat M := fun h => by
  obtain ⟨h1, h2, h3⟩ := h
  have h4 := hD.2.2.1
  have h5 := hD.2.2.2
  rw [errN_eq, goneN, h4] at h3
  exact hn ⟨message_of h1 (by omega) (by omega), by omega, h3⟩
/-- what Decode says of any word -/
theorem decode_law {wd : List Nat} {er : List Bool} {k : Int} (hD : DecOk wd er k) :
    (decA wd er k = (([], 0), 60) ∧ ∀ M, ¬ (isMessage M = true ∧ (M.length : Int) = k ∧ 2 * errK M wd er 15 + goneK er 15 ≤ 15 - k.toNat)) ∨
    ∃ L n, decA wd er k = ((L, n), 0) ∧ isMessage L = true ∧ (L.length : Int) = k ∧ errK L wd er 15 = n ∧ 2 * n + goneK er 15 ≤ 15 - k.toNat ∧
      ∀ M, (isMessage M = true ∧ (M.length : Int) = k ∧ 2 * errK M wd er 15 + goneK er 15 ≤ 15 - k.toNat) → L = M := by
  have h4 := hD.2.2.1
  have h5 := hD.2.2.2
  have hfit : ∀ M, (isMessage M = true ∧ (M.length : Int) = k ∧ 2 * errK M wd er 15 + goneK er 15 ≤ 15 - k.toNat) → FitsW wd er k.toNat M := fun M h => ⟨(message_syms h.1).1, by omega, by rw [errN_eq, goneN, h4]; exact h.2.2⟩
  rw [decA_def, if_pos hD]
  cases hd : decR wd er k.toNat with
  | none => exact .inl ⟨rfl, fun M hM => decR_no hd M (hfit M hM)⟩
  | some L =>
    have hL := decR_fits hd
    have hL2 := hL.2.2
    have hLk := hL.2.1
    rw [errN_eq, goneN, h4] at hL2
    refine .inr ⟨L, errK L wd er 15, by show ((L, errN L wd er), (0 : Int)) = _; rw [errN_eq, h4], message_of hL.1 (by omega) (by omega), by have := hL.2.1; omega, rfl, hL2, fun M hM => ?_⟩
    exact fitsW_unique hD.recv hL (hfit M hM)
theorem decode_bad {wd : List Nat} {er : List Bool} {k : Int} (hD : ¬ DecOk wd er k) : decA wd er k = (([], 0), 2) := by rw [decA_def, if_neg hD]
end Go.Proofs.YtlnofbdhamingaaDoor
