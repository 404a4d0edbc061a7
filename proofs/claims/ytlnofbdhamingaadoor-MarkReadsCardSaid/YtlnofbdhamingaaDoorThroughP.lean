/- The polynomial through some places, step by step. No program in sight. -/
import Derived.Test.YtlnofbdhamingaaDoorLagr
set_option linter.unusedVariables false
set_option linter.unusedSimpArgs false
namespace Go.Proofs.YtlnofbdhamingaaDoor
open Go.RowKit Go.Sort

def nextE (a x : Nat) (p : List Nat) (k t : Nat) : Nat := (if 1 ≤ t ∧ t ≤ k then gmul (p.getD (t - 1) 0) x else 0) ^^^ (if t < k then gmul (gmul (p.getD t 0) a) x else 0)
def nextK (a x : Nat) (p : List Nat) (k : Nat) : List Nat := (List.range (p.length + 1)).map (nextE a x p k)
theorem nextK_len (a x : Nat) (p : List Nat) (k : Nat) : (nextK a x p k).length = p.length + 1 := by simp [nextK]
theorem nextK_get {a x : Nat} {p : List Nat} {k t : Nat} (h : t < p.length + 1) : (nextK a x p k).getD t 0 = nextE a x p k t := by
  rw [List.getD_eq_getElem?_getD, nextK, List.getElem?_map, List.getElem?_range h]; rfl
theorem nextK_zero (a x : Nat) (p : List Nat) : nextK a x p 0 = List.replicate (p.length + 1) 0 := by
  refine List.ext_getElem? fun i => ?_
  unfold nextK
  rcases Nat.lt_or_ge i (p.length + 1) with h | h
  · rw [List.getElem?_map, List.getElem?_range h, List.getElem?_replicate, if_pos h]
    unfold nextE
    rw [Option.map_some, if_neg (by omega), if_neg (by omega)]; rfl
  · rw [List.getElem?_eq_none (by simpa using h), List.getElem?_replicate, if_neg (by omega)]
theorem nextE_at {a x : Nat} {p : List Nat} {k : Nat} : nextE a x p k (k + 1) = 0 := by
  unfold nextE
  rw [if_neg (by omega), if_neg (by omega)]; rfl
theorem nextE_lt {a x : Nat} {p : List Nat} (ha : a < 16) (hx : x < 16) (hp : Syms p) (k t : Nat) : nextE a x p k t < 16 := by
  unfold nextE
  refine xor_lt ?_ ?_
  · split
    · exact gmul_lt (syms_get hp _) hx
    · omega
  · split
    · exact gmul_lt (gmul_lt (syms_get hp _) ha) hx
    · omega
/-- both stores of one round -/
theorem nextK_set {a x : Nat} {p : List Nat} {k : Nat} (h : k < p.length) :
    ((nextK a x p k).set (k + 1) ((nextK a x p k).getD (k + 1) 0 ^^^ gmul (p.getD k 0) x)).set k ((nextK a x p k).getD k 0 ^^^ gmul (gmul (p.getD k 0) a) x) = nextK a x p (k + 1) := by
  refine List.ext_getElem? fun i => ?_
  rcases Nat.lt_or_ge i (p.length + 1) with hi | hi
  · have hr : (nextK a x p (k + 1))[i]? = some (nextE a x p (k + 1) i) := by unfold nextK; rw [List.getElem?_map, List.getElem?_range hi]; rfl
    rw [hr]
    by_cases e : k = i
    · subst e
      rw [List.getElem?_set_self (by rw [List.length_set, nextK_len]; exact hi), nextK_get hi]
      unfold nextE
      congr 1
      rw [if_neg (Nat.lt_irrefl k), Nat.xor_zero, if_pos (Nat.lt_succ_self k)]
      by_cases h1 : 1 ≤ k
      · rw [if_pos ⟨h1, Nat.le_refl k⟩, if_pos ⟨h1, Nat.le_succ k⟩]
      · rw [if_neg (by omega), if_neg (by omega)]
    · rw [List.getElem?_set_ne e]
      by_cases e2 : k + 1 = i
      · subst e2
        rw [List.getElem?_set_self (by rw [nextK_len]; exact hi), nextK_get hi, nextE_at]
        unfold nextE
        congr 1
        rw [if_pos ⟨by omega, Nat.le_refl _⟩, if_neg (by omega), Nat.zero_xor, Nat.xor_zero, Nat.add_sub_cancel]
      · rw [List.getElem?_set_ne e2]
        unfold nextK
        rw [List.getElem?_map, List.getElem?_range hi, Option.map_some]
        congr 1
        unfold nextE
        congr 1
        · by_cases h1 : 1 ≤ i ∧ i ≤ k
          · rw [if_pos h1, if_pos (by omega)]
          · rw [if_neg h1, if_neg (by omega)]
        · by_cases h1 : i < k
          · rw [if_pos h1, if_pos (by omega)]
          · rw [if_neg h1, if_neg (by omega)]
  · rw [List.getElem?_eq_none (by rw [List.length_set, List.length_set, nextK_len]; exact hi), List.getElem?_eq_none (by rw [nextK_len]; exact hi)]
theorem nextK_full (a x : Nat) (p : List Nat) : nextK a x p p.length = stepL a x p := by
  have hl : (stepL a x p).length = p.length + 1 := stepL_len a x p
  refine List.ext_getElem? fun i => ?_
  rcases Nat.lt_or_ge i (p.length + 1) with hi | hi
  · have e1 : (nextK a x p p.length)[i]? = some ((nextK a x p p.length).getD i 0) := by rw [List.getD_eq_getElem?_getD, List.getElem?_eq_getElem (by rw [nextK_len]; exact hi)]; rfl
    have e2 : (stepL a x p)[i]? = some ((stepL a x p).getD i 0) := by rw [List.getD_eq_getElem?_getD, List.getElem?_eq_getElem (by rw [hl]; exact hi)]; rfl
    rw [e1, e2, nextK_get hi]
    congr 1
    unfold stepL nextE
    rw [padd_get]
    congr 1
    · match i with
      | 0 => rfl
      | i + 1 =>
        rw [if_pos ⟨by omega, by omega⟩, Nat.add_sub_cancel, List.getD_cons_succ, List.getD_eq_getElem?_getD, List.getD_eq_getElem?_getD, List.getElem?_map, List.getElem?_eq_getElem (show i < p.length by omega)]; rfl
    · rcases Nat.lt_or_ge i p.length with h | h
      · rw [if_pos h, List.getD_eq_getElem?_getD, List.getD_eq_getElem?_getD, List.getElem?_map, List.getElem?_eq_getElem h]; rfl
      · rw [if_neg (by omega), List.getD_eq_getElem?_getD, List.getElem?_eq_none (by simpa using h)]; rfl
  · rw [List.getElem?_eq_none (by rw [nextK_len]; exact hi), List.getElem?_eq_none (by rw [hl]; exact hi)]
/-- the first n values added -/
def xorK (o p : List Nat) (n : Nat) : List Nat := (List.range o.length).map fun t => if t < n then o.getD t 0 ^^^ p.getD t 0 else o.getD t 0
theorem xorK_len (o p : List Nat) (n : Nat) : (xorK o p n).length = o.length := by simp [xorK]
theorem xorK_get {o p : List Nat} {n t : Nat} (h : t < o.length) : (xorK o p n).getD t 0 = if t < n then o.getD t 0 ^^^ p.getD t 0 else o.getD t 0 := by
  rw [List.getD_eq_getElem?_getD, xorK, List.getElem?_map, List.getElem?_range h]; rfl
theorem xorK_zero (o p : List Nat) : xorK o p 0 = o := by
  refine List.ext_getElem? fun i => ?_
  unfold xorK
  rcases Nat.lt_or_ge i o.length with h | h
  · rw [List.getElem?_map, List.getElem?_range h, Option.map_some, if_neg (Nat.not_lt_zero _), List.getD_eq_getElem?_getD, List.getElem?_eq_getElem h]; rfl
  · rw [List.getElem?_eq_none (by simpa using h), List.getElem?_eq_none h]
theorem xorK_set {o p : List Nat} {n : Nat} (h : n < o.length) : (xorK o p n).set n (o.getD n 0 ^^^ p.getD n 0) = xorK o p (n + 1) := by
  refine List.ext_getElem? fun i => ?_
  rcases Nat.lt_or_ge i o.length with hi | hi
  · by_cases e : n = i
    · subst e
      rw [List.getElem?_set_self (by rw [xorK_len]; exact hi)]
      unfold xorK
      rw [List.getElem?_map, List.getElem?_range hi, Option.map_some, if_pos (Nat.lt_succ_self n)]
    · rw [List.getElem?_set_ne e]
      unfold xorK
      rw [List.getElem?_map, List.getElem?_map, List.getElem?_range hi, Option.map_some, Option.map_some]
      congr 1
      by_cases h2 : i < n
      · rw [if_pos h2, if_pos (by omega)]
      · rw [if_neg h2, if_neg (by omega)]
  · rw [List.getElem?_eq_none (by rw [List.length_set, xorK_len]; exact hi), List.getElem?_eq_none (by rw [xorK_len]; exact hi)]
theorem xorK_full {o p : List Nat} (h : p.length = o.length) : xorK o p o.length = padd o p := by
  have hl : (padd o p).length = o.length := by rw [padd_len, h]; omega
  refine List.ext_getElem? fun i => ?_
  rcases Nat.lt_or_ge i o.length with hi | hi
  · have e1 : (xorK o p o.length)[i]? = some ((xorK o p o.length).getD i 0) := by rw [List.getD_eq_getElem?_getD, List.getElem?_eq_getElem (by rw [xorK_len]; exact hi)]; rfl
    have e2 : (padd o p)[i]? = some ((padd o p).getD i 0) := by rw [List.getD_eq_getElem?_getD, List.getElem?_eq_getElem (by rw [hl]; exact hi)]; rfl
    rw [e1, e2, xorK_get hi, if_pos hi, padd_get]
  · rw [List.getElem?_eq_none (by rw [xorK_len]; exact hi), List.getElem?_eq_none (by rw [hl]; exact hi)]
end Go.Proofs.YtlnofbdhamingaaDoor
