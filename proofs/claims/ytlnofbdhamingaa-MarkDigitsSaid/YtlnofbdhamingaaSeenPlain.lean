/- Sums of modules: plain. No program in sight. -/
import Derived.Test.YtlnofbdhamingaaBase
set_option linter.unusedVariables false
set_option linter.unusedSimpArgs false
namespace Go.Proofs.Ytlnofbdhamingaa
open Go.RowKit Go.Sort

def sumN (f : Nat → Int) : Nat → Int
  | 0 => 0
  | k + 1 => sumN f k + f k
theorem sumN_congr {f g : Nat → Int} : ∀ n, (∀ i, i < n → f i = g i) → sumN f n = sumN g n
  | 0, _ => rfl
  | k + 1, h => by rw [sumN, sumN, sumN_congr k (fun i hi => h i (by omega)), h k (by omega)]
theorem sumN_zero {f : Nat → Int} : ∀ n, (∀ i, i < n → f i = 0) → sumN f n = 0
  | 0, _ => rfl
  | k + 1, h => by rw [sumN, sumN_zero k (fun i hi => h i (by omega)), h k (by omega)]; rfl
theorem sumN_add (f : Nat → Int) (a : Nat) : ∀ b, sumN f (a + b) = sumN f a + sumN (fun i => f (a + i)) b
  | 0 => by simp [sumN]
  | b + 1 => by rw [← Nat.add_assoc, sumN, sumN_add f a b, sumN, Int.add_assoc]
/-- only a window counts -/
theorem sumN_window {f : Nat → Int} {a s n : Nat} (hn : a + s ≤ n) (h : ∀ i, i < n → ¬ (a ≤ i ∧ i < a + s) → f i = 0) : sumN f n = sumN (fun i => f (a + i)) s := by
  obtain ⟨r, rfl⟩ : ∃ r, n = a + s + r := ⟨n - (a + s), by omega⟩
  rw [sumN_add f (a + s) r, sumN_add f a s, sumN_zero a (fun i hi => h i (by omega) (by omega)), sumN_zero r (fun i hi => h (a + s + i) (by omega) (by omega))]
  omega
theorem sumN_mul (f : Nat → Int) (w : Nat) : ∀ h, sumN f (h * w) = sumN (fun y => sumN (fun x => f (y * w + x)) w) h
  | 0 => by simp [sumN]
  | h + 1 => by rw [Nat.succ_mul, sumN_add, sumN_mul f w h, sumN]
theorem two_digits {W a b c d : Nat} (hb : b < W) (hd : d < W) (h : a * W + b = c * W + d) : a = c ∧ b = d := by
  have h1 : (a * W + b) / W = a := by rw [Nat.add_comm, Nat.add_mul_div_right _ _ (by omega), Nat.div_eq_of_lt hb, Nat.zero_add]
  have h2 : (c * W + d) / W = c := by rw [Nat.add_comm, Nat.add_mul_div_right _ _ (by omega), Nat.div_eq_of_lt hd, Nat.zero_add]
  rw [h, h2] at h1
  subst h1
  exact ⟨rfl, by omega⟩
/-- the module that a pixel lies in -/
def cellOf (w S i : Nat) : Nat := i / w / S * (w / S) + i % w / S
def psum (pix : List Int) (w S : Nat) (k t : Nat) : Int := sumN (fun i => if cellOf w S i = t then pix.getD i 0 else 0) k
def sumsL (pix : List Int) (w S N k : Nat) : List Int := (List.range N).map (psum pix w S k)
theorem sumsL_length (pix : List Int) (w S N k : Nat) : (sumsL pix w S N k).length = N := by simp [sumsL]
theorem sumsL_get {pix : List Int} {w S N k t : Nat} (h : t < N) : (sumsL pix w S N k).getD t 0 = psum pix w S k t := by
  rw [List.getD_eq_getElem?_getD, sumsL, List.getElem?_map, List.getElem?_range h]; rfl
theorem sumsL_zero (pix : List Int) (w S N : Nat) : sumsL pix w S N 0 = List.replicate N 0 := by
  apply List.ext_getElem?
  intro t
  rw [sumsL, List.getElem?_map]
  rcases Nat.lt_or_ge t N with h | h
  · rw [List.getElem?_range h, List.getElem?_replicate, if_pos h]; rfl
  · rw [List.getElem?_eq_none (by simpa using h), List.getElem?_replicate, if_neg (by omega)]; rfl
theorem sumsL_succ {pix : List Int} {w S N k : Nat} (h : cellOf w S k < N) :
    (sumsL pix w S N k).set (cellOf w S k) (psum pix w S k (cellOf w S k) + pix.getD k 0) = sumsL pix w S N (k + 1) := by
  apply List.ext_getElem?
  intro t
  rw [List.getElem?_set, sumsL_length, if_pos h]
  by_cases e : cellOf w S k = t
  · subst e
    rw [if_pos rfl, sumsL, List.getElem?_map, List.getElem?_range h]
    simp [psum, sumN]
  · rw [if_neg e]
    rcases Nat.lt_or_ge t N with h9 | h9
    · rw [sumsL, sumsL, List.getElem?_map, List.getElem?_map, List.getElem?_range h9]
      simp [psum, sumN, e]
    · rw [List.getElem?_eq_none (by rw [sumsL_length]; exact h9), List.getElem?_eq_none (by rw [sumsL_length]; exact h9)]
theorem cellOf_lt {W H S k : Nat} (hS : 1 ≤ S) (hW : 1 ≤ W) (hk : k < W * S * (H * S)) : cellOf (W * S) S k < W * H := by
  unfold cellOf
  rw [Nat.mul_div_cancel _ hS]
  have hw : 0 < W * S := Nat.mul_pos hW hS
  have h1 : k / (W * S) < H * S := Nat.div_lt_of_lt_mul hk
  have h2 : k / (W * S) / S < H := Nat.div_lt_of_lt_mul (by rw [Nat.mul_comm S H]; exact h1)
  have h3 : k % (W * S) / S < W := Nat.div_lt_of_lt_mul (by rw [Nat.mul_comm S W]; exact Nat.mod_lt _ hw)
  have h4 : (k / (W * S) / S + 1) * W ≤ H * W := Nat.mul_le_mul_right _ h2
  rw [Nat.mul_comm W H]
  rw [Nat.succ_mul] at h4
  omega
def sum2 (f : Nat → Nat → Int) (x0 y0 s : Nat) : Int := sumN (fun j => sumN (fun i => f (x0 + i) (y0 + j)) s) s
/-- a module's sum, pixel by pixel, is its rows' sum -/
theorem psum_full (pix : List Int) {W H S i j : Nat} (hS : 1 ≤ S) (hi : i < W) (hj : j < H) :
    psum pix (W * S) S (H * S * (W * S)) (j * W + i) = sum2 (fun x y => pix.getD (y * (W * S) + x) 0) (i * S) (j * S) S := by
  have hw : 0 < W * S := Nat.mul_pos (by omega) hS
  unfold psum sum2
  rw [sumN_mul]
  have e : ∀ y, y < H * S → ∀ x, x < W * S → (cellOf (W * S) S (y * (W * S) + x) = j * W + i ↔ y / S = j ∧ x / S = i) := by
    intro y hy x hx
    unfold cellOf
    rw [Nat.mul_div_cancel _ hS, Nat.add_comm (y * (W * S)) x, Nat.add_mul_div_right _ _ hw, Nat.div_eq_of_lt hx, Nat.zero_add, Nat.add_mul_mod_self_right, Nat.mod_eq_of_lt hx]
    have h3 : x / S < W := Nat.div_lt_of_lt_mul (by rw [Nat.mul_comm]; exact hx)
    constructor
    · intro h
      exact two_digits h3 hi h
    · rintro ⟨rfl, rfl⟩; rfl
  have dv : ∀ a c : Nat, a / S = c ↔ c * S ≤ a ∧ a < c * S + S := by
    intro a c
    rw [Nat.div_eq_iff hS]
    rw [Nat.mul_comm c S]
    omega
  have by1 : j * S + S ≤ H * S := by rw [← Nat.succ_mul]; exact Nat.mul_le_mul_right _ hj
  have bx1 : i * S + S ≤ W * S := by rw [← Nat.succ_mul]; exact Nat.mul_le_mul_right _ hi
  rw [sumN_window (a := j * S) (s := S) by1 (fun y hy hn => sumN_zero _ (fun x hx => if_neg (fun h => hn ((dv y j).1 ((e y hy x hx).1 h).1))))]
  refine sumN_congr S (fun y hy => ?_)
  rw [sumN_window (a := i * S) (s := S) bx1 (fun x hx hn => if_neg (fun h => hn ((dv x i).1 ((e (j * S + y) (by omega) x hx).1 h).2)))]
  refine sumN_congr S (fun x hx => ?_)
  rw [if_pos ((e (j * S + y) (by omega) (i * S + x) (by omega)).2 ⟨(dv _ _).2 (by omega), (dv _ _).2 (by omega)⟩)]
theorem sumN_bd {f : Nat → Int} {b : Int} : ∀ n, (∀ i, i < n → 0 ≤ f i ∧ f i ≤ b) → 0 ≤ sumN f n ∧ sumN f n ≤ n * b
  | 0, _ => by simp [sumN]
  | k + 1, h => by
    have h1 := sumN_bd k (fun i hi => h i (by omega))
    have h2 := h k (by omega)
    rw [sumN, Int.natCast_succ, Int.add_mul, Int.one_mul]
    omega
/-- a module's reading -/
def colR (lo hi : Int) (S : Nat) (v : Int) : Nat := if v ≤ lo * S * S then 1 else if v < hi * S * S then 2 else 0
def seenR (pix : List Int) (W H S : Nat) (lo hi : Int) : List Nat := (List.range (W * H)).map fun t => colR lo hi S (psum pix (W * S) S (H * S * (W * S)) t)
theorem seenR_length (pix : List Int) (W H S : Nat) (lo hi : Int) : (seenR pix W H S lo hi).length = W * H := by simp [seenR]
theorem seenR_get {pix : List Int} {W H S : Nat} {lo hi : Int} {t : Nat} (h : t < W * H) : (seenR pix W H S lo hi).getD t 0 = colR lo hi S (psum pix (W * S) S (H * S * (W * S)) t) := by
  rw [List.getD_eq_getElem?_getD, seenR, List.getElem?_map, List.getElem?_range h]; rfl
end Go.Proofs.Ytlnofbdhamingaa
