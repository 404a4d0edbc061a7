/- The modules of an image that is turned. No program in sight. -/
import Derived.Test.YtlnofbdhamingaaDoorTurnImg
import Derived.Test.YtlnofbdhamingaaDoorGDraw
import Derived.Test.YtlnofbdhamingaaDoorGMath
import Derived.Test.YtlnofbdhamingaaDoorGSee
set_option linter.unusedVariables false
set_option linter.unusedSimpArgs false
namespace Go.Proofs.YtlnofbdhamingaaDoor
open Go.RowKit Go.Sort

/-- a camera image of 8 times S pixels each way -/
def SqCam (S : Nat) (m : Img) : Prop := m.w = ((8 * S : Nat) : Int) ∧ m.h = ((8 * S : Nat) : Int) ∧ m.Camera
theorem SqCam.len {S : Nat} {m : Img} (h : SqCam S m) : m.pix.length = 8 * S * (8 * S) := by
  obtain ⟨h1, h2, ⟨h3, h4, h5⟩, h6⟩ := h
  rw [h1, h2, ← Int.natCast_mul] at h5
  exact Int.ofNat.inj h5
theorem turn_get {S : Nat} {m : Img} (h : SqCam S m) {x y : Nat} (hx : x < 8 * S) (hy : y < 8 * S) : (turnI m).pix.getD (y * (8 * S) + x) 0 = m.pix.getD ((8 * S - 1 - x) * (8 * S) + y) 0 := by
  obtain ⟨h1, h2, -⟩ := h
  have hn : y * (8 * S) + x < 8 * S * (8 * S) := by
    have : (y + 1) * (8 * S) ≤ 8 * S * (8 * S) := Nat.mul_le_mul_right _ hy
    rw [Nat.succ_mul] at this
    omega
  unfold turnI gridL
  rw [h1, h2]
  simp only [Int.toNat_natCast]
  rw [List.getD_eq_getElem?_getD, List.getElem?_map, List.getElem?_range hn, Option.map_some, Option.getD_some]
  have e1 : (y * (8 * S) + x) % (8 * S) = x := by rw [Nat.mul_comm, Nat.mul_add_mod, Nat.mod_eq_of_lt hx]
  have e2 : (y * (8 * S) + x) / (8 * S) = y := by rw [Nat.mul_comm, Nat.mul_add_div (by omega), Nat.div_eq_of_lt hx, Nat.add_zero]
  rw [e1, e2, Nat.mod_eq_of_lt hy]
  unfold Img.at
  rw [h1]
  congr 1
  have e3 : ((8 * S : Nat) : Int) - 1 - (x : Int) = ((8 * S - 1 - x : Nat) : Int) := by omega
  rw [e3, ← Int.natCast_mul, ← Int.natCast_add]
  rfl
theorem turn_cam {S : Nat} (hS : 1 ≤ S ∧ S ≤ 2) {m : Img} (h : SqCam S m) : SqCam S (turnI m) := by
  have hl := h.len
  have hg := h
  obtain ⟨h1, h2, h3⟩ := h
  have hl2 : (turnI m).pix.length = 8 * S * (8 * S) := by
    unfold turnI gridL
    rw [h1, h2, List.length_map, List.length_range, Int.toNat_natCast]
  refine ⟨h2, h1, ⟨⟨?_, ?_⟩, ⟨?_, ?_⟩, ?_⟩, ?_⟩
  · show 1 ≤ m.h; omega
  · show m.h ≤ 16; omega
  · show 1 ≤ m.w; omega
  · show m.w ≤ 16; omega
  · rw [hl2]
    show _ = m.h * m.w
    rw [h1, h2]
    exact Int.natCast_mul _ _
  · intro z hz
    unfold turnI gridL at hz
    rw [h1, h2] at hz
    simp only [Int.toNat_natCast] at hz
    obtain ⟨k, hk, rfl⟩ := List.mem_map.1 hz
    have hk := List.mem_range.1 hk
    have a1 : k % (8 * S) < 8 * S := Nat.mod_lt _ (by omega)
    have a2 : k / (8 * S) % (8 * S) < 8 * S := Nat.mod_lt _ (by omega)
    exact Img.at_bd h3 ⟨⟨by omega, by rw [h1]; omega⟩, by omega, by omega⟩
/-- the modules of a mark that is turned -/
def turnL (ms : List Nat) : List Nat := (List.range 64).map fun t => ms.getD ((7 - t % 8) * 8 + t / 8) 0
theorem turnL_get {ms : List Nat} {t : Nat} (h : t < 64) : (turnL ms).getD t 0 = ms.getD ((7 - t % 8) * 8 + t / 8) 0 := by
  rw [List.getD_eq_getElem?_getD, turnL, List.getElem?_map, List.getElem?_range h]; rfl
theorem sum2_one (f : Nat → Nat → Int) (x0 y0 : Nat) : sum2 f x0 y0 1 = f x0 y0 := by simp [sum2, sumN]
theorem sum2_two (f : Nat → Nat → Int) (x0 y0 : Nat) : sum2 f x0 y0 2 = f x0 y0 + f (x0 + 1) y0 + (f x0 (y0 + 1) + f (x0 + 1) (y0 + 1)) := by simp [sum2, sumN]
theorem seen_turn {S : Nat} (hS : 1 ≤ S ∧ S ≤ 2) {m : Img} (h : SqCam S m) (lo hi : Int) : seenR (turnI m).pix 8 8 S lo hi = turnL (seenR m.pix 8 8 S lo hi) := by
  unfold seenR turnL
  refine List.map_congr_left fun t ht => ?_
  have ht : t < 64 := List.mem_range.1 ht
  have ht2 : (7 - t % 8) * 8 + t / 8 < 64 := by omega
  rw [List.getD_eq_getElem?_getD, List.getElem?_map, List.getElem?_range ht2, Option.map_some, Option.getD_some]
  congr 1
  have e1 := psum_full (turnI m).pix (W := 8) (H := 8) (S := S) (i := t % 8) (j := t / 8) hS.1 (by omega) (by omega)
  have e2 := psum_full m.pix (W := 8) (H := 8) (S := S) (i := t / 8) (j := 7 - t % 8) hS.1 (by omega) (by omega)
  rw [show t / 8 * 8 + t % 8 = t by omega] at e1
  rw [e1, e2]
  obtain ⟨a, ha⟩ : ∃ a, t % 8 = a := ⟨_, rfl⟩
  obtain ⟨b, hb⟩ : ∃ b, t / 8 = b := ⟨_, rfl⟩
  have ha8 : a < 8 := by omega
  have hb8 : b < 8 := by omega
  rw [ha, hb]
  rcases (show S = 1 ∨ S = 2 by omega) with rfl | rfl
  · rw [sum2_one, sum2_one, turn_get h (by omega) (by omega)]
    congr 1
    omega
  · rw [sum2_two, sum2_two, turn_get h (by omega) (by omega), turn_get h (by omega) (by omega), turn_get h (by omega) (by omega), turn_get h (by omega) (by omega)]
    have p1 : (8 * 2 - 1 - a * 2) * (8 * 2) + b * 2 = ((7 - a) * 2 + 1) * (8 * 2) + b * 2 := by omega
    have p2 : (8 * 2 - 1 - (a * 2 + 1)) * (8 * 2) + b * 2 = (7 - a) * 2 * (8 * 2) + b * 2 := by omega
    have p3 : (8 * 2 - 1 - a * 2) * (8 * 2) + (b * 2 + 1) = ((7 - a) * 2 + 1) * (8 * 2) + (b * 2 + 1) := by omega
    have p4 : (8 * 2 - 1 - (a * 2 + 1)) * (8 * 2) + (b * 2 + 1) = (7 - a) * 2 * (8 * 2) + (b * 2 + 1) := by omega
    rw [p1, p2, p3, p4]
    omega
/-- turned n times -/
def turnN : Nat → Img → Img
  | 0, m => m
  | n + 1, m => turnN n (turnI m)
theorem turnN_succ : ∀ n m, turnN (n + 1) m = turnI (turnN n m)
  | 0, _ => rfl
  | n + 1, m => turnN_succ n (turnI m)
theorem turnN_add : ∀ a b m, turnN a (turnN b m) = turnN (a + b) m
  | a, 0, m => rfl
  | a, b + 1, m => by
    show turnN a (turnN b (turnI m)) = turnN (a + b) (turnI m)
    exact turnN_add a b _
def turnLN : Nat → List Nat → List Nat
  | 0, ms => ms
  | n + 1, ms => turnL (turnLN n ms)
theorem turnN_cam {S : Nat} (hS : 1 ≤ S ∧ S ≤ 2) {m : Img} (h : SqCam S m) : ∀ n, SqCam S (turnN n m)
  | 0 => h
  | n + 1 => by rw [turnN_succ]; exact turn_cam hS (turnN_cam hS h n)
theorem seen_turnN {S : Nat} (hS : 1 ≤ S ∧ S ≤ 2) {m : Img} (h : SqCam S m) (lo hi : Int) : ∀ n, seenR (turnN n m).pix 8 8 S lo hi = turnLN n (seenR m.pix 8 8 S lo hi)
  | 0 => rfl
  | n + 1 => by rw [turnN_succ, seen_turn hS (turnN_cam hS h n), seen_turnN hS h lo hi n]; rfl
theorem turnLN_four {ms : List Nat} (h : ms.length = 64) : turnLN 4 ms = ms := by
  refine List.ext_getElem? fun t => ?_
  rcases Nat.lt_or_ge t 64 with ht | ht
  · have e : (turnLN 4 ms).getD t 0 = ms.getD t 0 := by
      show (turnL (turnL (turnL (turnL ms)))).getD t 0 = _
      rw [turnL_get ht, turnL_get (by omega), turnL_get (by omega), turnL_get (by omega)]
      congr 1
      omega
    have hl : (turnLN 4 ms).length = 64 := by simp [turnLN, turnL]
    rw [List.getElem?_eq_getElem (by omega), List.getElem?_eq_getElem (by omega)]
    rw [List.getD_eq_getElem?_getD, List.getD_eq_getElem?_getD, List.getElem?_eq_getElem (by omega), List.getElem?_eq_getElem (by omega)] at e
    exact congrArg some e
  · rw [List.getElem?_eq_none (by simp [turnLN, turnL]; omega), List.getElem?_eq_none (by omega)]
/-- a mark whose corners are as they should be is upright after none of its turns but the fourth -/
theorem turned_not {ms : List Nat} (h0 : ms.getD 0 0 = 1) (h7 : ms.getD 7 0 = 0) (h56 : ms.getD 56 0 = 1) (h63 : ms.getD 63 0 = 1) : upright ms = true ∧ upright (turnLN 1 ms) = false ∧ upright (turnLN 2 ms) = false ∧ upright (turnLN 3 ms) = false := by
  have T : ∀ (l : List Nat), (turnL l).getD 0 0 = l.getD 56 0 ∧ (turnL l).getD 7 0 = l.getD 0 0 ∧ (turnL l).getD 56 0 = l.getD 63 0 ∧ (turnL l).getD 63 0 = l.getD 7 0 := fun l => ⟨turnL_get (by omega), turnL_get (by omega), turnL_get (by omega), turnL_get (by omega)⟩
  obtain ⟨a1, a2, a3, a4⟩ := T ms
  obtain ⟨b1, b2, b3, b4⟩ := T (turnL ms)
  obtain ⟨c1, c2, c3, c4⟩ := T (turnL (turnL ms))
  refine ⟨?_, ?_, ?_, ?_⟩
  · unfold upright; rw [h0, h7, h56, h63]; rfl
  · show upright (turnL ms) = false
    unfold upright; rw [a1, a2, a3, a4, h0, h7, h56, h63]; rfl
  · show upright (turnL (turnL ms)) = false
    unfold upright; rw [b1, b2, b3, b4, a1, a2, a3, a4, h0, h7, h56, h63]; rfl
  · show upright (turnL (turnL (turnL ms))) = false
    unfold upright; rw [c1, c2, c3, c4, b1, b2, b3, b4, a1, a2, a3, a4, h0, h7, h56, h63]; rfl
/-- what is read of an image -/
noncomputable def readI (m : Img) (S : Nat) (lo hi : Int) (k : Nat) : Option Rd := bestR k (fun t => seenR (turnN t m).pix 8 8 S lo hi) 4
theorem turnLN_add (a b : Nat) (ms : List Nat) : turnLN a (turnLN b ms) = turnLN (a + b) ms := by
  induction a with
  | zero => rw [Nat.zero_add]; rfl
  | succ a ih => rw [Nat.succ_add]; show turnL _ = turnL _; rw [ih]
/-- a mark that is turned is read at the turn that brings it upright -/
theorem read_turned {S : Nat} (hS : 1 ≤ S ∧ S ≤ 2) {m : Img} (h : SqCam S m) (lo hi : Int) {k : Nat} {ms : List Nat} (hms : seenR m.pix 8 8 S lo hi = ms) (h0 : ms.getD 0 0 = 1) (h7 : ms.getD 7 0 = 0) (h56 : ms.getD 56 0 = 1) (h63 : ms.getD 63 0 = 1) {n : Nat} (hn : n < 4) :
    readI (turnN n m) S lo hi k = candR k ((4 - n) % 4) ms := by
  have hl : ms.length = 64 := by rw [← hms, seenR_length]
  obtain ⟨u0, u1, u2, u3⟩ := turned_not h0 h7 h56 h63
  have e : ∀ t, seenR (turnN t (turnN n m)).pix 8 8 S lo hi = turnLN (t + n) ms := fun t => by rw [turnN_add, seen_turnN hS h, hms]
  have p : ∀ a, turnLN (a + 4) ms = turnLN a ms := fun a => by rw [← turnLN_add, turnLN_four hl]
  unfold readI
  have hf : (fun t => seenR (turnN t (turnN n m)).pix 8 8 S lo hi) = fun t => turnLN (t + n) ms := funext e
  rw [hf]
  rw [best_one (t := (4 - n) % 4) (Nat.mod_lt _ (by omega))]
  · rcases (show n = 0 ∨ n = 1 ∨ n = 2 ∨ n = 3 by omega) with rfl | rfl | rfl | rfl
    · rfl
    · show candR k 3 (turnLN 4 ms) = _; rw [turnLN_four hl]
    · show candR k 2 (turnLN 4 ms) = _; rw [turnLN_four hl]
    · show candR k 1 (turnLN 4 ms) = _; rw [turnLN_four hl]
  · intro s hs hne
    show upright (turnLN (s + n) ms) = false
    have hc : (s + n = 1 ∨ s + n = 2 ∨ s + n = 3) ∨ s + n = 1 + 4 ∨ s + n = 2 + 4 ∨ s + n = 3 + 4 := by omega
    rcases hc with (h | h | h) | h | h | h
    · rw [h]; exact u1
    · rw [h]; exact u2
    · rw [h]; exact u3
    · rw [h, p]; exact u1
    · rw [h, p]; exact u2
    · rw [h, p]; exact u3
end Go.Proofs.YtlnofbdhamingaaDoor
