/- Lines of digits: the program's. -/
import Derived.Test.YtlnofbdhamingaaBuilderFn
import Derived.Test.YtlnofbdhamingaaModFn
set_option linter.unusedVariables false
set_option linter.unusedSimpArgs false
namespace Go.Proofs.Ytlnofbdhamingaa
open Go.RowKit Go.Sort

/-- the modules of one digit of a line -/
def ownR (ms : List Nat) (W i : Nat) : List Nat := (List.range 15).map fun k => ms.getD (k / 3 * W + 4 * i + k % 3) 0
theorem ownR_length (ms : List Nat) (W i : Nat) : (ownR ms W i).length = 15 := by simp [ownR]
theorem ownR_get {ms : List Nat} {W i k : Nat} (h : k < 15) : (ownR ms W i).getD k 0 = ms.getD (k / 3 * W + 4 * i + k % 3) 0 := by
  rw [List.getD_eq_getElem?_getD, ownR, List.getElem?_map, List.getElem?_range h]; rfl
def charR (need : Nat) (own : List Nat) : Nat := if need ≤ (nearestR own).2 then 48 + (nearestR own).1 else 63
def textR (ms : List Nat) (W need n : Nat) : List Nat := (List.range n).map fun i => charR need (ownR ms W i)
theorem textR_succ (ms : List Nat) (W need n : Nat) : textR ms W need (n + 1) = textR ms W need n ++ [charR need (ownR ms W n)] := by
  simp [textR, List.range_succ]
theorem textR_length (ms : List Nat) (W need n : Nat) : (textR ms W need n).length = n := by simp [textR]
theorem textR_lt (ms : List Nat) (W need n : Nat) : ∀ x ∈ textR ms W need n, x < 256 := by
  intro x hx
  obtain ⟨i, -, rfl⟩ := List.mem_map.1 hx
  have := (nearest_bd (ownR ms W i)).1
  unfold charR
  split <;> omega
def strN (l : List Nat) : ByteArray := ⟨(l.map UInt8.ofNat).toArray⟩
theorem byteCells_of {l : List Nat} (h : ∀ x ∈ l, x < 256) : bytesL l = Lib.byteCells (l.map UInt8.ofNat) := by
  unfold bytesL Lib.byteCells
  rw [List.map_map]
  refine List.map_congr_left fun x hx => ?_
  have := h x hx
  simp [UInt8.toNat_ofNat']
  omega
def lineI (m : Img) (s : Int) (c : Con) (need : Int) : List Nat × Int :=
  if (modulesI m s c).2 = 0 then (if 0 ≤ need ∧ need ≤ 15 then (if m.h = 5 * s ∧ m.w / s % 4 = 3 then (textR (modulesI m s c).1 (m.w / s).toNat need.toNat (((m.w / s).toNat + 1) / 4), 0) else ([], 21)) else ([], 2)) else ([], (modulesI m s c).2)
theorem lineI_def (m : Img) (s : Int) (c : Con) (need : Int) : lineI m s c need = if (modulesI m s c).2 = 0 then (if 0 ≤ need ∧ need ≤ 15 then (if m.h = 5 * s ∧ m.w / s % 4 = 3 then (textR (modulesI m s c).1 (m.w / s).toNat need.toNat (((m.w / s).toNat + 1) / 4), 0) else ([], 21)) else ([], 2)) else ([], (modulesI m s c).2) := rfl
/-- what no error means -/
theorem modules_ok {m : Img} {s : Int} {c : Con} (h : (modulesI m s c).2 = 0) : ∃ W H S : Nat, (1 ≤ S ∧ S ≤ 2) ∧ s = (S : Int) ∧ m.w = ((W * S : Nat) : Int) ∧ m.h = ((H * S : Nat) : Int) ∧ (1 ≤ W ∧ W ≤ 16) ∧ (1 ≤ H ∧ H ≤ 16) ∧ (modulesI m s c).1.length = W * H ∧ (m.w / s).toNat = W := by
  rw [modulesI_def] at h ⊢
  by_cases h1 : m.Camera
  · rw [if_pos h1] at h ⊢
    by_cases h2 : 1 ≤ s ∧ s ≤ 2 ∧ c.Ok
    · rw [if_pos h2] at h ⊢
      by_cases h3 : m.w % s = 0 ∧ m.h % s = 0
      · rw [if_pos h3] at h ⊢
        obtain ⟨⟨hw, hh, -⟩, -⟩ := h1
        obtain ⟨S, rfl⟩ := Int.eq_ofNat_of_zero_le (show 0 ≤ s by omega)
        obtain ⟨ww, hww⟩ := Int.eq_ofNat_of_zero_le (show 0 ≤ m.w by omega)
        obtain ⟨hn, hhn⟩ := Int.eq_ofNat_of_zero_le (show 0 ≤ m.h by omega)
        rw [hww] at hw h3
        rw [hhn] at hh h3
        have a1 : ww % S = 0 ∧ hn % S = 0 := by
          obtain ⟨a, b⟩ := h3
          rw [← Int.natCast_emod] at a b
          omega
        have ew : ww / S * S = ww := Nat.div_mul_cancel (Nat.dvd_of_mod_eq_zero a1.1)
        have eh : hn / S * S = hn := Nat.div_mul_cancel (Nat.dvd_of_mod_eq_zero a1.2)
        have b1 := Nat.div_le_self ww S
        have b2 := Nat.div_le_self hn S
        have d1 : ((ww : Int) / (S : Int)).toNat = ww / S := by rw [← Int.natCast_ediv]; rfl
        have d2 : ((hn : Int) / (S : Int)).toNat = hn / S := by rw [← Int.natCast_ediv]; rfl
        refine ⟨ww / S, hn / S, S, by omega, rfl, by rw [ew]; exact hww, by rw [eh]; exact hhn, ⟨Nat.pos_of_ne_zero (fun h0 => by rw [h0] at ew; omega), by omega⟩, ⟨Nat.pos_of_ne_zero (fun h0 => by rw [h0] at eh; omega), by omega⟩, ?_, ?_⟩
        · dsimp only
          rw [seenR_length, hww, hhn, d1, d2]
        · rw [hww, d1]
      · rw [if_neg h3] at h; exact absurd h (by decide)
    · rw [if_neg h2] at h; exact absurd h (by decide)
  · rw [if_neg h1] at h; exact absurd h (by decide)
theorem bld_ext {T e : TypeId} {B b : Nat} {bs : List Value} {w w' : World} (h : Lib.IsBuilder T e B b bs w) (hE : Ext w w') : Lib.IsBuilder T e B b bs w' := by
  have key : ∀ p, Lib.BuilderAt T e B b p bs w → Lib.BuilderAt T e B b p bs w' := by
    rintro p ⟨h1, v, h2, h3, h4⟩
    exact ⟨h1, v, (hE.block b (Array.getElem?_eq_some_iff.1 h2).1).trans h2, owns_ext h3 hE, h4⟩
  exact h.imp (key _) (key _)
theorem bld_new (w : World) (T e : TypeId) : Lib.IsBuilder T e w.heap.size w.heap.size [] (w.alloc (.cells #[.pointer none, .slice none 0 0] T)) :=
  .inl ⟨Nat.le_refl _, _, heap_alloc_new w _, ⟨rfl, .inl ⟨rfl, rfl⟩⟩, by simp [Value.ownBlock]⟩
def StrErr (r : List Nat × Int) (w : World) (e : Ending) (w' : World) : Prop := e = .returned (.tuple #[.string (strN r.1), .int .i64 r.2]) ∧ Ext w w'
end Go.Proofs.Ytlnofbdhamingaa
