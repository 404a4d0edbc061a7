/- Images as plain data. No program in sight. -/
import Derived.Test.YtlnofbdhamingaaBase
set_option linter.unusedVariables false
set_option linter.unusedSimpArgs false
namespace Go.Proofs.Ytlnofbdhamingaa
open Go.RowKit Go.Sort

structure Img where
  w : Int
  h : Int
  pix : List Int

def Img.Sized (m : Img) : Prop := (1 ≤ m.w ∧ m.w ≤ 16) ∧ (1 ≤ m.h ∧ m.h ≤ 16) ∧ (m.pix.length : Int) = m.w * m.h
instance (m : Img) : Decidable m.Sized := by unfold Img.Sized; infer_instance
/-- all numbers lie in a range -/
def allIn (lo hi : Int) (l : List Int) : Prop := ∀ n ∈ l, lo ≤ n ∧ n ≤ hi
instance (lo hi : Int) (l : List Int) : Decidable (allIn lo hi l) := by unfold allIn; infer_instance
def Img.Valid (m : Img) : Prop := m.Sized ∧ allIn (-2147483648) 2147483648 m.pix
instance (m : Img) : Decidable m.Valid := by unfold Img.Valid; infer_instance
def Img.Camera (m : Img) : Prop := m.Sized ∧ allIn 0 255 m.pix
instance (m : Img) : Decidable m.Camera := by unfold Img.Camera; infer_instance
theorem Img.camera_iff (m : Img) : m.Camera ↔ m.Valid ∧ allIn 0 255 m.pix := by
  unfold Img.Camera Img.Valid
  constructor
  · rintro ⟨h1, h2⟩
    exact ⟨⟨h1, fun n hn => by have := h2 n hn; omega⟩, h2⟩
  · rintro ⟨⟨h1, _⟩, h2⟩
    exact ⟨h1, h2⟩
theorem Img.len_bd {m : Img} (h : m.Sized) : 1 ≤ m.pix.length ∧ m.pix.length ≤ 256 := by
  obtain ⟨⟨h1, h2⟩, ⟨h3, h4⟩, h5⟩ := h
  have a : 1 * 1 ≤ m.w * m.h := Int.mul_le_mul h1 h3 (by omega) (by omega)
  have b : m.w * m.h ≤ 16 * 16 := Int.mul_le_mul h2 h4 (by omega) (by omega)
  omega
def Img.In (m : Img) (x y : Int) : Prop := (0 ≤ x ∧ x ≤ m.w - 1) ∧ (0 ≤ y ∧ y ≤ m.h - 1)
instance (m : Img) (x y : Int) : Decidable (m.In x y) := by unfold Img.In; infer_instance
def Img.at (m : Img) (x y : Int) : Int := m.pix.getD (y * m.w + x).toNat 0
theorem Img.idx {m : Img} (h : m.Sized) {x y : Int} (hi : m.In x y) : 0 ≤ y * m.w + x ∧ y * m.w + x < m.pix.length ∧ y * m.w ≤ 240 ∧ 0 ≤ y * m.w := by
  obtain ⟨⟨h1, h2⟩, ⟨h3, h4⟩, h5⟩ := h
  obtain ⟨⟨a1, a2⟩, b1, b2⟩ := hi
  have e0 : 0 ≤ y * m.w := Int.mul_nonneg b1 (by omega)
  have e1 : y * m.w ≤ (m.h - 1) * m.w := Int.mul_le_mul_of_nonneg_right b2 (by omega)
  have e2 : (m.h - 1) * m.w = m.w * m.h - m.w := by rw [Int.sub_mul, Int.mul_comm m.h, Int.one_mul]
  have e3 : y * m.w ≤ 15 * 16 := Int.mul_le_mul (by omega) h2 (by omega) (by omega)
  omega
theorem Img.at_bd {m : Img} (h : m.Camera) {x y : Int} (hi : m.In x y) : 0 ≤ m.at x y ∧ m.at x y ≤ 255 := by
  have hx := Img.idx h.1 hi
  refine h.2 _ ?_
  unfold Img.at
  rw [List.getD_eq_getElem?_getD, List.getElem?_eq_getElem (by omega)]
  exact List.getElem_mem _

end Go.Proofs.Ytlnofbdhamingaa
