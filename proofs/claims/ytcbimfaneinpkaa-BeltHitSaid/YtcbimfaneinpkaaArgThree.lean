/- What comes in: three bytes in an array. -/
import Derived.Test.YtcbimfaneinpkaaOpen
import Derived.Laws.IdiomArrays
import Derived.OpenShut
set_option linter.unusedVariables false
set_option linter.unusedSimpArgs false
namespace Go.Proofs.Ytcbimfaneinpkaa
open Go.RowKit Go.Sort Go.ChangeShapes Go.WideShapes Go.ChangeAt

set_option maxRecDepth 100000 in
theorem read_three {H : Type} {enc : TypeId × Value → H} {W : World} {base : Nat} {v : Value} {d : DataW H} {p : List MemPlace}
    (hv : Value.okWide Try.prog W .any base 89 v) (h : DataW.Trod enc Try.prog W 0 (fun _ => true) true 89 v d p) :
    ∃ x0 x1 x2 : Nat, v = .agg #[.int .u8 (x0 : Int), .int .u8 (x1 : Int), .int .u8 (x2 : Int)] ∧ x0 < 256 ∧ x1 < 256 ∧ x2 < 256 := by
  have hu := Try.underlying89
  simp only [Value.okWide, hu] at hv
  obtain ⟨cs, rfl, h2, -⟩ := hv
  have hsz : cs.size = 3 := h2.trans (by kernel_rfl)
  obtain ⟨l⟩ := cs
  match l, hsz with
  | [c0, c1, c2], _ =>
    obtain ⟨fuel, hf⟩ := h
    obtain ⟨y0, y1, y2, n, -, t0, t1, t2⟩ := trod_array3 (c0 := c0) (c1 := c1) (c2 := c2) Try.underlying89 (by kernel_rfl) hf
    obtain ⟨a0, e0, -, w0⟩ := DataW.trod_int Try.underlying5 t0
    obtain ⟨a1, e1, -, w1⟩ := DataW.trod_int Try.underlying5 t1
    obtain ⟨a2, e2, -, w2⟩ := DataW.trod_int Try.underlying5 t2
    simp only [List.cons.injEq, and_true] at e0 e1 e2
    subst e0 e1 e2
    obtain ⟨n0, rfl⟩ := Int.eq_ofNat_of_zero_le (bounds_u8 w0).1
    obtain ⟨n1, rfl⟩ := Int.eq_ofNat_of_zero_le (bounds_u8 w1).1
    obtain ⟨n2, rfl⟩ := Int.eq_ofNat_of_zero_le (bounds_u8 w2).1
    exact ⟨n0, n1, n2, rfl, by have := (bounds_u8 w0).2; omega, by have := (bounds_u8 w1).2; omega, by have := (bounds_u8 w2).2; omega⟩
end Go.Proofs.Ytcbimfaneinpkaa
