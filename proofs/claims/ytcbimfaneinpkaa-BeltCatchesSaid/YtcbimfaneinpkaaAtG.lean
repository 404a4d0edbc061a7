/- Blocks of a list, behind an append to a row. Generic: no program in sight. -/
import Derived.Test.YtcbimfaneinpkaaAtB
import Derived.Test.YtcbimfaneinpkaaAppendAt
set_option linter.unusedVariables false
set_option linter.unusedSimpArgs false
namespace Go.Proofs.Ytcbimfaneinpkaa
open Go.RowKit Go.Sort

theorem At.grown {w w' : World} {row : Option Nat} (hg : w.grownBy w' row) : ∀ {l : List (Nat × Obj)}, At w l → (∀ k ∈ l.map Prod.fst, row ≠ some k) → At w' l
  | [], _, _ => trivial
  | (k, o) :: _, h, hne => ⟨(hg.block k (Array.getElem?_eq_some_iff.1 h.1).1 (fun e => hne k (by simp) e.symm)).trans h.1, At.grown hg h.2 fun k' hk' => hne k' (by simp [hk'])⟩
theorem two_ne {row : Option Nat} {a b : Nat} (h1 : row ≠ some a) (h2 : row ≠ some b) : ∀ k ∈ [a, b], row ≠ some k := by
  intro k hk
  simp only [List.mem_cons, List.not_mem_nil, or_false] at hk
  rcases hk with rfl | rfl
  · exact h1
  · exact h2
/-- a row of the call's own lies apart from what is older -/
theorem owns_ne {w : World} {base e sz n : Nat} {v : Value} {cs : List Value} (h : w.ownsRow base e sz v n cs) {ks : List Nat} (hk : (∀ k ∈ ks, k < base)) : ∀ k ∈ ks, v.ownBlock ≠ some k := by
  intro k h1 h2
  have := (owns_block h k h2).1
  have := hk k h1
  omega
theorem Ext.grownO {w0 w w' wx : World} {base e sz n : Nat} {v : Value} {cs : List Value} (hE : Ext w0 w) (h : wx.ownsRow base e sz v n cs) (hb : w0.heap.size ≤ base) (hg : w.grownBy w' v.ownBlock) : Ext w0 w' :=
  hE.grown hg fun g hg' => Nat.le_trans hb (owns_block h g hg').1
end Go.Proofs.Ytcbimfaneinpkaa
