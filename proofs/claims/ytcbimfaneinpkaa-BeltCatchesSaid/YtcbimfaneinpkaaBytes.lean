/- Slices of bytes, read as lists of numbers. Generic: no program in sight. -/
import Derived.Test.YtcbimfaneinpkaaLists
set_option linter.unusedVariables false
set_option linter.unusedSimpArgs false
namespace Go.Proofs.Ytcbimfaneinpkaa
open Go.RowKit Go.Sort

def bytesL (l : List Nat) : List Value := l.map fun (n : Nat) => Value.int .u8 (n : Int)
theorem bytesL_length (l : List Nat) : (bytesL l).length = l.length := by simp [bytesL]
theorem bytesL_get {l : List Nat} {j : Nat} (h : j < l.length) : (bytesL l)[j]? = some (.int .u8 ((l.getD j 0 : Nat) : Int)) := by
  simp [bytesL, List.getElem?_eq_getElem h, List.getD_eq_getElem?_getD]
def BytesAt (w : World) (v : Value) (l : List Nat) : Prop := SlAt w 1 v l.length (bytesL l)
theorem BytesAt.ext {w w' : World} {v : Value} {l : List Nat} (h : BytesAt w v l) (hb : Ext w w') : BytesAt w' v l := SlAt.ext h hb
theorem BytesAt.cases {w : World} {v : Value} {l : List Nat} (h : BytesAt w v l) :
    (l = [] ∧ ∃ ao cap, v = .slice ao 0 cap ∧ cap ≤ maxLen ∧ (ao = none → cap = 0)) ∨
    (0 < l.length ∧ ∃ b off cap, v = .slice (some ⟨b, off, none⟩) l.length cap ∧ l.length ≤ cap ∧ cap ≤ maxLen ∧ ∀ j, j < l.length → w.cell? ⟨b, off + j, none⟩ = some (.int .u8 ((l.getD j 0 : Nat) : Int))) := by
  rcases SlAt.cases (by omega) h with ⟨h0, _, h1⟩ | ⟨h0, b, off, cap, h1, h2, h3, h4⟩
  · exact .inl ⟨List.eq_nil_of_length_eq_zero h0, h1⟩
  · exact .inr ⟨h0, b, off, cap, h1, h2, h3, fun j hj => h4 j _ (bytesL_get hj)⟩
/-- a slice's form: its length, and its cells where it has any -/
theorem BytesAt.form {w : World} {v : Value} {l : List Nat} (h : BytesAt w v l) :
    ∃ ao cap, v = .slice ao l.length cap ∧ cap ≤ maxLen ∧ ∀ j, j < l.length → ∃ b off, ao = some ⟨b, off, none⟩ ∧ w.cell? ⟨b, off + j, none⟩ = some (.int .u8 ((l.getD j 0 : Nat) : Int)) := by
  obtain ⟨h1, ao, cap, h2, h3, h4, h5, h6⟩ := h
  exact ⟨ao, cap, h2, h4, fun j hj => h6 j _ (bytesL_get hj)⟩
end Go.Proofs.Ytcbimfaneinpkaa
