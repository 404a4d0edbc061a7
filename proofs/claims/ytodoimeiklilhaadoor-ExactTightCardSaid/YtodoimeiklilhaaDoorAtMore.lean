/- More on blocks and what lies in them. -/
import Derived.Test.YtodoimeiklilhaaDoorGRef
set_option linter.unusedVariables false
set_option linter.unusedSimpArgs false
namespace Go.Proofs.YtodoimeiklilhaaDoor
theorem At.lt {w : World} {l : List (Nat × Obj)} (h : At w l) (i : Nat) {k : Nat} {o : Obj} (e : l[i]? = some (k, o)) : k < w.heap.size := (Array.getElem?_eq_some_iff.1 (At.at h i e)).1
theorem At.erase {w : World} : ∀ {l : List (Nat × Obj)} (h : At w l) (i : Nat), At w (l.eraseIdx i)
  | [], _, _ => trivial
  | (_, _) :: _, h, 0 => h.2
  | (_, _) :: _, h, i + 1 => ⟨h.1, At.erase h.2 i⟩
end Go.Proofs.YtodoimeiklilhaaDoor
