/- Small bounds for the walk of layer 1's sum. -/
import Derived.Test.YtodoimeiklilhaaDoorSumMath
import Derived.Test.YtodoimeiklilhaaDoorTimes
import Derived.Test.YtodoimeiklilhaaDoorPairDiv
import Derived.RegionTactic
import Derived.BigRegion
set_option linter.unusedVariables false
set_option linter.unusedSimpArgs false
namespace Go.Proofs.YtodoimeiklilhaaDoor
open Go.RowKit Go.Sort

theorem an_small {q : Rat} (h : Fits q) : an q ≤ 4611686018427387903 := by unfold Fits maxP at h; unfold an; omega
theorem dw_small {q : Rat} (h : Fits q) : dw q ≤ 4611686018427387903 := by unfold Fits maxP at h; unfold dw; omega
theorem heap_drew (w : World) (k : Nat) : w.drew.heap[k]? = w.heap[k]? := rfl
end Go.Proofs.YtodoimeiklilhaaDoor
