/- The walk of layer 1's sum. -/
import Derived.Test.YtodoimeiklilhaaDoorSumA
import Derived.Test.YtodoimeiklilhaaDoorSumB
import Derived.Test.YtodoimeiklilhaaDoorSumC
set_option linter.unusedVariables false
set_option linter.unusedSimpArgs false
namespace Go.Proofs.YtodoimeiklilhaaDoor
open Go.RowKit Go.Sort
theorem c_sum (p q : Rat) (hp : Fits p) (hq : Fits q) (w : World) :
    Calls Tryd.prog 60 #[ratV p, ratV q] w fun e w' => e = .returned (fansV (answer (p + q))) ∧ Ext w w' := by
  by_cases hsg : (!(decide (nm p < 0) == decide (nm q < 0))) = true
  · by_cases hlt : sumX p q < sumY p q
    · exact c_sum_lt p q hp hq hsg hlt w
    · exact c_sum_ge p q hp hq hsg hlt w
  · exact c_sum_same p q hp hq hsg w
end Go.Proofs.YtodoimeiklilhaaDoor
