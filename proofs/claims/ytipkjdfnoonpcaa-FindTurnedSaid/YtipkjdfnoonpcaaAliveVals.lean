/- The values of the chapter's examples, computed. No walk. -/
import Derived.Test.YtipkjdfnoonpcaaPlanB
import Derived.Test.YtipkjdfnoonpcaaFindLaws
set_option linter.unusedVariables false
set_option linter.unusedSimpArgs false
namespace Go.Proofs.Ytipkjdfnoonpcaa
open Go.RowKit Go.Sort

deriving instance DecidableEq for Grasp
deriving instance DecidableEq for Match
def t3 : Tpl := ⟨3, 1, [1, 2, 3]⟩
def t2 : Tpl := ⟨2, 1, [5, 9]⟩
def m4 : Img := ⟨4, 1, [5, 9, 7, 3]⟩
def mh : Img := ⟨4, 1, [2, 9, 9, 1]⟩
def tool1 : Tool := ⟨1, 3, 8⟩
set_option maxRecDepth 100000
theorem v_off0 : offsetR t3 0 2 2 0 = (1, 0, 0) := by decide +kernel
theorem v_off3 : offsetR t3 3 2 2 0 = (0, 1, 0) := by decide +kernel
theorem v_dist : boundR m4 t2 (Pose.area ⟨3, 0, 0, 2⟩) = (257, 0) := by decide +kernel
theorem v_findE : findE m4 t2 0 = 0 := by decide +kernel
theorem v_found : foundM m4 t2 0 = [⟨⟨0, 0, 0, 2⟩, 0⟩] := by decide +kernel
theorem v_plan : planB mh tool1 0 = [⟨1, 0, false, 2, 2⟩] := by decide +kernel
theorem v_ready : readyE mh tool1 0 = 0 := by decide +kernel
theorem v_holds : HoldsB mh tool1 ⟨1, 0, false, 2, 1⟩ 0 = false := by decide +kernel
end Go.Proofs.Ytipkjdfnoonpcaa
