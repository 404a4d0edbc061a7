/- The walk of the function inside layer 1's Root. -/
import Derived.Test.YtodoimeiklilhaaDoorSpanOps
import Derived.Test.YtodoimeiklilhaaDoorOne
import Derived.Test.YtodoimeiklilhaaDoorRootMath
set_option linter.unusedVariables false
set_option linter.unusedSimpArgs false
namespace Go.Proofs.YtodoimeiklilhaaDoor
open Go.RowKit Go.Sort

set_option maxHeartbeats 1000000 in
theorem c_reaches (t q b : Nat) (ht : W64 t) (w : World) (h0 : w.cell? ⟨b, 0, none⟩ = some (.int .u64 (hiW q : Int))) (h1 : w.cell? ⟨b, 1, none⟩ = some (.int .u64 (loW q : Int))) :
    Calls Tryd.prog 71 #[.int .u64 (t : Int), .pointer (some ⟨b, 0, none⟩)] w fun e w' => e = .returned (.bool (decide (t * t ≤ q))) ∧ Ext w w' := by
  have CP := Lib.hid (fun w => c_product t t ht ht w)
  have CL := Lib.hid (fun w => c_less q (t * t) w)
  have z := World.block_lt_of_cell? _ _ h0
  simp only at z
  go_enter Tryd.func71, Tryd.ntmps71
  go_wp2
  refine wp_region_quiet_below (by kernel_rfl) (by kernel_rfl) ?_
  repeat (go_big_quiet_step ((first | (go_at_call 69; with_reducible exact Calls.ext_of (CP.out _)) | (go_at_call 72; with_reducible exact Calls.ext_of (CL.out _)))))
  refine wpQuiet_nil ?_
  intro _ hw'
  obtain ⟨⟨dq, osq⟩, hw''⟩ := hw'
  subst hw''
  go_wp2
  go_ret
  refine ⟨ret_bool ?_, (by repeat (first | exact Ext.refl _ | assumption | refine Ext.alloc ?_ _ | refine Ext.drewN ?_ _ | refine ext_grow ?_ _ _ | refine Ext.setCell ?_ (by first | exact Nat.le_refl _ | omega | (simp; done) | (simp; omega)) _ | refine Ext.trans ?_ (by assumption)))⟩
  rw [Bool.eq_iff_iff]
  simp
end Go.Proofs.YtodoimeiklilhaaDoor
