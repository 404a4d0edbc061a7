/- The closures of 'BeltHit'. -/
import Derived.Test.YtcbimfaneinpkaaAlive
import Derived.Test.YtcbimfaneinpkaaHitLaws
set_option linter.unusedVariables false
set_option linter.unusedSimpArgs false
namespace Go.Proofs.Ytcbimfaneinpkaa
open Go.RowKit Go.Sort

set_option maxHeartbeats 2000000 in
theorem w47 (b i x : Nat) (hi : i < 3) (hx : x < 256) (w : World) (h : w.cell? ⟨b, i, none⟩ = some (.int .u8 (x : Int))) :
    Calls Try.prog 47 #[.int .i64 (i : Int), .pointer (some ⟨b, 0, none⟩)] w fun e w' => e = .returned (.bool (x % 3 != 0)) ∧ Ext w w' := by
  have z := World.block_lt_of_cell? _ _ h
  simp only at z
  have hm : (x : Int).tmod 3 = ((x % 3 : Nat) : Int) := by rw [Int.tmod_eq_emod_of_nonneg (Int.natCast_nonneg x)]; omega
  have h3 : x % 3 < 3 := Nat.mod_lt _ (by omega)
  go_enter Try.func47, Try.ntmps47
  go_wp2_with fail
  go_ret
  exact ⟨ret_bool (by rw [Bool.eq_iff_iff]; simp; omega), Ext.refl _⟩
set_option maxHeartbeats 2000000 in
theorem w48 (b : Nat) (g c : Int) (w : World) (h : w.cell? ⟨b, 0, none⟩ = some (.int .i64 c)) :
    Calls Try.prog 48 #[.int .i64 g, .pointer (some ⟨b, 0, none⟩)] w fun e w' => e = .returned (.bool (decide (g < c))) ∧ Ext w w' := by
  have z := World.block_lt_of_cell? _ _ h
  simp only at z
  go_enter Try.func48, Try.ntmps48
  go_wp2
  go_ret
  exact ⟨rfl, Ext.refl _⟩
end Go.Proofs.Ytcbimfaneinpkaa
