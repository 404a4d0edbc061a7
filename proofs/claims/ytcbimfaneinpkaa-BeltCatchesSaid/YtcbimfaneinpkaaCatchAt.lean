/- The world of 'BeltCatches' in memory. -/
import Derived.Test.YtcbimfaneinpkaaCatchRound
set_option linter.unusedVariables false
set_option linter.unusedSimpArgs false
namespace Go.Proofs.Ytcbimfaneinpkaa
open Go.RowKit Go.Sort

/-- a belt that truly moves, in memory -/
def CatchAt (w0 : World) (b : Belt) (vm : Value) (ln : Int) (bw : Nat) (t : Track) (xs : List Thing) (at_ : Nat) (w : World) : Prop :=
  ∃ vt vx, Follows b t xs ∧ w.heap[bw]? = some (.cells #[.int .i64 t.belt.step, .int .i64 t.belt.slip, .int .i64 t.belt.gate, .int .i64 t.belt.length, .int .i64 t.count, .int .i64 t.next, vt, vx, vm, .int .i64 (at_ : Int), .int .i64 ln] 84) ∧ w.ownsRow (bw + 1) 63 4 vt t.parts.length (seens t.parts) ∧ w.ownsRow (bw + 1) 131 5 vx xs.length (thingsL xs) ∧ Apart2 vt vx ∧ Ext w0 w
theorem CatchAt.ext {w0 : World} {b : Belt} {vm : Value} {ln : Int} {bw : Nat} {t : Track} {xs : List Thing} {at_ : Nat} {w w' : World} (h : CatchAt w0 b vm ln bw t xs at_ w) (hE : Ext w w') : CatchAt w0 b vm ln bw t xs at_ w' := by
  obtain ⟨vt, vx, h1, h2, h3, h4, h5, h6⟩ := h
  exact ⟨vt, vx, h1, hE.blk h2, owns_ext h3 hE, owns_ext h4 hE, h5, h6.trans hE⟩
/-- what an act leaves -/
def Acted (w0 : World) (b : Belt) (vm : Value) (ln : Int) (bw : Nat) (t : Track) (at_ : Nat) (e : Ending) (w' : World) : Prop :=
  e = .returned (.bool true) ∧ ∃ t' xs' at', CatchAt w0 b vm ln bw t' xs' at' w' ∧ t'.count ≤ t.count + 20 ∧ at' ≤ at_ + 20
theorem Acted.same {w0 : World} {b : Belt} {vm : Value} {ln : Int} {bw : Nat} {t : Track} {xs : List Thing} {at_ : Nat} {w w' : World} (h : CatchAt w0 b vm ln bw t xs at_ w) (hE : Ext w w') : Acted w0 b vm ln bw t at_ (.returned (.bool true)) w' :=
  ⟨rfl, t, xs, at_, h.ext hE, by omega, by omega⟩
theorem tmod_nat (n m : Nat) : (n : Int).tmod (m : Int) = ((n % m : Nat) : Int) := by
  rw [Int.tmod_eq_emod_of_nonneg (by omega)]; simp
end Go.Proofs.Ytcbimfaneinpkaa
