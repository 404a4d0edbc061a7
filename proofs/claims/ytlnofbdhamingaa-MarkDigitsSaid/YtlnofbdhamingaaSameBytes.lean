/- Slices of bytes compared as strings. -/
import Derived.Test.YtlnofbdhamingaaBytes
import Derived.Test.YtlnofbdhamingaaProg
import Derived.Laws.BytesArg
import Derived.KernelRfl
import Derived.WalkSpells
set_option linter.unusedVariables false
set_option linter.unusedSimpArgs false
namespace Go.Proofs.Ytlnofbdhamingaa
open Go.RowKit Go.Sort

def strL (l : List Nat) : ByteArray := strOfNums (l.map fun (n : Nat) => (n : Int))
theorem convert_bytes {w : World} {v : Value} {l : List Nat} (h : BytesAt w v l) : (convert 22 9 v).run Try.prog w = .ok (.string (strL l)) w := by
  rcases h.cases with ⟨rfl, ao, cap, rfl, -, -⟩ | ⟨h0, b, off, cap, rfl, -, -, hc⟩
  · cases ao with
    | none => exact run_convert_bytes_nil w 22 5 (by kernel_rfl) (by kernel_rfl) 0 cap 9 (by kernel_rfl)
    | some a =>
      rw [run_convert_bytes_string w 22 9 5 _ 0 cap (by kernel_rfl) (by kernel_rfl) (by kernel_rfl), run_bytesToString w _ 0 cap [] (by simp [loadCells, loadCellsFrom])]
      rfl
  · refine run_convert_bytes_arg w 22 5 (by kernel_rfl) (by kernel_rfl) b off l.length cap (l.map fun (n : Nat) => (n : Int)) (by simp) (fun i hi => ?_) 9 (by kernel_rfl)
    rw [hc i hi]
    simp [List.getD_eq_getElem?_getD, List.getElem?_eq_getElem hi]
set_option maxHeartbeats 1000000 in
theorem r_SameBytes (v1 v2 : Value) (a b : List Nat) (w : World) (h1 : BytesAt w v1 a) (h2 : BytesAt w v2 b) :
    Calls Try.prog 6 #[v1, v2] w fun e w' => e = .returned (.bool ((strL a).toList == (strL b).toList)) ∧ Ext w w' := by
  have k1 := convert_bytes h1
  have k2 := convert_bytes h2
  obtain ⟨a1, c1, rfl, -⟩ := h1.form
  obtain ⟨a2, c2, rfl, -⟩ := h2.form
  go_enter Try.func6, Try.ntmps6
  go_wp2
  go_ret
  exact ⟨rfl, Ext.refl _⟩
theorem r_SameBytes_eq (v1 v2 : Value) (a : List Nat) (w : World) (h1 : BytesAt w v1 a) (h2 : BytesAt w v2 a) :
    Calls Try.prog 6 #[v1, v2] w fun e w' => e = .returned (.bool true) ∧ Ext w w' := by
  have h := r_SameBytes v1 v2 a a w h1 h2
  rw [show ((strL a).toList == (strL a).toList) = true from beq_self_eq_true _] at h
  exact h
end Go.Proofs.Ytlnofbdhamingaa
