/- Strings of bytes, put together. -/
import Derived.Test.YtlnofbdhamingaaLineC
import Derived.Test.YtlnofbdhamingaaSameBytes
set_option linter.unusedVariables false
set_option linter.unusedSimpArgs false
namespace Go.Proofs.Ytlnofbdhamingaa
open Go.RowKit Go.Sort

theorem strN_nil : strN [] = ⟨#[]⟩ := rfl
theorem strN_append (a b : List Nat) : strN a ++ strN b = strN (a ++ b) := by
  apply ByteArray.ext
  simp [strN]
theorem strN_size (l : List Nat) : (strN l).size = l.length := by simp [strN, ByteArray.size]
theorem strL_strN (l : List Nat) : strL l = strN l := by
  unfold strL strN strOfNums
  simp
theorem convert_one (w : World) (x : Nat) : (convert 22 9 (.slice (some ⟨w.heap.size, 0, none⟩) 1 1)).run Try.prog (w.alloc (.cells #[.int .u8 (x : Int)] 5)) = .ok (.string (strN [x])) (w.alloc (.cells #[.int .u8 (x : Int)] 5)) := by
  have h : BytesAt (w.alloc (.cells #[.int .u8 (x : Int)] 5)) (.slice (some ⟨w.heap.size, 0, none⟩) 1 1) [x] := BytesAt.of_owns (owns_lit w [.int .u8 (x : Int)] 5 1 1 w.heap.size (Nat.le_refl _) (by unfold maxLen; omega) rfl)
  rw [convert_bytes h, strL_strN]
end Go.Proofs.Ytlnofbdhamingaa
