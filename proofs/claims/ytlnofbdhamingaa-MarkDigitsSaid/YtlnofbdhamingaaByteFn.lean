/- Bytes in rows of one's own, and what the type of bytes is. -/
import Derived.Test.YtlnofbdhamingaaProg
import Derived.Test.YtlnofbdhamingaaBytes
import Derived.Test.YtlnofbdhamingaaBlocks
import Derived.Test.YtlnofbdhamingaaAppend
import Derived.Test.YtlnofbdhamingaaCells
import Derived.WalkSpells
import Derived.OwnWalk
import Derived.OneCell
set_option linter.unusedVariables false
set_option linter.unusedSimpArgs false
namespace Go.Proofs.Ytlnofbdhamingaa
open Go.RowKit Go.Sort

theorem info_byte : (Try.prog.info? 5).map (fun i => (i.zero, i.size, i.bytes)) = some (some (.int .u8 0), 1, 1) := by kernel_rfl
theorem info_parts3 {o : Option TypeInfo} {z : Option Value} {s b : Nat} (h : o.map (fun i => (i.zero, i.size, i.bytes)) = some (z, s, b)) : ∃ i, o = some i ∧ i.zero = z ∧ i.size = s ∧ i.bytes = b := by
  cases o with
  | none => cases h
  | some i =>
    simp only [Option.map_some, Option.some.injEq, Prod.mk.injEq] at h
    exact ⟨i, rfl, h.1, h.2.1, h.2.2⟩
theorem bytes_oneCell' (l : List Nat) : ∀ u ∈ bytesL l, u.oneCell' = true := by
  intro u hu
  obtain ⟨_, _, rfl⟩ := List.mem_map.1 hu
  rfl
/-- a slice of bytes of the call's own -/
def OwnBytes (l : List Nat) (w : World) (e : Ending) (w' : World) : Prop := ∃ v', e = .returned v' ∧ w'.ownsRow w.heap.size 5 1 v' l.length (bytesL l) ∧ Ext w w'
/-- a row that is filled as far as k -/
def rowK (l : List Nat) (n k : Nat) : List Value := bytesL (l.take k) ++ List.replicate (n - k) (.int .u8 0)
theorem rowK_zero (l : List Nat) (n : Nat) : rowK l n 0 = List.replicate n (.int .u8 0) := by simp [rowK, bytesL]
theorem made_zero (l : List Nat) (n : Nat) : (madeCells (Value.int .u8 0).cells (n * 1)).toList = rowK l n 0 := by
  rw [Nat.mul_one, rowK_zero]
  exact toList_madeCells_one _ _
theorem rowK_full {l : List Nat} : rowK l l.length l.length = bytesL l := by simp [rowK]
theorem rowK_get {l : List Nat} {n k : Nat} (hk : k < n) (hn : n = l.length) : (rowK l n k)[k]? = some (.int .u8 0) := by
  subst hn
  unfold rowK
  have hlen : (bytesL (l.take k)).length = k := by simp [bytesL]; omega
  rw [List.getElem?_append_right (by omega), hlen, Nat.sub_self, List.getElem?_replicate, if_pos (by omega)]
theorem rowK_set {l : List Nat} {n k : Nat} (hk : k < n) (hn : n = l.length) : (rowK l n k).set k (.int .u8 (l.getD k 0 : Nat)) = rowK l n (k + 1) := by
  subst hn
  unfold rowK
  have e : l.take (k + 1) = l.take k ++ [l.getD k 0] := by
    rw [List.take_add_one, List.getElem?_eq_getElem hk, List.getD_eq_getElem?_getD, List.getElem?_eq_getElem hk]; rfl
  have e2 : l.length - k = (l.length - (k + 1)) + 1 := by omega
  rw [e, e2, List.replicate_succ]
  have hlen : (bytesL (l.take k)).length = k := by simp [bytesL]; omega
  rw [List.set_append_right _ _ (by omega), hlen, Nat.sub_self]
  simp [bytesL]
theorem BytesAt.of_owns {w : World} {base : Nat} {e : TypeId} {v : Value} {l : List Nat} (h : w.ownsRow base e 1 v l.length (bytesL l)) : BytesAt w v l := SlAt.of_owns h
end Go.Proofs.Ytlnofbdhamingaa
