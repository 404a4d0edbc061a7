/- The walk of the reference's number. -/
import Derived.Test.YtodoimeiklilhaaDoorGRef
import Derived.Lib.IndexBytes
set_option linter.unusedVariables false
set_option linter.unusedSimpArgs false
namespace Go.Proofs.YtodoimeiklilhaaDoor
open Go.RowKit Go.Sort

def numF : Nat → List UInt8 → Nat
  | acc, [] => acc
  | acc, c :: l => if c.toNat < 48 ∨ 57 < c.toNat ∨ 461168601842738790 < acc then 0 else numF (10 * acc + (c.toNat - 48)) l
theorem numF_le : ∀ (l : List UInt8) (acc : Nat), acc ≤ 4611686018427387909 → numF acc l ≤ 4611686018427387909
  | [], acc, h => h
  | c :: l, acc, h => by
    unfold numF
    split
    · omega
    · exact numF_le l _ (by omega)
set_option maxRecDepth 100000 in
set_option maxHeartbeats 4000000 in
theorem r_number (s : ByteArray) (hs : s.size ≤ 1000) (w : World) :
    Calls Tryd.prog 78 #[.string s] w fun E w' => E = .returned (.int .i64 (numF 0 s.data.toList : Int)) ∧ Ext w w' := by
  have HL := Lib.hid (show s.data.toList.length = s.size by rw [Array.length_toList]; rfl)
  go_enter Tryd.func78, Tryd.ntmps78
  go_wp2
  go_loopw [3, 4] (fun x i wr => ∃ acc k : Nat, x = .int .i64 (acc : Int) ∧ i = .int .i64 (k : Int) ∧ k ≤ s.size ∧ acc ≤ 4611686018427387909 ∧ Ext w wr ∧ Hid (numF 0 s.data.toList = numF acc (s.data.toList.drop k))) (fun _ i _ => s.size - (intOf i).toNat)
  case atStart => exact ⟨0, 0, rfl, rfl, Nat.zero_le _, by omega, Ext.refl _, rfl⟩
  case round =>
    obtain ⟨acc, k, rfl, rfl, hk, ha, hE, hn⟩ := hrel
    by_cases hkl : k < s.size
    · have hd := Lib.hid (show s.data.toList.drop k = s[k] :: s.data.toList.drop (k + 1) by
        rw [List.drop_eq_getElem_cons (by rw [HL.out]; exact hkl), (List.getElem?_eq_some_iff.1 (Lib.data_getElem? s k hkl)).2])
      have no : s[k].toNat < 48 ∨ 57 < s[k].toNat ∨ 461168601842738790 < acc → ((numF 0 s.data.toList : Nat) : Int) = 0 := fun h => by
        rw [hn.out, hd.out]
        unfold numF
        rw [if_pos h]; rfl
      go_wp2
      case roundEnd =>
        go_roundw
        case rel => exact ⟨10 * acc + (s[k].toNat - 48), k + 1, congrArg (Value.int .i64) (by omega), congrArg (Value.int .i64) (by omega), by omega, by omega, hE, Lib.hid (by
          rw [hn.out, hd.out]
          conv => lhs; unfold numF
          rw [if_neg (by omega)])⟩
        case measure => simp [intOf]; omega
      all_goals go_ret
      all_goals exact ⟨ret_int (by rw [no (by omega)]), hE⟩
    · go_wp2
      go_ret
      have hk2 : k = s.size := by omega
      exact ⟨ret_int (by rw [hn.out, List.drop_eq_nil_of_le (by rw [HL.out]; omega)]; rfl), hE⟩
end Go.Proofs.YtodoimeiklilhaaDoor
