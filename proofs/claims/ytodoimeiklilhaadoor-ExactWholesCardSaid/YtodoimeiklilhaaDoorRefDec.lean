/- The walk of the reference's decimal. -/
import Derived.Test.YtodoimeiklilhaaDoorGWhole
import Derived.Test.YtodoimeiklilhaaDoorGRef
import Derived.Laws.BytesArg
set_option linter.unusedVariables false
set_option linter.unusedSimpArgs false
namespace Go.Proofs.YtodoimeiklilhaaDoor
open Go.RowKit Go.Sort

def decPre (k : Nat) : List UInt8 := if k < 10 then [] else Lib.decDigits (k / 10)
theorem decPre_step (k : Nat) : Lib.decDigits k = decPre k ++ [UInt8.ofNat (48 + k % 10)] := by
  unfold decPre
  rw [Lib.decDigits]
  split
  · rename_i h; rw [Nat.mod_eq_of_lt h]; rfl
  · rfl
theorem one_byte (w : World) (d : Int) :
    (convert 130 9 (.slice (some ⟨w.heap.size, 0, none⟩) 1 1)).run Tryd.prog (w.alloc (.cells #[.int .u8 d] 5)) = .ok (.string ⟨#[UInt8.ofNat d.toNat]⟩) (w.alloc (.cells #[.int .u8 d] 5)) :=
  run_convert_bytes_arg _ 130 5 (by kernel_rfl) (by kernel_rfl) w.heap.size 0 1 1 [d] rfl (fun i hi => by
    obtain rfl : i = 0 := by omega
    exact cell_of_at (one_first w _) 0 rfl) 9 (by kernel_rfl)
set_option maxRecDepth 100000 in
set_option maxHeartbeats 4000000 in
theorem r_decimal (n : Nat) (hn : n < 18446744073709551616) (w : World) :
    Calls Tryd.prog 94 #[.int .u64 (n : Int)] w fun E w' => E = .returned (.string ⟨(Lib.decDigits n).toArray⟩) ∧ Ext w w' := by
  have hl : (Lib.decDigits n).length ≤ 20 := by rw [Lib.decDigits_length]; exact Lib.nDigits_le20 n hn
  have kc := fun (w : World) (d : Int) => one_byte w d
  go_enter Tryd.func94, Tryd.ntmps94
  go_wp2
  go_loopw [0, 3] (fun x s wr => ∃ (k : Nat) (t : ByteArray), x = .int .u64 (k : Int) ∧ s = .string t ∧ k ≤ n ∧ Ext w wr ∧ Hid (Lib.decDigits n = decPre k ++ t.data.toList)) (fun x _ _ => (intOf x).toNat)
  case atStart =>
    exact ⟨n, _, rfl, rfl, Nat.le_refl _, (by repeat (first | exact Ext.refl _ | assumption | refine Ext.alloc ?_ _ | refine Ext.drewN ?_ _ | refine ext_grow ?_ _ _ | refine Ext.setCell ?_ (by first | exact Nat.le_refl _ | omega | (simp; done) | (simp; omega)) _ | refine Ext.trans ?_ (by assumption))), Lib.hid (by rw [decPre_step n])⟩
  case round =>
    obtain ⟨k, t, rfl, rfl, hk, hE, hd⟩ := hrel
    have ht : t.size ≤ 20 := by
      have h := congrArg List.length hd.out
      rw [List.length_append] at h
      show t.data.size ≤ 20
      rw [← Array.length_toList]
      omega
    by_cases h9 : 9 < k
    · go_wp2
      go_roundw
      case rel => exact ⟨k / 10, _, rfl, rfl, by omega, (by repeat (first | exact Ext.refl _ | assumption | refine Ext.alloc ?_ _ | refine Ext.drewN ?_ _ | refine ext_grow ?_ _ _ | refine Ext.setCell ?_ (by first | exact Nat.le_refl _ | omega | (simp; done) | (simp; omega)) _ | refine Ext.trans ?_ (by assumption))), Lib.hid (by rw [hd.out, show decPre k = Lib.decDigits (k / 10) from if_neg (by omega), decPre_step (k / 10)]; simp [UInt8.ofNat_add])⟩
      case measure => simp [intOf]; omega
    · go_wp2
      go_ret
      exact ⟨(by
        show Ending.returned (.string t) = _
        rw [hd.out, show decPre k = [] from if_pos (by omega)]
        simp), (by repeat (first | exact Ext.refl _ | assumption | refine Ext.alloc ?_ _ | refine Ext.drewN ?_ _ | refine ext_grow ?_ _ _ | refine Ext.setCell ?_ (by first | exact Nat.le_refl _ | omega | (simp; done) | (simp; omega)) _ | refine Ext.trans ?_ (by assumption)))⟩
end Go.Proofs.YtodoimeiklilhaaDoor
