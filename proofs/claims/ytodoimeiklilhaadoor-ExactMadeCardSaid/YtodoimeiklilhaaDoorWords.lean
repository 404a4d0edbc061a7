/- The walks of layer 1's functions on words: absolute values, greatest common divisors, numbers of two words. -/
import Derived.Test.YtodoimeiklilhaaDoorProg
import Derived.Test.YtodoimeiklilhaaDoorBase
import Derived.Test.YtodoimeiklilhaaDoorFrac
import Derived.Laws.Externs
import Derived.IntWalk
set_option linter.unusedVariables false
set_option linter.unusedSimpArgs false
namespace Go.Proofs.YtodoimeiklilhaaDoor
open Go.RowKit Go.Sort

def InI64 (n : Int) : Prop := -9223372036854775808 ≤ n ∧ n ≤ 9223372036854775807
def W64 (n : Nat) : Prop := n < 18446744073709551616
def half : Nat := 18446744073709551616
theorem wrap_u64_eq (n : Int) : IntKind.u64.wrap n = n % 18446744073709551616 := by
  rfl
theorem wrap_abs_neg (n : Int) (h : InI64 n) (hn : n < 0) : IntKind.u64.wrap (-(IntKind.u64.wrap n)) = (n.natAbs : Int) := by
  unfold InI64 at h
  rw [wrap_u64_eq, wrap_u64_eq]
  omega
theorem wrap_abs_pos (n : Int) (h : InI64 n) (hn : 0 ≤ n) : IntKind.u64.wrap n = (n.natAbs : Int) := by
  unfold InI64 at h
  rw [wrap_u64_eq]
  omega
theorem w64_mod {m n : Nat} (hn : W64 n) (h : n ≠ 0) : W64 (m % n) := Nat.lt_trans (Nat.mod_lt _ (Nat.pos_of_ne_zero h)) hn
theorem gcd_step {m n a b : Nat} (h : Nat.gcd m n = Nat.gcd a b) : Nat.gcd n (m % n) = Nat.gcd a b := by
  rw [← h, Nat.gcd_comm n, ← Nat.gcd_rec n m, Nat.gcd_comm]
theorem w64_in {n : Nat} (hn : W64 n) : IntKind.u64.wrap (n : Int) = n := by
  unfold W64 at hn
  exact IntWalk.u64_in _ (by omega)

set_option maxHeartbeats 1000000 in
theorem c_abs (n : Int) (h : InI64 n) (w : World) :
    Calls Tryd.prog 53 #[.int .i64 n] w fun e w' => e = .returned (.int .u64 (n.natAbs : Int)) ∧ Ext w w' := by
  go_enter Tryd.func53, Tryd.ntmps53
  go_wp2
  all_goals (go_ret; refine ⟨ret_int ?_, Ext.refl _⟩; first | exact wrap_abs_neg n h (by assumption) | exact wrap_abs_pos n h (by assumption))

set_option maxHeartbeats 1000000 in
theorem c_gcd (a b : Nat) (ha : W64 a) (hb : W64 b) (w : World) :
    Calls Tryd.prog 54 #[.int .u64 a, .int .u64 b] w fun e w' => e = .returned (.int .u64 (Nat.gcd a b : Nat)) ∧ Ext w w' := by
  go_enter Tryd.func54, Tryd.ntmps54
  go_wp2
  go_loopw [0, 1] (fun x y wr => Ext w wr ∧ ∃ m n : Nat, x = .int .u64 m ∧ y = .int .u64 n ∧ Hid (Nat.gcd m n = Nat.gcd a b) ∧ Hid (W64 m) ∧ Hid (W64 n)) (fun _ y _ => (intOf y).toNat)
  case atStart => exact ⟨Ext.refl _, a, b, rfl, rfl, rfl, ha, hb⟩
  case round =>
    obtain ⟨hE, m, n, rfl, rfl, hg, hm, hn⟩ := hrel
    by_cases h0 : n = 0
    · subst h0
      go_wp2
      go_ret
      refine ⟨ret_int ?_, hE⟩
      rw [← hg.out, Nat.gcd_zero_right]
    · have h1 : ((n : Int) != 0) = true := by simpa using h0
      have h2 : ((n : Int) == 0) = false := by simpa using h0
      have h3 : 0 < n := by omega
      have H0 := Lib.hid h0
      clear h0
      go_wp2
      go_quiet (fail)
      go_wp2
      go_roundw
      case rel => exact ⟨hE.drewN _, n, m % n, rfl, rfl, gcd_step hg.out, hn, w64_mod hn.out H0.out⟩
      case measure =>
        have := Nat.mod_lt m h3
        simp [intOf]; omega
end Go.Proofs.YtodoimeiklilhaaDoor
