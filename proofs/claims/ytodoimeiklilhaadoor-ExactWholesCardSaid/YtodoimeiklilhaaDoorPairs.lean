/- The walks of layer 1's functions on numbers of two words. -/
import Derived.Test.YtodoimeiklilhaaDoorGGround
import Derived.Test.YtodoimeiklilhaaDoorShelfBits
import Derived.Shelf.Spec.BitsCarry
set_option linter.unusedVariables false
set_option linter.unusedSimpArgs false
namespace Go.Proofs.YtodoimeiklilhaaDoor
open Go.RowKit Go.Sort

def hiW (n : Nat) : Nat := n / 18446744073709551616
def loW (n : Nat) : Nat := n % 18446744073709551616
/-- a number below 2^128 -/
def W128 (n : Nat) : Prop := n < 340282366920938463463374607431768211456
abbrev pairV (n : Nat) : Value := .agg #[.int .u64 (hiW n : Int), .int .u64 (loW n : Int)]
theorem hiW_64 {n : Nat} (h : W128 n) : W64 (hiW n) := by unfold W64 hiW W128 at *; omega
theorem loW_64 (n : Nat) : W64 (loW n) := by unfold W64 loW; omega
theorem pair_eta (n : Nat) : hiW n * 18446744073709551616 + loW n = n := by unfold hiW loW; omega
theorem w64_mul {a b : Nat} (ha : W64 a) (hb : W64 b) : W128 (a * b) := by
  unfold W64 W128 at *
  have := Nat.mul_lt_mul_of_lt_of_lt ha hb
  omega
def addLo (x y : Nat) : Nat := (x + y) % 18446744073709551616
def addHi (x y : Nat) : Nat := (x + y) / 18446744073709551616
def subLo (x y : Nat) : Nat := (x + 18446744073709551616 - y) % 18446744073709551616
def subHi (x y : Nat) : Nat := if x < y then 1 else 0
theorem add64_run (x y : Nat) (w : World) :
    (callFunc 108 #[.int .u64 (x : Int), .int .u64 (y : Int), .int .u64 0]).run Tryd.prog w = .ok (.value (.tuple #[.int .u64 (addLo x y : Int), .int .u64 (addHi x y : Int)])) w := by
  rw [run_callFunc_extern Tryd.func108 (by kernel_rfl) (by kernel_rfl) (by kernel_rfl) (e := add64Entry) (by kernel_rfl), Go.run_add64 _ _ _ (by omega) (by omega) (by omega) (by omega)]
  simp only [Result.andThen]
  unfold addLo addHi
  congr 5 <;> omega
theorem sub64_run (x y : Nat) (w : World) :
    (callFunc 109 #[.int .u64 (x : Int), .int .u64 (y : Int), .int .u64 0]).run Tryd.prog w = .ok (.value (.tuple #[.int .u64 (subLo x y : Int), .int .u64 (subHi x y : Int)])) w := by
  have h := Go.Proofs.run_sub64 (P := Tryd.prog) x y 0 (by omega) w
  rw [run_callFunc_extern Tryd.func109 (by kernel_rfl) (by kernel_rfl) (by kernel_rfl) (e := sub64Entry) (by kernel_rfl)]
  rw [show ((0 : Int)) = ((0 : Nat) : Int) from rfl, h]
  rfl
theorem add_lo {x y : Nat} : addLo (loW x) (loW y) = loW (x + y) := by unfold addLo loW; omega
theorem add_hi {x y : Nat} (h : W128 (x + y)) : IntKind.u64.wrap (IntKind.u64.wrap ((hiW x : Int) + (hiW y : Int)) + (addHi (loW x) (loW y) : Int)) = (hiW (x + y) : Int) := by
  rw [wrap_u64_eq, wrap_u64_eq]
  unfold W128 at h
  unfold addHi hiW loW
  omega
theorem sub_lo {x y : Nat} (h : y ≤ x) : subLo (loW x) (loW y) = loW (x - y) := by unfold subLo loW; omega
theorem sub_hi {x y : Nat} (h : y ≤ x) (hx : W128 x) : IntKind.u64.wrap (IntKind.u64.wrap ((hiW x : Int) - (hiW y : Int)) - (subHi (loW x) (loW y) : Int)) = (hiW (x - y) : Int) := by
  rw [wrap_u64_eq, wrap_u64_eq]
  unfold W128 at hx
  unfold subHi hiW loW
  split <;> omega
theorem less_hi {x y : Nat} (h : ¬ hiW y ≤ hiW x) : true = decide (x < y) := by
  unfold hiW at h; symm; rw [decide_eq_true_iff]; omega
theorem less_no {x y : Nat} (h : hiW y ≤ hiW x) (g : ¬ (hiW x : Int) = (hiW y : Int)) : false = decide (x < y) := by
  unfold hiW at h g; symm; rw [decide_eq_false_iff_not]; omega
theorem less_no' {x y : Nat} (h : hiW y ≤ hiW x) (g : ¬ (hiW x : Int) = (hiW y : Int)) : decide (hiW x < hiW y) = decide (x < y) := by
  unfold hiW at *; rw [decide_eq_decide]; omega
theorem less_lo {x y : Nat} (g : (hiW x : Int) = (hiW y : Int)) : (decide (hiW x < hiW y) || decide (loW x < loW y)) = decide (x < y) := by
  unfold hiW at *; unfold loW; rw [Bool.eq_iff_iff]; simp only [Bool.or_eq_true, decide_eq_true_iff]; omega
set_option maxHeartbeats 1000000 in
theorem c_product (a b : Nat) (ha : W64 a) (hb : W64 b) (w : World) :
    Calls Tryd.prog 69 #[.int .u64 a, .int .u64 b] w fun e w' => e = .returned (pairV (a * b)) ∧ Ext w w' := by
  have hm : ∀ w, Calls Tryd.prog 92 #[.int .u64 a, .int .u64 b] w fun e w' => e = .returned (.tuple #[.int .u64 (hiW (a * b) : Int), .int .u64 (loW (a * b) : Int)]) ∧ w' = w := fun w => Tryd.bits_Mul64 a b ha hb w
  have HM := Lib.hid hm
  clear hm
  go_enter Tryd.func69, Tryd.ntmps69
  go_wp2_with (go_at_call 92; refine (HM.out _).mono ?_; rintro e w' ⟨rfl, rfl⟩)
  refine bodyPost_ret (v := pairV (a * b)) (by simp [results, Tryd.results69, go_sem]) rfl ⟨rfl, (by repeat (first | exact Ext.refl _ | assumption | refine Ext.alloc ?_ _ | refine Ext.drewN ?_ _ | refine ext_grow ?_ _ _ | refine Ext.setCell ?_ (by first | exact Nat.le_refl _ | omega | (simp; done) | (simp; omega)) _ | refine Ext.trans ?_ (by assumption)))⟩
set_option maxRecDepth 100000 in
set_option maxHeartbeats 1000000 in
theorem c_add (x y : Nat) (h : W128 (x + y)) (w : World) :
    Calls Tryd.prog 90 #[pairV x, pairV y] w fun e w' => e = .returned (pairV (x + y)) ∧ Ext w w' := by
  go_enter Tryd.func90, Tryd.ntmps90
  go_wp2_with (simp only [add64_run])
  refine bodyPost_ret (v := .agg #[.int .u64 (IntKind.u64.wrap (IntKind.u64.wrap ((hiW x : Int) + (hiW y : Int)) + (addHi (loW x) (loW y) : Int))), .int .u64 (addLo (loW x) (loW y) : Int)]) (by simp [results, Tryd.results90, go_sem]) rfl ⟨ret_val ?_, (by repeat (first | exact Ext.refl _ | assumption | refine Ext.alloc ?_ _ | refine Ext.drewN ?_ _ | refine ext_grow ?_ _ _ | refine Ext.setCell ?_ (by first | exact Nat.le_refl _ | omega | (simp; done) | (simp; omega)) _ | refine Ext.trans ?_ (by assumption)))⟩
  rw [add_hi h, add_lo]
set_option maxRecDepth 100000 in
set_option maxHeartbeats 1000000 in
theorem c_sub (x y : Nat) (h : y ≤ x) (hx : W128 x) (w : World) :
    Calls Tryd.prog 91 #[pairV x, pairV y] w fun e w' => e = .returned (pairV (x - y)) ∧ Ext w w' := by
  go_enter Tryd.func91, Tryd.ntmps91
  go_wp2_with (simp only [sub64_run])
  refine bodyPost_ret (v := .agg #[.int .u64 (IntKind.u64.wrap (IntKind.u64.wrap ((hiW x : Int) - (hiW y : Int)) - (subHi (loW x) (loW y) : Int))), .int .u64 (subLo (loW x) (loW y) : Int)]) (by simp [results, Tryd.results91, go_sem]) rfl ⟨ret_val ?_, (by repeat (first | exact Ext.refl _ | assumption | refine Ext.alloc ?_ _ | refine Ext.drewN ?_ _ | refine ext_grow ?_ _ _ | refine Ext.setCell ?_ (by first | exact Nat.le_refl _ | omega | (simp; done) | (simp; omega)) _ | refine Ext.trans ?_ (by assumption)))⟩
  rw [sub_hi h hx, sub_lo h]
set_option maxHeartbeats 1000000 in
theorem c_less (x y : Nat) (w : World) :
    Calls Tryd.prog 72 #[pairV x, pairV y] w fun e w' => e = .returned (.bool (decide (x < y))) ∧ Ext w w' := by
  go_enter Tryd.func72, Tryd.ntmps72
  go_wp2
  all_goals (go_ret; refine ⟨ret_bool ?_, (by repeat (first | exact Ext.refl _ | assumption | refine Ext.alloc ?_ _ | refine Ext.drewN ?_ _ | refine ext_grow ?_ _ _ | refine Ext.setCell ?_ (by first | exact Nat.le_refl _ | omega | (simp; done) | (simp; omega)) _ | refine Ext.trans ?_ (by assumption)))⟩; first | exact less_hi (by assumption) | exact less_no (by assumption) (by assumption) | exact less_lo (by assumption) | exact less_no' (by assumption) (by assumption) )
end Go.Proofs.YtodoimeiklilhaaDoor
