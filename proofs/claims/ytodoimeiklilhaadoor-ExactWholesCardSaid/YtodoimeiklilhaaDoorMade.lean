/- The walks of layer 1's functions that make fractions; the order of fractions. -/
import Derived.Test.YtodoimeiklilhaaDoorPairs
set_option linter.unusedVariables false
set_option linter.unusedSimpArgs false
namespace Go.Proofs.YtodoimeiklilhaaDoor
open Go.RowKit Go.Sort

abbrev fracV (a : Frac) : Value := .agg #[.int .i64 a.num, .int .i64 a.den]
def nm (q : Rat) : Int := q.num
def dn (q : Rat) : Int := q.den
abbrev ratV (q : Rat) : Value := .agg #[.int .i64 (nm q), .int .i64 (dn q)]
abbrev fansV (r : Frac × Int) : Value := .tuple #[.agg #[.int .i64 r.1.num, .int .i64 r.1.den], .int .i64 r.2]
/-- what 'made' answers -/
def madeR (neg : Bool) (n d : Nat) : Frac × Int :=
  if n ≤ maxP ∧ d ≤ maxP then (⟨if neg then -(n : Int) else n, d⟩, 0) else (⟨0, 0⟩, 4)
theorem made_no {neg : Bool} {n d : Nat} (h : ¬ (n ≤ maxP ∧ d ≤ maxP)) : madeR neg n d = (⟨0, 0⟩, 4) := if_neg h
theorem made_yes {neg : Bool} {n d : Nat} (h : n ≤ maxP ∧ d ≤ maxP) : madeR neg n d = (⟨if neg then -(n : Int) else n, d⟩, 0) := if_pos h
theorem lo_small {n : Nat} (h : n ≤ maxP) : loW n = n := by unfold maxP at h; unfold loW; omega
theorem maxP_eq : maxP = 4611686018427387903 := rfl
set_option maxRecDepth 100000 in
set_option maxHeartbeats 1000000 in
theorem c_made (neg : Bool) (n d : Nat) (hn : W128 n) (hd : W128 d) (w : World) :
    Calls Tryd.prog 55 #[.bool neg, pairV n, pairV d] w fun e w' => e = .returned (fansV (madeR neg n d)) ∧ Ext w w' := by
  obtain ⟨r, hr⟩ : ∃ r, madeR neg n d = r := ⟨_, rfl⟩
  rw [hr]
  have HR := Lib.hid hr
  clear hr
  cases neg
  all_goals go_enter Tryd.func55, Tryd.ntmps55
  all_goals go_wp2
  all_goals
    refine bp_ret rfl ?_
    apply Exists.intro
    apply And.intro
    · simp [results, Tryd.results55, go_sem]; rfl
    refine ⟨ret_val ?_, (by repeat (first | exact Ext.refl _ | assumption | refine Ext.alloc ?_ _ | refine Ext.drewN ?_ _ | refine ext_grow ?_ _ _ | refine Ext.setCell ?_ (by first | exact Nat.le_refl _ | omega | (simp; done) | (simp; omega)) _ | refine Ext.trans ?_ (by assumption)))⟩
    rw [← HR.out]
    first
    | (rw [made_no (by clear HR; simp only [hiW, loW, maxP] at *; omega)])
    | (have h9 : n ≤ maxP ∧ d ≤ maxP := (by clear HR; simp only [hiW, loW, maxP] at *; omega); rw [made_yes h9, lo_small h9.1, lo_small h9.2]; simp)
theorem w64_128 {n : Nat} (h : W64 n) : W128 n := by unfold W64 at h; unfold W128; omega
theorem hi_zero {n : Nat} (h : W64 n) : hiW n = 0 := by unfold W64 at h; unfold hiW; omega
theorem lo_self {n : Nat} (h : W64 n) : loW n = n := by unfold W64 at h; unfold loW; omega
theorem c_made_small (neg : Bool) (n d : Nat) (hn : W64 n) (hd : W64 d) (w : World) :
    Calls Tryd.prog 55 #[.bool neg, .agg #[.int .u64 0, .int .u64 (n : Int)], .agg #[.int .u64 0, .int .u64 (d : Int)]] w fun e w' => e = .returned (fansV (madeR neg n d)) ∧ Ext w w' := by
  have h := c_made neg n d (w64_128 hn) (w64_128 hd) w
  simp only [pairV, hi_zero hn, hi_zero hd, lo_self hn, lo_self hd] at h
  exact h
end Go.Proofs.YtodoimeiklilhaaDoor
