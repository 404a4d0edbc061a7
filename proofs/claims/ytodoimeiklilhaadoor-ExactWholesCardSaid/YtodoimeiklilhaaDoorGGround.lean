/- Joined from the parts Frac, Div64, RootMath, Base, Words. -/
import Derived.WalkKit
import Derived.BigQuiet
import Derived.Lib.QuietBelow
import Derived.Lib.Hide
import Derived.Deep.QuietTactic
import Derived.Test.YtodoimeiklilhaaDoorProg
import Derived.Laws.Externs
import Derived.IntWalk
set_option linter.unusedVariables false
set_option linter.unusedSimpArgs false
/- Fractions: the plain data. A valid fraction is a rational number whose parts are not great. No program in sight. -/
namespace Go.Proofs.YtodoimeiklilhaaDoor

def maxP : Nat := 4611686018427387903
structure Frac where
  num : Int
  den : Int
  deriving DecidableEq
def Frac.ok (a : Frac) : Prop := 1 ≤ a.den ∧ a.den ≤ maxP ∧ -maxP ≤ a.num ∧ a.num ≤ maxP ∧ Nat.gcd a.num.natAbs a.den.natAbs = 1
instance (a : Frac) : Decidable a.ok := by unfold Frac.ok; infer_instance
/-- a number that fits -/
def Fits (q : Rat) : Prop := q.den ≤ maxP ∧ -maxP ≤ q.num ∧ q.num ≤ maxP
instance (q : Rat) : Decidable (Fits q) := by unfold Fits; infer_instance
def fracOf (q : Rat) : Frac := ⟨q.num, q.den⟩
def Frac.val (a : Frac) : Rat := mkRat a.num a.den.toNat
theorem fracOf_ok {q : Rat} (h : Fits q) : (fracOf q).ok := by
  have := q.den_pos
  exact ⟨by show 1 ≤ (q.den : Int); omega, by have := h.1; show (q.den : Int) ≤ _; omega, h.2.1, h.2.2, by show Nat.gcd q.num.natAbs (q.den : Int).natAbs = 1; rw [Int.natAbs_natCast]; exact q.reduced⟩
theorem fracOf_val (q : Rat) : (fracOf q).val = q := by
  show mkRat q.num (q.den : Int).toNat = q
  rw [Int.toNat_natCast, Rat.mkRat_self]
theorem Frac.of_ok {a : Frac} (h : a.ok) : ∃ q : Rat, Fits q ∧ a = fracOf q := by
  obtain ⟨n, d⟩ := a
  obtain ⟨h1, h2, h3, h4, h5⟩ := h
  simp only at h1 h2 h3 h4 h5
  obtain ⟨m, rfl⟩ := Int.eq_ofNat_of_zero_le (show 0 ≤ d by omega)
  rw [Int.natAbs_natCast] at h5
  exact ⟨⟨n, m, by omega, h5⟩, ⟨by show m ≤ _; omega, h3, h4⟩, rfl⟩
theorem fracOf_inj {p q : Rat} (h : fracOf p = fracOf q) : p = q := by
  rw [← fracOf_val p, ← fracOf_val q, h]
/-- what an operation answers: the number, or 4 -/
def answer (q : Rat) : Frac × Int := if Fits q then (fracOf q, 0) else (⟨0, 0⟩, 4)
/-- -1, 0, 1 -/
def cmp (p q : Rat) : Int := if p < q then -1 else if p = q then 0 else 1
def two (a b : Frac) (f : Rat → Rat → Frac × Int) : Frac × Int := if a.ok ∧ b.ok then f a.val b.val else (⟨0, 0⟩, 8)
end Go.Proofs.YtodoimeiklilhaaDoor

/- Long division of two words by one: the plain arithmetic. No program in sight. -/
namespace Go.Proofs.YtodoimeiklilhaaDoor

/-- the true digit of (u, d) by y is at most the guess -/
theorem dig_guess {B y1 y0 u d : Nat} (h1 : 0 < y1) (hB : 0 < B) (hd : d < B) : (u * B + d) / (y1 * B + y0) ≤ u / y1 := by
  rw [Nat.le_div_iff_mul_le h1]
  have h := Nat.div_mul_le_self (u * B + d) (y1 * B + y0)
  generalize (u * B + d) / (y1 * B + y0) = Q at h ⊢
  have h2 : Q * y1 * B ≤ u * B + d := by
    have : Q * (y1 * B + y0) = Q * y1 * B + Q * y0 := by grind
    omega
  have h3 : Q * y1 * B < (u + 1) * B := by rw [Nat.add_mul]; omega
  have := Nat.lt_of_mul_lt_mul_right h3
  omega
/-- the true digit is a digit -/
theorem dig_lt {B y u d : Nat} (hu : u < y) (hd : d < B) : (u * B + d) / y < B := by
  rw [Nat.div_lt_iff_lt_mul (by omega)]
  have : (u + 1) * B ≤ y * B := Nat.mul_le_mul_right B hu
  rw [Nat.add_mul] at this
  rw [Nat.mul_comm B y]
  omega
/-- a guess that passes the test is the digit, and so is one whose rest has grown past B -/
theorem dig_done {B y1 y0 u d q r : Nat} (hq : q * y1 + r = u) (hQ : (u * B + d) / (y1 * B + y0) ≤ q) (hy : 0 < y1 * B + y0) (h : q * y0 ≤ B * r + d) : q = (u * B + d) / (y1 * B + y0) := by
  refine Nat.le_antisymm ?_ hQ
  rw [Nat.le_div_iff_mul_le hy]
  have e : q * (y1 * B + y0) = q * y1 * B + q * y0 := by grind
  have e2 : (q * y1 + r) * B = q * y1 * B + B * r := by grind
  rw [← hq, e, e2]
  omega
/-- a guess that does not pass is too great -/
theorem dig_more {B y1 y0 u d q r : Nat} (hq : q * y1 + r = u) (hy : 0 < y1 * B + y0) (h : B * r + d < q * y0) : (u * B + d) / (y1 * B + y0) < q := by
  rw [Nat.div_lt_iff_lt_mul hy]
  have e : q * (y1 * B + y0) = q * y1 * B + q * y0 := by grind
  have e2 : (q * y1 + r) * B = q * y1 * B + B * r := by grind
  rw [← hq, e, e2]
  omega
theorem dig_break {B y0 d q r : Nat} (hq : q ≤ B) (h0 : y0 < B) (hr : B ≤ r) : q * y0 ≤ B * r + d := by
  have a : q * y0 ≤ B * y0 := Nat.mul_le_mul_right _ hq
  have b : B * y0 ≤ B * r := Nat.mul_le_mul_left _ (by omega)
  omega
theorem dig_bound {B y1 y0 u : Nat} (hB : B ≤ 2 * y1) (h0 : y0 < B) (hp : 0 < B) (hu : u < y1 * B + y0) : u / y1 ≤ B + 1 := by
  have h1 : 0 < y1 := by omega
  have : u / y1 < B + 2 := by
    rw [Nat.div_lt_iff_lt_mul h1]
    have : (B + 2) * y1 = y1 * B + 2 * y1 := by grind
    omega
  omega
theorem split_high {hi lo s : Nat} (hs : s ≤ 64) : (hi * 18446744073709551616 + lo) * 2 ^ s = (hi * 2 ^ s + lo / 2 ^ (64 - s)) * 18446744073709551616 + lo * 2 ^ s % 18446744073709551616 := by
  have e : (18446744073709551616 : Nat) = 2 ^ (64 - s) * 2 ^ s := by rw [← Nat.pow_add, Nat.sub_add_cancel hs]
  have h1 : lo * 2 ^ s % 18446744073709551616 = lo % 2 ^ (64 - s) * 2 ^ s := by rw [e]; exact Nat.mul_mod_mul_right _ _ _
  rw [h1]
  have h2 := Nat.div_add_mod lo (2 ^ (64 - s))
  generalize lo / 2 ^ (64 - s) = a at *
  generalize lo % 2 ^ (64 - s) = b at *
  rw [← h2]
  generalize 2 ^ (64 - s) = c at *
  generalize 2 ^ s = d at *
  rw [e]
  grind
theorem long_div {X y S Y u L d1 d0 Q1 v Q2 R : Nat} (hy : 0 < y) (hS : 0 < S) (hY : Y = y * S) (hX : X * S = u * 18446744073709551616 + L) (hL : L = d1 * 4294967296 + d0)
    (h1 : Q1 = (u * 4294967296 + d1) / Y) (h2 : v = (u * 4294967296 + d1) % Y) (h3 : Q2 = (v * 4294967296 + d0) / Y) (h4 : R = (v * 4294967296 + d0) % Y) :
    X / y = Q1 * 4294967296 + Q2 ∧ X % y = R / S := by
  have hYp : 0 < Y := by rw [hY]; exact Nat.mul_pos hy hS
  have e1 : X * S = Y * (Q1 * 4294967296 + Q2) + R := by
    have a1 := Nat.div_add_mod (u * 4294967296 + d1) Y
    have a2 := Nat.div_add_mod (v * 4294967296 + d0) Y
    rw [← h1, ← h2] at a1
    rw [← h3, ← h4] at a2
    rw [hX, hL]
    grind
  have hR : R < Y := by rw [h4]; exact Nat.mod_lt _ hYp
  have d : X * S / Y = Q1 * 4294967296 + Q2 := by
    rw [e1, Nat.mul_add_div hYp, Nat.div_eq_of_lt hR]; omega
  have m : X * S % Y = R := by
    rw [e1, Nat.mul_add_mod, Nat.mod_eq_of_lt hR]
  rw [hY, Nat.mul_div_mul_right _ _ hS] at d
  rw [hY, Nat.mul_mod_mul_right] at m
  exact ⟨d, by rw [← m, Nat.mul_div_cancel _ hS]⟩
theorem mod_wrap {N Q Y v : Nat} (hQ : Q = N / Y) (hv : v = N % Y) (hY : v < 18446744073709551616) (a b : Int) (ha : (a - b) % 18446744073709551616 = ((N : Int) - ((Q * Y : Nat) : Int)) % 18446744073709551616) :
    (a - b) % 18446744073709551616 = (v : Int) := by
  have := Nat.div_add_mod N Y
  rw [← hQ, ← hv, Nat.mul_comm] at this
  rw [ha]
  omega
end Go.Proofs.YtodoimeiklilhaaDoor

/- Whole square roots, bit by bit: the plain law. No program in sight. -/
namespace Go.Proofs.YtodoimeiklilhaaDoor

theorem isq_exists (q : Nat) : ∃ s : Nat, s * s ≤ q ∧ q < (s + 1) * (s + 1) := by
  induction q with
  | zero => exact ⟨0, by omega, by omega⟩
  | succ q ih =>
    obtain ⟨s, h1, h2⟩ := ih
    rcases Nat.lt_or_ge (q + 1) ((s + 1) * (s + 1)) with h | h
    · exact ⟨s, by omega, h⟩
    · refine ⟨s + 1, h, ?_⟩
      have : (s + 1 + 1) * (s + 1 + 1) = (s + 1) * (s + 1) + 2 * s + 3 := by grind
      omega
/-- the whole part of the square root -/
noncomputable def isq (q : Nat) : Nat := Classical.choose (isq_exists q)
theorem isq_spec (q : Nat) : isq q * isq q ≤ q ∧ q < (isq q + 1) * (isq q + 1) := Classical.choose_spec (isq_exists q)
theorem isq_eq {q s : Nat} (h1 : s * s ≤ q) (h2 : q < (s + 1) * (s + 1)) : s = isq q := by
  obtain ⟨g1, g2⟩ := isq_spec q
  rcases Nat.lt_trichotomy s (isq q) with h | h | h
  · have := Nat.mul_le_mul (show s + 1 ≤ isq q from h) (show s + 1 ≤ isq q from h); omega
  · exact h
  · have := Nat.mul_le_mul (show isq q + 1 ≤ s from h) (show isq q + 1 ≤ s from h); omega
/-- n bits are still to be found -/
def RootAt (q n s : Nat) : Prop := 2 ^ n ∣ s ∧ s * s ≤ q ∧ q < (s + 2 ^ n) * (s + 2 ^ n)
theorem or_bit {n s : Nat} (h : 2 ^ (n + 1) ∣ s) : s ||| 2 ^ n = s + 2 ^ n := by
  obtain ⟨k, rfl⟩ := h
  rw [← Nat.two_pow_add_eq_or_of_lt (Nat.pow_lt_pow_right (by omega) (by omega))]
theorem root_yes {q n s : Nat} (h : RootAt q (n + 1) s) (ht : (s + 2 ^ n) * (s + 2 ^ n) ≤ q) : RootAt q n (s + 2 ^ n) := by
  obtain ⟨⟨k, hk⟩, h2, h3⟩ := h
  refine ⟨⟨2 * k + 1, by rw [hk, Nat.pow_succ]; grind⟩, ht, ?_⟩
  rw [show s + 2 ^ n + 2 ^ n = s + 2 ^ (n + 1) by rw [Nat.pow_succ]; omega]
  exact h3
theorem root_no {q n s : Nat} (h : RootAt q (n + 1) s) (ht : ¬ (s + 2 ^ n) * (s + 2 ^ n) ≤ q) : RootAt q n s := by
  obtain ⟨⟨k, hk⟩, h2, h3⟩ := h
  exact ⟨⟨2 * k, by rw [hk, Nat.pow_succ]; grind⟩, h2, by omega⟩
theorem root_end {q s : Nat} (h : RootAt q 0 s) : s = isq q := by
  obtain ⟨_, h2, h3⟩ := h
  exact isq_eq h2 (by simpa using h3)
end Go.Proofs.YtodoimeiklilhaaDoor

/- The world has only grown ('Ext'), and small laws that the walks of this seat use. Generic: no program in sight. -/
namespace Go.Proofs.YtodoimeiklilhaaDoor
open Go.RowKit Go.Sort

def Ext (w w' : World) : Prop := Below w.heap.size w w'
theorem Ext.refl (w : World) : Ext w w := Below.refl _ _
theorem Ext.size {w w' : World} (h : Ext w w') : w.heap.size ≤ w'.heap.size := Below.size h
theorem Ext.trans {a b c : World} (h : Ext a b) (k : Ext b c) : Ext a c := Below.trans h (Below.mono k (Below.size h))
theorem Ext.alloc {a w : World} (h : Ext a w) (o : Obj) : Ext a (w.alloc o) := Below.alloc h (Below.size h) o
theorem Ext.setCell {a w : World} (h : Ext a w) {p : Addr} (hp : a.heap.size ≤ p.block) (u : Value) : Ext a (w.setCell p u) := Below.setCell h hp u
theorem Ext.drew {a w : World} (h : Ext a w) : Ext a w.drew := Below.drew h
theorem Ext.drewN {a w : World} (h : Ext a w) (n : Nat) : Ext a (w.drewN n) := ⟨h.os, h.tape, h.output, h.size, h.block⟩
theorem Ext.grow (w : World) (d : Nat) (os : Array Obj) : Ext w (grow (redrawn w d) os) := below_regrown w d os
theorem ext_grow {a w : World} (h : Ext a w) (d : Nat) (os : Array Obj) : Ext a (grow (redrawn w d) os) := h.trans (Ext.grow w d os)
theorem Ext.cell {w w' : World} (h : Ext w w') (b o : Nat) (hb : b < w.heap.size) : w'.cell? ⟨b, o, none⟩ = w.cell? ⟨b, o, none⟩ := Below.cell (p := ⟨b, o, none⟩) h hb
theorem Ext.frozen {w w' : World} (h : Ext w w') (b o : Nat) (hb : b < w.heap.size) : w'.frozen? ⟨b, o, none⟩ = w.frozen? ⟨b, o, none⟩ := Below.frozen (p := ⟨b, o, none⟩) h hb
theorem Ext.get {w w' : World} (h : Ext w w') {b o : Nat} {v : Value} (hc : w.cell? ⟨b, o, none⟩ = some v) : w'.cell? ⟨b, o, none⟩ = some v := by
  rw [h.cell b o (World.block_lt_of_cell? _ _ hc)]; exact hc
theorem Ext.grown {a w w' : World} {row : Option Nat} (h : Ext a w) (hg : w.grownBy w' row) (hr : ∀ k, row = some k → a.heap.size ≤ k) : Ext a w' := Below.grown h hg h.size hr

@[go_sem] theorem cell_grow (w : World) (d : Nat) (os : Array Obj) (b o : Nat) (s : Option Nat) (h : b < w.heap.size) : (grow (redrawn w d) os).cell? ⟨b, o, s⟩ = w.cell? ⟨b, o, s⟩ := cell?_grow (redrawn w d) os ⟨b, o, s⟩ h
@[go_sem] theorem frozen_grow (w : World) (d : Nat) (os : Array Obj) (b o : Nat) (h : b < w.heap.size) : (grow (redrawn w d) os).frozen? ⟨b, o, none⟩ = w.frozen? ⟨b, o, none⟩ := (Ext.grow w d os).frozen b o h

/-- A callee's contract in 'Ext', met inside a region that draws. -/
theorem Calls.ext_of {P : Program} {f : FuncId} {args : Array Value} {w : World} {d : Nat} {os : Array Obj} {v : Value}
    (h : Calls P f args (grow (redrawn w d) os) fun e w' => e = .returned v ∧ Ext (grow (redrawn w d) os) w') : Calls P f args (grow (redrawn w d) os) fun e w'' => e = .returned v ∧ ∃ p : Regrown, w'' = grow (redrawn w p.d) p.os :=
  Calls.regrown_of h

/-- A contract in 'Ext' from the present world, said from an earlier one. -/
theorem Ext.lift {P : Program} {f : FuncId} {args : Array Value} {w0 w1 : World} {v : Value} (h : Calls P f args w1 fun e w' => e = .returned v ∧ Ext w1 w') (hb : Ext w0 w1) :
    Calls P f args w1 fun e w' => e = .returned v ∧ Ext w0 w' := h.mono fun _ _ ⟨he, hw⟩ => ⟨he, hb.trans hw⟩
theorem Ext.blk {w w' : World} (h : Ext w w') {k : Nat} {o : Obj} (hk : w.heap[k]? = some o) : w'.heap[k]? = some o := by
  rw [Below.block h k (Array.getElem?_eq_some_iff.1 hk).1]; exact hk
theorem size_one (w : World) (A : Obj) : (w.alloc A).heap.size = w.heap.size + 1 := by
  show (w.heap.push A).size = _
  simp
theorem blk_at (w : World) (o : Obj) {k : Nat} (h : k = w.heap.size) : (w.alloc o).heap[k]? = some o := by
  subst h
  show (w.heap.push o)[w.heap.size]? = some o
  simp
theorem blk_past (w : World) (o : Obj) {k : Nat} (h : k < w.heap.size) : (w.alloc o).heap[k]? = w.heap[k]? := by
  show (w.heap.push o)[k]? = _
  simp [Array.getElem?_push, Nat.ne_of_lt h]
theorem one_first (w : World) (A : Obj) : (w.alloc A).heap[w.heap.size]? = some A := blk_at w A rfl
theorem two_first (w : World) (A B : Obj) : ((w.alloc A).alloc B).heap[w.heap.size]? = some A :=
  (blk_past (w.alloc A) B (by rw [size_one]; omega)).trans (blk_at w A rfl)
theorem two_second (w : World) (A B : Obj) : ((w.alloc A).alloc B).heap[w.heap.size + 1]? = some B := blk_at (w.alloc A) B (by rw [size_one])
theorem three_first (w : World) (A B C : Obj) : (((w.alloc A).alloc B).alloc C).heap[w.heap.size]? = some A :=
  (blk_past ((w.alloc A).alloc B) C (by rw [size_one, size_one]; omega)).trans (two_first w A B)
theorem three_second (w : World) (A B C : Obj) : (((w.alloc A).alloc B).alloc C).heap[w.heap.size + 1]? = some B :=
  (blk_past ((w.alloc A).alloc B) C (by rw [size_one, size_one]; omega)).trans (two_second w A B)
theorem cell_of_at {w : World} {b : Nat} {cs : Array Value} {e : TypeId} {fr : Nat × Nat} (h : w.heap[b]? = some (.cells cs e fr)) (o : Nat) {v : Value} (hv : cs[o]? = some v) : w.cell? ⟨b, o, none⟩ = some v := by
  simp [World.cell?, h, hv]
theorem free_of_at {w : World} {b : Nat} {cs : Array Value} {e : TypeId} (h : w.heap[b]? = some (.cells cs e (0, 0))) (o : Nat) : w.frozen? ⟨b, o, none⟩ = false := by
  simp [World.frozen?, h]
theorem three_third (w : World) (A B C : Obj) : (((w.alloc A).alloc B).alloc C).heap[w.heap.size + 1 + 1]? = some C := blk_at ((w.alloc A).alloc B) C (by rw [size_one, size_one])
theorem bp_ret {P : Program} {fn : Func} {R : Ending → World → Prop} {a : Act} {w : World} (hd : a.defers = []) (h : ∃ v, (results fn a.tmps).run P w = .ok v w ∧ R (.returned v) w) : bodyPost P fn R .ret a w := by
  obtain ⟨v, hr, hR⟩ := h
  exact bodyPost_ret hr hd hR
theorem ret_int {k : IntKind} {a b : Int} (h : a = b) : Ending.returned (.int k a) = .returned (.int k b) := by rw [h]
theorem ret_bool {a b : Bool} (h : a = b) : Ending.returned (.bool a) = .returned (.bool b) := by rw [h]
theorem ret_val {a b : Value} (h : a = b) : Ending.returned a = .returned b := by rw [h]
theorem dec_of {p : Prop} [Decidable p] {x : Bool} (h : x = true ↔ p) : x = decide p := by
  cases x <;> simp_all
end Go.Proofs.YtodoimeiklilhaaDoor

/- The walks of layer 1's functions on words: absolute values, greatest common divisors, numbers of two words. -/
namespace Go.Proofs.YtodoimeiklilhaaDoor
open Go.RowKit Go.Sort

def InI64 (n : Int) : Prop := -9223372036854775808 ≤ n ∧ n ≤ 9223372036854775807
def W64 (n : Nat) : Prop := n < 18446744073709551616
def half : Nat := 18446744073709551616
theorem wrap_u64_eq (n : Int) : IntKind.u64.wrap n = n % 18446744073709551616 := by
  rfl
theorem wrap_abs_neg (n : Int) (h : InI64 n) (hn : n < 0) : IntKind.u64.wrap (-(IntKind.u64.wrap n)) = (n.natAbs : Int) := by
  unfold InI64 at h
  rw [wrap_u64_eq, wrap_u64_eq]
  omega
theorem wrap_abs_pos (n : Int) (h : InI64 n) (hn : 0 ≤ n) : IntKind.u64.wrap n = (n.natAbs : Int) := by
  unfold InI64 at h
  rw [wrap_u64_eq]
  omega
theorem w64_mod {m n : Nat} (hn : W64 n) (h : n ≠ 0) : W64 (m % n) := Nat.lt_trans (Nat.mod_lt _ (Nat.pos_of_ne_zero h)) hn
theorem gcd_step {m n a b : Nat} (h : Nat.gcd m n = Nat.gcd a b) : Nat.gcd n (m % n) = Nat.gcd a b := by
  rw [← h, Nat.gcd_comm n, ← Nat.gcd_rec n m, Nat.gcd_comm]
theorem w64_in {n : Nat} (hn : W64 n) : IntKind.u64.wrap (n : Int) = n := by
  unfold W64 at hn
  exact IntWalk.u64_in _ (by omega)

set_option maxHeartbeats 1000000 in
theorem c_abs (n : Int) (h : InI64 n) (w : World) :
    Calls Tryd.prog 53 #[.int .i64 n] w fun e w' => e = .returned (.int .u64 (n.natAbs : Int)) ∧ Ext w w' := by
  go_enter Tryd.func53, Tryd.ntmps53
  go_wp2
  all_goals (go_ret; refine ⟨ret_int ?_, Ext.refl _⟩; first | exact wrap_abs_neg n h (by assumption) | exact wrap_abs_pos n h (by assumption))

set_option maxHeartbeats 1000000 in
theorem c_gcd (a b : Nat) (ha : W64 a) (hb : W64 b) (w : World) :
    Calls Tryd.prog 54 #[.int .u64 a, .int .u64 b] w fun e w' => e = .returned (.int .u64 (Nat.gcd a b : Nat)) ∧ Ext w w' := by
  go_enter Tryd.func54, Tryd.ntmps54
  go_wp2
  go_loopw [0, 1] (fun x y wr => Ext w wr ∧ ∃ m n : Nat, x = .int .u64 m ∧ y = .int .u64 n ∧ Hid (Nat.gcd m n = Nat.gcd a b) ∧ Hid (W64 m) ∧ Hid (W64 n)) (fun _ y _ => (intOf y).toNat)
  case atStart => exact ⟨Ext.refl _, a, b, rfl, rfl, rfl, ha, hb⟩
  case round =>
    obtain ⟨hE, m, n, rfl, rfl, hg, hm, hn⟩ := hrel
    by_cases h0 : n = 0
    · subst h0
      go_wp2
      go_ret
      refine ⟨ret_int ?_, hE⟩
      rw [← hg.out, Nat.gcd_zero_right]
    · have h1 : ((n : Int) != 0) = true := by simpa using h0
      have h2 : ((n : Int) == 0) = false := by simpa using h0
      have h3 : 0 < n := by omega
      have H0 := Lib.hid h0
      clear h0
      go_wp2
      go_quiet (fail)
      go_wp2
      go_roundw
      case rel => exact ⟨hE.drewN _, n, m % n, rfl, rfl, gcd_step hg.out, hn, w64_mod hn.out H0.out⟩
      case measure =>
        have := Nat.mod_lt m h3
        simp [intOf]; omega
end Go.Proofs.YtodoimeiklilhaaDoor
