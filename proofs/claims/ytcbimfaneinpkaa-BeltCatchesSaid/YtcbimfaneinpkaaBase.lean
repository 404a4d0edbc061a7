/- The world has only grown ('Ext'), and small laws that the walks of this seat use. Generic: no program in sight. -/
import Derived.WalkKit
import Derived.BigQuiet
import Derived.Lib.QuietBelow
import Derived.Lib.Hide
namespace Go.Proofs.Ytcbimfaneinpkaa
open Go.RowKit Go.Sort

def Ext (w w' : World) : Prop := Below w.heap.size w w'
theorem Ext.refl (w : World) : Ext w w := Below.refl _ _
theorem Ext.size {w w' : World} (h : Ext w w') : w.heap.size ≤ w'.heap.size := Below.size h
theorem Ext.trans {a b c : World} (h : Ext a b) (k : Ext b c) : Ext a c := Below.trans h (Below.mono k (Below.size h))
theorem Ext.alloc {a w : World} (h : Ext a w) (o : Obj) : Ext a (w.alloc o) := Below.alloc h (Below.size h) o
theorem Ext.setCell {a w : World} (h : Ext a w) {p : Addr} (hp : a.heap.size ≤ p.block) (u : Value) : Ext a (w.setCell p u) := Below.setCell h hp u
theorem Ext.drew {a w : World} (h : Ext a w) : Ext a w.drew := Below.drew h
theorem Ext.drewN {a w : World} (h : Ext a w) (n : Nat) : Ext a (w.drewN n) := ⟨h.os, h.tape, h.output, h.size, h.block⟩
theorem Ext.grow (w : World) (d : Nat) (os : Array Obj) : Ext w (grow (redrawn w d) os) := below_regrown w d os
theorem Ext.cell {w w' : World} (h : Ext w w') (b o : Nat) (hb : b < w.heap.size) : w'.cell? ⟨b, o, none⟩ = w.cell? ⟨b, o, none⟩ := Below.cell (p := ⟨b, o, none⟩) h hb
theorem Ext.frozen {w w' : World} (h : Ext w w') (b o : Nat) (hb : b < w.heap.size) : w'.frozen? ⟨b, o, none⟩ = w.frozen? ⟨b, o, none⟩ := Below.frozen (p := ⟨b, o, none⟩) h hb
theorem Ext.get {w w' : World} (h : Ext w w') {b o : Nat} {v : Value} (hc : w.cell? ⟨b, o, none⟩ = some v) : w'.cell? ⟨b, o, none⟩ = some v := by
  rw [h.cell b o (World.block_lt_of_cell? _ _ hc)]; exact hc
theorem Ext.grown {a w w' : World} {row : Option Nat} (h : Ext a w) (hg : w.grownBy w' row) (hr : ∀ k, row = some k → a.heap.size ≤ k) : Ext a w' := Below.grown h hg h.size hr

@[go_sem] theorem cell_grow (w : World) (d : Nat) (os : Array Obj) (b o : Nat) (s : Option Nat) (h : b < w.heap.size) : (grow (redrawn w d) os).cell? ⟨b, o, s⟩ = w.cell? ⟨b, o, s⟩ := cell?_grow (redrawn w d) os ⟨b, o, s⟩ h

/-- A callee's contract in 'Ext', met inside a region that draws. -/
theorem Calls.ext_of {P : Program} {f : FuncId} {args : Array Value} {w : World} {d : Nat} {os : Array Obj} {v : Value}
    (h : Calls P f args (grow (redrawn w d) os) fun e w' => e = .returned v ∧ Ext (grow (redrawn w d) os) w') : Calls P f args (grow (redrawn w d) os) fun e w'' => e = .returned v ∧ ∃ p : Regrown, w'' = grow (redrawn w p.d) p.os :=
  Calls.regrown_of h

/-- A contract in 'Ext' from the present world, said from an earlier one. -/
theorem Ext.lift {P : Program} {f : FuncId} {args : Array Value} {w0 w1 : World} {v : Value} (h : Calls P f args w1 fun e w' => e = .returned v ∧ Ext w1 w') (hb : Ext w0 w1) :
    Calls P f args w1 fun e w' => e = .returned v ∧ Ext w0 w' := h.mono fun _ _ ⟨he, hw⟩ => ⟨he, hb.trans hw⟩

theorem dec_of {p : Prop} [Decidable p] {x : Bool} (h : x = true ↔ p) : x = decide p := by
  cases x <;> simp_all
theorem dec_false {p : Prop} [Decidable p] (h : ¬ p) : false = decide p := (decide_eq_false h).symm
theorem dec_true {p : Prop} [Decidable p] (h : p) : true = decide p := (decide_eq_true h).symm
theorem ret_int {k : IntKind} {a b : Int} (h : a = b) : Ending.returned (.int k a) = .returned (.int k b) := by rw [h]
theorem ret_bool {a b : Bool} (h : a = b) : Ending.returned (.bool a) = .returned (.bool b) := by rw [h]
theorem ret_two {j k : IntKind} {a a' b b' : Int} (h : a = a') (g : b = b') : Ending.returned (.tuple #[.int j a, .int k b]) = .returned (.tuple #[.int j a', .int k b']) := by rw [h, g]
theorem ret_three {i j k : IntKind} {a a' b b' c c' : Int} (h : a = a') (g : b = b') (e : c = c') : Ending.returned (.tuple #[.int i a, .int j b, .int k c]) = .returned (.tuple #[.int i a', .int j b', .int k c']) := by rw [h, g, e]
theorem val_int {k : IntKind} {a b : Int} (h : a = b) : Value.int k a = .int k b := by rw [h]
theorem val_bool {a b : Bool} (h : a = b) : Value.bool a = .bool b := by rw [h]
end Go.Proofs.Ytcbimfaneinpkaa
