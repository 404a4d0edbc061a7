/- A row's block is none of a track's. -/
import Derived.Test.YtcbimfaneinpkaaRegionN
import Derived.Test.YtcbimfaneinpkaaTell
set_option linter.unusedVariables false
set_option linter.unusedSimpArgs false
namespace Go.Proofs.Ytcbimfaneinpkaa
open Go.RowKit Go.Sort

theorem rows_not {w : World} {base sz n : Nat} {v : Value} {cs : List Value} (h : w.ownsRow base 63 sz v n cs) {g : Nat} (hg : v.ownBlock = some g) {cs' : Array Value} {fr : Nat × Nat} (h' : w.heap[g]? = some (.cells cs' 47 fr)) : False := by
  obtain ⟨-, h2⟩ := h
  rcases h2 with ⟨rfl, _⟩ | ⟨g', cap, cur, rfl, hb, hh, _⟩
  · cases hg
  · injection hg with hg
    subst hg
    rw [hh] at h'
    injection h' with h'
    injection h' with _ h' _
    cases h'
open RG in
theorem st_call3 {P : Program} {ops : Array Oper} {G : Prom} {dr : Drop} {a0 : Act} {w0 : World} {i t1 t2 t3 : Nat} {o : Oper} (hg : o.guard = none) (f : FuncId) (ats : Array TypeId) (ho : o.op = .call { callee := .value (.func f), args := #[.tmp t1, .tmp t2, .tmp t3], argTypes := ats })
    {fn : Func} (hf : P.funcs[f]? = some fn) (hn : (fn.name == "runtime.NumGoroutine") = false) (hb : fn.body.isNone = false) (hstab : ∀ j v w w', G j v w → Ext w w' → G j v w')
    (h : ∀ a w, Ext w0 w → ReadsOk ops G a0 i o a w → Calls P f #[a.tmps.getD t1 undef, a.tmps.getD t2 undef, a.tmps.getD t3 undef] w fun e w' => ∃ v, e = .returned v ∧ Ext w w' ∧ G i v w') : Step P ops G dr a0 w0 i o :=
  st_call hg f _ ats ho hf hn hb (fun a w hw hr => by
    have h9 := h a w hw hr
    have e : (#[Operand.tmp t1, Operand.tmp t2, Operand.tmp t3] : Array Operand).map a.eval = #[a.tmps.getD t1 undef, a.tmps.getD t2 undef, a.tmps.getD t3 undef] := by
      simp [Act.eval]
    rw [e]
    exact h9) hstab
theorem track_store {a : Act} {w : World} {o : Oper} {ta tv b : Nat} {U : Track} {s : Option Addr} {z : Nat} (ho : o.op = .store 47 (.tmp ta) (.tmp tv)) (h0 : a.tmps.getD ta undef = .pointer (some ⟨b, 0, none⟩)) (h1 : a.tmps.getD tv undef = trackVal U (.slice s U.parts.length z))
    (hz : w.heap[b]? = some (.cells #[.int .i64 0, .int .i64 0, .int .i64 0, .int .i64 0, .int .i64 0, .int .i64 0, .slice none 0 0] 47)) :
    (execOp a.eval o).run Try.prog w = .ok .skip (((((((w.setCell ⟨b, 0, none⟩ (.int .i64 U.belt.step)).setCell ⟨b, 1, none⟩ (.int .i64 U.belt.slip)).setCell ⟨b, 2, none⟩ (.int .i64 U.belt.gate)).setCell ⟨b, 3, none⟩ (.int .i64 U.belt.length)).setCell ⟨b, 4, none⟩ (.int .i64 U.count)).setCell ⟨b, 5, none⟩ (.int .i64 U.next)).setCell ⟨b, 6, none⟩ (.slice s U.parts.length z)) := by
  obtain ⟨⟨c0, c1, c2, c3, c4, c5, c6⟩, f0, f1, f2, f3, f4, f5, f6⟩ := run_7 hz
  have e0 : a.eval (.tmp ta) = .pointer (some ⟨b, 0, none⟩) := h0
  have e1 : a.eval (.tmp tv) = trackVal U (.slice s U.parts.length z) := h1
  unfold execOp
  rw [ho]
  simp only [e0, e1]
  clear hz e0 e1 h0 h1 ho
  simp [go_sem, c0, c1, c2, c3, c4, c5, c6, f0, f1, f2, f3, f4, f5, f6, Try.underlying47]
end Go.Proofs.Ytcbimfaneinpkaa
