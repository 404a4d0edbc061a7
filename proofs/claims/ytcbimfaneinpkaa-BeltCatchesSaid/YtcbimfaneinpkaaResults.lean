/- Functions whose first result lies in a block of its own. -/
import Derived.Test.YtcbimfaneinpkaaTrackSpec
import Derived.Laws.Rows
import Derived.Test.YtcbimfaneinpkaaBlocks
import Derived.Test.YtcbimfaneinpkaaProg
set_option linter.unusedVariables false
set_option linter.unusedSimpArgs false
namespace Go.Proofs.Ytcbimfaneinpkaa
open Go.RowKit Go.Sort

theorem info47 : (Try.prog.info? 47).map (·.size) = some 7 := by kernel_rfl
theorem results_row2 {P : Program} {fn : Func} {p u : Tmp} {ty : TypeId} (h : fn.results = #[.cell p ty, .tmp u]) (tmps : Array Value) (w : World) (g : Nat) (t : TypeId) (cs : Array Value) (fr : Nat × Nat) (d : TypeDesc)
    (hp : tmps.getD p undef = .pointer (some ⟨g, 0, none⟩)) (hg : w.heap[g]? = some (.cells cs t fr))
    (hu : P.underlying ty = some d) (hd : (match d with | .struct _ | .array _ _ => true | _ => false) = true) (hi : (P.info? ty).map (·.size) = some cs.size) :
    (results fn tmps).run P w = .ok (.tuple #[.agg cs, tmps.getD u undef]) w := by
  have hp' : tmps[p]?.getD undef = .pointer (some ⟨g, 0, none⟩) := by simpa using hp
  simp [results, h, hp', asAddr, Sem.run_bind, Result.andThen, run_loadVar_row w g t ty cs fr d hg hu hd hi]
theorem results_row3 {P : Program} {fn : Func} {p u x : Tmp} {ty : TypeId} (h : fn.results = #[.cell p ty, .tmp u, .tmp x]) (tmps : Array Value) (w : World) (g : Nat) (t : TypeId) (cs : Array Value) (fr : Nat × Nat) (d : TypeDesc)
    (hp : tmps.getD p undef = .pointer (some ⟨g, 0, none⟩)) (hg : w.heap[g]? = some (.cells cs t fr))
    (hu : P.underlying ty = some d) (hd : (match d with | .struct _ | .array _ _ => true | _ => false) = true) (hi : (P.info? ty).map (·.size) = some cs.size) :
    (results fn tmps).run P w = .ok (.tuple #[.agg cs, tmps.getD u undef, tmps.getD x undef]) w := by
  have hp' : tmps[p]?.getD undef = .pointer (some ⟨g, 0, none⟩) := by simpa using hp
  simp [results, h, hp', asAddr, Sem.run_bind, Result.andThen, run_loadVar_row w g t ty cs fr d hg hu hd hi]
theorem size_one (w : World) (A : Obj) : (w.alloc A).heap.size = w.heap.size + 1 := by
  show (w.heap.push A).size = _
  simp
theorem two_first (w : World) (A B : Obj) : ((w.alloc A).alloc B).heap[w.heap.size]? = some A :=
  (blk_past (w.alloc A) B (by rw [size_one]; omega)).trans (blk_at w A rfl)
theorem two_second (w : World) (A B : Obj) : ((w.alloc A).alloc B).heap[w.heap.size + 1]? = some B := blk_at (w.alloc A) B (by rw [size_one])
theorem three_first (w : World) (A B C : Obj) : (((w.alloc A).alloc B).alloc C).heap[w.heap.size]? = some A :=
  (blk_past ((w.alloc A).alloc B) C (by rw [size_one, size_one]; omega)).trans (two_first w A B)
theorem three_second (w : World) (A B C : Obj) : (((w.alloc A).alloc B).alloc C).heap[w.heap.size + 1]? = some B :=
  (blk_past ((w.alloc A).alloc B) C (by rw [size_one, size_one]; omega)).trans (two_second w A B)
theorem own_set {w : World} {base e sz n bo o : Nat} {v u : Value} {cs : List Value} (h : w.ownsRow base e sz v n cs) (hb : bo < base) : (w.setCell ⟨bo, o, none⟩ u).ownsRow base e sz v n cs := by
  obtain ⟨h1, h2⟩ := h
  refine ⟨h1, ?_⟩
  rcases h2 with h2 | ⟨g, cap, cur, hv, hg, hh, r⟩
  · exact .inl h2
  · refine .inr ⟨g, cap, cur, hv, hg, ?_, r⟩
    rw [Below.heap_setCell _ _ _ _ (show g ≠ bo by omega)]
    exact hh
theorem own_seven {w : World} {base e sz n b : Nat} {v v0 v1 v2 v3 v4 v5 v6 : Value} {cs : List Value} (h : w.ownsRow base e sz v n cs) (hb : b < base) :
    (((((((w.setCell ⟨b, 0, none⟩ v0).setCell ⟨b, 1, none⟩ v1).setCell ⟨b, 2, none⟩ v2).setCell ⟨b, 3, none⟩ v3).setCell ⟨b, 4, none⟩ v4).setCell ⟨b, 5, none⟩ v5).setCell ⟨b, 6, none⟩ v6).ownsRow base e sz v n cs :=
  own_set (own_set (own_set (own_set (own_set (own_set (own_set h hb) hb) hb) hb) hb) hb) hb
end Go.Proofs.Ytcbimfaneinpkaa
