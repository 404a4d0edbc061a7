/- What comes in as a fraction, an enclosure, a number. -/
import Derived.Test.YtodoimeiklilhaaPlainFrame
import Derived.Test.YtodoimeiklilhaaGSpans
set_option linter.unusedVariables false
set_option linter.unusedSimpArgs false
namespace Go.Proofs.Ytodoimeiklilhaa
open Go.RowKit Go.Sort Go.ChangeShapes Go.WideShapes Go.ChangeAt

theorem cells_int : Try.prog.cellsOf 3 = 1 := by kernel_rfl
theorem cells_frac : Try.prog.cellsOf 23 = 2 := by kernel_rfl
theorem cells_span : Try.prog.cellsOf 39 = 4 := by kernel_rfl
theorem wf_in {n : Int} (w0 : (Lit.int .i64 n).wf = true) : InI64 n := by simpa [Lit.wf, IntKind.min, IntKind.max, IntKind.signed, IntKind.bits, InI64] using w0
theorem wf_u8 {n : Int} (w0 : (Lit.int .u8 n).wf = true) : 0 ≤ n ∧ n < 256 := by
  simp [Lit.wf, IntKind.min, IntKind.max, IntKind.signed, IntKind.bits] at w0
  omega
theorem two_list {α : Type} {l : List α} {a b : α} (h : l.length = 2) (h0 : (l.drop 0).take 1 = [a]) (h1 : (l.drop 1).take 1 = [b]) : l = [a, b] := by
  match l, h with
  | [x, y], _ => simp at h0 h1; simp [h0, h1]
theorem four_list {α : Type} {l : List α} {a b c d : α} (h : l.length = 4) (h0 : (l.drop 0).take 2 = [a, b]) (h1 : (l.drop 2).take 2 = [c, d]) : l = [a, b, c, d] := by
  match l, h with
  | [x, y, z, t], _ => simp at h0 h1; simp [h0, h1]
set_option maxRecDepth 100000 in
theorem trod_frac {H : Type} {enc : TypeId × Value → H} {W : World} {spare : Nat → Bool} {n : Nat} {cs : List Value} {y : DataW H × List MemPlace} (h : DataW.trod enc Try.prog W 0 spare true n 23 cs = some y) :
    ∃ a : Frac, cs = [.int .i64 a.num, .int .i64 a.den] ∧ a.wide := by
  obtain ⟨y0, y1, m, -, hl, h0, h1⟩ := trod_struct2 Try.underlying23 h
  obtain ⟨a, ha, -, wa⟩ := DataW.trod_int Try.underlying3 h0
  obtain ⟨b, hb, -, wb⟩ := DataW.trod_int Try.underlying3 h1
  rw [cells_frac] at hl
  simp only [cells_int] at ha hb
  exact ⟨⟨a, b⟩, two_list hl ha hb, wf_in wa, wf_in wb⟩
set_option maxRecDepth 100000 in
theorem open_frac {H : Type} {enc : TypeId × Value → H} {W : World} {base : Nat} {v : Value} {d : DataW H} {p : List MemPlace}
    (hv : Value.okWide Try.prog W .any base 23 v) (h : DataW.Trod enc Try.prog W 0 (fun _ => true) true 23 v d p) : ∃ a : Frac, v = fracV a ∧ a.wide := by
  obtain ⟨cs, rfl, -⟩ := okWide_struct Try.underlying23 hv
  obtain ⟨fuel, hf⟩ := h
  obtain ⟨a, ha, wa⟩ := trod_frac hf
  exact ⟨a, congrArg Value.agg (Array.toList_inj.1 ha), wa⟩
set_option maxRecDepth 100000 in
theorem open_span {H : Type} {enc : TypeId × Value → H} {W : World} {base : Nat} {v : Value} {d : DataW H} {p : List MemPlace}
    (hv : Value.okWide Try.prog W .any base 39 v) (h : DataW.Trod enc Try.prog W 0 (fun _ => true) true 39 v d p) : ∃ a : Span, v = fspanV a ∧ a.wide := by
  obtain ⟨cs, rfl, -⟩ := okWide_struct Try.underlying39 hv
  obtain ⟨fuel, hf⟩ := h
  obtain ⟨y0, y1, m, -, hl, h0, h1⟩ := trod_struct2 Try.underlying39 hf
  obtain ⟨a, ha, wa⟩ := trod_frac h0
  obtain ⟨b, hb, wb⟩ := trod_frac h1
  have hl' : cs.toList.length = 4 := hl.trans cells_span
  refine ⟨⟨a, b⟩, congrArg Value.agg (Array.toList_inj.1 ?_), wa, wb⟩
  simp only [cells_frac] at ha hb
  exact four_list hl' ha hb
theorem trodAll_five {H : Type} {enc : TypeId × Value → H} {P : Program} {w : World} {base : Nat} {spare : Nat → Bool} {held : Bool} {t t' t'' t3 t4 : TypeId} {args : Array Value} {ds : List (DataW H)} {ps : List MemPlace} (h : DataW.TrodAll enc P w base spare held [t, t', t'', t3, t4] args.toList ds ps) :
    ∃ v v' v'' v3 v4 d d' d'' d3 d4 p p' p'' p3 p4, args = #[v, v', v'', v3, v4] ∧ ds = [d, d', d'', d3, d4] ∧ ps = p ++ p' ++ p'' ++ p3 ++ p4 ∧ DataW.Trod enc P w base spare held t v d p ∧ DataW.Trod enc P w base spare held t' v' d' p' ∧ DataW.Trod enc P w base spare held t'' v'' d'' p'' ∧ DataW.Trod enc P w base spare held t3 v3 d3 p3 ∧ DataW.Trod enc P w base spare held t4 v4 d4 p4 := by
  obtain ⟨v, vs, d, ds', p, q, hargs, rfl, rfl, hd, hrest⟩ := trodAll_cons h
  obtain ⟨v', vs', d', ds'', p', q', rfl, rfl, rfl, hd', hrest'⟩ := trodAll_cons hrest
  obtain ⟨v'', vs'', d'', ds''', p'', q'', rfl, rfl, rfl, hd'', hrest''⟩ := trodAll_cons hrest'
  obtain ⟨v3, vs3, d3, ds3, p3, q3, rfl, rfl, rfl, hd3, hrest3⟩ := trodAll_cons hrest''
  obtain ⟨v4, vs4, d4, ds4, p4, q4, rfl, rfl, rfl, hd4, hrest4⟩ := trodAll_cons hrest3
  obtain ⟨rfl, rfl, rfl⟩ := trodAll_nil hrest4
  exact ⟨v, v', v'', v3, v4, d, d', d'', d3, d4, p, p', p'', p3, p4, by cases args; simp_all, rfl, by simp, hd, hd', hd'', hd3, hd4⟩
end Go.Proofs.Ytodoimeiklilhaa
