/- The frame of a law, with the sizes of what comes in; images, tools and grasps that come in. -/
import Derived.Test.YtlnofbdhamingaaRows
import Derived.Test.YtlnofbdhamingaaCamFn
import Derived.Test.YtlnofbdhamingaaByteArgs
import Derived.ProofKit
import Derived.OpenShut
import Derived.ChangeOld
import Derived.ChangeSlices
import Derived.SizedLaws
import Derived.Lib.SmallJoins
set_option linter.unusedVariables false
set_option linter.unusedSimpArgs false
namespace Go.Proofs.Ytlnofbdhamingaa
open Go.RowKit Go.Sort Go.ChangeShapes Go.WideShapes Go.ChangeAt

theorem own : ownKnob Try.prog.godebug = none := by kernel_rfl
theorem laidOut : laidOutB Try.prog = true := by kernel_rfl
theorem trodAll_ext {H : Type} {enc : TypeId × Value → H} {P : Program} (hl : laidOutB P = true) {W W' : World} (hb : Ext W W') :
    ∀ (ts : List TypeId) (vs : List Value) (ds : List (DataW H)) (ps : List MemPlace), (∀ t ∈ ts, P.readableRec t = true ∧ t < P.types.size) →
      DataW.TrodAll enc P W 0 (fun _ => true) true ts vs ds ps → DataW.TrodAll enc P W' 0 (fun b => decide (b < W.heap.size)) true ts vs ds ps
  | [], vs, ds, ps, _, h => by
    obtain ⟨rfl, rfl, rfl⟩ := trodAll_nil h
    exact trodAll_mk0
  | t :: ts, vs, ds, ps, hr, h => by
    obtain ⟨v, vs', d, ds', p, q, rfl, rfl, rfl, hd, hrest⟩ := trodAll_cons h
    have ht := hr t (by simp)
    have k := hd
    have lt : ∀ x ∈ p, x.block < W.heap.size := by obtain ⟨m, hm⟩ := k; exact DataW.trod_lt m _ _ _ hm
    exact trodAll_cons_mk (Below.trod hl ht.1 ht.2 hd hb lt) (trodAll_ext hl hb ts vs' ds' q (fun t' h' => hr t' (by simp [h'])) hrest)
set_option maxRecDepth 100000 in
theorem law_returns {os : Os} (started : os.Started) {f : FuncId} {fn : Func} {s : ChangeSpec} {H : Type} {enc : TypeId × Value → H} {tb : TypeId}
    (noInit : Try.checked.prog.inits.idxOf? f = none) (hfn : Try.checked.prog.funcs[f]? = some fn)
    (hrt : fn.resultTypes = #[tb]) (hbool : Try.checked.prog.underlying tb = some .bool) (hvars : s.vars = [])
    (hs : ∀ ds : List (DataW H), ds.length = fn.params.toList.length → (s.fn H (ds ++ [])).results = [.lit (.bool true)] ∧ (s.fn H (ds ++ [])).args = ds ∧ (s.fn H (ds ++ [])).vars = [])
    (hread : ∀ t ∈ fn.params.toList, Try.checked.prog.readableRec t = true ∧ t < Try.checked.prog.types.size)
    (witness : ∃ (w : World) (tape : Tape) (i : Input), w.os = os ∧ (w.forCall tape i).Shaped Try.checked.prog ∧ i.vars = [] ∧ Input.okWide Try.checked.prog (w.forCall tape i) .any w.heap.size f i ∧
      s.pre6 enc Try.checked.prog fn [] false (w.forCall tape i).memory i.args ∧ ({} : Assume).holds Try.checked.prog (lone (Frame.enter Try.checked.prog f i.args .normal) [] (w.forCall tape i)))
    (walk : ∀ (W : World) (base : Nat) (args : Array Value) (ds : List (DataW H)) (p : List MemPlace),
      (∀ (j : Nat) t v, fn.params[j]? = some t → args[j]? = some v → Value.okWide Try.prog W .any base t v) →
      DataW.TrodAll enc Try.prog W 0 (fun _ => true) true fn.params.toList args.toList ds p →
      (DataW.weightsEach Try.prog (fn.params.toList ++ []) (ds ++ [])).all (· ≤ reachBytes) = true →
      Calls Try.prog f args W fun e W' => e = .returned (.bool true) ∧ Ext W W') :
    ReturnsInHanded {} Try.checked os f .any (s.pre6 enc Try.checked.prog fn [] false) (s.post enc Try.checked.prog fn false true false false) := by
  refine returnsInHanded_of_calls own started noInit witness ?_
  intro w tape i _ _ _ hok hpre hholds
  obtain ⟨_, _, _, fn', hfn', _, _, _, _, hval⟩ := hok
  have e : fn' = fn := Option.some.inj (hfn'.symm.trans hfn)
  subst e
  obtain ⟨⟨ds, gs, before, hw, hc⟩, hz⟩ := hpre
  have hW := DataW.Whole.of_heap (w' := w.forCall tape i) (by rfl) hw
  have hsz := hz.weights hw
  have hW' := hW
  obtain ⟨p, q, hA, hV, rfl, hfz, hnd⟩ := hW
  rw [hvars] at hV
  obtain ⟨rfl, rfl⟩ := trodVars_none hV
  have hsz' : (DataW.weightsEach Try.checked.prog (fn'.params.toList ++ []) (ds ++ [])).all (· ≤ reachBytes) = true := by
    have e : (OpenSpec.ofChange s).bare.plain.varTypes Try.checked.prog = [] := by
      unfold DataSpec.varTypes
      rw [show (OpenSpec.ofChange s).bare.plain.vars = s.vars from rfl, hvars]; rfl
    rw [e] at hsz
    exact hsz
  refine (walk (w.forCall tape i) w.heap.size i.args ds p hval hA hsz').mono ?_
  rintro e W' ⟨rfl, hb⟩
  have hlen : ∀ (ts : List TypeId) (vs : List Value) (ds : List (DataW H)) (ps : List MemPlace), DataW.TrodAll enc Try.checked.prog (w.forCall tape i) 0 (fun _ => true) true ts vs ds ps → ds.length = ts.length := by
    intro ts
    induction ts with
    | nil => intro vs ds ps h; obtain ⟨_, rfl, _⟩ := trodAll_nil h; rfl
    | cons t ts ih =>
      intro vs ds ps h
      obtain ⟨v, vs', d, ds', p, q, rfl, rfl, rfl, hd, hrest⟩ := trodAll_cons h
      simp [ih _ _ _ hrest]
  obtain ⟨h1, h2, h3⟩ := hs ds (hlen _ _ _ _ hA)
  refine ChangeSpec.post_blind (⟨ds, [], _, [], p, [], hW', ?_, ?_, ?_, hb.frame _, fun h => by cases h⟩ : s.post enc Try.checked.prog fn' false true false false (w.forCall tape i) i.args (.bool true) W')
  · rw [h1, hrt]
    exact trodAll_mk1 (shut_bool hbool _)
  · rw [h2]
    exact trodAll_ext laidOut hb _ _ _ _ hread hA
  · rw [h3, hvars]
    exact rfl
theorem ints_of_cell {H : Type} {enc : TypeId × Value → H} {W : World} {n t : Nat} {c : Value} {y : DataW H × List MemPlace} {P : Program} {e : TypeId} (ht : P.underlying t = some (.slice e)) (he : P.underlying e = some (.int .i64)) (hc : P.cellsOf e = 1)
    (hf : DataW.trod enc P W 0 (fun _ => true) true n t [c] = some y) :
    ∃ l : List Int, IntsAt W c l ∧ l.length ≤ maxLen ∧ (∀ n ∈ l, (Lit.int .i64 n).wf = true) ∧ (l = [] ∨ ∃ es sp, y.1 = .slice es sp ∧ es.length = l.length) := by
  rcases open_ints ht he hc hf with ⟨h1, -⟩ | ⟨a', len', cap', zs, h1, hb, hl, hm, hz, hdd, hcell, hwf⟩
  · simp at h1
    subst h1
    exact ⟨[], ⟨rfl, none, 0, rfl, Nat.le_refl _, by simp [maxLen], fun _ => rfl, fun j u hj => by simp [ints] at hj⟩, by simp [maxLen], fun n hn => by simp at hn, .inl rfl⟩
  · simp at h1
    subst h1
    simp only [if_true] at hz
    have hlen : (zs.take len').length = len' := by rw [List.length_take]; omega
    refine ⟨zs.take len', ⟨by simp [ints], some a', cap', by rw [hlen], by rw [hlen]; exact hl, hm, fun h => (by cases h), fun j u hj => ?_⟩, by rw [hlen]; omega, fun n hn => hwf n (List.mem_of_mem_take hn), .inr ⟨_, _, congrArg Prod.fst hdd, by simp [lits]⟩⟩
    have hj' : j < len' := by
      have := (List.getElem?_eq_some_iff.1 hj).1
      simp [ints] at this
      omega
    obtain ⟨b, off, rfl, hc2⟩ := ints_at hcell (by omega)
    refine ⟨b, off, rfl, ?_⟩
    rw [hc2 j (by omega)]
    simp only [ints, List.getElem?_map, List.getElem?_take_of_lt hj', List.getElem?_eq_getElem (show j < zs.length by omega), Option.map_some, Option.some.injEq] at hj
    rw [← hj, List.getD_eq_getElem?_getD, List.getElem?_eq_getElem (show j < zs.length by omega)]
    rfl
set_option maxRecDepth 100000 in
theorem read_img {H : Type} {enc : TypeId × Value → H} {W : World} {base : Nat} {v : Value} {d : DataW H} {p : List MemPlace}
    (hv : Value.okWide Try.prog W .any base 25 v) (h : DataW.Trod enc Try.prog W 0 (fun _ => true) true 25 v d p) :
    ∃ (m : Img) (u : Value), v = imgVal m u ∧ IntsAt W u m.pix ∧ m.pix.length ≤ maxLen ∧ (m.pix = [] ∨ ∃ d0 d1 es sp, d = .agg [d0, d1, .slice es sp] ∧ es.length = m.pix.length) ∧ (Lit.int .i64 m.w).wf = true ∧ (Lit.int .i64 m.h).wf = true ∧ ∀ n ∈ m.pix, (Lit.int .i64 n).wf = true := by
  have key : ∃ (v0 v1 v2 : Value) (y0 y1 y2 : DataW H × List MemPlace) (n : Nat), v = .agg #[v0, v1, v2] ∧ d = .agg [y0.1, y1.1, y2.1] ∧ p = y0.2 ++ (y1.2 ++ y2.2) ∧
      DataW.trod enc Try.prog W 0 (fun _ => true) true n 3 [v0] = some y0 ∧ DataW.trod enc Try.prog W 0 (fun _ => true) true n 3 [v1] = some y1 ∧ DataW.trod enc Try.prog W 0 (fun _ => true) true n 23 [v2] = some y2 := by
    exact Joins.open_agg3 Try.underlying25 (by kernel_rfl) (by kernel_rfl) hv h
  obtain ⟨v0, v1, v2, y0, y1, y2, n, rfl, hd, -, h0, h1, h2⟩ := key
  obtain ⟨a, ha, wa⟩ := DataW.trod_int Try.underlying3 h0
  obtain ⟨b, hb, wb⟩ := DataW.trod_int Try.underlying3 h1
  simp only [List.cons.injEq, and_true] at ha hb
  subst ha hb
  obtain ⟨l, hl, hm, hwf, hsp⟩ := ints_of_cell Try.underlying23 Try.underlying3 (by kernel_rfl) h2
  refine ⟨⟨a, b, l⟩, v2, rfl, hl, hm, ?_, ?_, ?_, hwf⟩
  · rcases hsp with h9 | ⟨es, sp, h9, h8⟩
    · exact .inl h9
    · exact .inr ⟨_, _, es, sp, by rw [hd, h9], h8⟩
  · exact wa.2
  · exact wb.2
set_option maxRecDepth 100000 in
theorem read_con {H : Type} {enc : TypeId × Value → H} {W : World} {base : Nat} {v : Value} {d : DataW H} {p : List MemPlace}
    (hv : Value.okWide Try.prog W .any base 27 v) (h : DataW.Trod enc Try.prog W 0 (fun _ => true) true 27 v d p) : ∃ c : Con, v = conVal c := by
  obtain ⟨v0, v1, y0, y1, n, rfl, -, -, h0, h1⟩ := Joins.open_agg2 Try.underlying27 (by kernel_rfl) (by kernel_rfl) hv h
  obtain ⟨a, ha, _⟩ := DataW.trod_int Try.underlying3 h0
  obtain ⟨b, hb, _⟩ := DataW.trod_int Try.underlying3 h1
  simp only [List.cons.injEq, and_true] at ha hb
  subst ha hb
  exact ⟨⟨a, b⟩, rfl⟩
end Go.Proofs.Ytlnofbdhamingaa
