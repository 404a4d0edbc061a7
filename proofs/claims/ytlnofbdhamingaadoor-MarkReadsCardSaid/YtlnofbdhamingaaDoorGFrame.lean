/- Joined from the parts MarkFrame, MarkFrame2. -/
import Derived.Test.YtlnofbdhamingaaDoorGField
import Derived.Test.YtlnofbdhamingaaDoorRows
import Derived.ProofKit
import Derived.OpenShut
import Derived.ChangeOld
import Derived.Handy
import Derived.Lay
import Derived.LaidSub
import Derived.LaidLaws
import Derived.LaidHandle
import Derived.MakeChecks
import Derived.Stop.Joined
import Derived.Lib.LaidTab
import Derived.Lib.SmallJoins
set_option linter.unusedVariables false
set_option linter.unusedSimpArgs false
/- The frame of a law whose row lists tables: a function of plain data that returns true and leaves what was there as it was. -/
namespace Go.Proofs.YtlnofbdhamingaaDoor
open Go.RowKit Go.Sort Go.ChangeShapes Go.WideShapes Go.ChangeAt

theorem own : ownKnob Tryd.prog.godebug = none := by kernel_rfl
theorem laidOut : laidOutB Tryd.prog = true := by kernel_rfl
theorem trodAll_ext {H : Type} {enc : TypeId × Value → H} {P : Program} (hl : laidOutB P = true) {W W' : World} (hb : Ext W W') :
    ∀ (ts : List TypeId) (vs : List Value) (ds : List (DataW H)) (ps : List MemPlace), (∀ t ∈ ts, P.readableRec t = true ∧ t < P.types.size) →
      DataW.TrodAll enc P W 0 (fun _ => true) true ts vs ds ps → DataW.TrodAll enc P W' 0 (fun b => decide (b < W.heap.size)) true ts vs ds ps
  | [], vs, ds, ps, _, h => by
    obtain ⟨rfl, rfl, rfl⟩ := trodAll_nil h
    exact trodAll_mk0
  | t :: ts, vs, ds, ps, hr, h => by
    obtain ⟨v, vs', d, ds', p, q, rfl, rfl, rfl, hd, hrest⟩ := trodAll_cons h
    have ht := hr t (by simp)
    have k := hd
    have lt : ∀ x ∈ p, x.block < W.heap.size := by obtain ⟨m, hm⟩ := k; exact DataW.trod_lt m _ _ _ hm
    exact trodAll_cons_mk (Below.trod hl ht.1 ht.2 hd hb lt) (trodAll_ext hl hb ts vs' ds' q (fun t' h' => hr t' (by simp [h'])) hrest)
/-- the tables that the rows of this seat list -/
abbrev laidB : List (String × DataW Unit) := [("sightbench/mark.powers", Rows.laid_sightbench_mark_powers), ("sightbench/mark.logs", Rows.laid_sightbench_mark_logs)]
theorem pow_of {W : World} (h : laidMet Tryd.prog laidB W) : Tabs W := by
  have h1 : laidMet Tryd.prog [("sightbench/mark.powers", Lib.tabData .u8 powT)] W := by
    have := laidMet.filter (fun x => x.1 == "sightbench/mark.powers") h
    rw [show laidB.filter (fun x => x.1 == "sightbench/mark.powers") = [("sightbench/mark.powers", Lib.tabData .u8 powT)] by kernel_rfl] at this
    exact this
  have h2 : laidMet Tryd.prog [("sightbench/mark.logs", Lib.tabData .i64 logT)] W := by
    have := laidMet.filter (fun x => x.1 == "sightbench/mark.logs") h
    rw [show laidB.filter (fun x => x.1 == "sightbench/mark.logs") = [("sightbench/mark.logs", Lib.tabData .i64 logT)] by kernel_rfl] at this
    exact this
  exact ⟨Lib.tabIs_of_head (g := 0) (t := 125) (e := 92) (n := 30) (by kernel_rfl) (by kernel_rfl) (by kernel_rfl) (by kernel_rfl) (by kernel_rfl) (by kernel_rfl) h1,
    Lib.tabIs_of_head (g := 1) (t := 126) (e := 3) (n := 16) (by kernel_rfl) (by kernel_rfl) (by kernel_rfl) (by kernel_rfl) (by kernel_rfl) (by kernel_rfl) h2⟩
set_option maxRecDepth 100000 in
theorem law_returns {os : Os} (started : os.Started) {f : FuncId} {fn : Func} {s : ChangeSpec} {H : Type} {enc : TypeId × Value → H} {tb : TypeId} (L : List (String × DataW Unit))
    (noInit : Tryd.prog.inits.idxOf? f = none) (hfn : Tryd.prog.funcs[f]? = some fn)
    (hrt : fn.resultTypes = #[tb]) (hbool : Tryd.prog.underlying tb = some .bool) (hvars : s.vars = [])
    (hs : ∀ ds : List (DataW H), ds.length = fn.params.toList.length → (s.fn H (ds ++ [])).results = [.lit (.bool true)] ∧ (s.fn H (ds ++ [])).args = ds ∧ (s.fn H (ds ++ [])).vars = [])
    (hread : ∀ t ∈ fn.params.toList, Tryd.prog.readableRec t = true ∧ t < Tryd.prog.types.size)
    (witness : ∃ (w : World) (tape : Tape) (i : Input), w.os = os ∧ (w.forCall tape i).Shaped Tryd.checked.prog ∧ i.vars = [] ∧ Input.okWide Tryd.checked.prog (w.forCall tape i) .any w.heap.size f i ∧
      ((s.pre enc Tryd.checked.prog fn [] false (w.forCall tape i).memory i.args ∧ laidMetH Tryd.prog L (w.forCall tape i).memory) ∧ sizedMet enc Tryd.checked.prog fn (OpenSpec.ofChange s) false (w.forCall tape i).memory i.args) ∧ ({} : Assume).holds Tryd.checked.prog (lone (Frame.enter Tryd.checked.prog f i.args .normal) [] (w.forCall tape i)))
    (walk : ∀ (W : World) (base : Nat) (args : Array Value) (ds : List (DataW H)) (p : List MemPlace),
      (∀ (j : Nat) t v, fn.params[j]? = some t → args[j]? = some v → Value.okWide Tryd.prog W .any base t v) →
      DataW.TrodAll enc Tryd.prog W 0 (fun _ => true) true fn.params.toList args.toList ds p → laidMetH Tryd.prog L W →
      (DataW.weightsEach Tryd.prog (fn.params.toList ++ []) (ds ++ [])).all (· ≤ reachBytes) = true →
      Calls Tryd.prog f args W fun e W' => e = .returned (.bool true) ∧ Ext W W') :
    ReturnsInHanded {} Tryd.checked os f .any (fun w args => (s.pre enc Tryd.prog fn [] false w args ∧ laidMetH Tryd.prog L w) ∧ sizedMet enc Tryd.prog fn (OpenSpec.ofChange s) false w args) (s.post enc Tryd.prog fn false true false false) := by
  refine returnsInHanded_of_change_and (C := Tryd.checked) (X := fun w _ => laidMetH Tryd.prog L w) (fun _ _ _ hh h => h.of_heap hh) own started noInit hfn witness ?_
  intro W base args ds gs before hval hW _ hsz hL _
  have hW' := hW
  obtain ⟨p, q, hA, hV, rfl, hfz, hnd⟩ := hW
  rw [hvars] at hV
  obtain ⟨rfl, rfl⟩ := trodVars_none hV
  have hsz' : (DataW.weightsEach Tryd.prog (fn.params.toList ++ []) (ds ++ [])).all (· ≤ reachBytes) = true := by
    have e : s.plain.varTypes Tryd.checked.prog = [] := by unfold DataSpec.varTypes; rw [show s.plain.vars = s.vars from rfl, hvars]; rfl
    rw [e] at hsz
    exact hsz
  refine (walk W base args ds p hval hA hL hsz').mono ?_
  rintro e W' ⟨rfl, hb⟩
  have hlen : ∀ (ts : List TypeId) (vs : List Value) (ds : List (DataW H)) (ps : List MemPlace), DataW.TrodAll enc Tryd.prog W 0 (fun _ => true) true ts vs ds ps → ds.length = ts.length := by
    intro ts
    induction ts with
    | nil => intro vs ds ps h; obtain ⟨_, rfl, _⟩ := trodAll_nil h; rfl
    | cons t ts ih =>
      intro vs ds ps h
      obtain ⟨v, vs', d, ds', p, q, rfl, rfl, rfl, hd, hrest⟩ := trodAll_cons h
      simp [ih _ _ _ hrest]
  obtain ⟨h1, h2, h3⟩ := hs ds (hlen _ _ _ _ hA)
  refine ⟨_, rfl, ds, [], _, [], p, [], hW', ?_, ?_, ?_, hb.frame _, fun h => by cases h⟩
  · rw [h1, hrt]
    exact trodAll_mk1 (shut_bool hbool _)
  · rw [h2]
    exact trodAll_ext laidOut hb _ _ _ _ hread hA
  · rw [h3, hvars]
    exact rfl
/-- the world in which the tables lie -/
theorem shaped0 (os : Os) : (World.laidAll Tryd.prog os laidB).os = os := World.laidAll_os _ _ _
theorem met0 (os : Os) (args : Array Value) : laidMetH Tryd.prog laidB ((World.laidAll Tryd.prog os laidB).forCall (fun _ _ => 0) ⟨#[], args, []⟩).memory := by
  rw [MakeChecks.laidMetH_plain _ _ _ (by kernel_rfl)]
  exact laidMet_laidAll _ (by kernel_rfl) (by kernel_rfl)
theorem pow_ofH {W : World} (h : laidMetH Tryd.prog laidB W) : Tabs W := by
  rw [MakeChecks.laidMetH_plain _ _ _ (by kernel_rfl)] at h
  exact pow_of h
end Go.Proofs.YtlnofbdhamingaaDoor

/- The frame of the outright laws: four listed tables, of which the program's own two are read. -/
namespace Go.Proofs.YtlnofbdhamingaaDoor
open Go.RowKit Go.Sort Go.ChangeShapes Go.WideShapes Go.ChangeAt

theorem and_t {a b : Bool} (h : a = true) (k : b = true) : (a && b) = true := by rw [h, k]; rfl
set_option maxHeartbeats 4000000 in
theorem enterF : Tryd.prog.mayEnter = true := by kernel_rfl
set_option maxHeartbeats 4000000 in
theorem liftsF : (Rows.markFieldRow.lifted == Tryd.prog.liftsFinal) = true := by kernel_rfl
set_option maxHeartbeats 4000000 in
theorem makeF : (Tryd.prog.make == some Rows.markFieldRow.make) = true := by kernel_rfl
/-- the tables that the outright laws' rows list -/
abbrev laidF : List (String × DataW Unit) := [("unicode/utf8.acceptRanges", Rows.laid_unicode_utf8_acceptRanges), ("sightbench/mark.powers", Rows.laid_sightbench_mark_powers), ("sightbench/mark.logs", Rows.laid_sightbench_mark_logs), ("unicode/utf8.first", Rows.laid_unicode_utf8_first)]
theorem metF (os : Os) (args : Array Value) : laidMetH Tryd.prog laidF ((World.laidAll Tryd.prog os laidF).forCall (fun _ _ => 0) ⟨#[], args, []⟩).memory := by
  rw [MakeChecks.laidMetH_plain _ _ _ (by kernel_rfl)]
  exact laidMet_laidAll _ (by kernel_rfl) (by kernel_rfl)
theorem pow_ofF {W : World} (h : laidMetH Tryd.prog laidF W) : Tabs W := by
  rw [MakeChecks.laidMetH_plain _ _ _ (by kernel_rfl)] at h
  have := laidMet.filter (fun x => x.1 == "sightbench/mark.powers" || x.1 == "sightbench/mark.logs") h
  rw [show laidF.filter (fun x => x.1 == "sightbench/mark.powers" || x.1 == "sightbench/mark.logs") = laidB by kernel_rfl] at this
  exact pow_of this
end Go.Proofs.YtlnofbdhamingaaDoor
