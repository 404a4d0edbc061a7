/- Maps keyed by poses. -/
import Derived.Test.YtipkjdfnoonpcaaSameS
import Derived.Test.YtipkjdfnoonpcaaFindFrame
import Derived.Maps.Range
import Derived.Maps.Views
import Derived.Maps.RangeWalk
import Derived.Maps.Own
import Derived.DeepKeys5
import Derived.WideKeyEntry
set_option linter.unusedVariables false
set_option linter.unusedSimpArgs false
namespace Go.Proofs.Ytipkjdfnoonpcaa
open Go.RowKit Go.Sort

open Go.Maps (Keyed)
theorem law45 : Keyed Try.prog 45 := Keyed.of_law (deep_law_gate laidOut (of_decide_eq_true (by kernel_rfl)) (of_decide_eq_true (by kernel_rfl)) (by kernel_rfl) (by rw [Try.underlying45]))
/-- the numbers of a pose are Go's -/
def Pose.Wf (p : Pose) : Prop := (Lit.int .i64 p.x).wf = true ∧ (Lit.int .i64 p.y).wf = true ∧ (Lit.int .i64 p.turn).wf = true ∧ (Lit.int .i64 p.scale).wf = true
theorem key45 {p : Pose} (h : p.Wf) : keyOf Try.prog 45 (poseVal p) = some (.string (keyBytes [.int .i64 p.x, .int .i64 p.y, .int .i64 p.turn, .int .i64 p.scale])) := by
  obtain ⟨h0, h1, h2, h3⟩ := h
  have hkt : Try.prog.keyType 45 = true := by kernel_rfl
  have hc : Try.prog.cellsOf 45 = 4 := by kernel_rfl
  have hc3 : Try.prog.cellsOf 3 = 1 := by kernel_rfl
  obtain ⟨m, hm⟩ : ∃ m, Try.prog.types.size = m + 1 := ⟨Try.prog.types.size - 1, by have : 0 < Try.prog.types.size := of_decide_eq_true (by kernel_rfl); omega⟩
  unfold keyOf poseVal
  simp only [Try.underlying45]
  rw [if_pos (by simp [hkt, Value.formed, Try.underlying45, hc]), hm]
  unfold Program.keyLits
  simp only [Try.underlying45, Value.cells]
  rw [if_pos (by rw [hc]; exact ⟨rfl, by kernel_rfl⟩)]
  simp [Program.keyLits, Try.underlying3, hc3, Value.cells, h0, h1, h2, h3]
def poseLit (p : Pose) : Lit := .string (keyBytes [.int .i64 p.x, .int .i64 p.y, .int .i64 p.turn, .int .i64 p.scale])
theorem poseLit_inj {p q : Pose} (hp : p.Wf) (hq : q.Wf) (h : poseLit p = poseLit q) : p = q := by
  have h1 := key45 hp
  have h2 := key45 hq
  have h3 := law45.inj h1 (show keyOf Try.prog 45 (poseVal q) = _ from h2.trans (congrArg some h.symm))
  unfold poseVal at h3
  obtain ⟨p0, p1, p2, p3⟩ := p
  obtain ⟨q0, q1, q2, q3⟩ := q
  simp at h3
  obtain ⟨rfl, rfl, rfl, rfl⟩ := h3
  rfl
open Go.ChangeMaps (setBlock)
theorem klaw45 : WideMaps.KeyLaw Try.prog 45 := deep_law_gate laidOut (of_decide_eq_true (by kernel_rfl)) (of_decide_eq_true (by kernel_rfl)) (by kernel_rfl) (by rw [Try.underlying45])
/-- the map b counts, for each pose, how often it was met -/
def CovAt (w : World) (b n : Nat) (f : Pose → Nat) : Prop :=
  ∃ D : DataW Unit, w.ownsMap Try.prog 45 (plainElem Try.prog 3) b n D ∧ (∀ p : Pose, p.Wf → D.atKey (poseLit p) (.lit (.int .i64 0)) = .lit (.int .i64 (f p))) ∧
    (∀ k, Maps.has D k = true → ∃ p : Pose, p.Wf ∧ k = poseLit p ∧ 0 < f p) ∧ ∀ p : Pose, p.Wf → 0 < f p → Maps.has D (poseLit p) = true
theorem CovAt.made (w : World) : CovAt (w.alloc (.map #[] 0)) w.heap.size 0 (fun _ => 0) :=
  ⟨.map [], World.ownsMap_made w _ _ _, fun p _ => rfl, fun k h => (by cases h), fun p _ h => absurd h (Nat.lt_irrefl _)⟩
theorem CovAt.kept {w w' : World} {b n : Nat} {f : Pose → Nat} {row : Option Nat} (h : CovAt w b n f) (hg : w.grownBy w' row) (hne : some b ≠ row) : CovAt w' b n f := by
  obtain ⟨D, h1, h2⟩ := h
  exact ⟨D, h1.kept hg hne, h2⟩
theorem CovAt.block {w w' : World} {b n : Nat} {f : Pose → Nat} (h : CovAt w b n f) (hb : w'.heap[b]? = w.heap[b]?) : CovAt w' b n f := by
  obtain ⟨D, ⟨es, clock, h1, h2⟩, h3⟩ := h
  exact ⟨D, ⟨es, clock, hb.trans h1, h2⟩, h3⟩
theorem CovAt.lt {w : World} {b n : Nat} {f : Pose → Nat} (h : CovAt w b n f) : b < w.heap.size := by
  obtain ⟨D, h1, -⟩ := h
  exact h1.lt
theorem setBlock_twice (w : World) (b : Nat) (o o' : Obj) : setBlock (setBlock w b o) b o' = setBlock w b o' := by
  unfold setBlock
  simp
theorem zero3 (w : World) : (zeroValue 3).run Try.prog w = .ok (.int .i64 0) w := by kernel_rfl
theorem entry_look {P : Program} {w : World} {t k e : TypeId} {b : Nat} {es : Array MapEntry} {clock : Nat} (K : WideMaps.KeyLaw P k) (ht : P.underlying t = some (.map k e)) {z : Value} (hz : ∀ u : World, (zeroValue e).run P u = .ok z u) (hb : w.heap[b]? = some (.map es clock)) (hks : ∀ x ∈ es.toList, ∃ l, keyOf P k x.key = some l)
    {key : Value} {kl : Lit} (hkey : keyOf P k key = some kl) : ∃ v0 x w1, (Instr.mapEntry t (.map (some b)) key).run P w = .ok (.tuple #[v0, x]) w1 ∧ (Instr.lookup t (.map (some b)) key false).run P w = .ok v0 w ∧ (Instr.lookup t (.map (some b)) key false).run P w1 = .ok v0 w1 := by
  rcases K.find w hkey es.toList hks with ⟨h1, h2⟩ | ⟨j, e0, h1, h2, h3⟩
  · have hb1 : (setBlock w b (.map (es.push ⟨key, z, clock⟩) (clock + 1))).heap[b]? = some (.map (es.push ⟨key, z, clock⟩) (clock + 1)) := ChangeMaps.heap_setBlock_same hb _
    refine ⟨z, goInt clock, setBlock w b (.map (es.push ⟨key, z, clock⟩) (clock + 1)), ?_, ?_, ?_⟩
    · simp [Instr.mapEntry, run_underlying ht, MapKept.run_getObj_map hb, K.check w false hkey, h1, hz, MapKept.run_setObj_map _ hb, Result.andThen, setBlock]
    · simp [Instr.lookup, run_underlying ht, MapKept.run_getObj_map hb, K.check w _ hkey, h1, hz, Result.andThen]
    · obtain ⟨w1, hw1⟩ : ∃ w1, setBlock w b (.map (es.push ⟨key, z, clock⟩) (clock + 1)) = w1 := ⟨_, rfl⟩
      rw [hw1] at hb1 ⊢
      have e1 : (es.push ⟨key, z, clock⟩).toList = es.toList ++ [⟨key, z, clock⟩] := Array.toList_push
      rcases K.find w1 hkey (es.toList ++ [⟨key, z, clock⟩]) (by
        intro x hx
        rcases List.mem_append.1 hx with hx | hx
        · exact hks x hx
        · rw [List.mem_singleton.1 hx]; exact ⟨kl, hkey⟩) with ⟨g1, g2⟩ | ⟨j, e0, g1, g2, g3⟩
      · exact absurd rfl (g2 ⟨key, z, clock⟩ (by simp))
      · have hval : e0.val = z := by
          rcases List.mem_append.1 (List.mem_of_getElem? g2) with hm | hm
          · exact absurd g3 (h2 e0 hm)
          · rw [List.mem_singleton.1 hm]
        rw [hval] at g1
        simp [Instr.lookup, run_underlying ht, MapKept.run_getObj_map hb1, K.check w1 _ hkey, g1, Result.andThen]
  · have hj : es[j]? = some e0 := by simpa using h2
    have hsame : es.modify j (fun e => { e with key := key }) = es := by
      apply Array.ext'
      rw [Array.toList_modify, ChangeMaps.modify_eq_set _ _ _ _ h2]
      have : ({ e0 with key := key } : MapEntry) = e0 := by rw [← h3]
      rw [this]
      exact WideElems.set_self _ _ _ h2
    have hself : setBlock w b (.map es clock) = w := by
      unfold setBlock
      have h9 : w.heap.setIfInBounds b (.map es clock) = w.heap := by
        apply Array.ext'
        rw [Array.toList_setIfInBounds]
        exact WideElems.set_self _ _ _ (by simpa using hb)
      rw [h9]
    have hL : (Instr.lookup t (.map (some b)) key false).run P w = .ok e0.val w := by simp [Instr.lookup, run_underlying ht, MapKept.run_getObj_map hb, K.check w _ hkey, h1, Result.andThen]
    refine ⟨e0.val, goInt e0.born, w, ?_, hL, hL⟩
    have : (Instr.mapEntry t (.map (some b)) key).run P w = .ok (.tuple #[e0.val, goInt e0.born]) (setBlock w b (.map es clock)) := by
      simp [Instr.mapEntry, run_underlying ht, MapKept.run_getObj_map hb, K.check w false hkey, h1, hj, h3, K.stays w hkey, hsame, MapKept.run_setObj_map _ hb, Result.andThen, setBlock]
    rw [this, hself]
set_option maxHeartbeats 1000000 in
theorem CovAt.bump {w : World} {b n : Nat} {f : Pose → Nat} (h : CovAt w b n f) {p : Pose} (hp : p.Wf) (hn : n < maxLen) (hf : f p < 1000000) :
    ∃ (v0 : Value) (st : Nat) (w1 w2 : World), (Instr.lookup 142 (.map (some b)) (poseVal p) false).run Try.prog w = .ok (.int .i64 (f p)) w ∧ (Instr.mapEntry 142 (.map (some b)) (poseVal p)).run Try.prog w = .ok (.tuple #[v0, .int .i64 st]) w1 ∧
      (Instr.lookup 142 (.map (some b)) (poseVal p) false).run Try.prog w1 = .ok (.int .i64 (f p)) w1 ∧
      (Instr.entryStore 142 (.map (some b)) (.int .i64 st) (.int .i64 ((f p : Int) + 1))).run Try.prog w1 = .ok () w2 ∧ CovAt w2 b (n + 1) (fun q => f q + if q = p then 1 else 0) ∧ w.grownBy w2 (some b) := by
  obtain ⟨D, hown, h1, h2, h3⟩ := h
  have hkey : keyOf Try.prog 45 (poseVal p) = some (poseLit p) := key45 hp
  obtain ⟨c, hrun, hat, hwc⟩ := hown.lookup_int law45 Try.underlying142 Try.underlying3 (zero3 w) hkey
  have hc : c = (f p : Int) := by
    rw [h1 p hp] at hat
    simp at hat
    exact hat.symm
  subst hc
  have hwf : (Lit.int .i64 ((f p : Int) + 1)).wf = true := WalkArith.wf_i64 ⟨by omega, by omega⟩
  obtain ⟨w2', hupd, hown2, hg⟩ := hown.update law45 Try.underlying142 hn hkey (plainElem_int Try.underlying3 hwf)
  have hIs : Maps.IsMap D := by
    obtain ⟨es, -, -, -, -, rfl⟩ := hown
    exact ⟨_, rfl⟩
  obtain ⟨es, clock, hb, F, hs, hD⟩ := hown
  obtain ⟨v0, st, es1, clock1, hE, -, hS⟩ := WideElems.entry_then_store klaw45 Try.underlying142 (fun u => zero3 u) hb F hkey
  have hb1 : (setBlock w b (.map es1 clock1)).heap[b]? = some (.map es1 clock1) := ChangeMaps.heap_setBlock_same hb _
  obtain ⟨u0, ux, uw, k1, k2, k3⟩ := entry_look klaw45 Try.underlying142 (fun u => zero3 u) hb F.keys hkey
  rw [hrun] at k2
  rw [hE] at k1
  rw [Result.ok.injEq] at k1 k2
  have k5 := k2.1
  have k6 := k1.2
  subst k5 k6
  obtain ⟨es', clock', hST, hU⟩ := hS _ (.int .i64 ((f p : Int) + 1)) hb1
  rw [setBlock_twice] at hST
  have hw : w2' = setBlock w b (.map es' clock') := by
    rw [hupd] at hU
    injection hU
  subst hw
  have hkl : WideAt.IsKeyLit (poseLit p) := law45.key hkey
  refine ⟨v0, st, _, _, hrun, hE, k3, hST, ⟨_, hown2, fun q hq => ?_, fun k hk => ?_, fun q hq hfq => ?_⟩, hg⟩
  · by_cases e : q = p
    · subst e
      rw [Maps.atKey_put_same hIs hkl]
      simp
    · rw [Maps.atKey_put_other (fun h9 => e (poseLit_inj hq hp h9)), h1 q hq]
      simp [e]
  · by_cases e : k = poseLit p
    · exact ⟨p, hp, e, by simp⟩
    · rw [Maps.has_put_other e] at hk
      obtain ⟨q, hq, e1, e2⟩ := h2 k hk
      exact ⟨q, hq, e1, Nat.lt_of_lt_of_le e2 (Nat.le_add_right _ _)⟩
  · by_cases e : q = p
    · subst e
      exact Maps.has_put_same hIs hkl _
    · rw [Maps.has_put_other (fun h9 => e (poseLit_inj hq hp h9))]
      exact h3 q hq (by simpa [e] using hfq)
end Go.Proofs.Ytipkjdfnoonpcaa
