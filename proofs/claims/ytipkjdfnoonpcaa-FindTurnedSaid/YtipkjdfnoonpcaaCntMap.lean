/- Maps that count, over any key. -/
import Derived.Test.YtipkjdfnoonpcaaGE
set_option linter.unusedVariables false
set_option linter.unusedSimpArgs false
namespace Go.Proofs.Ytipkjdfnoonpcaa
open Go.RowKit Go.Sort

open Go.Maps (Keyed)
open Go.ChangeMaps (setBlock)
structure KeyEnc {α : Type} (kt : TypeId) (val : α → Value) (lit : α → Lit) (wf : α → Prop) : Prop where
  key : ∀ p, wf p → keyOf Try.prog kt (val p) = some (lit p)
  inj : ∀ p q, wf p → wf q → lit p = lit q → p = q
  law : Keyed Try.prog kt
  klaw : WideMaps.KeyLaw Try.prog kt
/-- the map b counts, for each key, how often it was met -/
def CntAt {α : Type} (kt : TypeId) (lit : α → Lit) (wf : α → Prop) (w : World) (b n : Nat) (f : α → Nat) : Prop :=
  ∃ D : DataW Unit, w.ownsMap Try.prog kt (plainElem Try.prog 3) b n D ∧ (∀ p : α, wf p → D.atKey (lit p) (.lit (.int .i64 0)) = .lit (.int .i64 (f p)))
theorem CntAt.made {α : Type} (kt : TypeId) (lit : α → Lit) (wf : α → Prop) (w : World) : CntAt kt lit wf (w.alloc (.map #[] 0)) w.heap.size 0 (fun _ => 0) :=
  ⟨.map [], World.ownsMap_made w _ _ _, fun p _ => rfl⟩
theorem CntAt.block {α : Type} {kt : TypeId} {lit : α → Lit} {wf : α → Prop} {w w' : World} {b n : Nat} {f : α → Nat} (h : CntAt kt lit wf w b n f) (hb : w'.heap[b]? = w.heap[b]?) : CntAt kt lit wf w' b n f := by
  obtain ⟨D, ⟨es, clock, h1, h2⟩, h3⟩ := h
  exact ⟨D, ⟨es, clock, hb.trans h1, h2⟩, h3⟩
theorem CntAt.lt {α : Type} {kt : TypeId} {lit : α → Lit} {wf : α → Prop} {w : World} {b n : Nat} {f : α → Nat} (h : CntAt kt lit wf w b n f) : b < w.heap.size := by
  obtain ⟨D, h1, -⟩ := h
  exact h1.lt
theorem CntAt.ext {α : Type} {kt : TypeId} {lit : α → Lit} {wf : α → Prop} {w w' : World} {b n : Nat} {f : α → Nat} (h : CntAt kt lit wf w b n f) (hE : Ext w w') : CntAt kt lit wf w' b n f := h.block (Below.block hE b h.lt)
theorem CntAt.look {α : Type} {kt mt : TypeId} {val : α → Value} {lit : α → Lit} {wf : α → Prop} (E : KeyEnc kt val lit wf) (hmt : Try.prog.underlying mt = some (.map kt 3)) {w : World} {b n : Nat} {f : α → Nat} (h : CntAt kt lit wf w b n f) {p : α} (hp : wf p) :
    (Instr.lookup mt (.map (some b)) (val p) false).run Try.prog w = .ok (.int .i64 (f p)) w := by
  obtain ⟨D, hown, h1⟩ := h
  obtain ⟨c, hrun, hat, hwc⟩ := hown.lookup_int E.law hmt Try.underlying3 (zero3 w) (E.key p hp)
  have hc : c = (f p : Int) := by
    rw [h1 p hp] at hat
    simp at hat
    exact hat.symm
  rw [hrun, hc]
set_option maxHeartbeats 1000000 in
theorem CntAt.bump {α : Type} [DecidableEq α] {kt mt : TypeId} {val : α → Value} {lit : α → Lit} {wf : α → Prop} (E : KeyEnc kt val lit wf) (hmt : Try.prog.underlying mt = some (.map kt 3)) {w : World} {b n : Nat} {f : α → Nat} (h : CntAt kt lit wf w b n f) {p : α} (hp : wf p) (hn : n < maxLen) (hf : f p < 1000000) :
    ∃ (v0 : Value) (st : Nat) (w1 w2 : World), (Instr.lookup mt (.map (some b)) (val p) false).run Try.prog w = .ok (.int .i64 (f p)) w ∧ (Instr.mapEntry mt (.map (some b)) (val p)).run Try.prog w = .ok (.tuple #[v0, .int .i64 st]) w1 ∧
      (Instr.lookup mt (.map (some b)) (val p) false).run Try.prog w1 = .ok (.int .i64 (f p)) w1 ∧
      (Instr.entryStore mt (.map (some b)) (.int .i64 st) (.int .i64 ((f p : Int) + 1))).run Try.prog w1 = .ok () w2 ∧ CntAt kt lit wf w2 b (n + 1) (fun q => f q + if q = p then 1 else 0) ∧ w.grownBy w2 (some b) := by
  obtain ⟨D, hown, h1⟩ := h
  have hkey : keyOf Try.prog kt (val p) = some (lit p) := E.key p hp
  obtain ⟨c, hrun, hat, hwc⟩ := hown.lookup_int E.law hmt Try.underlying3 (zero3 w) hkey
  have hc : c = (f p : Int) := by
    rw [h1 p hp] at hat
    simp at hat
    exact hat.symm
  subst hc
  have hwf : (Lit.int .i64 ((f p : Int) + 1)).wf = true := WalkArith.wf_i64 ⟨by omega, by omega⟩
  obtain ⟨w2', hupd, hown2, hg⟩ := hown.update E.law hmt hn hkey (plainElem_int Try.underlying3 hwf)
  have hIs : Maps.IsMap D := by
    obtain ⟨es, -, -, -, -, rfl⟩ := hown
    exact ⟨_, rfl⟩
  obtain ⟨es, clock, hb, F, hs, hD⟩ := hown
  obtain ⟨v0, st, es1, clock1, hE, -, hS⟩ := WideElems.entry_then_store E.klaw hmt (fun u => zero3 u) hb F hkey
  have hb1 : (setBlock w b (.map es1 clock1)).heap[b]? = some (.map es1 clock1) := ChangeMaps.heap_setBlock_same hb _
  obtain ⟨u0, ux, uw, k1, k2, k3⟩ := entry_look E.klaw hmt (fun u => zero3 u) hb F.keys hkey
  rw [hrun] at k2
  rw [hE] at k1
  rw [Result.ok.injEq] at k1 k2
  have k5 := k2.1
  have k6 := k1.2
  subst k5 k6
  obtain ⟨es', clock', hST, hU⟩ := hS _ (.int .i64 ((f p : Int) + 1)) hb1
  rw [setBlock_twice] at hST
  have hw : w2' = setBlock w b (.map es' clock') := by
    rw [hupd] at hU
    injection hU
  subst hw
  have hkl : WideAt.IsKeyLit (lit p) := E.law.key hkey
  refine ⟨v0, st, _, _, hrun, hE, k3, hST, ⟨_, hown2, fun q hq => ?_⟩, hg⟩
  by_cases e : q = p
  · subst e
    rw [Maps.atKey_put_same hIs hkl]
    simp
  · rw [Maps.atKey_put_other (fun h9 => e (E.inj q p hq hp h9)), h1 q hq]
    simp [e]
end Go.Proofs.Ytipkjdfnoonpcaa
