/- Joined from the parts MapPose, Cover, CheckLaw, Proved, CheckFn. -/
import Derived.Test.YtipkjdfnoonpcaaGD
import Derived.Test.YtipkjdfnoonpcaaFindFrame
import Derived.Maps.Range
import Derived.Maps.Views
import Derived.Maps.RangeWalk
import Derived.Maps.Own
import Derived.DeepKeys5
import Derived.WideKeyEntry
import Derived.Deep.RegionHeld3
import Derived.Deep.DrawnRows
import Derived.Maps.OwnSet
set_option linter.unusedVariables false
set_option linter.unusedSimpArgs false
/- Maps keyed by poses. -/
namespace Go.Proofs.Ytipkjdfnoonpcaa
open Go.RowKit Go.Sort

open Go.Maps (Keyed)
theorem law45 : Keyed Try.prog 45 := Keyed.of_law (deep_law_gate laidOut (of_decide_eq_true (by kernel_rfl)) (of_decide_eq_true (by kernel_rfl)) (by kernel_rfl) (by rw [Try.underlying45]))
/-- the numbers of a pose are Go's -/
def Pose.Wf (p : Pose) : Prop := (Lit.int .i64 p.x).wf = true ∧ (Lit.int .i64 p.y).wf = true ∧ (Lit.int .i64 p.turn).wf = true ∧ (Lit.int .i64 p.scale).wf = true
theorem key45 {p : Pose} (h : p.Wf) : keyOf Try.prog 45 (poseVal p) = some (.string (keyBytes [.int .i64 p.x, .int .i64 p.y, .int .i64 p.turn, .int .i64 p.scale])) := by
  obtain ⟨h0, h1, h2, h3⟩ := h
  have hkt : Try.prog.keyType 45 = true := by kernel_rfl
  have hc : Try.prog.cellsOf 45 = 4 := by kernel_rfl
  have hc3 : Try.prog.cellsOf 3 = 1 := by kernel_rfl
  obtain ⟨m, hm⟩ : ∃ m, Try.prog.types.size = m + 1 := ⟨Try.prog.types.size - 1, by have : 0 < Try.prog.types.size := of_decide_eq_true (by kernel_rfl); omega⟩
  unfold keyOf poseVal
  simp only [Try.underlying45]
  rw [if_pos (by simp [hkt, Value.formed, Try.underlying45, hc]), hm]
  unfold Program.keyLits
  simp only [Try.underlying45, Value.cells]
  rw [if_pos (by rw [hc]; exact ⟨rfl, by kernel_rfl⟩)]
  simp [Program.keyLits, Try.underlying3, hc3, Value.cells, h0, h1, h2, h3]
def poseLit (p : Pose) : Lit := .string (keyBytes [.int .i64 p.x, .int .i64 p.y, .int .i64 p.turn, .int .i64 p.scale])
theorem poseLit_inj {p q : Pose} (hp : p.Wf) (hq : q.Wf) (h : poseLit p = poseLit q) : p = q := by
  have h1 := key45 hp
  have h2 := key45 hq
  have h3 := law45.inj h1 (show keyOf Try.prog 45 (poseVal q) = _ from h2.trans (congrArg some h.symm))
  unfold poseVal at h3
  obtain ⟨p0, p1, p2, p3⟩ := p
  obtain ⟨q0, q1, q2, q3⟩ := q
  simp at h3
  obtain ⟨rfl, rfl, rfl, rfl⟩ := h3
  rfl
open Go.ChangeMaps (setBlock)
theorem klaw45 : WideMaps.KeyLaw Try.prog 45 := deep_law_gate laidOut (of_decide_eq_true (by kernel_rfl)) (of_decide_eq_true (by kernel_rfl)) (by kernel_rfl) (by rw [Try.underlying45])
/-- the map b counts, for each pose, how often it was met -/
def CovAt (w : World) (b n : Nat) (f : Pose → Nat) : Prop :=
  ∃ D : DataW Unit, w.ownsMap Try.prog 45 (plainElem Try.prog 3) b n D ∧ (∀ p : Pose, p.Wf → D.atKey (poseLit p) (.lit (.int .i64 0)) = .lit (.int .i64 (f p))) ∧
    (∀ k, Maps.has D k = true → ∃ p : Pose, p.Wf ∧ k = poseLit p ∧ 0 < f p) ∧ ∀ p : Pose, p.Wf → 0 < f p → Maps.has D (poseLit p) = true
theorem CovAt.made (w : World) : CovAt (w.alloc (.map #[] 0)) w.heap.size 0 (fun _ => 0) :=
  ⟨.map [], World.ownsMap_made w _ _ _, fun p _ => rfl, fun k h => (by cases h), fun p _ h => absurd h (Nat.lt_irrefl _)⟩
theorem CovAt.kept {w w' : World} {b n : Nat} {f : Pose → Nat} {row : Option Nat} (h : CovAt w b n f) (hg : w.grownBy w' row) (hne : some b ≠ row) : CovAt w' b n f := by
  obtain ⟨D, h1, h2⟩ := h
  exact ⟨D, h1.kept hg hne, h2⟩
theorem CovAt.block {w w' : World} {b n : Nat} {f : Pose → Nat} (h : CovAt w b n f) (hb : w'.heap[b]? = w.heap[b]?) : CovAt w' b n f := by
  obtain ⟨D, ⟨es, clock, h1, h2⟩, h3⟩ := h
  exact ⟨D, ⟨es, clock, hb.trans h1, h2⟩, h3⟩
theorem CovAt.lt {w : World} {b n : Nat} {f : Pose → Nat} (h : CovAt w b n f) : b < w.heap.size := by
  obtain ⟨D, h1, -⟩ := h
  exact h1.lt
theorem setBlock_twice (w : World) (b : Nat) (o o' : Obj) : setBlock (setBlock w b o) b o' = setBlock w b o' := by
  unfold setBlock
  simp
theorem zero3 (w : World) : (zeroValue 3).run Try.prog w = .ok (.int .i64 0) w := by kernel_rfl
theorem entry_look {P : Program} {w : World} {t k e : TypeId} {b : Nat} {es : Array MapEntry} {clock : Nat} (K : WideMaps.KeyLaw P k) (ht : P.underlying t = some (.map k e)) {z : Value} (hz : ∀ u : World, (zeroValue e).run P u = .ok z u) (hb : w.heap[b]? = some (.map es clock)) (hks : ∀ x ∈ es.toList, ∃ l, keyOf P k x.key = some l)
    {key : Value} {kl : Lit} (hkey : keyOf P k key = some kl) : ∃ v0 x w1, (Instr.mapEntry t (.map (some b)) key).run P w = .ok (.tuple #[v0, x]) w1 ∧ (Instr.lookup t (.map (some b)) key false).run P w = .ok v0 w ∧ (Instr.lookup t (.map (some b)) key false).run P w1 = .ok v0 w1 := by
  rcases K.find w hkey es.toList hks with ⟨h1, h2⟩ | ⟨j, e0, h1, h2, h3⟩
  · have hb1 : (setBlock w b (.map (es.push ⟨key, z, clock⟩) (clock + 1))).heap[b]? = some (.map (es.push ⟨key, z, clock⟩) (clock + 1)) := ChangeMaps.heap_setBlock_same hb _
    refine ⟨z, goInt clock, setBlock w b (.map (es.push ⟨key, z, clock⟩) (clock + 1)), ?_, ?_, ?_⟩
    · simp [Instr.mapEntry, run_underlying ht, MapKept.run_getObj_map hb, K.check w false hkey, h1, hz, MapKept.run_setObj_map _ hb, Result.andThen, setBlock]
    · simp [Instr.lookup, run_underlying ht, MapKept.run_getObj_map hb, K.check w _ hkey, h1, hz, Result.andThen]
    · obtain ⟨w1, hw1⟩ : ∃ w1, setBlock w b (.map (es.push ⟨key, z, clock⟩) (clock + 1)) = w1 := ⟨_, rfl⟩
      rw [hw1] at hb1 ⊢
      have e1 : (es.push ⟨key, z, clock⟩).toList = es.toList ++ [⟨key, z, clock⟩] := Array.toList_push
      rcases K.find w1 hkey (es.toList ++ [⟨key, z, clock⟩]) (by
        intro x hx
        rcases List.mem_append.1 hx with hx | hx
        · exact hks x hx
        · rw [List.mem_singleton.1 hx]; exact ⟨kl, hkey⟩) with ⟨g1, g2⟩ | ⟨j, e0, g1, g2, g3⟩
      · exact absurd rfl (g2 ⟨key, z, clock⟩ (by simp))
      · have hval : e0.val = z := by
          rcases List.mem_append.1 (List.mem_of_getElem? g2) with hm | hm
          · exact absurd g3 (h2 e0 hm)
          · rw [List.mem_singleton.1 hm]
        rw [hval] at g1
        simp [Instr.lookup, run_underlying ht, MapKept.run_getObj_map hb1, K.check w1 _ hkey, g1, Result.andThen]
  · have hj : es[j]? = some e0 := by simpa using h2
    have hsame : es.modify j (fun e => { e with key := key }) = es := by
      apply Array.ext'
      rw [Array.toList_modify, ChangeMaps.modify_eq_set _ _ _ _ h2]
      have : ({ e0 with key := key } : MapEntry) = e0 := by rw [← h3]
      rw [this]
      exact WideElems.set_self _ _ _ h2
    have hself : setBlock w b (.map es clock) = w := by
      unfold setBlock
      have h9 : w.heap.setIfInBounds b (.map es clock) = w.heap := by
        apply Array.ext'
        rw [Array.toList_setIfInBounds]
        exact WideElems.set_self _ _ _ (by simpa using hb)
      rw [h9]
    have hL : (Instr.lookup t (.map (some b)) key false).run P w = .ok e0.val w := by simp [Instr.lookup, run_underlying ht, MapKept.run_getObj_map hb, K.check w _ hkey, h1, Result.andThen]
    refine ⟨e0.val, goInt e0.born, w, ?_, hL, hL⟩
    have : (Instr.mapEntry t (.map (some b)) key).run P w = .ok (.tuple #[e0.val, goInt e0.born]) (setBlock w b (.map es clock)) := by
      simp [Instr.mapEntry, run_underlying ht, MapKept.run_getObj_map hb, K.check w false hkey, h1, hj, h3, K.stays w hkey, hsame, MapKept.run_setObj_map _ hb, Result.andThen, setBlock]
    rw [this, hself]
set_option maxHeartbeats 1000000 in
theorem CovAt.bump {w : World} {b n : Nat} {f : Pose → Nat} (h : CovAt w b n f) {p : Pose} (hp : p.Wf) (hn : n < maxLen) (hf : f p < 1000000) :
    ∃ (v0 : Value) (st : Nat) (w1 w2 : World), (Instr.lookup 142 (.map (some b)) (poseVal p) false).run Try.prog w = .ok (.int .i64 (f p)) w ∧ (Instr.mapEntry 142 (.map (some b)) (poseVal p)).run Try.prog w = .ok (.tuple #[v0, .int .i64 st]) w1 ∧
      (Instr.lookup 142 (.map (some b)) (poseVal p) false).run Try.prog w1 = .ok (.int .i64 (f p)) w1 ∧
      (Instr.entryStore 142 (.map (some b)) (.int .i64 st) (.int .i64 ((f p : Int) + 1))).run Try.prog w1 = .ok () w2 ∧ CovAt w2 b (n + 1) (fun q => f q + if q = p then 1 else 0) ∧ w.grownBy w2 (some b) := by
  obtain ⟨D, hown, h1, h2, h3⟩ := h
  have hkey : keyOf Try.prog 45 (poseVal p) = some (poseLit p) := key45 hp
  obtain ⟨c, hrun, hat, hwc⟩ := hown.lookup_int law45 Try.underlying142 Try.underlying3 (zero3 w) hkey
  have hc : c = (f p : Int) := by
    rw [h1 p hp] at hat
    simp at hat
    exact hat.symm
  subst hc
  have hwf : (Lit.int .i64 ((f p : Int) + 1)).wf = true := WalkArith.wf_i64 ⟨by omega, by omega⟩
  obtain ⟨w2', hupd, hown2, hg⟩ := hown.update law45 Try.underlying142 hn hkey (plainElem_int Try.underlying3 hwf)
  have hIs : Maps.IsMap D := by
    obtain ⟨es, -, -, -, -, rfl⟩ := hown
    exact ⟨_, rfl⟩
  obtain ⟨es, clock, hb, F, hs, hD⟩ := hown
  obtain ⟨v0, st, es1, clock1, hE, -, hS⟩ := WideElems.entry_then_store klaw45 Try.underlying142 (fun u => zero3 u) hb F hkey
  have hb1 : (setBlock w b (.map es1 clock1)).heap[b]? = some (.map es1 clock1) := ChangeMaps.heap_setBlock_same hb _
  obtain ⟨u0, ux, uw, k1, k2, k3⟩ := entry_look klaw45 Try.underlying142 (fun u => zero3 u) hb F.keys hkey
  rw [hrun] at k2
  rw [hE] at k1
  rw [Result.ok.injEq] at k1 k2
  have k5 := k2.1
  have k6 := k1.2
  subst k5 k6
  obtain ⟨es', clock', hST, hU⟩ := hS _ (.int .i64 ((f p : Int) + 1)) hb1
  rw [setBlock_twice] at hST
  have hw : w2' = setBlock w b (.map es' clock') := by
    rw [hupd] at hU
    injection hU
  subst hw
  have hkl : WideAt.IsKeyLit (poseLit p) := law45.key hkey
  refine ⟨v0, st, _, _, hrun, hE, k3, hST, ⟨_, hown2, fun q hq => ?_, fun k hk => ?_, fun q hq hfq => ?_⟩, hg⟩
  · by_cases e : q = p
    · subst e
      rw [Maps.atKey_put_same hIs hkl]
      simp
    · rw [Maps.atKey_put_other (fun h9 => e (poseLit_inj hq hp h9)), h1 q hq]
      simp [e]
  · by_cases e : k = poseLit p
    · exact ⟨p, hp, e, by simp⟩
    · rw [Maps.has_put_other e] at hk
      obtain ⟨q, hq, e1, e2⟩ := h2 k hk
      exact ⟨q, hq, e1, Nat.lt_of_lt_of_le e2 (Nat.le_add_right _ _)⟩
  · by_cases e : q = p
    · subst e
      exact Maps.has_put_same hIs hkl _
    · rw [Maps.has_put_other (fun h9 => e (poseLit_inj hq hp h9))]
      exact h3 q hq (by simpa [e] using hfq)
end Go.Proofs.Ytipkjdfnoonpcaa

/- The closure that counts the poses of an area: the walk. -/
namespace Go.Proofs.Ytipkjdfnoonpcaa
open Go.RowKit Go.Sort
attribute [local go_sem ↓] Go.wp_at_zero Go.wp_at_succ

/-- the poses of an area that are counted: rows from the first to before y, and in row y columns before x -/
def Part (a : Area) (y x : Int) (p : Pose) : Prop := (a.turn = p.turn ∧ a.scale = p.scale) ∧ (((a.x0 ≤ p.x ∧ p.x ≤ a.x1) ∧ a.y0 ≤ p.y ∧ p.y < y) ∨ (p.y = y ∧ a.x0 ≤ p.x ∧ p.x < x))
instance partDec (a : Area) (y x : Int) (p : Pose) : Decidable (Part a y x p) := by unfold Part; infer_instance
theorem part_not (a : Area) (x y : Int) : ¬ Part a y x ⟨x, y, a.turn, a.scale⟩ := by
  rintro ⟨-, h | h⟩
  · have := h.2.2; dsimp only at this; omega
  · have := h.2.2; dsimp only at this; omega
theorem part_start (a : Area) (f : Pose → Nat) : (fun p => f p + if Part a a.y0 a.x0 p then 1 else 0) = f := by
  funext p
  rw [if_neg]
  · rfl
  · rintro ⟨-, h | h⟩ <;> omega
theorem part_step {a : Area} {f : Pose → Nat} {x y : Int} (h1 : a.x0 ≤ x) (h2 : x ≤ a.x1) : (fun q => (fun p => f p + if Part a y x p then 1 else 0) q + if q = ⟨x, y, a.turn, a.scale⟩ then 1 else 0) = fun p => f p + if Part a y (x + 1) p then 1 else 0 := by
  funext q
  dsimp only
  by_cases e : q = ⟨x, y, a.turn, a.scale⟩
  · subst e
    rw [if_neg (part_not a x y), if_pos rfl, if_pos]
    exact ⟨⟨rfl, rfl⟩, .inr ⟨rfl, h1, by dsimp only; omega⟩⟩
  · rw [if_neg e, Nat.add_zero]
    by_cases g : Part a y x q
    · rw [if_pos g, if_pos]
      obtain ⟨g1, g2 | g2⟩ := g
      · exact ⟨g1, .inl g2⟩
      · exact ⟨g1, .inr ⟨g2.1, g2.2.1, by omega⟩⟩
    · rw [if_neg g, if_neg]
      rintro ⟨⟨g1, g2⟩, g3 | g3⟩
      · exact g ⟨⟨g1, g2⟩, .inl g3⟩
      · obtain ⟨q0, q1, q2, q3⟩ := q
        dsimp only at g1 g2 g3
        obtain ⟨k1, k2, k3⟩ := g3
        by_cases k : q0 < x
        · exact g ⟨⟨g1, g2⟩, .inr ⟨k1, k2, k⟩⟩
        · exact e (by rw [← g1, ← g2, k1, show q0 = x by omega])
theorem ite_iff {p q : Prop} [Decidable p] [Decidable q] (h : p ↔ q) : (if p then 1 else 0 : Nat) = if q then 1 else 0 := by
  by_cases k : p
  · rw [if_pos k, if_pos (h.1 k)]
  · rw [if_neg k, if_neg fun k' => k (h.2 k')]
theorem part_row {a : Area} {f : Pose → Nat} {x y : Int} (h0 : a.y0 ≤ y) (h1 : a.x1 < x) (h2 : x ≤ a.x1 + 1) : (fun p => f p + if Part a y x p then 1 else 0) = fun p => f p + if Part a (y + 1) a.x0 p then 1 else 0 := by
  funext q
  congr 1
  refine ite_iff ⟨?_, ?_⟩
  · rintro ⟨g1, g2 | g2⟩
    · exact ⟨g1, .inl ⟨g2.1, g2.2.1, by omega⟩⟩
    · exact ⟨g1, .inl ⟨⟨g2.2.1, by omega⟩, by omega, by omega⟩⟩
  · rintro ⟨g1, g2 | g2⟩
    · by_cases k : q.y < y
      · exact ⟨g1, .inl ⟨g2.1, g2.2.1, k⟩⟩
      · exact ⟨g1, .inr ⟨by omega, g2.1.1, by omega⟩⟩
    · omega
theorem part_end {a : Area} {f : Pose → Nat} {y : Int} (h1 : a.y1 < y) (h2 : y ≤ a.y1 + 1) : (fun p => f p + if Part a y a.x0 p then 1 else 0) = fun p => f p + if a.Has p then 1 else 0 := by
  funext q
  congr 1
  refine ite_iff ⟨?_, ?_⟩
  · rintro ⟨g1, g2 | g2⟩
    · exact ⟨g1, g2.1, g2.2.1, by omega⟩
    · omega
  · rintro ⟨g1, g2, g3⟩
    exact ⟨g1, .inl ⟨g2, g3.1, by omega⟩⟩
theorem grownBy_drew (w : World) (row : Option Nat) : w.grownBy w.drew row := ⟨rfl, rfl, rfl, Nat.le_refl _, fun _ _ _ => rfl⟩
theorem CovAt.mono {w : World} {b n n' : Nat} {f : Pose → Nat} (h : CovAt w b n f) (hn : n ≤ n') : CovAt w b n' f := by
  obtain ⟨D, h1, h2⟩ := h
  exact ⟨D, h1.mono hn, h2⟩
theorem Ext.toGrown {w w' : World} (h : Ext w w') (row : Option Nat) : w.grownBy w' row := ⟨h.os, h.tape, h.output, h.size, fun k hk _ => h.block k hk⟩
theorem CovAt.ext {w w' : World} {b n : Nat} {f : Pose → Nat} (h : CovAt w b n f) (hE : Ext w w') : CovAt w' b n f := h.block (hE.block b h.lt)
set_option maxRecDepth 100000 in
set_option maxHeartbeats 16000000 in
theorem c100 (m : Img) (v : Value) (t : Tpl) (tv : Value) (a : Area) (w0 w : World) (b n N BC BT BM : Nat) (f : Pose → Nat) (hm : m.Camera) (ht : t.Ok) (hv : IntsAt w0 v m.pix) (htv : IntsAt w0 tv t.pix) (ha : a.Ok m) (hE : Ext w0 w) (hb : w0.heap.size ≤ b)
    (hC : CovAt w b n f) (hA : At w [(BC, Obj.cells #[.map (some b)] 142), (BT, Obj.cells #[.int .i64 t.w, .int .i64 t.h, tv] 43), (BM, Obj.cells #[.int .i64 m.w, .int .i64 m.h, v] 24)]) (hne : b ≠ BC ∧ b ≠ BT ∧ b ≠ BM) (hn : n ≤ 1000000000) (hf : ∀ p, f p ≤ N) (hN : N ≤ 100000) :
    Calls Try.prog 100 #[areaVal a, .pointer (some ⟨BC, 0, none⟩), .pointer (some ⟨BT, 0, none⟩), .pointer (some ⟨BM, 0, none⟩)] w fun e w' => e = .returned (.int .i64 (bound m t a)) ∧ CovAt w' b (n + 256) (fun p => f p + if a.Has p then 1 else 0) ∧ w.grownBy w' (some b) := by
  have HV := Lib.hid hv
  have HTV := Lib.hid htv
  have HM := Lib.hid hm
  have HT := Lib.hid ht
  have HA := Lib.hid ha
  obtain ⟨mo, mc, rfl, -, -⟩ := hv.form
  obtain ⟨to, tc, rfl, -, -⟩ := htv.form
  obtain ⟨⟨a1, a2, a3⟩, ⟨a4, a5, a6⟩, ⟨⟨a7, a8⟩, a9, a10⟩⟩ := ha
  obtain ⟨⟨w1, w2⟩, ⟨w3, w4⟩, -⟩ := hm.1
  have hblt := hC.lt
  obtain ⟨nb1, nb2, nb3⟩ := hne
  have HA0 := Lib.hid hA
  have HC0 := Lib.hid hC
  obtain ⟨h00, -⟩ := run_1 (At.at hA 0 rfl)
  obtain ⟨⟨h10, h11, h12⟩, -⟩ := run_3 (At.at hA 1 rfl)
  obtain ⟨⟨h20, h21, h22⟩, -⟩ := run_3 (At.at hA 2 rfl)
  have lt0 := At.lt hA 0 rfl
  have lt1 := At.lt hA 1 rfl
  have lt2 := At.lt hA 2 rfl
  unfold areaVal
  clear hv htv hm ht hC hA
  go_enter Try.func100, Try.ntmps100
  go_wp2
  go_loopw [6] (fun yv wr => ∃ (y : Int) (n' : Nat), a.y0 ≤ y ∧ y ≤ a.y1 + 1 ∧ yv = .int .i64 y ∧ (n' : Int) ≤ n + 16 * (y - a.y0) ∧ Hid (w.grownBy wr (some b)) ∧ Hid (At wr [(w.heap.size, Obj.cells #[.int .i64 a.x0, .int .i64 a.y0, .int .i64 a.x1, .int .i64 a.y1, .int .i64 a.turn, .int .i64 a.scale] 47), (BC, Obj.cells #[.map (some b)] 142), (BT, Obj.cells #[.int .i64 t.w, .int .i64 t.h, .slice to t.pix.length tc] 43), (BM, Obj.cells #[.int .i64 m.w, .int .i64 m.h, .slice mo m.pix.length mc] 24)]) ∧ Hid (CovAt wr b n' (fun p => f p + if Part a y a.x0 p then 1 else 0))) (fun yv _ => (a.y1 + 1 - intOf yv).toNat)
  case atStart => exact ⟨a.y0, n, by omega, by omega, rfl, by omega, Lib.hid (World.grownBy_alloc _ _ _), Lib.hid ⟨(by repeat (first | (refine blk_at _ _ ?_; (first | rfl | (simp only [size_one]; done))) | refine (blk_past _ _ (by simp only [size_one]; omega)).trans ?_)), At.alloc HA0.out _⟩, Lib.hid (by rw [part_start]; exact HC0.out.kept (World.grownBy_alloc _ _ none) (by simp))⟩
  case round =>
    obtain ⟨y, n', hy1, hy2, rfl, hn', hG, hA, hC⟩ := hrel
    obtain ⟨⟨z00, z01, z02, z03, z04, z05⟩, -⟩ := run_6 (At.at hA.out 0 rfl)
    obtain ⟨z10, -⟩ := run_1 (At.at hA.out 1 rfl)
    obtain ⟨⟨z20, z21, z22⟩, -⟩ := run_3 (At.at hA.out 2 rfl)
    obtain ⟨⟨z30, z31, z32⟩, -⟩ := run_3 (At.at hA.out 3 rfl)
    have zz0 := At.lt hA.out 0 rfl
    have zy0 := Nat.lt_succ_of_lt zz0
    have zx0 := Nat.lt_succ_of_lt zy0
    have zz1 := At.lt hA.out 1 rfl
    have zy1 := Nat.lt_succ_of_lt zz1
    have zx1 := Nat.lt_succ_of_lt zy1
    have zz2 := At.lt hA.out 2 rfl
    have zy2 := Nat.lt_succ_of_lt zz2
    have zx2 := Nat.lt_succ_of_lt zy2
    have zz3 := At.lt hA.out 3 rfl
    have zy3 := Nat.lt_succ_of_lt zz3
    have zx3 := Nat.lt_succ_of_lt zy3
    by_cases hyy : y ≤ a.y1
    · go_wp2
      clear z00 z01 z02 z03 z04 z05 z10 z20 z21 z22 z30 z31 z32 zz0 zy0 zx0 zz1 zy1 zx1 zz2 zy2 zx2 zz3 zy3 zx3
      obtain ⟨n0, hn0⟩ : ∃ n0 : Nat, n0 = n' := ⟨_, rfl⟩
      subst hn0
      go_loopw [7] (fun xv wr => ∃ (x : Int) (n' : Nat), a.x0 ≤ x ∧ x ≤ a.x1 + 1 ∧ xv = .int .i64 x ∧ (n' : Int) ≤ n + 16 * (y - a.y0) + (x - a.x0) ∧ Hid (w.grownBy wr (some b)) ∧ Hid (At wr [(w.heap.size, Obj.cells #[.int .i64 a.x0, .int .i64 a.y0, .int .i64 a.x1, .int .i64 a.y1, .int .i64 a.turn, .int .i64 a.scale] 47), (BC, Obj.cells #[.map (some b)] 142), (BT, Obj.cells #[.int .i64 t.w, .int .i64 t.h, .slice to t.pix.length tc] 43), (BM, Obj.cells #[.int .i64 m.w, .int .i64 m.h, .slice mo m.pix.length mc] 24)]) ∧ Hid (CovAt wr b n' (fun p => f p + if Part a y x p then 1 else 0))) (fun xv _ => (a.x1 + 1 - intOf xv).toNat)
      case atStart => exact ⟨a.x0, n0, by omega, by omega, rfl, by omega, hG, hA, hC⟩
      case round =>
        clear hG hA hC
        obtain ⟨x, n', hx1, hx2, rfl, hn', hG, hA, hC⟩ := hrel
        obtain ⟨⟨z00, z01, z02, z03, z04, z05⟩, -⟩ := run_6 (At.at hA.out 0 rfl)
        obtain ⟨z10, -⟩ := run_1 (At.at hA.out 1 rfl)
        obtain ⟨⟨z20, z21, z22⟩, -⟩ := run_3 (At.at hA.out 2 rfl)
        obtain ⟨⟨z30, z31, z32⟩, -⟩ := run_3 (At.at hA.out 3 rfl)
        have zz0 := At.lt hA.out 0 rfl
        have zy0 := Nat.lt_succ_of_lt zz0
        have zx0 := Nat.lt_succ_of_lt zy0
        have zz1 := At.lt hA.out 1 rfl
        have zy1 := Nat.lt_succ_of_lt zz1
        have zx1 := Nat.lt_succ_of_lt zy1
        have zz2 := At.lt hA.out 2 rfl
        have zy2 := Nat.lt_succ_of_lt zz2
        have zx2 := Nat.lt_succ_of_lt zy2
        have zz3 := At.lt hA.out 3 rfl
        have zy3 := Nat.lt_succ_of_lt zz3
        have zx3 := Nat.lt_succ_of_lt zy3
        by_cases hxx : x ≤ a.x1
        · have hpw : Pose.Wf ⟨x, y, a.turn, a.scale⟩ := ⟨WalkArith.wf_i64 ⟨by dsimp only; omega, by dsimp only; omega⟩, WalkArith.wf_i64 ⟨by dsimp only; omega, by dsimp only; omega⟩, WalkArith.wf_i64 ⟨by dsimp only; omega, by dsimp only; omega⟩, WalkArith.wf_i64 ⟨by dsimp only; omega, by dsimp only; omega⟩⟩
          have hfp : (f ⟨x, y, a.turn, a.scale⟩ + if Part a y x ⟨x, y, a.turn, a.scale⟩ then 1 else 0) = f ⟨x, y, a.turn, a.scale⟩ := by
            rw [if_neg (part_not a x y)]
            rfl
          obtain ⟨v0, st, wE, wS, r1, r2, r4, r3, hC2, hg2⟩ := CovAt.bump (w := wr.drew) (hC.out.block rfl) hpw (by unfold maxLen; omega) (by rw [hfp]; have := hf ⟨x, y, a.turn, a.scale⟩; omega)
          rw [hfp] at r1 r3 r4
          unfold poseVal at r1 r2 r4
          dsimp only at r1 r2 r4
          obtain ⟨cn, hcn⟩ : ∃ cn, f ⟨x, y, a.turn, a.scale⟩ = cn := ⟨_, rfl⟩
          have hcn2 : cn ≤ N := hcn ▸ hf _
          rw [hcn] at r1 r3 r4
          have hwc : IntKind.i64.wrap ((cn : Int) + 1) = (cn : Int) + 1 := IntWalk.i64_in _ (by omega)
          have HC2 := Lib.hid (show CovAt wS b (n' + 1) (fun p => f p + if Part a y (x + 1) p then 1 else 0) from part_step hx1 hxx ▸ hC2)
          have G2 := Lib.hid (show w.grownBy wS (some b) from hG.out.andThen (World.grownBy.andThen (grownBy_drew _ _) hg2 (fun j hj => .inr hj)) (fun j hj => .inr hj))
          have A2 := Lib.hid (show At wS [(w.heap.size, Obj.cells #[.int .i64 a.x0, .int .i64 a.y0, .int .i64 a.x1, .int .i64 a.y1, .int .i64 a.turn, .int .i64 a.scale] 47), (BC, Obj.cells #[.map (some b)] 142), (BT, Obj.cells #[.int .i64 t.w, .int .i64 t.h, .slice to t.pix.length tc] 43), (BM, Obj.cells #[.int .i64 m.w, .int .i64 m.h, .slice mo m.pix.length mc] 24)] from At.grown hg2 (At.drew hA.out) (by intro k hk; simp only [List.map_cons, List.map_nil, List.mem_cons, List.not_mem_nil, or_false] at hk; rcases hk with rfl | rfl | rfl | rfl <;> simp <;> omega))
          clear hC2 hfp hcn
          obtain ⟨⟨u00, u01, u02, u03, u04, u05⟩, -⟩ := run_6 (At.at A2.out 0 rfl)
          obtain ⟨u10, -⟩ := run_1 (At.at A2.out 1 rfl)
          obtain ⟨⟨u20, u21, u22⟩, -⟩ := run_3 (At.at A2.out 2 rfl)
          obtain ⟨⟨u30, u31, u32⟩, -⟩ := run_3 (At.at A2.out 3 rfl)
          have uz0 := At.lt A2.out 0 rfl
          have uy0 := Nat.lt_succ_of_lt uz0
          have ux0 := Nat.lt_succ_of_lt uy0
          have uz1 := At.lt A2.out 1 rfl
          have uy1 := Nat.lt_succ_of_lt uz1
          have ux1 := Nat.lt_succ_of_lt uy1
          have uz2 := At.lt A2.out 2 rfl
          have uy2 := Nat.lt_succ_of_lt uz2
          have ux2 := Nat.lt_succ_of_lt uy2
          have uz3 := At.lt A2.out 3 rfl
          have uy3 := Nat.lt_succ_of_lt uz3
          have ux3 := Nat.lt_succ_of_lt uy3
          go_wp2
          go_region
          go_wp2
          go_roundw
          case rel => exact ⟨x + 1, n' + 1, by omega, by omega, rfl, by omega, G2, A2, HC2⟩
          case measure => simp [intOf]; omega
        · have HC2 := Lib.hid (show CovAt wr b n' (fun p => f p + if Part a (y + 1) a.x0 p then 1 else 0) from part_row hy1 (by omega) hx2 ▸ hC.out)
          go_wp2
          go_roundw
          case rel => exact ⟨y + 1, n', by omega, by omega, rfl, by omega, hG, hA, HC2⟩
          case measure => simp [intOf]; omega
    · have HCE := Lib.hid (show CovAt wr b (n + 256) (fun p => f p + if a.Has p then 1 else 0) from (part_end (by omega) hy2 ▸ hC.out).mono (by omega))
      have E2x := Lib.hid (show Ext w0 wr.drew from (hE.grown hG.out (fun k hk => by cases hk; exact hb)).drew)
      have K69 := Lib.hid (fun w' (h : Ext w0 w') => c69 t _ a.turn a.scale w' HT.out (HTV.out.ext h) HA.out.2.2)
      have K70 := Lib.hid (fun sv w' (h : Ext w0 w') (hs : PtsAt w' sv (stencil t a.turn a.scale t.pix.length)) => c70 m _ (stencil t a.turn a.scale t.pix.length) sv a w' HM.out (HV.out.ext h) hs HA.out (Nat.le_trans (stencil_len _ _ _ _) (Tpl.len_bd HT.out).2) (sten_in HT.out HA.out.2.2))
      unfold tplVal at K69
      unfold imgVal at K70
      obtain ⟨bd, hbd⟩ : ∃ bd, sumL (fun p => least m p a.x0 a.y0 a.x1 a.y1) (stencil t a.turn a.scale t.pix.length) = bd := ⟨_, rfl⟩
      rw [hbd] at K70
      have HBD := Lib.hid (show bound m t a = bd from hbd)
      clear hbd hE
      go_wp2
      go_region_held3 (fun w' => w'.cell? ⟨w.heap.size, 0, none⟩ = some (.int .i64 a.x0) ∧ w'.cell? ⟨w.heap.size, 1, none⟩ = some (.int .i64 a.y0) ∧ w'.cell? ⟨w.heap.size, 2, none⟩ = some (.int .i64 a.x1) ∧ w'.cell? ⟨w.heap.size, 3, none⟩ = some (.int .i64 a.y1) ∧ w'.cell? ⟨w.heap.size, 4, none⟩ = some (.int .i64 a.turn) ∧ w'.cell? ⟨w.heap.size, 5, none⟩ = some (.int .i64 a.scale) ∧ w'.cell? ⟨BT, 0, none⟩ = some (.int .i64 t.w) ∧ w'.cell? ⟨BT, 1, none⟩ = some (.int .i64 t.h) ∧ w'.cell? ⟨BT, 2, none⟩ = some (.slice to t.pix.length tc) ∧ w'.cell? ⟨BM, 0, none⟩ = some (.int .i64 m.w) ∧ w'.cell? ⟨BM, 1, none⟩ = some (.int .i64 m.h) ∧ w'.cell? ⟨BM, 2, none⟩ = some (.slice mo m.pix.length mc)) ((repeat' apply And.intro) <;> first | assumption | go_keep) (first | (have _q := E5; go_at_call 70; (with_reducible refine (K70.out _ _ E5.out P5.out).mono ?_); rintro E w6 ⟨rfl, hb6⟩; have A6 := Lib.hid (show At w6 [(w.heap.size, Obj.cells #[.int .i64 a.x0, .int .i64 a.y0, .int .i64 a.x1, .int .i64 a.y1, .int .i64 a.turn, .int .i64 a.scale] 47), (BC, Obj.cells #[.map (some b)] 142), (BT, Obj.cells #[.int .i64 t.w, .int .i64 t.h, .slice to t.pix.length tc] 43), (BM, Obj.cells #[.int .i64 m.w, .int .i64 m.h, .slice mo m.pix.length mc] 24)] from At.ext hb6 A5.out); obtain ⟨⟨v00, v01, v02, v03, v04, v05⟩, -⟩ := run_6 (At.at A6.out 0 rfl); obtain ⟨v10, -⟩ := run_1 (At.at A6.out 1 rfl); obtain ⟨⟨v20, v21, v22⟩, -⟩ := run_3 (At.at A6.out 2 rfl); obtain ⟨⟨v30, v31, v32⟩, -⟩ := run_3 (At.at A6.out 3 rfl); have vz0 := At.lt A6.out 0 rfl; have vy0 := Nat.lt_succ_of_lt vz0; have vx0 := Nat.lt_succ_of_lt vy0; have vz1 := At.lt A6.out 1 rfl; have vy1 := Nat.lt_succ_of_lt vz1; have vx1 := Nat.lt_succ_of_lt vy1; have vz2 := At.lt A6.out 2 rfl; have vy2 := Nat.lt_succ_of_lt vz2; have vx2 := Nat.lt_succ_of_lt vy2; have vz3 := At.lt A6.out 3 rfl; have vy3 := Nat.lt_succ_of_lt vz3; have vx3 := Nat.lt_succ_of_lt vy3; have E6r := Lib.hid (E5r.out.trans hb6)) | (go_at_call 69; (with_reducible refine (K69.out _ E2x.out).mono ?_); rintro E w5 ⟨v5, rfl, ho5, hb5⟩; obtain ⟨-, so, sc, hv5, -⟩ := SlAt.of_owns ho5; subst hv5; have A5 := Lib.hid (show At w5 [(w.heap.size, Obj.cells #[.int .i64 a.x0, .int .i64 a.y0, .int .i64 a.x1, .int .i64 a.y1, .int .i64 a.turn, .int .i64 a.scale] 47), (BC, Obj.cells #[.map (some b)] 142), (BT, Obj.cells #[.int .i64 t.w, .int .i64 t.h, .slice to t.pix.length tc] 43), (BM, Obj.cells #[.int .i64 m.w, .int .i64 m.h, .slice mo m.pix.length mc] 24)] from At.ext hb5 (At.drew hA.out)); obtain ⟨⟨u00, u01, u02, u03, u04, u05⟩, -⟩ := run_6 (At.at A5.out 0 rfl); obtain ⟨u10, -⟩ := run_1 (At.at A5.out 1 rfl); obtain ⟨⟨u20, u21, u22⟩, -⟩ := run_3 (At.at A5.out 2 rfl); obtain ⟨⟨u30, u31, u32⟩, -⟩ := run_3 (At.at A5.out 3 rfl); have uz0 := At.lt A5.out 0 rfl; have uy0 := Nat.lt_succ_of_lt uz0; have ux0 := Nat.lt_succ_of_lt uy0; have uz1 := At.lt A5.out 1 rfl; have uy1 := Nat.lt_succ_of_lt uz1; have ux1 := Nat.lt_succ_of_lt uy1; have uz2 := At.lt A5.out 2 rfl; have uy2 := Nat.lt_succ_of_lt uz2; have ux2 := Nat.lt_succ_of_lt uy2; have uz3 := At.lt A5.out 3 rfl; have uy3 := Nat.lt_succ_of_lt uz3; have ux3 := Nat.lt_succ_of_lt uy3; have P5 := Lib.hid (show PtsAt w5 (.slice so (stencil t a.turn a.scale t.pix.length).length sc) (stencil t a.turn a.scale t.pix.length) from SlAt.of_owns ho5); have E5 := Lib.hid (E2x.out.trans hb5); have E5r := Lib.hid (show Ext wr w5 from (Ext.refl _).drew.trans hb5); clear ho5))
      all_goals go_wp2
      all_goals go_ret
      all_goals exact ⟨ret_int HBD.out.symm, HCE.out.ext E6r.out, hG.out.andThen (Ext.toGrown E6r.out none) (by simp)⟩
end Go.Proofs.Ytipkjdfnoonpcaa

/- When every pose of an image is counted once. No walk. -/
namespace Go.Proofs.Ytipkjdfnoonpcaa
open Go.RowKit Go.Sort

def CovIs (D : DataW Unit) (f : Pose → Nat) : Prop := (∀ p : Pose, p.Wf → D.atKey (poseLit p) (.lit (.int .i64 0)) = .lit (.int .i64 (f p))) ∧
    (∀ k, Maps.has D k = true → ∃ p : Pose, p.Wf ∧ k = poseLit p ∧ 0 < f p) ∧ ∀ p : Pose, p.Wf → 0 < f p → Maps.has D (poseLit p) = true
open Classical in
theorem nodup_le {α : Type} : ∀ {l1 l2 : List α}, l1.Nodup → (∀ x ∈ l1, x ∈ l2) → l1.length ≤ l2.length
  | [], _, _, _ => Nat.zero_le _
  | a :: l1, l2, h, hs => by
    rw [List.nodup_cons] at h
    have h1 := nodup_le (l2 := l2.erase a) h.2 (fun x hx => (List.mem_erase_of_ne (fun (e : x = a) => h.1 (e ▸ hx))).2 (hs x (by simp [hx])))
    have h2 : a ∈ l2 := hs a (by simp)
    have h3 := List.length_erase_of_mem h2
    have h4 := List.length_pos_of_mem h2
    simp only [List.length_cons]
    omega
open Classical in
theorem nodup_full {α : Type} {l1 l2 : List α} (h : l1.Nodup) (hs : ∀ x ∈ l1, x ∈ l2) (hl : l2.length ≤ l1.length) : ∀ x ∈ l2, x ∈ l1 := by
  intro x hx
  by_cases g : x ∈ l1
  · exact g
  · exfalso
    have h1 := nodup_le (l2 := l2.erase x) h (fun y hy => (List.mem_erase_of_ne (fun (e : y = x) => g (e ▸ hy))).2 (hs y hy))
    have h3 := List.length_erase_of_mem hx
    have h4 := List.length_pos_of_mem hx
    omega
/-- all poses of an image -/
def univ (m : Img) : List Pose := (List.range 12).flatMap fun (T : Nat) => (List.range 4).flatMap fun (S : Nat) => (List.range m.pix.length).map fun i => poseAt m (T : Int) ((S : Int) + 1) i
theorem univ_mem {m : Img} {p : Pose} : p ∈ univ m ↔ ∃ T S i : Nat, T < 12 ∧ S < 4 ∧ i < m.pix.length ∧ p = poseAt m T ((S : Int) + 1) i := by
  unfold univ
  simp only [List.mem_flatMap, List.mem_range, List.mem_map]
  constructor
  · rintro ⟨T, h1, S, h2, i, h3, rfl⟩
    exact ⟨T, S, i, h1, h2, h3, rfl⟩
  · rintro ⟨T, S, i, h1, h2, h3, rfl⟩
    exact ⟨T, h1, S, h2, i, h3, rfl⟩
theorem len_const {α β : Type} (f : α → List β) (n : Nat) : ∀ l : List α, (∀ x, (f x).length = n) → (l.flatMap f).length = l.length * n
  | [], _ => by simp
  | x :: l, h => by
    rw [List.flatMap_cons, List.length_append, h x, len_const f n l h, List.length_cons, Nat.add_mul]
    omega
theorem univ_len (m : Img) : (univ m).length = 48 * m.pix.length := by
  unfold univ
  rw [len_const _ (4 * m.pix.length)]
  · simp; omega
  · intro T
    rw [len_const _ m.pix.length]
    · simp
    · intro S; simp
theorem nodup_flat {α β : Type} {f : α → List β} : ∀ {l : List α}, l.Nodup → (∀ x ∈ l, (f x).Nodup) → (∀ x ∈ l, ∀ y ∈ l, x ≠ y → ∀ z ∈ f x, z ∉ f y) → (l.flatMap f).Nodup
  | [], _, _, _ => by simp
  | x :: l, h, h1, h2 => by
    rw [List.nodup_cons] at h
    rw [List.flatMap_cons, List.nodup_append]
    refine ⟨h1 x (by simp), nodup_flat h.2 (fun y hy => h1 y (by simp [hy])) (fun y hy z hz => h2 y (by simp [hy]) z (by simp [hz])), ?_⟩
    intro z hz z' hz' e
    obtain ⟨y, hy, hy2⟩ := List.mem_flatMap.1 hz'
    exact h2 x (by simp) y (by simp [hy]) (fun e' => h.1 (e' ▸ hy)) z hz (e ▸ hy2)
theorem poseAt_inj {m : Img} {T S T' S' : Int} {i i' : Nat} (h : poseAt m T S i = poseAt m T' S' i') : T = T' ∧ S = S' ∧ i = i' := by
  unfold poseAt at h
  injection h with h1 h2 h3 h4
  refine ⟨h3, h4, ?_⟩
  have e1 := Int.emod_add_mul_ediv (i : Int) m.w
  have e2 := Int.emod_add_mul_ediv (i' : Int) m.w
  rw [h1, h2, e2] at e1
  omega
theorem univ_nodup (m : Img) : (univ m).Nodup := by
  unfold univ
  refine nodup_flat List.nodup_range (fun T _ => nodup_flat List.nodup_range (fun S _ => ?_) ?_) ?_
  · exact List.Pairwise.map _ (fun i j hij e => hij (poseAt_inj e).2.2) List.nodup_range
  · intro S _ S' _ hne z hz hz'
    obtain ⟨i, _, rfl⟩ := List.mem_map.1 hz
    obtain ⟨j, _, e⟩ := List.mem_map.1 hz'
    have := (poseAt_inj e).2.1
    omega
  · intro T _ T' _ hne z hz hz'
    obtain ⟨S, _, hz⟩ := List.mem_flatMap.1 hz
    obtain ⟨i, _, rfl⟩ := List.mem_map.1 hz
    obtain ⟨S', _, hz'⟩ := List.mem_flatMap.1 hz'
    obtain ⟨j, _, e⟩ := List.mem_map.1 hz'
    have := (poseAt_inj e).1
    omega
theorem in_univ {m : Img} (hm : m.Sized) {p : Pose} (h1 : m.In p.x p.y) (h2 : Posed p.turn p.scale) : p ∈ univ m := by
  obtain ⟨i1, i2, -, -⟩ := Img.idx hm h1
  obtain ⟨⟨x1, x2⟩, y1, y2⟩ := h1
  obtain ⟨⟨t1, t2⟩, s1, s2⟩ := h2
  refine univ_mem.2 ⟨p.turn.toNat, (p.scale - 1).toNat, (p.y * m.w + p.x).toNat, by omega, by omega, by omega, ?_⟩
  unfold poseAt
  have e : (((p.y * m.w + p.x).toNat : Nat) : Int) = p.x + m.w * p.y := by rw [Int.toNat_of_nonneg i1, Int.mul_comm]; omega
  have q1 : (p.x + m.w * p.y) % m.w = p.x := by rw [Int.add_mul_emod_self_left, Int.emod_eq_of_lt x1 (by omega)]
  have q2 : (p.x + m.w * p.y) / m.w = p.y := by rw [Int.add_mul_ediv_left _ _ (by omega), Int.ediv_eq_zero_of_lt x1 (by omega), Int.zero_add]
  rw [e, q1, q2]
  obtain ⟨p0, p1, p2, p3⟩ := p
  dsimp only at *
  rw [Pose.mk.injEq]
  exact ⟨rfl, rfl, by omega, by omega⟩
theorem univ_wf {m : Img} (hm : m.Sized) {p : Pose} (h : p ∈ univ m) : p.Wf := by
  obtain ⟨T, S, i, h1, h2, h3, rfl⟩ := univ_mem.1 h
  obtain ⟨l1, l2⟩ := Img.len_bd hm
  obtain ⟨⟨w1, w2⟩, -, -⟩ := hm
  have e1 := Int.emod_nonneg (i : Int) (show m.w ≠ 0 by omega)
  have e2 := Int.emod_lt_of_pos (i : Int) (show 0 < m.w by omega)
  have e3 : 0 ≤ (i : Int) / m.w := Int.ediv_nonneg (by omega) (by omega)
  have e4 : (i : Int) / m.w ≤ i := Int.ediv_le_self _ (by omega)
  refine ⟨WalkArith.wf_i64 ?_, WalkArith.wf_i64 ?_, WalkArith.wf_i64 ?_, WalkArith.wf_i64 ?_⟩ <;> unfold poseAt <;> dsimp only <;> omega
theorem hits_univ {m : Img} {t : Tpl} {limit : Int} {ms : List Match} {ar : List Area} (hm : m.Sized) (h1 : ∀ x ∈ ms, MatchOk m t limit x) (h2 : ∀ a ∈ ar, AreaOk m t limit a) {p : Pose} (h : 0 < hits ms p + hasN ar p) : p ∈ univ m := by
  by_cases g : 0 < hits ms p
  · unfold hits at g
    obtain ⟨x, hx, e⟩ := List.countP_pos_iff.1 g
    have e := of_decide_eq_true e
    have := pose_ok.1 (h1 x hx).1
    rw [e] at this
    exact in_univ hm this.1 this.2
  · have g : 0 < hasN ar p := by omega
    unfold hasN at g
    obtain ⟨a, ha, e⟩ := List.countP_pos_iff.1 g
    obtain ⟨⟨e1, e2⟩, ⟨e3, e4⟩, e5, e6⟩ := of_decide_eq_true e
    obtain ⟨⟨k1, k2, k3⟩, ⟨k4, k5, k6⟩, k7⟩ := (h2 a ha).1
    exact in_univ hm ⟨⟨by omega, by omega⟩, by omega, by omega⟩ (e1 ▸ e2 ▸ k7)
theorem cov_keys {m : Img} {D : DataW Unit} {f : Pose → Nat} (hm : m.Sized) (hT : ∃ es, D = .map es ∧ es.Pairwise (fun p q => p.1 ≠ q.1) ∧ ∀ p ∈ es, WideAt.IsKeyLit p.1) (hI : CovIs D f) (hU : ∀ p, 0 < f p → p ∈ univ m) :
    ((∀ p ∈ univ m, f p = 1) → Maps.size D = 48 * m.pix.length) ∧ (Maps.size D = 48 * m.pix.length → ∀ p ∈ univ m, 0 < f p) := by
  obtain ⟨es, rfl, hp, hk⟩ := hT
  obtain ⟨h1, h2, h3⟩ := hI
  have hin : ∀ k, k ∈ es.map (·.1) ↔ Maps.has (DataW.map es) k = true := by
    intro k
    rw [Maps.has_eq, List.any_eq_true]
    constructor
    · intro h
      obtain ⟨x, hx, rfl⟩ := List.mem_map.1 h
      exact ⟨x, hx, WideAt.sameKey_self (hk x hx)⟩
    · rintro ⟨x, hx, e⟩
      exact List.mem_map.2 ⟨x, hx, WideAt.sameKey_eq e⟩
  have hn : (es.map (·.1)).Nodup := List.pairwise_map.2 hp
  have hl : ((univ m).map poseLit).length = 48 * m.pix.length := by rw [List.length_map, univ_len]
  have hn2 : ((univ m).map poseLit).Nodup := List.pairwise_map.2 (List.Pairwise.imp_of_mem (fun ha hb hne e => hne (poseLit_inj (univ_wf hm ha) (univ_wf hm hb) e)) (univ_nodup m))
  have hs : ∀ k ∈ es.map (·.1), k ∈ (univ m).map poseLit := by
    intro k hk
    obtain ⟨p, hpw, rfl, hf⟩ := h2 k ((hin k).1 hk)
    exact List.mem_map.2 ⟨p, hU p hf, rfl⟩
  constructor
  · intro h
    have hs2 : ∀ k ∈ (univ m).map poseLit, k ∈ es.map (·.1) := by
      intro k hk
      obtain ⟨p, hpu, rfl⟩ := List.mem_map.1 hk
      exact (hin _).2 (h3 p (univ_wf hm hpu) (by rw [h p hpu]; omega))
    have a1 := nodup_le hn hs
    have a2 := nodup_le hn2 hs2
    rw [hl] at a1 a2
    rw [List.length_map] at a1 a2
    show es.length = _
    omega
  · intro h p hpu
    have h' : es.length = 48 * m.pix.length := h
    have hs2 := nodup_full hn hs (by rw [hl, List.length_map, h']; exact Nat.le_refl _)
    obtain ⟨q, hq, e, hf⟩ := h2 _ ((hin _).1 (hs2 _ (List.mem_map.2 ⟨p, hpu, rfl⟩)))
    rw [poseLit_inj (univ_wf hm hpu) hq e]
    exact hf
/-- what the program's count says is what the reference asks of every pose -/
theorem counted_iff {m : Img} {D : DataW Unit} {f : Pose → Nat} (hm : m.Sized) (hT : ∃ es, D = .map es ∧ es.Pairwise (fun p q => p.1 ≠ q.1) ∧ ∀ p ∈ es, WideAt.IsKeyLit p.1) (hI : CovIs D f) (hU : ∀ p, 0 < f p → p ∈ univ m) :
    ((∀ k, Maps.has D k = true → D.atKey k (.lit (.int .i64 0)) = .lit (.int .i64 1)) ∧ Maps.size D = 48 * m.pix.length) ↔ ∀ p ∈ univ m, f p = 1 := by
  obtain ⟨a1, a2⟩ := cov_keys hm hT hI hU
  constructor
  · rintro ⟨g1, g2⟩ p hp
    have h1 := a2 g2 p hp
    have h2 := g1 _ (hI.2.2 p (univ_wf hm hp) h1)
    rw [hI.1 p (univ_wf hm hp)] at h2
    simp at h2
    omega
  · intro g
    refine ⟨fun k hk => ?_, a1 g⟩
    obtain ⟨p, hp, rfl, hf⟩ := hI.2.1 k hk
    rw [hI.1 p hp, g p (hU p hf)]
    rfl
theorem proved_iff {m : Img} {t : Tpl} {limit : Int} {ms : List Match} {ar : List Area} (h1 : ∀ x ∈ ms, MatchOk m t limit x) (h2 : ∀ a ∈ ar, AreaOk m t limit a) : Proved m t limit ms ar ↔ ∀ p ∈ univ m, hits ms p + hasN ar p = 1 := by
  constructor
  · rintro ⟨-, -, h⟩ p hp
    obtain ⟨T, S, i, k1, k2, k3, rfl⟩ := univ_mem.1 hp
    exact h _ _ (by omega) (by omega) (by omega) (by omega) i k3
  · intro h
    refine ⟨h1, h2, fun T S t1 t2 s1 s2 i hi => h _ (univ_mem.2 ⟨T.toNat, (S - 1).toNat, i, by omega, by omega, hi, ?_⟩)⟩
    rw [show ((T.toNat : Nat) : Int) = T by omega, show (((S - 1).toNat : Nat) : Int) + 1 = S by omega]
theorem hits_step {ms : List Match} {x : Match} {i : Nat} (hi : i < ms.length) (hx : ms.getD i match0 = x) : (fun p => hits (ms.take i) p + if x.pose.area.Has p then 1 else 0) = fun p => hits (ms.take (i + 1)) p := by
  funext p
  rw [take_snoc_at match0 hi, hx]
  unfold hits
  rw [countP_snoc]
  congr 1
  have : x.pose.area.Has p ↔ x.pose = p := by
    unfold Area.Has Pose.area
    dsimp only
    constructor
    · rintro ⟨⟨a1, a2⟩, ⟨a3, a4⟩, a5, a6⟩
      obtain ⟨⟨p0, p1, p2, p3⟩, d⟩ := x
      obtain ⟨q0, q1, q2, q3⟩ := p
      dsimp only at *
      rw [Pose.mk.injEq]
      exact ⟨by omega, by omega, a1, a2⟩
    · intro e
      rw [e]
      exact ⟨⟨rfl, rfl⟩, ⟨Int.le_refl _, Int.le_refl _⟩, Int.le_refl _, Int.le_refl _⟩
  by_cases g : x.pose = p
  · rw [if_pos (this.2 g), if_pos (by simpa using g)]
  · rw [if_neg (fun h => g (this.1 h)), if_neg (by simpa using g)]
theorem has_step {ms : List Match} {ar : List Area} {x : Area} {i : Nat} (hi : i < ar.length) (hx : ar.getD i area0 = x) : (fun p => (hits ms p + hasN (ar.take i) p) + if x.Has p then 1 else 0) = fun p => hits ms p + hasN (ar.take (i + 1)) p := by
  funext p
  rw [take_snoc_at area0 hi, hx]
  unfold hasN
  rw [countP_snoc, Nat.add_assoc]
  congr 2
  by_cases g : x.Has p
  · rw [if_pos g, if_pos (by simpa using g)]
  · rw [if_neg g, if_neg (by simpa using g)]
theorem hits_le (ms : List Match) (p : Pose) : hits ms p ≤ ms.length := List.countP_le_length
theorem hasN_le (ar : List Area) (p : Pose) : hasN ar p ≤ ar.length := List.countP_le_length
end Go.Proofs.Ytipkjdfnoonpcaa

/- 'proved': the walk. -/
namespace Go.Proofs.Ytipkjdfnoonpcaa
open Go.RowKit Go.Sort
attribute [local go_sem ↓] Go.wp_at_zero Go.wp_at_succ

theorem has_of_atKey {D : DataW Unit} (hD : ∃ es, D = .map es) {k : Lit} {d : DataW Unit} (h : ∀ zd, D.atKey k zd = d) : Maps.has D k = true := by
  obtain ⟨es, rfl⟩ := hD
  rw [Maps.has_eq]
  cases hf : es.any (fun p => p.1.sameKey k)
  · exfalso
    have hn : es.find? (fun p => p.1.sameKey k) = none := by
      rw [List.find?_eq_none]
      intro x hx hx2
      rw [List.any_eq_false] at hf
      exact hf x hx hx2
    have key : ∀ z : DataW Unit, (DataW.map es).atKey k z = z := fun z => by
      simp only [DataW.atKey, hn]
    have a1 := (key (.lit (.int .i64 0))).symm.trans (h _)
    have a2 := (key (.lit (.int .i64 1))).symm.trans (h _)
    rw [← a2] at a1
    simp at a1
  · rfl
theorem CovAt.made' {w : World} {k : Nat} (hk : k = w.heap.size) (o : Obj) : CovAt ((w.alloc (.map #[] 0)).alloc o) k 0 (fun _ => 0) := by
  subst hk
  exact (CovAt.made w).kept (World.grownBy_alloc _ _ none) (by simp)
theorem At.caps1 {w : World} {k0 k1 k2 k3 k4 : Nat} {o0 o1 o2 o3 o4 : Obj} (h : At w [(k0, o0), (k1, o1), (k2, o2), (k3, o3), (k4, o4)]) : At w [(k1, o1), (k3, o3), (k4, o4)] := ⟨h.2.1, h.2.2.2.1, h.2.2.2.2.1, trivial⟩
theorem At.caps2 {w : World} {k0 k1 k2 k3 k4 k5 : Nat} {o0 o1 o2 o3 o4 o5 : Obj} (h : At w [(k0, o0), (k1, o1), (k2, o2), (k3, o3), (k4, o4), (k5, o5)]) : At w [(k2, o2), (k4, o4), (k5, o5)] := ⟨h.2.2.1, h.2.2.2.2.1, h.2.2.2.2.2.1, trivial⟩
set_option maxRecDepth 100000 in
set_option maxHeartbeats 32000000 in
theorem c73 (m : Img) (v : Value) (t : Tpl) (tv : Value) (limit : Int) (ms : List Match) (ar : List Area) (mv av : Value) (w : World) (hm : m.Camera) (ht : t.Ok) (hlim : 0 ≤ limit ∧ limit ≤ 16320) (hv : IntsAt w v m.pix) (htv : IntsAt w tv t.pix) (h1 : MatchesAt w mv ms) (h2 : AreasAt w av ar) (n1 : ms.length ≤ 13000) (n2 : ar.length ≤ 13000) :
    Calls Try.prog 73 #[imgVal m v, tplVal t tv, .int .i64 limit, searchVal mv av] w fun e w' => ∃ c, e = .returned (.bool c) ∧ (c = true ↔ Proved m t limit ms ar) ∧ Ext w w' := by
  have HV := Lib.hid hv
  have HTV := Lib.hid htv
  have HM := Lib.hid hm
  have HT := Lib.hid ht
  have HMS := Lib.hid h1
  have HAR := Lib.hid h2
  obtain ⟨mo, mc, rfl, -, -⟩ := hv.form
  obtain ⟨to, tc, rfl, -, -⟩ := htv.form
  obtain ⟨m1, mc1, rfl, -, hc1⟩ := h1.form
  obtain ⟨a1, ac1, rfl, -, hc2⟩ := h2.form
  have H1 := Lib.hid hc1
  have H2 := Lib.hid hc2
  obtain ⟨l1, l2⟩ := Img.len_bd hm.1
  obtain ⟨⟨w1', w2'⟩, ⟨w3', w4'⟩, -⟩ := hm.1
  unfold imgVal tplVal searchVal
  clear hv htv hm ht hc1 hc2 h1 h2
  have hmm := @run_makeMap Try.prog
  go_enter Try.func73, Try.ntmps73
  go_wp2
  go_loopw [23] (fun v wr => Hid (Ext w wr) ∧ Hid (At wr [(w.heap.size + 1 + 1 + 1 + 1, Obj.cells #[.map (some (w.heap.size + 1 + 1 + 1))] 142), (w.heap.size + 1 + 1, Obj.cells #[.slice m1 ms.length mc1, .slice a1 ar.length ac1] 63), (w.heap.size + 1, Obj.cells #[.int .i64 t.w, .int .i64 t.h, .slice to t.pix.length tc] 43), (w.heap.size, Obj.cells #[.int .i64 m.w, .int .i64 m.h, .slice mo m.pix.length mc] 24)]) ∧ ∃ i n : Nat, i ≤ ms.length ∧ n ≤ 256 * i ∧ v = .int .i64 (i : Int) ∧ Hid (∀ x ∈ ms.take i, MatchOk m t limit x) ∧ Hid (CovAt wr (w.heap.size + 1 + 1 + 1) n (fun p => hits (ms.take i) p))) (fun v _ => ms.length - (intOf v).toNat)
  case atStart => exact ⟨Lib.hid (by repeat (first | exact Ext.refl _ | assumption | refine Ext.alloc ?_ _ | refine Ext.drewN ?_ _ | refine ext_grow ?_ _ _ | refine Ext.trans ?_ (by assumption))), Lib.hid ⟨(by repeat (first | (refine blk_at _ _ ?_; (first | rfl | (simp only [size_one]; done))) | refine (blk_past _ _ (by simp only [size_one]; omega)).trans ?_)), (by repeat (first | (refine blk_at _ _ ?_; (first | rfl | (simp only [size_one]; done))) | refine (blk_past _ _ (by simp only [size_one]; omega)).trans ?_)), (by repeat (first | (refine blk_at _ _ ?_; (first | rfl | (simp only [size_one]; done))) | refine (blk_past _ _ (by simp only [size_one]; omega)).trans ?_)), (by repeat (first | (refine blk_at _ _ ?_; (first | rfl | (simp only [size_one]; done))) | refine (blk_past _ _ (by simp only [size_one]; omega)).trans ?_)), trivial⟩, 0, 0, Nat.zero_le _, Nat.zero_le _, rfl, Lib.hid (fun x hx => by simp at hx), Lib.hid (CovAt.made' (by simp) _)⟩
  case round =>
    obtain ⟨hE, hA, i, n, hi, hn, rfl, hI, hC⟩ := hrel
    obtain ⟨z00, -⟩ := run_1 (At.at hA.out 0 rfl)
    obtain ⟨⟨z10, z11⟩, -⟩ := run_2 (At.at hA.out 1 rfl)
    obtain ⟨⟨z20, z21, z22⟩, -⟩ := run_3 (At.at hA.out 2 rfl)
    obtain ⟨⟨z30, z31, z32⟩, -⟩ := run_3 (At.at hA.out 3 rfl)
    have zz0 := At.lt hA.out 0 rfl
    have zy0 := Nat.lt_succ_of_lt zz0
    have zx0 := Nat.lt_succ_of_lt zy0
    have zz1 := At.lt hA.out 1 rfl
    have zy1 := Nat.lt_succ_of_lt zz1
    have zx1 := Nat.lt_succ_of_lt zy1
    have zz2 := At.lt hA.out 2 rfl
    have zy2 := Nat.lt_succ_of_lt zz2
    have zx2 := Nat.lt_succ_of_lt zy2
    have zz3 := At.lt hA.out 3 rfl
    have zy3 := Nat.lt_succ_of_lt zz3
    have zx3 := Nat.lt_succ_of_lt zy3
    by_cases hil : i < ms.length
    · obtain ⟨bo, off, rfl, x0, x1, x2, x3, x4⟩ := H1.out i hil
      have HMEM := Lib.hid (getD_mem_at match0 hil)
      obtain ⟨x, hx⟩ : ∃ x, ms.getD i match0 = x := ⟨_, rfl⟩
      rw [hx] at x0 x1 x2 x3 x4 HMEM
      have HX := Lib.hid hx
      clear hx
      replace x0 := hE.out.get x0
      replace x1 := hE.out.get x1
      replace x2 := hE.out.get x2
      replace x3 := hE.out.get x3
      replace x4 := hE.out.get x4
      have zx := World.block_lt_of_cell? _ _ x0
      simp only at zx
      have hili : (i : Int) < (ms.length : Int) := by omega
      have K63 := Lib.hid (fun w' => c63 x.pose w')
      have K68 := Lib.hid (fun w' => c68 m (.slice mo m.pix.length mc) x.pose.area w' HM.out.1 ⟨_, _, _, rfl⟩)
      unfold poseVal areaVal Pose.area at K63
      unfold imgVal areaVal at K68
      have hab : x.pose.area = ⟨x.pose.x, x.pose.y, x.pose.x, x.pose.y, x.pose.turn, x.pose.scale⟩ := rfl
      simp only [hab] at K68
      by_cases g0 : x.pose.area.Ok m
      case neg =>
        have q0 : decide (Area.Ok m ⟨x.pose.x, x.pose.y, x.pose.x, x.pose.y, x.pose.turn, x.pose.scale⟩) = false := decide_eq_false g0
        rw [q0] at K68
        have HR := Lib.hid (show ¬ Proved m t limit ms ar from fun h => by have h9 := h.1 _ HMEM.out; exact g0 h9.1)
        go_wp2_with (go_at_call 63; (with_reducible refine (K63.out _).mono ?_); rintro E w1 ⟨rfl, hb1⟩; have A1 := Lib.hid (show At w1 [(wr.heap.size, Obj.cells #[.int .i64 x.pose.x, .int .i64 x.pose.y, .int .i64 x.pose.turn, .int .i64 x.pose.scale, .int .i64 x.dist] 80), (w.heap.size + 1 + 1 + 1 + 1, Obj.cells #[.map (some (w.heap.size + 1 + 1 + 1))] 142), (w.heap.size + 1 + 1, Obj.cells #[.slice (some ⟨bo, off, none⟩) ms.length mc1, .slice a1 ar.length ac1] 63), (w.heap.size + 1, Obj.cells #[.int .i64 t.w, .int .i64 t.h, .slice to t.pix.length tc] 43), (w.heap.size, Obj.cells #[.int .i64 m.w, .int .i64 m.h, .slice mo m.pix.length mc] 24)] from At.ext hb1 ⟨blk_at _ _ rfl, At.alloc hA.out _⟩); have E1 := Lib.hid (show Ext w w1 from (hE.out.alloc _).trans hb1); have C1 := Lib.hid ((hC.out.ext ((Ext.refl _).alloc _)).ext hb1); obtain ⟨⟨y00, y01, y02, y03, y04⟩, -⟩ := run_5 (At.at A1.out 0 rfl); obtain ⟨y10, -⟩ := run_1 (At.at A1.out 1 rfl); obtain ⟨⟨y20, y21⟩, -⟩ := run_2 (At.at A1.out 2 rfl); obtain ⟨⟨y30, y31, y32⟩, -⟩ := run_3 (At.at A1.out 3 rfl); obtain ⟨⟨y40, y41, y42⟩, -⟩ := run_3 (At.at A1.out 4 rfl); have yz0 := At.lt A1.out 0 rfl; have yy0 := Nat.lt_succ_of_lt yz0; have yx0 := Nat.lt_succ_of_lt yy0; have yz1 := At.lt A1.out 1 rfl; have yy1 := Nat.lt_succ_of_lt yz1; have yx1 := Nat.lt_succ_of_lt yy1; have yz2 := At.lt A1.out 2 rfl; have yy2 := Nat.lt_succ_of_lt yz2; have yx2 := Nat.lt_succ_of_lt yy2; have yz3 := At.lt A1.out 3 rfl; have yy3 := Nat.lt_succ_of_lt yz3; have yx3 := Nat.lt_succ_of_lt yy3; have yz4 := At.lt A1.out 4 rfl; have yy4 := Nat.lt_succ_of_lt yz4; have yx4 := Nat.lt_succ_of_lt yy4)
        refine wp_region_quiet_below (by kernel_rfl) (by kernel_rfl) ?_
        repeat (go_big_quiet_step ((go_at_call 68; with_reducible exact Calls.ext_of (K68.out _))))
        refine wpQuiet_nil ?_
        intro w6 hw'
        obtain ⟨pq, hw''⟩ := hw'
        have hbw6 := ext_of_regrown hw''
        clear hw'' pq
        go_wp2
        go_ret
        first | exact ⟨false, rfl, ⟨fun h => (by cases h), fun h => absurd h HR.out⟩, (E1.out.alloc _).trans hbw6⟩ | exact .inl ⟨rfl, HR.out, (E1.out.alloc _).trans hbw6⟩
      have q0 : decide (Area.Ok m ⟨x.pose.x, x.pose.y, x.pose.x, x.pose.y, x.pose.turn, x.pose.scale⟩) = true := decide_eq_true g0
      rw [q0] at K68
      by_cases g1 : limit < x.dist
      · have q1 : decide (limit < x.dist) = true := decide_eq_true g1
        have HR := Lib.hid (show ¬ Proved m t limit ms ar from fun h => by have h9 := h.1 _ HMEM.out; exact absurd h9.2.1 (by omega))
        go_wp2_with (go_at_call 63; (with_reducible refine (K63.out _).mono ?_); rintro E w1 ⟨rfl, hb1⟩; have A1 := Lib.hid (show At w1 [(wr.heap.size, Obj.cells #[.int .i64 x.pose.x, .int .i64 x.pose.y, .int .i64 x.pose.turn, .int .i64 x.pose.scale, .int .i64 x.dist] 80), (w.heap.size + 1 + 1 + 1 + 1, Obj.cells #[.map (some (w.heap.size + 1 + 1 + 1))] 142), (w.heap.size + 1 + 1, Obj.cells #[.slice (some ⟨bo, off, none⟩) ms.length mc1, .slice a1 ar.length ac1] 63), (w.heap.size + 1, Obj.cells #[.int .i64 t.w, .int .i64 t.h, .slice to t.pix.length tc] 43), (w.heap.size, Obj.cells #[.int .i64 m.w, .int .i64 m.h, .slice mo m.pix.length mc] 24)] from At.ext hb1 ⟨blk_at _ _ rfl, At.alloc hA.out _⟩); have E1 := Lib.hid (show Ext w w1 from (hE.out.alloc _).trans hb1); have C1 := Lib.hid ((hC.out.ext ((Ext.refl _).alloc _)).ext hb1); obtain ⟨⟨y00, y01, y02, y03, y04⟩, -⟩ := run_5 (At.at A1.out 0 rfl); obtain ⟨y10, -⟩ := run_1 (At.at A1.out 1 rfl); obtain ⟨⟨y20, y21⟩, -⟩ := run_2 (At.at A1.out 2 rfl); obtain ⟨⟨y30, y31, y32⟩, -⟩ := run_3 (At.at A1.out 3 rfl); obtain ⟨⟨y40, y41, y42⟩, -⟩ := run_3 (At.at A1.out 4 rfl); have yz0 := At.lt A1.out 0 rfl; have yy0 := Nat.lt_succ_of_lt yz0; have yx0 := Nat.lt_succ_of_lt yy0; have yz1 := At.lt A1.out 1 rfl; have yy1 := Nat.lt_succ_of_lt yz1; have yx1 := Nat.lt_succ_of_lt yy1; have yz2 := At.lt A1.out 2 rfl; have yy2 := Nat.lt_succ_of_lt yz2; have yx2 := Nat.lt_succ_of_lt yy2; have yz3 := At.lt A1.out 3 rfl; have yy3 := Nat.lt_succ_of_lt yz3; have yx3 := Nat.lt_succ_of_lt yy3; have yz4 := At.lt A1.out 4 rfl; have yy4 := Nat.lt_succ_of_lt yz4; have yx4 := Nat.lt_succ_of_lt yy4)
        refine wp_region_quiet_below (by kernel_rfl) (by kernel_rfl) ?_
        repeat (go_big_quiet_step ((go_at_call 68; with_reducible exact Calls.ext_of (K68.out _))))
        refine wpQuiet_nil ?_
        intro w6 hw'
        obtain ⟨pq, hw''⟩ := hw'
        have hbw6 := ext_of_regrown hw''
        clear hw'' pq
        go_wp2
        go_ret
        first | exact ⟨false, rfl, ⟨fun h => (by cases h), fun h => absurd h HR.out⟩, (E1.out.alloc _).trans hbw6⟩ | exact .inl ⟨rfl, HR.out, (E1.out.alloc _).trans hbw6⟩
      have q1 : decide (limit < x.dist) = false := decide_eq_false g1
      have K100 := Lib.hid (fun n' w' (h : Ext w w') (hc : CovAt w' (w.heap.size + 1 + 1 + 1) n' (fun p => hits (ms.take i) p)) (ha : At w' [(w.heap.size + 1 + 1 + 1 + 1, Obj.cells #[.map (some (w.heap.size + 1 + 1 + 1))] 142), (w.heap.size + 1, Obj.cells #[.int .i64 t.w, .int .i64 t.h, .slice to t.pix.length tc] 43), (w.heap.size, Obj.cells #[.int .i64 m.w, .int .i64 m.h, .slice mo m.pix.length mc] 24)]) (hn : n' ≤ 1000000000) => c100 m (.slice mo m.pix.length mc) t (.slice to t.pix.length tc) x.pose.area w w' (w.heap.size + 1 + 1 + 1) n' 13000 (w.heap.size + 1 + 1 + 1 + 1) (w.heap.size + 1) (w.heap.size) (fun p => hits (ms.take i) p) HM.out HT.out HV.out HTV.out g0 h (by omega) hc ha ⟨by omega, by omega, by omega⟩ hn (fun p => Nat.le_trans (hits_le _ _) (by rw [List.length_take]; omega)) (by omega))
      obtain ⟨bd, hbd⟩ : ∃ bd, bound m t x.pose.area = bd := ⟨_, rfl⟩
      simp only [hbd, hits_step hil HX.out] at K100
      unfold areaVal at K100
      simp only [hab] at K100
      have HB := Lib.hid hbd
      clear hbd q0 hab
      by_cases g2 : bd = x.dist
      case neg =>
        have q2 : (bd != x.dist) = true := by simpa using g2
        have HR := Lib.hid (show ¬ Proved m t limit ms ar from fun h => g2 (HB.out.symm.trans (h.1 _ HMEM.out).2.2))
        go_wp2_with (go_at_call 63; (with_reducible refine (K63.out _).mono ?_); rintro E w1 ⟨rfl, hb1⟩; have A1 := Lib.hid (show At w1 [(wr.heap.size, Obj.cells #[.int .i64 x.pose.x, .int .i64 x.pose.y, .int .i64 x.pose.turn, .int .i64 x.pose.scale, .int .i64 x.dist] 80), (w.heap.size + 1 + 1 + 1 + 1, Obj.cells #[.map (some (w.heap.size + 1 + 1 + 1))] 142), (w.heap.size + 1 + 1, Obj.cells #[.slice (some ⟨bo, off, none⟩) ms.length mc1, .slice a1 ar.length ac1] 63), (w.heap.size + 1, Obj.cells #[.int .i64 t.w, .int .i64 t.h, .slice to t.pix.length tc] 43), (w.heap.size, Obj.cells #[.int .i64 m.w, .int .i64 m.h, .slice mo m.pix.length mc] 24)] from At.ext hb1 ⟨blk_at _ _ rfl, At.alloc hA.out _⟩); have E1 := Lib.hid (show Ext w w1 from (hE.out.alloc _).trans hb1); have C1 := Lib.hid ((hC.out.ext ((Ext.refl _).alloc _)).ext hb1); obtain ⟨⟨y00, y01, y02, y03, y04⟩, -⟩ := run_5 (At.at A1.out 0 rfl); obtain ⟨y10, -⟩ := run_1 (At.at A1.out 1 rfl); obtain ⟨⟨y20, y21⟩, -⟩ := run_2 (At.at A1.out 2 rfl); obtain ⟨⟨y30, y31, y32⟩, -⟩ := run_3 (At.at A1.out 3 rfl); obtain ⟨⟨y40, y41, y42⟩, -⟩ := run_3 (At.at A1.out 4 rfl); have yz0 := At.lt A1.out 0 rfl; have yy0 := Nat.lt_succ_of_lt yz0; have yx0 := Nat.lt_succ_of_lt yy0; have yz1 := At.lt A1.out 1 rfl; have yy1 := Nat.lt_succ_of_lt yz1; have yx1 := Nat.lt_succ_of_lt yy1; have yz2 := At.lt A1.out 2 rfl; have yy2 := Nat.lt_succ_of_lt yz2; have yx2 := Nat.lt_succ_of_lt yy2; have yz3 := At.lt A1.out 3 rfl; have yy3 := Nat.lt_succ_of_lt yz3; have yx3 := Nat.lt_succ_of_lt yy3; have yz4 := At.lt A1.out 4 rfl; have yy4 := Nat.lt_succ_of_lt yz4; have yx4 := Nat.lt_succ_of_lt yy4)
        have A7 := Lib.hid (show At (w1.alloc (Obj.cells #[.int .i64 x.pose.x, .int .i64 x.pose.y, .int .i64 x.pose.x, .int .i64 x.pose.y, .int .i64 x.pose.turn, .int .i64 x.pose.scale] 47)) [(w1.heap.size, Obj.cells #[.int .i64 x.pose.x, .int .i64 x.pose.y, .int .i64 x.pose.x, .int .i64 x.pose.y, .int .i64 x.pose.turn, .int .i64 x.pose.scale] 47), (wr.heap.size, Obj.cells #[.int .i64 x.pose.x, .int .i64 x.pose.y, .int .i64 x.pose.turn, .int .i64 x.pose.scale, .int .i64 x.dist] 80), (w.heap.size + 1 + 1 + 1 + 1, Obj.cells #[.map (some (w.heap.size + 1 + 1 + 1))] 142), (w.heap.size + 1 + 1, Obj.cells #[.slice (some ⟨bo, off, none⟩) ms.length mc1, .slice a1 ar.length ac1] 63), (w.heap.size + 1, Obj.cells #[.int .i64 t.w, .int .i64 t.h, .slice to t.pix.length tc] 43), (w.heap.size, Obj.cells #[.int .i64 m.w, .int .i64 m.h, .slice mo m.pix.length mc] 24)] from ⟨blk_at _ _ rfl, At.alloc A1.out _⟩)
        have E7 := Lib.hid (E1.out.alloc (Obj.cells #[.int .i64 x.pose.x, .int .i64 x.pose.y, .int .i64 x.pose.x, .int .i64 x.pose.y, .int .i64 x.pose.turn, .int .i64 x.pose.scale] 47))
        have C7 := Lib.hid (C1.out.ext ((Ext.refl _).alloc (Obj.cells #[.int .i64 x.pose.x, .int .i64 x.pose.y, .int .i64 x.pose.x, .int .i64 x.pose.y, .int .i64 x.pose.turn, .int .i64 x.pose.scale] 47)))
        obtain ⟨w7, hw7⟩ : ∃ w7, w1.alloc (Obj.cells #[.int .i64 x.pose.x, .int .i64 x.pose.y, .int .i64 x.pose.x, .int .i64 x.pose.y, .int .i64 x.pose.turn, .int .i64 x.pose.scale] 47) = w7 := ⟨_, rfl⟩
        rw [hw7] at A7 E7 C7 ⊢
        clear hw7
        obtain ⟨⟨z00, z01, z02, z03, z04, z05⟩, -⟩ := run_6 (At.at A7.out 0 rfl)
        obtain ⟨⟨z10, z11, z12, z13, z14⟩, -⟩ := run_5 (At.at A7.out 1 rfl)
        obtain ⟨z20, -⟩ := run_1 (At.at A7.out 2 rfl)
        obtain ⟨⟨z30, z31⟩, -⟩ := run_2 (At.at A7.out 3 rfl)
        obtain ⟨⟨z40, z41, z42⟩, -⟩ := run_3 (At.at A7.out 4 rfl)
        obtain ⟨⟨z50, z51, z52⟩, -⟩ := run_3 (At.at A7.out 5 rfl)
        have zz0 := At.lt A7.out 0 rfl
        have zy0 := Nat.lt_succ_of_lt zz0
        have zx0 := Nat.lt_succ_of_lt zy0
        have zz1 := At.lt A7.out 1 rfl
        have zy1 := Nat.lt_succ_of_lt zz1
        have zx1 := Nat.lt_succ_of_lt zy1
        have zz2 := At.lt A7.out 2 rfl
        have zy2 := Nat.lt_succ_of_lt zz2
        have zx2 := Nat.lt_succ_of_lt zy2
        have zz3 := At.lt A7.out 3 rfl
        have zy3 := Nat.lt_succ_of_lt zz3
        have zx3 := Nat.lt_succ_of_lt zy3
        have zz4 := At.lt A7.out 4 rfl
        have zy4 := Nat.lt_succ_of_lt zz4
        have zx4 := Nat.lt_succ_of_lt zy4
        have zz5 := At.lt A7.out 5 rfl
        have zy5 := Nat.lt_succ_of_lt zz5
        have zx5 := Nat.lt_succ_of_lt zy5
        go_region_held3 (fun w' => w'.cell? ⟨w1.heap.size, 0, none⟩ = some (.int .i64 x.pose.x) ∧ w'.cell? ⟨w1.heap.size, 1, none⟩ = some (.int .i64 x.pose.y) ∧ w'.cell? ⟨w1.heap.size, 2, none⟩ = some (.int .i64 x.pose.x) ∧ w'.cell? ⟨w1.heap.size, 3, none⟩ = some (.int .i64 x.pose.y) ∧ w'.cell? ⟨w1.heap.size, 4, none⟩ = some (.int .i64 x.pose.turn) ∧ w'.cell? ⟨w1.heap.size, 5, none⟩ = some (.int .i64 x.pose.scale) ∧ w'.cell? ⟨wr.heap.size, 4, none⟩ = some (.int .i64 x.dist) ∧ w'.cell? ⟨w.heap.size, 0, none⟩ = some (.int .i64 m.w) ∧ w'.cell? ⟨w.heap.size, 1, none⟩ = some (.int .i64 m.h) ∧ w'.cell? ⟨w.heap.size, 2, none⟩ = some (.slice mo m.pix.length mc)) ((repeat' apply And.intro) <;> first | assumption | go_keep) (first | (have _q := E8; go_at_call 100; (with_reducible refine (K100.out _ _ E8.out C8.out (At.caps2 (A8.out)) (by omega)).mono ?_); rintro E w9 ⟨rfl, hC9, hg9⟩; have A9 := Lib.hid (show At w9 [(w1.heap.size, Obj.cells #[.int .i64 x.pose.x, .int .i64 x.pose.y, .int .i64 x.pose.x, .int .i64 x.pose.y, .int .i64 x.pose.turn, .int .i64 x.pose.scale] 47), (wr.heap.size, Obj.cells #[.int .i64 x.pose.x, .int .i64 x.pose.y, .int .i64 x.pose.turn, .int .i64 x.pose.scale, .int .i64 x.dist] 80), (w.heap.size + 1 + 1 + 1 + 1, Obj.cells #[.map (some (w.heap.size + 1 + 1 + 1))] 142), (w.heap.size + 1 + 1, Obj.cells #[.slice (some ⟨bo, off, none⟩) ms.length mc1, .slice a1 ar.length ac1] 63), (w.heap.size + 1, Obj.cells #[.int .i64 t.w, .int .i64 t.h, .slice to t.pix.length tc] 43), (w.heap.size, Obj.cells #[.int .i64 m.w, .int .i64 m.h, .slice mo m.pix.length mc] 24)] from At.grown hg9 A8.out (by intro k hk; simp only [List.map_cons, List.map_nil, List.mem_cons, List.not_mem_nil, or_false] at hk; rcases hk with rfl | rfl | rfl | rfl | rfl | rfl <;> simp <;> omega)); have E9 := Lib.hid (E8.out.grown hg9 (fun k hk => by cases hk; omega)); have C9 := Lib.hid hC9; clear hC9; obtain ⟨⟨v00, v01, v02, v03, v04, v05⟩, -⟩ := run_6 (At.at A9.out 0 rfl); obtain ⟨⟨v10, v11, v12, v13, v14⟩, -⟩ := run_5 (At.at A9.out 1 rfl); obtain ⟨v20, -⟩ := run_1 (At.at A9.out 2 rfl); obtain ⟨⟨v30, v31⟩, -⟩ := run_2 (At.at A9.out 3 rfl); obtain ⟨⟨v40, v41, v42⟩, -⟩ := run_3 (At.at A9.out 4 rfl); obtain ⟨⟨v50, v51, v52⟩, -⟩ := run_3 (At.at A9.out 5 rfl); have vz0 := At.lt A9.out 0 rfl; have vy0 := Nat.lt_succ_of_lt vz0; have vx0 := Nat.lt_succ_of_lt vy0; have vz1 := At.lt A9.out 1 rfl; have vy1 := Nat.lt_succ_of_lt vz1; have vx1 := Nat.lt_succ_of_lt vy1; have vz2 := At.lt A9.out 2 rfl; have vy2 := Nat.lt_succ_of_lt vz2; have vx2 := Nat.lt_succ_of_lt vy2; have vz3 := At.lt A9.out 3 rfl; have vy3 := Nat.lt_succ_of_lt vz3; have vx3 := Nat.lt_succ_of_lt vy3; have vz4 := At.lt A9.out 4 rfl; have vy4 := Nat.lt_succ_of_lt vz4; have vx4 := Nat.lt_succ_of_lt vy4; have vz5 := At.lt A9.out 5 rfl; have vy5 := Nat.lt_succ_of_lt vz5; have vx5 := Nat.lt_succ_of_lt vy5) | (go_at_call 68; (with_reducible refine (K68.out _).mono ?_); rintro E w8 ⟨rfl, hb8⟩; have A8 := Lib.hid (show At w8 [(w1.heap.size, Obj.cells #[.int .i64 x.pose.x, .int .i64 x.pose.y, .int .i64 x.pose.x, .int .i64 x.pose.y, .int .i64 x.pose.turn, .int .i64 x.pose.scale] 47), (wr.heap.size, Obj.cells #[.int .i64 x.pose.x, .int .i64 x.pose.y, .int .i64 x.pose.turn, .int .i64 x.pose.scale, .int .i64 x.dist] 80), (w.heap.size + 1 + 1 + 1 + 1, Obj.cells #[.map (some (w.heap.size + 1 + 1 + 1))] 142), (w.heap.size + 1 + 1, Obj.cells #[.slice (some ⟨bo, off, none⟩) ms.length mc1, .slice a1 ar.length ac1] 63), (w.heap.size + 1, Obj.cells #[.int .i64 t.w, .int .i64 t.h, .slice to t.pix.length tc] 43), (w.heap.size, Obj.cells #[.int .i64 m.w, .int .i64 m.h, .slice mo m.pix.length mc] 24)] from At.ext hb8 (At.drew A7.out)); have E8 := Lib.hid (show Ext w w8 from E7.out.drew.trans hb8); have C8 := Lib.hid ((C7.out.ext (Ext.refl _).drew).ext hb8); obtain ⟨⟨u00, u01, u02, u03, u04, u05⟩, -⟩ := run_6 (At.at A8.out 0 rfl); obtain ⟨⟨u10, u11, u12, u13, u14⟩, -⟩ := run_5 (At.at A8.out 1 rfl); obtain ⟨u20, -⟩ := run_1 (At.at A8.out 2 rfl); obtain ⟨⟨u30, u31⟩, -⟩ := run_2 (At.at A8.out 3 rfl); obtain ⟨⟨u40, u41, u42⟩, -⟩ := run_3 (At.at A8.out 4 rfl); obtain ⟨⟨u50, u51, u52⟩, -⟩ := run_3 (At.at A8.out 5 rfl); have uz0 := At.lt A8.out 0 rfl; have uy0 := Nat.lt_succ_of_lt uz0; have ux0 := Nat.lt_succ_of_lt uy0; have uz1 := At.lt A8.out 1 rfl; have uy1 := Nat.lt_succ_of_lt uz1; have ux1 := Nat.lt_succ_of_lt uy1; have uz2 := At.lt A8.out 2 rfl; have uy2 := Nat.lt_succ_of_lt uz2; have ux2 := Nat.lt_succ_of_lt uy2; have uz3 := At.lt A8.out 3 rfl; have uy3 := Nat.lt_succ_of_lt uz3; have ux3 := Nat.lt_succ_of_lt uy3; have uz4 := At.lt A8.out 4 rfl; have uy4 := Nat.lt_succ_of_lt uz4; have ux4 := Nat.lt_succ_of_lt uy4; have uz5 := At.lt A8.out 5 rfl; have uy5 := Nat.lt_succ_of_lt uz5; have ux5 := Nat.lt_succ_of_lt uy5))
        all_goals go_wp2
        all_goals go_ret
        all_goals (first | exact ⟨false, rfl, ⟨fun h => (by cases h), fun h => absurd h HR.out⟩, E9.out⟩ | exact .inl ⟨rfl, HR.out, E9.out⟩)
      have q2 : (bd != x.dist) = false := by simpa using g2
      have HS := Lib.hid (show ∀ y ∈ ms.take (i + 1), MatchOk m t limit y by
        rw [take_snoc_at match0 hil, HX.out]
        intro y hy
        rcases List.mem_append.1 hy with hy | hy
        · exact hI.out y hy
        · rw [List.mem_singleton.1 hy]
          exact ⟨g0, by omega, HB.out.trans g2⟩)
      go_wp2_with (go_at_call 63; (with_reducible refine (K63.out _).mono ?_); rintro E w1 ⟨rfl, hb1⟩; have A1 := Lib.hid (show At w1 [(wr.heap.size, Obj.cells #[.int .i64 x.pose.x, .int .i64 x.pose.y, .int .i64 x.pose.turn, .int .i64 x.pose.scale, .int .i64 x.dist] 80), (w.heap.size + 1 + 1 + 1 + 1, Obj.cells #[.map (some (w.heap.size + 1 + 1 + 1))] 142), (w.heap.size + 1 + 1, Obj.cells #[.slice (some ⟨bo, off, none⟩) ms.length mc1, .slice a1 ar.length ac1] 63), (w.heap.size + 1, Obj.cells #[.int .i64 t.w, .int .i64 t.h, .slice to t.pix.length tc] 43), (w.heap.size, Obj.cells #[.int .i64 m.w, .int .i64 m.h, .slice mo m.pix.length mc] 24)] from At.ext hb1 ⟨blk_at _ _ rfl, At.alloc hA.out _⟩); have E1 := Lib.hid (show Ext w w1 from (hE.out.alloc _).trans hb1); have C1 := Lib.hid ((hC.out.ext ((Ext.refl _).alloc _)).ext hb1); obtain ⟨⟨y00, y01, y02, y03, y04⟩, -⟩ := run_5 (At.at A1.out 0 rfl); obtain ⟨y10, -⟩ := run_1 (At.at A1.out 1 rfl); obtain ⟨⟨y20, y21⟩, -⟩ := run_2 (At.at A1.out 2 rfl); obtain ⟨⟨y30, y31, y32⟩, -⟩ := run_3 (At.at A1.out 3 rfl); obtain ⟨⟨y40, y41, y42⟩, -⟩ := run_3 (At.at A1.out 4 rfl); have yz0 := At.lt A1.out 0 rfl; have yy0 := Nat.lt_succ_of_lt yz0; have yx0 := Nat.lt_succ_of_lt yy0; have yz1 := At.lt A1.out 1 rfl; have yy1 := Nat.lt_succ_of_lt yz1; have yx1 := Nat.lt_succ_of_lt yy1; have yz2 := At.lt A1.out 2 rfl; have yy2 := Nat.lt_succ_of_lt yz2; have yx2 := Nat.lt_succ_of_lt yy2; have yz3 := At.lt A1.out 3 rfl; have yy3 := Nat.lt_succ_of_lt yz3; have yx3 := Nat.lt_succ_of_lt yy3; have yz4 := At.lt A1.out 4 rfl; have yy4 := Nat.lt_succ_of_lt yz4; have yx4 := Nat.lt_succ_of_lt yy4)
      have A7 := Lib.hid (show At (w1.alloc (Obj.cells #[.int .i64 x.pose.x, .int .i64 x.pose.y, .int .i64 x.pose.x, .int .i64 x.pose.y, .int .i64 x.pose.turn, .int .i64 x.pose.scale] 47)) [(w1.heap.size, Obj.cells #[.int .i64 x.pose.x, .int .i64 x.pose.y, .int .i64 x.pose.x, .int .i64 x.pose.y, .int .i64 x.pose.turn, .int .i64 x.pose.scale] 47), (wr.heap.size, Obj.cells #[.int .i64 x.pose.x, .int .i64 x.pose.y, .int .i64 x.pose.turn, .int .i64 x.pose.scale, .int .i64 x.dist] 80), (w.heap.size + 1 + 1 + 1 + 1, Obj.cells #[.map (some (w.heap.size + 1 + 1 + 1))] 142), (w.heap.size + 1 + 1, Obj.cells #[.slice (some ⟨bo, off, none⟩) ms.length mc1, .slice a1 ar.length ac1] 63), (w.heap.size + 1, Obj.cells #[.int .i64 t.w, .int .i64 t.h, .slice to t.pix.length tc] 43), (w.heap.size, Obj.cells #[.int .i64 m.w, .int .i64 m.h, .slice mo m.pix.length mc] 24)] from ⟨blk_at _ _ rfl, At.alloc A1.out _⟩)
      have E7 := Lib.hid (E1.out.alloc (Obj.cells #[.int .i64 x.pose.x, .int .i64 x.pose.y, .int .i64 x.pose.x, .int .i64 x.pose.y, .int .i64 x.pose.turn, .int .i64 x.pose.scale] 47))
      have C7 := Lib.hid (C1.out.ext ((Ext.refl _).alloc (Obj.cells #[.int .i64 x.pose.x, .int .i64 x.pose.y, .int .i64 x.pose.x, .int .i64 x.pose.y, .int .i64 x.pose.turn, .int .i64 x.pose.scale] 47)))
      obtain ⟨w7, hw7⟩ : ∃ w7, w1.alloc (Obj.cells #[.int .i64 x.pose.x, .int .i64 x.pose.y, .int .i64 x.pose.x, .int .i64 x.pose.y, .int .i64 x.pose.turn, .int .i64 x.pose.scale] 47) = w7 := ⟨_, rfl⟩
      rw [hw7] at A7 E7 C7 ⊢
      clear hw7
      obtain ⟨⟨z00, z01, z02, z03, z04, z05⟩, -⟩ := run_6 (At.at A7.out 0 rfl)
      obtain ⟨⟨z10, z11, z12, z13, z14⟩, -⟩ := run_5 (At.at A7.out 1 rfl)
      obtain ⟨z20, -⟩ := run_1 (At.at A7.out 2 rfl)
      obtain ⟨⟨z30, z31⟩, -⟩ := run_2 (At.at A7.out 3 rfl)
      obtain ⟨⟨z40, z41, z42⟩, -⟩ := run_3 (At.at A7.out 4 rfl)
      obtain ⟨⟨z50, z51, z52⟩, -⟩ := run_3 (At.at A7.out 5 rfl)
      have zz0 := At.lt A7.out 0 rfl
      have zy0 := Nat.lt_succ_of_lt zz0
      have zx0 := Nat.lt_succ_of_lt zy0
      have zz1 := At.lt A7.out 1 rfl
      have zy1 := Nat.lt_succ_of_lt zz1
      have zx1 := Nat.lt_succ_of_lt zy1
      have zz2 := At.lt A7.out 2 rfl
      have zy2 := Nat.lt_succ_of_lt zz2
      have zx2 := Nat.lt_succ_of_lt zy2
      have zz3 := At.lt A7.out 3 rfl
      have zy3 := Nat.lt_succ_of_lt zz3
      have zx3 := Nat.lt_succ_of_lt zy3
      have zz4 := At.lt A7.out 4 rfl
      have zy4 := Nat.lt_succ_of_lt zz4
      have zx4 := Nat.lt_succ_of_lt zy4
      have zz5 := At.lt A7.out 5 rfl
      have zy5 := Nat.lt_succ_of_lt zz5
      have zx5 := Nat.lt_succ_of_lt zy5
      go_region_held3 (fun w' => w'.cell? ⟨w1.heap.size, 0, none⟩ = some (.int .i64 x.pose.x) ∧ w'.cell? ⟨w1.heap.size, 1, none⟩ = some (.int .i64 x.pose.y) ∧ w'.cell? ⟨w1.heap.size, 2, none⟩ = some (.int .i64 x.pose.x) ∧ w'.cell? ⟨w1.heap.size, 3, none⟩ = some (.int .i64 x.pose.y) ∧ w'.cell? ⟨w1.heap.size, 4, none⟩ = some (.int .i64 x.pose.turn) ∧ w'.cell? ⟨w1.heap.size, 5, none⟩ = some (.int .i64 x.pose.scale) ∧ w'.cell? ⟨wr.heap.size, 4, none⟩ = some (.int .i64 x.dist) ∧ w'.cell? ⟨w.heap.size, 0, none⟩ = some (.int .i64 m.w) ∧ w'.cell? ⟨w.heap.size, 1, none⟩ = some (.int .i64 m.h) ∧ w'.cell? ⟨w.heap.size, 2, none⟩ = some (.slice mo m.pix.length mc)) ((repeat' apply And.intro) <;> first | assumption | go_keep) (first | (have _q := E8; go_at_call 100; (with_reducible refine (K100.out _ _ E8.out C8.out (At.caps2 (A8.out)) (by omega)).mono ?_); rintro E w9 ⟨rfl, hC9, hg9⟩; have A9 := Lib.hid (show At w9 [(w1.heap.size, Obj.cells #[.int .i64 x.pose.x, .int .i64 x.pose.y, .int .i64 x.pose.x, .int .i64 x.pose.y, .int .i64 x.pose.turn, .int .i64 x.pose.scale] 47), (wr.heap.size, Obj.cells #[.int .i64 x.pose.x, .int .i64 x.pose.y, .int .i64 x.pose.turn, .int .i64 x.pose.scale, .int .i64 x.dist] 80), (w.heap.size + 1 + 1 + 1 + 1, Obj.cells #[.map (some (w.heap.size + 1 + 1 + 1))] 142), (w.heap.size + 1 + 1, Obj.cells #[.slice (some ⟨bo, off, none⟩) ms.length mc1, .slice a1 ar.length ac1] 63), (w.heap.size + 1, Obj.cells #[.int .i64 t.w, .int .i64 t.h, .slice to t.pix.length tc] 43), (w.heap.size, Obj.cells #[.int .i64 m.w, .int .i64 m.h, .slice mo m.pix.length mc] 24)] from At.grown hg9 A8.out (by intro k hk; simp only [List.map_cons, List.map_nil, List.mem_cons, List.not_mem_nil, or_false] at hk; rcases hk with rfl | rfl | rfl | rfl | rfl | rfl <;> simp <;> omega)); have E9 := Lib.hid (E8.out.grown hg9 (fun k hk => by cases hk; omega)); have C9 := Lib.hid hC9; clear hC9; obtain ⟨⟨v00, v01, v02, v03, v04, v05⟩, -⟩ := run_6 (At.at A9.out 0 rfl); obtain ⟨⟨v10, v11, v12, v13, v14⟩, -⟩ := run_5 (At.at A9.out 1 rfl); obtain ⟨v20, -⟩ := run_1 (At.at A9.out 2 rfl); obtain ⟨⟨v30, v31⟩, -⟩ := run_2 (At.at A9.out 3 rfl); obtain ⟨⟨v40, v41, v42⟩, -⟩ := run_3 (At.at A9.out 4 rfl); obtain ⟨⟨v50, v51, v52⟩, -⟩ := run_3 (At.at A9.out 5 rfl); have vz0 := At.lt A9.out 0 rfl; have vy0 := Nat.lt_succ_of_lt vz0; have vx0 := Nat.lt_succ_of_lt vy0; have vz1 := At.lt A9.out 1 rfl; have vy1 := Nat.lt_succ_of_lt vz1; have vx1 := Nat.lt_succ_of_lt vy1; have vz2 := At.lt A9.out 2 rfl; have vy2 := Nat.lt_succ_of_lt vz2; have vx2 := Nat.lt_succ_of_lt vy2; have vz3 := At.lt A9.out 3 rfl; have vy3 := Nat.lt_succ_of_lt vz3; have vx3 := Nat.lt_succ_of_lt vy3; have vz4 := At.lt A9.out 4 rfl; have vy4 := Nat.lt_succ_of_lt vz4; have vx4 := Nat.lt_succ_of_lt vy4; have vz5 := At.lt A9.out 5 rfl; have vy5 := Nat.lt_succ_of_lt vz5; have vx5 := Nat.lt_succ_of_lt vy5) | (go_at_call 68; (with_reducible refine (K68.out _).mono ?_); rintro E w8 ⟨rfl, hb8⟩; have A8 := Lib.hid (show At w8 [(w1.heap.size, Obj.cells #[.int .i64 x.pose.x, .int .i64 x.pose.y, .int .i64 x.pose.x, .int .i64 x.pose.y, .int .i64 x.pose.turn, .int .i64 x.pose.scale] 47), (wr.heap.size, Obj.cells #[.int .i64 x.pose.x, .int .i64 x.pose.y, .int .i64 x.pose.turn, .int .i64 x.pose.scale, .int .i64 x.dist] 80), (w.heap.size + 1 + 1 + 1 + 1, Obj.cells #[.map (some (w.heap.size + 1 + 1 + 1))] 142), (w.heap.size + 1 + 1, Obj.cells #[.slice (some ⟨bo, off, none⟩) ms.length mc1, .slice a1 ar.length ac1] 63), (w.heap.size + 1, Obj.cells #[.int .i64 t.w, .int .i64 t.h, .slice to t.pix.length tc] 43), (w.heap.size, Obj.cells #[.int .i64 m.w, .int .i64 m.h, .slice mo m.pix.length mc] 24)] from At.ext hb8 (At.drew A7.out)); have E8 := Lib.hid (show Ext w w8 from E7.out.drew.trans hb8); have C8 := Lib.hid ((C7.out.ext (Ext.refl _).drew).ext hb8); obtain ⟨⟨u00, u01, u02, u03, u04, u05⟩, -⟩ := run_6 (At.at A8.out 0 rfl); obtain ⟨⟨u10, u11, u12, u13, u14⟩, -⟩ := run_5 (At.at A8.out 1 rfl); obtain ⟨u20, -⟩ := run_1 (At.at A8.out 2 rfl); obtain ⟨⟨u30, u31⟩, -⟩ := run_2 (At.at A8.out 3 rfl); obtain ⟨⟨u40, u41, u42⟩, -⟩ := run_3 (At.at A8.out 4 rfl); obtain ⟨⟨u50, u51, u52⟩, -⟩ := run_3 (At.at A8.out 5 rfl); have uz0 := At.lt A8.out 0 rfl; have uy0 := Nat.lt_succ_of_lt uz0; have ux0 := Nat.lt_succ_of_lt uy0; have uz1 := At.lt A8.out 1 rfl; have uy1 := Nat.lt_succ_of_lt uz1; have ux1 := Nat.lt_succ_of_lt uy1; have uz2 := At.lt A8.out 2 rfl; have uy2 := Nat.lt_succ_of_lt uz2; have ux2 := Nat.lt_succ_of_lt uy2; have uz3 := At.lt A8.out 3 rfl; have uy3 := Nat.lt_succ_of_lt uz3; have ux3 := Nat.lt_succ_of_lt uy3; have uz4 := At.lt A8.out 4 rfl; have uy4 := Nat.lt_succ_of_lt uz4; have ux4 := Nat.lt_succ_of_lt uy4; have uz5 := At.lt A8.out 5 rfl; have uy5 := Nat.lt_succ_of_lt uz5; have ux5 := Nat.lt_succ_of_lt uy5))
      all_goals go_wp2
      all_goals go_roundw
      case rel => exact ⟨E9, Lib.hid A9.out.2.2, i + 1, n + 256, by omega, by omega, by go_num, HS, C9⟩
      case measure => simp [intOf]; omega
    · have HI1 := Lib.hid (show ∀ x ∈ ms, MatchOk m t limit x by have h9 := hI.out; rw [List.take_of_length_le (by omega)] at h9; exact h9)
      have HC1 := Lib.hid (show CovAt wr (w.heap.size + 1 + 1 + 1) n (fun p => hits ms p + hasN (ar.take 0) p) by have h9 := hC.out; rw [List.take_of_length_le (by omega)] at h9; exact h9)
      clear hI hC
      have hn' : n ≤ 3328000 := by omega
      obtain ⟨n0, hn0⟩ : ∃ n0 : Nat, n0 = n := ⟨_, rfl⟩
      subst hn0
      go_wp2
      obtain ⟨wp, hwp⟩ : ∃ wp : World, wp = wr := ⟨_, rfl⟩
      subst hwp
      clear z00 z10 z11 z20 z21 z22 z30 z31 z32 zz0 zy0 zx0 zz1 zy1 zx1 zz2 zy2 zx2 zz3 zy3 zx3
      go_loopw [52] (fun v wr => Hid (Ext w wr) ∧ Hid (At wr [(w.heap.size + 1 + 1 + 1 + 1, Obj.cells #[.map (some (w.heap.size + 1 + 1 + 1))] 142), (w.heap.size + 1 + 1, Obj.cells #[.slice m1 ms.length mc1, .slice a1 ar.length ac1] 63), (w.heap.size + 1, Obj.cells #[.int .i64 t.w, .int .i64 t.h, .slice to t.pix.length tc] 43), (w.heap.size, Obj.cells #[.int .i64 m.w, .int .i64 m.h, .slice mo m.pix.length mc] 24)]) ∧ ∃ i n : Nat, i ≤ ar.length ∧ n ≤ 3328000 + 256 * i ∧ v = .int .i64 (i : Int) ∧ Hid (∀ x ∈ ar.take i, AreaOk m t limit x) ∧ Hid (CovAt wr (w.heap.size + 1 + 1 + 1) n (fun p => hits ms p + hasN (ar.take i) p))) (fun v _ => ar.length - (intOf v).toNat)
      case atStart => exact ⟨hE, hA, 0, n0, Nat.zero_le _, by omega, rfl, Lib.hid (fun x hx => by simp at hx), HC1⟩
      case round =>
        clear hE hA HC1 hn hi
        obtain ⟨hE, hA, i, n, hi, hn, rfl, hI, hC⟩ := hrel
        obtain ⟨z00, -⟩ := run_1 (At.at hA.out 0 rfl)
        obtain ⟨⟨z10, z11⟩, -⟩ := run_2 (At.at hA.out 1 rfl)
        obtain ⟨⟨z20, z21, z22⟩, -⟩ := run_3 (At.at hA.out 2 rfl)
        obtain ⟨⟨z30, z31, z32⟩, -⟩ := run_3 (At.at hA.out 3 rfl)
        have zz0 := At.lt hA.out 0 rfl
        have zy0 := Nat.lt_succ_of_lt zz0
        have zx0 := Nat.lt_succ_of_lt zy0
        have zz1 := At.lt hA.out 1 rfl
        have zy1 := Nat.lt_succ_of_lt zz1
        have zx1 := Nat.lt_succ_of_lt zy1
        have zz2 := At.lt hA.out 2 rfl
        have zy2 := Nat.lt_succ_of_lt zz2
        have zx2 := Nat.lt_succ_of_lt zy2
        have zz3 := At.lt hA.out 3 rfl
        have zy3 := Nat.lt_succ_of_lt zz3
        have zx3 := Nat.lt_succ_of_lt zy3
        by_cases hil : i < ar.length
        · obtain ⟨bo, off, rfl, x0, x1, x2, x3, x4, x5⟩ := H2.out i hil
          have HMEM := Lib.hid (getD_mem_at area0 hil)
          obtain ⟨x, hx⟩ : ∃ x, ar.getD i area0 = x := ⟨_, rfl⟩
          rw [hx] at x0 x1 x2 x3 x4 x5 HMEM
          have HX := Lib.hid hx
          clear hx
          replace x0 := hE.out.get x0
          replace x1 := hE.out.get x1
          replace x2 := hE.out.get x2
          replace x3 := hE.out.get x3
          replace x4 := hE.out.get x4
          replace x5 := hE.out.get x5
          have zx := World.block_lt_of_cell? _ _ x0
          simp only at zx
          have hili : (i : Int) < (ar.length : Int) := by omega
          have K68 := Lib.hid (fun w' => c68 m (.slice mo m.pix.length mc) x w' HM.out.1 ⟨_, _, _, rfl⟩)
          unfold imgVal areaVal at K68
          by_cases g0 : x.Ok m
          case neg =>
            have q0 : decide (x.Ok m) = false := decide_eq_false g0
            have HR := Lib.hid (show ¬ Proved m t limit ms ar from fun h => g0 (h.2.1 _ HMEM.out).1)
            rw [q0] at K68
            go_wp2_with (go_at_call 68; (with_reducible refine (K68.out _).mono ?_); rintro E w8 ⟨rfl, hb8⟩; have A8 := Lib.hid (show At w8 [(wr.heap.size, Obj.cells #[.int .i64 x.x0, .int .i64 x.y0, .int .i64 x.x1, .int .i64 x.y1, .int .i64 x.turn, .int .i64 x.scale] 47), (w.heap.size + 1 + 1 + 1 + 1, Obj.cells #[.map (some (w.heap.size + 1 + 1 + 1))] 142), (w.heap.size + 1 + 1, Obj.cells #[.slice m1 ms.length mc1, .slice (some ⟨bo, off, none⟩) ar.length ac1] 63), (w.heap.size + 1, Obj.cells #[.int .i64 t.w, .int .i64 t.h, .slice to t.pix.length tc] 43), (w.heap.size, Obj.cells #[.int .i64 m.w, .int .i64 m.h, .slice mo m.pix.length mc] 24)] from At.ext hb8 ⟨blk_at _ _ rfl, At.alloc hA.out _⟩); have E8 := Lib.hid (show Ext w w8 from (hE.out.alloc _).trans hb8); have C8 := Lib.hid ((hC.out.ext ((Ext.refl _).alloc _)).ext hb8); obtain ⟨⟨u00, u01, u02, u03, u04, u05⟩, -⟩ := run_6 (At.at A8.out 0 rfl); obtain ⟨u10, -⟩ := run_1 (At.at A8.out 1 rfl); obtain ⟨⟨u20, u21⟩, -⟩ := run_2 (At.at A8.out 2 rfl); obtain ⟨⟨u30, u31, u32⟩, -⟩ := run_3 (At.at A8.out 3 rfl); obtain ⟨⟨u40, u41, u42⟩, -⟩ := run_3 (At.at A8.out 4 rfl); have uz0 := At.lt A8.out 0 rfl; have uy0 := Nat.lt_succ_of_lt uz0; have ux0 := Nat.lt_succ_of_lt uy0; have uz1 := At.lt A8.out 1 rfl; have uy1 := Nat.lt_succ_of_lt uz1; have ux1 := Nat.lt_succ_of_lt uy1; have uz2 := At.lt A8.out 2 rfl; have uy2 := Nat.lt_succ_of_lt uz2; have ux2 := Nat.lt_succ_of_lt uy2; have uz3 := At.lt A8.out 3 rfl; have uy3 := Nat.lt_succ_of_lt uz3; have ux3 := Nat.lt_succ_of_lt uy3; have uz4 := At.lt A8.out 4 rfl; have uy4 := Nat.lt_succ_of_lt uz4; have ux4 := Nat.lt_succ_of_lt uy4)
            go_ret
            first | exact ⟨false, rfl, ⟨fun h => (by cases h), fun h => absurd h HR.out⟩, E8.out⟩ | exact .inl ⟨rfl, HR.out, E8.out⟩
          have q0 : decide (x.Ok m) = true := decide_eq_true g0
          rw [q0] at K68
          have K100 := Lib.hid (fun n' w' (h : Ext w w') (hc : CovAt w' (w.heap.size + 1 + 1 + 1) n' (fun p => hits ms p + hasN (ar.take i) p)) (ha : At w' [(w.heap.size + 1 + 1 + 1 + 1, Obj.cells #[.map (some (w.heap.size + 1 + 1 + 1))] 142), (w.heap.size + 1, Obj.cells #[.int .i64 t.w, .int .i64 t.h, .slice to t.pix.length tc] 43), (w.heap.size, Obj.cells #[.int .i64 m.w, .int .i64 m.h, .slice mo m.pix.length mc] 24)]) (hn : n' ≤ 1000000000) => c100 m (.slice mo m.pix.length mc) t (.slice to t.pix.length tc) x w w' (w.heap.size + 1 + 1 + 1) n' 26000 (w.heap.size + 1 + 1 + 1 + 1) (w.heap.size + 1) (w.heap.size) (fun p => hits ms p + hasN (ar.take i) p) HM.out HT.out HV.out HTV.out g0 h (by omega) hc ha ⟨by omega, by omega, by omega⟩ hn (fun p => by have h1 := hits_le ms p; have h2 := hasN_le (ar.take i) p; rw [List.length_take] at h2; omega) (by omega))
          obtain ⟨bd, hbd⟩ : ∃ bd, bound m t x = bd := ⟨_, rfl⟩
          simp only [hbd, has_step hil HX.out] at K100
          unfold areaVal at K100
          have HB := Lib.hid hbd
          clear hbd q0
          by_cases g1 : bd ≤ limit
          · have q1 : decide (bd ≤ limit) = true := decide_eq_true g1
            have HR := Lib.hid (show ¬ Proved m t limit ms ar from fun h => by have h8 := (h.2.1 _ HMEM.out).2; rw [HB.out] at h8; omega)
            go_wp2_with (first | (have _q := E8; go_at_call 100; (with_reducible refine (K100.out _ _ E8.out C8.out (At.caps1 (A8.out)) (by omega)).mono ?_); rintro E w9 ⟨rfl, hC9, hg9⟩; have A9 := Lib.hid (show At w9 [(wr.heap.size, Obj.cells #[.int .i64 x.x0, .int .i64 x.y0, .int .i64 x.x1, .int .i64 x.y1, .int .i64 x.turn, .int .i64 x.scale] 47), (w.heap.size + 1 + 1 + 1 + 1, Obj.cells #[.map (some (w.heap.size + 1 + 1 + 1))] 142), (w.heap.size + 1 + 1, Obj.cells #[.slice m1 ms.length mc1, .slice (some ⟨bo, off, none⟩) ar.length ac1] 63), (w.heap.size + 1, Obj.cells #[.int .i64 t.w, .int .i64 t.h, .slice to t.pix.length tc] 43), (w.heap.size, Obj.cells #[.int .i64 m.w, .int .i64 m.h, .slice mo m.pix.length mc] 24)] from At.grown hg9 A8.out (by intro k hk; simp only [List.map_cons, List.map_nil, List.mem_cons, List.not_mem_nil, or_false] at hk; rcases hk with rfl | rfl | rfl | rfl | rfl <;> simp <;> omega)); have E9 := Lib.hid (E8.out.grown hg9 (fun k hk => by cases hk; omega)); have C9 := Lib.hid hC9; clear hC9; obtain ⟨⟨v00, v01, v02, v03, v04, v05⟩, -⟩ := run_6 (At.at A9.out 0 rfl); obtain ⟨v10, -⟩ := run_1 (At.at A9.out 1 rfl); obtain ⟨⟨v20, v21⟩, -⟩ := run_2 (At.at A9.out 2 rfl); obtain ⟨⟨v30, v31, v32⟩, -⟩ := run_3 (At.at A9.out 3 rfl); obtain ⟨⟨v40, v41, v42⟩, -⟩ := run_3 (At.at A9.out 4 rfl); have vz0 := At.lt A9.out 0 rfl; have vy0 := Nat.lt_succ_of_lt vz0; have vx0 := Nat.lt_succ_of_lt vy0; have vz1 := At.lt A9.out 1 rfl; have vy1 := Nat.lt_succ_of_lt vz1; have vx1 := Nat.lt_succ_of_lt vy1; have vz2 := At.lt A9.out 2 rfl; have vy2 := Nat.lt_succ_of_lt vz2; have vx2 := Nat.lt_succ_of_lt vy2; have vz3 := At.lt A9.out 3 rfl; have vy3 := Nat.lt_succ_of_lt vz3; have vx3 := Nat.lt_succ_of_lt vy3; have vz4 := At.lt A9.out 4 rfl; have vy4 := Nat.lt_succ_of_lt vz4; have vx4 := Nat.lt_succ_of_lt vy4) | (go_at_call 68; (with_reducible refine (K68.out _).mono ?_); rintro E w8 ⟨rfl, hb8⟩; have A8 := Lib.hid (show At w8 [(wr.heap.size, Obj.cells #[.int .i64 x.x0, .int .i64 x.y0, .int .i64 x.x1, .int .i64 x.y1, .int .i64 x.turn, .int .i64 x.scale] 47), (w.heap.size + 1 + 1 + 1 + 1, Obj.cells #[.map (some (w.heap.size + 1 + 1 + 1))] 142), (w.heap.size + 1 + 1, Obj.cells #[.slice m1 ms.length mc1, .slice (some ⟨bo, off, none⟩) ar.length ac1] 63), (w.heap.size + 1, Obj.cells #[.int .i64 t.w, .int .i64 t.h, .slice to t.pix.length tc] 43), (w.heap.size, Obj.cells #[.int .i64 m.w, .int .i64 m.h, .slice mo m.pix.length mc] 24)] from At.ext hb8 ⟨blk_at _ _ rfl, At.alloc hA.out _⟩); have E8 := Lib.hid (show Ext w w8 from (hE.out.alloc _).trans hb8); have C8 := Lib.hid ((hC.out.ext ((Ext.refl _).alloc _)).ext hb8); obtain ⟨⟨u00, u01, u02, u03, u04, u05⟩, -⟩ := run_6 (At.at A8.out 0 rfl); obtain ⟨u10, -⟩ := run_1 (At.at A8.out 1 rfl); obtain ⟨⟨u20, u21⟩, -⟩ := run_2 (At.at A8.out 2 rfl); obtain ⟨⟨u30, u31, u32⟩, -⟩ := run_3 (At.at A8.out 3 rfl); obtain ⟨⟨u40, u41, u42⟩, -⟩ := run_3 (At.at A8.out 4 rfl); have uz0 := At.lt A8.out 0 rfl; have uy0 := Nat.lt_succ_of_lt uz0; have ux0 := Nat.lt_succ_of_lt uy0; have uz1 := At.lt A8.out 1 rfl; have uy1 := Nat.lt_succ_of_lt uz1; have ux1 := Nat.lt_succ_of_lt uy1; have uz2 := At.lt A8.out 2 rfl; have uy2 := Nat.lt_succ_of_lt uz2; have ux2 := Nat.lt_succ_of_lt uy2; have uz3 := At.lt A8.out 3 rfl; have uy3 := Nat.lt_succ_of_lt uz3; have ux3 := Nat.lt_succ_of_lt uy3; have uz4 := At.lt A8.out 4 rfl; have uy4 := Nat.lt_succ_of_lt uz4; have ux4 := Nat.lt_succ_of_lt uy4))
            go_ret
            first | exact ⟨false, rfl, ⟨fun h => (by cases h), fun h => absurd h HR.out⟩, E9.out⟩ | exact .inl ⟨rfl, HR.out, E9.out⟩
          have q1 : decide (bd ≤ limit) = false := decide_eq_false g1
          have HS := Lib.hid (show ∀ y ∈ ar.take (i + 1), AreaOk m t limit y by
            rw [take_snoc_at area0 hil, HX.out]
            intro y hy
            rcases List.mem_append.1 hy with hy | hy
            · exact hI.out y hy
            · rw [List.mem_singleton.1 hy]
              exact ⟨g0, by rw [HB.out]; omega⟩)
          go_wp2_with (first | (have _q := E8; go_at_call 100; (with_reducible refine (K100.out _ _ E8.out C8.out (At.caps1 (A8.out)) (by omega)).mono ?_); rintro E w9 ⟨rfl, hC9, hg9⟩; have A9 := Lib.hid (show At w9 [(wr.heap.size, Obj.cells #[.int .i64 x.x0, .int .i64 x.y0, .int .i64 x.x1, .int .i64 x.y1, .int .i64 x.turn, .int .i64 x.scale] 47), (w.heap.size + 1 + 1 + 1 + 1, Obj.cells #[.map (some (w.heap.size + 1 + 1 + 1))] 142), (w.heap.size + 1 + 1, Obj.cells #[.slice m1 ms.length mc1, .slice (some ⟨bo, off, none⟩) ar.length ac1] 63), (w.heap.size + 1, Obj.cells #[.int .i64 t.w, .int .i64 t.h, .slice to t.pix.length tc] 43), (w.heap.size, Obj.cells #[.int .i64 m.w, .int .i64 m.h, .slice mo m.pix.length mc] 24)] from At.grown hg9 A8.out (by intro k hk; simp only [List.map_cons, List.map_nil, List.mem_cons, List.not_mem_nil, or_false] at hk; rcases hk with rfl | rfl | rfl | rfl | rfl <;> simp <;> omega)); have E9 := Lib.hid (E8.out.grown hg9 (fun k hk => by cases hk; omega)); have C9 := Lib.hid hC9; clear hC9; obtain ⟨⟨v00, v01, v02, v03, v04, v05⟩, -⟩ := run_6 (At.at A9.out 0 rfl); obtain ⟨v10, -⟩ := run_1 (At.at A9.out 1 rfl); obtain ⟨⟨v20, v21⟩, -⟩ := run_2 (At.at A9.out 2 rfl); obtain ⟨⟨v30, v31, v32⟩, -⟩ := run_3 (At.at A9.out 3 rfl); obtain ⟨⟨v40, v41, v42⟩, -⟩ := run_3 (At.at A9.out 4 rfl); have vz0 := At.lt A9.out 0 rfl; have vy0 := Nat.lt_succ_of_lt vz0; have vx0 := Nat.lt_succ_of_lt vy0; have vz1 := At.lt A9.out 1 rfl; have vy1 := Nat.lt_succ_of_lt vz1; have vx1 := Nat.lt_succ_of_lt vy1; have vz2 := At.lt A9.out 2 rfl; have vy2 := Nat.lt_succ_of_lt vz2; have vx2 := Nat.lt_succ_of_lt vy2; have vz3 := At.lt A9.out 3 rfl; have vy3 := Nat.lt_succ_of_lt vz3; have vx3 := Nat.lt_succ_of_lt vy3; have vz4 := At.lt A9.out 4 rfl; have vy4 := Nat.lt_succ_of_lt vz4; have vx4 := Nat.lt_succ_of_lt vy4) | (go_at_call 68; (with_reducible refine (K68.out _).mono ?_); rintro E w8 ⟨rfl, hb8⟩; have A8 := Lib.hid (show At w8 [(wr.heap.size, Obj.cells #[.int .i64 x.x0, .int .i64 x.y0, .int .i64 x.x1, .int .i64 x.y1, .int .i64 x.turn, .int .i64 x.scale] 47), (w.heap.size + 1 + 1 + 1 + 1, Obj.cells #[.map (some (w.heap.size + 1 + 1 + 1))] 142), (w.heap.size + 1 + 1, Obj.cells #[.slice m1 ms.length mc1, .slice (some ⟨bo, off, none⟩) ar.length ac1] 63), (w.heap.size + 1, Obj.cells #[.int .i64 t.w, .int .i64 t.h, .slice to t.pix.length tc] 43), (w.heap.size, Obj.cells #[.int .i64 m.w, .int .i64 m.h, .slice mo m.pix.length mc] 24)] from At.ext hb8 ⟨blk_at _ _ rfl, At.alloc hA.out _⟩); have E8 := Lib.hid (show Ext w w8 from (hE.out.alloc _).trans hb8); have C8 := Lib.hid ((hC.out.ext ((Ext.refl _).alloc _)).ext hb8); obtain ⟨⟨u00, u01, u02, u03, u04, u05⟩, -⟩ := run_6 (At.at A8.out 0 rfl); obtain ⟨u10, -⟩ := run_1 (At.at A8.out 1 rfl); obtain ⟨⟨u20, u21⟩, -⟩ := run_2 (At.at A8.out 2 rfl); obtain ⟨⟨u30, u31, u32⟩, -⟩ := run_3 (At.at A8.out 3 rfl); obtain ⟨⟨u40, u41, u42⟩, -⟩ := run_3 (At.at A8.out 4 rfl); have uz0 := At.lt A8.out 0 rfl; have uy0 := Nat.lt_succ_of_lt uz0; have ux0 := Nat.lt_succ_of_lt uy0; have uz1 := At.lt A8.out 1 rfl; have uy1 := Nat.lt_succ_of_lt uz1; have ux1 := Nat.lt_succ_of_lt uy1; have uz2 := At.lt A8.out 2 rfl; have uy2 := Nat.lt_succ_of_lt uz2; have ux2 := Nat.lt_succ_of_lt uy2; have uz3 := At.lt A8.out 3 rfl; have uy3 := Nat.lt_succ_of_lt uz3; have ux3 := Nat.lt_succ_of_lt uy3; have uz4 := At.lt A8.out 4 rfl; have uy4 := Nat.lt_succ_of_lt uz4; have ux4 := Nat.lt_succ_of_lt uy4))
          go_roundw
          case rel => exact ⟨E9, Lib.hid A9.out.2, i + 1, n + 256, by omega, by omega, by go_num, HS, C9⟩
          case measure => simp [intOf]; omega
        · have HI2 := Lib.hid (show ∀ x ∈ ar, AreaOk m t limit x by have h9 := hI.out; rw [List.take_of_length_le (by omega)] at h9; exact h9)
          have HC2 := Lib.hid (show CovAt wr (w.heap.size + 1 + 1 + 1) n (fun p => hits ms p + hasN ar p) by have h9 := hC.out; rw [List.take_of_length_le (by omega)] at h9; exact h9)
          clear hI hC
          obtain ⟨n9, hn9⟩ : ∃ n9 : Nat, n9 = n := ⟨_, rfl⟩
          subst hn9
          obtain ⟨D, hown, hI⟩ := HC2.out
          have HIFF := Lib.hid (show ((∀ k, Maps.has D k = true → D.atKey k (.lit (.int .i64 0)) = .lit (.int .i64 1)) ∧ Maps.size D = 48 * m.pix.length) ↔ Proved m t limit ms ar from (counted_iff HM.out.1 (hown.entries law45) hI (fun p hp => hits_univ HM.out.1 HI1.out HI2.out hp)).trans (proved_iff HI1.out HI2.out).symm)
          have HIS := Lib.hid (show ∃ es, D = .map es from (hown.entries law45).imp fun _ h => h.1)
          replace hown := Lib.hid hown
          clear hI HC2
          have lt5 := At.lt hA.out 0 rfl
          obtain ⟨RB, hRB⟩ : ∃ RB, wr.heap.size = RB := ⟨_, rfl⟩
          go_wp2_with (at_range; refine wpList_range_own _ rfl _ 142 rfl 45 3 law45 Try.underlying142 (plainElem Try.prog 3) (w.heap.size + 1 + 1 + 1) n9 D rfl hown.out ?_; intro w5 hrg5 hg5 hs5; have A5 := Lib.hid (show At w5 [(w.heap.size + 1 + 1 + 1 + 1, Obj.cells #[.map (some (w.heap.size + 1 + 1 + 1))] 142), (w.heap.size + 1 + 1, Obj.cells #[.slice m1 ms.length mc1, .slice a1 ar.length ac1] 63), (w.heap.size + 1, Obj.cells #[.int .i64 t.w, .int .i64 t.h, .slice to t.pix.length tc] 43), (w.heap.size, Obj.cells #[.int .i64 m.w, .int .i64 m.h, .slice mo m.pix.length mc] 24)] from At.grown hg5 hA.out (by simp)); have E5 := Lib.hid (hE.out.grown hg5 (by simp)); have R5 := Lib.hid hrg5; clear hrg5; obtain ⟨u00, -⟩ := run_1 (At.at A5.out 0 rfl); obtain ⟨⟨u10, u11⟩, -⟩ := run_2 (At.at A5.out 1 rfl); obtain ⟨⟨u20, u21, u22⟩, -⟩ := run_3 (At.at A5.out 2 rfl); obtain ⟨⟨u30, u31, u32⟩, -⟩ := run_3 (At.at A5.out 3 rfl); have uz0 := At.lt A5.out 0 rfl; have uy0 := Nat.lt_succ_of_lt uz0; have ux0 := Nat.lt_succ_of_lt uy0; have uz1 := At.lt A5.out 1 rfl; have uy1 := Nat.lt_succ_of_lt uz1; have ux1 := Nat.lt_succ_of_lt uy1; have uz2 := At.lt A5.out 2 rfl; have uy2 := Nat.lt_succ_of_lt uz2; have ux2 := Nat.lt_succ_of_lt uy2; have uz3 := At.lt A5.out 3 rfl; have uy3 := Nat.lt_succ_of_lt uz3; have ux3 := Nat.lt_succ_of_lt uy3)
          rw [hRB] at lt5 R5 ⊢
          go_frame
          obtain ⟨wp, hwp⟩ : ∃ wp : World, wp = w5 := ⟨_, rfl⟩
          subst hwp
          clear hown hE hA hRB hs5 hg5
          go_loopw [17] (fun _ wr => Hid (Ext w wr) ∧ Hid (At wr [(w.heap.size + 1 + 1 + 1 + 1, Obj.cells #[.map (some (w.heap.size + 1 + 1 + 1))] 142), (w.heap.size + 1 + 1, Obj.cells #[.slice m1 ms.length mc1, .slice a1 ar.length ac1] 63), (w.heap.size + 1, Obj.cells #[.int .i64 t.w, .int .i64 t.h, .slice to t.pix.length tc] 43), (w.heap.size, Obj.cells #[.int .i64 m.w, .int .i64 m.h, .slice mo m.pix.length mc] 24)]) ∧ ∃ (left : Lit → Bool) (cnt : Nat), Hid (wr.ranges Try.prog 45 (plainElem Try.prog 3) (w.heap.size + 1 + 1 + 1) RB n9 D left cnt) ∧ Hid (∀ k, Maps.has D k = true → left k = false → D.atKey k (.lit (.int .i64 0)) = .lit (.int .i64 1))) (fun _ wr => wr.rangeLeft (w.heap.size + 1 + 1 + 1) RB)
          case atStart => exact ⟨E5, A5, _, _, R5, Lib.hid (fun k h1 h2 => by rw [h1] at h2; cases h2)⟩
          case round =>
            clear E5 A5 R5
            obtain ⟨hE, hA, left, cnt, hrg, hV⟩ := hrel
            obtain ⟨z00, -⟩ := run_1 (At.at hA.out 0 rfl)
            obtain ⟨⟨z10, z11⟩, -⟩ := run_2 (At.at hA.out 1 rfl)
            obtain ⟨⟨z20, z21, z22⟩, -⟩ := run_3 (At.at hA.out 2 rfl)
            obtain ⟨⟨z30, z31, z32⟩, -⟩ := run_3 (At.at hA.out 3 rfl)
            have zz0 := At.lt hA.out 0 rfl
            have zy0 := Nat.lt_succ_of_lt zz0
            have zx0 := Nat.lt_succ_of_lt zy0
            have zz1 := At.lt hA.out 1 rfl
            have zy1 := Nat.lt_succ_of_lt zz1
            have zx1 := Nat.lt_succ_of_lt zy1
            have zz2 := At.lt hA.out 2 rfl
            have zy2 := Nat.lt_succ_of_lt zz2
            have zx2 := Nat.lt_succ_of_lt zy2
            have zz3 := At.lt hA.out 3 rfl
            have zy3 := Nat.lt_succ_of_lt zz3
            have zx3 := Nat.lt_succ_of_lt zy3
            go_wp2_with (at_next; refine wpList_next_ranges _ rfl _ rfl 45 law45 (plainElem Try.prog 3) id (Value.int .i64) (fun key kl h => ⟨key, rfl⟩) (fun v y hv => by obtain ⟨c, rfl, _⟩ := plainElem_int_inv Try.underlying3 hv; exact ⟨c, rfl⟩) (w.heap.size + 1 + 1 + 1) RB n9 D left cnt rfl hrg.out ?_ ?_)
            · intro _ hl0
              have HALL := Lib.hid (show ∀ k, Maps.has D k = true → D.atKey k (.lit (.int .i64 0)) = .lit (.int .i64 1) from fun k hk => hV.out k hk (hl0 k))
              have hlen := fun ty => hrg.out.owns.len Try.underlying142 ty
              obtain ⟨sz, hsz⟩ : ∃ sz, Maps.size D = sz := ⟨_, rfl⟩
              rw [hsz] at hlen HIFF
              clear hl0
              by_cases g : sz = 48 * m.pix.length
              · have q : ((sz : Int) == (m.pix.length : Int) * 12 * 4) = true := by rw [beq_iff_eq]; omega
                have HR := Lib.hid (HIFF.out.1 ⟨HALL.out, g⟩)
                clear g
                go_wp2
                go_ret
                first | exact ⟨true, rfl, ⟨fun _ => HR.out, fun _ => rfl⟩, hE.out⟩ | exact .inr ⟨rfl, HR.out, hE.out⟩
              · have q : ((sz : Int) == (m.pix.length : Int) * 12 * 4) = false := by rw [beq_eq_false_iff_ne]; omega
                have HR := Lib.hid (show ¬ Proved m t limit ms ar from fun h => g (HIFF.out.2 h).2)
                clear g
                go_wp2
                go_ret
                first | exact ⟨false, rfl, ⟨fun h => (by cases h), fun h => absurd h HR.out⟩, hE.out⟩ | exact .inl ⟨rfl, HR.out, hE.out⟩
            · intro key c kl y1 y2 w6 cnt1 hkey hlk hy hat hrg1 hlt hg1 hs1 hen
              obtain ⟨c', e1, e2, -⟩ := plainElem_int_inv Try.underlying3 hy
              rw [Prod.mk.injEq] at e2
              obtain ⟨rfl, rfl⟩ := e2
              cases e1
              try simp only [id] at hen
              have A6 := Lib.hid (show At w6 [(w.heap.size + 1 + 1 + 1 + 1, Obj.cells #[.map (some (w.heap.size + 1 + 1 + 1))] 142), (w.heap.size + 1 + 1, Obj.cells #[.slice m1 ms.length mc1, .slice a1 ar.length ac1] 63), (w.heap.size + 1, Obj.cells #[.int .i64 t.w, .int .i64 t.h, .slice to t.pix.length tc] 43), (w.heap.size, Obj.cells #[.int .i64 m.w, .int .i64 m.h, .slice mo m.pix.length mc] 24)] from At.grown hg1 hA.out (by intro k hk; simp only [List.map_cons, List.map_nil, List.mem_cons, List.not_mem_nil, or_false] at hk; rcases hk with rfl | rfl | rfl | rfl <;> simp <;> omega))
              have E6 := Lib.hid (hE.out.grown hg1 (fun k hk => by cases hk; omega))
              have R6 := Lib.hid hrg1
              have HKL := Lib.hid (show Maps.has D kl = true from has_of_atKey HIS.out hat)
              have HAT := Lib.hid hat
              have hm9 : w6.rangeLeft (w.heap.size + 1 + 1 + 1) RB < wr.rangeLeft (w.heap.size + 1 + 1 + 1) RB := by rw [hrg1.left_eq, hrg.out.left_eq]; exact hlt
              clear hrg1 hy hkey hat
              obtain ⟨u00, -⟩ := run_1 (At.at A6.out 0 rfl)
              obtain ⟨⟨u10, u11⟩, -⟩ := run_2 (At.at A6.out 1 rfl)
              obtain ⟨⟨u20, u21, u22⟩, -⟩ := run_3 (At.at A6.out 2 rfl)
              obtain ⟨⟨u30, u31, u32⟩, -⟩ := run_3 (At.at A6.out 3 rfl)
              have uz0 := At.lt A6.out 0 rfl
              have uy0 := Nat.lt_succ_of_lt uz0
              have ux0 := Nat.lt_succ_of_lt uy0
              have uz1 := At.lt A6.out 1 rfl
              have uy1 := Nat.lt_succ_of_lt uz1
              have ux1 := Nat.lt_succ_of_lt uy1
              have uz2 := At.lt A6.out 2 rfl
              have uy2 := Nat.lt_succ_of_lt uz2
              have ux2 := Nat.lt_succ_of_lt uy2
              have uz3 := At.lt A6.out 3 rfl
              have uy3 := Nat.lt_succ_of_lt uz3
              have ux3 := Nat.lt_succ_of_lt uy3
              by_cases hc : c = 1
              · have q : (c != 1) = false := by simpa using hc
                have HS := Lib.hid (show ∀ k, Maps.has D k = true → (left k && !k.sameKey kl) = false → D.atKey k (.lit (.int .i64 0)) = .lit (.int .i64 1) from fun k h1 h2 => by
                  cases h3 : left k
                  · exact hV.out k h1 h3
                  · rw [h3] at h2
                    have h4 : k.sameKey kl = true := by simpa using h2
                    rw [WideAt.sameKey_eq h4, HAT.out, hc])
                go_wp2
                go_roundw
                case rel => exact ⟨E6, A6, _, cnt1, R6, HS⟩
                case measure => exact hm9
              · have q : (c != 1) = true := by simpa using hc
                have HR := Lib.hid (show ¬ Proved m t limit ms ar from fun h => by
                  have h1 := (HIFF.out.2 h).1 kl HKL.out
                  rw [HAT.out] at h1
                  simp at h1
                  exact hc h1)
                go_wp2
                go_ret
                first | exact ⟨false, rfl, ⟨fun h => (by cases h), fun h => absurd h HR.out⟩, E6.out⟩ | exact .inl ⟨rfl, HR.out, E6.out⟩
end Go.Proofs.Ytipkjdfnoonpcaa

/- 'Check': the walk. -/
namespace Go.Proofs.Ytipkjdfnoonpcaa
open Go.RowKit Go.Sort

set_option maxRecDepth 100000 in
set_option maxHeartbeats 16000000 in
theorem c33 (m : Img) (v : Value) (t : Tpl) (tv : Value) (limit : Int) (ms : List Match) (ar : List Area) (mv av : Value) (w : World) (hv : IntsAt w v m.pix) (hml : m.pix.length ≤ maxLen) (htv : IntsAt w tv t.pix) (htl : t.pix.length ≤ maxLen) (h1 : MatchesAt w mv ms) (h2 : AreasAt w av ar) (n1 : ms.length ≤ 13000) (n2 : ar.length ≤ 13000) :
    Calls Try.prog 33 #[imgVal m v, tplVal t tv, .int .i64 limit, searchVal mv av] w fun e w' => e = .returned (.int .i64 (checkR m t limit ms ar)) ∧ Ext w w' := by
  have HV := Lib.hid hv
  have HTV := Lib.hid htv
  have HMS := Lib.hid h1
  have HAR := Lib.hid h2
  obtain ⟨mo, mc, rfl, -, -⟩ := hv.form
  obtain ⟨to, tc, rfl, -, -⟩ := htv.form
  obtain ⟨m1, mc1, rfl, -, -⟩ := h1.form
  obtain ⟨a1, ac1, rfl, -, -⟩ := h2.form
  have K67 := Lib.hid (fun w' (h : Ext w w') => c67 m _ t _ w' (HV.out.ext h) hml (HTV.out.ext h) htl)
  have K74 := fun (g1 : m.Camera) (g2 : t.Ok) (g3 : 0 ≤ limit ∧ limit ≤ 16320) => Lib.hid (fun w' (h : Ext w w') => c73 m _ t _ limit ms ar _ _ w' g1 g2 g3 (HV.out.ext h) (HTV.out.ext h) (HMS.out.ext h) (HAR.out.ext h) n1 n2)
  unfold imgVal tplVal searchVal at *
  clear hv htv h1 h2 hml htl
  by_cases h0 : checkE m t = 0
  case neg =>
    obtain ⟨r, hr⟩ : ∃ r, checkE m t = r := ⟨_, rfl⟩
    have q0 : (r != 0) = true := by simpa [hr] using h0
    have hR := Lib.hid (show checkR m t limit ms ar = r from by unfold checkR; rw [if_neg h0, hr])
    rw [hr] at K67
    clear h0 hr K74
    go_enter Try.func33, Try.ntmps33
    go_wp2_with (go_at_call 67; (with_reducible refine (K67.out _ (by repeat (first | exact Ext.refl _ | assumption | refine Ext.alloc ?_ _ | refine Ext.drewN ?_ _ | refine ext_grow ?_ _ _ | refine Ext.trans ?_ (by assumption)))).mono ?_); rintro E w1 ⟨rfl, hb1⟩; have A1 := Lib.hid (show At w1 [(w.heap.size + 1 + 1, Obj.cells #[.slice m1 ms.length mc1, .slice a1 ar.length ac1] 63), (w.heap.size + 1, Obj.cells #[.int .i64 t.w, .int .i64 t.h, .slice to t.pix.length tc] 43), (w.heap.size, Obj.cells #[.int .i64 m.w, .int .i64 m.h, .slice mo m.pix.length mc] 24)] from At.ext hb1 ⟨(by repeat (first | (refine blk_at _ _ ?_; (first | rfl | (simp only [size_one]; done))) | refine (blk_past _ _ (by simp only [size_one]; omega)).trans ?_)), (by repeat (first | (refine blk_at _ _ ?_; (first | rfl | (simp only [size_one]; done))) | refine (blk_past _ _ (by simp only [size_one]; omega)).trans ?_)), (by repeat (first | (refine blk_at _ _ ?_; (first | rfl | (simp only [size_one]; done))) | refine (blk_past _ _ (by simp only [size_one]; omega)).trans ?_)), trivial⟩); have E1 := Lib.hid (show Ext w w1 from (by repeat (first | exact Ext.refl _ | assumption | refine Ext.alloc ?_ _ | refine Ext.drewN ?_ _ | refine ext_grow ?_ _ _ | refine Ext.trans ?_ (by assumption)))); obtain ⟨⟨x00, x01⟩, -⟩ := run_2 (At.at A1.out 0 rfl); obtain ⟨⟨x10, x11, x12⟩, -⟩ := run_3 (At.at A1.out 1 rfl); obtain ⟨⟨x20, x21, x22⟩, -⟩ := run_3 (At.at A1.out 2 rfl); have xz0 := At.lt A1.out 0 rfl; have xy0 := Nat.lt_succ_of_lt xz0; have xx0 := Nat.lt_succ_of_lt xy0; have xz1 := At.lt A1.out 1 rfl; have xy1 := Nat.lt_succ_of_lt xz1; have xx1 := Nat.lt_succ_of_lt xy1; have xz2 := At.lt A1.out 2 rfl; have xy2 := Nat.lt_succ_of_lt xz2; have xx2 := Nat.lt_succ_of_lt xy2)
    go_ret
    exact ⟨ret_int hR.out.symm, E1.out⟩
  obtain ⟨g1, g2⟩ := check_ok h0
  rw [h0] at K67
  by_cases h1 : 0 ≤ limit ∧ limit ≤ 16320
  case neg =>
    have q1 : decide (0 ≤ limit ∧ limit ≤ 16320) = false := decide_eq_false h1
    have hR := Lib.hid (show checkR m t limit ms ar = 2 from by unfold checkR; rw [if_pos h0, if_neg h1])
    clear h0 h1 K74 g1 g2
    go_enter Try.func33, Try.ntmps33
    go_wp2_with (first | (go_at_call 50; (with_reducible refine (within_one_same 50 (.inl rfl) _ _ _ _ _ (by simp)).mono ?_); rintro e w' ⟨rfl, rfl⟩) | (go_at_call 67; (with_reducible refine (K67.out _ (by repeat (first | exact Ext.refl _ | assumption | refine Ext.alloc ?_ _ | refine Ext.drewN ?_ _ | refine ext_grow ?_ _ _ | refine Ext.trans ?_ (by assumption)))).mono ?_); rintro E w1 ⟨rfl, hb1⟩; have A1 := Lib.hid (show At w1 [(w.heap.size + 1 + 1, Obj.cells #[.slice m1 ms.length mc1, .slice a1 ar.length ac1] 63), (w.heap.size + 1, Obj.cells #[.int .i64 t.w, .int .i64 t.h, .slice to t.pix.length tc] 43), (w.heap.size, Obj.cells #[.int .i64 m.w, .int .i64 m.h, .slice mo m.pix.length mc] 24)] from At.ext hb1 ⟨(by repeat (first | (refine blk_at _ _ ?_; (first | rfl | (simp only [size_one]; done))) | refine (blk_past _ _ (by simp only [size_one]; omega)).trans ?_)), (by repeat (first | (refine blk_at _ _ ?_; (first | rfl | (simp only [size_one]; done))) | refine (blk_past _ _ (by simp only [size_one]; omega)).trans ?_)), (by repeat (first | (refine blk_at _ _ ?_; (first | rfl | (simp only [size_one]; done))) | refine (blk_past _ _ (by simp only [size_one]; omega)).trans ?_)), trivial⟩); have E1 := Lib.hid (show Ext w w1 from (by repeat (first | exact Ext.refl _ | assumption | refine Ext.alloc ?_ _ | refine Ext.drewN ?_ _ | refine ext_grow ?_ _ _ | refine Ext.trans ?_ (by assumption)))); obtain ⟨⟨x00, x01⟩, -⟩ := run_2 (At.at A1.out 0 rfl); obtain ⟨⟨x10, x11, x12⟩, -⟩ := run_3 (At.at A1.out 1 rfl); obtain ⟨⟨x20, x21, x22⟩, -⟩ := run_3 (At.at A1.out 2 rfl); have xz0 := At.lt A1.out 0 rfl; have xy0 := Nat.lt_succ_of_lt xz0; have xx0 := Nat.lt_succ_of_lt xy0; have xz1 := At.lt A1.out 1 rfl; have xy1 := Nat.lt_succ_of_lt xz1; have xx1 := Nat.lt_succ_of_lt xy1; have xz2 := At.lt A1.out 2 rfl; have xy2 := Nat.lt_succ_of_lt xz2; have xx2 := Nat.lt_succ_of_lt xy2))
    go_ret
    exact ⟨ret_int hR.out.symm, E1.out.trans (by repeat (first | exact Ext.refl _ | assumption | refine Ext.alloc ?_ _ | refine Ext.drewN ?_ _ | refine ext_grow ?_ _ _ | refine Ext.trans ?_ (by assumption)))⟩
  have q1 : decide (0 ≤ limit ∧ limit ≤ 16320) = true := decide_eq_true h1
  have hR := Lib.hid (show checkR m t limit ms ar = provedR m t limit ms ar from by unfold checkR; rw [if_pos h0, if_pos h1])
  replace K74 := K74 g1 g2 h1
  clear h0 h1 g1 g2
  go_enter Try.func33, Try.ntmps33
  go_wp2_with (first | (go_at_call 50; (with_reducible refine (within_one_same 50 (.inl rfl) _ _ _ _ _ (by simp)).mono ?_); rintro e w' ⟨rfl, rfl⟩) | (have _q := E1; go_at_call 73; (with_reducible refine (K74.out _ (E1.out.trans (by repeat (first | exact Ext.refl _ | assumption | refine Ext.alloc ?_ _ | refine Ext.drewN ?_ _ | refine ext_grow ?_ _ _ | refine Ext.trans ?_ (by assumption))))).mono ?_); rintro E w3 ⟨c, rfl, hc, hb3⟩; have HC := Lib.hid hc; clear hc; have E3 := Lib.hid (show Ext w w3 from E1.out.trans (Ext.trans (by repeat (first | exact Ext.refl _ | assumption | refine Ext.alloc ?_ _ | refine Ext.drewN ?_ _ | refine ext_grow ?_ _ _ | refine Ext.trans ?_ (by assumption))) hb3)); cases c) | (go_at_call 67; (with_reducible refine (K67.out _ (by repeat (first | exact Ext.refl _ | assumption | refine Ext.alloc ?_ _ | refine Ext.drewN ?_ _ | refine ext_grow ?_ _ _ | refine Ext.trans ?_ (by assumption)))).mono ?_); rintro E w1 ⟨rfl, hb1⟩; have A1 := Lib.hid (show At w1 [(w.heap.size + 1 + 1, Obj.cells #[.slice m1 ms.length mc1, .slice a1 ar.length ac1] 63), (w.heap.size + 1, Obj.cells #[.int .i64 t.w, .int .i64 t.h, .slice to t.pix.length tc] 43), (w.heap.size, Obj.cells #[.int .i64 m.w, .int .i64 m.h, .slice mo m.pix.length mc] 24)] from At.ext hb1 ⟨(by repeat (first | (refine blk_at _ _ ?_; (first | rfl | (simp only [size_one]; done))) | refine (blk_past _ _ (by simp only [size_one]; omega)).trans ?_)), (by repeat (first | (refine blk_at _ _ ?_; (first | rfl | (simp only [size_one]; done))) | refine (blk_past _ _ (by simp only [size_one]; omega)).trans ?_)), (by repeat (first | (refine blk_at _ _ ?_; (first | rfl | (simp only [size_one]; done))) | refine (blk_past _ _ (by simp only [size_one]; omega)).trans ?_)), trivial⟩); have E1 := Lib.hid (show Ext w w1 from (by repeat (first | exact Ext.refl _ | assumption | refine Ext.alloc ?_ _ | refine Ext.drewN ?_ _ | refine ext_grow ?_ _ _ | refine Ext.trans ?_ (by assumption)))); obtain ⟨⟨x00, x01⟩, -⟩ := run_2 (At.at A1.out 0 rfl); obtain ⟨⟨x10, x11, x12⟩, -⟩ := run_3 (At.at A1.out 1 rfl); obtain ⟨⟨x20, x21, x22⟩, -⟩ := run_3 (At.at A1.out 2 rfl); have xz0 := At.lt A1.out 0 rfl; have xy0 := Nat.lt_succ_of_lt xz0; have xx0 := Nat.lt_succ_of_lt xy0; have xz1 := At.lt A1.out 1 rfl; have xy1 := Nat.lt_succ_of_lt xz1; have xx1 := Nat.lt_succ_of_lt xy1; have xz2 := At.lt A1.out 2 rfl; have xy2 := Nat.lt_succ_of_lt xz2; have xx2 := Nat.lt_succ_of_lt xy2))
  · go_ret
    exact ⟨ret_int (by rw [hR.out, provedR_no (fun h => by cases HC.out.2 h)]), E3.out⟩
  · go_ret
    exact ⟨ret_int (by rw [hR.out, provedR_yes (HC.out.1 (by first | rfl | trivial))]), E3.out⟩
end Go.Proofs.Ytipkjdfnoonpcaa
