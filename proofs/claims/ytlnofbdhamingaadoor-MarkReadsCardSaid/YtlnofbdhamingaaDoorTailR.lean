/- A region that draws its order, with a tail, in the round of a loop over a function: RG.region_tail inside the wide fence's round. Generic: no program in sight. -/
import Derived.Test.YtlnofbdhamingaaDoorTail
import Derived.RangeFuncCalls
import Derived.OwnWalkIn
set_option linter.unusedVariables false
set_option linter.unusedSimpArgs false
namespace Go.Proofs.YtlnofbdhamingaaDoor.RG
open Go Go.RowKit Go.Sort

def NoOut (Q : Exit → Act → World → Prop) : Exit → Act → World → Prop := fun e a w => Q e a w ∧ e ≠ .outgrown
theorem ops_round {P : Program} {ops : Array Oper} {Q : Exit → Act → World → Prop} {n r : Nat} (hd : ∀ (i : Nat) (o : Oper), ops[i]? = some o → ∀ c, o.op ≠ .defer c) : ∀ (l : List Nat) (a : Act) (w : World), wpOps P ops (NoOut Q) l a w → wpOpsIn (Fence.wide.inRound r) n P ops Q l a w
  | [], _, _, h => h.1
  | i :: rest, a, w, h => by
    unfold wpOps at h
    unfold wpOpsIn
    have ih := ops_round (P := P) (Q := Q) (n := n) (r := r) hd rest
    cases ho : ops[i]? with
    | none => rw [ho] at h; exact ih _ _ h
    | some o =>
      rw [ho] at h
      simp only at h ⊢
      by_cases hw : Region.wanted o (yielded ops a.tmps) = true
      · rw [if_pos hw] at h ⊢
        rcases h with h | ⟨-, h⟩
        · unfold Oper.wp at h
          refine ⟨fun f _ => trivial, ?_⟩
          rw [Oper.semAt_eq _ _ _ (hd i o ho)]
          generalize (execOp a.eval o).run P w = res at h
          match res, h with
          | .ok (.value v) w', h => exact ih _ _ h
          | .ok .skip w', h => exact ih _ _ h
          | .ok (.defer d) w', h => exact ih _ _ h
          | .ok (.enter f args) w', h =>
            refine ⟨fun h9 => (by cases h9), CallsIn.inRound r (callsIn_wide.2 (Calls.mono h ?_))⟩
            intro e w2 h2
            match e, h2 with
            | .returned v, h2 => exact ih _ _ h2
            | .panicked c, h2 => exact h2.1
            | .outgrown, h2 =>
              obtain ⟨_, _, _, h9⟩ := h2
              exact absurd rfl h9
          | .ok (.row row args) w', h =>
            refine ⟨fun h9 => (by cases h9), fun c cs _ => ?_⟩
            obtain ⟨v, w2, h1, h2⟩ := h c cs
            exact ⟨v, w2, ih _ _ h1, stepsIn_wide.2 h2⟩
          | .halt (.panic v) w', h => exact h.1
        · obtain ⟨_, _, _, h9⟩ := h
          exact absurd rfl h9
      · rw [if_neg hw] at h ⊢
        exact ⟨fun f _ => trivial, ih _ _ h⟩
section
variable {P : Program} {a0 : Act} {w0 : World} {Q : Exit → Act → World → Prop}
theorem tail_any {l : List Oper} {aq : Act} (n : Nat) (hm : P.follows .mixedOrders = true) (hc : check l.toArray (fun _ => []) n = true)
    (hd : ((l.take n).all fun o => match o.dst with | some t => decide (t < a0.tmps.size) | none => false) = true)
    (hsel : ((l.take n).all fun o => match o.op with | .select .. => false | _ => true) = true)
    (h : ∀ w1 : World, Ext w0 w1 → wpQuiet P l.toArray (fun w' => ∃ p : Regrown, w' = grow (redrawn w1 p.d) p.os) (fun a => a = aq) (l.take n) a0)
    (final : ∀ w : World, Ext w0 w → wpList P l.toArray Q (l.drop n) aq w) : wpAny P .any l.toArray Q l.toArray.size (Array.replicate l.toArray.size false) a0 { w0 with drawn := w0.drawn + 1 } := by
  have hok := ok_of_check hc
  have hle := hok.le
  have hdst : ∀ o ∈ l.take n, ∃ t, o.dst = some t ∧ t < a0.tmps.size := fun o ho => by
    have := List.all_eq_true.1 hd o ho
    cases hd : o.dst with
    | none => rw [hd] at this; simp at this
    | some t => rw [hd] at this; exact ⟨t, rfl, by simpa using this⟩
  have huni : ∀ (i k : Nat) (o o' : Oper) (t : Tmp), (l.take n)[i]? = some o → (l.take n)[k]? = some o' → o.dst = some t → o'.dst = some t → i = k := by
    intro i k o o' t h1 h2 h3 h4
    have hi : i < n := by have := (List.getElem?_eq_some_iff.1 h1).1; simp at this; omega
    have hk : k < n := by have := (List.getElem?_eq_some_iff.1 h2).1; simp at this; omega
    rw [List.getElem?_take_of_lt hi] at h1
    rw [List.getElem?_take_of_lt hk] at h2
    rcases Nat.decEq i k with hne | he
    · have := hok.uniq i k hi hk hne o t (by simpa using h1) h3
      rw [writer_iff.2 ⟨o', by simpa using h2, h4⟩] at this
      cases this
    · exact he
  have hchain := fun w1 hw1 => chainG (l.take n) a0 huni hdst (h w1 hw1)
  have haq := (hchain w0 (Ext.refl _)).1
  refine (main (n := n) (G := fun i v _ => ∀ o t, l[i]? = some o → o.dst = some t → v = aq.tmps.getD t undef) (dr := fun _ => []) (a0 := a0) (w0 := w0) hok ?_ ?_ ?_ _ _ _ _ ?_ ?_)
  · intro i o t hi ho hdt
    obtain ⟨t', h1, h2⟩ := hdst o (List.mem_of_getElem? (i := i) (by rw [List.getElem?_take_of_lt hi]; exact ho))
    rw [hdt] at h1
    cases h1
    exact h2
  · intro i o hi ho a w Qx hw hr
    have hot : (l.take n)[i]? = some o := by rw [List.getElem?_take_of_lt hi]; exact ho
    obtain ⟨t, hdt, htl⟩ := hdst o (List.mem_of_getElem? hot)
    have hkey := (hchain w hw).2 i o t hot hdt
    have key : ∀ u ∈ Oper.looksAt l.toArray o, a.tmps.getD u undef = (tputs aq ((l.take n).take i) a0).tmps.getD u undef := by
      intro u hu
      have h1 := hr u hu
      cases hs : src l.toArray i u with
      | some j =>
        rw [hs] at h1
        obtain ⟨hj, hwj⟩ := src_spec hs
        obtain ⟨oj, hoj, hdj⟩ := writer_iff.1 hwj
        have hoj' : l[j]? = some oj := by simpa using hoj
        have hmem : oj ∈ (l.take n).take i := by
          refine List.mem_of_getElem? (i := j) ?_
          rw [List.getElem?_take_of_lt hj, List.getElem?_take_of_lt (by omega)]
          exact hoj'
        obtain ⟨t', e1, e2⟩ := hdst oj (List.mem_of_mem_take hmem)
        rw [hdj] at e1
        cases e1
        rw [h1 oj u hoj' hdj, tputs_writer aq u _ _ e2 ⟨oj, hmem, hdj⟩]
      | none =>
        rw [hs] at h1
        rw [tputs_none, h1]
        rintro ⟨o', hm', hd'⟩
        obtain ⟨m, hml, rfl⟩ := List.getElem_of_mem hm'
        have hmi : m < i := by simp at hml; omega
        have hml' : m < l.length := by simp at hml; omega
        have hg : l[m]? = some ((l.take n).take i)[m] := by
          rw [← List.getElem?_eq_getElem hml, List.getElem?_take_of_lt hmi, List.getElem?_take_of_lt (by omega)]
        have hwm : writer l.toArray u m = true := writer_iff.2 ⟨_, by simp, hd'⟩
        have : src l.toArray i u ≠ none := by
          unfold src
          rw [Ne, List.find?_eq_none]
          intro hall
          exact hall m (by simp; exact hmi) hwm
        exact this hs
    rw [wanted_congr key]
    by_cases hwn : Region.wanted o (yielded l.toArray (tputs aq ((l.take n).take i) a0).tmps) = true
    · rw [if_pos hwn] at hkey ⊢
      have qa := hkey w ⟨⟨w.drawn, #[]⟩, by rw [grow_empty]; rfl⟩
      have hsl : ∀ cs b, o.op ≠ .select cs b := by
        intro cs b e
        have := List.all_eq_true.1 hsel o (List.mem_of_getElem? hot)
        rw [e] at this
        cases this
      have he : execOp a.eval o = execOp (tputs aq ((l.take n).take i) a0).eval o := execOp_congr o hsl fun x hx => by
        cases x with
        | tmp u => exact key u (by unfold Oper.looksAt; refine List.mem_append_left _ (List.mem_filterMap.2 ⟨.tmp u, by simpa using hx, rfl⟩))
        | _ => rfl
      have hG : ∀ v, v = aq.tmps.getD t undef → ∀ o' t', l[i]? = some o' → o'.dst = some t' → v = aq.tmps.getD t' undef := by
        intro v hv o' t' h1 h2
        rw [ho] at h1
        cases h1
        rw [hdt] at h2
        cases h2
        exact hv
      unfold Oper.quietAt at qa
      unfold Oper.wp
      rw [he]
      generalize (execOp (tputs aq ((l.take n).take i) a0).eval o).run P w = r at qa
      match r, qa with
      | .ok (.value u) w', qa =>
        obtain ⟨rfl, rfl⟩ := qa
        exact ⟨_, rfl, hw, fun j v _ _ _ h => h, hG _ rfl⟩
      | .ok .skip w', qa =>
        obtain ⟨rfl, hv⟩ := qa
        rw [Oper.upon_skip]
        exact ⟨undef, rfl, hw, fun j v _ _ _ h => h, hG _ hv.symm⟩
      | .ok (.enter f args) w', qa =>
        obtain ⟨rfl, hcl⟩ := qa
        rw [Oper.upon_enter]
        refine hcl.mono ?_
        rintro e w2 ⟨rfl, p, rfl⟩
        exact ⟨_, rfl, hw.trans (Ext.grow _ _ _), fun j v _ _ _ h => h, hG _ rfl⟩
    · rw [if_neg hwn] at hkey ⊢
      intro o' t' h1 h2
      rw [ho] at h1
      cases h1
      rw [hdt] at h2
      cases h2
      exact hkey.symm
  · intro vs w hw hv
    have e : puts (l.take n) 0 a0 vs = aq := by
      refine (rgputs_eq aq vs (l.take n) 0 a0 (fun o ho => by obtain ⟨t, h1, _⟩ := hdst o ho; exact ⟨t, h1⟩) fun i o t h1 h2 => ?_).trans haq.symm
      have hi : i < n := by have := (List.getElem?_eq_some_iff.1 h1).1; simp at this; omega
      rw [List.getElem?_take_of_lt hi] at h1
      rw [Nat.zero_add]
      exact hv i o t hi h1 h2 (fun k _ => by simp) o t h1 h2
    rw [e]
    exact final w hw
  · have rep : ∀ n i : Nat, (Array.replicate n false).getD i false = false := by
      intro n i
      rw [Array.getD_eq_getD_getElem?, Array.getElem?_replicate]
      by_cases h : i < n <;> simp [h]
    exact ⟨by simp, (fun i _ h => by rw [rep] at h; cases h), fun k _ => rep _ _, rfl, rfl, (Ext.refl _).drew, fun t _ => rfl, (fun j o t _ h => by rw [rep] at h; cases h)⟩
  · simp
end
theorem any_round {P : Program} {a0 : Act} {w0 : World} {Q : Exit → Act → World → Prop} {id n0 r : Nat} {l : List Oper} (hm : P.follows .mixedOrders = true)
    (hdef : (l.all fun o => match o.op with | .defer .. => false | _ => true) = true)
    (h : wpAny P .any l.toArray (NoOut Q) l.toArray.size (Array.replicate l.toArray.size false) a0 w0.drew) : (Code.region id l.toArray true).wpIn (Fence.wide.inRound r) n0 P Q a0 w0 := by
  refine wpIn_region_draw fun t => ?_
  simp only [Region.schedule, hm, Bool.true_or, if_true]
  refine ops_round (fun i o ho c e => ?_) _ _ _ (wpAny_sound l.toArray.size t _ _ _ h)
  have h1 := List.all_eq_true.1 hdef o (List.mem_of_getElem? (i := i) (by simpa using ho))
  rw [e] at h1
  cases h1
theorem region_tail_round {P : Program} {a0 : Act} {w0 : World} {Q : Exit → Act → World → Prop} {id n0 r : Nat} {l : List Oper} {aq : Act} (n : Nat) (hm : P.follows .mixedOrders = true) (hc : check l.toArray (fun _ => []) n = true)
    (hd : ((l.take n).all fun o => match o.dst with | some t => decide (t < a0.tmps.size) | none => false) = true)
    (hsel : ((l.take n).all fun o => match o.op with | .select .. => false | _ => true) = true)
    (hdef : (l.all fun o => match o.op with | .defer .. => false | _ => true) = true)
    (h : ∀ w1 : World, Ext w0 w1 → wpQuiet P l.toArray (fun w' => ∃ p : Regrown, w' = grow (redrawn w1 p.d) p.os) (fun a => a = aq) (l.take n) a0)
    (final : ∀ w : World, Ext w0 w → wpList P l.toArray (NoOut Q) (l.drop n) aq w) : (Code.region id l.toArray true).wpIn (Fence.wide.inRound r) n0 P Q a0 w0 := by
  refine wpIn_region_draw fun t => ?_
  simp only [Region.schedule, hm, Bool.true_or, if_true]
  refine ops_round (fun i o ho c e => ?_) _ _ _ (wpAny_sound l.toArray.size t _ _ _ (tail_any (Q := NoOut Q) n hm hc hd hsel h final))
  have h1 := List.all_eq_true.1 hdef o (List.mem_of_getElem? (i := i) (by simpa using ho))
  rw [e] at h1
  cases h1
end Go.Proofs.YtlnofbdhamingaaDoor.RG
