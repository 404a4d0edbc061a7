/- A region that draws its order: operations that read, or call what only makes memory, guarded or not; and a tail that comes behind all of them. One walk in the order of the text. Generic: no program in sight. -/
import Derived.Test.YtcbimfaneinpkaaRegion
import Derived.Deep.QuietTactic
import Derived.BigQuiet
set_option linter.unusedVariables false
set_option linter.unusedSimpArgs false
namespace Go.Proofs.Ytcbimfaneinpkaa.RG
open Go Go.RowKit Go.Sort

def tputs (aq : Act) : List Oper → Act → Act
  | [], a => a
  | o :: l, a => tputs aq l (match o.dst with | some t => a.put (some t) (aq.tmps.getD t undef) | none => a)
theorem tputs_size (aq : Act) : ∀ (l : List Oper) (a : Act), (tputs aq l a).tmps.size = a.tmps.size
  | [], _ => rfl
  | o :: l, a => by
    unfold tputs
    rw [tputs_size aq l]
    cases o.dst with
    | none => rfl
    | some t => exact put_size _ _ _
theorem tputs_none (aq : Act) (t : Tmp) : ∀ (l : List Oper) (a : Act), (¬ ∃ o ∈ l, o.dst = some t) → (tputs aq l a).tmps.getD t undef = a.tmps.getD t undef
  | [], _, _ => rfl
  | o :: l, a, h => by
    unfold tputs
    rw [tputs_none aq t l _ fun ⟨o', h1, h2⟩ => h ⟨o', List.mem_cons_of_mem _ h1, h2⟩]
    cases hd : o.dst with
    | none => rfl
    | some u => exact put_other _ _ _ _ fun e => h ⟨o, List.mem_cons_self, by rw [hd]; exact e⟩
theorem tputs_writer (aq : Act) (t : Tmp) : ∀ (l : List Oper) (a : Act), t < a.tmps.size → (∃ o ∈ l, o.dst = some t) → (tputs aq l a).tmps.getD t undef = aq.tmps.getD t undef
  | [], _, _, h => by obtain ⟨o, h, _⟩ := h; cases h
  | o :: l, a, ht, h => by
    unfold tputs
    by_cases hl : ∃ o' ∈ l, o'.dst = some t
    · refine tputs_writer aq t l _ ?_ hl
      cases o.dst with
      | none => exact ht
      | some u => rw [put_size]; exact ht
    · rw [tputs_none aq t l _ hl]
      obtain ⟨o', h1, h2⟩ := h
      rcases List.mem_cons.1 h1 with rfl | h1
      · rw [h2]; exact put_same _ _ _ ht
      · exact absurd ⟨o', h1, h2⟩ hl
/-- What the walk in the order of the text shows of each operation. -/
theorem chainG {P : Program} {ops : Array Oper} {C : World → Prop} {aq : Act} : ∀ (l : List Oper) (a : Act),
    (∀ (i k : Nat) (o o' : Oper) (t : Tmp), l[i]? = some o → l[k]? = some o' → o.dst = some t → o'.dst = some t → i = k) → (∀ o ∈ l, ∃ t, o.dst = some t ∧ t < a.tmps.size) →
    wpQuiet P ops C (fun a' => a' = aq) l a →
    aq = tputs aq l a ∧ ∀ (i : Nat) (o : Oper) (t : Tmp), l[i]? = some o → o.dst = some t → if Region.wanted o (yielded ops (tputs aq (l.take i) a).tmps) = true then ∀ w, C w → o.quietAt P (tputs aq (l.take i) a) C w (aq.tmps.getD t undef) else aq.tmps.getD t undef = undef := by
  intro l
  induction l with
  | nil => intro a _ _ h; exact ⟨h.symm, fun i o t h => by simp at h⟩
  | cons o l ih =>
    intro a hu hd h
    obtain ⟨t, hot, ht⟩ := hd o List.mem_cons_self
    have hno : ¬ ∃ o' ∈ l, o'.dst = some t := by
      rintro ⟨o', hm, hd'⟩
      obtain ⟨k, hk, rfl⟩ := List.getElem_of_mem hm
      have := hu 0 (k + 1) o l[k] t rfl (by simp [hk]) hot hd'
      omega
    have go : ∀ v, wpQuiet P ops C (fun a' => a' = aq) l (a.put o.dst v) → (if Region.wanted o (yielded ops a.tmps) = true then ∀ w, C w → o.quietAt P a C w v else v = undef) →
        aq = tputs aq (o :: l) a ∧ ∀ (i : Nat) (o' : Oper) (t : Tmp), (o :: l)[i]? = some o' → o'.dst = some t → if Region.wanted o' (yielded ops (tputs aq ((o :: l).take i) a).tmps) = true then ∀ w, C w → o'.quietAt P (tputs aq ((o :: l).take i) a) C w (aq.tmps.getD t undef) else aq.tmps.getD t undef = undef := by
      intro v hrest hv
      have hrec := ih (a.put o.dst v) (fun i k o1 o2 t1 h1 h2 h3 h4 => by
        have := hu (i + 1) (k + 1) o1 o2 t1 (by simpa using h1) (by simpa using h2) h3 h4
        omega) (fun o' h' => by rw [put_size]; exact hd o' (List.mem_cons_of_mem _ h')) hrest
      have hval : aq.tmps.getD t undef = v := by
        rw [hrec.1, tputs_none _ _ _ _ hno, hot, put_same _ _ _ ht]
      have hstep : a.put o.dst v = (match o.dst with | some t => a.put (some t) (aq.tmps.getD t undef) | none => a) := by
        rw [hot]; simp only; rw [hval]
      refine ⟨by unfold tputs; rw [← hstep]; exact hrec.1, fun i o' t' h1 h2 => ?_⟩
      cases i with
      | zero =>
        simp only [List.getElem?_cons_zero, Option.some.injEq] at h1
        subst h1
        rw [hot] at h2
        obtain rfl : t = t' := by simpa using h2
        rw [hval]
        exact hv
      | succ i =>
        have := hrec.2 i o' t' (by simpa using h1) h2
        rw [List.take_succ_cons]
        unfold tputs
        rw [← hstep]
        exact this
    unfold wpQuiet at h
    by_cases hw : Region.wanted o (yielded ops a.tmps) = true
    · rw [if_pos hw] at h
      obtain ⟨v, hv, hrest⟩ := h
      exact go v hrest (by rw [if_pos hw]; exact hv)
    · rw [if_neg hw] at h
      exact go undef h (by rw [if_neg hw])
theorem yielded_getD (ops : Array Oper) (tmps : Array Value) (j : Nat) : yielded ops tmps j = match (ops[j]?).bind (·.dst) with | some t => (match tmps.getD t undef with | .bool b => some b | _ => none) | none => none := by
  unfold yielded
  cases (ops[j]?).bind (·.dst) with
  | none => rfl
  | some t =>
    simp only [Option.bind_some, Array.getD_eq_getD_getElem?]
    cases tmps[t]? with
    | none => rfl
    | some v => cases v <;> rfl
theorem wanted_congr {ops : Array Oper} {o : Oper} {t1 t2 : Array Value} (h : ∀ t ∈ Oper.looksAt ops o, t1.getD t undef = t2.getD t undef) : Region.wanted o (yielded ops t1) = Region.wanted o (yielded ops t2) := by
  unfold Region.wanted
  cases hg : o.guard with
  | none => rfl
  | some gw =>
    obtain ⟨g, want⟩ := gw
    simp only
    rw [yielded_getD, yielded_getD]
    cases hd : (ops[g]?).bind (·.dst) with
    | none => rfl
    | some t =>
      simp only
      rw [h t (by unfold Oper.looksAt; rw [hg]; simp [hd])]
theorem rgputs_eq (aq : Act) (vs : Nat → Value) : ∀ (l : List Oper) (k : Nat) (a : Act), (∀ o ∈ l, ∃ t, o.dst = some t) → (∀ (i : Nat) (o : Oper) (t : Tmp), l[i]? = some o → o.dst = some t → vs (k + i) = aq.tmps.getD t undef) → puts l k a vs = tputs aq l a
  | [], _, _, _, _ => rfl
  | o :: l, k, a, hd, hv => by
    obtain ⟨t, ht⟩ := hd o List.mem_cons_self
    have h0 := hv 0 o t rfl ht
    unfold puts tputs
    rw [ht]
    simp only
    rw [show vs k = aq.tmps.getD t undef from h0]
    exact rgputs_eq aq vs l (k + 1) _ (fun o' h' => hd o' (List.mem_cons_of_mem _ h')) (fun i o' t' h1 h2 => by
      have := hv (i + 1) o' t' (by simpa using h1) h2
      rw [← this]; congr 1; omega)
section
variable {P : Program} {a0 : Act} {w0 : World} {Q : Exit → Act → World → Prop}
theorem region_tail {id : Nat} {l : List Oper} {aq : Act} (n : Nat) (hm : P.follows .mixedOrders = true) (hc : check l.toArray (fun _ => []) n = true)
    (hd : ((l.take n).all fun o => match o.dst with | some t => decide (t < a0.tmps.size) | none => false) = true)
    (hsel : ((l.take n).all fun o => match o.op with | .select .. => false | _ => true) = true)
    (h : ∀ w1 : World, Ext w0 w1 → wpQuiet P l.toArray (fun w' => ∃ p : Regrown, w' = grow (redrawn w1 p.d) p.os) (fun a => a = aq) (l.take n) a0)
    (final : ∀ w : World, Ext w0 w → wpList P l.toArray Q (l.drop n) aq w) : (Code.region id l.toArray true).wp P Q a0 w0 := by
  have hok := ok_of_check hc
  have hle := hok.le
  have hdst : ∀ o ∈ l.take n, ∃ t, o.dst = some t ∧ t < a0.tmps.size := fun o ho => by
    have := List.all_eq_true.1 hd o ho
    cases hd : o.dst with
    | none => rw [hd] at this; simp at this
    | some t => rw [hd] at this; exact ⟨t, rfl, by simpa using this⟩
  have huni : ∀ (i k : Nat) (o o' : Oper) (t : Tmp), (l.take n)[i]? = some o → (l.take n)[k]? = some o' → o.dst = some t → o'.dst = some t → i = k := by
    intro i k o o' t h1 h2 h3 h4
    have hi : i < n := by have := (List.getElem?_eq_some_iff.1 h1).1; simp at this; omega
    have hk : k < n := by have := (List.getElem?_eq_some_iff.1 h2).1; simp at this; omega
    rw [List.getElem?_take_of_lt hi] at h1
    rw [List.getElem?_take_of_lt hk] at h2
    rcases Nat.decEq i k with hne | he
    · have := hok.uniq i k hi hk hne o t (by simpa using h1) h3
      rw [writer_iff.2 ⟨o', by simpa using h2, h4⟩] at this
      cases this
    · exact he
  have hchain := fun w1 hw1 => chainG (l.take n) a0 huni hdst (h w1 hw1)
  have haq := (hchain w0 (Ext.refl _)).1
  refine wp_region_any hm (main (n := n) (G := fun i v _ => ∀ o t, l[i]? = some o → o.dst = some t → v = aq.tmps.getD t undef) (dr := fun _ => []) (a0 := a0) (w0 := w0) hok ?_ ?_ ?_ _ _ _ _ ?_ ?_)
  · intro i o t hi ho hdt
    obtain ⟨t', h1, h2⟩ := hdst o (List.mem_of_getElem? (i := i) (by rw [List.getElem?_take_of_lt hi]; exact ho))
    rw [hdt] at h1
    cases h1
    exact h2
  · intro i o hi ho a w Qx hw hr
    have hot : (l.take n)[i]? = some o := by rw [List.getElem?_take_of_lt hi]; exact ho
    obtain ⟨t, hdt, htl⟩ := hdst o (List.mem_of_getElem? hot)
    have hkey := (hchain w hw).2 i o t hot hdt
    have key : ∀ u ∈ Oper.looksAt l.toArray o, a.tmps.getD u undef = (tputs aq ((l.take n).take i) a0).tmps.getD u undef := by
      intro u hu
      have h1 := hr u hu
      cases hs : src l.toArray i u with
      | some j =>
        rw [hs] at h1
        obtain ⟨hj, hwj⟩ := src_spec hs
        obtain ⟨oj, hoj, hdj⟩ := writer_iff.1 hwj
        have hoj' : l[j]? = some oj := by simpa using hoj
        have hmem : oj ∈ (l.take n).take i := by
          refine List.mem_of_getElem? (i := j) ?_
          rw [List.getElem?_take_of_lt hj, List.getElem?_take_of_lt (by omega)]
          exact hoj'
        obtain ⟨t', e1, e2⟩ := hdst oj (List.mem_of_mem_take hmem)
        rw [hdj] at e1
        cases e1
        rw [h1 oj u hoj' hdj, tputs_writer aq u _ _ e2 ⟨oj, hmem, hdj⟩]
      | none =>
        rw [hs] at h1
        rw [tputs_none, h1]
        rintro ⟨o', hm', hd'⟩
        obtain ⟨m, hml, rfl⟩ := List.getElem_of_mem hm'
        have hmi : m < i := by simp at hml; omega
        have hml' : m < l.length := by simp at hml; omega
        have hg : l[m]? = some ((l.take n).take i)[m] := by
          rw [← List.getElem?_eq_getElem hml, List.getElem?_take_of_lt hmi, List.getElem?_take_of_lt (by omega)]
        have hwm : writer l.toArray u m = true := writer_iff.2 ⟨_, by simp, hd'⟩
        have : src l.toArray i u ≠ none := by
          unfold src
          rw [Ne, List.find?_eq_none]
          intro hall
          exact hall m (by simp; exact hmi) hwm
        exact this hs
    rw [wanted_congr key]
    by_cases hwn : Region.wanted o (yielded l.toArray (tputs aq ((l.take n).take i) a0).tmps) = true
    · rw [if_pos hwn] at hkey ⊢
      have qa := hkey w ⟨⟨w.drawn, #[]⟩, by rw [grow_empty]; rfl⟩
      have hsl : ∀ cs b, o.op ≠ .select cs b := by
        intro cs b e
        have := List.all_eq_true.1 hsel o (List.mem_of_getElem? hot)
        rw [e] at this
        cases this
      have he : execOp a.eval o = execOp (tputs aq ((l.take n).take i) a0).eval o := execOp_congr o hsl fun x hx => by
        cases x with
        | tmp u => exact key u (by unfold Oper.looksAt; refine List.mem_append_left _ (List.mem_filterMap.2 ⟨.tmp u, by simpa using hx, rfl⟩))
        | _ => rfl
      have hG : ∀ v, v = aq.tmps.getD t undef → ∀ o' t', l[i]? = some o' → o'.dst = some t' → v = aq.tmps.getD t' undef := by
        intro v hv o' t' h1 h2
        rw [ho] at h1
        cases h1
        rw [hdt] at h2
        cases h2
        exact hv
      unfold Oper.quietAt at qa
      unfold Oper.wp
      rw [he]
      generalize (execOp (tputs aq ((l.take n).take i) a0).eval o).run P w = r at qa
      match r, qa with
      | .ok (.value u) w', qa =>
        obtain ⟨rfl, rfl⟩ := qa
        exact ⟨_, rfl, hw, fun j v _ _ _ h => h, hG _ rfl⟩
      | .ok .skip w', qa =>
        obtain ⟨rfl, hv⟩ := qa
        rw [Oper.upon_skip]
        exact ⟨undef, rfl, hw, fun j v _ _ _ h => h, hG _ hv.symm⟩
      | .ok (.enter f args) w', qa =>
        obtain ⟨rfl, hcl⟩ := qa
        rw [Oper.upon_enter]
        refine hcl.mono ?_
        rintro e w2 ⟨rfl, p, rfl⟩
        exact ⟨_, rfl, hw.trans (Ext.grow _ _ _), fun j v _ _ _ h => h, hG _ rfl⟩
    · rw [if_neg hwn] at hkey ⊢
      intro o' t' h1 h2
      rw [ho] at h1
      cases h1
      rw [hdt] at h2
      cases h2
      exact hkey.symm
  · intro vs w hw hv
    have e : puts (l.take n) 0 a0 vs = aq := by
      refine (rgputs_eq aq vs (l.take n) 0 a0 (fun o ho => by obtain ⟨t, h1, _⟩ := hdst o ho; exact ⟨t, h1⟩) fun i o t h1 h2 => ?_).trans haq.symm
      have hi : i < n := by have := (List.getElem?_eq_some_iff.1 h1).1; simp at this; omega
      rw [List.getElem?_take_of_lt hi] at h1
      rw [Nat.zero_add]
      exact hv i o t hi h1 h2 (fun k _ => by simp) o t h1 h2
    rw [e]
    exact final w hw
  · have rep : ∀ n i : Nat, (Array.replicate n false).getD i false = false := by
      intro n i
      rw [Array.getD_eq_getD_getElem?, Array.getElem?_replicate]
      by_cases h : i < n <;> simp [h]
    exact ⟨by simp, (fun i _ h => by rw [rep] at h; cases h), fun k _ => rep _ _, rfl, rfl, (Ext.refl _).drew, fun t _ => rfl, (fun j o t _ h => by rw [rep] at h; cases h)⟩
  · simp
end
end Go.Proofs.Ytcbimfaneinpkaa.RG
