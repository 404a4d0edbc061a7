/- A region that draws: also its stores promise, each of the address that it stores to. Generic: no program in sight. -/
import Derived.Test.YtcbimfaneinpkaaRegion
set_option linter.unusedVariables false
set_option linter.unusedSimpArgs false
namespace Go.Proofs.Ytcbimfaneinpkaa.RG
open Go Go.RowKit Go.Sort

section
variable {P : Program} {ops : Array Oper} {G : Prom} {dr : Drop} {a0 : Act} {w0 : World} {n : Nat} {Q : Exit → Act → World → Prop}
def StepN (P : Program) (ops : Array Oper) (G : Prom) (dr : Drop) (a0 : Act) (w0 : World) (i : Nat) (o : Oper) : Prop :=
  ∀ (a : Act) (w : World) (Q : Exit → Act → World → Prop), Ext w0 w → ReadsOk ops G a0 i o a w →
    if Region.wanted o (yielded ops a.tmps) = true then o.wp P a w (fun a' w' => ∃ v, a' = a.put o.dst v ∧ Ext w0 w' ∧ Keep ops G dr i w w' ∧ G i v w' ∧ ∀ t, o.dst = none → o.op.operands.toList.head? = some (.tmp t) → v = a.tmps.getD t undef) Q else G i undef w ∧ o.dst ≠ none
theorem stepN {i : Nat} {o : Oper} (hd : o.dst.isSome = true) (h : Step P ops G dr a0 w0 i o) : StepN P ops G dr a0 w0 i o := by
  intro a w Q hw hr
  have h := h a w Q hw hr
  have hn : o.dst ≠ none := fun e => by rw [e] at hd; cases hd
  split
  · rename_i hy
    rw [if_pos hy] at h
    refine Oper.wp_mono ?_ h
    rintro a' w' ⟨v, h1, h2, h3, h4⟩
    exact ⟨v, h1, h2, h3, h4, fun t h => absurd h hn⟩
  · rename_i hy
    rw [if_neg hy] at h
    exact ⟨h, hn⟩
/-- what is promised of a store, at its address's slot -/
def Stored (ops : Array Oper) (G : Prom) (dr : Drop) (n : Nat) (a : Act) (w : World) : Prop :=
  ∀ (j : Nat) (o : Oper) (t k : Nat), j < n → ops[j]? = some o → o.dst = none → o.op.operands.toList.head? = some (.tmp t) → src ops j t = some k → (∀ i, i < n → j ∉ dr i) → G j (a.tmps.getD t undef) w
def Facts0 (ops : Array Oper) (G : Prom) (dr : Drop) (n : Nat) (listed : Array Bool) (a : Act) (w : World) : Prop :=
  ∀ (j : Nat) (o : Oper) (t k : Nat), j < n → listed.getD j false = true → ops[j]? = some o → o.dst = none → o.op.operands.toList.head? = some (.tmp t) → src ops j t = some k → (∀ i, i < n → listed.getD i false = true → j ∉ dr i) → G j (a.tmps.getD t undef) w
theorem looks_head {o : Oper} {t : Nat} (h : o.op.operands.toList.head? = some (.tmp t)) : t ∈ Oper.looksAt ops o := by
  unfold Oper.looksAt
  refine List.mem_append_left _ (List.mem_filterMap.2 ⟨.tmp t, ?_, rfl⟩)
  exact List.mem_of_mem_head? (by rw [h]; rfl)
theorem facts0_step (hok : Ok ops dr n) {listed : Array Bool} {a : Act} {w w' : World} (hI : Inv ops G dr a0 w0 n listed a w) (hF : Facts0 ops G dr n listed a w) {i : Nat} {o : Oper} (hi : i < n) (ho : ops[i]? = some o)
    (hun : listed.getD i false = false) {v : Value} (hkeep : Keep ops G dr i w w') (hG : G i v w') (hv : ∀ t, o.dst = none → o.op.operands.toList.head? = some (.tmp t) → v = a.tmps.getD t undef) : Facts0 ops G dr n (listed.setIfInBounds i true) (a.put o.dst v) w' := by
  have his : i < listed.size := by rw [hI.size]; exact Nat.lt_of_lt_of_le hi hok.le
  intro j oj t k hj hl hoj hd hop hs hdr
  rw [getD_set his] at hl
  by_cases hji : j = i
  · subst hji
    rw [ho] at hoj
    cases hoj
    rw [put_other _ _ _ _ (by rw [hd]; exact fun h => by cases h), ← hv t hd hop]
    exact hG
  · rw [if_neg hji] at hl
    have hne : o.dst ≠ some t := fun e => by
      have hw := writer_iff.2 ⟨o, ho, e⟩
      obtain ⟨hk, hwk⟩ := src_spec hs
      rcases hok.reads j oj hj hoj t (looks_head hop) i (Nat.lt_of_lt_of_le hi hok.le) (fun e => hji e.symm) hw with ⟨_, h2, h3⟩ | ⟨h1, _⟩
      · have := hI.closed j (Nat.lt_of_lt_of_le hj hok.le) hl i h3
        rw [hun] at this; cases this
      · have := hok.uniq i k hi (by omega) (by omega) o t ho e
        rw [hwk] at this; cases this
    rw [put_other _ _ _ _ hne]
    exact hkeep _ _ (hdr i hi (by rw [getD_set his, if_pos rfl])) hji (fun hc => by
      have := hI.closed j (Nat.lt_of_lt_of_le hj hok.le) hl i hc
      rw [hun] at this; cases this) (hF j oj t k hj hl hoj hd hop hs fun k hk hl' => hdr k hk (by rw [getD_set his]; split <;> first | rfl | exact hl'))
def StepsN (P : Program) (ops : Array Oper) (G : Prom) (dr : Drop) (a0 : Act) (w0 : World) : List Oper → Nat → Prop
  | [], _ => True
  | o :: l, i => StepN P ops G dr a0 w0 i o ∧ StepsN P ops G dr a0 w0 l (i + 1)
theorem st_store {i t : Nat} {o : Oper} (hd : o.dst = none) (hg : o.guard = none) (ha : o.op.operands.toList.head? = some (.tmp t))
    (h : ∀ a w, Ext w0 w → ReadsOk ops G a0 i o a w → ∃ w', (execOp a.eval o).run P w = .ok .skip w' ∧ Ext w0 w' ∧ Keep ops G dr i w w' ∧ G i (a.tmps.getD t undef) w') : StepN P ops G dr a0 w0 i o := by
  intro a w Q hw hr
  rw [if_pos (by simp [Region.wanted, hg])]
  obtain ⟨w', h1, h2, h3, h4⟩ := h a w hw hr
  unfold Oper.wp
  rw [h1, Oper.upon_skip]
  refine ⟨a.tmps.getD t undef, ?_, h2, h3, h4, fun t' _ h5 => ?_⟩
  · rw [hd]; rfl
  · rw [ha] at h5; cases h5; rfl
theorem main_n {l : List Oper} (hok : Ok l.toArray dr n) (hdst : ∀ (i : Nat) (o : Oper) (t : Tmp), i < n → l[i]? = some o → o.dst = some t → t < a0.tmps.size)
    (steps : ∀ (i : Nat) (o : Oper), i < n → l[i]? = some o → StepN P l.toArray G dr a0 w0 i o)
    (final : ∀ (vs : Nat → Value) (w : World), Ext w0 w → (∀ (i : Nat) (o : Oper) (t : Tmp), i < n → l[i]? = some o → o.dst = some t → (∀ k, k < n → i ∉ dr k) → G i (vs i) w) → Stored l.toArray G dr n (puts (l.take n) 0 a0 vs) w → wpList P l.toArray Q (l.drop n) (puts (l.take n) 0 a0 vs) w) :
    ∀ (fuel : Nat) (listed : Array Bool) (a : Act) (w : World), Inv l.toArray G dr a0 w0 n listed a w → Facts0 l.toArray G dr n listed a w → listed.toList.count false ≤ fuel → wpAny P .any l.toArray Q fuel listed a w := by
  have hle := hok.le
  have fin : ∀ (fuel : Nat) (listed : Array Bool) (a : Act) (w : World), Inv l.toArray G dr a0 w0 n listed a w → Facts0 l.toArray G dr n listed a w → listed.toList.count false ≤ fuel → (∀ j, j < n → listed.getD j false = true) → wpAny P .any l.toArray Q fuel listed a w := by
    intro fuel listed a w hI hF0 hf hall
    have hL : listed = (Array.range l.toArray.size).map fun j => decide (j < n) := by
      apply Array.ext
      · simp [hI.size]
      · intro j h1 h2
        simp only [Array.getElem_map, Array.getElem_range]
        rcases Nat.lt_or_ge j n with h | h
        · have := hall j h
          rw [Array.getD_eq_getD_getElem?, Array.getElem?_eq_getElem h1] at this
          simpa [h] using this
        · have := hI.tail j h
          rw [Array.getD_eq_getD_getElem?, Array.getElem?_eq_getElem h1] at this
          rw [decide_eq_false (by omega)]
          simpa using this
    have hcount : l.toArray.size - n ≤ fuel := by
      refine Nat.le_trans ?_ hf
      rw [hL]
      have e : ((Array.range l.toArray.size).map fun j => decide (j < n)).toList = (List.range n).map (fun j => decide (j < n)) ++ (List.range' n (l.toArray.size - n)).map (fun j => decide (j < n)) := by
        rw [← List.map_append, List.range_eq_range']
        have h1 := List.range'_append_1 (s := 0) (m := n) (n := l.toArray.size - n)
        rw [Nat.zero_add] at h1
        rw [h1]
        simp only [Array.toList_map, Array.toList_range, List.range_eq_range']
        congr 2
        omega
      rw [e, List.count_append]
      have h2 : ((List.range' n (l.toArray.size - n)).map fun j => decide (j < n)) = List.replicate (l.toArray.size - n) false := by
        rw [List.eq_replicate_iff]
        refine ⟨by simp, fun b hb => ?_⟩
        obtain ⟨j, hj, rfl⟩ := List.mem_map.1 hb
        rw [List.mem_range'_1] at hj
        exact decide_eq_false (by omega)
      rw [h2, List.count_replicate_self]
      omega
    rw [hL]
    refine tail_run hok (l.toArray.size - n) n fuel a w (by omega) (Nat.le_refl _) hcount ?_
    have h3 := final (fun i => match (l[i]?).bind (·.dst) with | some t => a.tmps.getD t undef | none => undef) w hI.ext (fun i o t hi ho hd hdr => by
      have := hI.facts i o t hi (hall i hi) (by simpa using ho) hd (fun k hk _ => hdr k hk)
      simpa [ho, hd] using this)
    have hact : puts (l.take n) 0 a0 (fun i => match (l[i]?).bind (·.dst) with | some t => a.tmps.getD t undef | none => undef) = a := by
      have hd : (puts (l.take n) 0 a0 (fun i => match (l[i]?).bind (·.dst) with | some t => a.tmps.getD t undef | none => undef)).defers = a.defers := by rw [puts_defers, hI.dfr]
      have ht : (puts (l.take n) 0 a0 (fun i => match (l[i]?).bind (·.dst) with | some t => a.tmps.getD t undef | none => undef)).tmps = a.tmps := by
        apply Array.ext
        · rw [puts_size, hI.tsz]
        · intro t h1 h2
          have hta : t < a0.tmps.size := by rw [puts_size] at h1; exact h1
          have huni : ∀ (j : Nat) (o : Oper), (l.take n)[j]? = some o → o.dst = some t → ∀ (k : Nat) (o' : Oper), (l.take n)[k]? = some o' → o'.dst = some t → k = j := by
            intro j o h1 h2 k o' h3 h4
            have hj : j < n := by have := (List.getElem?_eq_some_iff.1 h1).1; simp at this; omega
            have hk : k < n := by have := (List.getElem?_eq_some_iff.1 h3).1; simp at this; omega
            rw [List.getElem?_take_of_lt hj] at h1
            rw [List.getElem?_take_of_lt hk] at h3
            rcases Nat.decEq k j with hne | he
            · have := hok.uniq j k hj hk (fun e => hne e.symm) o t (by simpa using h1) h2
              rw [writer_iff.2 ⟨o', by simpa using h3, h4⟩] at this
              cases this
            · exact he
          have hg := puts_get (l.take n) 0 a0 (fun i => match (l[i]?).bind (·.dst) with | some t => a.tmps.getD t undef | none => undef) t huni hta
          have e1 : ∀ (b : Act) (h : t < b.tmps.size), b.tmps[t] = b.tmps.getD t undef := fun b h => by simp [Array.getD_eq_getD_getElem?, h]
          rw [e1 _ h1, e1 _ h2, hg]
          cases hfi : (l.take n).findIdx? (fun o => o.dst == some t) with
          | some j =>
            obtain ⟨hjl, hjd, _⟩ := List.findIdx?_eq_some_iff_getElem.1 hfi
            have hj : j < n := by simp at hjl; omega
            have hjl' : j < l.length := by simp at hjl; omega
            have hjd' : l[j].dst = some t := by simpa using hjd
            simp [hjl', hjd']
          | none =>
            rw [List.findIdx?_eq_none_iff] at hfi
            symm
            refine hI.slots t fun j hj _ => ?_
            cases hw : writer l.toArray t j with
            | false => rfl
            | true =>
              obtain ⟨o, ho, hd⟩ := writer_iff.1 hw
              have ho' : l[j]? = some o := by simpa using ho
              have hm : o ∈ l.take n := by
                have : (l.take n)[j]? = some o := by rw [List.getElem?_take_of_lt hj]; exact ho'
                exact List.mem_of_getElem? this
              have := hfi o hm
              rw [hd] at this
              simp at this
      cases a
      cases hp : puts (l.take n) 0 a0 (fun i => match (l[i]?).bind (·.dst) with | some t => _ | none => undef)
      rw [hp] at hd ht
      simp only at hd ht
      rw [hd, ht]
    rw [hact] at h3
    have h3 := h3 fun i o t k hi ho hd hop hs hdr => hF0 i o t k hi (hall i hi) (by simpa using ho) hd hop hs (fun k hk _ => hdr k hk)
    have hlen : l.toArray.size - n = (l.drop n).length := by simp
    rw [hlen, wpOps_eq_wpList (ops := l.toArray) (l.drop n) n (fun j => by simp)]
    exact h3
  intro fuel
  induction fuel with
  | zero =>
    intro listed a w hI hF0 hf
    refine fin 0 listed a w hI hF0 hf fun j hj => ?_
    have hjs : j < listed.size := by rw [hI.size]; exact Nat.lt_of_lt_of_le hj hle
    have hc : listed.toList.count false = 0 := by omega
    rw [List.count_eq_zero] at hc
    cases hb : listed.getD j false with
    | true => rfl
    | false =>
      rw [Array.getD_eq_getD_getElem?, Array.getElem?_eq_getElem hjs] at hb
      exact absurd (by simp at hb; rw [← hb]; simp) hc
  | succ fuel ih =>
    intro listed a w hI hF0 hf
    by_cases hall : ∀ j, j < n → listed.getD j false = true
    · exact fin _ listed a w hI hF0 hf hall
    · -- the least that is not listed is ready
      have hex : ∃ j, j < n ∧ listed.getD j false = false ∧ ∀ k, k < j → listed.getD k false = true := by
        have : ∀ m, m ≤ n → (∀ j, j < m → listed.getD j false = true) ∨ ∃ j, j < n ∧ listed.getD j false = false ∧ ∀ k, k < j → listed.getD k false = true := by
          intro m
          induction m with
          | zero => intro _; exact .inl fun j hj => by omega
          | succ m ihm =>
            intro hm
            rcases ihm (by omega) with h | h
            · cases hb : listed.getD m false with
              | true =>
                refine .inl fun j hj => ?_
                rcases Nat.lt_or_ge j m with h1 | h1
                · exact h j h1
                · obtain rfl : j = m := by omega
                  exact hb
              | false => exact .inr ⟨m, by omega, hb, h⟩
            · exact .inr h
        rcases this n (Nat.le_refl _) with h | h
        · exact absurd h hall
        · exact h
      have unl : ∀ j, j < l.toArray.size → listed.getD j false = false → listed.getD j true = false := fun j hj h => by
        have hjs : j < listed.size := by rw [hI.size]; exact hj
        rw [Array.getD_eq_getD_getElem?, Array.getElem?_eq_getElem hjs] at h ⊢
        exact h
      refine ⟨fun h0 => ?_, fun i hi => ?_⟩
      · obtain ⟨j, hj, hb, hk⟩ := hex
        have hjs : j < l.toArray.size := Nat.lt_of_lt_of_le hj hle
        have : j ∈ Region.ready .any l.toArray listed := mem_ready.2 ⟨unl j hjs hb, l.toArray[j], by simp, fun e he hbd => hk _ (hok.down j hj _ ((direct_of (by simp) _).2 ⟨e, he, hbd, rfl⟩))⟩
        rw [h0] at this
        cases this
      · obtain ⟨h1, o, ho, hpre0⟩ := mem_ready.1 hi
        have his : i < l.toArray.size := (Array.getElem?_eq_some_iff.1 ho).1
        have hils : i < listed.size := by rw [hI.size]; exact his
        have hpre : ∀ j ∈ direct l.toArray i, listed.getD j false = true := fun j hj => by
          obtain ⟨e, he, hbd, rfl⟩ := (direct_of ho _).1 hj
          exact hpre0 e he hbd
        have hun : listed.getD i false = false := by
          rw [Array.getD_eq_getD_getElem?, Array.getElem?_eq_getElem hils] at h1 ⊢
          exact h1
        have hin : i < n := by
          rcases Nat.lt_or_ge i n with h | h
          · exact h
          · exfalso
            exact hall fun j hj => need_listed hI.size hI.closed _ i hpre j (hok.needs i his h j hj)
        have hcnt : (listed.setIfInBounds i true).toList.count false ≤ fuel := by
          have e : (listed.setIfInBounds i true).toList = listed.toList.set i true := by simp
          rw [e, List.count_set (by simpa using hils)]
          have h2 : listed.toList[i]'(by simpa using hils) = false := by
            rw [Array.getD_eq_getD_getElem?, Array.getElem?_eq_getElem hils] at hun
            simpa using hun
          have h3 : 0 < listed.toList.count false := List.count_pos_iff.2 (by rw [← h2]; simp)
          simp [h2]
          simp at h3 hf
          omega
        have hs := steps i o hin (by simpa using ho) a w Q hI.ext (readsOk_of_inv hok hI hin ho hun hpre)
        have hdst' : ∀ i o t, i < n → l.toArray[i]? = some o → o.dst = some t → t < a0.tmps.size := fun i o t h1 h2 h3 => hdst i o t h1 (by simpa using h2) h3
        unfold wpOp
        rw [ho]
        simp only
        split
        · rename_i hw
          rw [if_pos hw] at hs
          refine .inl (Oper.wp_mono ?_ hs)
          rintro a' w' ⟨v, rfl, hb, hkp, hG, hv9⟩
          exact ih _ _ _ (inv_step hok hdst' hI hin ho hun hpre hb hkp hG) (facts0_step hok hI hF0 hin ho hun hkp hG hv9) hcnt
        · rename_i hw
          rw [if_neg hw] at hs
          exact ih _ _ _ (inv_step hok hdst' hI hin ho hun hpre hI.ext (fun _ _ _ _ _ h => h) hs.1) (facts0_step hok hI hF0 hin ho hun (fun _ _ _ _ _ h => h) hs.1 (fun t h => absurd h hs.2)) hcnt

theorem steps_getN {l : List Oper} : ∀ (m : List Oper) (k : Nat), StepsN P l.toArray G dr a0 w0 m k → ∀ (i : Nat) (o : Oper), m[i]? = some o → StepN P l.toArray G dr a0 w0 (k + i) o := by
  intro m
  induction m with
  | nil => intro k _ i o h; simp at h
  | cons x m ih =>
    intro k hs i o h
    cases i with
    | zero => simp at h; subst h; exact hs.1
    | succ i => rw [show k + (i + 1) = (k + 1) + i from by omega]; exact ih (k + 1) hs.2 i o (by simpa using h)

/-- A region that draws: its first operations promise; the last ones come behind them. -/
theorem wp_rgn {id : Nat} {l : List Oper} (Gs : List (Value → World → Prop)) (dr : Drop) (hm : P.follows .mixedOrders = true) (hc : (check l.toArray dr Gs.length) = true)
    (hd : ((l.take Gs.length).all fun o => match o.dst with | some t => decide (t < a0.tmps.size) | none => true) = true)
    (steps : StepsN P l.toArray (G_of Gs) dr a0 w0 (l.take Gs.length) 0)
    (final : ∀ w, Ext w0 w → Fin w (fun a => Stored l.toArray (G_of Gs) dr Gs.length a w → wpList P l.toArray Q (l.drop Gs.length) a w) (goneBy dr Gs.length) 0 Gs (l.take Gs.length) a0) : (Code.region id l.toArray true).wp P Q a0 w0 := by
  have hok := ok_of_check hc
  have hle := hok.le
  refine wp_region_any hm (main_n (n := Gs.length) (G := G_of Gs) (dr := dr) (a0 := a0) (w0 := w0) hok ?_ ?_ ?_ _ _ _ _ ?_ (fun j o t k _ h => by exfalso; rw [Array.getD_eq_getD_getElem?, Array.getElem?_replicate] at h; split at h <;> cases h) ?_)
  · intro i o t hi ho hdst
    have hmem : o ∈ l.take Gs.length := by
      have : (l.take Gs.length)[i]? = some o := by rw [List.getElem?_take_of_lt hi]; exact ho
      exact List.mem_of_getElem? this
    have := List.all_eq_true.1 hd o hmem
    rw [hdst] at this
    simpa using this
  · intro i o hi ho
    have := steps_getN _ 0 steps i o (by rw [List.getElem?_take_of_lt hi]; exact ho)
    rwa [Nat.zero_add] at this
  · intro vs w hw hv
    refine fin_puts Gs (l.take Gs.length) 0 a0 vs (by simp at hle; simp; omega) (final w hw) ?_
    intro i o t g h1 h2 h3 h4
    have hi : i < Gs.length := (List.getElem?_eq_some_iff.1 h3).1
    rw [List.getElem?_take_of_lt hi] at h1
    rw [Nat.zero_add] at h4
    have := hv i o t hi h1 h2 fun k hk hd => by
      have h5 : goneBy dr Gs.length i = true := by
        simp only [goneBy, List.any_eq_true, List.mem_range]
        exact ⟨k, hk, by simpa using hd⟩
      rw [h4] at h5
      cases h5
    unfold G_of at this
    rw [List.getD_eq_getElem?_getD, h3] at this
    rw [Nat.zero_add]
    exact this
  · have rep : ∀ n i : Nat, (Array.replicate n false).getD i false = false := by
      intro n i
      rw [Array.getD_eq_getD_getElem?, Array.getElem?_replicate]
      by_cases h : i < n <;> simp [h]
    exact ⟨by simp, (fun i _ h => by rw [rep] at h; cases h), fun k _ => rep _ _, rfl, rfl, (Ext.refl _).drew, fun t _ => rfl, (fun j o t _ h => by rw [rep] at h; cases h)⟩
  · simp

end
end Go.Proofs.Ytcbimfaneinpkaa.RG
