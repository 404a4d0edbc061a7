/- A region that runs in the order of its text: each operation promises. Generic: no program in sight. -/
import Derived.Test.YtcbimfaneinpkaaRegion
set_option linter.unusedVariables false
set_option linter.unusedSimpArgs false
namespace Go.Proofs.Ytcbimfaneinpkaa.RG
open Go Go.RowKit Go.Sort

def rising : List Oper → Nat → Bool
  | [], _ => true
  | o :: l, m => match o.dst with | some t => Nat.ble m t && rising l (t + 1) | none => rising l m
theorem rising_ge : ∀ (l : List Oper) (m : Nat), rising l m = true → ∀ (i : Nat) (o : Oper) (t : Nat), l[i]? = some o → o.dst = some t → m ≤ t
  | [], _, _, _, _, _, h, _ => by simp at h
  | o :: l, m, hr, i, o', t, h, hd => by
    unfold rising at hr
    cases i with
    | zero =>
      simp only [List.getElem?_cons_zero, Option.some.injEq] at h
      subst h
      rw [hd] at hr
      simp only [Bool.and_eq_true] at hr
      exact Nat.le_of_ble_eq_true hr.1
    | succ i =>
      rw [List.getElem?_cons_succ] at h
      cases hx : o.dst with
      | none => rw [hx] at hr; exact rising_ge l m hr i o' t h hd
      | some u =>
        rw [hx] at hr
        simp only [Bool.and_eq_true] at hr
        have h1 := Nat.le_of_ble_eq_true hr.1
        have h2 := rising_ge l (u + 1) hr.2 i o' t h hd
        omega
theorem rising_lt : ∀ (l : List Oper) (m : Nat), rising l m = true → ∀ (i k : Nat) (o o' : Oper) (t t' : Nat), i < k → l[i]? = some o → l[k]? = some o' → o.dst = some t → o'.dst = some t' → t < t'
  | [], _, _, _, _, _, _, _, _, _, h, _, _, _ => by simp at h
  | o :: l, m, hr, i, k, o1, o2, t, t', hik, h1, h2, hd1, hd2 => by
    unfold rising at hr
    cases k with
    | zero => omega
    | succ k =>
      rw [List.getElem?_cons_succ] at h2
      cases i with
      | zero =>
        simp only [List.getElem?_cons_zero, Option.some.injEq] at h1
        subst h1
        rw [hd1] at hr
        simp only [Bool.and_eq_true] at hr
        exact rising_ge l (t + 1) hr.2 k o2 t' h2 hd2
      | succ i =>
        rw [List.getElem?_cons_succ] at h1
        cases hx : o.dst with
        | none => rw [hx] at hr; exact rising_lt l m hr i k o1 o2 t t' (by omega) h1 h2 hd1 hd2
        | some u =>
          rw [hx] at hr
          simp only [Bool.and_eq_true] at hr
          exact rising_lt l (u + 1) hr.2 i k o1 o2 t t' (by omega) h1 h2 hd1 hd2
def seqOk (ops : Array Oper) (n : Nat) : Bool :=
  decide (n ≤ ops.size) && ((List.range n).all fun i => (direct ops i).all fun j => decide (j < i)) &&
  rising (ops.toList.take n) 0
section
variable {P : Program} {ops : Array Oper} {G : Prom} {a0 : Act} {w0 : World} {n : Nat} {Q : Exit → Act → World → Prop}
structure SeqInv (ops : Array Oper) (G : Prom) (a0 : Act) (w0 : World) (k : Nat) (a : Act) (w : World) : Prop where
  dfr : a.defers = a0.defers
  tsz : a.tmps.size = a0.tmps.size
  ext : Ext w0 w
  slots : ∀ t, (∀ j, j < k → writer ops t j = false) → a.tmps.getD t undef = a0.tmps.getD t undef
  facts : ∀ j o t, j < k → ops[j]? = some o → o.dst = some t → G j (a.tmps.getD t undef) w
theorem src_none {i t : Nat} (h : src ops i t = none) : ∀ j, j < i → writer ops t j = false := by
  intro j hj
  unfold src at h
  rw [List.find?_eq_none] at h
  have := h j (by simpa using hj)
  simpa using this
theorem seq_reads {k : Nat} {o : Oper} {a : Act} {w : World} (hI : SeqInv ops G a0 w0 k a w) : ReadsOk ops G a0 k o a w := by
  intro t ht
  cases hs : src ops k t with
  | some j =>
    obtain ⟨hj, hw⟩ := src_spec hs
    obtain ⟨oj, hoj, hdj⟩ := writer_iff.1 hw
    exact hI.facts j oj t hj hoj hdj
  | none => exact hI.slots t (src_none hs)
theorem seq_step (huq : ∀ i k, i < n → k < n → i ≠ k → ∀ o t, ops[i]? = some o → o.dst = some t → writer ops t k = false) (hdn : ∀ i, i < n → ∀ j ∈ direct ops i, j < i)
    {k : Nat} {o : Oper} {a : Act} {w w' : World} {v : Value} (hI : SeqInv ops G a0 w0 k a w) (hk : k < n) (ho : ops[k]? = some o) (hd : ∀ t, o.dst = some t → t < a0.tmps.size) (hb : Ext w0 w')
    (hkeep : Keep ops G (fun _ => []) k w w') (hG : G k v w') : SeqInv ops G a0 w0 (k + 1) (a.put o.dst v) w' := by
  refine ⟨by rw [put_defers, hI.dfr], by rw [put_size, hI.tsz], hb, fun t ht => ?_, fun j oj t hj hoj hdj => ?_⟩
  · have hne : o.dst ≠ some t := fun e => by
      have := ht k (by omega)
      rw [writer_iff.2 ⟨o, ho, e⟩] at this
      cases this
    rw [put_other _ _ _ _ hne]
    exact hI.slots t fun j hj => ht j (by omega)
  · by_cases hjk : j = k
    · subst hjk
      rw [ho] at hoj
      cases hoj
      rw [hdj, put_same _ _ _ (by rw [hI.tsz]; exact hd t hdj)]
      exact hG
    · have hne : o.dst ≠ some t := fun e => by
        have := huq j k (by omega) hk hjk oj t hoj hdj
        rw [writer_iff.2 ⟨o, ho, e⟩] at this
        cases this
      rw [put_other _ _ _ _ hne]
      exact hkeep _ _ (by simp) hjk (fun hc => by have := hdn j (by omega) k hc; omega) (hI.facts j oj t (by omega) hoj hdj)
theorem seq_run {l : List Oper} (hn : n ≤ l.length) (huq : ∀ i k, i < n → k < n → i ≠ k → ∀ o t, l.toArray[i]? = some o → o.dst = some t → writer l.toArray t k = false) (hdn : ∀ i, i < n → ∀ j ∈ direct l.toArray i, j < i)
    (hdst : ∀ (i : Nat) (o : Oper) (t : Tmp), i < n → l[i]? = some o → o.dst = some t → t < a0.tmps.size)
    (steps : ∀ (i : Nat) (o : Oper), i < n → l[i]? = some o → Step P l.toArray G (fun _ => []) a0 w0 i o)
    (final : ∀ a w, SeqInv l.toArray G a0 w0 n a w → wpList P l.toArray Q (l.drop n) a w) :
    ∀ (m k : Nat) (a : Act) (w : World), k + m = n → SeqInv l.toArray G a0 w0 k a w → wpList P l.toArray Q (l.drop k) a w := by
  intro m
  induction m with
  | zero => intro k a w hk hI; obtain rfl : k = n := (by omega); exact final a w hI
  | succ m ih =>
    intro k a w hk hI
    have hkl : k < l.length := by omega
    rw [List.drop_eq_getElem_cons hkl]
    have ho : l[k]? = some l[k] := List.getElem?_eq_getElem hkl
    have ho' : l.toArray[k]? = some l[k] := by simp
    have hs := steps k l[k] (by omega) ho a w Q hI.ext (seq_reads hI)
    have hd9 : ∀ t, l[k].dst = some t → t < a0.tmps.size := fun t h => hdst k l[k] t (by omega) ho h
    unfold wpList
    split
    · rename_i hw
      rw [if_pos hw] at hs
      refine .inl (Oper.wp_mono ?_ hs)
      rintro a' w' ⟨v, rfl, hb, hkp, hG⟩
      exact ih (k + 1) _ _ (by omega) (seq_step huq hdn hI (by omega) ho' hd9 hb hkp hG)
    · rename_i hw
      rw [if_neg hw] at hs
      exact ih (k + 1) _ _ (by omega) (seq_step huq hdn hI (by omega) ho' hd9 hI.ext (fun _ _ _ _ _ h => h) hs)
/-- A region in the order of its text: its first operations promise; the last ones come behind them. -/
theorem wp_seq {id : Nat} {l : List Oper} (Gs : List (Value → World → Prop)) (hc : seqOk l.toArray Gs.length = true)
    (hd : ((l.take Gs.length).all fun o => match o.dst with | some t => decide (t < a0.tmps.size) | none => true) = true)
    (steps : Steps P l.toArray (G_of Gs) (fun _ => []) a0 w0 (l.take Gs.length) 0)
    (final : ∀ w, Ext w0 w → Fin w (fun a => wpList P l.toArray Q (l.drop Gs.length) a w) (goneBy (fun _ => []) Gs.length) 0 Gs (l.take Gs.length) a0) : (Code.region id l.toArray false).wp P Q a0 w0 := by
  generalize hn : Gs.length = n at *
  simp only [seqOk, Bool.and_eq_true, List.all_eq_true, List.mem_range, decide_eq_true_eq] at hc
  obtain ⟨⟨hle, hdn⟩, h3⟩ := hc
  have hll : n ≤ l.length := by simpa using hle
  have huq : ∀ i k, i < n → k < n → i ≠ k → ∀ o t, l.toArray[i]? = some o → o.dst = some t → writer l.toArray t k = false := by
    intro i k hi hk hik o t ho hd
    cases hw : writer l.toArray t k with
    | false => rfl
    | true =>
      exfalso
      obtain ⟨o', ho', hd'⟩ := writer_iff.1 hw
      have e1 : (l.take n)[i]? = some o := by rw [List.getElem?_take_of_lt hi]; simpa using ho
      have e2 : (l.take n)[k]? = some o' := by rw [List.getElem?_take_of_lt hk]; simpa using ho'
      rcases Nat.lt_or_ge i k with h | h
      · exact absurd (rising_lt _ _ h3 i k o o' t t h e1 e2 hd hd') (Nat.lt_irrefl _)
      · exact absurd (rising_lt _ _ h3 k i o' o t t (by omega) e2 e1 hd' hd) (Nat.lt_irrefl _)
  have hdst : ∀ (i : Nat) (o : Oper) (t : Tmp), i < n → l[i]? = some o → o.dst = some t → t < a0.tmps.size := by
    intro i o t hi ho hdst
    have hmem : o ∈ l.take n := by
      have : (l.take n)[i]? = some o := by rw [List.getElem?_take_of_lt hi]; exact ho
      exact List.mem_of_getElem? this
    have := List.all_eq_true.1 hd o hmem
    rw [hdst] at this
    simpa using this
  refine wp_region_lit ?_
  refine seq_run (n := n) (G := G_of Gs) (a0 := a0) (w0 := w0) hll huq hdn hdst ?_ ?_ n 0 a0 w0 (by omega) ⟨rfl, rfl, Ext.refl _, fun t _ => rfl, fun j o t h => absurd h (Nat.not_lt_zero _)⟩
  · intro i o hi ho
    have := steps_get _ 0 steps i o (by rw [List.getElem?_take_of_lt hi]; exact ho)
    rwa [Nat.zero_add] at this
  · intro a w hI
    have hact : puts (l.take n) 0 a0 (fun i => match (l[i]?).bind (·.dst) with | some t => a.tmps.getD t undef | none => undef) = a := by
      have hd : (puts (l.take n) 0 a0 (fun i => match (l[i]?).bind (·.dst) with | some t => a.tmps.getD t undef | none => undef)).defers = a.defers := by rw [puts_defers, hI.dfr]
      have ht : (puts (l.take n) 0 a0 (fun i => match (l[i]?).bind (·.dst) with | some t => a.tmps.getD t undef | none => undef)).tmps = a.tmps := by
        apply Array.ext
        · rw [puts_size, hI.tsz]
        · intro t h1 h2
          have hta : t < a0.tmps.size := by rw [puts_size] at h1; exact h1
          have huni : ∀ (j : Nat) (o : Oper), (l.take n)[j]? = some o → o.dst = some t → ∀ (k : Nat) (o' : Oper), (l.take n)[k]? = some o' → o'.dst = some t → k = j := by
            intro j o h1 h2 k o' h3 h4
            have hj : j < n := by have := (List.getElem?_eq_some_iff.1 h1).1; simp at this; omega
            have hk : k < n := by have := (List.getElem?_eq_some_iff.1 h3).1; simp at this; omega
            rw [List.getElem?_take_of_lt hj] at h1
            rw [List.getElem?_take_of_lt hk] at h3
            rcases Nat.decEq k j with hne | he
            · have := huq j k hj hk (fun e => hne e.symm) o t (by simpa using h1) h2
              rw [writer_iff.2 ⟨o', by simpa using h3, h4⟩] at this
              cases this
            · exact he
          have hg := puts_get (l.take n) 0 a0 (fun i => match (l[i]?).bind (·.dst) with | some t => a.tmps.getD t undef | none => undef) t huni hta
          have e1 : ∀ (b : Act) (h : t < b.tmps.size), b.tmps[t] = b.tmps.getD t undef := fun b h => by simp [Array.getD_eq_getD_getElem?, h]
          rw [e1 _ h1, e1 _ h2, hg]
          cases hfi : (l.take n).findIdx? (fun o => o.dst == some t) with
          | some j =>
            obtain ⟨hjl, hjd, _⟩ := List.findIdx?_eq_some_iff_getElem.1 hfi
            have hj : j < n := by simp at hjl; omega
            have hjl' : j < l.length := by simp at hjl; omega
            have hjd' : l[j].dst = some t := by simpa using hjd
            simp [hjl', hjd']
          | none =>
            rw [List.findIdx?_eq_none_iff] at hfi
            symm
            refine hI.slots t fun j hj => ?_
            cases hw : writer l.toArray t j with
            | false => rfl
            | true =>
              obtain ⟨o, ho, hd⟩ := writer_iff.1 hw
              have ho' : l[j]? = some o := by simpa using ho
              have hm : o ∈ l.take n := by
                have : (l.take n)[j]? = some o := by rw [List.getElem?_take_of_lt hj]; exact ho'
                exact List.mem_of_getElem? this
              have := hfi o hm
              rw [hd] at this
              simp at this
      cases a
      cases hp : puts (l.take n) 0 a0 (fun i => match (l[i]?).bind (·.dst) with | some t => _ | none => undef)
      rw [hp] at hd ht
      simp only at hd ht
      rw [hd, ht]
    rw [← hact]
    refine fin_puts Gs (l.take n) 0 a0 _ (by simp; omega) (final w hI.ext) ?_
    intro i o t g h1 h2 h3 h4
    have hi : i < n := by have := (List.getElem?_eq_some_iff.1 h3).1; omega
    rw [List.getElem?_take_of_lt hi] at h1
    have := hI.facts i o t hi (by simpa using h1) h2
    unfold G_of at this
    rw [List.getD_eq_getElem?_getD, h3] at this
    rw [Nat.zero_add]
    simp only [h1, Option.bind_some, h2]
    exact this
end
end Go.Proofs.Ytcbimfaneinpkaa.RG
