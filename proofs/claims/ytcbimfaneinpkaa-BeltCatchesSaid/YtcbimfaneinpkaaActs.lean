/- The acts of 'BeltCatches': counts pass, a part passes the sensor, a verdict is told. -/
import Derived.Test.YtcbimfaneinpkaaRegion
import Derived.Test.YtcbimfaneinpkaaCount
import Derived.Test.YtcbimfaneinpkaaCatchAt
import Derived.Test.YtcbimfaneinpkaaMoves
import Derived.Test.YtcbimfaneinpkaaAppendAt
import Derived.Deep.DeepCutAuto
import Derived.Deep.Cut
import Derived.Test.YtcbimfaneinpkaaTellReg
set_option linter.unusedVariables false
set_option linter.unusedSimpArgs false
namespace Go.Proofs.Ytcbimfaneinpkaa.RG
open Go Go.RowKit Go.Sort

section
variable {P : Program} {ops : Array Oper} {G : Prom} {dr : Drop} {a0 : Act} {w0 : World} {n : Nat} {Q : Exit → Act → World → Prop} {I : Bool → World → Prop} {s : Nat}
def StepS (P : Program) (ops : Array Oper) (G : Prom) (dr : Drop) (a0 : Act) (I : Bool → World → Prop) (s : Nat) (i : Nat) (o : Oper) : Prop :=
  ∀ (a : Act) (w : World) (Q : Exit → Act → World → Prop) (b : Bool), (i = s → b = false) → I b w → ReadsOk ops G a0 i o a w →
    if Region.wanted o (yielded ops a.tmps) = true then o.wp P a w (fun a' w' => ∃ v, a' = a.put o.dst v ∧ I (b || i == s) w' ∧ Keep ops G dr i w w' ∧ G i v w') Q else I (b || i == s) w ∧ G i undef w
theorem turn_at {listed : Array Bool} {i : Nat} {w : World} (hi : i < listed.size) (hb : I (listed.getD s false || i == s) w) : I ((listed.setIfInBounds i true).getD s false) w := by
  rw [getD_set hi]
  by_cases e : s = i
  · rw [if_pos e]; rw [show (i == s) = true by simp [e], Bool.or_true] at hb; exact hb
  · rw [if_neg e]; rw [show (i == s) = false by simpa using (fun h => e h.symm), Bool.or_false] at hb; exact hb
def StepsS (P : Program) (ops : Array Oper) (G : Prom) (dr : Drop) (a0 : Act) (I : Bool → World → Prop) (s : Nat) : List Oper → Nat → Prop
  | [], _ => True
  | o :: l, i => StepS P ops G dr a0 I s i o ∧ StepsS P ops G dr a0 I s l (i + 1)
structure InvS (ops : Array Oper) (G : Prom) (dr : Drop) (a0 : Act) (I : Bool → World → Prop) (s : Nat) (n : Nat) (listed : Array Bool) (a : Act) (w : World) : Prop where
  size : listed.size = ops.size
  closed : Closed ops listed
  tail : ∀ k, n ≤ k → listed.getD k false = false
  dfr : a.defers = a0.defers
  tsz : a.tmps.size = a0.tmps.size
  ext : I (listed.getD s false) w
  slots : ∀ t, (∀ j, j < n → listed.getD j false = true → writer ops t j = false) → a.tmps.getD t undef = a0.tmps.getD t undef
  facts : ∀ j o t, j < n → listed.getD j false = true → ops[j]? = some o → o.dst = some t → (∀ i, i < n → listed.getD i false = true → j ∉ dr i) → G j (a.tmps.getD t undef) w

theorem readsOk_of_invS (hok : Ok ops dr n) {listed : Array Bool} {a : Act} {w : World} (hI : InvS ops G dr a0 I s n listed a w) {i : Nat} {o : Oper} (hi : i < n) (ho : ops[i]? = some o)
    (hun : listed.getD i false = false) (hpre : ∀ j ∈ direct ops i, listed.getD j false = true) : ReadsOk ops G a0 i o a w := by
  intro t ht
  have hlt : i < ops.size := Nat.lt_of_lt_of_le hi hok.le
  cases hs : src ops i t with
  | some j =>
    obtain ⟨hj, hw⟩ := src_spec hs
    rcases hok.reads i o hi ho t ht j (by omega) (by omega) hw with ⟨_, _, h3⟩ | ⟨h1, _⟩
    · obtain ⟨oj, hoj, hdj⟩ := writer_iff.1 hw
      exact hI.facts j oj t (by omega) (hpre j h3) hoj hdj fun k hk hl hd => by
        by_cases hki : k = i
        · rw [hki, hun] at hl; cases hl
        · have := hI.closed k (Nat.lt_of_lt_of_le hk hok.le) hl i (hok.drops i o hi ho t ht j hs k hk hki hd)
          rw [hun] at this; cases this
    · omega
  | none =>
    refine hI.slots t fun j hj hl => ?_
    cases hw : writer ops t j with
    | false => rfl
    | true =>
      have hji : j ≠ i := fun e => by rw [e, hun] at hl; cases hl
      have hjs : j < ops.size := Nat.lt_of_lt_of_le hj hok.le
      rcases hok.reads i o hi ho t ht j hjs hji hw with ⟨_, h2, _⟩ | ⟨_, h2⟩
      · rw [hs] at h2; cases h2
      · rcases h2 with h2 | h2
        · omega
        · have := hI.closed j hjs hl i h2
          rw [hun] at this; cases this

theorem invS_step (hok : Ok ops dr n) (hdst : ∀ i o t, i < n → ops[i]? = some o → o.dst = some t → t < a0.tmps.size)
    {listed : Array Bool} {a : Act} {w w' : World} (hI : InvS ops G dr a0 I s n listed a w) {i : Nat} {o : Oper} (hi : i < n) (ho : ops[i]? = some o)
    (hun : listed.getD i false = false) (hpre : ∀ j ∈ direct ops i, listed.getD j false = true) {v : Value} (hb : I (listed.getD s false || i == s) w') (hkeep : Keep ops G dr i w w') (hG : G i v w') :
    InvS ops G dr a0 I s n (listed.setIfInBounds i true) (a.put o.dst v) w' := by
  have his : i < listed.size := by rw [hI.size]; exact Nat.lt_of_lt_of_le hi hok.le
  refine ⟨by simp [hI.size], fun k hk hl j hj => ?_, fun k hk => ?_, by rw [put_defers, hI.dfr], by rw [put_size, hI.tsz], turn_at his hb, fun t ht => ?_, fun j oj t hj hl hoj hd hdr => ?_⟩
  · rw [getD_set his] at hl ⊢
    split
    · rfl
    · split at hl
      · rename_i h1; subst h1; exact hpre j hj
      · exact hI.closed k hk hl j hj
  · rw [getD_set his, if_neg (by omega)]
    exact hI.tail k hk
  · have hne : o.dst ≠ some t := fun e => by
      have := ht i hi (by rw [getD_set his, if_pos rfl])
      rw [writer_iff.2 ⟨o, ho, e⟩] at this
      cases this
    rw [put_other _ _ _ _ hne]
    exact hI.slots t fun j hj hl => ht j hj (by rw [getD_set his]; split <;> first | rfl | exact hl)
  · rw [getD_set his] at hl
    by_cases hji : j = i
    · subst hji
      rw [ho] at hoj
      cases hoj
      rw [hd, put_same _ _ _ (by rw [hI.tsz]; exact hdst _ _ _ hi ho hd)]
      exact hG
    · rw [if_neg hji] at hl
      have hne : o.dst ≠ some t := fun e => by
        have := hok.uniq j i hj hi hji oj t hoj hd
        rw [writer_iff.2 ⟨o, ho, e⟩] at this
        cases this
      rw [put_other _ _ _ _ hne]
      exact hkeep _ _ (hdr i hi (by rw [getD_set his, if_pos rfl])) hji (fun hc => by
        have := hI.closed j (Nat.lt_of_lt_of_le hj hok.le) hl i hc
        rw [hun] at this; cases this) (hI.facts j oj t hj hl hoj hd fun k hk hl' => hdr k hk (by rw [getD_set his]; split <;> first | rfl | exact hl'))

theorem main_s {l : List Oper} (hok : Ok l.toArray dr n) (hdst : ∀ (i : Nat) (o : Oper) (t : Tmp), i < n → l[i]? = some o → o.dst = some t → t < a0.tmps.size)
    (hs9 : s < n) (steps : ∀ (i : Nat) (o : Oper), i < n → l[i]? = some o → StepS P l.toArray G dr a0 I s i o)
    (final : ∀ (vs : Nat → Value) (w : World), I true w → (∀ (i : Nat) (o : Oper) (t : Tmp), i < n → l[i]? = some o → o.dst = some t → (∀ k, k < n → i ∉ dr k) → G i (vs i) w) → wpList P l.toArray Q (l.drop n) (puts (l.take n) 0 a0 vs) w) :
    ∀ (fuel : Nat) (listed : Array Bool) (a : Act) (w : World), InvS l.toArray G dr a0 I s n listed a w → listed.toList.count false ≤ fuel → wpAny P .any l.toArray Q fuel listed a w := by
  have hle := hok.le
  have fin : ∀ (fuel : Nat) (listed : Array Bool) (a : Act) (w : World), InvS l.toArray G dr a0 I s n listed a w → listed.toList.count false ≤ fuel → (∀ j, j < n → listed.getD j false = true) → wpAny P .any l.toArray Q fuel listed a w := by
    intro fuel listed a w hI hf hall
    have hL : listed = (Array.range l.toArray.size).map fun j => decide (j < n) := by
      apply Array.ext
      · simp [hI.size]
      · intro j h1 h2
        simp only [Array.getElem_map, Array.getElem_range]
        rcases Nat.lt_or_ge j n with h | h
        · have := hall j h
          rw [Array.getD_eq_getD_getElem?, Array.getElem?_eq_getElem h1] at this
          simpa [h] using this
        · have := hI.tail j h
          rw [Array.getD_eq_getD_getElem?, Array.getElem?_eq_getElem h1] at this
          rw [decide_eq_false (by omega)]
          simpa using this
    have hcount : l.toArray.size - n ≤ fuel := by
      refine Nat.le_trans ?_ hf
      rw [hL]
      have e : ((Array.range l.toArray.size).map fun j => decide (j < n)).toList = (List.range n).map (fun j => decide (j < n)) ++ (List.range' n (l.toArray.size - n)).map (fun j => decide (j < n)) := by
        rw [← List.map_append, List.range_eq_range']
        have h1 := List.range'_append_1 (s := 0) (m := n) (n := l.toArray.size - n)
        rw [Nat.zero_add] at h1
        rw [h1]
        simp only [Array.toList_map, Array.toList_range, List.range_eq_range']
        congr 2
        omega
      rw [e, List.count_append]
      have h2 : ((List.range' n (l.toArray.size - n)).map fun j => decide (j < n)) = List.replicate (l.toArray.size - n) false := by
        rw [List.eq_replicate_iff]
        refine ⟨by simp, fun b hb => ?_⟩
        obtain ⟨j, hj, rfl⟩ := List.mem_map.1 hb
        rw [List.mem_range'_1] at hj
        exact decide_eq_false (by omega)
      rw [h2, List.count_replicate_self]
      omega
    rw [hL]
    refine tail_run hok (l.toArray.size - n) n fuel a w (by omega) (Nat.le_refl _) hcount ?_
    have h3 := final (fun i => match (l[i]?).bind (·.dst) with | some t => a.tmps.getD t undef | none => undef) w (by have h9 := hI.ext; rw [hall s hs9] at h9; exact h9) (fun i o t hi ho hd hdr => by
      have := hI.facts i o t hi (hall i hi) (by simpa using ho) hd (fun k hk _ => hdr k hk)
      simpa [ho, hd] using this)
    have hact : puts (l.take n) 0 a0 (fun i => match (l[i]?).bind (·.dst) with | some t => a.tmps.getD t undef | none => undef) = a := by
      have hd : (puts (l.take n) 0 a0 (fun i => match (l[i]?).bind (·.dst) with | some t => a.tmps.getD t undef | none => undef)).defers = a.defers := by rw [puts_defers, hI.dfr]
      have ht : (puts (l.take n) 0 a0 (fun i => match (l[i]?).bind (·.dst) with | some t => a.tmps.getD t undef | none => undef)).tmps = a.tmps := by
        apply Array.ext
        · rw [puts_size, hI.tsz]
        · intro t h1 h2
          have hta : t < a0.tmps.size := by rw [puts_size] at h1; exact h1
          have huni : ∀ (j : Nat) (o : Oper), (l.take n)[j]? = some o → o.dst = some t → ∀ (k : Nat) (o' : Oper), (l.take n)[k]? = some o' → o'.dst = some t → k = j := by
            intro j o h1 h2 k o' h3 h4
            have hj : j < n := by have := (List.getElem?_eq_some_iff.1 h1).1; simp at this; omega
            have hk : k < n := by have := (List.getElem?_eq_some_iff.1 h3).1; simp at this; omega
            rw [List.getElem?_take_of_lt hj] at h1
            rw [List.getElem?_take_of_lt hk] at h3
            rcases Nat.decEq k j with hne | he
            · have := hok.uniq j k hj hk (fun e => hne e.symm) o t (by simpa using h1) h2
              rw [writer_iff.2 ⟨o', by simpa using h3, h4⟩] at this
              cases this
            · exact he
          have hg := puts_get (l.take n) 0 a0 (fun i => match (l[i]?).bind (·.dst) with | some t => a.tmps.getD t undef | none => undef) t huni hta
          have e1 : ∀ (b : Act) (h : t < b.tmps.size), b.tmps[t] = b.tmps.getD t undef := fun b h => by simp [Array.getD_eq_getD_getElem?, h]
          rw [e1 _ h1, e1 _ h2, hg]
          cases hfi : (l.take n).findIdx? (fun o => o.dst == some t) with
          | some j =>
            obtain ⟨hjl, hjd, _⟩ := List.findIdx?_eq_some_iff_getElem.1 hfi
            have hj : j < n := by simp at hjl; omega
            have hjl' : j < l.length := by simp at hjl; omega
            have hjd' : l[j].dst = some t := by simpa using hjd
            simp [hjl', hjd']
          | none =>
            rw [List.findIdx?_eq_none_iff] at hfi
            symm
            refine hI.slots t fun j hj _ => ?_
            cases hw : writer l.toArray t j with
            | false => rfl
            | true =>
              obtain ⟨o, ho, hd⟩ := writer_iff.1 hw
              have ho' : l[j]? = some o := by simpa using ho
              have hm : o ∈ l.take n := by
                have : (l.take n)[j]? = some o := by rw [List.getElem?_take_of_lt hj]; exact ho'
                exact List.mem_of_getElem? this
              have := hfi o hm
              rw [hd] at this
              simp at this
      cases a
      cases hp : puts (l.take n) 0 a0 (fun i => match (l[i]?).bind (·.dst) with | some t => _ | none => undef)
      rw [hp] at hd ht
      simp only at hd ht
      rw [hd, ht]
    rw [hact] at h3
    have hlen : l.toArray.size - n = (l.drop n).length := by simp
    rw [hlen, wpOps_eq_wpList (ops := l.toArray) (l.drop n) n (fun j => by simp)]
    exact h3
  intro fuel
  induction fuel with
  | zero =>
    intro listed a w hI hf
    refine fin 0 listed a w hI hf fun j hj => ?_
    have hjs : j < listed.size := by rw [hI.size]; exact Nat.lt_of_lt_of_le hj hle
    have hc : listed.toList.count false = 0 := by omega
    rw [List.count_eq_zero] at hc
    cases hb : listed.getD j false with
    | true => rfl
    | false =>
      rw [Array.getD_eq_getD_getElem?, Array.getElem?_eq_getElem hjs] at hb
      exact absurd (by simp at hb; rw [← hb]; simp) hc
  | succ fuel ih =>
    intro listed a w hI hf
    by_cases hall : ∀ j, j < n → listed.getD j false = true
    · exact fin _ listed a w hI hf hall
    · -- the least that is not listed is ready
      have hex : ∃ j, j < n ∧ listed.getD j false = false ∧ ∀ k, k < j → listed.getD k false = true := by
        have : ∀ m, m ≤ n → (∀ j, j < m → listed.getD j false = true) ∨ ∃ j, j < n ∧ listed.getD j false = false ∧ ∀ k, k < j → listed.getD k false = true := by
          intro m
          induction m with
          | zero => intro _; exact .inl fun j hj => by omega
          | succ m ihm =>
            intro hm
            rcases ihm (by omega) with h | h
            · cases hb : listed.getD m false with
              | true =>
                refine .inl fun j hj => ?_
                rcases Nat.lt_or_ge j m with h1 | h1
                · exact h j h1
                · obtain rfl : j = m := by omega
                  exact hb
              | false => exact .inr ⟨m, by omega, hb, h⟩
            · exact .inr h
        rcases this n (Nat.le_refl _) with h | h
        · exact absurd h hall
        · exact h
      have unl : ∀ j, j < l.toArray.size → listed.getD j false = false → listed.getD j true = false := fun j hj h => by
        have hjs : j < listed.size := by rw [hI.size]; exact hj
        rw [Array.getD_eq_getD_getElem?, Array.getElem?_eq_getElem hjs] at h ⊢
        exact h
      refine ⟨fun h0 => ?_, fun i hi => ?_⟩
      · obtain ⟨j, hj, hb, hk⟩ := hex
        have hjs : j < l.toArray.size := Nat.lt_of_lt_of_le hj hle
        have : j ∈ Region.ready .any l.toArray listed := mem_ready.2 ⟨unl j hjs hb, l.toArray[j], by simp, fun e he hbd => hk _ (hok.down j hj _ ((direct_of (by simp) _).2 ⟨e, he, hbd, rfl⟩))⟩
        rw [h0] at this
        cases this
      · obtain ⟨h1, o, ho, hpre0⟩ := mem_ready.1 hi
        have his : i < l.toArray.size := (Array.getElem?_eq_some_iff.1 ho).1
        have hils : i < listed.size := by rw [hI.size]; exact his
        have hpre : ∀ j ∈ direct l.toArray i, listed.getD j false = true := fun j hj => by
          obtain ⟨e, he, hbd, rfl⟩ := (direct_of ho _).1 hj
          exact hpre0 e he hbd
        have hun : listed.getD i false = false := by
          rw [Array.getD_eq_getD_getElem?, Array.getElem?_eq_getElem hils] at h1 ⊢
          exact h1
        have hin : i < n := by
          rcases Nat.lt_or_ge i n with h | h
          · exact h
          · exfalso
            exact hall fun j hj => need_listed hI.size hI.closed _ i hpre j (hok.needs i his h j hj)
        have hcnt : (listed.setIfInBounds i true).toList.count false ≤ fuel := by
          have e : (listed.setIfInBounds i true).toList = listed.toList.set i true := by simp
          rw [e, List.count_set (by simpa using hils)]
          have h2 : listed.toList[i]'(by simpa using hils) = false := by
            rw [Array.getD_eq_getD_getElem?, Array.getElem?_eq_getElem hils] at hun
            simpa using hun
          have h3 : 0 < listed.toList.count false := List.count_pos_iff.2 (by rw [← h2]; simp)
          simp [h2]
          simp at h3 hf
          omega
        have hs := steps i o hin (by simpa using ho) a w Q (listed.getD s false) (fun e => by subst e; exact hun) hI.ext (readsOk_of_invS hok hI hin ho hun hpre)
        have hdst' : ∀ i o t, i < n → l.toArray[i]? = some o → o.dst = some t → t < a0.tmps.size := fun i o t h1 h2 h3 => hdst i o t h1 (by simpa using h2) h3
        unfold wpOp
        rw [ho]
        simp only
        split
        · rename_i hw
          rw [if_pos hw] at hs
          refine .inl (Oper.wp_mono ?_ hs)
          rintro a' w' ⟨v, rfl, hb, hkp, hG⟩
          exact ih _ _ _ (invS_step hok hdst' hI hin ho hun hpre hb hkp hG) hcnt
        · rename_i hw
          rw [if_neg hw] at hs
          exact ih _ _ _ (invS_step hok hdst' hI hin ho hun hpre hs.1 (fun _ _ _ _ _ h => h) hs.2) hcnt

theorem steps_getS {l : List Oper} : ∀ (m : List Oper) (k : Nat), StepsS P l.toArray G dr a0 I s m k → ∀ (i : Nat) (o : Oper), m[i]? = some o → StepS P l.toArray G dr a0 I s (k + i) o := by
  intro m
  induction m with
  | nil => intro k _ i o h; simp at h
  | cons x m ih =>
    intro k hs i o h
    cases i with
    | zero => simp at h; subst h; exact hs.1
    | succ i => rw [show k + (i + 1) = (k + 1) + i from by omega]; exact ih (k + 1) hs.2 i o (by simpa using h)

theorem wp_rgs {id : Nat} {l : List Oper} (Gs : List (Value → World → Prop)) (dr : Drop) (hm : P.follows .mixedOrders = true) (hc : (check l.toArray dr Gs.length) = true)
    (hd : ((l.take Gs.length).all fun o => match o.dst with | some t => decide (t < a0.tmps.size) | none => true) = true)
    (hs9 : s < Gs.length) (hI0 : I false w0.drew) (steps : StepsS P l.toArray (G_of Gs) dr a0 I s (l.take Gs.length) 0)
    (final : ∀ w, I true w → Fin w (fun a => wpList P l.toArray Q (l.drop Gs.length) a w) (goneBy dr Gs.length) 0 Gs (l.take Gs.length) a0) : (Code.region id l.toArray true).wp P Q a0 w0 := by
  have hok := ok_of_check hc
  have hle := hok.le
  refine wp_region_any hm (main_s (n := Gs.length) (G := G_of Gs) (dr := dr) (a0 := a0) (I := I) (s := s) hok ?_ hs9 ?_ ?_ _ _ _ _ ?_ ?_)
  · intro i o t hi ho hdst
    have hmem : o ∈ l.take Gs.length := by
      have : (l.take Gs.length)[i]? = some o := by rw [List.getElem?_take_of_lt hi]; exact ho
      exact List.mem_of_getElem? this
    have := List.all_eq_true.1 hd o hmem
    rw [hdst] at this
    simpa using this
  · intro i o hi ho
    have := steps_getS _ 0 steps i o (by rw [List.getElem?_take_of_lt hi]; exact ho)
    rwa [Nat.zero_add] at this
  · intro vs w hw hv
    refine fin_puts Gs (l.take Gs.length) 0 a0 vs (by simp at hle; simp; omega) (final w hw) ?_
    intro i o t g h1 h2 h3 h4
    have hi : i < Gs.length := (List.getElem?_eq_some_iff.1 h3).1
    rw [List.getElem?_take_of_lt hi] at h1
    rw [Nat.zero_add] at h4
    have := hv i o t hi h1 h2 fun k hk hd => by
      have h5 : goneBy dr Gs.length i = true := by
        simp only [goneBy, List.any_eq_true, List.mem_range]
        exact ⟨k, hk, by simpa using hd⟩
      rw [h4] at h5
      cases h5
    unfold G_of at this
    rw [List.getD_eq_getElem?_getD, h3] at this
    rw [Nat.zero_add]
    exact this
  · have rep : ∀ n i : Nat, (Array.replicate n false).getD i false = false := by
      intro n i
      rw [Array.getD_eq_getD_getElem?, Array.getElem?_replicate]
      by_cases h : i < n <;> simp [h]
    exact ⟨by simp, (fun i _ h => by rw [rep] at h; cases h), fun k _ => rep _ _, rfl, rfl, (by rw [rep]; exact hI0), fun t _ => rfl, (fun j o t _ h => by rw [rep] at h; cases h)⟩
  · simp

/-- an operation that only makes memory -/
theorem sS_run {i : Nat} {o : Oper} (hg : o.guard = none) (hi : (i == s) = false) (hI : ∀ b w w', I b w → Ext w w' → I b w') (h : ∀ a w b, I b w → ReadsOk ops G a0 i o a w → ∃ v w', (execOp a.eval o).run P w = .ok (.value v) w' ∧ Ext w w' ∧ G i v w') (hstab : ∀ j v w w', G j v w → Ext w w' → G j v w') : StepS P ops G dr a0 I s i o := by
  intro a w Q b _ hw hr
  rw [if_pos (by simp [Region.wanted, hg])]
  obtain ⟨v, w', h1, h2, h3⟩ := h a w b hw hr
  unfold Oper.wp
  rw [h1]
  exact ⟨v, rfl, by rw [hi, Bool.or_false]; exact hI _ _ _ hw h2, fun j v _ _ _ h => hstab j v _ _ h h2, h3⟩
theorem sS_move {i t : Nat} {o : Oper} (hg : o.guard = none) (hi : (i == s) = false) (hI : ∀ b w w', I b w → Ext w w' → I b w') (ho : o.op = .move (.tmp t)) (hs : src ops i t = none) (hG : ∀ w, G i (a0.tmps.getD t undef) w) (hstab : ∀ j v w w', G j v w → Ext w w' → G j v w') : StepS P ops G dr a0 I s i o :=
  sS_run hg hi hI (fun a w b hw hr => ⟨a0.tmps.getD t undef, w, by
    have e : a.eval (.tmp t) = a0.tmps.getD t undef := read_out hr (by unfold Oper.looksAt; rw [ho]; simp [Op.operands]) hs
    unfold execOp
    rw [ho]
    simp only [e]
    rfl, Ext.refl _, hG w⟩) hstab
/-- the one that turns the invariant -/
theorem sS_turn {o : Oper} (hg : o.guard = none) (h : ∀ a w Q, I false w → ReadsOk ops G a0 s o a w → o.wp P a w (fun a' w' => ∃ v, a' = a.put o.dst v ∧ I true w' ∧ Keep ops G dr s w w' ∧ G s v w') Q) : StepS P ops G dr a0 I s s o := by
  intro a w Q b hb hw hr
  rw [if_pos (by simp [Region.wanted, hg])]
  rw [hb rfl] at hw ⊢
  simp only [beq_self_eq_true, Bool.or_true]
  exact h a w Q hw hr
end
end Go.Proofs.Ytcbimfaneinpkaa.RG

namespace Go.Proofs.Ytcbimfaneinpkaa
open Go.RowKit Go.Sort

set_option maxRecDepth 100000 in
set_option maxHeartbeats 8000000 in
theorem act0 (w0 : World) (b : Belt) (vm : Value) (mv : List Nat) (ln : Int) (bw : Nat) (t : Track) (xs : List Thing) (at_ : Nat) (w : World) (hC : CatchAt w0 b vm ln bw t xs at_ w) (hm : BytesAt w0 vm mv) (hml : mv.length ≤ maxLen) (hms : ∀ x ∈ mv, x < 256)
    (hs : w0.heap.size ≤ bw) (hcn : t.count + 20 ≤ 100000) (han : at_ + 20 ≤ 100000) (hln : ln = b.length) (k n v : Nat) (hk : k % 3 = 0) (hn : n < 256) (hv : v < 256) :
    Calls Try.prog 46 #[.pointer (some ⟨bw, 0, none⟩), .agg #[.int .u8 (k : Int), .int .u8 (n : Int), .int .u8 (v : Int)]] w (Acted w0 b vm ln bw t at_) := by
  have hC9 := Lib.hid hC
  have hM9 := Lib.hid hm
  have hml9 := Lib.hid hml
  have hms9 := Lib.hid hms
  have h3 : (k : Int).tmod 3 = 0 := by rw [show (3 : Int) = ((3 : Nat) : Int) from rfl, tmod_nat, hk]; rfl
  obtain ⟨q, hq⟩ : ∃ q, n % 20 = q := ⟨_, rfl⟩
  have h20 : (n : Int).tmod 20 = (q : Int) := by rw [show (20 : Int) = ((20 : Nat) : Int) from rfl, tmod_nat, hq]
  have hq2 : q < 20 := by omega
  have hn2 : (n : Int) < 256 := by omega
  clear hC hm hml hms hk hq hln
  go_enter Try.func46, Try.ntmps46
  go_wp2_with fail
  go_loopw [71] (fun i wr => ∃ (j : Nat) (t' : Track) (xs' : List Thing) (at' : Nat), j ≤ q + 1 ∧ i = .int .i64 (j : Int) ∧ Hid (CatchAt w0 b vm ln bw t' xs' at' wr) ∧ Hid (t'.count = t.count + j ∧ at' = at_ + j)) (fun i _ => q + 1 - (intOf i).toNat)
  case atStart => exact ⟨0, t, xs, at_, by omega, rfl, Lib.hid (hC9.out.ext ((Ext.refl _).alloc _)), Lib.hid ⟨by simp, rfl⟩⟩
  case round =>
    obtain ⟨j, t', xs', at', hj, rfl, hC', hc'⟩ := hrel
    by_cases hjl : j < q + 1
    · have t1 : decide ((j : Int) < (q : Int) + 1) = true := decide_eq_true (by omega)
      have K73 := Lib.hid (w73 w0 b vm mv ln bw t' xs' at' wr hC'.out hM9.out hml9.out hms9.out hs (by have := hc'.out.1; omega) (by have := hc'.out.2; omega))
      go_wp2_with (go_at_call 73; (with_reducible refine (K73.out).mono ?_); rintro E w1 ⟨rfl, xs1, hC1⟩)
      go_roundw
      case rel => exact ⟨j + 1, pass1 t', xs1, at' + 1, by omega, by go_num, Lib.hid hC1, Lib.hid ⟨by have := hc'.out.1; show t'.count + 1 = _; omega, by have := hc'.out.2; omega⟩⟩
      case measure => simp [intOf]; omega
    · have t1 : decide ((j : Int) < (q : Int) + 1) = false := decide_eq_false (by omega)
      go_wp2_with fail
      go_ret
      exact ⟨rfl, t', xs', at', hC'.out, by have := hc'.out.1; omega, by have := hc'.out.2; omega⟩
end Go.Proofs.Ytcbimfaneinpkaa

namespace Go.Proofs.Ytcbimfaneinpkaa
open Go.RowKit Go.Sort

set_option maxRecDepth 100000 in
set_option maxHeartbeats 8000000 in
theorem act1 (w0 : World) (b : Belt) (vm : Value) (mv : List Nat) (ln : Int) (bw : Nat) (t : Track) (xs : List Thing) (at_ : Nat) (w : World) (hC : CatchAt w0 b vm ln bw t xs at_ w) (hm : BytesAt w0 vm mv) (hml : mv.length ≤ maxLen) (hms : ∀ x ∈ mv, x < 256)
    (hs : w0.heap.size ≤ bw) (hcn : t.count + 20 ≤ 100000) (han : at_ + 20 ≤ 100000) (hln : ln = b.length) (k n v : Nat) (hk : k % 3 = 1) (hn : n < 256) (hv : v < 256) :
    Calls Try.prog 46 #[.pointer (some ⟨bw, 0, none⟩), .agg #[.int .u8 (k : Int), .int .u8 (n : Int), .int .u8 (v : Int)]] w (Acted w0 b vm ln bw t at_) := by
  have hC9 := Lib.hid hC
  obtain ⟨vt, vx, hF, hw0, ht0, hx0, hap, h0⟩ := hC
  obtain ⟨-, st, zt, rfl, -⟩ := SlAt.of_owns ht0
  obtain ⟨-, sx, zx, rfl, -⟩ := SlAt.of_owns hx0
  have hw := Lib.hid hw0
  have ht := Lib.hid ht0
  have hx := Lib.hid hx0
  have hap := Lib.hid hap
  have hok := hF.1
  have hxl := hF.2.2.1
  have HF := Lib.hid hF
  obtain ⟨s1, s2, s3, s4, s5⟩ := hok.2.1
  have hl50 : t.parts.length ≤ 50 := by omega
  have hxl32 : xs.length ≤ 32 := by omega
  have HXL := Lib.hid hxl
  obtain ⟨am, cm, rfl, -, hcm⟩ := hm.form
  have HM := Lib.hid hcm
  have hmx : mv.length ≤ 9223372036854775807 := hml
  obtain ⟨⟨j0, j1, j2, j3, j4, j5, j6, j7, j8, j9, j10⟩, jf0, jf1, jf2, jf3, jf4, jf5, jf6, jf7, jf8, jf9, jf10⟩ := run_11 hw.out
  have jz := (Array.getElem?_eq_some_iff.1 hw.out).1
  have h3 : (k : Int).tmod 3 = 1 := by rw [show (3 : Int) = ((3 : Nat) : Int) from rfl, tmod_nat, hk]; rfl
  have hn2 : (n : Int) < 256 := by omega
  clear hC9 hm hml hms hcm hk
  have hC9 := Lib.hid (show CatchAt w0 b (.slice am mv.length cm) ln bw t xs at_ w from ⟨_, _, hF, hw0, ht0, hx0, hap.out, h0⟩)
  clear hw0 ht0 hx0
  by_cases g1 : 0 < t.parts.length ∧ (t.parts.getD (t.parts.length - 1) seen0).at_ = t.count
  · have e1 : sense t = (noTrack, 0, 91) := by unfold sense; rw [if_pos hok, if_pos g1]
    have K31 := Lib.hid (fun (w' : World) (v' : Value) (hv' : SeensAt w' v' t.parts) => (sense_at hv' hl50 e1 : Calls Try.prog 31 #[trackVal t v'] w' (OwnSense (noTrack, 0, 91) w')))
    clear e1 g1 hok hF hxl
    go_enter Try.func46, Try.ntmps46
    go_wp2_with (first | (go_at_call 31; (with_reducible refine (K31.out _ _ (seens_own (owns_ext (ht.out) ((Ext.refl _).alloc _)) rfl)).mono ?_); rintro E w21 ⟨v21, rfl, o21, hb21⟩; have A21 := Lib.hid (show At w21 [(w.heap.size, Obj.cells #[.int .u8 (k : Int), .int .u8 (n : Int), .int .u8 (v : Int)] 86), (bw, Obj.cells #[.int .i64 t.belt.step, .int .i64 t.belt.slip, .int .i64 t.belt.gate, .int .i64 t.belt.length, .int .i64 t.count, .int .i64 t.next, (.slice st t.parts.length zt), (.slice sx xs.length zx), (.slice am mv.length cm), .int .i64 (at_ : Int), .int .i64 ln] 84)] from At.ext hb21 (show At (World.alloc w (Obj.cells #[.int .u8 (k : Int), .int .u8 (n : Int), .int .u8 (v : Int)] 86)) [(w.heap.size, Obj.cells #[.int .u8 (k : Int), .int .u8 (n : Int), .int .u8 (v : Int)] 86), (bw, Obj.cells #[.int .i64 t.belt.step, .int .i64 t.belt.slip, .int .i64 t.belt.gate, .int .i64 t.belt.length, .int .i64 t.count, .int .i64 t.next, (.slice st t.parts.length zt), (.slice sx xs.length zx), (.slice am mv.length cm), .int .i64 (at_ : Int), .int .i64 ln] 84)] from ⟨one_first _ _, At.alloc (show At w [(bw, Obj.cells #[.int .i64 t.belt.step, .int .i64 t.belt.slip, .int .i64 t.belt.gate, .int .i64 t.belt.length, .int .i64 t.count, .int .i64 t.next, (.slice st t.parts.length zt), (.slice sx xs.length zx), (.slice am mv.length cm), .int .i64 (at_ : Int), .int .i64 ln] 84)] from ⟨hw.out, trivial⟩) _⟩)); have E21 := Lib.hid ((((h0).alloc _)).trans hb21); obtain ⟨⟨c21_0_0, c21_0_1, c21_0_2⟩, f21_0_0, f21_0_1, f21_0_2⟩ := run_3 (At.at A21.out 0 rfl); have s21_0 : w.heap.size < w21.heap.size := At.lt A21.out 0 rfl; obtain ⟨⟨c21_1_0, c21_1_1, c21_1_2, c21_1_3, c21_1_4, c21_1_5, c21_1_6, c21_1_7, c21_1_8, c21_1_9, c21_1_10⟩, f21_1_0, f21_1_1, f21_1_2, f21_1_3, f21_1_4, f21_1_5, f21_1_6, f21_1_7, f21_1_8, f21_1_9, f21_1_10⟩ := run_11 (At.at A21.out 1 rfl); have s21_1 : bw < w21.heap.size := At.lt A21.out 1 rfl; have X_21 := Lib.hid (owns_ext ((owns_ext (hx.out) ((Ext.refl _).alloc _))) hb21); have T_21 := Lib.hid (owns_ext ((owns_ext (ht.out) ((Ext.refl _).alloc _))) hb21); obtain ⟨-, s1, z1, hv21, -⟩ := SlAt.of_owns o21; subst hv21; have HB := Lib.hid (((Ext.refl w).alloc _).trans hb21); clear o21))
    go_ret
    exact Acted.same hC9.out (HB.out.alloc _)
  by_cases g2 : t.parts.length = 32 ∨ t.next = 1099511627776
  · have e1 : sense t = (noTrack, 0, 9) := by unfold sense; rw [if_pos hok, if_neg g1, if_pos g2]
    have K31 := Lib.hid (fun (w' : World) (v' : Value) (hv' : SeensAt w' v' t.parts) => (sense_at hv' hl50 e1 : Calls Try.prog 31 #[trackVal t v'] w' (OwnSense (noTrack, 0, 9) w')))
    clear e1 g1 g2 hok hF hxl
    go_enter Try.func46, Try.ntmps46
    go_wp2_with (first | (go_at_call 31; (with_reducible refine (K31.out _ _ (seens_own (owns_ext (ht.out) ((Ext.refl _).alloc _)) rfl)).mono ?_); rintro E w21 ⟨v21, rfl, o21, hb21⟩; have A21 := Lib.hid (show At w21 [(w.heap.size, Obj.cells #[.int .u8 (k : Int), .int .u8 (n : Int), .int .u8 (v : Int)] 86), (bw, Obj.cells #[.int .i64 t.belt.step, .int .i64 t.belt.slip, .int .i64 t.belt.gate, .int .i64 t.belt.length, .int .i64 t.count, .int .i64 t.next, (.slice st t.parts.length zt), (.slice sx xs.length zx), (.slice am mv.length cm), .int .i64 (at_ : Int), .int .i64 ln] 84)] from At.ext hb21 (show At (World.alloc w (Obj.cells #[.int .u8 (k : Int), .int .u8 (n : Int), .int .u8 (v : Int)] 86)) [(w.heap.size, Obj.cells #[.int .u8 (k : Int), .int .u8 (n : Int), .int .u8 (v : Int)] 86), (bw, Obj.cells #[.int .i64 t.belt.step, .int .i64 t.belt.slip, .int .i64 t.belt.gate, .int .i64 t.belt.length, .int .i64 t.count, .int .i64 t.next, (.slice st t.parts.length zt), (.slice sx xs.length zx), (.slice am mv.length cm), .int .i64 (at_ : Int), .int .i64 ln] 84)] from ⟨one_first _ _, At.alloc (show At w [(bw, Obj.cells #[.int .i64 t.belt.step, .int .i64 t.belt.slip, .int .i64 t.belt.gate, .int .i64 t.belt.length, .int .i64 t.count, .int .i64 t.next, (.slice st t.parts.length zt), (.slice sx xs.length zx), (.slice am mv.length cm), .int .i64 (at_ : Int), .int .i64 ln] 84)] from ⟨hw.out, trivial⟩) _⟩)); have E21 := Lib.hid ((((h0).alloc _)).trans hb21); obtain ⟨⟨c21_0_0, c21_0_1, c21_0_2⟩, f21_0_0, f21_0_1, f21_0_2⟩ := run_3 (At.at A21.out 0 rfl); have s21_0 : w.heap.size < w21.heap.size := At.lt A21.out 0 rfl; obtain ⟨⟨c21_1_0, c21_1_1, c21_1_2, c21_1_3, c21_1_4, c21_1_5, c21_1_6, c21_1_7, c21_1_8, c21_1_9, c21_1_10⟩, f21_1_0, f21_1_1, f21_1_2, f21_1_3, f21_1_4, f21_1_5, f21_1_6, f21_1_7, f21_1_8, f21_1_9, f21_1_10⟩ := run_11 (At.at A21.out 1 rfl); have s21_1 : bw < w21.heap.size := At.lt A21.out 1 rfl; have X_21 := Lib.hid (owns_ext ((owns_ext (hx.out) ((Ext.refl _).alloc _))) hb21); have T_21 := Lib.hid (owns_ext ((owns_ext (ht.out) ((Ext.refl _).alloc _))) hb21); obtain ⟨-, s1, z1, hv21, -⟩ := SlAt.of_owns o21; subst hv21; have HB := Lib.hid (((Ext.refl w).alloc _).trans hb21); clear o21))
    go_ret
    exact Acted.same hC9.out (HB.out.alloc _)
  have e1 : sense t = (sensed t, t.next, 0) := by unfold sense; rw [if_pos hok, if_neg g1, if_neg g2]; rfl
  obtain ⟨X, hX⟩ : ∃ X, sensed t = X := ⟨_, rfl⟩
  have hXok : (sensed t).ok := sensed_ok hok g1 g2
  have hXl : (sensed t).parts.length = t.parts.length + 1 := by simp [sensed]
  have hFX : ∀ q : Nat, (q : Int) ≤ b.length → Follows b (sensed t) (xs ++ [⟨t.next, 0, (q : Int), 0, false⟩]) := fun q hq => follows_sense hF hXok (by omega) hq
  have hXc : (sensed t).count = t.count := rfl
  rw [hX] at e1 hXl hFX hXc
  have HFX := Lib.hid hFX
  have HXc := Lib.hid hXc
  have hb := hF.2.1 ▸ hF.1.1
  obtain ⟨-, -, -, -, -, -, l1, l2⟩ := hb
  obtain ⟨q, hq⟩ : ∃ q, n % (b.length.toNat + 1) = q := ⟨_, rfl⟩
  have hql : q < b.length.toNat + 1 := by rw [← hq]; exact Nat.mod_lt _ (by omega)
  have hq1 : (n : Int).tmod (ln + 1) = (q : Int) := by rw [hln, show b.length + 1 = ((b.length.toNat + 1 : Nat) : Int) by omega, tmod_nat, hq]
  have hq0 : ln + 1 ≠ 0 := by omega
  have hnw : IntKind.i64.wrap (n : Int) = (n : Int) := by simp [IntKind.wrap, IntKind.bits, IntKind.signed]; omega
  have hwl : IntKind.i64.wrap (ln + 1) = ln + 1 := by simp [IntKind.wrap, IntKind.bits, IntKind.signed]; omega
  have hqb : (q : Int) ≤ b.length := by omega
  have HQB := Lib.hid hqb
  obtain ⟨i2, hk1, hk2, hk3, hk4⟩ := info_parts info131
  have K31 := Lib.hid (fun (w' : World) (v' : Value) (hv' : SeensAt w' v' t.parts) => (sense_at hv' hl50 e1 : Calls Try.prog 31 #[trackVal t v'] w' (OwnSense (X, t.next, 0) w')))
  have hX33 : X.parts.length ≤ 33 := by omega
  clear e1 g1 g2 hok hF hxl hXok hFX hXc hq hqb hX hXl hln
  go_enter Try.func46, Try.ntmps46
  go_upto_region 21 with (first | (go_at_call 31; (with_reducible refine (K31.out _ _ (seens_own (owns_ext (ht.out) ((Ext.refl _).alloc _)) rfl)).mono ?_); rintro E w21 ⟨v21, rfl, o21, hb21⟩; have A21 := Lib.hid (show At w21 [(w.heap.size, Obj.cells #[.int .u8 (k : Int), .int .u8 (n : Int), .int .u8 (v : Int)] 86), (bw, Obj.cells #[.int .i64 t.belt.step, .int .i64 t.belt.slip, .int .i64 t.belt.gate, .int .i64 t.belt.length, .int .i64 t.count, .int .i64 t.next, (.slice st t.parts.length zt), (.slice sx xs.length zx), (.slice am mv.length cm), .int .i64 (at_ : Int), .int .i64 ln] 84)] from At.ext hb21 (show At (World.alloc w (Obj.cells #[.int .u8 (k : Int), .int .u8 (n : Int), .int .u8 (v : Int)] 86)) [(w.heap.size, Obj.cells #[.int .u8 (k : Int), .int .u8 (n : Int), .int .u8 (v : Int)] 86), (bw, Obj.cells #[.int .i64 t.belt.step, .int .i64 t.belt.slip, .int .i64 t.belt.gate, .int .i64 t.belt.length, .int .i64 t.count, .int .i64 t.next, (.slice st t.parts.length zt), (.slice sx xs.length zx), (.slice am mv.length cm), .int .i64 (at_ : Int), .int .i64 ln] 84)] from ⟨one_first _ _, At.alloc (show At w [(bw, Obj.cells #[.int .i64 t.belt.step, .int .i64 t.belt.slip, .int .i64 t.belt.gate, .int .i64 t.belt.length, .int .i64 t.count, .int .i64 t.next, (.slice st t.parts.length zt), (.slice sx xs.length zx), (.slice am mv.length cm), .int .i64 (at_ : Int), .int .i64 ln] 84)] from ⟨hw.out, trivial⟩) _⟩)); have E21 := Lib.hid ((((h0).alloc _)).trans hb21); obtain ⟨⟨c21_0_0, c21_0_1, c21_0_2⟩, f21_0_0, f21_0_1, f21_0_2⟩ := run_3 (At.at A21.out 0 rfl); have s21_0 : w.heap.size < w21.heap.size := At.lt A21.out 0 rfl; obtain ⟨⟨c21_1_0, c21_1_1, c21_1_2, c21_1_3, c21_1_4, c21_1_5, c21_1_6, c21_1_7, c21_1_8, c21_1_9, c21_1_10⟩, f21_1_0, f21_1_1, f21_1_2, f21_1_3, f21_1_4, f21_1_5, f21_1_6, f21_1_7, f21_1_8, f21_1_9, f21_1_10⟩ := run_11 (At.at A21.out 1 rfl); have s21_1 : bw < w21.heap.size := At.lt A21.out 1 rfl; have X_21 := Lib.hid (owns_ext ((owns_ext (hx.out) ((Ext.refl _).alloc _))) hb21); have T_21 := Lib.hid (owns_ext ((owns_ext (ht.out) ((Ext.refl _).alloc _))) hb21); obtain ⟨-, s1, z1, hv21, -⟩ := SlAt.of_owns o21; subst hv21; have OX := Lib.hid (owns_base (base' := w.heap.size + 1) o21 (by simp)); clear o21))
  obtain ⟨wT, hwT⟩ : ∃ wT, (World.alloc (World.setCell (World.setCell (World.setCell (World.setCell (World.setCell (World.setCell (World.setCell w21 ⟨bw, 0, none⟩ (.int .i64 X.belt.step)) ⟨bw, 1, none⟩ (.int .i64 X.belt.slip)) ⟨bw, 2, none⟩ (.int .i64 X.belt.gate)) ⟨bw, 3, none⟩ (.int .i64 X.belt.length)) ⟨bw, 4, none⟩ (.int .i64 X.count)) ⟨bw, 5, none⟩ (.int .i64 X.next)) ⟨bw, 6, none⟩ ((.slice s1 X.parts.length z1))) (Obj.cells #[.int .i64 X.belt.step, .int .i64 X.belt.slip, .int .i64 X.belt.gate, .int .i64 X.belt.length, .int .i64 X.count, .int .i64 X.next, (.slice s1 X.parts.length z1)] 47)) = wT := ⟨_, rfl⟩
  have A9 := Lib.hid (show At ((World.alloc (World.setCell (World.setCell (World.setCell (World.setCell (World.setCell (World.setCell (World.setCell w21 ⟨bw, 0, none⟩ (.int .i64 X.belt.step)) ⟨bw, 1, none⟩ (.int .i64 X.belt.slip)) ⟨bw, 2, none⟩ (.int .i64 X.belt.gate)) ⟨bw, 3, none⟩ (.int .i64 X.belt.length)) ⟨bw, 4, none⟩ (.int .i64 X.count)) ⟨bw, 5, none⟩ (.int .i64 X.next)) ⟨bw, 6, none⟩ ((.slice s1 X.parts.length z1))) (Obj.cells #[.int .i64 X.belt.step, .int .i64 X.belt.slip, .int .i64 X.belt.gate, .int .i64 X.belt.length, .int .i64 X.count, .int .i64 X.next, (.slice s1 X.parts.length z1)] 47))) [(w.heap.size, Obj.cells #[.int .u8 (k : Int), .int .u8 (n : Int), .int .u8 (v : Int)] 86), (bw, Obj.cells #[.int .i64 X.belt.step, .int .i64 X.belt.slip, .int .i64 X.belt.gate, .int .i64 X.belt.length, .int .i64 X.count, .int .i64 X.next, (.slice s1 X.parts.length z1), (.slice sx xs.length zx), (.slice am mv.length cm), .int .i64 (at_ : Int), .int .i64 ln] 84)] from ⟨At.at (show At (World.alloc (World.setCell (World.setCell (World.setCell (World.setCell (World.setCell (World.setCell (World.setCell w21 ⟨bw, 0, none⟩ (.int .i64 X.belt.step)) ⟨bw, 1, none⟩ (.int .i64 X.belt.slip)) ⟨bw, 2, none⟩ (.int .i64 X.belt.gate)) ⟨bw, 3, none⟩ (.int .i64 X.belt.length)) ⟨bw, 4, none⟩ (.int .i64 X.count)) ⟨bw, 5, none⟩ (.int .i64 X.next)) ⟨bw, 6, none⟩ ((.slice s1 X.parts.length z1))) (Obj.cells #[.int .i64 X.belt.step, .int .i64 X.belt.slip, .int .i64 X.belt.gate, .int .i64 X.belt.length, .int .i64 X.count, .int .i64 X.next, (.slice s1 X.parts.length z1)] 47)) [(w21.heap.size, Obj.cells #[.int .i64 X.belt.step, .int .i64 X.belt.slip, .int .i64 X.belt.gate, .int .i64 X.belt.length, .int .i64 X.count, .int .i64 X.next, (.slice s1 X.parts.length z1)] 47), (bw, Obj.cells #[.int .i64 X.belt.step, .int .i64 X.belt.slip, .int .i64 X.belt.gate, .int .i64 X.belt.length, .int .i64 X.count, .int .i64 X.next, (.slice s1 X.parts.length z1), (.slice sx xs.length zx), (.slice am mv.length cm), .int .i64 (at_ : Int), .int .i64 ln] 84), (w.heap.size, Obj.cells #[.int .u8 (k : Int), .int .u8 (n : Int), .int .u8 (v : Int)] 86)] from ⟨blk_at _ _ (by simp), At.alloc (show At (World.setCell (World.setCell (World.setCell (World.setCell (World.setCell (World.setCell (World.setCell w21 ⟨bw, 0, none⟩ (.int .i64 X.belt.step)) ⟨bw, 1, none⟩ (.int .i64 X.belt.slip)) ⟨bw, 2, none⟩ (.int .i64 X.belt.gate)) ⟨bw, 3, none⟩ (.int .i64 X.belt.length)) ⟨bw, 4, none⟩ (.int .i64 X.count)) ⟨bw, 5, none⟩ (.int .i64 X.next)) ⟨bw, 6, none⟩ ((.slice s1 X.parts.length z1))) [(bw, Obj.cells #[.int .i64 X.belt.step, .int .i64 X.belt.slip, .int .i64 X.belt.gate, .int .i64 X.belt.length, .int .i64 X.count, .int .i64 X.next, (.slice s1 X.parts.length z1), (.slice sx xs.length zx), (.slice am mv.length cm), .int .i64 (at_ : Int), .int .i64 ln] 84), (w.heap.size, Obj.cells #[.int .u8 (k : Int), .int .u8 (n : Int), .int .u8 (v : Int)] 86)] from ⟨(st_one (st_one (st_one (st_one (st_one (st_one (st_one (At.at A21.out 1 rfl) 0 (.int .i64 X.belt.step)).1 1 (.int .i64 X.belt.slip)).1 2 (.int .i64 X.belt.gate)).1 3 (.int .i64 X.belt.length)).1 4 (.int .i64 X.count)).1 5 (.int .i64 X.next)).1 6 ((.slice s1 X.parts.length z1))).1, (At.other (st_one (st_one (st_one (st_one (st_one (st_one (st_one (At.at A21.out 1 rfl) 0 (.int .i64 X.belt.step)).1 1 (.int .i64 X.belt.slip)).1 2 (.int .i64 X.belt.gate)).1 3 (.int .i64 X.belt.length)).1 4 (.int .i64 X.count)).1 5 (.int .i64 X.next)).1 6 ((.slice s1 X.parts.length z1))).2.1 (by first | (simp; done) | (simp; omega)) (At.other (st_one (st_one (st_one (st_one (st_one (st_one (At.at A21.out 1 rfl) 0 (.int .i64 X.belt.step)).1 1 (.int .i64 X.belt.slip)).1 2 (.int .i64 X.belt.gate)).1 3 (.int .i64 X.belt.length)).1 4 (.int .i64 X.count)).1 5 (.int .i64 X.next)).2.1 (by first | (simp; done) | (simp; omega)) (At.other (st_one (st_one (st_one (st_one (st_one (At.at A21.out 1 rfl) 0 (.int .i64 X.belt.step)).1 1 (.int .i64 X.belt.slip)).1 2 (.int .i64 X.belt.gate)).1 3 (.int .i64 X.belt.length)).1 4 (.int .i64 X.count)).2.1 (by first | (simp; done) | (simp; omega)) (At.other (st_one (st_one (st_one (st_one (At.at A21.out 1 rfl) 0 (.int .i64 X.belt.step)).1 1 (.int .i64 X.belt.slip)).1 2 (.int .i64 X.belt.gate)).1 3 (.int .i64 X.belt.length)).2.1 (by first | (simp; done) | (simp; omega)) (At.other (st_one (st_one (st_one (At.at A21.out 1 rfl) 0 (.int .i64 X.belt.step)).1 1 (.int .i64 X.belt.slip)).1 2 (.int .i64 X.belt.gate)).2.1 (by first | (simp; done) | (simp; omega)) (At.other (st_one (st_one (At.at A21.out 1 rfl) 0 (.int .i64 X.belt.step)).1 1 (.int .i64 X.belt.slip)).2.1 (by first | (simp; done) | (simp; omega)) (At.other (st_one (At.at A21.out 1 rfl) 0 (.int .i64 X.belt.step)).2.1 (by first | (simp; done) | (simp; omega)) (At.erase A21.out 1))))))))⟩) _⟩) 2 rfl, At.at (show At (World.alloc (World.setCell (World.setCell (World.setCell (World.setCell (World.setCell (World.setCell (World.setCell w21 ⟨bw, 0, none⟩ (.int .i64 X.belt.step)) ⟨bw, 1, none⟩ (.int .i64 X.belt.slip)) ⟨bw, 2, none⟩ (.int .i64 X.belt.gate)) ⟨bw, 3, none⟩ (.int .i64 X.belt.length)) ⟨bw, 4, none⟩ (.int .i64 X.count)) ⟨bw, 5, none⟩ (.int .i64 X.next)) ⟨bw, 6, none⟩ ((.slice s1 X.parts.length z1))) (Obj.cells #[.int .i64 X.belt.step, .int .i64 X.belt.slip, .int .i64 X.belt.gate, .int .i64 X.belt.length, .int .i64 X.count, .int .i64 X.next, (.slice s1 X.parts.length z1)] 47)) [(w21.heap.size, Obj.cells #[.int .i64 X.belt.step, .int .i64 X.belt.slip, .int .i64 X.belt.gate, .int .i64 X.belt.length, .int .i64 X.count, .int .i64 X.next, (.slice s1 X.parts.length z1)] 47), (bw, Obj.cells #[.int .i64 X.belt.step, .int .i64 X.belt.slip, .int .i64 X.belt.gate, .int .i64 X.belt.length, .int .i64 X.count, .int .i64 X.next, (.slice s1 X.parts.length z1), (.slice sx xs.length zx), (.slice am mv.length cm), .int .i64 (at_ : Int), .int .i64 ln] 84), (w.heap.size, Obj.cells #[.int .u8 (k : Int), .int .u8 (n : Int), .int .u8 (v : Int)] 86)] from ⟨blk_at _ _ (by simp), At.alloc (show At (World.setCell (World.setCell (World.setCell (World.setCell (World.setCell (World.setCell (World.setCell w21 ⟨bw, 0, none⟩ (.int .i64 X.belt.step)) ⟨bw, 1, none⟩ (.int .i64 X.belt.slip)) ⟨bw, 2, none⟩ (.int .i64 X.belt.gate)) ⟨bw, 3, none⟩ (.int .i64 X.belt.length)) ⟨bw, 4, none⟩ (.int .i64 X.count)) ⟨bw, 5, none⟩ (.int .i64 X.next)) ⟨bw, 6, none⟩ ((.slice s1 X.parts.length z1))) [(bw, Obj.cells #[.int .i64 X.belt.step, .int .i64 X.belt.slip, .int .i64 X.belt.gate, .int .i64 X.belt.length, .int .i64 X.count, .int .i64 X.next, (.slice s1 X.parts.length z1), (.slice sx xs.length zx), (.slice am mv.length cm), .int .i64 (at_ : Int), .int .i64 ln] 84), (w.heap.size, Obj.cells #[.int .u8 (k : Int), .int .u8 (n : Int), .int .u8 (v : Int)] 86)] from ⟨(st_one (st_one (st_one (st_one (st_one (st_one (st_one (At.at A21.out 1 rfl) 0 (.int .i64 X.belt.step)).1 1 (.int .i64 X.belt.slip)).1 2 (.int .i64 X.belt.gate)).1 3 (.int .i64 X.belt.length)).1 4 (.int .i64 X.count)).1 5 (.int .i64 X.next)).1 6 ((.slice s1 X.parts.length z1))).1, (At.other (st_one (st_one (st_one (st_one (st_one (st_one (st_one (At.at A21.out 1 rfl) 0 (.int .i64 X.belt.step)).1 1 (.int .i64 X.belt.slip)).1 2 (.int .i64 X.belt.gate)).1 3 (.int .i64 X.belt.length)).1 4 (.int .i64 X.count)).1 5 (.int .i64 X.next)).1 6 ((.slice s1 X.parts.length z1))).2.1 (by first | (simp; done) | (simp; omega)) (At.other (st_one (st_one (st_one (st_one (st_one (st_one (At.at A21.out 1 rfl) 0 (.int .i64 X.belt.step)).1 1 (.int .i64 X.belt.slip)).1 2 (.int .i64 X.belt.gate)).1 3 (.int .i64 X.belt.length)).1 4 (.int .i64 X.count)).1 5 (.int .i64 X.next)).2.1 (by first | (simp; done) | (simp; omega)) (At.other (st_one (st_one (st_one (st_one (st_one (At.at A21.out 1 rfl) 0 (.int .i64 X.belt.step)).1 1 (.int .i64 X.belt.slip)).1 2 (.int .i64 X.belt.gate)).1 3 (.int .i64 X.belt.length)).1 4 (.int .i64 X.count)).2.1 (by first | (simp; done) | (simp; omega)) (At.other (st_one (st_one (st_one (st_one (At.at A21.out 1 rfl) 0 (.int .i64 X.belt.step)).1 1 (.int .i64 X.belt.slip)).1 2 (.int .i64 X.belt.gate)).1 3 (.int .i64 X.belt.length)).2.1 (by first | (simp; done) | (simp; omega)) (At.other (st_one (st_one (st_one (At.at A21.out 1 rfl) 0 (.int .i64 X.belt.step)).1 1 (.int .i64 X.belt.slip)).1 2 (.int .i64 X.belt.gate)).2.1 (by first | (simp; done) | (simp; omega)) (At.other (st_one (st_one (At.at A21.out 1 rfl) 0 (.int .i64 X.belt.step)).1 1 (.int .i64 X.belt.slip)).2.1 (by first | (simp; done) | (simp; omega)) (At.other (st_one (At.at A21.out 1 rfl) 0 (.int .i64 X.belt.step)).2.1 (by first | (simp; done) | (simp; omega)) (At.erase A21.out 1))))))))⟩) _⟩) 1 rfl, trivial⟩)
  have E9 := Lib.hid (show Ext w0 ((World.alloc (World.setCell (World.setCell (World.setCell (World.setCell (World.setCell (World.setCell (World.setCell w21 ⟨bw, 0, none⟩ (.int .i64 X.belt.step)) ⟨bw, 1, none⟩ (.int .i64 X.belt.slip)) ⟨bw, 2, none⟩ (.int .i64 X.belt.gate)) ⟨bw, 3, none⟩ (.int .i64 X.belt.length)) ⟨bw, 4, none⟩ (.int .i64 X.count)) ⟨bw, 5, none⟩ (.int .i64 X.next)) ⟨bw, 6, none⟩ ((.slice s1 X.parts.length z1))) (Obj.cells #[.int .i64 X.belt.step, .int .i64 X.belt.slip, .int .i64 X.belt.gate, .int .i64 X.belt.length, .int .i64 X.count, .int .i64 X.next, (.slice s1 X.parts.length z1)] 47))) from ((((st_one (st_one (st_one (st_one (st_one (st_one (st_one (At.at A21.out 1 rfl) 0 (.int .i64 X.belt.step)).1 1 (.int .i64 X.belt.slip)).1 2 (.int .i64 X.belt.gate)).1 3 (.int .i64 X.belt.length)).1 4 (.int .i64 X.count)).1 5 (.int .i64 X.next)).1 6 ((.slice s1 X.parts.length z1))).2.2 w0 (by omega) ((st_one (st_one (st_one (st_one (st_one (st_one (At.at A21.out 1 rfl) 0 (.int .i64 X.belt.step)).1 1 (.int .i64 X.belt.slip)).1 2 (.int .i64 X.belt.gate)).1 3 (.int .i64 X.belt.length)).1 4 (.int .i64 X.count)).1 5 (.int .i64 X.next)).2.2 w0 (by omega) ((st_one (st_one (st_one (st_one (st_one (At.at A21.out 1 rfl) 0 (.int .i64 X.belt.step)).1 1 (.int .i64 X.belt.slip)).1 2 (.int .i64 X.belt.gate)).1 3 (.int .i64 X.belt.length)).1 4 (.int .i64 X.count)).2.2 w0 (by omega) ((st_one (st_one (st_one (st_one (At.at A21.out 1 rfl) 0 (.int .i64 X.belt.step)).1 1 (.int .i64 X.belt.slip)).1 2 (.int .i64 X.belt.gate)).1 3 (.int .i64 X.belt.length)).2.2 w0 (by omega) ((st_one (st_one (st_one (At.at A21.out 1 rfl) 0 (.int .i64 X.belt.step)).1 1 (.int .i64 X.belt.slip)).1 2 (.int .i64 X.belt.gate)).2.2 w0 (by omega) ((st_one (st_one (At.at A21.out 1 rfl) 0 (.int .i64 X.belt.step)).1 1 (.int .i64 X.belt.slip)).2.2 w0 (by omega) ((st_one (At.at A21.out 1 rfl) 0 (.int .i64 X.belt.step)).2.2 w0 (by omega) E21.out)))))))).alloc _))
  have X9 := Lib.hid (show World.ownsRow ((World.alloc (World.setCell (World.setCell (World.setCell (World.setCell (World.setCell (World.setCell (World.setCell w21 ⟨bw, 0, none⟩ (.int .i64 X.belt.step)) ⟨bw, 1, none⟩ (.int .i64 X.belt.slip)) ⟨bw, 2, none⟩ (.int .i64 X.belt.gate)) ⟨bw, 3, none⟩ (.int .i64 X.belt.length)) ⟨bw, 4, none⟩ (.int .i64 X.count)) ⟨bw, 5, none⟩ (.int .i64 X.next)) ⟨bw, 6, none⟩ ((.slice s1 X.parts.length z1))) (Obj.cells #[.int .i64 X.belt.step, .int .i64 X.belt.slip, .int .i64 X.belt.gate, .int .i64 X.belt.length, .int .i64 X.count, .int .i64 X.next, (.slice s1 X.parts.length z1)] 47))) (bw + 1) 131 5 (.slice sx xs.length zx) xs.length (thingsL xs) from (owns_ext ((own_set (bo := bw) (o := 6) (own_set (bo := bw) (o := 5) (own_set (bo := bw) (o := 4) (own_set (bo := bw) (o := 3) (own_set (bo := bw) (o := 2) (own_set (bo := bw) (o := 1) (own_set (bo := bw) (o := 0) X_21.out (by omega)) (by omega)) (by omega)) (by omega)) (by omega)) (by omega)) (by omega))) ((Ext.refl _).alloc _)))
  have T9 := Lib.hid (show World.ownsRow (World.alloc (World.setCell (World.setCell (World.setCell (World.setCell (World.setCell (World.setCell (World.setCell w21 ⟨bw, 0, none⟩ (.int .i64 X.belt.step)) ⟨bw, 1, none⟩ (.int .i64 X.belt.slip)) ⟨bw, 2, none⟩ (.int .i64 X.belt.gate)) ⟨bw, 3, none⟩ (.int .i64 X.belt.length)) ⟨bw, 4, none⟩ (.int .i64 X.count)) ⟨bw, 5, none⟩ (.int .i64 X.next)) ⟨bw, 6, none⟩ ((.slice s1 X.parts.length z1))) (Obj.cells #[.int .i64 X.belt.step, .int .i64 X.belt.slip, .int .i64 X.belt.gate, .int .i64 X.belt.length, .int .i64 X.count, .int .i64 X.next, (.slice s1 X.parts.length z1)] 47)) (w.heap.size + 1) 63 4 (.slice s1 X.parts.length z1) X.parts.length (seens X.parts) from (owns_ext ((own_set (bo := bw) (o := 6) (own_set (bo := bw) (o := 5) (own_set (bo := bw) (o := 4) (own_set (bo := bw) (o := 3) (own_set (bo := bw) (o := 2) (own_set (bo := bw) (o := 1) (own_set (bo := bw) (o := 0) OX.out (by omega)) (by omega)) (by omega)) (by omega)) (by omega)) (by omega)) (by omega))) ((Ext.refl _).alloc _)))
  rw [hwT] at A9 E9 X9 T9
  rw [hwT]
  clear hwT A21 E21 X_21 OX
  obtain ⟨I9, hI9e⟩ : ∃ I9 : Bool → World → Prop, I9 = fun c w' => At w' [(w.heap.size, Obj.cells #[.int .u8 (k : Int), .int .u8 (n : Int), .int .u8 (v : Int)] 86), (bw, Obj.cells #[.int .i64 X.belt.step, .int .i64 X.belt.slip, .int .i64 X.belt.gate, .int .i64 X.belt.length, .int .i64 X.count, .int .i64 X.next, (.slice s1 X.parts.length z1), (.slice sx xs.length zx), (.slice am mv.length cm), .int .i64 (at_ : Int), .int .i64 ln] 84)] ∧ Ext w0 w' ∧ w'.ownsRow (w.heap.size + 1) 63 4 (.slice s1 X.parts.length z1) X.parts.length (seens X.parts) ∧ (c = false → w'.ownsRow (bw + 1) 131 5 (.slice sx xs.length zx) xs.length (thingsL xs)) := ⟨_, rfl⟩
  have hI9 : Hid (∀ c w' w'', I9 c w' → Ext w' w'' → I9 c w'') := Lib.hid (by
    subst hI9e
    rintro c w' w'' ⟨h1, h2, h3, h4⟩ hE
    exact ⟨h1.ext hE, h2.trans hE, owns_ext h3 hE, fun hc => owns_ext (h4 hc) hE⟩)
  have hAI : Hid (∀ {c w'}, I9 c w' → At w' [(w.heap.size, Obj.cells #[.int .u8 (k : Int), .int .u8 (n : Int), .int .u8 (v : Int)] 86), (bw, Obj.cells #[.int .i64 X.belt.step, .int .i64 X.belt.slip, .int .i64 X.belt.gate, .int .i64 X.belt.length, .int .i64 X.count, .int .i64 X.next, (.slice s1 X.parts.length z1), (.slice sx xs.length zx), (.slice am mv.length cm), .int .i64 (at_ : Int), .int .i64 ln] 84)]) := Lib.hid (by subst hI9e; exact fun h => h.1)
  have hOP : Hid (∀ {w'}, I9 false w' → At w' [(w.heap.size, Obj.cells #[.int .u8 (k : Int), .int .u8 (n : Int), .int .u8 (v : Int)] 86), (bw, Obj.cells #[.int .i64 X.belt.step, .int .i64 X.belt.slip, .int .i64 X.belt.gate, .int .i64 X.belt.length, .int .i64 X.count, .int .i64 X.next, (.slice s1 X.parts.length z1), (.slice sx xs.length zx), (.slice am mv.length cm), .int .i64 (at_ : Int), .int .i64 ln] 84)] ∧ Ext w0 w' ∧ w'.ownsRow (w.heap.size + 1) 63 4 (.slice s1 X.parts.length z1) X.parts.length (seens X.parts) ∧ w'.ownsRow (bw + 1) 131 5 (.slice sx xs.length zx) xs.length (thingsL xs)) := Lib.hid (by subst hI9e; exact fun h => ⟨h.1, h.2.1, h.2.2.1, h.2.2.2 rfl⟩)
  have hMK : Hid (∀ {w'}, At w' [(w.heap.size, Obj.cells #[.int .u8 (k : Int), .int .u8 (n : Int), .int .u8 (v : Int)] 86), (bw, Obj.cells #[.int .i64 X.belt.step, .int .i64 X.belt.slip, .int .i64 X.belt.gate, .int .i64 X.belt.length, .int .i64 X.count, .int .i64 X.next, (.slice s1 X.parts.length z1), (.slice sx xs.length zx), (.slice am mv.length cm), .int .i64 (at_ : Int), .int .i64 ln] 84)] → Ext w0 w' → w'.ownsRow (w.heap.size + 1) 63 4 (.slice s1 X.parts.length z1) X.parts.length (seens X.parts) → I9 true w') := Lib.hid (by subst hI9e; exact fun h1 h2 h3 => ⟨h1, h2, h3, fun h => (by cases h)⟩)
  have hI0 : Hid (I9 false wT.drew) := Lib.hid (by subst hI9e; exact ⟨At.drew A9.out, E9.out.drew, owns_ext T9.out (Ext.refl _).drew, fun _ => owns_ext X9.out (Ext.refl _).drew⟩)
  obtain ⟨gs, hgs⟩ : ∃ gs : List (Value → World → Prop), gs = [fun (v : Value) (_ : World) => v = .pointer (some ⟨bw, 0, none⟩), fun (v : Value) (_ : World) => v = .pointer (some ⟨bw, 0, none⟩), fun (v : Value) (_ : World) => v = .pointer (some ⟨bw, 0, none⟩), fun (v : Value) (_ : World) => v = .pointer (some ⟨bw, 7, none⟩), fun (v : Value) (_ : World) => v = (.slice sx xs.length zx), fun (v : Value) (_ : World) => v = .int .i64 t.next, fun (v : Value) (_ : World) => v = .pointer (some ⟨w.heap.size, 1, none⟩), fun (v : Value) (_ : World) => v = .int .u8 (n : Int), fun (v : Value) (_ : World) => v = .int .i64 (n : Int), fun (v : Value) (_ : World) => v = .pointer (some ⟨bw, 0, none⟩), fun (v : Value) (_ : World) => v = .pointer (some ⟨bw, 0, none⟩), fun (v : Value) (_ : World) => v = .pointer (some ⟨bw, 10, none⟩), fun (v : Value) (_ : World) => v = .int .i64 ln, fun (v : Value) (_ : World) => v = .int .i64 (ln + 1), fun (v : Value) (_ : World) => v = .int .i64 (q : Int), fun (v : Value) (_ : World) => v = .agg #[.int .i64 t.next, .int .i64 0, .int .i64 (q : Int), .int .u8 0, .bool false], fun (v : Value) (w : World) => SlAt w 5 v 1 [.int .i64 t.next, .int .i64 0, .int .i64 (q : Int), .int .u8 0, .bool false], (fun (v : Value) (w : World) => w.ownsRow (bw + 1) 131 5 v (xs.length + 1) (thingsL (xs ++ [⟨t.next, 0, (q : Int), 0, false⟩])) ∧ Apart2 (.slice s1 X.parts.length z1) v)] := ⟨_, rfl⟩
  have hst := RG.stab_of (Gs := gs) (by
    intro g hg v w1 w2 h hb
    rw [hgs] at hg
    simp only [List.mem_cons, List.not_mem_nil, or_false] at hg
    rcases hg with rfl | rfl | rfl | rfl | rfl | rfl | rfl | rfl | rfl | rfl | rfl | rfl | rfl | rfl | rfl | rfl | rfl | rfl
    · exact h
    · exact h
    · exact h
    · exact h
    · exact h
    · exact h
    · exact h
    · exact h
    · exact h
    · exact h
    · exact h
    · exact h
    · exact h
    · exact h
    · exact h
    · exact h
    · exact SlAt.ext h hb
    · exact ⟨owns_ext h.1 hb, h.2⟩)
  subst hgs
  refine RG.wp_rgs (I := I9) (s := 17) ([fun (v : Value) (_ : World) => v = .pointer (some ⟨bw, 0, none⟩), fun (v : Value) (_ : World) => v = .pointer (some ⟨bw, 0, none⟩), fun (v : Value) (_ : World) => v = .pointer (some ⟨bw, 0, none⟩), fun (v : Value) (_ : World) => v = .pointer (some ⟨bw, 7, none⟩), fun (v : Value) (_ : World) => v = (.slice sx xs.length zx), fun (v : Value) (_ : World) => v = .int .i64 t.next, fun (v : Value) (_ : World) => v = .pointer (some ⟨w.heap.size, 1, none⟩), fun (v : Value) (_ : World) => v = .int .u8 (n : Int), fun (v : Value) (_ : World) => v = .int .i64 (n : Int), fun (v : Value) (_ : World) => v = .pointer (some ⟨bw, 0, none⟩), fun (v : Value) (_ : World) => v = .pointer (some ⟨bw, 0, none⟩), fun (v : Value) (_ : World) => v = .pointer (some ⟨bw, 10, none⟩), fun (v : Value) (_ : World) => v = .int .i64 ln, fun (v : Value) (_ : World) => v = .int .i64 (ln + 1), fun (v : Value) (_ : World) => v = .int .i64 (q : Int), fun (v : Value) (_ : World) => v = .agg #[.int .i64 t.next, .int .i64 0, .int .i64 (q : Int), .int .u8 0, .bool false], fun (v : Value) (w : World) => SlAt w 5 v 1 [.int .i64 t.next, .int .i64 0, .int .i64 (q : Int), .int .u8 0, .bool false], (fun (v : Value) (w : World) => w.ownsRow (bw + 1) 131 5 v (xs.length + 1) (thingsL (xs ++ [⟨t.next, 0, (q : Int), 0, false⟩])) ∧ Apart2 (.slice s1 X.parts.length z1) v)]) (fun i => if i = 17 then [16] else []) (by kernel_rfl) (by kernel_rfl) (by kernel_rfl) (by simp) (hI0.out) ?_ ?_
  · simp only [List.length_cons, List.length_nil, List.take_succ_cons, List.take_zero, RG.StepsS, and_true, Nat.reduceAdd]
    refine ⟨?_, ?_, ?_, ?_, ?_, ?_, ?_, ?_, ?_, ?_, ?_, ?_, ?_, ?_, ?_, ?_, ?_, ?_⟩
    · exact RG.sS_move rfl rfl hI9.out rfl (by kernel_rfl) (fun _ => rfl) hst
    · exact RG.sS_move rfl rfl hI9.out rfl (by kernel_rfl) (fun _ => rfl) hst
    · refine RG.sS_run rfl rfl hI9.out (fun a wx bx hw hr => ⟨_, wx, ?_, Ext.refl _, rfl⟩) hst
      have p0 := RG.read_in (t := 101) (j := 1) hr (by kernel_rfl) (by kernel_rfl)
      have r0 : a.tmps[101]?.getD undef = .pointer (some ⟨bw, 0, none⟩) := (Array.getD_eq_getD_getElem? ..).symm.trans p0
      clear hr hst p0
      simp [execOp, go_sem, r0]
    · refine RG.sS_run rfl rfl hI9.out (fun a wx bx hw hr => ⟨_, wx, ?_, Ext.refl _, rfl⟩) hst
      have p0 := RG.read_in (t := 102) (j := 2) hr (by kernel_rfl) (by kernel_rfl)
      have r0 : a.tmps[102]?.getD undef = .pointer (some ⟨bw, 0, none⟩) := (Array.getD_eq_getD_getElem? ..).symm.trans p0
      clear hr hst p0
      simp [execOp, go_sem, r0, Try.underlying84]
    · refine RG.sS_run rfl rfl hI9.out (fun a wx bx hw hr => ⟨_, wx, ?_, Ext.refl _, rfl⟩) hst
      have p0 := RG.read_in (t := 103) (j := 3) hr (by kernel_rfl) (by kernel_rfl)
      have r0 : a.tmps[103]?.getD undef = .pointer (some ⟨bw, 7, none⟩) := (Array.getD_eq_getD_getElem? ..).symm.trans p0
      obtain ⟨⟨⟨d0, d1, d2⟩, -⟩, ⟨⟨c0, c1, c2, c3, c4, c5, c6, c7, c8, c9, c10⟩, -⟩⟩ := And.intro (run_3 (At.at (hAI.out hw) 0 rfl)) (run_11 (At.at (hAI.out hw) 1 rfl))
      have q0 := c7
      clear hr hst p0
      simp [execOp, go_sem, r0, q0]
    · exact RG.sS_move rfl rfl hI9.out rfl (by kernel_rfl) (fun _ => rfl) hst
    · refine RG.sS_run rfl rfl hI9.out (fun a wx bx hw hr => ⟨_, wx, ?_, Ext.refl _, rfl⟩) hst
      have p0 := RG.read_out (t := 3) hr (by kernel_rfl) (by kernel_rfl)
      have r0 : a.tmps[3]?.getD undef = .pointer (some ⟨w.heap.size, 0, none⟩) := (Array.getD_eq_getD_getElem? ..).symm.trans p0
      clear hr hst p0
      simp [execOp, go_sem, r0, Try.underlying86]
    · refine RG.sS_run rfl rfl hI9.out (fun a wx bx hw hr => ⟨_, wx, ?_, Ext.refl _, rfl⟩) hst
      have p0 := RG.read_in (t := 106) (j := 6) hr (by kernel_rfl) (by kernel_rfl)
      have r0 : a.tmps[106]?.getD undef = .pointer (some ⟨w.heap.size, 1, none⟩) := (Array.getD_eq_getD_getElem? ..).symm.trans p0
      obtain ⟨⟨⟨d0, d1, d2⟩, -⟩, ⟨⟨c0, c1, c2, c3, c4, c5, c6, c7, c8, c9, c10⟩, -⟩⟩ := And.intro (run_3 (At.at (hAI.out hw) 0 rfl)) (run_11 (At.at (hAI.out hw) 1 rfl))
      have q0 := d1
      clear hr hst p0
      simp [execOp, go_sem, r0, q0]
    · refine RG.sS_run rfl rfl hI9.out (fun a wx bx hw hr => ⟨_, wx, ?_, Ext.refl _, rfl⟩) hst
      have p0 := RG.read_in (t := 107) (j := 7) hr (by kernel_rfl) (by kernel_rfl)
      have r0 : a.tmps[107]?.getD undef = .int .u8 (n : Int) := (Array.getD_eq_getD_getElem? ..).symm.trans p0
      obtain ⟨⟨⟨d0, d1, d2⟩, -⟩, ⟨⟨c0, c1, c2, c3, c4, c5, c6, c7, c8, c9, c10⟩, -⟩⟩ := And.intro (run_3 (At.at (hAI.out hw) 0 rfl)) (run_11 (At.at (hAI.out hw) 1 rfl))
      have q0 := hnw
      clear hr hst p0
      simp [execOp, go_sem, r0, q0, Try.underlying3, Try.underlying5]
    · exact RG.sS_move rfl rfl hI9.out rfl (by kernel_rfl) (fun _ => rfl) hst
    · refine RG.sS_run rfl rfl hI9.out (fun a wx bx hw hr => ⟨_, wx, ?_, Ext.refl _, rfl⟩) hst
      have p0 := RG.read_in (t := 109) (j := 9) hr (by kernel_rfl) (by kernel_rfl)
      have r0 : a.tmps[109]?.getD undef = .pointer (some ⟨bw, 0, none⟩) := (Array.getD_eq_getD_getElem? ..).symm.trans p0
      clear hr hst p0
      simp [execOp, go_sem, r0]
    · refine RG.sS_run rfl rfl hI9.out (fun a wx bx hw hr => ⟨_, wx, ?_, Ext.refl _, rfl⟩) hst
      have p0 := RG.read_in (t := 110) (j := 10) hr (by kernel_rfl) (by kernel_rfl)
      have r0 : a.tmps[110]?.getD undef = .pointer (some ⟨bw, 0, none⟩) := (Array.getD_eq_getD_getElem? ..).symm.trans p0
      clear hr hst p0
      simp [execOp, go_sem, r0, Try.underlying84]
    · refine RG.sS_run rfl rfl hI9.out (fun a wx bx hw hr => ⟨_, wx, ?_, Ext.refl _, rfl⟩) hst
      have p0 := RG.read_in (t := 111) (j := 11) hr (by kernel_rfl) (by kernel_rfl)
      have r0 : a.tmps[111]?.getD undef = .pointer (some ⟨bw, 10, none⟩) := (Array.getD_eq_getD_getElem? ..).symm.trans p0
      obtain ⟨⟨⟨d0, d1, d2⟩, -⟩, ⟨⟨c0, c1, c2, c3, c4, c5, c6, c7, c8, c9, c10⟩, -⟩⟩ := And.intro (run_3 (At.at (hAI.out hw) 0 rfl)) (run_11 (At.at (hAI.out hw) 1 rfl))
      have q0 := c10
      clear hr hst p0
      simp [execOp, go_sem, r0, q0]
    · refine RG.sS_run rfl rfl hI9.out (fun a wx bx hw hr => ⟨_, wx, ?_, Ext.refl _, rfl⟩) hst
      have p0 := RG.read_in (t := 112) (j := 12) hr (by kernel_rfl) (by kernel_rfl)
      have r0 : a.tmps[112]?.getD undef = .int .i64 ln := (Array.getD_eq_getD_getElem? ..).symm.trans p0
      obtain ⟨⟨⟨d0, d1, d2⟩, -⟩, ⟨⟨c0, c1, c2, c3, c4, c5, c6, c7, c8, c9, c10⟩, -⟩⟩ := And.intro (run_3 (At.at (hAI.out hw) 0 rfl)) (run_11 (At.at (hAI.out hw) 1 rfl))
      have q0 := hwl
      clear hr hst p0
      simp [execOp, go_sem, r0, q0]
    · refine RG.sS_run rfl rfl hI9.out (fun a wx bx hw hr => ⟨_, wx, ?_, Ext.refl _, rfl⟩) hst
      have p0 := RG.read_in (t := 108) (j := 8) hr (by kernel_rfl) (by kernel_rfl)
      have r0 : a.tmps[108]?.getD undef = .int .i64 (n : Int) := (Array.getD_eq_getD_getElem? ..).symm.trans p0
      have p1 := RG.read_in (t := 113) (j := 13) hr (by kernel_rfl) (by kernel_rfl)
      have r1 : a.tmps[113]?.getD undef = .int .i64 (ln + 1) := (Array.getD_eq_getD_getElem? ..).symm.trans p1
      obtain ⟨⟨⟨d0, d1, d2⟩, -⟩, ⟨⟨c0, c1, c2, c3, c4, c5, c6, c7, c8, c9, c10⟩, -⟩⟩ := And.intro (run_3 (At.at (hAI.out hw) 0 rfl)) (run_11 (At.at (hAI.out hw) 1 rfl))
      have q0 := hq1
      have q1 := hq0
      clear hr hst p0 p1
      simp [execOp, go_sem, r0, r1, q0, q1]
    · refine RG.sS_run rfl rfl hI9.out (fun a wx bx hw hr => ⟨_, wx, ?_, Ext.refl _, rfl⟩) hst
      have p0 := RG.read_in (t := 105) (j := 5) hr (by kernel_rfl) (by kernel_rfl)
      have r0 : a.tmps[105]?.getD undef = .int .i64 t.next := (Array.getD_eq_getD_getElem? ..).symm.trans p0
      have p1 := RG.read_in (t := 114) (j := 14) hr (by kernel_rfl) (by kernel_rfl)
      have r1 : a.tmps[114]?.getD undef = .int .i64 (q : Int) := (Array.getD_eq_getD_getElem? ..).symm.trans p1
      clear hr hst p0 p1
      simp [execOp, go_sem, r0, r1, Try.underlying131]
    · refine RG.sS_run rfl rfl hI9.out (fun a wx bx hw hr => ⟨.slice (some ⟨wx.heap.size, 0, none⟩) 1 1, wx.alloc (.cells #[.int .i64 t.next, .int .i64 0, .int .i64 (q : Int), .int .u8 0, .bool false] 131), ?_, (Ext.refl _).alloc _, SlAt.of_owns (owns_lit wx [.int .i64 t.next, .int .i64 0, .int .i64 (q : Int), .int .u8 0, .bool false] 131 1 5 0 (Nat.zero_le _) (by unfold maxLen; omega) rfl)⟩) hst
      have p0 := RG.read_in (t := 115) (j := 15) hr (by kernel_rfl) (by kernel_rfl)
      have r0 : a.tmps[115]?.getD undef = .agg #[.int .i64 t.next, .int .i64 0, .int .i64 (q : Int), .int .u8 0, .bool false] := (Array.getD_eq_getD_getElem? ..).symm.trans p0
      clear hr hst p0
      simp [execOp, go_sem, r0]
    · refine RG.sS_turn rfl (fun a wx Q hw hr => ?_)
      have p0 := RG.read_in (t := 104) (j := 4) hr (by kernel_rfl) (by kernel_rfl)
      have p1 := RG.read_in (t := 116) (j := 16) hr (by kernel_rfl) (by kernel_rfl)
      obtain ⟨hA9, hE9, hO9, hX9⟩ := hOP.out hw
      refine wp_append_at (.tmp 104) (.tmp 116) 82 rfl (bw + 1) 131 i2 (.agg #[.int .i64 0, .int .i64 0, .int .i64 0, .int .u8 0, .bool false]) 5 32 Try.underlying82 hk1 hk2 hk3 hk4 rfl (by omega) (.slice sx xs.length zx) xs.length (thingsL xs) p0 hX9 _ 1 (thingsL [⟨t.next, 0, (q : Int), 0, false⟩]) rfl p1 (things_one _) (by unfold maxLen; omega) (by omega) (At.lt hA9 1 rfl) ?_
      intro v' w' ho hg hat
      rw [← thingsL_append] at ho
      have hne : ∀ g, Value.ownBlock (.slice s1 X.parts.length z1) = some g → Value.ownBlock (.slice sx xs.length zx) ≠ some g := fun g h1 h2 => by have h3 := (owns_block hO9 g h1).1; have h4 := (owns_block hx.out g h2).2; omega
      refine ⟨v', rfl, hMK.out (At.grown hg hA9 ?_) (hE9.grown hg ?_) (owns_at hO9 (fun g hx9 => hg.block g (owns_block hO9 g hx9).2 (fun e => hne g hx9 e.symm))), ?_, ho, ?_⟩
      · intro k9 hk9 e9
        simp only [List.map_cons, List.map_nil, List.mem_cons, List.not_mem_nil, or_false] at hk9
        have h1 := owns_block hx.out _ e9
        omega
      · intro g e9
        have h1 := (owns_block hx.out _ e9).1
        omega
      · intro j v9 hj hji hjd hG
        match j with
        | 0 => have hG' : v9 = .pointer (some ⟨bw, 0, none⟩) := hG; exact hG'
        | 1 => have hG' : v9 = .pointer (some ⟨bw, 0, none⟩) := hG; exact hG'
        | 2 => have hG' : v9 = .pointer (some ⟨bw, 0, none⟩) := hG; exact hG'
        | 3 => have hG' : v9 = .pointer (some ⟨bw, 7, none⟩) := hG; exact hG'
        | 4 => have hG' : v9 = (.slice sx xs.length zx) := hG; exact hG'
        | 5 => have hG' : v9 = .int .i64 t.next := hG; exact hG'
        | 6 => have hG' : v9 = .pointer (some ⟨w.heap.size, 1, none⟩) := hG; exact hG'
        | 7 => have hG' : v9 = .int .u8 (n : Int) := hG; exact hG'
        | 8 => have hG' : v9 = .int .i64 (n : Int) := hG; exact hG'
        | 9 => have hG' : v9 = .pointer (some ⟨bw, 0, none⟩) := hG; exact hG'
        | 10 => have hG' : v9 = .pointer (some ⟨bw, 0, none⟩) := hG; exact hG'
        | 11 => have hG' : v9 = .pointer (some ⟨bw, 10, none⟩) := hG; exact hG'
        | 12 => have hG' : v9 = .int .i64 ln := hG; exact hG'
        | 13 => have hG' : v9 = .int .i64 (ln + 1) := hG; exact hG'
        | 14 => have hG' : v9 = .int .i64 (q : Int) := hG; exact hG'
        | 15 => have hG' : v9 = .agg #[.int .i64 t.next, .int .i64 0, .int .i64 (q : Int), .int .u8 0, .bool false] := hG; exact hG'
        | 16 => exact absurd (by simp) hj
        | 17 => exact absurd rfl hji
        | j + 18 => exact (show True from trivial)
      · intro g h1 h2
        rcases hat with h3 | h3
        · rw [h3] at h2; exact hne g h1 h2
        · rw [h3] at h2; have h4 := (owns_block hO9 g h1).2; injection h2 with h2; omega
  · intro wt hIt
    simp only [List.length_cons, List.length_nil, List.take_succ_cons, List.take_zero, RG.Fin, RG.goneBy, Nat.reduceAdd, List.drop_succ_cons, List.drop_zero]
    intro v0 h0 v1 h1 v2 h2 v3 h3 v4 h4 v5 h5 v6 h6 v7 h7 v8 h8 v9 h9 v10 h10 v11 h11 v12 h12 v13 h13 v14 h14 v15 h15 v16 h16 v17 h17
    obtain rfl := h0 (by decide)
    obtain rfl := h1 (by decide)
    obtain rfl := h2 (by decide)
    obtain rfl := h3 (by decide)
    obtain rfl := h4 (by decide)
    obtain rfl := h5 (by decide)
    obtain rfl := h6 (by decide)
    obtain rfl := h7 (by decide)
    obtain rfl := h8 (by decide)
    obtain rfl := h9 (by decide)
    obtain rfl := h10 (by decide)
    obtain rfl := h11 (by decide)
    obtain rfl := h12 (by decide)
    obtain rfl := h13 (by decide)
    obtain rfl := h14 (by decide)
    obtain rfl := h15 (by decide)
    obtain ⟨ho, hp⟩ := h17 (by decide)
    clear hst h0 h1 h2 h3 h4 h5 h6 h7 h8 h9 h10 h11 h12 h13 h14 h15 h16 h17
    simp only [Act.put, List.setIfInBounds_toArray, List.set_cons_zero, List.set_cons_succ]
    subst hI9e
    obtain ⟨hAt, hEt, hTt, -⟩ := hIt
    obtain ⟨⟨d0, d1, d2, d3, d4, d5, d6, d7, d8, d9, d10⟩, df0, df1, df2, df3, df4, df5, df6, df7, df8, df9, df10⟩ := run_11 (At.at hAt 1 rfl)
    have dz := At.lt hAt 1 rfl
    obtain ⟨-, sn, zn, hvn, -⟩ := SlAt.of_owns ho
    subst hvn
    go_wp2
    go_ret
    have hE := ((st_one (At.at hAt 1 rfl) 7 ((.slice sn (xs.length + 1) zn))).2.2 w0 (by omega) hEt)
    refine ⟨rfl, X, xs ++ [⟨t.next, 0, (q : Int), 0, false⟩], at_, ⟨(.slice s1 X.parts.length z1), (.slice sn (xs.length + 1) zn), HFX.out q HQB.out, At.at (show At (World.setCell wt ⟨bw, 7, none⟩ ((.slice sn (xs.length + 1) zn))) [(bw, Obj.cells #[.int .i64 X.belt.step, .int .i64 X.belt.slip, .int .i64 X.belt.gate, .int .i64 X.belt.length, .int .i64 X.count, .int .i64 X.next, (.slice s1 X.parts.length z1), (.slice sn (xs.length + 1) zn), (.slice am mv.length cm), .int .i64 (at_ : Int), .int .i64 ln] 84), (w.heap.size, Obj.cells #[.int .u8 (k : Int), .int .u8 (n : Int), .int .u8 (v : Int)] 86)] from ⟨(st_one (At.at hAt 1 rfl) 7 ((.slice sn (xs.length + 1) zn))).1, (At.other (st_one (At.at hAt 1 rfl) 7 ((.slice sn (xs.length + 1) zn))).2.1 (by first | (simp; done) | (simp; omega)) (At.erase hAt 1))⟩) 0 rfl, own_set (owns_base hTt (by omega)) (by omega), ?_, hp, hE⟩, by rw [HXc.out]; omega, by omega⟩
    rw [List.length_append, List.length_singleton]
    exact own_set ho (by omega)
end Go.Proofs.Ytcbimfaneinpkaa

namespace Go.Proofs.Ytcbimfaneinpkaa
open Go.RowKit Go.Sort

theorem things_set (l : List Thing) (i : Nat) (v : Int) (hi : i < l.length) : thingsL (l.set i (tellT (l.getD i thing0) v)) = (thingsL l).set (i * 5 + 3) (.int .u8 v) := by
  refine List.ext_getElem? fun j => ?_
  rw [List.getElem?_set]
  obtain ⟨q, f, hf, rfl⟩ : ∃ q f, f < 5 ∧ j = q * 5 + f := ⟨j / 5, j % 5, by omega, by omega⟩
  rcases Nat.lt_or_ge q l.length with hq | hq
  · rw [things_get _ q f (by simpa using hq) hf, things_get l q f hq hf, setT_get hi]
    by_cases hqi : q = i
    · subst hqi
      rw [if_pos rfl]
      by_cases h2 : f = 3
      · subst h2
        rw [if_pos rfl, if_pos (by rw [thingsL_length]; omega)]
        rfl
      · rw [if_neg (by omega)]
        match f, hf, h2 with
        | 0, _, _ => rfl
        | 1, _, _ => rfl
        | 2, _, _ => rfl
        | 4, _, _ => rfl
    · rw [if_neg hqi, if_neg (by omega)]
  · rw [List.getElem?_eq_none (by rw [thingsL_length]; simp; omega), List.getElem?_eq_none (by rw [thingsL_length]; omega), if_neg (by omega)]
set_option maxRecDepth 100000 in
set_option maxHeartbeats 8000000 in
theorem act2 (w0 : World) (b : Belt) (vm : Value) (mv : List Nat) (ln : Int) (bw : Nat) (t : Track) (xs : List Thing) (at_ : Nat) (w : World) (hC : CatchAt w0 b vm ln bw t xs at_ w) (hm : BytesAt w0 vm mv) (hml : mv.length ≤ maxLen) (hms : ∀ x ∈ mv, x < 256)
    (hs : w0.heap.size ≤ bw) (hcn : t.count + 20 ≤ 100000) (han : at_ + 20 ≤ 100000) (hln : ln = b.length) (k n v : Nat) (hk : k % 3 = 2) (hn : n < 256) (hv : v < 256) :
    Calls Try.prog 46 #[.pointer (some ⟨bw, 0, none⟩), .agg #[.int .u8 (k : Int), .int .u8 (n : Int), .int .u8 (v : Int)]] w (Acted w0 b vm ln bw t at_) := by
  have hC9 := Lib.hid hC
  obtain ⟨vt, vx, hF, hw0, ht0, hx0, hap, h0⟩ := hC
  obtain ⟨-, st, zt, rfl, -⟩ := SlAt.of_owns ht0
  obtain ⟨-, sx, zx, rfl, -⟩ := SlAt.of_owns hx0
  have hw := Lib.hid hw0
  have ht := Lib.hid ht0
  have hx := Lib.hid hx0
  have hap := Lib.hid hap
  have hok := hF.1
  have hxl := hF.2.2.1
  have HF := Lib.hid hF
  obtain ⟨s1, s2, s3, s4, s5⟩ := hok.2.1
  have hl50 : t.parts.length ≤ 50 := by omega
  have hxl32 : xs.length ≤ 32 := by omega
  have HXL := Lib.hid hxl
  obtain ⟨am, cm, rfl, -, hcm⟩ := hm.form
  have HM := Lib.hid hcm
  have hmx : mv.length ≤ 9223372036854775807 := hml
  obtain ⟨⟨j0, j1, j2, j3, j4, j5, j6, j7, j8, j9, j10⟩, jf0, jf1, jf2, jf3, jf4, jf5, jf6, jf7, jf8, jf9, jf10⟩ := run_11 hw.out
  have jz := (Array.getElem?_eq_some_iff.1 hw.out).1
  have h3 : (k : Int).tmod 3 = 2 := by rw [show (3 : Int) = ((3 : Nat) : Int) from rfl, tmod_nat, hk]; rfl
  have hn2 : (n : Int) < 256 := by omega
  clear hC9 hm hml hms hcm hk
  have hC9 := Lib.hid (show CatchAt w0 b (.slice am mv.length cm) ln bw t xs at_ w from ⟨_, _, hF, hw0, ht0, hx0, hap.out, h0⟩)
  clear hw0 ht0 hln
  by_cases g0 : xs.length = 0
  · have g1 : ((xs.length : Int) == 0) = true := by simp [g0]
    clear g0 hF hok hxl hx0
    go_enter Try.func46, Try.ntmps46
    go_wp2_with fail
    go_ret
    exact Acted.same hC9.out ((Ext.refl _).alloc _)
  · have g1 : ((xs.length : Int) == 0) = false := by rw [beq_eq_false_iff_ne]; omega
    obtain ⟨bx, zx', hvx, hbx, hzx⟩ := owns_some hx0 (by omega)
    injection hvx with e1 _ e3
    subst e1
    subst e3
    clear hx0
    obtain ⟨i, hi⟩ : ∃ i, n % xs.length = i := ⟨_, rfl⟩
    have hil : i < xs.length := by rw [← hi]; exact Nat.mod_lt _ (by omega)
    have hti : (n : Int).tmod (xs.length : Int) = (i : Int) := by rw [tmod_nat, hi]
    have hiI : (i : Int) < (xs.length : Int) := by omega
    have hnx : (xs.length : Int) ≠ 0 := by omega
    obtain ⟨m, hm⟩ : ∃ m, v % 3 = m := ⟨_, rfl⟩
    have htm : (v : Int).tmod 3 = (m : Int) := by rw [show (3 : Int) = ((3 : Nat) : Int) from rfl, tmod_nat, hm]
    have hm3 : m < 3 := by omega
    have hwm : IntKind.u8.wrap ((m : Int) + 1) = (m : Int) + 1 := by simp [IntKind.wrap, IntKind.bits, IntKind.signed]; omega
    have x0 := (hx.out.cellAt (i * 5 + 0) (by omega)).trans (things_get xs i 0 hil (by omega))
    have hbz := (owns_block hx.out bx rfl).2
    have hfit := hF.2.2.2 i hil
    have hpl : place t.parts (xs.getD i thing0).id = i := by
      rw [hfit.1]
      exact place_of (parts_iff.1 hok.2.2).2 (by omega)
    have hFT := follows_tell hF hil (v := (m : Int) + 1) (by omega)
    have HST := Lib.hid (things_set xs i ((m : Int) + 1) hil)
    obtain ⟨x, hx9⟩ : ∃ x, xs.getD i thing0 = x := ⟨_, rfl⟩
    rw [hx9] at x0 hpl hFT HST
    obtain ⟨U, c, hUc, hcc⟩ : ∃ U c, tellR t x.id ((m : Int) + 1) = (U, c) ∧ ((c = 0 ∧ U = told t i ((m : Int) + 1)) ∨ c = 91) := by
      unfold tellR
      rw [if_pos hok, if_pos (by omega), if_pos (by rw [hpl]; omega), hpl]
      split
      · exact ⟨_, _, rfl, .inr rfl⟩
      · exact ⟨_, _, rfl, .inl ⟨rfl, rfl⟩⟩
    have K33 := Lib.hid (fun (w' : World) (v' : Value) (hv' : SeensAt w' v' t.parts) => (tell_at hv' hl50 hUc : Calls Try.prog 33 #[trackVal t v', .int .i64 x.id, .int .u8 ((m : Int) + 1)] w' (OwnTell (U, c) w')))
    have HFT := Lib.hid hFT
    have HCC := Lib.hid hcc
    simp only [thingCells, Nat.add_zero, Nat.zero_add, List.getElem?_cons_zero] at x0
    clear hi hm hx9 hpl hFT hUc hcc hfit hF hok hxl g0
    go_enter Try.func46, Try.ntmps46
    go_wp2_with fail
    go_quiet (fail)
    have hb21 : Ext (World.alloc w (Obj.cells #[.int .u8 (k : Int), .int .u8 (n : Int), .int .u8 (v : Int)] 86)) ((World.alloc w (Obj.cells #[.int .u8 (k : Int), .int .u8 (n : Int), .int .u8 (v : Int)] 86)).drewN nq) := (Ext.refl _).drewN nq
    generalize hw21 : (World.alloc w (Obj.cells #[.int .u8 (k : Int), .int .u8 (n : Int), .int .u8 (v : Int)] 86)).drewN nq = w21 at hb21 ⊢
    clear hw21
    have A21 := Lib.hid (show At w21 [(w.heap.size, Obj.cells #[.int .u8 (k : Int), .int .u8 (n : Int), .int .u8 (v : Int)] 86), (bw, Obj.cells #[.int .i64 t.belt.step, .int .i64 t.belt.slip, .int .i64 t.belt.gate, .int .i64 t.belt.length, .int .i64 t.count, .int .i64 t.next, (.slice st t.parts.length zt), (.slice (some ⟨bx, 0, none⟩) xs.length zx), (.slice am mv.length cm), .int .i64 (at_ : Int), .int .i64 ln] 84)] from At.ext hb21 (show At (World.alloc w (Obj.cells #[.int .u8 (k : Int), .int .u8 (n : Int), .int .u8 (v : Int)] 86)) [(w.heap.size, Obj.cells #[.int .u8 (k : Int), .int .u8 (n : Int), .int .u8 (v : Int)] 86), (bw, Obj.cells #[.int .i64 t.belt.step, .int .i64 t.belt.slip, .int .i64 t.belt.gate, .int .i64 t.belt.length, .int .i64 t.count, .int .i64 t.next, (.slice st t.parts.length zt), (.slice (some ⟨bx, 0, none⟩) xs.length zx), (.slice am mv.length cm), .int .i64 (at_ : Int), .int .i64 ln] 84)] from ⟨one_first _ _, At.alloc (show At w [(bw, Obj.cells #[.int .i64 t.belt.step, .int .i64 t.belt.slip, .int .i64 t.belt.gate, .int .i64 t.belt.length, .int .i64 t.count, .int .i64 t.next, (.slice st t.parts.length zt), (.slice (some ⟨bx, 0, none⟩) xs.length zx), (.slice am mv.length cm), .int .i64 (at_ : Int), .int .i64 ln] 84)] from ⟨hw.out, trivial⟩) _⟩))
    have E21 := Lib.hid ((((h0).alloc _)).trans hb21)
    obtain ⟨⟨c21_0_0, c21_0_1, c21_0_2⟩, f21_0_0, f21_0_1, f21_0_2⟩ := run_3 (At.at A21.out 0 rfl)
    have s21_0 : w.heap.size < w21.heap.size := At.lt A21.out 0 rfl
    obtain ⟨⟨c21_1_0, c21_1_1, c21_1_2, c21_1_3, c21_1_4, c21_1_5, c21_1_6, c21_1_7, c21_1_8, c21_1_9, c21_1_10⟩, f21_1_0, f21_1_1, f21_1_2, f21_1_3, f21_1_4, f21_1_5, f21_1_6, f21_1_7, f21_1_8, f21_1_9, f21_1_10⟩ := run_11 (At.at A21.out 1 rfl)
    have s21_1 : bw < w21.heap.size := At.lt A21.out 1 rfl
    have X_21 := Lib.hid (owns_ext ((owns_ext (hx.out) ((Ext.refl _).alloc _))) hb21)
    have T_21 := Lib.hid (owns_ext ((owns_ext (ht.out) ((Ext.refl _).alloc _))) hb21)
    have HB := Lib.hid hb21
    clear hb21
    go_wp2_with fail
    go_upto_region 6 with fail
    obtain ⟨wT, hwT⟩ : ∃ wT, w21 = wT := ⟨_, rfl⟩
    have A9 := Lib.hid (show At w21 [(bw, Obj.cells #[.int .i64 t.belt.step, .int .i64 t.belt.slip, .int .i64 t.belt.gate, .int .i64 t.belt.length, .int .i64 t.count, .int .i64 t.next, (.slice st t.parts.length zt), (.slice (some ⟨bx, 0, none⟩) xs.length zx), (.slice am mv.length cm), .int .i64 (at_ : Int), .int .i64 ln] 84)] from ⟨At.at A21.out 1 rfl, trivial⟩)
    have E9 := Lib.hid (show Ext w0 w21 from E21.out)
    have HE9 := Lib.hid (show Ext w w21 from ((Ext.refl _).alloc _).trans HB.out)
    have T9 := Lib.hid (show SeensAt w21 (.slice st t.parts.length zt) t.parts from seens_own T_21.out rfl)
    have x0 := HE9.out.get x0
    rw [hwT] at A9 E9 T9 HE9 x0
    rw [hwT]
    clear hwT
    obtain ⟨gs, hgs⟩ : ∃ gs : List (Value → World → Prop), gs = [fun (v : Value) (_ : World) => v = .pointer (some ⟨bw, 0, none⟩), fun (v : Value) (_ : World) => v = .pointer (some ⟨bw, 0, none⟩), fun (v : Value) (_ : World) => v = .pointer (some ⟨bw, 0, none⟩), fun (v : Value) (_ : World) => v = (trackVal t (.slice st t.parts.length zt)), fun (v : Value) (_ : World) => v = .pointer (some ⟨bx, i * 5, none⟩), fun (v : Value) (_ : World) => v = .pointer (some ⟨bx, i * 5, none⟩), fun (v : Value) (_ : World) => v = .pointer (some ⟨bx, i * 5, none⟩), fun (v : Value) (_ : World) => v = .int .i64 x.id, fun (v : Value) (_ : World) => v = .int .u8 ((m : Int) + 1), (fun (v : Value) (w : World) => ∃ v', v = .tuple #[trackVal U v', .int .i64 c] ∧ w.ownsRow (wT.heap.size) 63 4 v' U.parts.length (seens U.parts)), (fun (v : Value) (w : World) => ∃ v', v = .tuple #[trackVal U v', .int .i64 c] ∧ w.ownsRow (wT.heap.size) 63 4 v' U.parts.length (seens U.parts)), (fun (v : Value) (w : World) => ∃ v', v = trackVal U v' ∧ w.ownsRow (wT.heap.size) 63 4 v' U.parts.length (seens U.parts)), fun (v : Value) (_ : World) => v = .int .i64 c, (fun (v : Value) (w : World) => ∃ b, v = .pointer (some ⟨b, 0, none⟩) ∧ wT.heap.size ≤ b ∧ w.heap[b]? = some (Obj.cells #[.int .i64 0, .int .i64 0, .int .i64 0, .int .i64 0, .int .i64 0, .int .i64 0, .slice none 0 0] 47)), (fun (v : Value) (w : World) => ∃ b s' z', v = .pointer (some ⟨b, 0, none⟩) ∧ wT.heap.size ≤ b ∧ w.heap[b]? = some (Obj.cells #[.int .i64 U.belt.step, .int .i64 U.belt.slip, .int .i64 U.belt.gate, .int .i64 U.belt.length, .int .i64 U.count, .int .i64 U.next, (.slice s' U.parts.length z')] 47) ∧ w.ownsRow (wT.heap.size) 63 4 (.slice s' U.parts.length z') U.parts.length (seens U.parts))] := ⟨_, rfl⟩
    have hst := RG.stab_of (Gs := gs) (by
      intro g hg v w1 w2 h hb
      rw [hgs] at hg
      simp only [List.mem_cons, List.not_mem_nil, or_false] at hg
      rcases hg with rfl | rfl | rfl | rfl | rfl | rfl | rfl | rfl | rfl | rfl | rfl | rfl | rfl | rfl | rfl
      · exact h
      · exact h
      · exact h
      · exact h
      · exact h
      · exact h
      · exact h
      · exact h
      · exact h
      · obtain ⟨v', h1, h2⟩ := h; exact ⟨v', h1, owns_ext h2 hb⟩
      · obtain ⟨v', h1, h2⟩ := h; exact ⟨v', h1, owns_ext h2 hb⟩
      · obtain ⟨v', h1, h2⟩ := h; exact ⟨v', h1, owns_ext h2 hb⟩
      · exact h
      · obtain ⟨b', h1, h2, h3⟩ := h; exact ⟨b', h1, h2, hb.blk h3⟩
      · obtain ⟨b', s', z', h1, h2, h3, h4⟩ := h; exact ⟨b', s', z', h1, h2, hb.blk h3, owns_ext h4 hb⟩)
    subst hgs
    refine RG.wp_rgn ([fun (v : Value) (_ : World) => v = .pointer (some ⟨bw, 0, none⟩), fun (v : Value) (_ : World) => v = .pointer (some ⟨bw, 0, none⟩), fun (v : Value) (_ : World) => v = .pointer (some ⟨bw, 0, none⟩), fun (v : Value) (_ : World) => v = (trackVal t (.slice st t.parts.length zt)), fun (v : Value) (_ : World) => v = .pointer (some ⟨bx, i * 5, none⟩), fun (v : Value) (_ : World) => v = .pointer (some ⟨bx, i * 5, none⟩), fun (v : Value) (_ : World) => v = .pointer (some ⟨bx, i * 5, none⟩), fun (v : Value) (_ : World) => v = .int .i64 x.id, fun (v : Value) (_ : World) => v = .int .u8 ((m : Int) + 1), (fun (v : Value) (w : World) => ∃ v', v = .tuple #[trackVal U v', .int .i64 c] ∧ w.ownsRow (wT.heap.size) 63 4 v' U.parts.length (seens U.parts)), (fun (v : Value) (w : World) => ∃ v', v = .tuple #[trackVal U v', .int .i64 c] ∧ w.ownsRow (wT.heap.size) 63 4 v' U.parts.length (seens U.parts)), (fun (v : Value) (w : World) => ∃ v', v = trackVal U v' ∧ w.ownsRow (wT.heap.size) 63 4 v' U.parts.length (seens U.parts)), fun (v : Value) (_ : World) => v = .int .i64 c, (fun (v : Value) (w : World) => ∃ b, v = .pointer (some ⟨b, 0, none⟩) ∧ wT.heap.size ≤ b ∧ w.heap[b]? = some (Obj.cells #[.int .i64 0, .int .i64 0, .int .i64 0, .int .i64 0, .int .i64 0, .int .i64 0, .slice none 0 0] 47)), (fun (v : Value) (w : World) => ∃ b s' z', v = .pointer (some ⟨b, 0, none⟩) ∧ wT.heap.size ≤ b ∧ w.heap[b]? = some (Obj.cells #[.int .i64 U.belt.step, .int .i64 U.belt.slip, .int .i64 U.belt.gate, .int .i64 U.belt.length, .int .i64 U.count, .int .i64 U.next, (.slice s' U.parts.length z')] 47) ∧ w.ownsRow (wT.heap.size) 63 4 (.slice s' U.parts.length z') U.parts.length (seens U.parts))]) (fun i => if i = 14 then [13] else []) (by kernel_rfl) (by kernel_rfl) (by kernel_rfl) ?_ ?_
    · simp only [List.length_cons, List.length_nil, List.take_succ_cons, List.take_zero, RG.StepsN, and_true, Nat.reduceAdd]
      refine ⟨?_, ?_, ?_, ?_, ?_, ?_, ?_, ?_, ?_, ?_, ?_, ?_, ?_, ?_, ?_⟩
      · exact RG.stepN rfl (RG.st_move rfl rfl (by kernel_rfl) (fun _ _ => rfl) hst)
      · refine RG.stepN rfl (RG.st_run rfl (fun a wx hw hr => ⟨_, wx, ?_, Ext.refl _, rfl⟩) hst)
        have p0 := RG.read_in (t := 40) (j := 0) hr (by kernel_rfl) (by kernel_rfl)
        have r0 : a.tmps[40]?.getD undef = .pointer (some ⟨bw, 0, none⟩) := (Array.getD_eq_getD_getElem? ..).symm.trans p0
        clear hr hst p0
        simp [execOp, go_sem, r0]
      · refine RG.stepN rfl (RG.st_run rfl (fun a wx hw hr => ⟨_, wx, ?_, Ext.refl _, rfl⟩) hst)
        have p0 := RG.read_in (t := 41) (j := 1) hr (by kernel_rfl) (by kernel_rfl)
        have r0 : a.tmps[41]?.getD undef = .pointer (some ⟨bw, 0, none⟩) := (Array.getD_eq_getD_getElem? ..).symm.trans p0
        clear hr hst p0
        simp [execOp, go_sem, r0, Try.underlying84]
      · refine RG.stepN rfl (RG.st_run rfl (fun a wx hw hr => ⟨_, wx, ?_, Ext.refl _, rfl⟩) hst)
        have p0 := RG.read_in (t := 42) (j := 2) hr (by kernel_rfl) (by kernel_rfl)
        have r0 : a.tmps[42]?.getD undef = .pointer (some ⟨bw, 0, none⟩) := (Array.getD_eq_getD_getElem? ..).symm.trans p0
        obtain ⟨⟨c0, c1, c2, c3, c4, c5, c6, c7, c8, c9, c10⟩, -⟩ := run_11 (At.at (At.ext hw A9.out) 0 rfl)
        clear hr hst p0
        simp [execOp, go_sem, r0, c0, c1, c2, c3, c4, c5, c6, trackVal, Try.underlying47]
      · exact RG.stepN rfl (RG.st_move rfl rfl (by kernel_rfl) (fun _ _ => rfl) hst)
      · refine RG.stepN rfl (RG.st_run rfl (fun a wx hw hr => ⟨_, wx, ?_, Ext.refl _, rfl⟩) hst)
        have p0 := RG.read_in (t := 44) (j := 4) hr (by kernel_rfl) (by kernel_rfl)
        have r0 : a.tmps[44]?.getD undef = .pointer (some ⟨bx, i * 5, none⟩) := (Array.getD_eq_getD_getElem? ..).symm.trans p0
        clear hr hst p0
        simp [execOp, go_sem, r0]
      · refine RG.stepN rfl (RG.st_run rfl (fun a wx hw hr => ⟨_, wx, ?_, Ext.refl _, rfl⟩) hst)
        have p0 := RG.read_in (t := 45) (j := 5) hr (by kernel_rfl) (by kernel_rfl)
        have r0 : a.tmps[45]?.getD undef = .pointer (some ⟨bx, i * 5, none⟩) := (Array.getD_eq_getD_getElem? ..).symm.trans p0
        clear hr hst p0
        simp [execOp, go_sem, r0, Try.underlying131]
      · refine RG.stepN rfl (RG.st_run rfl (fun a wx hw hr => ⟨_, wx, ?_, Ext.refl _, rfl⟩) hst)
        have p0 := RG.read_in (t := 46) (j := 6) hr (by kernel_rfl) (by kernel_rfl)
        have r0 : a.tmps[46]?.getD undef = .pointer (some ⟨bx, i * 5, none⟩) := (Array.getD_eq_getD_getElem? ..).symm.trans p0
        have q0 := hw.get x0
        clear hr hst p0
        simp [execOp, go_sem, r0, q0]
      · exact RG.stepN rfl (RG.st_move rfl rfl (by kernel_rfl) (fun _ _ => rfl) hst)
      · refine RG.stepN rfl (st_call3 rfl 33 #[47, 3, 5] rfl Try.func33 (by kernel_rfl) (by kernel_rfl) hst (fun a wx hw hr => ?_))
        have p0 : a.tmps.getD 43 undef = (trackVal t (.slice st t.parts.length zt)) := RG.read_in (t := 43) (j := 3) hr (by kernel_rfl) (by kernel_rfl)
        have p1 : a.tmps.getD 47 undef = .int .i64 x.id := RG.read_in (t := 47) (j := 7) hr (by kernel_rfl) (by kernel_rfl)
        have p2 : a.tmps.getD 48 undef = .int .u8 ((m : Int) + 1) := RG.read_in (t := 48) (j := 8) hr (by kernel_rfl) (by kernel_rfl)
        rw [p0, p1, p2]
        refine (K33.out wx _ (SeensAt.ext T9.out hw)).mono ?_
        rintro e w' ⟨v', rfl, ho, hb⟩
        exact ⟨_, rfl, hb, v', rfl, owns_base ho hw.size⟩
      · refine RG.stepN rfl (RG.st_run rfl (fun a wx hw hr => ?_) hst)
        obtain ⟨v', p0, ho⟩ := RG.read_in (t := 49) (j := 9) hr (by kernel_rfl) (by kernel_rfl)
        have r0 : a.tmps[49]?.getD undef = _ := (Array.getD_eq_getD_getElem? ..).symm.trans p0
        refine ⟨_, wx, ?_, Ext.refl _, v', rfl, ho⟩
        clear hr hst p0
        simp [execOp, go_sem, r0]
      · refine RG.stepN rfl (RG.st_run rfl (fun a wx hw hr => ?_) hst)
        obtain ⟨v', p0, ho⟩ := RG.read_in (t := 39) (j := 10) hr (by kernel_rfl) (by kernel_rfl)
        have r0 : a.tmps[39]?.getD undef = _ := (Array.getD_eq_getD_getElem? ..).symm.trans p0
        refine ⟨_, wx, ?_, Ext.refl _, v', rfl, ho⟩
        clear hr hst p0
        simp [execOp, go_sem, r0]
      · refine RG.stepN rfl (RG.st_run rfl (fun a wx hw hr => ?_) hst)
        obtain ⟨v', p0, ho⟩ := RG.read_in (t := 39) (j := 10) hr (by kernel_rfl) (by kernel_rfl)
        have r0 : a.tmps[39]?.getD undef = _ := (Array.getD_eq_getD_getElem? ..).symm.trans p0
        refine ⟨_, wx, ?_, Ext.refl _, rfl⟩
        clear hr hst p0
        simp [execOp, go_sem, r0]
      · refine RG.stepN rfl (RG.st_run rfl (fun a wx hw hr => ⟨.pointer (some ⟨wx.heap.size, 0, none⟩), wx.alloc (Obj.cells #[.int .i64 0, .int .i64 0, .int .i64 0, .int .i64 0, .int .i64 0, .int .i64 0, .slice none 0 0] 47), ?_, (Ext.refl _).alloc _, wx.heap.size, rfl, hw.size, one_first _ _⟩) hst)
        clear hr hst
        simp [execOp, go_sem, Try.underlying47]
      · refine RG.st_store (t := 10) rfl rfl rfl (fun a wx hw hr => ?_)
        obtain ⟨b', p0, hbb, hz⟩ := RG.read_in (t := 10) (j := 13) hr (by kernel_rfl) (by kernel_rfl)
        obtain ⟨v', p1, ho⟩ := RG.read_in (t := 50) (j := 11) hr (by kernel_rfl) (by kernel_rfl)
        have hz := Lib.hid hz
        obtain ⟨-, s', z', hv', -⟩ := SlAt.of_owns ho
        subst hv'
        have hne : ∀ g, Value.ownBlock (.slice s' U.parts.length z') = some g → g ≠ b' := fun g hg e => rows_not ho hg (e ▸ hz.out)
        have hE' : Ext wT ((((((((wx.setCell ⟨b', 0, none⟩ (.int .i64 U.belt.step)).setCell ⟨b', 1, none⟩ (.int .i64 U.belt.slip)).setCell ⟨b', 2, none⟩ (.int .i64 U.belt.gate)).setCell ⟨b', 3, none⟩ (.int .i64 U.belt.length)).setCell ⟨b', 4, none⟩ (.int .i64 U.count)).setCell ⟨b', 5, none⟩ (.int .i64 U.next)).setCell ⟨b', 6, none⟩ ((.slice s' U.parts.length z')))) := (store_7 hz.out).2.2 wT hbb hw
        refine ⟨_, track_store rfl p0 p1 hz.out, hE', ?_, b', s', z', p0, hbb, (store_7 hz.out).1, owns_at ho fun g hg => (store_7 hz.out).2.1 g (hne g hg)⟩
        · intro j v hj hji hjd hG
          match j with
          | 0 => have hG' : v = .pointer (some ⟨bw, 0, none⟩) := hG; exact hG'
          | 1 => have hG' : v = .pointer (some ⟨bw, 0, none⟩) := hG; exact hG'
          | 2 => have hG' : v = .pointer (some ⟨bw, 0, none⟩) := hG; exact hG'
          | 3 => have hG' : v = (trackVal t (.slice st t.parts.length zt)) := hG; exact hG'
          | 4 => have hG' : v = .pointer (some ⟨bx, i * 5, none⟩) := hG; exact hG'
          | 5 => have hG' : v = .pointer (some ⟨bx, i * 5, none⟩) := hG; exact hG'
          | 6 => have hG' : v = .pointer (some ⟨bx, i * 5, none⟩) := hG; exact hG'
          | 7 => have hG' : v = .int .i64 x.id := hG; exact hG'
          | 8 => have hG' : v = .int .u8 ((m : Int) + 1) := hG; exact hG'
          | 9 => obtain ⟨v9, h9, ho9⟩ := hG; exact ⟨v9, h9, owns_at ho9 fun g hg => (store_7 hz.out).2.1 g (fun e => rows_not ho9 hg (e ▸ hz.out))⟩
          | 10 => obtain ⟨v9, h9, ho9⟩ := hG; exact ⟨v9, h9, owns_at ho9 fun g hg => (store_7 hz.out).2.1 g (fun e => rows_not ho9 hg (e ▸ hz.out))⟩
          | 11 => obtain ⟨v9, h9, ho9⟩ := hG; exact ⟨v9, h9, owns_at ho9 fun g hg => (store_7 hz.out).2.1 g (fun e => rows_not ho9 hg (e ▸ hz.out))⟩
          | 13 => exact absurd (by simp) hj
          | 12 => have hG' : v = .int .i64 c := hG; exact hG'
          | 14 => exact absurd rfl hji
          | j + 15 => exact (show True from trivial)
    · intro wt hEt
      simp only [List.length_cons, List.length_nil, List.take_succ_cons, List.take_zero, RG.Fin, RG.goneBy, Nat.reduceAdd, List.drop_succ_cons, List.drop_zero]
      intro v0 h0 v1 h1 v2 h2 v3 h3 v4 h4 v5 h5 v6 h6 v7 h7 v8 h8 v9 h9 v10 h10 v11 h11 v12 h12 v13 h13 hsto
      obtain rfl := h0 (by decide)
      obtain rfl := h1 (by decide)
      obtain rfl := h2 (by decide)
      obtain rfl := h3 (by decide)
      obtain rfl := h4 (by decide)
      obtain rfl := h5 (by decide)
      obtain rfl := h6 (by decide)
      obtain rfl := h7 (by decide)
      obtain rfl := h8 (by decide)
      obtain rfl := h12 (by decide)
      obtain ⟨bT, su, zu, hv9, hb9, hU9, hO9⟩ := hsto 14 _ 10 13 (by decide) rfl rfl rfl (by kernel_rfl) (by decide)
      simp [Act.put] at hv9
      subst hv9
      clear hst hsto h0 h1 h2 h3 h4 h5 h6 h7 h8 h9 h10 h11 h12 h13
      simp only [Act.put, List.setIfInBounds_toArray, List.set_cons_zero, List.set_cons_succ]
      have hXt := Lib.hid (owns_ext (owns_ext hx.out HE9.out) hEt)
      have hA2 := Lib.hid (At.ext hEt A9.out)
      have zT1 := HE9.out.size
      have zT2 := hEt.size
      have zU := (Array.getElem?_eq_some_iff.1 hU9).1
      have hOU := Lib.hid hO9
      have hU9 := Lib.hid hU9
      have hEt := Lib.hid hEt
      clear K33 hO9 hw
      rcases HCC.out with ⟨rfl, hUe⟩ | rfl
      · have HUE := Lib.hid hUe
        clear hUe
        obtain ⟨⟨u0, u1, u2, u3, u4, u5, u6⟩, -⟩ := run_7 hU9.out
        obtain ⟨⟨c0, c1, c2, c3, c4, c5, c6, c7, c8, c9, c10⟩, cf0, cf1, cf2, cf3, cf4, cf5, cf6, cf7, cf8, cf9, cf10⟩ := run_11 (At.at hA2.out 0 rfl)
        have dz := At.lt hA2.out 0 rfl
        have y3 := (hXt.out.cellAt (i * 5 + 3) (by omega)).trans (things_get xs i 3 hil (by omega))
        have yf := hXt.out.frozenAt (i * 5 + 3)
        have hbx2 : bw < bx := by omega
        have hbx3 : bx < wt.heap.size := by omega
        simp only [thingCells, List.getElem?_cons_zero, List.getElem?_cons_succ] at y3
        go_wp2
        go_ret
        have hfin := HFT.out
        rw [← HUE.out] at hfin
        refine ⟨rfl, U, xs.set i (tellT x ((m : Int) + 1)), at_, ⟨(.slice su U.parts.length zu), (.slice (some ⟨bx, 0, none⟩) xs.length zx), hfin, (set_at _ bx (i * 5 + 3) _ bw (by omega)).trans (At.at (show At (World.setCell (World.setCell (World.setCell (World.setCell (World.setCell (World.setCell (World.setCell wt ⟨bw, 0, none⟩ (.int .i64 U.belt.step)) ⟨bw, 1, none⟩ (.int .i64 U.belt.slip)) ⟨bw, 2, none⟩ (.int .i64 U.belt.gate)) ⟨bw, 3, none⟩ (.int .i64 U.belt.length)) ⟨bw, 4, none⟩ (.int .i64 U.count)) ⟨bw, 5, none⟩ (.int .i64 U.next)) ⟨bw, 6, none⟩ ((.slice su U.parts.length zu))) [(bw, Obj.cells #[.int .i64 U.belt.step, .int .i64 U.belt.slip, .int .i64 U.belt.gate, .int .i64 U.belt.length, .int .i64 U.count, .int .i64 U.next, (.slice su U.parts.length zu), (.slice (some ⟨bx, 0, none⟩) xs.length zx), (.slice am mv.length cm), .int .i64 (at_ : Int), .int .i64 ln] 84), (bT, Obj.cells #[.int .i64 U.belt.step, .int .i64 U.belt.slip, .int .i64 U.belt.gate, .int .i64 U.belt.length, .int .i64 U.count, .int .i64 U.next, (.slice su U.parts.length zu)] 47)] from ⟨(st_one (st_one (st_one (st_one (st_one (st_one (st_one (At.at (show At wt [(bw, Obj.cells #[.int .i64 t.belt.step, .int .i64 t.belt.slip, .int .i64 t.belt.gate, .int .i64 t.belt.length, .int .i64 t.count, .int .i64 t.next, (.slice st t.parts.length zt), (.slice (some ⟨bx, 0, none⟩) xs.length zx), (.slice am mv.length cm), .int .i64 (at_ : Int), .int .i64 ln] 84), (bT, Obj.cells #[.int .i64 U.belt.step, .int .i64 U.belt.slip, .int .i64 U.belt.gate, .int .i64 U.belt.length, .int .i64 U.count, .int .i64 U.next, (.slice su U.parts.length zu)] 47)] from ⟨At.at hA2.out 0 rfl, hU9.out, trivial⟩) 0 rfl) 0 (.int .i64 U.belt.step)).1 1 (.int .i64 U.belt.slip)).1 2 (.int .i64 U.belt.gate)).1 3 (.int .i64 U.belt.length)).1 4 (.int .i64 U.count)).1 5 (.int .i64 U.next)).1 6 ((.slice su U.parts.length zu))).1, (At.other (st_one (st_one (st_one (st_one (st_one (st_one (st_one (At.at (show At wt [(bw, Obj.cells #[.int .i64 t.belt.step, .int .i64 t.belt.slip, .int .i64 t.belt.gate, .int .i64 t.belt.length, .int .i64 t.count, .int .i64 t.next, (.slice st t.parts.length zt), (.slice (some ⟨bx, 0, none⟩) xs.length zx), (.slice am mv.length cm), .int .i64 (at_ : Int), .int .i64 ln] 84), (bT, Obj.cells #[.int .i64 U.belt.step, .int .i64 U.belt.slip, .int .i64 U.belt.gate, .int .i64 U.belt.length, .int .i64 U.count, .int .i64 U.next, (.slice su U.parts.length zu)] 47)] from ⟨At.at hA2.out 0 rfl, hU9.out, trivial⟩) 0 rfl) 0 (.int .i64 U.belt.step)).1 1 (.int .i64 U.belt.slip)).1 2 (.int .i64 U.belt.gate)).1 3 (.int .i64 U.belt.length)).1 4 (.int .i64 U.count)).1 5 (.int .i64 U.next)).1 6 ((.slice su U.parts.length zu))).2.1 (by first | (simp; done) | (simp; omega)) (At.other (st_one (st_one (st_one (st_one (st_one (st_one (At.at (show At wt [(bw, Obj.cells #[.int .i64 t.belt.step, .int .i64 t.belt.slip, .int .i64 t.belt.gate, .int .i64 t.belt.length, .int .i64 t.count, .int .i64 t.next, (.slice st t.parts.length zt), (.slice (some ⟨bx, 0, none⟩) xs.length zx), (.slice am mv.length cm), .int .i64 (at_ : Int), .int .i64 ln] 84), (bT, Obj.cells #[.int .i64 U.belt.step, .int .i64 U.belt.slip, .int .i64 U.belt.gate, .int .i64 U.belt.length, .int .i64 U.count, .int .i64 U.next, (.slice su U.parts.length zu)] 47)] from ⟨At.at hA2.out 0 rfl, hU9.out, trivial⟩) 0 rfl) 0 (.int .i64 U.belt.step)).1 1 (.int .i64 U.belt.slip)).1 2 (.int .i64 U.belt.gate)).1 3 (.int .i64 U.belt.length)).1 4 (.int .i64 U.count)).1 5 (.int .i64 U.next)).2.1 (by first | (simp; done) | (simp; omega)) (At.other (st_one (st_one (st_one (st_one (st_one (At.at (show At wt [(bw, Obj.cells #[.int .i64 t.belt.step, .int .i64 t.belt.slip, .int .i64 t.belt.gate, .int .i64 t.belt.length, .int .i64 t.count, .int .i64 t.next, (.slice st t.parts.length zt), (.slice (some ⟨bx, 0, none⟩) xs.length zx), (.slice am mv.length cm), .int .i64 (at_ : Int), .int .i64 ln] 84), (bT, Obj.cells #[.int .i64 U.belt.step, .int .i64 U.belt.slip, .int .i64 U.belt.gate, .int .i64 U.belt.length, .int .i64 U.count, .int .i64 U.next, (.slice su U.parts.length zu)] 47)] from ⟨At.at hA2.out 0 rfl, hU9.out, trivial⟩) 0 rfl) 0 (.int .i64 U.belt.step)).1 1 (.int .i64 U.belt.slip)).1 2 (.int .i64 U.belt.gate)).1 3 (.int .i64 U.belt.length)).1 4 (.int .i64 U.count)).2.1 (by first | (simp; done) | (simp; omega)) (At.other (st_one (st_one (st_one (st_one (At.at (show At wt [(bw, Obj.cells #[.int .i64 t.belt.step, .int .i64 t.belt.slip, .int .i64 t.belt.gate, .int .i64 t.belt.length, .int .i64 t.count, .int .i64 t.next, (.slice st t.parts.length zt), (.slice (some ⟨bx, 0, none⟩) xs.length zx), (.slice am mv.length cm), .int .i64 (at_ : Int), .int .i64 ln] 84), (bT, Obj.cells #[.int .i64 U.belt.step, .int .i64 U.belt.slip, .int .i64 U.belt.gate, .int .i64 U.belt.length, .int .i64 U.count, .int .i64 U.next, (.slice su U.parts.length zu)] 47)] from ⟨At.at hA2.out 0 rfl, hU9.out, trivial⟩) 0 rfl) 0 (.int .i64 U.belt.step)).1 1 (.int .i64 U.belt.slip)).1 2 (.int .i64 U.belt.gate)).1 3 (.int .i64 U.belt.length)).2.1 (by first | (simp; done) | (simp; omega)) (At.other (st_one (st_one (st_one (At.at (show At wt [(bw, Obj.cells #[.int .i64 t.belt.step, .int .i64 t.belt.slip, .int .i64 t.belt.gate, .int .i64 t.belt.length, .int .i64 t.count, .int .i64 t.next, (.slice st t.parts.length zt), (.slice (some ⟨bx, 0, none⟩) xs.length zx), (.slice am mv.length cm), .int .i64 (at_ : Int), .int .i64 ln] 84), (bT, Obj.cells #[.int .i64 U.belt.step, .int .i64 U.belt.slip, .int .i64 U.belt.gate, .int .i64 U.belt.length, .int .i64 U.count, .int .i64 U.next, (.slice su U.parts.length zu)] 47)] from ⟨At.at hA2.out 0 rfl, hU9.out, trivial⟩) 0 rfl) 0 (.int .i64 U.belt.step)).1 1 (.int .i64 U.belt.slip)).1 2 (.int .i64 U.belt.gate)).2.1 (by first | (simp; done) | (simp; omega)) (At.other (st_one (st_one (At.at (show At wt [(bw, Obj.cells #[.int .i64 t.belt.step, .int .i64 t.belt.slip, .int .i64 t.belt.gate, .int .i64 t.belt.length, .int .i64 t.count, .int .i64 t.next, (.slice st t.parts.length zt), (.slice (some ⟨bx, 0, none⟩) xs.length zx), (.slice am mv.length cm), .int .i64 (at_ : Int), .int .i64 ln] 84), (bT, Obj.cells #[.int .i64 U.belt.step, .int .i64 U.belt.slip, .int .i64 U.belt.gate, .int .i64 U.belt.length, .int .i64 U.count, .int .i64 U.next, (.slice su U.parts.length zu)] 47)] from ⟨At.at hA2.out 0 rfl, hU9.out, trivial⟩) 0 rfl) 0 (.int .i64 U.belt.step)).1 1 (.int .i64 U.belt.slip)).2.1 (by first | (simp; done) | (simp; omega)) (At.other (st_one (At.at (show At wt [(bw, Obj.cells #[.int .i64 t.belt.step, .int .i64 t.belt.slip, .int .i64 t.belt.gate, .int .i64 t.belt.length, .int .i64 t.count, .int .i64 t.next, (.slice st t.parts.length zt), (.slice (some ⟨bx, 0, none⟩) xs.length zx), (.slice am mv.length cm), .int .i64 (at_ : Int), .int .i64 ln] 84), (bT, Obj.cells #[.int .i64 U.belt.step, .int .i64 U.belt.slip, .int .i64 U.belt.gate, .int .i64 U.belt.length, .int .i64 U.count, .int .i64 U.next, (.slice su U.parts.length zu)] 47)] from ⟨At.at hA2.out 0 rfl, hU9.out, trivial⟩) 0 rfl) 0 (.int .i64 U.belt.step)).2.1 (by first | (simp; done) | (simp; omega)) (At.erase (show At wt [(bw, Obj.cells #[.int .i64 t.belt.step, .int .i64 t.belt.slip, .int .i64 t.belt.gate, .int .i64 t.belt.length, .int .i64 t.count, .int .i64 t.next, (.slice st t.parts.length zt), (.slice (some ⟨bx, 0, none⟩) xs.length zx), (.slice am mv.length cm), .int .i64 (at_ : Int), .int .i64 ln] 84), (bT, Obj.cells #[.int .i64 U.belt.step, .int .i64 U.belt.slip, .int .i64 U.belt.gate, .int .i64 U.belt.length, .int .i64 U.count, .int .i64 U.next, (.slice su U.parts.length zu)] 47)] from ⟨At.at hA2.out 0 rfl, hU9.out, trivial⟩) 0))))))))⟩) 0 rfl), owns_base (own_set (bo := bx) (o := i * 5 + 3) (own_set (bo := bw) (o := 6) (own_set (bo := bw) (o := 5) (own_set (bo := bw) (o := 4) (own_set (bo := bw) (o := 3) (own_set (bo := bw) (o := 2) (own_set (bo := bw) (o := 1) (own_set (bo := bw) (o := 0) hOU.out (by omega)) (by omega)) (by omega)) (by omega)) (by omega)) (by omega)) (by omega)) (by omega)) (by omega), ?_, ?_, (((st_one (st_one (st_one (st_one (st_one (st_one (st_one (At.at (show At wt [(bw, Obj.cells #[.int .i64 t.belt.step, .int .i64 t.belt.slip, .int .i64 t.belt.gate, .int .i64 t.belt.length, .int .i64 t.count, .int .i64 t.next, (.slice st t.parts.length zt), (.slice (some ⟨bx, 0, none⟩) xs.length zx), (.slice am mv.length cm), .int .i64 (at_ : Int), .int .i64 ln] 84), (bT, Obj.cells #[.int .i64 U.belt.step, .int .i64 U.belt.slip, .int .i64 U.belt.gate, .int .i64 U.belt.length, .int .i64 U.count, .int .i64 U.next, (.slice su U.parts.length zu)] 47)] from ⟨At.at hA2.out 0 rfl, hU9.out, trivial⟩) 0 rfl) 0 (.int .i64 U.belt.step)).1 1 (.int .i64 U.belt.slip)).1 2 (.int .i64 U.belt.gate)).1 3 (.int .i64 U.belt.length)).1 4 (.int .i64 U.count)).1 5 (.int .i64 U.next)).1 6 ((.slice su U.parts.length zu))).2.2 w0 (by omega) ((st_one (st_one (st_one (st_one (st_one (st_one (At.at (show At wt [(bw, Obj.cells #[.int .i64 t.belt.step, .int .i64 t.belt.slip, .int .i64 t.belt.gate, .int .i64 t.belt.length, .int .i64 t.count, .int .i64 t.next, (.slice st t.parts.length zt), (.slice (some ⟨bx, 0, none⟩) xs.length zx), (.slice am mv.length cm), .int .i64 (at_ : Int), .int .i64 ln] 84), (bT, Obj.cells #[.int .i64 U.belt.step, .int .i64 U.belt.slip, .int .i64 U.belt.gate, .int .i64 U.belt.length, .int .i64 U.count, .int .i64 U.next, (.slice su U.parts.length zu)] 47)] from ⟨At.at hA2.out 0 rfl, hU9.out, trivial⟩) 0 rfl) 0 (.int .i64 U.belt.step)).1 1 (.int .i64 U.belt.slip)).1 2 (.int .i64 U.belt.gate)).1 3 (.int .i64 U.belt.length)).1 4 (.int .i64 U.count)).1 5 (.int .i64 U.next)).2.2 w0 (by omega) ((st_one (st_one (st_one (st_one (st_one (At.at (show At wt [(bw, Obj.cells #[.int .i64 t.belt.step, .int .i64 t.belt.slip, .int .i64 t.belt.gate, .int .i64 t.belt.length, .int .i64 t.count, .int .i64 t.next, (.slice st t.parts.length zt), (.slice (some ⟨bx, 0, none⟩) xs.length zx), (.slice am mv.length cm), .int .i64 (at_ : Int), .int .i64 ln] 84), (bT, Obj.cells #[.int .i64 U.belt.step, .int .i64 U.belt.slip, .int .i64 U.belt.gate, .int .i64 U.belt.length, .int .i64 U.count, .int .i64 U.next, (.slice su U.parts.length zu)] 47)] from ⟨At.at hA2.out 0 rfl, hU9.out, trivial⟩) 0 rfl) 0 (.int .i64 U.belt.step)).1 1 (.int .i64 U.belt.slip)).1 2 (.int .i64 U.belt.gate)).1 3 (.int .i64 U.belt.length)).1 4 (.int .i64 U.count)).2.2 w0 (by omega) ((st_one (st_one (st_one (st_one (At.at (show At wt [(bw, Obj.cells #[.int .i64 t.belt.step, .int .i64 t.belt.slip, .int .i64 t.belt.gate, .int .i64 t.belt.length, .int .i64 t.count, .int .i64 t.next, (.slice st t.parts.length zt), (.slice (some ⟨bx, 0, none⟩) xs.length zx), (.slice am mv.length cm), .int .i64 (at_ : Int), .int .i64 ln] 84), (bT, Obj.cells #[.int .i64 U.belt.step, .int .i64 U.belt.slip, .int .i64 U.belt.gate, .int .i64 U.belt.length, .int .i64 U.count, .int .i64 U.next, (.slice su U.parts.length zu)] 47)] from ⟨At.at hA2.out 0 rfl, hU9.out, trivial⟩) 0 rfl) 0 (.int .i64 U.belt.step)).1 1 (.int .i64 U.belt.slip)).1 2 (.int .i64 U.belt.gate)).1 3 (.int .i64 U.belt.length)).2.2 w0 (by omega) ((st_one (st_one (st_one (At.at (show At wt [(bw, Obj.cells #[.int .i64 t.belt.step, .int .i64 t.belt.slip, .int .i64 t.belt.gate, .int .i64 t.belt.length, .int .i64 t.count, .int .i64 t.next, (.slice st t.parts.length zt), (.slice (some ⟨bx, 0, none⟩) xs.length zx), (.slice am mv.length cm), .int .i64 (at_ : Int), .int .i64 ln] 84), (bT, Obj.cells #[.int .i64 U.belt.step, .int .i64 U.belt.slip, .int .i64 U.belt.gate, .int .i64 U.belt.length, .int .i64 U.count, .int .i64 U.next, (.slice su U.parts.length zu)] 47)] from ⟨At.at hA2.out 0 rfl, hU9.out, trivial⟩) 0 rfl) 0 (.int .i64 U.belt.step)).1 1 (.int .i64 U.belt.slip)).1 2 (.int .i64 U.belt.gate)).2.2 w0 (by omega) ((st_one (st_one (At.at (show At wt [(bw, Obj.cells #[.int .i64 t.belt.step, .int .i64 t.belt.slip, .int .i64 t.belt.gate, .int .i64 t.belt.length, .int .i64 t.count, .int .i64 t.next, (.slice st t.parts.length zt), (.slice (some ⟨bx, 0, none⟩) xs.length zx), (.slice am mv.length cm), .int .i64 (at_ : Int), .int .i64 ln] 84), (bT, Obj.cells #[.int .i64 U.belt.step, .int .i64 U.belt.slip, .int .i64 U.belt.gate, .int .i64 U.belt.length, .int .i64 U.count, .int .i64 U.next, (.slice su U.parts.length zu)] 47)] from ⟨At.at hA2.out 0 rfl, hU9.out, trivial⟩) 0 rfl) 0 (.int .i64 U.belt.step)).1 1 (.int .i64 U.belt.slip)).2.2 w0 (by omega) ((st_one (At.at (show At wt [(bw, Obj.cells #[.int .i64 t.belt.step, .int .i64 t.belt.slip, .int .i64 t.belt.gate, .int .i64 t.belt.length, .int .i64 t.count, .int .i64 t.next, (.slice st t.parts.length zt), (.slice (some ⟨bx, 0, none⟩) xs.length zx), (.slice am mv.length cm), .int .i64 (at_ : Int), .int .i64 ln] 84), (bT, Obj.cells #[.int .i64 U.belt.step, .int .i64 U.belt.slip, .int .i64 U.belt.gate, .int .i64 U.belt.length, .int .i64 U.count, .int .i64 U.next, (.slice su U.parts.length zu)] 47)] from ⟨At.at hA2.out 0 rfl, hU9.out, trivial⟩) 0 rfl) 0 (.int .i64 U.belt.step)).2.2 w0 (by omega) (E9.out.trans hEt.out))))))))).setCell (by simp; omega) _⟩, by rw [HUE.out]; show t.count ≤ _; omega, by omega⟩
        · rw [List.length_set, HST.out]
          exact (World.ownsRow.stored (own_set (bo := bw) (o := 6) (own_set (bo := bw) (o := 5) (own_set (bo := bw) (o := 4) (own_set (bo := bw) (o := 3) (own_set (bo := bw) (o := 2) (own_set (bo := bw) (o := 1) (own_set (bo := bw) (o := 0) hXt.out (by omega)) (by omega)) (by omega)) (by omega)) (by omega)) (by omega)) (by omega)) (i * 5 + 3) (.int .u8 ((m : Int) + 1))).1
        · intro g hg h9
          have h1 := (owns_block hOU.out g hg).1
          have h9 : some bx = some g := h9
          injection h9 with h9
          omega
      · go_wp2
        go_ret
        exact Acted.same hC9.out (HE9.out.trans hEt.out)
end Go.Proofs.Ytcbimfaneinpkaa
