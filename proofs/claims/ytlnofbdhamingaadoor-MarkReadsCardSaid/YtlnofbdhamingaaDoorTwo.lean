/- A region that draws its order: 'x, y := f(..), g(..)' for two structs: operations whose values are known, two new blocks, and a store into each of them, in whatever order. Generic: no program in sight. -/
import Derived.Test.YtlnofbdhamingaaDoorBase
import Derived.Orders
import Derived.Still
import Derived.Laws.Rows
import Derived.Deep.Quiet
set_option linter.unusedVariables false
set_option linter.unusedSimpArgs false
namespace Go.Proofs.YtlnofbdhamingaaDoor.RT
open Go Go.RowKit Go.Sort

def direct (ops : Array Oper) (k : Nat) : List Nat := ((ops[k]?).map fun o => (o.after.toList.filter (Region.binds .any)).map (·.on)).getD []
theorem direct_of {ops : Array Oper} {k : Nat} {o : Oper} (ho : ops[k]? = some o) (j : Nat) : j ∈ direct ops k ↔ ∃ e ∈ o.after, Region.binds .any e = true ∧ e.on = j := by
  unfold direct
  simp only [ho, Option.map_some, Option.getD_some, List.mem_map, List.mem_filter, Array.mem_toList_iff]
  constructor
  · rintro ⟨e, ⟨h1, h2⟩, h3⟩; exact ⟨e, h1, h2, h3⟩
  · rintro ⟨e, h1, h2, h3⟩; exact ⟨e, ⟨h1, h2⟩, h3⟩

/-- Whatever order is drawn, what holds of the operations that have come holds on. -/
theorem wp_inv {P : Program} {id : Nat} {ops : Array Oper} {Q : Exit → Act → World → Prop} {a0 : Act} {w0 : World} (hm : P.follows .mixedOrders = true)
    (down : ∀ i, i < ops.size → ∀ j ∈ direct ops i, j < i) (I : (Nat → Bool) → Act → World → Prop) (start : I (fun _ => false) a0 w0.drew)
    (step : ∀ (L : Nat → Bool) (i : Nat) (o : Oper) (a : Act) (w : World), ops[i]? = some o → L i = false → (∀ j ∈ direct ops i, L j = true) → (∀ k, L k = true → ∀ j ∈ direct ops k, L j = true) → I L a w →
      if Region.wanted o (yielded ops a.tmps) = true then o.wp P a w (fun a' w' => I (fun j => decide (j = i) || L j) a' w') Q else I (fun j => decide (j = i) || L j) (a.put o.dst undef) w)
    (final : ∀ a w, I (fun j => decide (j < ops.size)) a w → Q .normal a w) : (Code.region id ops true).wp P Q a0 w0 := by
  refine wp_region_any hm ?_
  have hset : ∀ (listed : Array Bool) (i : Nat), i < listed.size → (fun j => (listed.setIfInBounds i true).getD j false) = (fun j => decide (j = i) || listed.getD j false) := by
    intro listed i hi
    funext j
    by_cases h : j = i
    · subst h; simp [Array.getD_eq_getD_getElem?, hi]
    · simp [Array.getD_eq_getD_getElem?, Array.getElem?_setIfInBounds_ne (Ne.symm h), h]
  have main : ∀ (fuel : Nat) (listed : Array Bool) (a : Act) (w : World), listed.size = ops.size → (∀ k, k < ops.size → listed.getD k false = true → ∀ j ∈ direct ops k, listed.getD j false = true) →
      I (fun j => listed.getD j false) a w → listed.toList.count false ≤ fuel → wpAny P .any ops Q fuel listed a w := by
    intro fuel
    have done : ∀ (listed : Array Bool) (a : Act) (w : World), listed.size = ops.size → I (fun j => listed.getD j false) a w → Region.ready .any ops listed = [] → Q .normal a w := by
      intro listed a w hsz hI h0
      refine final a w ?_
      have : (fun j => decide (j < ops.size)) = (fun j => listed.getD j false) := by
        funext j
        rcases Nat.lt_or_ge j ops.size with hj | hj
        · rw [decide_eq_true hj]
          -- the least that is not listed would be ready
          have : ∀ m, m ≤ ops.size → ∀ j, j < m → listed.getD j false = true := by
            intro m
            induction m with
            | zero => intro _ j hj; omega
            | succ m ih =>
              intro hm' j hj
              rcases Nat.lt_or_ge j m with h | h
              · exact ih (by omega) j h
              · obtain rfl : j = m := by omega
                cases hb : listed.getD j false with
                | true => rfl
                | false =>
                  have hjs : j < listed.size := by omega
                  have : j ∈ Region.ready .any ops listed := mem_ready.2 ⟨by
                    rw [Array.getD_eq_getD_getElem?, Array.getElem?_eq_getElem hjs] at hb ⊢
                    exact hb, ops[j], by simp, fun e he hbd => ih (by omega) _ (down j (by omega) _ ((direct_of (by simp) _).2 ⟨e, he, hbd, rfl⟩))⟩
                  rw [h0] at this
                  cases this
          exact (this ops.size (Nat.le_refl _) j hj).symm
        · rw [decide_eq_false (by omega), Array.getD_eq_getD_getElem?, Array.getElem?_eq_none (by omega)]
          rfl
      rw [this]
      exact hI
    induction fuel with
    | zero =>
      intro listed a w hsz hcl hI hf
      have h0 : Region.ready .any ops listed = [] := by
        rw [List.eq_nil_iff_forall_not_mem]
        intro j hj
        obtain ⟨h1, o, ho, _⟩ := mem_ready.1 hj
        have hjs : j < listed.size := by have := (Array.getElem?_eq_some_iff.1 ho).1; omega
        have hc : listed.toList.count false = 0 := by omega
        rw [List.count_eq_zero] at hc
        rw [Array.getD_eq_getD_getElem?, Array.getElem?_eq_getElem hjs] at h1
        exact hc (by simp at h1; rw [← h1]; simp)
      exact ⟨h0, done listed a w hsz hI h0⟩
    | succ fuel ih =>
      intro listed a w hsz hcl hI hf
      refine ⟨done listed a w hsz hI, fun i hi => ?_⟩
      obtain ⟨h1, o, ho, hpre0⟩ := mem_ready.1 hi
      have his : i < ops.size := (Array.getElem?_eq_some_iff.1 ho).1
      have hils : i < listed.size := by omega
      have hpre : ∀ j ∈ direct ops i, listed.getD j false = true := fun j hj => by
        obtain ⟨e, he, hbd, rfl⟩ := (direct_of ho _).1 hj
        exact hpre0 e he hbd
      have hun : listed.getD i false = false := by
        rw [Array.getD_eq_getD_getElem?, Array.getElem?_eq_getElem hils] at h1 ⊢
        exact h1
      have hcnt : (listed.setIfInBounds i true).toList.count false ≤ fuel := by
        have e : (listed.setIfInBounds i true).toList = listed.toList.set i true := by simp
        rw [e, List.count_set (by simpa using hils)]
        have h2 : listed.toList[i]'(by simpa using hils) = false := by
          rw [Array.getD_eq_getD_getElem?, Array.getElem?_eq_getElem hils] at hun
          simpa using hun
        have h3 : 0 < listed.toList.count false := List.count_pos_iff.2 (by rw [← h2]; simp)
        simp [h2]
        simp at h3 hf
        omega
      have hcl' : ∀ k, k < ops.size → (listed.setIfInBounds i true).getD k false = true → ∀ j ∈ direct ops k, (listed.setIfInBounds i true).getD j false = true := by
        intro k hk hl j hj
        have e1 := congrFun (hset listed i hils) k
        have e2 := congrFun (hset listed i hils) j
        rw [e1] at hl
        rw [e2]
        by_cases hki : k = i
        · subst hki; rw [hpre j hj]; simp
        · rw [hcl k hk (by simpa [hki] using hl) j hj]; simp
      have hs := step (fun j => listed.getD j false) i o a w ho hun hpre (fun k hk j hj => by
        rcases Nat.lt_or_ge k ops.size with h | h
        · exact hcl k h hk j hj
        · skip
          rw [Array.getD_eq_getD_getElem?, Array.getElem?_eq_none (by omega)] at hk
          cases hk) hI
      have hsz' : (listed.setIfInBounds i true).size = ops.size := by simp [hsz]
      unfold wpOp
      rw [ho]
      simp only
      split
      · rename_i hw
        rw [if_pos hw] at hs
        refine .inl (Oper.wp_mono ?_ hs)
        intro a' w' hI'
        exact ih _ _ _ hsz' hcl' (by rw [hset listed i hils]; exact hI') hcnt
      · rename_i hw
        rw [if_neg hw] at hs
        exact ih _ _ _ hsz' hcl' (by rw [hset listed i hils]; exact hs) hcnt
  refine main _ _ _ _ (by simp) ?_ ?_ (by simp)
  · intro k _ h
    rw [Array.getD_eq_getD_getElem?, Array.getElem?_replicate] at h
    split at h <;> simp at h
  · have : (fun j => (Array.replicate ops.size false).getD j false) = fun _ => false := by
      funext j
      rw [Array.getD_eq_getD_getElem?, Array.getElem?_replicate]
      split <;> rfl
    rw [this]
    exact start

/-- the slots that operations write, out of what they hold at the end -/
def puts (aq : Act) : List Oper → Act → Act
  | [], a => a
  | o :: l, a => puts aq l (match o.dst with | some t => a.put (some t) (aq.tmps.getD t undef) | none => a)
theorem put_same (a : Act) (t : Tmp) (v : Value) (h : t < a.tmps.size) : (a.put (some t) v).tmps.getD t undef = v := by
  simp [Act.put, Array.getD_eq_getD_getElem?, h]
theorem put_other (a : Act) (d : Option Tmp) (t : Tmp) (v : Value) (h : d ≠ some t) : (a.put d v).tmps.getD t undef = a.tmps.getD t undef := by
  cases d with
  | none => rfl
  | some d => simp [Act.put, Array.getD_eq_getD_getElem?, Array.getElem?_setIfInBounds_ne (show d ≠ t from fun e => h (by rw [e]))]
theorem put_size (a : Act) (d : Option Tmp) (v : Value) : (a.put d v).tmps.size = a.tmps.size := by cases d <;> simp [Act.put]
theorem put_defers (a : Act) (d : Option Tmp) (v : Value) : (a.put d v).defers = a.defers := by cases d <;> rfl
theorem puts_size (aq : Act) : ∀ (l : List Oper) (a : Act), (puts aq l a).tmps.size = a.tmps.size ∧ (puts aq l a).defers = a.defers
  | [], a => ⟨rfl, rfl⟩
  | o :: l, a => by
    unfold puts
    obtain ⟨h1, h2⟩ := puts_size aq l (match o.dst with | some t => a.put (some t) (aq.tmps.getD t undef) | none => a)
    rw [h1, h2]
    cases o.dst with
    | none => exact ⟨rfl, rfl⟩
    | some t => exact ⟨put_size .., put_defers ..⟩
theorem puts_writer (aq : Act) (t : Tmp) : ∀ (l : List Oper) (a : Act), t < a.tmps.size → (∃ o ∈ l, o.dst = some t) → (puts aq l a).tmps.getD t undef = aq.tmps.getD t undef := by
  intro l
  induction l with
  | nil => rintro a _ ⟨o, h, _⟩; cases h
  | cons o l ih =>
    intro a ht ⟨o', h, hd⟩
    unfold puts
    by_cases hl : ∃ o ∈ l, o.dst = some t
    · refine ih _ ?_ hl
      cases o.dst with
      | none => exact ht
      | some s => rw [put_size]; exact ht
    · have hh : o.dst = some t := by
        rcases List.mem_cons.1 h with rfl | h
        · exact hd
        · exact absurd ⟨o', h, hd⟩ hl
      rw [hh]
      simp only
      have : ∀ (l : List Oper) (a : Act), (¬ ∃ o ∈ l, o.dst = some t) → (puts aq l a).tmps.getD t undef = a.tmps.getD t undef := by
        intro l
        induction l with
        | nil => intro a _; rfl
        | cons o l ih =>
          intro a hn
          unfold puts
          rw [ih _ fun ⟨x, hx, hxd⟩ => hn ⟨x, List.mem_cons_of_mem _ hx, hxd⟩]
          cases hod : o.dst with
          | none => rfl
          | some s => exact put_other _ _ _ _ fun e => hn ⟨o, List.mem_cons_self, by rw [hod, e]⟩
      rw [this l _ hl, put_same _ _ _ ht]
theorem puts_none (aq : Act) (t : Tmp) : ∀ (l : List Oper) (a : Act), (¬ ∃ o ∈ l, o.dst = some t) → (puts aq l a).tmps.getD t undef = a.tmps.getD t undef := by
  intro l
  induction l with
  | nil => intro a _; rfl
  | cons o l ih =>
    intro a hn
    unfold puts
    rw [ih _ fun ⟨x, hx, hxd⟩ => hn ⟨x, List.mem_cons_of_mem _ hx, hxd⟩]
    cases hod : o.dst with
    | none => rfl
    | some s => exact put_other _ _ _ _ fun e => hn ⟨o, List.mem_cons_self, by rw [hod, e]⟩

/-- What the walk in the order of the text shows of each operation. -/
theorem chain {P : Program} {ops : Array Oper} {C : World → Prop} {aq : Act} : ∀ (l : List Oper) (a : Act), (∀ o ∈ l, o.guard = none) →
    (∀ (i k : Nat) (o o' : Oper) (t : Tmp), l[i]? = some o → l[k]? = some o' → o.dst = some t → o'.dst = some t → i = k) → (∀ o ∈ l, ∃ t, o.dst = some t ∧ t < a.tmps.size) →
    wpQuiet P ops C (fun a' => a' = aq) l a →
    aq = puts aq l a ∧ ∀ (i : Nat) (o : Oper) (t : Tmp), l[i]? = some o → o.dst = some t → ∀ w, C w → o.quietAt P (puts aq (l.take i) a) C w (aq.tmps.getD t undef) := by
  intro l
  induction l with
  | nil => intro a _ _ _ h; exact ⟨h.symm, fun i o t h => by simp at h⟩
  | cons o l ih =>
    intro a hg hu hd h
    have hgo := hg o List.mem_cons_self
    unfold wpQuiet at h
    rw [if_pos (by simp [Region.wanted, hgo])] at h
    obtain ⟨v, hv, hrest⟩ := h
    obtain ⟨t, hot, ht⟩ := hd o List.mem_cons_self
    have hrec := ih (a.put o.dst v) (fun o' h' => hg o' (List.mem_cons_of_mem _ h')) (fun i k o1 o2 t1 h1 h2 h3 h4 => by
      have := hu (i + 1) (k + 1) o1 o2 t1 (by simpa using h1) (by simpa using h2) h3 h4
      omega) (fun o' h' => by rw [put_size]; exact hd o' (List.mem_cons_of_mem _ h')) hrest
    have hno : ¬ ∃ o' ∈ l, o'.dst = some t := by
      rintro ⟨o', hm, hd'⟩
      obtain ⟨k, hk, rfl⟩ := List.getElem_of_mem hm
      have := hu 0 (k + 1) o l[k] t rfl (by simp [hk]) hot hd'
      omega
    have hval : aq.tmps.getD t undef = v := by
      rw [hrec.1, puts_none _ _ _ _ hno, hot, put_same _ _ _ ht]
    have hstep : a.put o.dst v = (match o.dst with | some t => a.put (some t) (aq.tmps.getD t undef) | none => a) := by
      rw [hot]; simp only; rw [hval]
    refine ⟨by unfold puts; rw [← hstep]; exact hrec.1, fun i o' t' h1 h2 w hw => ?_⟩
    cases i with
    | zero =>
      simp only [List.getElem?_cons_zero, Option.some.injEq] at h1
      subst h1
      rw [hot] at h2
      obtain rfl : t = t' := by simpa using h2
      rw [hval]
      exact hv w hw
    | succ i =>
      have := hrec.2 i o' t' (by simpa using h1) h2 w hw
      rw [List.take_succ_cons]
      unfold puts
      rw [← hstep]
      exact this

def writer (ops : Array Oper) (t j : Nat) : Bool := ((ops[j]?).map fun o => o.dst == some t).getD false
theorem writer_iff {ops : Array Oper} {t j : Nat} : writer ops t j = true ↔ ∃ o, ops[j]? = some o ∧ o.dst = some t := by
  unfold writer
  cases ops[j]? with
  | none => simp
  | some o => simp
/-- no operation is guarded or a select; each goes by its predecessors; no slot is written twice; what is read has been written by a predecessor, or is written later -/
def sound (ops : Array Oper) : Bool :=
  ((List.range ops.size).all fun i => (direct ops i).all fun j => decide (j < i)) &&
  (ops.toList.all fun o => o.guard.isNone && (match o.op with | .select .. => false | _ => true)) &&
  ((List.range ops.size).all fun i => (List.range ops.size).all fun k => i == k || (match (ops[i]?).bind (·.dst) with | some t => !writer ops t k | none => true)) &&
  ((List.range ops.size).all fun i => (((ops[i]?).map fun o => o.op.operands.toList.filterMap fun | .tmp t => some t | _ => none).getD []).all fun t =>
    (List.range ops.size).all fun k => !writer ops t k || (decide (k < i) && (direct ops i).contains k) || (decide (i < k) && (direct ops k).contains i))

theorem region_two {P : Program} {id n : Nat} {qs : List Oper} {ax ay stx sty : Oper} {sx sy vx vy : Tmp} {oz ox oy : Obj} {Q : Exit → Act → World → Prop} {a0 aq : Act} {w0 : World}
    (hm : P.follows .mixedOrders = true) (hn : qs.length = n) (hs : sound (qs ++ [ax, ay, stx, sty]).toArray = true)
    (hdst : (qs.all fun o => match o.dst with | some t => decide (t < a0.tmps.size) | none => false) = true)
    (hax : ax.dst = some sx) (hay : ay.dst = some sy) (hsx : sx < a0.tmps.size) (hsy : sy < a0.tmps.size) (hstx : stx.dst = none) (hsty : sty.dst = none)
    (hox : stx.op.operands.toList = [.tmp sx, .tmp vx]) (hoy : sty.op.operands.toList = [.tmp sy, .tmp vy])
    (hvx : (qs.any fun o => o.dst == some vx) = true) (hvy : (qs.any fun o => o.dst == some vy) = true)
    (hpx : (direct (qs ++ [ax, ay, stx, sty]).toArray (n + 2)).contains n = true) (hpy : (direct (qs ++ [ax, ay, stx, sty]).toArray (n + 3)).contains (n + 1) = true)
    (runax : ∀ (e : Operand → Value) (w : World), (execOp e ax).run P w = .ok (.value (.pointer (some ⟨w.heap.size, 0, none⟩))) (w.alloc oz))
    (runay : ∀ (e : Operand → Value) (w : World), (execOp e ay).run P w = .ok (.value (.pointer (some ⟨w.heap.size, 0, none⟩))) (w.alloc oz))
    (h : ∀ w1 : World, Ext w0 w1 → wpQuiet P (qs ++ [ax, ay, stx, sty]).toArray (fun w' => ∃ p : Regrown, w' = grow (redrawn w1 p.d) p.os) (fun a => a = aq) qs a0)
    (runsx : ∀ (e : Operand → Value) (w : World) (b : Nat), e (.tmp sx) = .pointer (some ⟨b, 0, none⟩) → e (.tmp vx) = aq.tmps.getD vx undef → w.heap[b]? = some oz →
      ∃ w', (execOp e stx).run P w = .ok .skip w' ∧ w'.heap[b]? = some ox ∧ (∀ k, k ≠ b → w'.heap[k]? = w.heap[k]?) ∧ ∀ wb : World, wb.heap.size ≤ b → Ext wb w → Ext wb w')
    (runsy : ∀ (e : Operand → Value) (w : World) (b : Nat), e (.tmp sy) = .pointer (some ⟨b, 0, none⟩) → e (.tmp vy) = aq.tmps.getD vy undef → w.heap[b]? = some oz →
      ∃ w', (execOp e sty).run P w = .ok .skip w' ∧ w'.heap[b]? = some oy ∧ (∀ k, k ≠ b → w'.heap[k]? = w.heap[k]?) ∧ ∀ wb : World, wb.heap.size ≤ b → Ext wb w → Ext wb w')
    (final : ∀ (bx by_ : Nat) (w' : World), Ext w0 w' → w0.heap.size ≤ bx → w0.heap.size ≤ by_ → bx ≠ by_ → w'.heap[bx]? = some ox → w'.heap[by_]? = some oy →
      Q .normal ((aq.put (some sx) (.pointer (some ⟨bx, 0, none⟩))).put (some sy) (.pointer (some ⟨by_, 0, none⟩))) w') :
    (Code.region id (qs ++ [ax, ay, stx, sty]).toArray true).wp P Q a0 w0 := by
  generalize hops : (qs ++ [ax, ay, stx, sty]).toArray = ops at *
  have hsz : ops.size = n + 4 := by rw [← hops]; simp [hn]
  have hq : ∀ (i : Nat) (o : Oper), qs[i]? = some o → ops[i]? = some o ∧ i < n := by
    intro i o h
    have hi : i < qs.length := (List.getElem?_eq_some_iff.1 h).1
    rw [← hops]
    exact ⟨by simpa [List.getElem?_append_left hi] using h, by omega⟩
  have hqi : ∀ (i : Nat) (o : Oper), ops[i]? = some o → i < n → qs[i]? = some o := by
    intro i o h hi
    rw [← hops] at h
    simpa [List.getElem?_append_left (show i < qs.length by omega)] using h
  have h0 : ops[n]? = some ax := by rw [← hops]; simp [List.getElem?_append_right, hn]
  have h1 : ops[n + 1]? = some ay := by rw [← hops]; simp [List.getElem?_append_right, hn]
  have h2 : ops[n + 2]? = some stx := by rw [← hops]; simp [List.getElem?_append_right, hn]
  have h3 : ops[n + 3]? = some sty := by rw [← hops]; simp [List.getElem?_append_right, hn]
  simp only [sound, Bool.and_eq_true, List.all_eq_true, List.mem_range, decide_eq_true_eq] at hs
  obtain ⟨⟨⟨down, plain⟩, uniq0⟩, reads0⟩ := hs
  have hguard : ∀ (i : Nat) (o : Oper), ops[i]? = some o → o.guard = none ∧ ∀ cs b, o.op ≠ .select cs b := by
    intro i o ho
    have := plain o (by
      have := Array.mem_of_getElem? ho
      simpa using this)
    obtain ⟨g1, g2⟩ := this
    refine ⟨by simpa using g1, fun cs b e => ?_⟩
    rw [e] at g2
    simp at g2
  have uniq : ∀ (i k : Nat) (o o' : Oper) (t : Tmp), ops[i]? = some o → ops[k]? = some o' → o.dst = some t → o'.dst = some t → i = k := by
    intro i k o o' t hi hk hd hd'
    have hi' : i < ops.size := (Array.getElem?_eq_some_iff.1 hi).1
    have hk' : k < ops.size := (Array.getElem?_eq_some_iff.1 hk).1
    rcases Nat.decEq i k with hne | he
    · have := uniq0 i hi' k hk'
      have hw := writer_iff.2 ⟨o', hk, hd'⟩
      rw [hi] at this
      simp [hne, hd, hw] at this
    · exact he
  have reads : ∀ (i : Nat) (o : Oper) (t : Tmp), ops[i]? = some o → (.tmp t) ∈ o.op.operands.toList → ∀ (k : Nat) (o' : Oper), ops[k]? = some o' → o'.dst = some t → (k < i ∧ k ∈ direct ops i) ∨ (i < k ∧ i ∈ direct ops k) := by
    intro i o t hi ht k o' hk hd
    have hi' : i < ops.size := (Array.getElem?_eq_some_iff.1 hi).1
    have hk' : k < ops.size := (Array.getElem?_eq_some_iff.1 hk).1
    have := reads0 i hi' t (by rw [hi]; simp only [Option.map_some, Option.getD_some, List.mem_filterMap]; exact ⟨_, ht, rfl⟩) k hk'
    rw [writer_iff.2 ⟨o', hk, hd⟩] at this
    simpa using this
  have hchain := fun w1 hw1 => chain qs a0 (fun o ho => by
      obtain ⟨i, hi, rfl⟩ := List.getElem_of_mem ho
      exact (hguard i qs[i] (hq i _ (by simp [hi])).1).1) (fun i k o o' t a b c d => uniq i k o o' t (hq i o a).1 (hq k o' b).1 c d) (fun o ho => by
      have := List.all_eq_true.1 hdst o ho
      cases hd : o.dst with
      | none => rw [hd] at this; simp at this
      | some t => rw [hd] at this; exact ⟨t, rfl, by simpa using this⟩) (h w1 hw1)
  have haq := (hchain w0 (Ext.refl _)).1
  have tsz : aq.tmps.size = a0.tmps.size := by rw [haq]; exact (puts_size ..).1
  have tdf : aq.defers = a0.defers := by rw [haq]; exact (puts_size ..).2
  have hvx' : ∃ (j : Nat) (o : Oper), qs[j]? = some o ∧ o.dst = some vx := by
    obtain ⟨o, ho, hd⟩ := List.any_eq_true.1 hvx
    obtain ⟨j, hj, rfl⟩ := List.getElem_of_mem ho
    exact ⟨j, qs[j], by simp [hj], by simpa using hd⟩
  have hvy' : ∃ (j : Nat) (o : Oper), qs[j]? = some o ∧ o.dst = some vy := by
    obtain ⟨o, ho, hd⟩ := List.any_eq_true.1 hvy
    obtain ⟨j, hj, rfl⟩ := List.getElem_of_mem ho
    exact ⟨j, qs[j], by simp [hj], by simpa using hd⟩
  refine wp_inv hm (fun i hi j hj => down i hi j hj) (fun L a w => Ext w0 w ∧ a.defers = a0.defers ∧ a.tmps.size = a0.tmps.size ∧
      (∀ (j : Nat) (o : Oper) (t : Tmp), qs[j]? = some o → o.dst = some t → L j = true → a.tmps.getD t undef = aq.tmps.getD t undef) ∧
      (∀ t, (∀ (j : Nat) (o : Oper), ops[j]? = some o → Oper.dst o = some t → L j = false) → a.tmps.getD t undef = a0.tmps.getD t undef) ∧
      (L n = true → ∃ b, a.tmps.getD sx undef = .pointer (some ⟨b, 0, none⟩) ∧ w0.heap.size ≤ b ∧ b < w.heap.size ∧ w.heap[b]? = some (cond (L (n + 2)) ox oz)) ∧
      (L (n + 1) = true → ∃ b, a.tmps.getD sy undef = .pointer (some ⟨b, 0, none⟩) ∧ w0.heap.size ≤ b ∧ b < w.heap.size ∧ w.heap[b]? = some (cond (L (n + 3)) oy oz)) ∧
      (L n = true → L (n + 1) = true → a.tmps.getD sx undef ≠ a.tmps.getD sy undef)) ?_ ?_ ?_
  · exact ⟨(Ext.refl _).drew, rfl, rfl, (fun j o t _ _ h => by cases h), (fun t _ => rfl), (fun h => by cases h), (fun h => by cases h), fun h => by cases h⟩
  · intro L i o a w ho hun hpre hcl ⟨hE, hdf, hts, hfact, hslot, hX, hY, hne⟩
    have hi : i < ops.size := (Array.getElem?_eq_some_iff.1 ho).1
    obtain ⟨hg1, hg2⟩ := hguard i o ho
    rw [if_pos (by simp [Region.wanted, hg1])]
    -- what an operation reads of the others
    have hL : ∀ k, k ≠ i → (decide (k = i) || L k) = L k := fun k hk => by simp [hk]
    have slotOf : ∀ (t : Tmp) (k : Nat) (ok : Oper), ops[k]? = some ok → ok.dst = some t → L k = false → a.tmps.getD t undef = a0.tmps.getD t undef := fun t k ok hk hd hl => hslot t fun j oj hj hjd => by
      rw [uniq j k oj ok t hj hk hjd hd]; exact hl
    -- the rest of the invariant behind an operation of 'qs'
    rcases Nat.lt_or_ge i n with hin | hin
    · have hoq := hqi i o ho hin
      obtain ⟨t, hd, htl⟩ : ∃ t, o.dst = some t ∧ t < a0.tmps.size := by
        have := List.all_eq_true.1 hdst o (List.mem_of_getElem? hoq)
        cases hd : o.dst with
        | none => rw [hd] at this; simp at this
        | some t => rw [hd] at this; exact ⟨t, rfl, by simpa using this⟩
      have qa := (hchain w hE).2 i o t hoq hd w ⟨⟨w.drawn, #[]⟩, by rw [grow_empty]; rfl⟩
      have he : execOp a.eval o = execOp (puts aq (qs.take i) a0).eval o := execOp_congr o hg2 fun x hx => by
        cases x with
        | tmp t' =>
          show a.tmps.getD t' undef = (puts aq (qs.take i) a0).tmps.getD t' undef
          by_cases hw : ∃ (k : Nat) (ok : Oper), ops[k]? = some ok ∧ ok.dst = some t'
          · obtain ⟨k, ok, hk, hkd⟩ := hw
            rcases reads i o t' ho (by simpa using hx) k ok hk hkd with ⟨h4, h5⟩ | ⟨h4, h5⟩
            · have hkq := hqi k ok hk (by omega)
              have hts' : t' < a0.tmps.size := by
                have := List.all_eq_true.1 hdst ok (List.mem_of_getElem? hkq)
                rw [hkd] at this
                simpa using this
              rw [hfact k ok t' hkq hkd (hpre k h5), puts_writer aq t' _ _ hts' ⟨ok, List.mem_of_getElem? (by rw [List.getElem?_take_of_lt h4]; exact hkq), hkd⟩]
            · have hlk : L k = false := by
                cases hlk : L k with
                | false => rfl
                | true => have := hcl k hlk i h5; rw [hun] at this; cases this
              rw [slotOf t' k ok hk hkd hlk, puts_none]
              rintro ⟨o', hm', hd'⟩
              obtain ⟨m, hml, rfl⟩ := List.getElem_of_mem hm'
              have hmi : m < i := by simp at hml; omega
              have hmq : qs[m]? = some (qs.take i)[m] := by
                rw [← List.getElem?_take_of_lt hmi]; exact List.getElem?_eq_getElem hml
              have := uniq m k _ ok t' (hq m _ hmq).1 hk hd' hkd
              omega
          · rw [hslot t' fun j oj hj hjd => absurd ⟨j, oj, hj, hjd⟩ hw, puts_none]
            rintro ⟨o', hm', hd'⟩
            obtain ⟨m, hml, rfl⟩ := List.getElem_of_mem hm'
            have hmi : m < i := by simp at hml; omega
            have hmq : qs[m]? = some (qs.take i)[m] := by
              rw [← List.getElem?_take_of_lt hmi]; exact List.getElem?_eq_getElem hml
            exact hw ⟨m, _, (hq m _ hmq).1, hd'⟩
        | _ => rfl
      have upd : ∀ (u : Value) (w2 : World), Ext w w2 → u = aq.tmps.getD t undef → (fun (L : Nat → Bool) (a : Act) (w : World) => Ext w0 w ∧ a.defers = a0.defers ∧ a.tmps.size = a0.tmps.size ∧
          (∀ (j : Nat) (o : Oper) (t : Tmp), qs[j]? = some o → o.dst = some t → L j = true → a.tmps.getD t undef = aq.tmps.getD t undef) ∧
          (∀ t, (∀ (j : Nat) (o : Oper), ops[j]? = some o → Oper.dst o = some t → L j = false) → a.tmps.getD t undef = a0.tmps.getD t undef) ∧
          (L n = true → ∃ b, a.tmps.getD sx undef = .pointer (some ⟨b, 0, none⟩) ∧ w0.heap.size ≤ b ∧ b < w.heap.size ∧ w.heap[b]? = some (cond (L (n + 2)) ox oz)) ∧
          (L (n + 1) = true → ∃ b, a.tmps.getD sy undef = .pointer (some ⟨b, 0, none⟩) ∧ w0.heap.size ≤ b ∧ b < w.heap.size ∧ w.heap[b]? = some (cond (L (n + 3)) oy oz)) ∧
          (L n = true → L (n + 1) = true → a.tmps.getD sx undef ≠ a.tmps.getD sy undef)) (fun j => decide (j = i) || L j) (a.put o.dst u) w2 := by
        intro u w2 hE2 hu
        dsimp only
        have hnx : o.dst ≠ some sx := fun e => by have := uniq i n o ax sx ho h0 e hax; omega
        have hny : o.dst ≠ some sy := fun e => by have := uniq i (n + 1) o ay sy ho h1 e hay; omega
        refine ⟨hE.trans hE2, by rw [put_defers, hdf], by rw [put_size, hts], fun j oj tj hj hjd hl => ?_, fun tj hall => ?_, fun hl => ?_, fun hl => ?_, fun hl hl' => ?_⟩
        · by_cases hji : j = i
          · subst hji
            rw [hoq] at hj
            cases hj
            rw [hd] at hjd
            cases hjd
            rw [hd, put_same _ _ _ (by rw [hts]; exact htl), hu]
          · rw [put_other _ _ _ _ fun e => hji (uniq j i oj o tj (hq j oj hj).1 ho hjd e)]
            exact hfact j oj tj hj hjd (by have h9 : (decide (j = i) || L j) = true := hl; rw [hL j hji] at h9; exact h9)
        · have hne' : o.dst ≠ some tj := fun e => by have := hall i o ho e; simp at this
          rw [put_other _ _ _ _ hne']
          exact hslot tj fun j oj hj hjd => by have := hall j oj hj hjd; simp at this; exact this.2
        · rw [hL n (by omega)] at hl
          obtain ⟨b, e, b1, b2, b3⟩ := hX hl
          exact ⟨b, by rw [put_other _ _ _ _ hnx]; exact e, b1, Nat.lt_of_lt_of_le b2 hE2.size, by rw [hL (n + 2) (by omega), Below.block hE2 b b2]; exact b3⟩
        · rw [hL (n + 1) (by omega)] at hl
          obtain ⟨b, e, b1, b2, b3⟩ := hY hl
          exact ⟨b, by rw [put_other _ _ _ _ hny]; exact e, b1, Nat.lt_of_lt_of_le b2 hE2.size, by rw [hL (n + 3) (by omega), Below.block hE2 b b2]; exact b3⟩
        · rw [hL n (by omega)] at hl
          rw [hL (n + 1) (by omega)] at hl'
          rw [put_other _ _ _ _ hnx, put_other _ _ _ _ hny]
          exact hne hl hl'
      unfold Oper.quietAt at qa
      unfold Oper.wp
      rw [he]
      generalize (execOp (puts aq (qs.take i) a0).eval o).run P w = r at qa
      match r, qa with
      | .ok (.value u) w', qa =>
        obtain ⟨rfl, rfl⟩ := qa
        exact upd _ _ (Ext.refl _) rfl
      | .ok .skip w', qa =>
        obtain ⟨rfl, hv⟩ := qa
        exact upd _ _ (Ext.refl _) hv.symm
      | .ok (.enter f args) w', qa =>
        obtain ⟨rfl, hc⟩ := qa
        rw [Oper.upon_enter]
        refine hc.mono ?_
        rintro e w2 ⟨rfl, p, rfl⟩
        exact upd _ _ (Ext.grow _ _ _) rfl
    · have hstay : ∀ (L' : Nat → Bool), True := fun _ => trivial
      clear hstay
      have i4 : i = n ∨ i = n + 1 ∨ i = n + 2 ∨ i = n + 3 := by omega
      have unl : ∀ k, i ∈ direct ops k → L k = false := fun k hk => by
        cases hlk : L k with
        | false => rfl
        | true => have := hcl k hlk i hk; rw [hun] at this; cases this
      have hpx' : n ∈ direct ops (n + 2) := by simpa using hpx
      have hpy' : n + 1 ∈ direct ops (n + 3) := by simpa using hpy
      have facts' : ∀ (d : Option Tmp) (v : Value), (∀ (j : Nat) (oj : Oper) (tj : Tmp), qs[j]? = some oj → oj.dst = some tj → d ≠ some tj) → ∀ (j : Nat) (oj : Oper) (tj : Tmp), qs[j]? = some oj → oj.dst = some tj → (decide (j = i) || L j) = true → (a.put d v).tmps.getD tj undef = aq.tmps.getD tj undef := by
        intro d v hdn j oj tj hj hjd hl
        rw [put_other _ _ _ _ (hdn j oj tj hj hjd)]
        exact hfact j oj tj hj hjd (by rw [hL j (by have := (hq j oj hj).2; omega)] at hl; exact hl)
      have slots' : ∀ (v : Value) (tj : Tmp), (∀ (j : Nat) (oj : Oper), ops[j]? = some oj → Oper.dst oj = some tj → (decide (j = i) || L j) = false) → (a.put o.dst v).tmps.getD tj undef = a0.tmps.getD tj undef := by
        intro v tj hall
        have hne' : o.dst ≠ some tj := fun e => by have := hall i o ho e; simp at this
        rw [put_other _ _ _ _ hne']
        exact hslot tj fun j oj hj hjd => by have := hall j oj hj hjd; simp at this; exact this.2
      rcases i4 with rfl | rfl | rfl | rfl
      · rw [h0] at ho
        obtain rfl : ax = o := by simpa using ho
        have hsxy : some sx ≠ some sy := fun e => by have := uniq i (i + 1) ax ay sx h0 h1 hax (by rw [hay, e]); omega
        unfold Oper.wp
        rw [runax, Oper.upon_value]
        dsimp only
        refine ⟨hE.alloc _, by rw [put_defers, hdf], by rw [put_size, hts], facts' _ _ fun j oj tj hj hjd e => ?_, slots' _, fun _ => ?_, fun hl => ?_, fun _ hl => ?_⟩
        · have := uniq i j ax oj tj h0 (hq j oj hj).1 e hjd
          have := (hq j oj hj).2
          omega
        · refine ⟨w.heap.size, by rw [hax, put_same _ _ _ (by rw [hts]; exact hsx)], hE.size, by show w.heap.size < (w.heap.push oz).size; simp, ?_⟩
          rw [hL (i + 2) (by omega), unl _ hpx']
          show (w.heap.push oz)[w.heap.size]? = _
          simp
        · rw [hL (i + 1) (by omega)] at hl
          obtain ⟨b, e, b1, b2, b3⟩ := hY hl
          refine ⟨b, by rw [hax, put_other _ _ _ _ hsxy]; exact e, b1, by show b < (w.heap.push oz).size; simp; omega, ?_⟩
          rw [hL (i + 3) (by omega), ← b3]
          show (w.heap.push oz)[b]? = _
          simp [Array.getElem?_push, Nat.ne_of_lt b2]
        · rw [hL (i + 1) (by omega)] at hl
          obtain ⟨b, e, b1, b2, b3⟩ := hY hl
          rw [hax, put_same _ _ _ (by rw [hts]; exact hsx), put_other _ _ _ _ hsxy, e]
          intro h9
          simp at h9
      · rw [h1] at ho
        obtain rfl : ay = o := by simpa using ho
        have hsxy : some sy ≠ some sx := fun e => by have := uniq (n + 1) n ay ax sy h1 h0 hay (by rw [hax, e]); omega
        unfold Oper.wp
        rw [runay, Oper.upon_value]
        dsimp only
        refine ⟨hE.alloc _, by rw [put_defers, hdf], by rw [put_size, hts], facts' _ _ fun j oj tj hj hjd e => ?_, slots' _, fun hl => ?_, fun _ => ?_, fun hl _ => ?_⟩
        · have := uniq (n + 1) j ay oj tj h1 (hq j oj hj).1 e hjd
          have := (hq j oj hj).2
          omega
        · rw [hL n (by omega)] at hl
          obtain ⟨b, e, b1, b2, b3⟩ := hX hl
          refine ⟨b, by rw [hay, put_other _ _ _ _ hsxy]; exact e, b1, by show b < (w.heap.push oz).size; simp; omega, ?_⟩
          rw [hL (n + 2) (by omega), ← b3]
          show (w.heap.push oz)[b]? = _
          simp [Array.getElem?_push, Nat.ne_of_lt b2]
        · refine ⟨w.heap.size, by rw [hay, put_same _ _ _ (by rw [hts]; exact hsy)], hE.size, by show w.heap.size < (w.heap.push oz).size; simp, ?_⟩
          rw [hL (n + 3) (by omega), unl _ hpy']
          show (w.heap.push oz)[w.heap.size]? = _
          simp
        · rw [hL n (by omega)] at hl
          obtain ⟨b, e, b1, b2, b3⟩ := hX hl
          rw [hay, put_same _ _ _ (by rw [hts]; exact hsy), put_other _ _ _ _ hsxy, e]
          intro h9
          simp at h9
      · rw [h2] at ho
        obtain rfl : stx = o := by simpa using ho
        obtain ⟨b, e, b1, b2, b3⟩ := hX (hpre n hpx')
        rw [hun, cond_false] at b3
        have evx : a.tmps.getD vx undef = aq.tmps.getD vx undef := by
          obtain ⟨j, oj, hj, hjd⟩ := hvx'
          rcases reads (n + 2) stx vx h2 (by rw [hox]; simp) j oj (hq j oj hj).1 hjd with ⟨_, h5⟩ | ⟨h5, _⟩
          · exact hfact j oj vx hj hjd (hpre j h5)
          · have := (hq j oj hj).2; omega
        obtain ⟨w2, r1, r2, r3, r4⟩ := runsx a.eval w b e evx b3
        unfold Oper.wp
        rw [r1, Oper.upon_skip]
        dsimp only
        have lt2 : b < w2.heap.size := (Array.getElem?_eq_some_iff.1 r2).1
        refine ⟨r4 w0 b1 hE, by rw [put_defers, hdf], by rw [put_size, hts], facts' _ _ fun j oj tj hj hjd e => (by rw [hstx] at e; cases e), slots' _, fun _ => ?_, fun hl => ?_, fun hl hl' => ?_⟩
        · rw [hstx]
          exact ⟨b, e, b1, lt2, by simpa using r2⟩
        · rw [hL (n + 1) (by omega)] at hl
          obtain ⟨b', e', b1', b2', b3'⟩ := hY hl
          have hbb : b' ≠ b := fun h9 => hne (hpre n hpx') hl (by rw [e, e', h9])
          have e3 : w2.heap[b']? = some (cond (L (n + 3)) oy oz) := by rw [r3 b' hbb]; exact b3'
          rw [hstx]
          exact ⟨b', e', b1', (Array.getElem?_eq_some_iff.1 e3).1, by rw [hL (n + 3) (by omega)]; exact e3⟩
        · rw [hL n (by omega)] at hl
          rw [hL (n + 1) (by omega)] at hl'
          rw [hstx]
          exact hne hl hl'
      · rw [h3] at ho
        obtain rfl : sty = o := by simpa using ho
        obtain ⟨b, e, b1, b2, b3⟩ := hY (hpre (n + 1) hpy')
        rw [hun, cond_false] at b3
        have evy : a.tmps.getD vy undef = aq.tmps.getD vy undef := by
          obtain ⟨j, oj, hj, hjd⟩ := hvy'
          rcases reads (n + 3) sty vy h3 (by rw [hoy]; simp) j oj (hq j oj hj).1 hjd with ⟨_, h5⟩ | ⟨h5, _⟩
          · exact hfact j oj vy hj hjd (hpre j h5)
          · have := (hq j oj hj).2; omega
        obtain ⟨w2, r1, r2, r3, r4⟩ := runsy a.eval w b e evy b3
        unfold Oper.wp
        rw [r1, Oper.upon_skip]
        dsimp only
        have lt2 : b < w2.heap.size := (Array.getElem?_eq_some_iff.1 r2).1
        refine ⟨r4 w0 b1 hE, by rw [put_defers, hdf], by rw [put_size, hts], facts' _ _ fun j oj tj hj hjd e => (by rw [hsty] at e; cases e), slots' _, fun hl => ?_, fun _ => ?_, fun hl hl' => ?_⟩
        · rw [hL n (by omega)] at hl
          obtain ⟨b', e', b1', b2', b3'⟩ := hX hl
          have hbb : b' ≠ b := fun h9 => hne hl (hpre (n + 1) hpy') (by rw [e, e', h9])
          have e3 : w2.heap[b']? = some (cond (L (n + 2)) ox oz) := by rw [r3 b' hbb]; exact b3'
          rw [hsty]
          exact ⟨b', e', b1', (Array.getElem?_eq_some_iff.1 e3).1, by rw [hL (n + 2) (by omega)]; exact e3⟩
        · rw [hsty]
          exact ⟨b, e, b1, lt2, by simpa using r2⟩
        · rw [hL n (by omega)] at hl
          rw [hL (n + 1) (by omega)] at hl'
          rw [hsty]
          exact hne hl hl'
  · intro a w ⟨hE, hdf, hts, hfact, hslot, hX, hY, hne⟩
    rw [hsz] at hfact hslot hX hY hne
    obtain ⟨bx, ex, x1, x2, x3⟩ := hX (by simp)
    obtain ⟨by_, ey, y1, y2, y3⟩ := hY (by simp)
    have hxy : bx ≠ by_ := fun e => hne (by simp) (by simp) (by rw [ex, ey, e])
    have ha : a = (aq.put (some sx) (.pointer (some ⟨bx, 0, none⟩))).put (some sy) (.pointer (some ⟨by_, 0, none⟩)) := by
      have t1 : a.defers = ((aq.put (some sx) (.pointer (some ⟨bx, 0, none⟩))).put (some sy) (.pointer (some ⟨by_, 0, none⟩))).defers := by rw [put_defers, put_defers, hdf, tdf]
      have t2 : a.tmps = ((aq.put (some sx) (.pointer (some ⟨bx, 0, none⟩))).put (some sy) (.pointer (some ⟨by_, 0, none⟩))).tmps := by
        apply Array.ext
        · rw [put_size, put_size, hts, tsz]
        · intro t l1 l2
          have e1 : ∀ (b : Act) (h : t < b.tmps.size), b.tmps[t] = b.tmps.getD t undef := fun b h => by simp [Array.getD_eq_getD_getElem?, h]
          have lt0 : t < a0.tmps.size := by rw [← hts]; exact l1
          rw [e1 _ l1, e1 _ l2]
          by_cases hty : t = sy
          · subst hty
            rw [put_same _ _ _ (by rw [put_size, tsz]; exact lt0), ey]
          · rw [put_other _ _ _ _ (by simpa using fun e => hty e.symm)]
            by_cases htx : t = sx
            · subst htx
              rw [put_same _ _ _ (by rw [tsz]; exact lt0), ex]
            · rw [put_other _ _ _ _ (by simpa using fun e => htx e.symm)]
              by_cases hw : ∃ o ∈ qs, o.dst = some t
              · obtain ⟨o, hm', hd⟩ := hw
                obtain ⟨j, hj, rfl⟩ := List.getElem_of_mem hm'
                exact hfact j _ t (by simp [hj]) hd (by simp; omega)
              · have e0 : aq.tmps.getD t undef = a0.tmps.getD t undef := by
                  rw [haq]; exact puts_none _ _ _ _ hw
                rw [e0]
                refine hslot t fun j oj hj hjd => ?_
                exfalso
                have hjl : j < ops.size := (Array.getElem?_eq_some_iff.1 hj).1
                rcases Nat.lt_or_ge j n with hjn | hjn
                · exact hw ⟨oj, List.mem_of_getElem? (hqi j oj hj hjn), hjd⟩
                · have j4 : j = n ∨ j = n + 1 ∨ j = n + 2 ∨ j = n + 3 := by omega
                  rcases j4 with rfl | rfl | rfl | rfl
                  · rw [h0] at hj; cases hj; rw [hax] at hjd; cases hjd; exact htx rfl
                  · rw [h1] at hj; cases hj; rw [hay] at hjd; cases hjd; exact hty rfl
                  · rw [h2] at hj; cases hj; rw [hstx] at hjd; cases hjd
                  · rw [h3] at hj; cases hj; rw [hsty] at hjd; cases hjd
      cases a
      simp only at t1 t2
      rw [t1, t2]
    rw [ha]
    exact final bx by_ w hE x1 y1 hxy (by simpa using x3) (by simpa using y3)
theorem region_store {P : Program} {id n : Nat} {qs1 qs2 : List Oper} {st : Oper} {sp vx : Tmp} {b0 : Nat} {oz ox : Obj} {Q : Exit → Act → World → Prop} {a0 aq : Act} {w0 wb : World} (F : World → Prop)
    (hm : P.follows .mixedOrders = true) (hn : qs1.length = n) (hs : sound (qs1 ++ st :: qs2).toArray = true)
    (hdst : ((qs1 ++ qs2).all fun o => match o.dst with | some t => decide (t < a0.tmps.size) | none => false) = true)
    (hst : st.dst = none) (hox : st.op.operands.toList = [.tmp sp, .tmp vx]) (hvx : (qs1.any fun o => o.dst == some vx) = true) (hsp : ((qs1 ++ qs2).any fun o => o.dst == some sp) = false)
    (hp : a0.tmps.getD sp undef = .pointer (some ⟨b0, 0, none⟩)) (hb0 : w0.heap[b0]? = some oz) (hwb : Ext wb w0) (hle : wb.heap.size ≤ b0)
    (hF : F w0.drew) (hFE : ∀ w w' : World, F w → Ext w w' → F w') (hFS : ∀ w w' : World, F w → (∀ k, k ≠ b0 → w'.heap[k]? = w.heap[k]?) → F w')
    (h : ∀ w1 : World, F w1 → wpQuiet P (qs1 ++ st :: qs2).toArray (fun w' => ∃ p : Regrown, w' = grow (redrawn w1 p.d) p.os) (fun a => a = aq) (qs1 ++ qs2) a0)
    (runs : ∀ (e : Operand → Value) (w : World), e (.tmp sp) = .pointer (some ⟨b0, 0, none⟩) → e (.tmp vx) = aq.tmps.getD vx undef → w.heap[b0]? = some oz →
      ∃ w', (execOp e st).run P w = .ok .skip w' ∧ w'.heap[b0]? = some ox ∧ (∀ k, k ≠ b0 → w'.heap[k]? = w.heap[k]?) ∧ ∀ wb : World, wb.heap.size ≤ b0 → Ext wb w → Ext wb w')
    (final : ∀ w' : World, F w' → Ext wb w' → w'.heap[b0]? = some ox → Q .normal aq w') :
    (Code.region id (qs1 ++ st :: qs2).toArray true).wp P Q a0 w0 := by
  generalize hops : (qs1 ++ st :: qs2).toArray = ops at *
  have hl : ∀ i : Nat, ops[i]? = (qs1 ++ st :: qs2)[i]? := by intro i; rw [← hops]; simp
  have h2 : ops[n]? = some st := by rw [hl]; simp [List.getElem?_append_right, hn]
  -- the operations but the store, by their place
  have hq : ∀ (j : Nat) (o : Oper), (qs1 ++ qs2)[j]? = some o → ops[if j < n then j else j + 1]? = some o := by
    intro j o h
    rw [hl]
    split
    · rename_i hj
      rw [List.getElem?_append_left (by omega)] at h ⊢
      exact h
    · rename_i hj
      rw [List.getElem?_append_right (by omega)] at h ⊢
      rw [show j + 1 - qs1.length = (j - qs1.length) + 1 from by omega]
      simpa using h
  have hqi : ∀ (i : Nat) (o : Oper), ops[i]? = some o → i ≠ n → (qs1 ++ qs2)[if i < n then i else i - 1]? = some o := by
    intro i o h hi
    rw [hl] at h
    split
    · rename_i hj
      rw [List.getElem?_append_left (by omega)] at h ⊢
      exact h
    · rename_i hj
      rw [List.getElem?_append_right (by omega)] at h ⊢
      rw [show i - qs1.length = (i - 1 - qs1.length) + 1 from by omega] at h
      simpa using h
  simp only [sound, Bool.and_eq_true, List.all_eq_true, List.mem_range, decide_eq_true_eq] at hs
  obtain ⟨⟨⟨down, plain⟩, uniq0⟩, reads0⟩ := hs
  have hguard : ∀ (i : Nat) (o : Oper), ops[i]? = some o → o.guard = none ∧ ∀ cs b, o.op ≠ .select cs b := by
    intro i o ho
    have := plain o (by
      have := Array.mem_of_getElem? ho
      simpa using this)
    obtain ⟨g1, g2⟩ := this
    refine ⟨by simpa using g1, fun cs b e => ?_⟩
    rw [e] at g2
    simp at g2
  have uniq : ∀ (i k : Nat) (o o' : Oper) (t : Tmp), ops[i]? = some o → ops[k]? = some o' → o.dst = some t → o'.dst = some t → i = k := by
    intro i k o o' t hi hk hd hd'
    have hi' : i < ops.size := (Array.getElem?_eq_some_iff.1 hi).1
    have hk' : k < ops.size := (Array.getElem?_eq_some_iff.1 hk).1
    rcases Nat.decEq i k with hne | he
    · have := uniq0 i hi' k hk'
      have hw := writer_iff.2 ⟨o', hk, hd'⟩
      rw [hi] at this
      simp [hne, hd, hw] at this
    · exact he
  have reads : ∀ (i : Nat) (o : Oper) (t : Tmp), ops[i]? = some o → (.tmp t) ∈ o.op.operands.toList → ∀ (k : Nat) (o' : Oper), ops[k]? = some o' → o'.dst = some t → (k < i ∧ k ∈ direct ops i) ∨ (i < k ∧ i ∈ direct ops k) := by
    intro i o t hi ht k o' hk hd
    have hi' : i < ops.size := (Array.getElem?_eq_some_iff.1 hi).1
    have hk' : k < ops.size := (Array.getElem?_eq_some_iff.1 hk).1
    have := reads0 i hi' t (by rw [hi]; simp only [Option.map_some, Option.getD_some, List.mem_filterMap]; exact ⟨_, ht, rfl⟩) k hk'
    rw [writer_iff.2 ⟨o', hk, hd⟩] at this
    simpa using this
  have hchain := fun w1 hw1 => chain (qs1 ++ qs2) a0 (fun o ho => by
      obtain ⟨i, hi, rfl⟩ := List.getElem_of_mem ho
      exact (hguard _ (qs1 ++ qs2)[i] (hq i _ (List.getElem?_eq_getElem hi))).1) (fun i k o o' t a b c d => by
      have := uniq _ _ o o' t (hq i o a) (hq k o' b) c d
      split at this <;> split at this <;> omega) (fun o ho => by
      have := List.all_eq_true.1 hdst o ho
      cases hd : o.dst with
      | none => rw [hd] at this; simp at this
      | some t => rw [hd] at this; exact ⟨t, rfl, by simpa using this⟩) (h w1 hw1)
  have hvx' : ∃ (j : Nat) (o : Oper), ops[j]? = some o ∧ j < n ∧ o.dst = some vx := by
    obtain ⟨o, ho, hd⟩ := List.any_eq_true.1 hvx
    obtain ⟨j, hj, rfl⟩ := List.getElem_of_mem ho
    exact ⟨j, qs1[j], by rw [hl, List.getElem?_append_left hj]; simp, by omega, by simpa using hd⟩
  have hnsp : ∀ (j : Nat) (o : Oper), ops[j]? = some o → o.dst ≠ some sp := by
    intro j o ho hd
    by_cases hj : j = n
    · subst hj; rw [h2] at ho; cases ho; rw [hst] at hd; cases hd
    · have hmem := List.mem_of_getElem? (hqi j o ho hj)
      have : ((qs1 ++ qs2).any fun o => o.dst == some sp) = true := List.any_eq_true.2 ⟨o, hmem, by simp [hd]⟩
      rw [hsp] at this
      cases this
  refine wp_inv hm (fun i hi j hj => down i hi j hj) (fun L a w => F w ∧ Ext wb w ∧ a.defers = a0.defers ∧ a.tmps.size = a0.tmps.size ∧
      (∀ (j : Nat) (o : Oper) (t : Tmp), ops[j]? = some o → o.dst = some t → L j = true → a.tmps.getD t undef = aq.tmps.getD t undef) ∧
      (∀ t, (∀ (j : Nat) (o : Oper), ops[j]? = some o → Oper.dst o = some t → L j = false) → a.tmps.getD t undef = a0.tmps.getD t undef) ∧
      w.heap[b0]? = some (cond (L n) ox oz)) ?_ ?_ ?_
  · exact ⟨hF, hwb.drew, rfl, rfl, (fun j o t _ _ h => by cases h), (fun t _ => rfl), hb0⟩
  · intro L i o a w ho hun hpre hcl ⟨hFw, hE, hdf, hts, hfact, hslot, hX⟩
    have hi : i < ops.size := (Array.getElem?_eq_some_iff.1 ho).1
    obtain ⟨hg1, hg2⟩ := hguard i o ho
    rw [if_pos (by simp [Region.wanted, hg1])]
    have hL : ∀ k, k ≠ i → (decide (k = i) || L k) = L k := fun k hk => by simp [hk]
    have slotOf : ∀ (t : Tmp) (k : Nat) (ok : Oper), ops[k]? = some ok → ok.dst = some t → L k = false → a.tmps.getD t undef = a0.tmps.getD t undef := fun t k ok hk hd hl => hslot t fun j oj hj hjd => by
      rw [uniq j k oj ok t hj hk hjd hd]; exact hl
    have facts' : ∀ (u : Value), (∀ t, o.dst = some t → t < a0.tmps.size ∧ u = aq.tmps.getD t undef) → ∀ (j : Nat) (oj : Oper) (tj : Tmp), ops[j]? = some oj → oj.dst = some tj → (decide (j = i) || L j) = true → (a.put o.dst u).tmps.getD tj undef = aq.tmps.getD tj undef := by
      intro u hu j oj tj hj hjd hl
      by_cases hji : j = i
      · subst hji
        rw [ho] at hj
        cases hj
        rw [hjd, put_same _ _ _ (by rw [hts]; exact (hu tj hjd).1), (hu tj hjd).2]
      · rw [put_other _ _ _ _ fun e => hji (uniq j i oj o tj hj ho hjd e)]
        exact hfact j oj tj hj hjd (by rw [hL j hji] at hl; exact hl)
    have slots' : ∀ (v : Value) (tj : Tmp), (∀ (j : Nat) (oj : Oper), ops[j]? = some oj → Oper.dst oj = some tj → (decide (j = i) || L j) = false) → (a.put o.dst v).tmps.getD tj undef = a0.tmps.getD tj undef := by
      intro v tj hall
      have hne' : o.dst ≠ some tj := fun e => by have := hall i o ho e; simp at this
      rw [put_other _ _ _ _ hne']
      exact hslot tj fun j oj hj hjd => by have := hall j oj hj hjd; simp at this; exact this.2
    by_cases hin : i = n
    · subst hin
      rw [h2] at ho
      obtain rfl : st = o := by simpa using ho
      rw [hun, cond_false] at hX
      have esp : a.tmps.getD sp undef = .pointer (some ⟨b0, 0, none⟩) := by
        rw [hslot sp fun j oj hj hjd => absurd hjd (hnsp j oj hj)]; exact hp
      have evx : a.tmps.getD vx undef = aq.tmps.getD vx undef := by
        obtain ⟨j, oj, hj, hji, hjd⟩ := hvx'
        rcases reads i st vx h2 (by rw [hox]; simp) j oj hj hjd with ⟨_, h5⟩ | ⟨h5, _⟩
        · exact hfact j oj vx hj hjd (hpre j h5)
        · omega
      obtain ⟨w2, r1, r2, r3, r4⟩ := runs a.eval w esp evx hX
      unfold Oper.wp
      rw [r1, Oper.upon_skip]
      dsimp only
      exact ⟨hFS w w2 hFw r3, r4 wb hle hE, by rw [put_defers, hdf], by rw [put_size, hts], facts' _ (fun t e => by rw [hst] at e; cases e), slots' _, by simpa using r2⟩
    · have hoq := hqi i o ho hin
      generalize hj : (if i < n then i else i - 1) = j at hoq
      obtain ⟨t, hd, htl⟩ : ∃ t, o.dst = some t ∧ t < a0.tmps.size := by
        have := List.all_eq_true.1 hdst o (List.mem_of_getElem? hoq)
        cases hd : o.dst with
        | none => rw [hd] at this; simp at this
        | some t => rw [hd] at this; exact ⟨t, rfl, by simpa using this⟩
      have qa := (hchain w hFw).2 j o t hoq hd w ⟨⟨w.drawn, #[]⟩, by rw [grow_empty]; rfl⟩
      have intake : ∀ (k : Nat) (ok : Oper), ops[k]? = some ok → k < i → k ≠ n → ok ∈ (qs1 ++ qs2).take j := by
        intro k ok hk hki hkn
        have h9 := hqi k ok hk hkn
        refine List.mem_of_getElem? (i := if k < n then k else k - 1) ?_
        rw [List.getElem?_take_of_lt (by split <;> split at hj <;> omega)]
        exact h9
      have ofake : ∀ (o' : Oper), o' ∈ (qs1 ++ qs2).take j → ∃ k, k < i ∧ ops[k]? = some o' := by
        intro o' hm'
        obtain ⟨m, hml, rfl⟩ := List.getElem_of_mem hm'
        have hmj : m < j := by rw [List.length_take] at hml; omega
        have hmq : (qs1 ++ qs2)[m]? = some ((qs1 ++ qs2).take j)[m] := by
          rw [← List.getElem?_take_of_lt hmj]; exact List.getElem?_eq_getElem hml
        exact ⟨_, by split at hj <;> split <;> omega, hq m _ hmq⟩
      have he : execOp a.eval o = execOp (puts aq ((qs1 ++ qs2).take j) a0).eval o := execOp_congr o hg2 fun x hx => by
        cases x with
        | tmp t' =>
          show a.tmps.getD t' undef = (puts aq ((qs1 ++ qs2).take j) a0).tmps.getD t' undef
          by_cases hw : ∃ (k : Nat) (ok : Oper), ops[k]? = some ok ∧ ok.dst = some t'
          · obtain ⟨k, ok, hk, hkd⟩ := hw
            have hkn : k ≠ n := fun e => by subst e; rw [h2] at hk; cases hk; rw [hst] at hkd; cases hkd
            rcases reads i o t' ho (by simpa using hx) k ok hk hkd with ⟨h4, h5⟩ | ⟨h4, h5⟩
            · have hts' : t' < a0.tmps.size := by
                have := List.all_eq_true.1 hdst ok (List.mem_of_getElem? (hqi k ok hk hkn))
                rw [hkd] at this
                simpa using this
              rw [hfact k ok t' hk hkd (hpre k h5), puts_writer aq t' _ _ hts' ⟨ok, intake k ok hk h4 hkn, hkd⟩]
            · have hlk : L k = false := by
                cases hlk : L k with
                | false => rfl
                | true => have := hcl k hlk i h5; rw [hun] at this; cases this
              rw [slotOf t' k ok hk hkd hlk, puts_none]
              rintro ⟨o', hm', hd'⟩
              obtain ⟨m, hmi, hmq⟩ := ofake o' hm'
              have := uniq m k _ ok t' hmq hk hd' hkd
              omega
          · rw [hslot t' fun j oj hj hjd => absurd ⟨j, oj, hj, hjd⟩ hw, puts_none]
            rintro ⟨o', hm', hd'⟩
            obtain ⟨m, hmi, hmq⟩ := ofake o' hm'
            exact hw ⟨m, _, hmq, hd'⟩
        | _ => rfl
      have upd : ∀ (u : Value) (w2 : World), Ext w w2 → u = aq.tmps.getD t undef → (fun (L : Nat → Bool) (a : Act) (w : World) => F w ∧ Ext wb w ∧ a.defers = a0.defers ∧ a.tmps.size = a0.tmps.size ∧
          (∀ (j : Nat) (o : Oper) (t : Tmp), ops[j]? = some o → o.dst = some t → L j = true → a.tmps.getD t undef = aq.tmps.getD t undef) ∧
          (∀ t, (∀ (j : Nat) (o : Oper), ops[j]? = some o → Oper.dst o = some t → L j = false) → a.tmps.getD t undef = a0.tmps.getD t undef) ∧
          w.heap[b0]? = some (cond (L n) ox oz)) (fun j => decide (j = i) || L j) (a.put o.dst u) w2 := by
        intro u w2 hE2 hu
        dsimp only
        have hlt : b0 < w.heap.size := (Array.getElem?_eq_some_iff.1 hX).1
        refine ⟨hFE w w2 hFw hE2, hE.trans hE2, by rw [put_defers, hdf], by rw [put_size, hts], facts' _ (fun t' e => ?_), slots' _, ?_⟩
        · rw [hd] at e; cases e; exact ⟨htl, hu⟩
        · rw [hL n (by omega), Below.block hE2 b0 hlt]; exact hX
      unfold Oper.quietAt at qa
      unfold Oper.wp
      rw [he]
      generalize (execOp (puts aq ((qs1 ++ qs2).take j) a0).eval o).run P w = r at qa
      match r, qa with
      | .ok (.value u) w', qa =>
        obtain ⟨rfl, rfl⟩ := qa
        exact upd _ _ (Ext.refl _) rfl
      | .ok .skip w', qa =>
        obtain ⟨rfl, hv⟩ := qa
        exact upd _ _ (Ext.refl _) hv.symm
      | .ok (.enter f args) w', qa =>
        obtain ⟨rfl, hc⟩ := qa
        rw [Oper.upon_enter]
        refine hc.mono ?_
        rintro e w2 ⟨rfl, p, rfl⟩
        exact upd _ _ (Ext.grow _ _ _) rfl
  · intro a w ⟨hFw, hE, hdf, hts, hfact, hslot, hX⟩
    have hnsz : n < ops.size := (Array.getElem?_eq_some_iff.1 h2).1
    have haq := (hchain w hFw).1
    have tsz : aq.tmps.size = a0.tmps.size := by rw [haq]; exact (puts_size ..).1
    have tdf : aq.defers = a0.defers := by rw [haq]; exact (puts_size ..).2
    have ha : a = aq := by
      have t1 : a.defers = aq.defers := by rw [hdf, tdf]
      have t2 : a.tmps = aq.tmps := by
        apply Array.ext
        · rw [hts, tsz]
        · intro t l1 l2
          have e1 : ∀ (b : Act) (h : t < b.tmps.size), b.tmps[t] = b.tmps.getD t undef := fun b h => by simp [Array.getD_eq_getD_getElem?, h]
          rw [e1 _ l1, e1 _ l2]
          by_cases hw : ∃ (k : Nat) (ok : Oper), ops[k]? = some ok ∧ ok.dst = some t
          · obtain ⟨k, ok, hk, hkd⟩ := hw
            exact hfact k ok t hk hkd (by simpa using (Array.getElem?_eq_some_iff.1 hk).1)
          · rw [hslot t fun j oj hj hjd => absurd ⟨j, oj, hj, hjd⟩ hw]
            have e0 : aq.tmps.getD t undef = a0.tmps.getD t undef := by
              rw [haq]
              exact puts_none _ _ _ _ fun ⟨o', hm', hd'⟩ => by
                obtain ⟨m, hm2, rfl⟩ := List.getElem_of_mem hm'
                exact hw ⟨_, _, hq m _ (List.getElem?_eq_getElem hm2), hd'⟩
            rw [e0]
      cases a
      cases aq
      simp only at t1 t2
      rw [t1, t2]
    rw [ha]
    exact final w hFw hE (by simpa [hnsz] using hX)

/-- cells that hold these values -/
def Has : List (Nat × Nat × Value) → World → Prop
  | [], _ => True
  | (b, o, v) :: l, w => w.cell? ⟨b, o, none⟩ = some v ∧ Has l w
theorem Has.ext : ∀ {l : List (Nat × Nat × Value)} {w w' : World}, Has l w → Ext w w' → Has l w'
  | [], _, _, _, _ => trivial
  | (_, _, _) :: _, _, _, ⟨h, k⟩, hE => ⟨hE.get h, k.ext hE⟩
theorem Has.other {b0 : Nat} : ∀ {l : List (Nat × Nat × Value)} {w w' : World}, (l.all fun x => decide (x.1 ≠ b0)) = true → Has l w → (∀ k, k ≠ b0 → w'.heap[k]? = w.heap[k]?) → Has l w'
  | [], _, _, _, _, _ => trivial
  | (b, o, v) :: l, w, w', hn, ⟨h, k⟩, hh => by
    simp only [List.all_cons, Bool.and_eq_true, decide_eq_true_eq] at hn
    refine ⟨?_, Has.other (by simpa using hn.2) k hh⟩
    rw [World.cell?_of_block (w := w) (hh b hn.1)]
    exact h
theorem results_row2 {P : Program} {fn : Func} {p u : Tmp} {ty : TypeId} (h : fn.results = #[.cell p ty, .tmp u]) (tmps : Array Value) (w : World) (g : Nat) (t : TypeId) (cs : Array Value) (fr : Nat × Nat) (d : TypeDesc)
    (hp : tmps.getD p undef = .pointer (some ⟨g, 0, none⟩)) (hg : w.heap[g]? = some (.cells cs t fr))
    (hu : P.underlying ty = some d) (hd : (match d with | .struct _ | .array _ _ => true | _ => false) = true) (hi : (P.info? ty).map (·.size) = some cs.size) :
    (results fn tmps).run P w = .ok (.tuple #[.agg cs, tmps.getD u undef]) w := by
  have hp' : tmps[p]?.getD undef = .pointer (some ⟨g, 0, none⟩) := by simpa using hp
  simp [results, h, hp', asAddr, Sem.run_bind, Result.andThen, run_loadVar_row w g t ty cs fr d hg hu hd hi]
theorem results_row1 {P : Program} {fn : Func} {p : Tmp} {ty : TypeId} (h : fn.results = #[.cell p ty]) (tmps : Array Value) (w : World) (g : Nat) (t : TypeId) (cs : Array Value) (fr : Nat × Nat) (d : TypeDesc)
    (hp : tmps.getD p undef = .pointer (some ⟨g, 0, none⟩)) (hg : w.heap[g]? = some (.cells cs t fr))
    (hu : P.underlying ty = some d) (hd : (match d with | .struct _ | .array _ _ => true | _ => false) = true) (hi : (P.info? ty).map (·.size) = some cs.size) :
    (results fn tmps).run P w = .ok (.agg cs) w := by
  have hp' : tmps[p]?.getD undef = .pointer (some ⟨g, 0, none⟩) := by simpa using hp
  simp [results, h, hp', asAddr, Sem.run_bind, Result.andThen, run_loadVar_row w g t ty cs fr d hg hu hd hi]
end Go.Proofs.YtlnofbdhamingaaDoor.RT
