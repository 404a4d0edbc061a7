/- A region that draws its order, the first operations of which only make memory (and read what was there): whatever order is picked, each of them leaves what is promised of it; the last operations come behind them, in the order of the text. Generic: no program in sight. -/
import Derived.Test.YtcbimfaneinpkaaLists
import Derived.Orders
import Derived.Still
namespace Go.Proofs.Ytcbimfaneinpkaa.RG
open Go Go.RowKit

/-- what is promised of the value of an operation, and of the world -/
abbrev Prom := Nat → Value → World → Prop

def writer (ops : Array Oper) (t j : Nat) : Bool := ((ops[j]?).map fun o => o.dst == some t).getD false
/-- the last operation before 'i' that writes slot 't' -/
def src (ops : Array Oper) (i t : Nat) : Option Nat := (List.range i).reverse.find? (writer ops t)
def direct (ops : Array Oper) (k : Nat) : List Nat := ((ops[k]?).map fun o => (o.after.toList.filter (Region.binds .any)).map (·.on)).getD []
def need (ops : Array Oper) : Nat → Nat → List Nat
  | 0, _ => []
  | f + 1, k => direct ops k ++ (direct ops k).flatMap (need ops f)

/-- an operation 'i' of the first 'n' reads slot 't': whoever writes it has come before, or comes later -/
def readOk (ops : Array Oper) (n i t : Nat) : Bool :=
  (List.range ops.size).all fun k => k == i || !writer ops t k || (decide (k < i) && (src ops i t == some k) && (direct ops i).contains k) || (decide (i < k) && (decide (n ≤ k) || (direct ops k).contains i))
/-- 'dr i': of which operations nothing is promised any more once 'i' has come (it may write what they have made) -/
abbrev Drop := Nat → List Nat
def dropOk (ops : Array Oper) (dr : Drop) (n i t : Nat) : Bool :=
  match src ops i t with
  | some j => (List.range n).all fun k => k == i || !(dr k).contains j || (direct ops k).contains i
  | none => true
def check (ops : Array Oper) (dr : Drop) (n : Nat) : Bool :=
  decide (n ≤ ops.size) &&
  ((List.range n).all fun i => (((ops[i]?).map fun o => Oper.looksAt ops o).getD []).all (dropOk ops dr n i)) &&
  ((List.range n).all fun i => (direct ops i).all fun j => decide (j < i)) &&
  ((List.range n).all fun i => (((ops[i]?).map fun o => Oper.looksAt ops o).getD []).all (readOk ops n i)) &&
  ((List.range n).all fun i => (List.range n).all fun k => i == k || (match (ops[i]?).bind (·.dst) with | some t => !writer ops t k | none => true)) &&
  ((List.range ops.size).all fun k => decide (k < n) || ((List.range n).all fun j => (need ops ops.size k).contains j)) &&
  ((List.range ops.size).all fun k => decide (k < n) || (Region.ready .any ops ((Array.range ops.size).map fun j => decide (j < k)) == [k]))

def ReadsOk (ops : Array Oper) (G : Prom) (a0 : Act) (i : Nat) (o : Oper) (a : Act) (w : World) : Prop :=
  ∀ t ∈ Oper.looksAt ops o, match src ops i t with
    | some j => G j (a.tmps.getD t undef) w
    | none => a.tmps.getD t undef = a0.tmps.getD t undef

/-- what is promised of the others stays -/
def Keep (ops : Array Oper) (G : Prom) (dr : Drop) (i : Nat) (w w' : World) : Prop := ∀ j v, j ∉ dr i → j ≠ i → i ∉ direct ops j → G j v w → G j v w'
def Step (P : Program) (ops : Array Oper) (G : Prom) (dr : Drop) (a0 : Act) (w0 : World) (i : Nat) (o : Oper) : Prop :=
  ∀ (a : Act) (w : World) (Q : Exit → Act → World → Prop), Ext w0 w → ReadsOk ops G a0 i o a w →
    if Region.wanted o (yielded ops a.tmps) = true then o.wp P a w (fun a' w' => ∃ v, a' = a.put o.dst v ∧ Ext w0 w' ∧ Keep ops G dr i w w' ∧ G i v w') Q else G i undef w

def puts : List Oper → Nat → Act → (Nat → Value) → Act
  | [], _, a, _ => a
  | o :: l, i, a, vs => puts l (i + 1) (a.put o.dst (vs i)) vs

section
variable {P : Program} {ops : Array Oper} {G : Prom} {dr : Drop} {a0 : Act} {w0 : World} {n : Nat} {Q : Exit → Act → World → Prop}

theorem put_defers (a : Act) (d : Option Tmp) (v : Value) : (a.put d v).defers = a.defers := by cases d <;> rfl
theorem put_size (a : Act) (d : Option Tmp) (v : Value) : (a.put d v).tmps.size = a.tmps.size := by cases d <;> simp [Act.put]
theorem put_same (a : Act) (t : Tmp) (v : Value) (h : t < a.tmps.size) : (a.put (some t) v).tmps.getD t undef = v := by
  simp [Act.put, Array.getD_eq_getD_getElem?, h]
theorem put_other (a : Act) (d : Option Tmp) (t : Tmp) (v : Value) (h : d ≠ some t) : (a.put d v).tmps.getD t undef = a.tmps.getD t undef := by
  cases d with
  | none => rfl
  | some d => simp [Act.put, Array.getD_eq_getD_getElem?, Array.getElem?_setIfInBounds_ne (show d ≠ t from fun e => h (by rw [e]))]

/-- Listed operations have their predecessors listed. -/
def Closed (ops : Array Oper) (listed : Array Bool) : Prop := ∀ i, i < ops.size → listed.getD i false = true → ∀ j ∈ direct ops i, listed.getD j false = true

theorem need_listed {listed : Array Bool} (hsz : listed.size = ops.size) (hc : Closed ops listed) : ∀ (f k : Nat), (∀ j ∈ direct ops k, listed.getD j false = true) → ∀ j ∈ need ops f k, listed.getD j false = true := by
  intro f
  induction f with
  | zero => intro k _ j hj; simp [need] at hj
  | succ f ih =>
    intro k hk j hj
    simp only [need, List.mem_append, List.mem_flatMap] at hj
    rcases hj with hj | ⟨m, hm, hj⟩
    · exact hk j hj
    · have h1 := hk m hm
      have hlt : m < ops.size := by
        rcases Nat.lt_or_ge m listed.size with h | h
        · omega
        · simp [Array.getD_eq_getD_getElem?, Array.getElem?_eq_none h] at h1
      exact ih m (hc m hlt h1) j hj

theorem direct_of {k : Nat} {o : Oper} (ho : ops[k]? = some o) (j : Nat) : j ∈ direct ops k ↔ ∃ e ∈ o.after, Region.binds .any e = true ∧ e.on = j := by
  simp [direct, ho, List.mem_map, List.mem_filter]
  constructor
  · rintro ⟨e, ⟨h1, h2⟩, h3⟩; exact ⟨e, h1, h2, h3⟩
  · rintro ⟨e, h1, h2, h3⟩; exact ⟨e, ⟨h1, h2⟩, h3⟩

structure Inv (ops : Array Oper) (G : Prom) (dr : Drop) (a0 : Act) (w0 : World) (n : Nat) (listed : Array Bool) (a : Act) (w : World) : Prop where
  size : listed.size = ops.size
  closed : Closed ops listed
  tail : ∀ k, n ≤ k → listed.getD k false = false
  dfr : a.defers = a0.defers
  tsz : a.tmps.size = a0.tmps.size
  ext : Ext w0 w
  slots : ∀ t, (∀ j, j < n → listed.getD j false = true → writer ops t j = false) → a.tmps.getD t undef = a0.tmps.getD t undef
  facts : ∀ j o t, j < n → listed.getD j false = true → ops[j]? = some o → o.dst = some t → (∀ i, i < n → listed.getD i false = true → j ∉ dr i) → G j (a.tmps.getD t undef) w

structure Ok (ops : Array Oper) (dr : Drop) (n : Nat) : Prop where
  le : n ≤ ops.size
  down : ∀ i, i < n → ∀ j ∈ direct ops i, j < i
  reads : ∀ i o, i < n → ops[i]? = some o → ∀ t ∈ Oper.looksAt ops o, ∀ k, k < ops.size → k ≠ i → writer ops t k = true →
    (k < i ∧ src ops i t = some k ∧ k ∈ direct ops i) ∨ (i < k ∧ (n ≤ k ∨ i ∈ direct ops k))
  drops : ∀ i o, i < n → ops[i]? = some o → ∀ t ∈ Oper.looksAt ops o, ∀ j, src ops i t = some j → ∀ k, k < n → k ≠ i → j ∈ dr k → i ∈ direct ops k
  uniq : ∀ i k, i < n → k < n → i ≠ k → ∀ o t, ops[i]? = some o → o.dst = some t → writer ops t k = false
  needs : ∀ k, k < ops.size → n ≤ k → ∀ j, j < n → j ∈ need ops ops.size k
  lex : ∀ k, k < ops.size → n ≤ k → Region.ready .any ops ((Array.range ops.size).map fun j => decide (j < k)) = [k]

theorem ok_of_check (h : check ops dr n = true) : Ok ops dr n := by
  simp only [check, Bool.and_eq_true, List.all_eq_true, List.mem_range, decide_eq_true_eq] at h
  obtain ⟨⟨⟨⟨⟨⟨h1, hd⟩, h0⟩, h2⟩, h3⟩, h4⟩, h5⟩ := h
  refine ⟨h1, fun i hi j hj => h0 i hi j hj, fun i o hi ho t ht k hk hki hw => ?_, fun i o hi ho t ht j hs k hk hki hj => ?_, fun i k hi hk hik o t ho hd => ?_, fun k hk hn j hj => ?_, fun k hk hn => ?_⟩
  · have h6 := h2 i hi
    rw [ho] at h6
    have h7 := h6 t (by simpa using ht)
    simp only [readOk, List.all_eq_true, List.mem_range] at h7
    have h8 := h7 k hk
    simp [hki, hw] at h8
    rcases h8 with ⟨⟨a1, a2⟩, a3⟩ | ⟨a1, a2⟩
    · exact .inl ⟨a1, a2, a3⟩
    · exact .inr ⟨a1, a2⟩
  · have h6 := hd i hi
    rw [ho] at h6
    have h7 := h6 t (by simpa using ht)
    simp only [dropOk, hs, List.all_eq_true, List.mem_range] at h7
    have h8 := h7 k hk
    simp [hki, hj] at h8
    exact h8
  · have h6 := h3 i hi k hk
    rw [ho] at h6
    simp [hik, hd] at h6
    exact h6
  · have h6 := h4 k hk
    simp only [Bool.or_eq_true, decide_eq_true_eq, List.all_eq_true, List.mem_range] at h6
    rcases h6 with h6 | h6
    · omega
    · simpa using h6 j hj
  · have h6 := h5 k hk
    simp only [Bool.or_eq_true, decide_eq_true_eq] at h6
    rcases h6 with h6 | h6
    · omega
    · simpa using h6

theorem writer_iff {t j : Nat} : writer ops t j = true ↔ ∃ o, ops[j]? = some o ∧ o.dst = some t := by
  unfold writer
  cases ops[j]? with
  | none => simp
  | some o => simp

theorem src_spec {i t j : Nat} (h : src ops i t = some j) : j < i ∧ writer ops t j = true := by
  unfold src at h
  have h1 := List.mem_of_find?_eq_some h
  have h2 := List.find?_some h
  exact ⟨by simpa using h1, h2⟩

theorem readsOk_of_inv (hok : Ok ops dr n) {listed : Array Bool} {a : Act} {w : World} (hI : Inv ops G dr a0 w0 n listed a w) {i : Nat} {o : Oper} (hi : i < n) (ho : ops[i]? = some o)
    (hun : listed.getD i false = false) (hpre : ∀ j ∈ direct ops i, listed.getD j false = true) : ReadsOk ops G a0 i o a w := by
  intro t ht
  have hlt : i < ops.size := Nat.lt_of_lt_of_le hi hok.le
  cases hs : src ops i t with
  | some j =>
    obtain ⟨hj, hw⟩ := src_spec hs
    rcases hok.reads i o hi ho t ht j (by omega) (by omega) hw with ⟨_, _, h3⟩ | ⟨h1, _⟩
    · obtain ⟨oj, hoj, hdj⟩ := writer_iff.1 hw
      exact hI.facts j oj t (by omega) (hpre j h3) hoj hdj fun k hk hl hd => by
        by_cases hki : k = i
        · rw [hki, hun] at hl; cases hl
        · have := hI.closed k (Nat.lt_of_lt_of_le hk hok.le) hl i (hok.drops i o hi ho t ht j hs k hk hki hd)
          rw [hun] at this; cases this
    · omega
  | none =>
    refine hI.slots t fun j hj hl => ?_
    cases hw : writer ops t j with
    | false => rfl
    | true =>
      have hji : j ≠ i := fun e => by rw [e, hun] at hl; cases hl
      have hjs : j < ops.size := Nat.lt_of_lt_of_le hj hok.le
      rcases hok.reads i o hi ho t ht j hjs hji hw with ⟨_, h2, _⟩ | ⟨_, h2⟩
      · rw [hs] at h2; cases h2
      · rcases h2 with h2 | h2
        · omega
        · have := hI.closed j hjs hl i h2
          rw [hun] at this; cases this

theorem getD_set {listed : Array Bool} {i j : Nat} (hi : i < listed.size) : (listed.setIfInBounds i true).getD j false = if j = i then true else listed.getD j false := by
  split
  · rename_i h
    subst h
    simp [Array.getD_eq_getD_getElem?, hi]
  · rename_i h
    simp [Array.getD_eq_getD_getElem?, Array.getElem?_setIfInBounds_ne (Ne.symm h)]

theorem inv_step (hok : Ok ops dr n) (hdst : ∀ i o t, i < n → ops[i]? = some o → o.dst = some t → t < a0.tmps.size)
    {listed : Array Bool} {a : Act} {w w' : World} (hI : Inv ops G dr a0 w0 n listed a w) {i : Nat} {o : Oper} (hi : i < n) (ho : ops[i]? = some o)
    (hun : listed.getD i false = false) (hpre : ∀ j ∈ direct ops i, listed.getD j false = true) {v : Value} (hb : Ext w0 w') (hkeep : Keep ops G dr i w w') (hG : G i v w') :
    Inv ops G dr a0 w0 n (listed.setIfInBounds i true) (a.put o.dst v) w' := by
  have his : i < listed.size := by rw [hI.size]; exact Nat.lt_of_lt_of_le hi hok.le
  refine ⟨by simp [hI.size], fun k hk hl j hj => ?_, fun k hk => ?_, by rw [put_defers, hI.dfr], by rw [put_size, hI.tsz], hb, fun t ht => ?_, fun j oj t hj hl hoj hd hdr => ?_⟩
  · rw [getD_set his] at hl ⊢
    split
    · rfl
    · split at hl
      · rename_i h1; subst h1; exact hpre j hj
      · exact hI.closed k hk hl j hj
  · rw [getD_set his, if_neg (by omega)]
    exact hI.tail k hk
  · have hne : o.dst ≠ some t := fun e => by
      have := ht i hi (by rw [getD_set his, if_pos rfl])
      rw [writer_iff.2 ⟨o, ho, e⟩] at this
      cases this
    rw [put_other _ _ _ _ hne]
    exact hI.slots t fun j hj hl => ht j hj (by rw [getD_set his]; split <;> first | rfl | exact hl)
  · rw [getD_set his] at hl
    by_cases hji : j = i
    · subst hji
      rw [ho] at hoj
      cases hoj
      rw [hd, put_same _ _ _ (by rw [hI.tsz]; exact hdst _ _ _ hi ho hd)]
      exact hG
    · rw [if_neg hji] at hl
      have hne : o.dst ≠ some t := fun e => by
        have := hok.uniq j i hj hi hji oj t hoj hd
        rw [writer_iff.2 ⟨o, ho, e⟩] at this
        cases this
      rw [put_other _ _ _ _ hne]
      exact hkeep _ _ (hdr i hi (by rw [getD_set his, if_pos rfl])) hji (fun hc => by
        have := hI.closed j (Nat.lt_of_lt_of_le hj hok.le) hl i hc
        rw [hun] at this; cases this) (hI.facts j oj t hj hl hoj hd fun k hk hl' => hdr k hk (by rw [getD_set his]; split <;> first | rfl | exact hl'))

theorem tail_run (hok : Ok ops dr n) : ∀ (m k fuel : Nat) (a : Act) (w : World), k + m = ops.size → n ≤ k → m ≤ fuel → wpOps P ops Q (List.range' k m) a w →
    wpAny P .any ops Q fuel ((Array.range ops.size).map fun j => decide (j < k)) a w := by
  intro m
  induction m with
  | zero =>
    intro k fuel a w hk hn _ h
    have hr : Region.ready .any ops ((Array.range ops.size).map fun j => decide (j < k)) = [] := by
      rw [List.eq_nil_iff_forall_not_mem]
      intro j hj
      obtain ⟨h1, o, ho, _⟩ := mem_ready.1 hj
      have hlt : j < ops.size := (Array.getElem?_eq_some_iff.1 ho).1
      simp [Array.getD_eq_getD_getElem?, hlt] at h1
      omega
    simp only [List.range'_zero, wpOps] at h
    cases fuel with
    | zero => exact ⟨hr, h⟩
    | succ fuel => exact ⟨fun _ => h, fun i hi => by rw [hr] at hi; cases hi⟩
  | succ m ih =>
    intro k fuel a w hk hn hf h
    cases fuel with
    | zero => omega
    | succ fuel =>
      have hr := hok.lex k (by omega) hn
      rw [List.range'_succ, wpOps_cons] at h
      refine ⟨(fun h0 => by rw [hr] at h0; cases h0), fun i hi => ?_⟩
      rw [hr] at hi
      obtain rfl : i = k := by simpa using hi
      have hset : (((Array.range ops.size).map fun j => decide (j < i)).setIfInBounds i true) = (Array.range ops.size).map fun j => decide (j < i + 1) := by
        apply Array.ext
        · simp
        · intro j h1 h2
          have hj : j < ops.size := by simpa using h2
          by_cases h3 : i = j
          · subst h3; simp
          · rw [Array.getElem_setIfInBounds_ne (by simpa using hj) h3]
            simp only [Array.getElem_map, Array.getElem_range]
            exact decide_eq_decide.2 (by omega)
      rw [hset]
      exact wpOp_mono (fun a' w' h' => ih (i + 1) fuel a' w' (by omega) (by omega) (by omega) h') h

/-- The slots that some operations write, and the others. -/
theorem puts_get : ∀ (l : List Oper) (i : Nat) (a : Act) (vs : Nat → Value) (t : Tmp),
    (∀ (j : Nat) (o : Oper), l[j]? = some o → o.dst = some t → ∀ (k : Nat) (o' : Oper), l[k]? = some o' → o'.dst = some t → k = j) → t < a.tmps.size →
    (puts l i a vs).tmps.getD t undef = match l.findIdx? (fun o => o.dst == some t) with | some j => vs (i + j) | none => a.tmps.getD t undef := by
  intro l
  induction l with
  | nil => intro i a vs t _ _; rfl
  | cons o l ih =>
    intro i a vs t hu ht
    simp only [puts]
    rw [ih (i + 1) _ vs t (fun j o1 h1 h2 k o2 h3 h4 => by
      have := hu (j + 1) o1 (by simpa using h1) h2 (k + 1) o2 (by simpa using h3) h4
      omega) (by rw [put_size]; exact ht)]
    by_cases hd : o.dst = some t
    · have h0 : l.findIdx? (fun o => o.dst == some t) = none := by
        rw [List.findIdx?_eq_none_iff]
        intro x hx
        obtain ⟨m, hm, rfl⟩ := List.getElem_of_mem hx
        rw [beq_eq_false_iff_ne]
        intro e
        have := hu 0 o rfl hd (m + 1) l[m] (by simp [hm]) e
        omega
      rw [h0, List.findIdx?_cons]
      simp only [hd, beq_self_eq_true, if_true]
      exact put_same _ _ _ ht
    · rw [List.findIdx?_cons]
      have hb : (o.dst == some t) = false := by rw [beq_eq_false_iff_ne]; exact hd
      simp only [hb, Bool.false_eq_true, if_false]
      cases l.findIdx? (fun o => o.dst == some t) with
      | none => simp only [Option.map_none]; exact put_other _ _ _ _ hd
      | some j => simp only [Option.map_some]; congr 1; omega
theorem puts_defers : ∀ (l : List Oper) (i : Nat) (a : Act) (vs : Nat → Value), (puts l i a vs).defers = a.defers := by
  intro l
  induction l with
  | nil => intro i a vs; rfl
  | cons o l ih => intro i a vs; simp only [puts]; rw [ih, put_defers]
theorem puts_size : ∀ (l : List Oper) (i : Nat) (a : Act) (vs : Nat → Value), (puts l i a vs).tmps.size = a.tmps.size := by
  intro l
  induction l with
  | nil => intro i a vs; rfl
  | cons o l ih => intro i a vs; simp only [puts]; rw [ih, put_size]

theorem main {l : List Oper} (hok : Ok l.toArray dr n) (hdst : ∀ (i : Nat) (o : Oper) (t : Tmp), i < n → l[i]? = some o → o.dst = some t → t < a0.tmps.size)
    (steps : ∀ (i : Nat) (o : Oper), i < n → l[i]? = some o → Step P l.toArray G dr a0 w0 i o)
    (final : ∀ (vs : Nat → Value) (w : World), Ext w0 w → (∀ (i : Nat) (o : Oper) (t : Tmp), i < n → l[i]? = some o → o.dst = some t → (∀ k, k < n → i ∉ dr k) → G i (vs i) w) → wpList P l.toArray Q (l.drop n) (puts (l.take n) 0 a0 vs) w) :
    ∀ (fuel : Nat) (listed : Array Bool) (a : Act) (w : World), Inv l.toArray G dr a0 w0 n listed a w → listed.toList.count false ≤ fuel → wpAny P .any l.toArray Q fuel listed a w := by
  have hle := hok.le
  have fin : ∀ (fuel : Nat) (listed : Array Bool) (a : Act) (w : World), Inv l.toArray G dr a0 w0 n listed a w → listed.toList.count false ≤ fuel → (∀ j, j < n → listed.getD j false = true) → wpAny P .any l.toArray Q fuel listed a w := by
    intro fuel listed a w hI hf hall
    have hL : listed = (Array.range l.toArray.size).map fun j => decide (j < n) := by
      apply Array.ext
      · simp [hI.size]
      · intro j h1 h2
        simp only [Array.getElem_map, Array.getElem_range]
        rcases Nat.lt_or_ge j n with h | h
        · have := hall j h
          rw [Array.getD_eq_getD_getElem?, Array.getElem?_eq_getElem h1] at this
          simpa [h] using this
        · have := hI.tail j h
          rw [Array.getD_eq_getD_getElem?, Array.getElem?_eq_getElem h1] at this
          rw [decide_eq_false (by omega)]
          simpa using this
    have hcount : l.toArray.size - n ≤ fuel := by
      refine Nat.le_trans ?_ hf
      rw [hL]
      have e : ((Array.range l.toArray.size).map fun j => decide (j < n)).toList = (List.range n).map (fun j => decide (j < n)) ++ (List.range' n (l.toArray.size - n)).map (fun j => decide (j < n)) := by
        rw [← List.map_append, List.range_eq_range']
        have h1 := List.range'_append_1 (s := 0) (m := n) (n := l.toArray.size - n)
        rw [Nat.zero_add] at h1
        rw [h1]
        simp only [Array.toList_map, Array.toList_range, List.range_eq_range']
        congr 2
        omega
      rw [e, List.count_append]
      have h2 : ((List.range' n (l.toArray.size - n)).map fun j => decide (j < n)) = List.replicate (l.toArray.size - n) false := by
        rw [List.eq_replicate_iff]
        refine ⟨by simp, fun b hb => ?_⟩
        obtain ⟨j, hj, rfl⟩ := List.mem_map.1 hb
        rw [List.mem_range'_1] at hj
        exact decide_eq_false (by omega)
      rw [h2, List.count_replicate_self]
      omega
    rw [hL]
    refine tail_run hok (l.toArray.size - n) n fuel a w (by omega) (Nat.le_refl _) hcount ?_
    have h3 := final (fun i => match (l[i]?).bind (·.dst) with | some t => a.tmps.getD t undef | none => undef) w hI.ext (fun i o t hi ho hd hdr => by
      have := hI.facts i o t hi (hall i hi) (by simpa using ho) hd (fun k hk _ => hdr k hk)
      simpa [ho, hd] using this)
    have hact : puts (l.take n) 0 a0 (fun i => match (l[i]?).bind (·.dst) with | some t => a.tmps.getD t undef | none => undef) = a := by
      have hd : (puts (l.take n) 0 a0 (fun i => match (l[i]?).bind (·.dst) with | some t => a.tmps.getD t undef | none => undef)).defers = a.defers := by rw [puts_defers, hI.dfr]
      have ht : (puts (l.take n) 0 a0 (fun i => match (l[i]?).bind (·.dst) with | some t => a.tmps.getD t undef | none => undef)).tmps = a.tmps := by
        apply Array.ext
        · rw [puts_size, hI.tsz]
        · intro t h1 h2
          have hta : t < a0.tmps.size := by rw [puts_size] at h1; exact h1
          have huni : ∀ (j : Nat) (o : Oper), (l.take n)[j]? = some o → o.dst = some t → ∀ (k : Nat) (o' : Oper), (l.take n)[k]? = some o' → o'.dst = some t → k = j := by
            intro j o h1 h2 k o' h3 h4
            have hj : j < n := by have := (List.getElem?_eq_some_iff.1 h1).1; simp at this; omega
            have hk : k < n := by have := (List.getElem?_eq_some_iff.1 h3).1; simp at this; omega
            rw [List.getElem?_take_of_lt hj] at h1
            rw [List.getElem?_take_of_lt hk] at h3
            rcases Nat.decEq k j with hne | he
            · have := hok.uniq j k hj hk (fun e => hne e.symm) o t (by simpa using h1) h2
              rw [writer_iff.2 ⟨o', by simpa using h3, h4⟩] at this
              cases this
            · exact he
          have hg := puts_get (l.take n) 0 a0 (fun i => match (l[i]?).bind (·.dst) with | some t => a.tmps.getD t undef | none => undef) t huni hta
          have e1 : ∀ (b : Act) (h : t < b.tmps.size), b.tmps[t] = b.tmps.getD t undef := fun b h => by simp [Array.getD_eq_getD_getElem?, h]
          rw [e1 _ h1, e1 _ h2, hg]
          cases hfi : (l.take n).findIdx? (fun o => o.dst == some t) with
          | some j =>
            obtain ⟨hjl, hjd, _⟩ := List.findIdx?_eq_some_iff_getElem.1 hfi
            have hj : j < n := by simp at hjl; omega
            have hjl' : j < l.length := by simp at hjl; omega
            have hjd' : l[j].dst = some t := by simpa using hjd
            simp [hjl', hjd']
          | none =>
            rw [List.findIdx?_eq_none_iff] at hfi
            symm
            refine hI.slots t fun j hj _ => ?_
            cases hw : writer l.toArray t j with
            | false => rfl
            | true =>
              obtain ⟨o, ho, hd⟩ := writer_iff.1 hw
              have ho' : l[j]? = some o := by simpa using ho
              have hm : o ∈ l.take n := by
                have : (l.take n)[j]? = some o := by rw [List.getElem?_take_of_lt hj]; exact ho'
                exact List.mem_of_getElem? this
              have := hfi o hm
              rw [hd] at this
              simp at this
      cases a
      cases hp : puts (l.take n) 0 a0 (fun i => match (l[i]?).bind (·.dst) with | some t => _ | none => undef)
      rw [hp] at hd ht
      simp only at hd ht
      rw [hd, ht]
    rw [hact] at h3
    have hlen : l.toArray.size - n = (l.drop n).length := by simp
    rw [hlen, wpOps_eq_wpList (ops := l.toArray) (l.drop n) n (fun j => by simp)]
    exact h3
  intro fuel
  induction fuel with
  | zero =>
    intro listed a w hI hf
    refine fin 0 listed a w hI hf fun j hj => ?_
    have hjs : j < listed.size := by rw [hI.size]; exact Nat.lt_of_lt_of_le hj hle
    have hc : listed.toList.count false = 0 := by omega
    rw [List.count_eq_zero] at hc
    cases hb : listed.getD j false with
    | true => rfl
    | false =>
      rw [Array.getD_eq_getD_getElem?, Array.getElem?_eq_getElem hjs] at hb
      exact absurd (by simp at hb; rw [← hb]; simp) hc
  | succ fuel ih =>
    intro listed a w hI hf
    by_cases hall : ∀ j, j < n → listed.getD j false = true
    · exact fin _ listed a w hI hf hall
    · -- the least that is not listed is ready
      have hex : ∃ j, j < n ∧ listed.getD j false = false ∧ ∀ k, k < j → listed.getD k false = true := by
        have : ∀ m, m ≤ n → (∀ j, j < m → listed.getD j false = true) ∨ ∃ j, j < n ∧ listed.getD j false = false ∧ ∀ k, k < j → listed.getD k false = true := by
          intro m
          induction m with
          | zero => intro _; exact .inl fun j hj => by omega
          | succ m ihm =>
            intro hm
            rcases ihm (by omega) with h | h
            · cases hb : listed.getD m false with
              | true =>
                refine .inl fun j hj => ?_
                rcases Nat.lt_or_ge j m with h1 | h1
                · exact h j h1
                · obtain rfl : j = m := by omega
                  exact hb
              | false => exact .inr ⟨m, by omega, hb, h⟩
            · exact .inr h
        rcases this n (Nat.le_refl _) with h | h
        · exact absurd h hall
        · exact h
      have unl : ∀ j, j < l.toArray.size → listed.getD j false = false → listed.getD j true = false := fun j hj h => by
        have hjs : j < listed.size := by rw [hI.size]; exact hj
        rw [Array.getD_eq_getD_getElem?, Array.getElem?_eq_getElem hjs] at h ⊢
        exact h
      refine ⟨fun h0 => ?_, fun i hi => ?_⟩
      · obtain ⟨j, hj, hb, hk⟩ := hex
        have hjs : j < l.toArray.size := Nat.lt_of_lt_of_le hj hle
        have : j ∈ Region.ready .any l.toArray listed := mem_ready.2 ⟨unl j hjs hb, l.toArray[j], by simp, fun e he hbd => hk _ (hok.down j hj _ ((direct_of (by simp) _).2 ⟨e, he, hbd, rfl⟩))⟩
        rw [h0] at this
        cases this
      · obtain ⟨h1, o, ho, hpre0⟩ := mem_ready.1 hi
        have his : i < l.toArray.size := (Array.getElem?_eq_some_iff.1 ho).1
        have hils : i < listed.size := by rw [hI.size]; exact his
        have hpre : ∀ j ∈ direct l.toArray i, listed.getD j false = true := fun j hj => by
          obtain ⟨e, he, hbd, rfl⟩ := (direct_of ho _).1 hj
          exact hpre0 e he hbd
        have hun : listed.getD i false = false := by
          rw [Array.getD_eq_getD_getElem?, Array.getElem?_eq_getElem hils] at h1 ⊢
          exact h1
        have hin : i < n := by
          rcases Nat.lt_or_ge i n with h | h
          · exact h
          · exfalso
            exact hall fun j hj => need_listed hI.size hI.closed _ i hpre j (hok.needs i his h j hj)
        have hcnt : (listed.setIfInBounds i true).toList.count false ≤ fuel := by
          have e : (listed.setIfInBounds i true).toList = listed.toList.set i true := by simp
          rw [e, List.count_set (by simpa using hils)]
          have h2 : listed.toList[i]'(by simpa using hils) = false := by
            rw [Array.getD_eq_getD_getElem?, Array.getElem?_eq_getElem hils] at hun
            simpa using hun
          have h3 : 0 < listed.toList.count false := List.count_pos_iff.2 (by rw [← h2]; simp)
          simp [h2]
          simp at h3 hf
          omega
        have hs := steps i o hin (by simpa using ho) a w Q hI.ext (readsOk_of_inv hok hI hin ho hun hpre)
        have hdst' : ∀ i o t, i < n → l.toArray[i]? = some o → o.dst = some t → t < a0.tmps.size := fun i o t h1 h2 h3 => hdst i o t h1 (by simpa using h2) h3
        unfold wpOp
        rw [ho]
        simp only
        split
        · rename_i hw
          rw [if_pos hw] at hs
          refine .inl (Oper.wp_mono ?_ hs)
          rintro a' w' ⟨v, rfl, hb, hkp, hG⟩
          exact ih _ _ _ (inv_step hok hdst' hI hin ho hun hpre hb hkp hG) hcnt
        · rename_i hw
          rw [if_neg hw] at hs
          exact ih _ _ _ (inv_step hok hdst' hI hin ho hun hpre hI.ext (fun _ _ _ _ _ h => h) hs) hcnt

/-- The promises by a list. -/
def G_of (Gs : List (Value → World → Prop)) : Prom := fun i v w => (Gs.getD i (fun _ _ => True)) v w
def Steps (P : Program) (ops : Array Oper) (G : Prom) (dr : Drop) (a0 : Act) (w0 : World) : List Oper → Nat → Prop
  | [], _ => True
  | o :: l, i => Step P ops G dr a0 w0 i o ∧ Steps P ops G dr a0 w0 l (i + 1)
def Fin (w : World) (K : Act → Prop) (gone : Nat → Bool) : Nat → List (Value → World → Prop) → List Oper → Act → Prop
  | i, g :: Gs, o :: l, a => match o.dst with
    | some t => ∀ v, (gone i = false → g v w) → Fin w K gone (i + 1) Gs l (a.put (some t) v)
    | none => Fin w K gone (i + 1) Gs l a
  | _, _, _, a => K a
def goneBy (dr : Drop) (n i : Nat) : Bool := (List.range n).any fun k => (dr k).contains i

theorem steps_get {l : List Oper} : ∀ (m : List Oper) (k : Nat), Steps P l.toArray G dr a0 w0 m k → ∀ (i : Nat) (o : Oper), m[i]? = some o → Step P l.toArray G dr a0 w0 (k + i) o := by
  intro m
  induction m with
  | nil => intro k _ i o h; simp at h
  | cons x m ih =>
    intro k hs i o h
    cases i with
    | zero => simp at h; subst h; exact hs.1
    | succ i => rw [show k + (i + 1) = (k + 1) + i from by omega]; exact ih (k + 1) hs.2 i o (by simpa using h)

theorem fin_puts {w : World} {K : Act → Prop} {gone : Nat → Bool} : ∀ (Gs : List (Value → World → Prop)) (l : List Oper) (k : Nat) (a : Act) (vs : Nat → Value), Gs.length = l.length → Fin w K gone k Gs l a →
    (∀ (i : Nat) (o : Oper) (t : Tmp) (g : Value → World → Prop), l[i]? = some o → o.dst = some t → Gs[i]? = some g → gone (k + i) = false → g (vs (k + i)) w) → K (puts l k a vs) := by
  intro Gs
  induction Gs with
  | nil => intro l k a vs hl h _; cases l with
    | nil => exact h
    | cons o l => simp at hl
  | cons g Gs ih =>
    intro l k a vs hl h hv
    cases l with
    | nil => simp at hl
    | cons o l =>
      simp only [puts]
      have hl' : Gs.length = l.length := by simpa using hl
      have hv' : ∀ (i : Nat) (o' : Oper) (t : Tmp) (g : Value → World → Prop), l[i]? = some o' → o'.dst = some t → Gs[i]? = some g → gone (k + 1 + i) = false → g (vs (k + 1 + i)) w := by
        intro i o' t g' h1 h2 h3 h4
        have := hv (i + 1) o' t g' (by simpa using h1) h2 (by simpa using h3)
        rw [show k + 1 + i = k + (i + 1) from by omega] at h4 ⊢
        exact this h4
      simp only [Fin] at h
      cases hd : o.dst with
      | none =>
        rw [hd] at h
        exact ih l (k + 1) a vs hl' h hv'
      | some t =>
        rw [hd] at h
        exact ih l (k + 1) _ vs hl' (h (vs k) (hv 0 o t g rfl hd rfl)) hv'

/-- A region that draws: its first operations promise; the last ones come behind them. -/
theorem wp_rg {id : Nat} {l : List Oper} (Gs : List (Value → World → Prop)) (dr : Drop) (hm : P.follows .mixedOrders = true) (hc : (check l.toArray dr Gs.length) = true)
    (hd : ((l.take Gs.length).all fun o => match o.dst with | some t => decide (t < a0.tmps.size) | none => true) = true)
    (steps : Steps P l.toArray (G_of Gs) dr a0 w0 (l.take Gs.length) 0)
    (final : ∀ w, Ext w0 w → Fin w (fun a => wpList P l.toArray Q (l.drop Gs.length) a w) (goneBy dr Gs.length) 0 Gs (l.take Gs.length) a0) : (Code.region id l.toArray true).wp P Q a0 w0 := by
  have hok := ok_of_check hc
  have hle := hok.le
  refine wp_region_any hm (main (n := Gs.length) (G := G_of Gs) (dr := dr) (a0 := a0) (w0 := w0) hok ?_ ?_ ?_ _ _ _ _ ?_ ?_)
  · intro i o t hi ho hdst
    have hmem : o ∈ l.take Gs.length := by
      have : (l.take Gs.length)[i]? = some o := by rw [List.getElem?_take_of_lt hi]; exact ho
      exact List.mem_of_getElem? this
    have := List.all_eq_true.1 hd o hmem
    rw [hdst] at this
    simpa using this
  · intro i o hi ho
    have := steps_get _ 0 steps i o (by rw [List.getElem?_take_of_lt hi]; exact ho)
    rwa [Nat.zero_add] at this
  · intro vs w hw hv
    refine fin_puts Gs (l.take Gs.length) 0 a0 vs (by simp at hle; simp; omega) (final w hw) ?_
    intro i o t g h1 h2 h3 h4
    have hi : i < Gs.length := (List.getElem?_eq_some_iff.1 h3).1
    rw [List.getElem?_take_of_lt hi] at h1
    rw [Nat.zero_add] at h4
    have := hv i o t hi h1 h2 fun k hk hd => by
      have h5 : goneBy dr Gs.length i = true := by
        simp only [goneBy, List.any_eq_true, List.mem_range]
        exact ⟨k, hk, by simpa using hd⟩
      rw [h4] at h5
      cases h5
    unfold G_of at this
    rw [List.getD_eq_getElem?_getD, h3] at this
    rw [Nat.zero_add]
    exact this
  · have rep : ∀ n i : Nat, (Array.replicate n false).getD i false = false := by
      intro n i
      rw [Array.getD_eq_getD_getElem?, Array.getElem?_replicate]
      by_cases h : i < n <;> simp [h]
    exact ⟨by simp, (fun i _ h => by rw [rep] at h; cases h), fun k _ => rep _ _, rfl, rfl, (Ext.refl _).drew, fun t _ => rfl, (fun j o t _ h => by rw [rep] at h; cases h)⟩
  · simp

/-! ### The operations one by one -/
theorem read_out {i t : Nat} {o : Oper} {a : Act} {w : World} (h : ReadsOk ops G a0 i o a w) (ht : (Oper.looksAt ops o).contains t = true) (hs : src ops i t = none) : a.tmps.getD t undef = a0.tmps.getD t undef := by
  have := h t (by simpa using ht); rw [hs] at this; exact this
theorem read_in {i t j : Nat} {o : Oper} {a : Act} {w : World} (h : ReadsOk ops G a0 i o a w) (ht : (Oper.looksAt ops o).contains t = true) (hs : src ops i t = some j) : G j (a.tmps.getD t undef) w := by
  have := h t (by simpa using ht); rw [hs] at this; exact this

theorem st_run {i : Nat} {o : Oper} (hg : o.guard = none) (h : ∀ a w, Ext w0 w → ReadsOk ops G a0 i o a w → ∃ v w', (execOp a.eval o).run P w = .ok (.value v) w' ∧ Ext w w' ∧ G i v w') (hstab : ∀ j v w w', G j v w → Ext w w' → G j v w') : Step P ops G dr a0 w0 i o := by
  intro a w Q hw hr
  rw [if_pos (by simp [Region.wanted, hg])]
  obtain ⟨v, w', h1, h2, h3⟩ := h a w hw hr
  unfold Oper.wp
  rw [h1]
  exact ⟨v, rfl, hw.trans h2, fun j v _ _ _ h => hstab j v _ _ h h2, h3⟩
theorem st_wp {i : Nat} {o : Oper} (hg : o.guard = none) (h : ∀ a w Q, Ext w0 w → ReadsOk ops G a0 i o a w → o.wp P a w (fun a' w' => ∃ v, a' = a.put o.dst v ∧ Ext w0 w' ∧ Keep ops G dr i w w' ∧ G i v w') Q) : Step P ops G dr a0 w0 i o := by
  intro a w Q hw hr
  rw [if_pos (by simp [Region.wanted, hg])]
  exact h a w Q hw hr
theorem run_callFunc_go {f : FuncId} {fn : Func} (hf : P.funcs[f]? = some fn) (hn : (fn.name == "runtime.NumGoroutine") = false) (hb : fn.body.isNone = false) (args : Array Value) (w : World) :
    (callFunc f args).run P w = .ok (.enter f args) w := by
  have h1 : ¬ fn.name = "runtime.NumGoroutine" := by simpa using hn
  have h2 : ¬ fn.body = none := by intro h; rw [h] at hb; cases hb
  simp [callFunc, hf, h1, h2, go_sem]
theorem st_call {i : Nat} {o : Oper} (hg : o.guard = none) (f : FuncId) (args : Array Operand) (ats : Array TypeId) (ho : o.op = .call { callee := .value (.func f), args := args, argTypes := ats })
    {fn : Func} (hf : P.funcs[f]? = some fn) (hn : (fn.name == "runtime.NumGoroutine") = false) (hb : fn.body.isNone = false)
    (h : ∀ a w, Ext w0 w → ReadsOk ops G a0 i o a w → Calls P f (args.map a.eval) w fun e w' => ∃ v, e = .returned v ∧ Ext w w' ∧ G i v w') (hstab : ∀ j v w w', G j v w → Ext w w' → G j v w') : Step P ops G dr a0 w0 i o := by
  intro a w Q hw hr
  rw [if_pos (by simp [Region.wanted, hg])]
  have := h a w hw hr
  unfold Oper.wp
  have e : (execOp a.eval o).run P w = .ok (.enter f (args.map a.eval)) w := by
    have e1 : execOp a.eval o = callFunc f (#[] ++ args.map a.eval ++ #[]) := by
      unfold execOp
      rw [ho]
      rfl
    rw [e1, run_callFunc_go hf hn hb]
    simp
  rw [e, Oper.upon_enter]
  refine this.mono ?_
  rintro e w' ⟨v, rfl, h2, h3⟩
  exact ⟨v, rfl, hw.trans h2, fun j v _ _ _ h => hstab j v _ _ h h2, h3⟩
/-- a slot's value is handed on -/
theorem st_move {i t : Nat} {o : Oper} (hg : o.guard = none) (ho : o.op = .move (.tmp t)) (hs : src ops i t = none) (hG : ∀ w, Ext w0 w → G i (a0.tmps.getD t undef) w) (hstab : ∀ j v w w', G j v w → Ext w w' → G j v w') : Step P ops G dr a0 w0 i o :=
  st_run hg (fun a w hw hr => ⟨a0.tmps.getD t undef, w, by
    have e : a.eval (.tmp t) = a0.tmps.getD t undef := read_out hr (by unfold Oper.looksAt; rw [ho]; simp [Op.operands]) hs
    unfold execOp
    rw [ho]
    simp only [e]
    rfl, Ext.refl _, hG w hw⟩) hstab
theorem stab_of {Gs : List (Value → World → Prop)} (h : ∀ g ∈ Gs, ∀ v w w', g v w → Ext w w' → g v w') : ∀ j v w w', G_of Gs j v w → Ext w w' → G_of Gs j v w' := by
  intro j v w w' hg hb
  unfold G_of at *
  cases hj : Gs[j]? with
  | none => rw [List.getD_eq_getElem?_getD, hj]; trivial
  | some g =>
    rw [List.getD_eq_getElem?_getD, hj] at hg ⊢
    exact h g (List.mem_of_getElem? hj) v w w' hg hb
end
end Go.Proofs.Ytcbimfaneinpkaa.RG
