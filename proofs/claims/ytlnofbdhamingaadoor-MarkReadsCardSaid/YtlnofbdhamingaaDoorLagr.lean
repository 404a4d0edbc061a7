/- The polynomial through some places; and what a search of all choices of places finds. No program in sight. -/
import Derived.Test.YtlnofbdhamingaaDoorGMath
set_option linter.unusedVariables false
set_option linter.unusedSimpArgs false
namespace Go.Proofs.YtlnofbdhamingaaDoor
open Go.RowKit Go.Sort

/-- p times (z + a), times x -/
def stepL (a x : Nat) (p : List Nat) : List Nat := padd (0 :: p.map fun c => gmul c x) (p.map fun c => gmul (gmul c a) x)
theorem stepL_len (a x : Nat) (p : List Nat) : (stepL a x p).length = p.length + 1 := by
  unfold stepL
  rw [padd_len]
  simp
theorem map_gmul {x : Nat} (hx : x < 16) {p : List Nat} (hp : Syms p) : (p.map fun c => gmul c x) = pscale x p := List.map_congr_left fun c hc => gmul_comm (hp c hc) hx
theorem stepL_eq {a x : Nat} (ha : a < 16) (hx : x < 16) {p : List Nat} (hp : Syms p) : stepL a x p = padd (0 :: pscale x p) (pscale (gmul a x) p) := by
  unfold stepL
  rw [map_gmul hx hp]
  congr 1
  exact List.map_congr_left fun c hc => by rw [gmul_assoc (hp c hc) ha hx, gmul_comm (hp c hc) (gmul_lt ha hx)]
theorem stepL_syms {a x : Nat} (ha : a < 16) (hx : x < 16) {p : List Nat} (hp : Syms p) : Syms (stepL a x p) := by
  rw [stepL_eq ha hx hp]
  exact padd_syms (Syms.cons (by omega) (pscale_syms hx hp)) (pscale_syms (gmul_lt ha hx) hp)
theorem stepL_val {a x z : Nat} (ha : a < 16) (hx : x < 16) (hz : z < 16) {p : List Nat} (hp : Syms p) : gval (stepL a x p) z = gmul (gmul (z ^^^ a) x) (gval p z) := by
  have g := gval_lt hp hz
  have hax := gmul_lt ha hx
  rw [stepL_eq ha hx hp, padd_val hz (Syms.cons (by omega) (pscale_syms hx hp)) (pscale_syms hax hp), gval_cons, Nat.xor_zero, pscale_val hx hz hp, pscale_val hax hz hp,
    gmul_xor' hx hz ha, gmul_xor' g (gmul_lt hz hx) hax]
  congr 1
  rw [gmul_comm (gmul_lt hx g) hz, ← gmul_assoc hz hx g]
/-- the summand of the place j, with the first i places worked in -/
def lagK (w ps : List Nat) (j : Nat) : Nat → List Nat
  | 0 => [w.getD (ps.getD j 0) 0]
  | i + 1 => if i = j then lagK w ps j i else stepL (powN (ps.getD i 0)) (ginv (powN (ps.getD i 0) ^^^ powN (ps.getD j 0))) (lagK w ps j i)
def Places (ps : List Nat) : Prop := (∀ i ∈ ps, i < 15) ∧ ps.Nodup
theorem places_get {ps : List Nat} (h : Places ps) {i : Nat} (hi : i < ps.length) : ps.getD i 0 < 15 := by
  rw [List.getD_eq_getElem?_getD, List.getElem?_eq_getElem hi]
  exact h.1 _ (List.getElem_mem hi)
theorem places_ne {ps : List Nat} (h : Places ps) {i j : Nat} (hi : i < ps.length) (hj : j < ps.length) (hij : i ≠ j) : powN (ps.getD i 0) ^^^ powN (ps.getD j 0) ≠ 0 ∧ powN (ps.getD i 0) ^^^ powN (ps.getD j 0) < 16 := by
  refine ⟨fun h9 => hij ?_, xor_lt (pow_lt (places_get h hi)) (pow_lt (places_get h hj))⟩
  have h8 := pow_inj (places_get h hi) (places_get h hj) (xor_eq_zero h9)
  simp only [List.getD_eq_getElem?_getD, List.getElem?_eq_getElem hi, List.getElem?_eq_getElem hj, Option.getD_some] at h8
  rcases Nat.lt_trichotomy i j with h1 | h1 | h1
  · exact absurd h8 (List.pairwise_iff_getElem.1 h.2 i j hi hj h1)
  · exact h1
  · exact absurd h8.symm (List.pairwise_iff_getElem.1 h.2 j i hj hi h1)
theorem lagK_syms {w ps : List Nat} (hw : Syms w) (h : Places ps) {j : Nat} (hj : j < ps.length) : ∀ {i}, i ≤ ps.length → Syms (lagK w ps j i)
  | 0, _ => fun x hx => by
    simp only [lagK, List.mem_singleton] at hx
    rw [hx]
    exact syms_get hw _
  | i + 1, hi => by
    rw [lagK]
    have ih := lagK_syms hw h hj (i := i) (by omega)
    split
    · exact ih
    · rename_i hij
      have hne := places_ne h (i := i) (by omega) hj hij
      exact stepL_syms (pow_lt (places_get h (by omega))) (gmul_inv hne.2 hne.1).2.1 ih
theorem lagK_len (w ps : List Nat) (j : Nat) : ∀ i, (lagK w ps j i).length = i + (if j < i then 0 else 1)
  | 0 => by rw [if_neg (by omega)]; rfl
  | i + 1 => by
    have ih := lagK_len w ps j i
    rw [lagK]
    split
    · rename_i h
      rw [ih, if_neg (by omega), if_pos (by omega)]
    · rw [stepL_len, ih]
      by_cases h2 : j < i
      · rw [if_pos h2, if_pos (by omega)]
      · rw [if_neg h2, if_neg (by omega)]
theorem lagK_own {w ps : List Nat} (hw : Syms w) (h : Places ps) {j : Nat} (hj : j < ps.length) : ∀ {i}, i ≤ ps.length → gval (lagK w ps j i) (powN (ps.getD j 0)) = w.getD (ps.getD j 0) 0
  | 0, _ => by
    show gmul 0 _ ^^^ _ = _
    rw [(gmul_zero (pow_lt (places_get h hj))).2, Nat.zero_xor]
  | i + 1, hi => by
    rw [lagK]
    have ih := lagK_own hw h hj (i := i) (by omega)
    split
    · exact ih
    · rename_i hij
      have hne := places_ne h (i := i) (by omega) hj hij
      have hg := gmul_inv hne.2 hne.1
      have hb := pow_lt (places_get h hj)
      rw [stepL_val (pow_lt (places_get h (by omega))) hg.2.1 hb (lagK_syms hw h hj (by omega)), ih, Nat.xor_comm (powN (ps.getD j 0)), hg.1, gmul_one (syms_get hw _)]
theorem lagK_other {w ps : List Nat} (hw : Syms w) (h : Places ps) {j m : Nat} (hj : j < ps.length) (hmj : m ≠ j) : ∀ {i}, i ≤ ps.length → m < i → gval (lagK w ps j i) (powN (ps.getD m 0)) = 0
  | i + 1, hi, hm => by
    rw [lagK]
    split
    · exact lagK_other hw h hj hmj (by omega) (by omega)
    · rename_i hij
      have hne := places_ne h (i := i) (by omega) hj hij
      have hg := gmul_inv hne.2 hne.1
      have hb := pow_lt (places_get h (i := m) (by omega))
      have hs := lagK_syms hw h hj (i := i) (by omega)
      rw [stepL_val (pow_lt (places_get h (by omega))) hg.2.1 hb hs]
      by_cases h2 : m = i
      · rw [h2, Nat.xor_self, (gmul_zero hg.2.1).2, (gmul_zero (gval_lt hs (pow_lt (places_get h (by omega))))).2]
      · rw [lagK_other hw h hj hmj (by omega) (by omega), (gmul_zero (gmul_lt (xor_lt hb (pow_lt (places_get h (by omega)))) hg.2.1)).1]
/-- the sum of the first j summands -/
def throughK (w ps : List Nat) : Nat → List Nat
  | 0 => List.replicate ps.length 0
  | j + 1 => padd (throughK w ps j) (lagK w ps j ps.length)
theorem lagK_full (w ps : List Nat) {j : Nat} (hj : j < ps.length) : (lagK w ps j ps.length).length = ps.length := by rw [lagK_len, if_pos hj]; rfl
theorem throughK_len (w ps : List Nat) : ∀ {j}, j ≤ ps.length → (throughK w ps j).length = ps.length
  | 0, _ => by simp [throughK]
  | j + 1, hj => by rw [throughK, padd_len, throughK_len w ps (by omega), lagK_full w ps (by omega)]; omega
theorem throughK_syms {w ps : List Nat} (hw : Syms w) (h : Places ps) : ∀ {j}, j ≤ ps.length → Syms (throughK w ps j)
  | 0, _ => fun x hx => by have := (List.mem_replicate.1 hx).2; omega
  | j + 1, hj => padd_syms (throughK_syms hw h (by omega)) (lagK_syms hw h (by omega) (Nat.le_refl _))
theorem throughK_val {w ps : List Nat} (hw : Syms w) (h : Places ps) {m : Nat} (hm : m < ps.length) : ∀ {j}, j ≤ ps.length → gval (throughK w ps j) (powN (ps.getD m 0)) = if m < j then w.getD (ps.getD m 0) 0 else 0
  | 0, _ => by
    rw [if_neg (by omega)]
    exact gval_zero (fun x hx => (List.mem_replicate.1 hx).2) (pow_lt (places_get h hm))
  | j + 1, hj => by
    rw [throughK, padd_val (pow_lt (places_get h hm)) (throughK_syms hw h (by omega)) (lagK_syms hw h (by omega) (Nat.le_refl _)), throughK_val hw h hm (by omega)]
    by_cases h1 : m < j
    · rw [if_pos h1, if_pos (by omega), lagK_other hw h (by omega) (by omega) (Nat.le_refl _) hm, Nat.xor_zero]
    · rw [if_neg h1, Nat.zero_xor]
      by_cases h2 : m = j
      · subst h2
        rw [if_pos (by omega), lagK_own hw h hm (Nat.le_refl _)]
      · rw [if_neg (by omega), lagK_other hw h (by omega) h2 (Nat.le_refl _) hm]
def throughR (w ps : List Nat) : List Nat := throughK w ps ps.length
/-- a polynomial that is right at the places is the one through them -/
theorem through_only {w ps M : List Nat} (hw : Syms w) (h : Places ps) (hM : Syms M) (hl : M.length = ps.length) (hr : ∀ i ∈ ps, gval M (powN i) = w.getD i 0) : throughR w ps = M := by
  have hs : Syms (throughR w ps) := throughK_syms hw h (Nat.le_refl _)
  refine eq_of_xor_zero (by unfold throughR; rw [throughK_len w ps (Nat.le_refl _), hl]) (roots_zero (ps.map powN) _ (padd_syms hs hM) ?_ ?_ ?_)
  · rw [List.Nodup, List.pairwise_map]
    exact List.Pairwise.imp_of_mem (fun {a b} ha hb hab he => hab (pow_inj (h.1 a ha) (h.1 b hb) he)) h.2
  · intro r hr2
    obtain ⟨i, hi, rfl⟩ := List.mem_map.1 hr2
    have hx := pow_lt (h.1 i hi)
    refine ⟨hx, ?_⟩
    obtain ⟨m, hm, rfl⟩ := List.getElem_of_mem hi
    have := throughK_val hw h hm (Nat.le_refl _)
    rw [if_pos hm, List.getD_eq_getElem?_getD (l := ps), List.getElem?_eq_getElem hm, Option.getD_some] at this
    rw [padd_val hx hs hM, hr _ hi]
    unfold throughR
    rw [this, Nat.xor_self]
  · rw [padd_len, List.length_map, hl]
    unfold throughR
    rw [throughK_len w ps (Nat.le_refl _)]
    omega
/-! ### the search -/
/-- how many of the places a message is right at -/
def rightN (M w ps : List Nat) : Nat := (rights M w ps).length
def RightAll (M w ps : List Nat) : Prop := ∀ i ∈ ps, gval M (powN i) = w.getD i 0
/-- what a search that finds nothing says -/
def NoFit (w : List Nat) (er : List Bool) (k : Nat) (ps os : List Nat) : Prop := ∀ M, FitsW w er k M → RightAll M w ps → rightN M w os + ps.length < k
theorem noFit_end {w : List Nat} {er : List Bool} {k : Nat} {ps os : List Nat} (hw : Syms w) (hp : Places ps) (hk : ps.length = k) (h : ¬ FitsW w er k (throughR w ps)) : NoFit w er k ps os := fun M hM hr => by
  rw [through_only hw hp hM.1 (by rw [hM.2.1, hk]) hr] at h
  exact absurd hM h
/-- what is known behind i rounds -/
def NoFitK (w : List Nat) (er : List Bool) (k : Nat) (ps os : List Nat) (i : Nat) : Prop := ∀ M, FitsW w er k M → RightAll M w ps → k ≤ rightN M w os + ps.length → rightN M w (os.take i) = 0
theorem noFitK_zero (w : List Nat) (er : List Bool) (k : Nat) (ps os : List Nat) : NoFitK w er k ps os 0 := fun _ _ _ _ => rfl
theorem rightN_append (M w a b : List Nat) : rightN M w (a ++ b) = rightN M w a + rightN M w b := by unfold rightN rights; rw [List.filter_append, List.length_append]
theorem rightN_one (M w : List Nat) (i : Nat) : rightN M w [i] = if gval M (powN i) = w.getD i 0 then 1 else 0 := by
  unfold rightN rights
  by_cases h : gval M (powN i) = w.getD i 0
  · rw [if_pos h, List.filter_cons_of_pos (by simpa using h)]; rfl
  · rw [if_neg h, List.filter_cons_of_neg (by simpa using h)]; rfl
theorem noFitK_succ {w : List Nat} {er : List Bool} {k : Nat} {ps os : List Nat} {i : Nat} (hi : i < os.length) (h : NoFitK w er k ps os i) (hn : NoFit w er k (ps ++ [os.getD i 0]) (os.drop (i + 1))) : NoFitK w er k ps os (i + 1) := fun M hM hr hc => by
  have h0 := h M hM hr hc
  rw [take_grow hi, rightN_append, h0, rightN_one]
  by_cases h1 : gval M (powN (os.getD i 0)) = w.getD (os.getD i 0) 0
  · have h2 := hn M hM (fun j hj => by
      rcases List.mem_append.1 hj with h9 | h9
      · exact hr j h9
      · rw [List.mem_singleton.1 h9]; exact h1)
    have e : rightN M w os = rightN M w (os.take (i + 1)) + rightN M w (os.drop (i + 1)) := by rw [← rightN_append, List.take_append_drop]
    rw [take_grow hi, rightN_append, h0, rightN_one, if_pos h1] at e
    rw [List.length_append] at h2
    simp only [List.length_cons, List.length_nil] at h2
    omega
  · rw [if_neg h1]
theorem noFitK_end {w : List Nat} {er : List Bool} {k : Nat} {ps os : List Nat} (hk : ps.length < k) (h : NoFitK w er k ps os os.length) : NoFit w er k ps os := fun M hM hr => by
  rcases Nat.lt_or_ge (rightN M w os + ps.length) k with h1 | h1
  · exact h1
  · have := h M hM hr h1
    rw [List.take_length] at this
    omega
/-- so many of the places that are not erased -/
def enoughN (er : List Bool) (k : Nat) : Nat := ((k : Int) + (15 - k - goneN er : Int).tdiv 2).toNat
def enoughK (er : List Bool) (k i : Nat) : List Nat := (placesK er i).take (enoughN er k)
theorem enough_none {w : List Nat} {er : List Bool} {k : Nat} (h : RecvOk w er k) (hn : NoFit w er k [] (enoughK er k 15)) : decR w er k = none :=
  decR_none fun M hM => by
    have h1 := hn M hM (fun i hi => by simp at hi)
    obtain ⟨h2, h3, h4⟩ := hM
    obtain ⟨r1, r2, r3, r4, r5⟩ := h
    have hp := places_gone er er.length
    have e1 : placesOf er = placesK er 15 := by unfold placesOf; rw [r3]
    have hg : goneN er = goneK er er.length := rfl
    have e2 : enoughN er k = k + (15 - k - goneN er) / 2 := by
      unfold enoughN
      rw [Int.tdiv_eq_ediv_of_nonneg (by omega)]
      omega
    have hw := wrongs_rights M w (enoughK er k 15)
    have hwl : (wrongs M w (enoughK er k 15)).length ≤ errN M w er := by
      unfold errN wrongs enoughK
      rw [e1]
      exact (List.Sublist.filter _ (List.take_sublist _ _)).length_le
    have hl : (enoughK er k 15).length = k + (15 - k - goneN er) / 2 := by
      unfold enoughK
      rw [List.length_take, e2, ← e1]
      unfold placesOf
      omega
    unfold rightN at h1
    simp only [List.length_nil] at h1
    omega
theorem enough_places {w : List Nat} {er : List Bool} {k : Nat} (h : RecvOk w er k) : Places (enoughK er k 15) :=
  ⟨fun i hi => places_lt (List.mem_of_mem_take hi), (places_nodup er 15).sublist (List.take_sublist _ _)⟩
theorem enoughK_succ (er : List Bool) (k i : Nat) : enoughK er k (i + 1) = if er.getD i false = false ∧ (enoughK er k i).length < enoughN er k then enoughK er k i ++ [i] else enoughK er k i := by
  unfold enoughK
  rw [placesK_succ]
  cases h : er.getD i false
  · simp only [Bool.false_eq_true, if_false, true_and]
    rw [List.length_take]
    by_cases h1 : min (enoughN er k) (placesK er i).length < enoughN er k
    · rw [if_pos h1, List.take_of_length_le (by simp; omega), List.take_of_length_le (by omega)]
    · rw [if_neg h1, List.take_append_of_le_length (by omega)]
  · simp
end Go.Proofs.YtlnofbdhamingaaDoor
