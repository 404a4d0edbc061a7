/- The true assignment is among those that are found: plain laws. No program in sight. -/
import Derived.Test.YtcbimfaneinpkaaMatchLaws
set_option linter.unusedVariables false
set_option linter.unusedSimpArgs false
namespace Go.Proofs.Ytcbimfaneinpkaa

/-- counts that follow each other -/
def runs (s : Int) (l : List Int) (k : Nat) : Int := s + (l.take k).sum
def runsL (s : Int) (l : List Int) (k : Nat) : List Int := (List.range (k + 1)).map (runs s l)
theorem runsL_length (s : Int) (l : List Int) (k : Nat) : (runsL s l k).length = k + 1 := by simp [runsL]
theorem runsL_get {s : Int} {l : List Int} {k i : Nat} (h : i ≤ k) : (runsL s l k).getD i 0 = runs s l i := by
  simp [runsL, List.getD_eq_getElem?_getD, List.getElem?_map, List.getElem?_range (show i < k + 1 by omega)]
theorem runs_zero (s : Int) (l : List Int) : runs s l 0 = s := by simp [runs]
theorem runs_succ {s : Int} {l : List Int} {k : Nat} (h : k < l.length) : runs s l (k + 1) = runs s l k + l.getD k 0 := by
  unfold runs
  rw [List.take_add_one, List.getElem?_eq_getElem h, List.getD_eq_getElem?_getD, List.getElem?_eq_getElem h, List.sum_append]
  simp only [Option.toList_some, List.sum_cons, List.sum_nil, Option.getD_some]
  omega
theorem runsL_succ {s : Int} {l : List Int} {k : Nat} (h : k < l.length) : runsL s l (k + 1) = runsL s l k ++ [runs s l k + l.getD k 0] := by
  rw [← runs_succ h]
  simp [runsL, List.range_succ]
/-- which parts are seen at the second station -/
def seenBit (s i : Nat) : Bool := decide (s >>> i % 2 = 1)
def wants (s k : Nat) : List Nat := (List.range k).filter (seenBit s)
theorem wants_succ (s k : Nat) : wants s (k + 1) = wants s k ++ (if seenBit s k = true then [k] else []) := by
  unfold wants
  rw [List.range_succ, List.filter_append]
  congr 1
  by_cases h : seenBit s k = true
  · simp [h]
  · simp [h]
theorem wants_lt {s k i : Nat} (h : i < (wants s k).length) : (wants s k).getD i 0 < k := by
  have : (wants s k).getD i 0 ∈ wants s k := by
    rw [List.getD_eq_getElem?_getD, List.getElem?_eq_getElem h]; exact List.getElem_mem h
  exact List.mem_range.1 (List.mem_filter.1 this).1
theorem wants_rise {s k i j : Nat} (hij : i < j) (h : j < (wants s k).length) : (wants s k).getD i 0 < (wants s k).getD j 0 := by
  have hp : (wants s k).Pairwise (· < ·) := List.Pairwise.filter _ List.pairwise_lt_range
  have := List.pairwise_iff_getElem.1 hp i j (by omega) h hij
  rw [List.getD_eq_getElem?_getD, List.getElem?_eq_getElem (show i < (wants s k).length by omega), List.getD_eq_getElem?_getD, List.getElem?_eq_getElem h]
  exact this
theorem wants_len (s k : Nat) : (wants s k).length ≤ k := by
  have := List.length_filter_le (seenBit s) (List.range k)
  simpa [wants] using this
/-- a gap on the belt that fits the counts of both stations -/
def gapOk (b : Belt) (g n m : Int) : Prop := (1 ≤ n ∧ n ≤ 255) ∧ (1 ≤ m ∧ m ≤ 255) ∧ (n * least b ≤ g ∧ g ≤ n * most b) ∧ m * least b ≤ g ∧ g ≤ m * most b
theorem runs_agree {b : Belt} {gs ns ms : List Int} (h1 : ns.length = gs.length) (h2 : ms.length = gs.length) (h : ∀ k, k < gs.length → gapOk b (gs.getD k 0) (ns.getD k 0) (ms.getD k 0)) (s o : Int) {i : Nat} :
    ∀ d, i + d ≤ gs.length → ∃ G : Int, ((runs s ns (i + d) - runs s ns i) * least b ≤ G ∧ G ≤ (runs s ns (i + d) - runs s ns i) * most b) ∧ (runs o ms (i + d) - runs o ms i) * least b ≤ G ∧ G ≤ (runs o ms (i + d) - runs o ms i) * most b := by
  intro d
  induction d with
  | zero => intro _; exact ⟨0, by simp, by simp⟩
  | succ d ih =>
    intro hd
    obtain ⟨G, ⟨a1, a2⟩, a3, a4⟩ := ih (by omega)
    obtain ⟨-, -, ⟨c1, c2⟩, c3, c4⟩ := h (i + d) (by omega)
    refine ⟨G + gs.getD (i + d) 0, ?_⟩
    have e : ∀ (x y n m : Int), (x + n - y) * m = (x - y) * m + n * m := fun x y n m => by rw [show x + n - y = (x - y) + n by omega, Int.add_mul]
    rw [show i + (d + 1) = (i + d) + 1 by omega, runs_succ (by omega), runs_succ (by omega), e, e, e, e]
    omega
theorem agree_of {b : Belt} {x y G : Int} (h1 : x * least b ≤ G) (h2 : G ≤ x * most b) (h3 : y * least b ≤ G) (h4 : G ≤ y * most b) : agree b x y := ⟨by omega, by omega⟩
theorem runs_rise {s : Int} {l : List Int} (h : ∀ k, k < l.length → 1 ≤ l.getD k 0 ∧ l.getD k 0 ≤ 255) {i : Nat} : ∀ d, i + d ≤ l.length → runs s l i + d ≤ runs s l (i + d) ∧ runs s l (i + d) ≤ runs s l i + 255 * d := by
  intro d
  induction d with
  | zero => intro _; simp
  | succ d ih =>
    intro hd
    have := ih (by omega)
    have := h (i + d) (by omega)
    rw [show i + (d + 1) = (i + d) + 1 by omega, runs_succ (by omega)]
    omega
theorem true_in {b : Belt} (hb : b.ok) {gs ns ms : List Int} (h1 : ns.length = gs.length) (h2 : ms.length = gs.length) (hl : gs.length ≤ 9) (h : ∀ k, k < gs.length → gapOk b (gs.getD k 0) (ns.getD k 0) (ms.getD k 0)) {s o : Int} (s1 : 0 ≤ s) (s2 : s ≤ 65535) (o1 : 0 ≤ o) (o2 : o ≤ 65535) (sn : Nat) :
    (matched b (runsL s ns gs.length) ((wants sn (gs.length + 1)).map fun i => (runsL o ms gs.length).getD i 0)).2 = 0 ∧
    wants sn (gs.length + 1) ∈ (matched b (runsL s ns gs.length) ((wants sn (gs.length + 1)).map fun i => (runsL o ms gs.length).getD i 0)).1 := by
  have bn : ∀ k, k < ns.length → 1 ≤ ns.getD k 0 ∧ ns.getD k 0 ≤ 255 := fun k hk => (h k (by omega)).1
  have bm : ∀ k, k < ms.length → 1 ≤ ms.getD k 0 ∧ ms.getD k 0 ≤ 255 := fun k hk => (h k (by omega)).2.1
  have hW : ∀ i, i < (wants sn (gs.length + 1)).length → (wants sn (gs.length + 1)).getD i 0 ≤ gs.length := fun i hi => by have := wants_lt hi; omega
  have hWl := wants_len sn (gs.length + 1)
  have hse : ∀ i, i < (wants sn (gs.length + 1)).length → ((wants sn (gs.length + 1)).map fun i => (runsL o ms gs.length).getD i 0).getD i 0 = runs o ms ((wants sn (gs.length + 1)).getD i 0) := by
    intro i hi
    rw [List.getD_eq_getElem?_getD, List.getElem?_map, List.getElem?_eq_getElem hi]
    have e : (wants sn (gs.length + 1)).getD i 0 = (wants sn (gs.length + 1))[i] := by rw [List.getD_eq_getElem?_getD, List.getElem?_eq_getElem hi]; rfl
    have := hW i hi
    rw [e] at this ⊢
    exact runsL_get this
  have ffi : (runsL s ns gs.length).length = gs.length + 1 := runsL_length _ _ _
  have fse : ((wants sn (gs.length + 1)).map fun i => (runsL o ms gs.length).getD i 0).length = (wants sn (gs.length + 1)).length := by simp
  have i1 : Incr (runsL s ns gs.length) := by
    intro i hi
    rw [ffi] at hi
    rw [runsL_get (by omega)]
    have r := runs_rise (s := s) bn (i := 0) i (by omega)
    rw [Nat.zero_add, runs_zero] at r
    refine ⟨⟨by omega, by omega⟩, fun h0 => ?_⟩
    rw [runsL_get (by omega)]
    have r2 := runs_rise (s := s) bn (i := i - 1) 1 (by omega)
    rw [show i - 1 + 1 = i by omega] at r2
    omega
  have i2 : Incr ((wants sn (gs.length + 1)).map fun i => (runsL o ms gs.length).getD i 0) := by
    intro i hi
    rw [fse] at hi
    rw [hse i hi]
    have hw := hW i hi
    have r := runs_rise (s := o) bm (i := 0) ((wants sn (gs.length + 1)).getD i 0) (by omega)
    rw [Nat.zero_add, runs_zero] at r
    refine ⟨⟨by omega, by omega⟩, fun h0 => ?_⟩
    rw [hse (i - 1) (by omega)]
    have hr := wants_rise (s := sn) (k := gs.length + 1) (i := i - 1) (j := i) (by omega) hi
    have r2 := runs_rise (s := o) bm (i := (wants sn (gs.length + 1)).getD (i - 1) 0) ((wants sn (gs.length + 1)).getD i 0 - (wants sn (gs.length + 1)).getD (i - 1) 0) (by omega)
    rw [show (wants sn (gs.length + 1)).getD (i - 1) 0 + ((wants sn (gs.length + 1)).getD i 0 - (wants sn (gs.length + 1)).getD (i - 1) 0) = (wants sn (gs.length + 1)).getD i 0 by omega] at r2
    omega
  have ha : assigned b (runsL s ns gs.length) ((wants sn (gs.length + 1)).map fun i => (runsL o ms gs.length).getD i 0) (wants sn (gs.length + 1)) := by
    intro j hj i hi
    have hr := wants_rise (s := sn) (k := gs.length + 1) hi hj
    have w1 := hW j hj
    refine ⟨hr, ?_⟩
    rw [hse j hj, hse i (by omega), runsL_get w1, runsL_get (by omega)]
    obtain ⟨G, ⟨a1, a2⟩, a3, a4⟩ := runs_agree h1 h2 h s o (i := (wants sn (gs.length + 1)).getD i 0) ((wants sn (gs.length + 1)).getD j 0 - (wants sn (gs.length + 1)).getD i 0) (by omega)
    rw [show (wants sn (gs.length + 1)).getD i 0 + ((wants sn (gs.length + 1)).getD j 0 - (wants sn (gs.length + 1)).getD i 0) = (wants sn (gs.length + 1)).getD j 0 by omega] at a1 a2 a3 a4
    exact agree_of a1 a2 a3 a4
  have hin := choose_complete b (runsL s ns gs.length) ((wants sn (gs.length + 1)).map fun i => (runsL o ms gs.length).getD i 0) (wants sn (gs.length + 1)) [] (by simpa using ha) (fun m hm => by
    rw [ffi]
    exact List.mem_range.1 (List.mem_filter.1 hm).1)
  rw [List.nil_append] at hin
  rw [← fse] at hin
  have hne : choose b (runsL s ns gs.length) ((wants sn (gs.length + 1)).map fun i => (runsL o ms gs.length).getD i 0) ((wants sn (gs.length + 1)).map fun i => (runsL o ms gs.length).getD i 0).length [] ≠ [] := fun h9 => by rw [h9] at hin; simp at hin
  unfold matched
  rw [if_pos hb, if_pos ⟨by omega, by omega⟩, if_pos ⟨i1, i2⟩, if_neg hne]
  exact ⟨rfl, hin⟩
end Go.Proofs.Ytcbimfaneinpkaa
