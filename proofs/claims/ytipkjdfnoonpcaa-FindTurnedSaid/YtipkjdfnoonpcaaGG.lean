/- Joined from the parts CmpFn, SortRow, SortSpec, SortCall, IterW, FindSpec, FindFn. -/
import Derived.Test.YtipkjdfnoonpcaaGF
import Derived.Test.YtipkjdfnoonpcaaShelfSort
import Derived.Deep.RegionHeld3
import Derived.Shelf.SlSortCmp.NoneTotal
import Derived.RangeFuncNested
import Derived.RangeFuncBound
import Derived.RangeFuncCalls
import Derived.RangeFuncLeaves
import Derived.Shelf.Abstract
import Derived.Shelf.RegionOpen
import Derived.OwnWalkIn
import Derived.TacticsInMore
import Derived.LoopNIn
import Derived.LoopIn
import Derived.Laws.EntriesVeiled
set_option linter.unusedVariables false
set_option linter.unusedSimpArgs false
/- cmp.Or and the closure that compares two matches: the walks. -/
namespace Go.Proofs.Ytipkjdfnoonpcaa
open Go.RowKit Go.Sort

def orInt (a b : Int) : Int := if a = 0 then b else a
set_option maxRecDepth 100000 in
set_option maxHeartbeats 4000000 in
theorem c79 (a b : Int) (k : Nat) (w : World) (h0 : w.cell? ⟨k, 0, none⟩ = some (.int .i64 a)) (h1 : w.cell? ⟨k, 1, none⟩ = some (.int .i64 b)) :
    Calls Try.prog 79 #[.slice (some ⟨k, 0, none⟩) 2 2] w fun e w' => e = .returned (.int .i64 (orInt a b)) ∧ w' = w := by
  by_cases ha : a = 0
  · have g0 : (a != 0) = false := by simpa using ha
    have hr : orInt a b = b := by unfold orInt; rw [if_pos ha]
    clear ha
    by_cases hb : b = 0
    · have g1 : (b != 0) = false := by simpa using hb
      have hr := Lib.hid (hr.trans hb)
      clear hb
      go_enter Try.func79, Try.ntmps79
      go_wp2
      refine wp_loop_rounds 3 ?_
      rw [rounds_succ]
      go_wp2
      rw [rounds_succ]
      go_wp2
      rw [rounds_succ]
      go_wp2
      go_ret
      exact ⟨ret_int hr.out.symm, rfl⟩
    · have g1 : (b != 0) = true := by simpa using hb
      have hr := Lib.hid hr
      clear hb
      go_enter Try.func79, Try.ntmps79
      go_wp2
      refine wp_loop_rounds 3 ?_
      rw [rounds_succ]
      go_wp2
      rw [rounds_succ]
      go_wp2
      go_ret
      exact ⟨ret_int hr.out.symm, rfl⟩
  · have g0 : (a != 0) = true := by simpa using ha
    have hr := Lib.hid (show orInt a b = a by unfold orInt; rw [if_neg ha])
    clear ha
    go_enter Try.func79, Try.ntmps79
    go_wp2
    refine wp_loop_rounds 3 ?_
    rw [rounds_succ]
    go_wp2
    go_ret
    exact ⟨ret_int hr.out.symm, rfl⟩
theorem third_cell (w : World) (A B : Obj) (r1 r2 : Value) : (((w.alloc A).alloc B).alloc (.cells #[r1, r2] 3)).drew.cell? ⟨w.heap.size + 1 + 1, 0, none⟩ = some r1 ∧ (((w.alloc A).alloc B).alloc (.cells #[r1, r2] 3)).drew.cell? ⟨w.heap.size + 1 + 1, 1, none⟩ = some r2 := by
  have h : (((w.alloc A).alloc B).alloc (.cells #[r1, r2] 3)).heap[w.heap.size + 1 + 1]? = some (.cells #[r1, r2] 3) := blk_at _ _ (by simp only [size_one])
  exact ⟨cell_of_at h 0 rfl, cell_of_at h 1 rfl⟩
theorem c79_at (a b : Int) (W : World) (k : Nat) (hk : k = W.heap.size) : Calls Try.prog 79 #[.slice (some ⟨k, 0, none⟩) 2 2] (W.alloc (.cells #[.int .i64 a, .int .i64 b] 3)) fun e w' => e = .returned (.int .i64 (orInt a b)) ∧ w' = W.alloc (.cells #[.int .i64 a, .int .i64 b] 3) := by
  subst hk
  exact c79 a b _ _ (by simp) (by simp)
set_option maxRecDepth 100000 in
set_option maxHeartbeats 16000000 in
theorem c78 (x y : Match) (w : World) : Calls Try.prog 78 #[.agg (matchCells x).toArray, .agg (matchCells y).toArray] w fun e w' =>
    e = .returned (.int .i64 (orInt (Lib.compareInt x.pose.y y.pose.y) (Lib.compareInt x.pose.x y.pose.x))) ∧ ∃ q os', w' = grow (w.drewN q) os' := by
  have K80 := fun w' => Try.cmp_Compare_int x.pose.y y.pose.y w'
  have K81 := fun w' => Try.cmp_Compare_int x.pose.x y.pose.x w'
  obtain ⟨r1, hr1⟩ : ∃ r, Lib.compareInt x.pose.y y.pose.y = r := ⟨_, rfl⟩
  obtain ⟨r2, hr2⟩ : ∃ r, Lib.compareInt x.pose.x y.pose.x = r := ⟨_, rfl⟩
  rw [hr1] at K80 ⊢
  rw [hr2] at K81 ⊢
  have K79 := Lib.hid (c79 r1 r2 (w.heap.size + 1 + 1))
  clear hr1 hr2
  simp only [matchCells]
  go_enter Try.func78, Try.ntmps78
  go_wp2
  go_region_held3 (fun w' => w'.cell? ⟨w.heap.size, 0, none⟩ = some (.int .i64 x.pose.x) ∧ w'.cell? ⟨w.heap.size, 1, none⟩ = some (.int .i64 x.pose.y) ∧ w'.cell? ⟨w.heap.size + 1, 0, none⟩ = some (.int .i64 y.pose.x) ∧ w'.cell? ⟨w.heap.size + 1, 1, none⟩ = some (.int .i64 y.pose.y)) (go_keep)
    (first | (go_at_call 80; (with_reducible refine (K80 _).mono ?_); rintro e w' ⟨rfl, rfl⟩) | (go_at_call 80; (with_reducible refine (K81 _).mono ?_); rintro e w' ⟨rfl, rfl⟩) | (go_at_call 79; (with_reducible refine (K79.out _ (third_cell _ _ _ _ _).1 (third_cell _ _ _ _ _).2).mono ?_); rintro e w' ⟨rfl, rfl⟩))
  all_goals go_wp2
  all_goals go_ret
  all_goals exact ⟨rfl, 1, _, by rw [alloc_eq_grow, alloc_eq_grow, alloc_eq_grow, grow_grow, grow_grow]; rfl⟩
end Go.Proofs.Ytipkjdfnoonpcaa

/- The end of the row of matches, sorted: between the words of append's laws and those of the sort's contract. -/
namespace Go.Proofs.Ytipkjdfnoonpcaa
open Go.RowKit Go.Sort Go.Lib Go.Shelf

section
variable (mk : Int × Int → Match)
def encP (p : Int × Int) : List Value := matchCells (mk p)
theorem flat_get? (A : List Match) (k : Nat) (hk : k < A.length * 5) : (A.flatMap matchCells)[k]? = (matchCells (A.getD (k / 5) match0))[k % 5]? := by
  have e : k = k / 5 * 5 + k % 5 := by omega
  have h := flat_get matchCells 5 match0 (fun _ => rfl) A (k / 5) (k % 5) (by omega) (by omega)
  rw [← e] at h
  exact h
theorem get_list {l : List Value} {k : Nat} (hk : k < l.length) : l[k]? = some l[k]! := by
  rw [List.getElem?_eq_getElem hk, getElem!_pos l k hk]
theorem arr_list (d : Array (Int × Int)) (i : Nat) (hi : i < d.size) : (d.toList.map mk).getD i match0 = mk d[i]! := by
  rw [List.getD_eq_getElem?_getD, List.getElem?_map, List.getElem?_eq_getElem (by simpa using hi)]
  simp [getElem!_pos d i hi]
theorem flat_at (d : Array (Int × Int)) (j : Nat) (hj : j < d.size * 5) : ((d.toList.map mk).flatMap matchCells)[j]? = some (flatK (encP mk) 5 d)[j]! := by
  rw [flat_get? _ _ (by simpa using hj), get_flatK _ _ _ _ hj, arr_list mk d _ (by omega), get_list (show j % 5 < (matchCells (mk d[j / 5]!)).length from Nat.mod_lt _ (by omega))]
  rfl
theorem row_split {A : List Match} {d : Array (Int × Int)} {cur : Array Value} (h : cur.toList.take ((A.length + d.size) * 5) = (A ++ d.toList.map mk).flatMap matchCells) :
    (∀ k, k < A.length * 5 → cur[k]? = (A.flatMap matchCells)[k]?) ∧ ∀ j, j < d.size * 5 → cur[A.length * 5 + j]? = some (flatK (encP mk) 5 d)[j]! := by
  have hl : (A.flatMap matchCells).length = A.length * 5 := len_const matchCells 5 A fun _ => rfl
  have hget : ∀ k, k < (A.length + d.size) * 5 → cur[k]? = ((A ++ d.toList.map mk).flatMap matchCells)[k]? := by
    intro k hk
    rw [← h, List.getElem?_take_of_lt hk]
    simp
  refine ⟨fun k hk => ?_, fun j hj => ?_⟩
  · rw [hget k (by omega), List.flatMap_append, List.getElem?_append_left (by omega)]
  · rw [hget _ (by omega), List.flatMap_append, List.getElem?_append_right (by omega), hl, Nat.add_sub_cancel_left, flat_at mk d j hj]
theorem holds_row {w : World} {g : Nat} {A : List Match} {d : Array (Int × Int)} {cur : Array Value} (hg : w.heap[g]? = some (.cells cur 80)) (h : cur.toList.take ((A.length + d.size) * 5) = (A ++ d.toList.map mk).flatMap matchCells) :
    HoldsK (encP mk) 5 w g (A.length * 5) d := by
  intro j hj
  rw [size_flatK] at hj
  exact ⟨by rw [show ∀ x : Value, id x = x from fun _ => rfl]; exact cell_of_at hg _ ((row_split mk h).2 j hj), free_of_at hg _⟩
/-- what the row holds when the end of it has been laid anew -/
theorem row_sorted {A : List Match} {d d' : Array (Int × Int)} {cur : Array Value} (h : cur.toList.take ((A.length + d.size) * 5) = (A ++ d.toList.map mk).flatMap matchCells) (hs : d'.size = d.size) (hc : (A.length + d.size) * 5 ≤ cur.size) :
    (putCells id (A.length * 5) (flatK (encP mk) 5 d') cur).toList.take ((A.length + d.size) * 5) = (A ++ d'.toList.map mk).flatMap matchCells := by
  have hl : (A.flatMap matchCells).length = A.length * 5 := len_const matchCells 5 A fun _ => rfl
  have hl' : ((A ++ d'.toList.map mk).flatMap matchCells).length = (A.length + d'.size) * 5 := by rw [len_const matchCells 5 _ fun _ => rfl]; simp
  apply List.ext_getElem?
  intro k
  rcases Nat.lt_or_ge k ((A.length + d.size) * 5) with hk | hk
  case inr => rw [List.getElem?_eq_none (by simp; omega), List.getElem?_eq_none (by rw [hl', hs]; exact hk)]
  rw [List.getElem?_take_of_lt hk, Array.getElem?_toList, putCells, Array.getElem?_mapIdx]
  rw [Array.getElem?_eq_getElem (by omega : k < cur.size), Option.map_some, size_flatK, List.flatMap_append]
  by_cases h1 : A.length * 5 ≤ k
  · rw [if_pos ⟨h1, by rw [hs]; omega⟩, List.getElem?_append_right (by omega), hl, flat_at mk d' _ (by rw [hs]; omega)]
    rfl
  · rw [if_neg (fun h => h1 h.1), List.getElem?_append_left (by omega), ← (row_split mk h).1 k (by omega), Array.getElem?_eq_getElem]
end
/-- **a world in which the end of the row has been sorted** -/
theorem OutAt.sorted {w : World} {N bo g mc : Nat} {av : Value} {A : List Match} {d d' : Array (Int × Int)} {ar : List Area} (mk : Int × Int → Match) (h : OutAt w N bo (.slice (some ⟨g, 0, none⟩) (A ++ d.toList.map mk).length mc) av (A ++ d.toList.map mk) ar) (hs : d'.size = d.size) (n : Nat) (os : Array Obj) :
    OutAt (sortWorldK (encP mk) 5 w g (A.length * 5) n d' os) N bo (.slice (some ⟨g, 0, none⟩) (A ++ d.toList.map mk).length mc) av (A ++ d'.toList.map mk) ar ∧
      Upd w (sortWorldK (encP mk) 5 w g (A.length * 5) n d' os) bo (.slice (some ⟨g, 0, none⟩) (A ++ d.toList.map mk).length mc) av (.slice (some ⟨g, 0, none⟩) (A ++ d.toList.map mk).length mc) av ∧
      ∀ w0 : World, Ext w0 w → w0.heap.size ≤ N → Ext w0 (sortWorldK (encP mk) 5 w g (A.length * 5) n d' os) := by
  have hblk : ∀ k, k < w.heap.size → k ≠ g → (sortWorldK (encP mk) 5 w g (A.length * 5) n d' os).heap[k]? = w.heap[k]? := by
    intro k hk hne
    show ((w.heap.modify g _) ++ os)[k]? = w.heap[k]?
    rw [Array.getElem?_append_left (by simpa using hk), Array.getElem?_modify, if_neg (fun e => hne e.symm)]
  have hsz : w.heap.size ≤ (sortWorldK (encP mk) 5 w g (A.length * 5) n d' os).heap.size := by
    show _ ≤ ((w.heap.modify g _) ++ os).size
    simp
  obtain ⟨h1, ⟨hl, h2⟩, h3⟩ := h
  rcases h2 with ⟨h2, -⟩ | ⟨g', cap, cur, hv, hb, hh, hn, hm, hcs, ht⟩
  · cases h2
  cases hv
  have hlen : (A ++ d.toList.map mk).length = A.length + d.size := by simp
  have hlt : g < w.heap.size := (Array.getElem?_eq_some_iff.1 hh).1
  have nb : bo ≠ g := fun e => by rw [e, hh] at h1; cases h1
  have na : av.ownBlock ≠ some g := owns_apart h3 hh (by decide)
  have hh' : (sortWorldK (encP mk) 5 w g (A.length * 5) n d' os).heap[g]? = some (.cells (putCells id (A.length * 5) (flatK (encP mk) 5 d') cur) 80) := by
    show ((w.heap.modify g _) ++ os)[g]? = _
    rw [Array.getElem?_append_left (by simpa using hlt), Array.getElem?_modify, if_pos rfl, hh]
    rfl
  rw [hlen] at ht hn
  refine ⟨⟨(hblk bo (Array.getElem?_eq_some_iff.1 h1).1 nb).trans h1, ⟨?_, .inr ⟨g, mc, _, ?_, hb, hh', ?_, hm, ?_, ?_⟩⟩, owns_at h3 fun k hk => hblk k (owns_lt h3 hk) (fun e => na (by rw [hk, e]))⟩, ⟨hsz, fun k hk _ h5 _ => hblk k hk (fun e => h5 (by rw [e]; rfl)), .inl rfl, .inl rfl⟩, fun w0 hE hN => ?_⟩
  · rw [len_const matchCells 5 _ fun _ => rfl]
  · rw [hlen]; simp [hs]
  · simp [hs]; omega
  · rw [putCells, Array.size_mapIdx]; exact hcs
  · have := row_sorted mk ht hs (by rw [hcs]; exact Nat.mul_le_mul_right 5 hn)
    rw [show (A ++ d'.toList.map mk).length = A.length + d.size by simp [hs]]
    exact this
  · exact ⟨hE.os, hE.tape, hE.output, Nat.le_trans hE.size hsz, fun k hk => (hblk k (Nat.lt_of_lt_of_le hk hE.size) (by omega)).trans (Below.block hE k hk)⟩
end Go.Proofs.Ytipkjdfnoonpcaa

/- The matches of a search in order, as plain data; one order alone. No program in sight but the order's function. -/
namespace Go.Proofs.Ytipkjdfnoonpcaa
open Go.RowKit Go.Sort Go.Lib Go.Shelf

theorem perm_sorted_unique {α : Type} {lt : α → α → Prop} : ∀ {l2 l1 : List α}, l1.Perm l2 → l1.Pairwise (fun x y => ¬ lt y x) → l2.Pairwise lt → l1 = l2
  | [], l1, h, _, _ => h.eq_nil
  | b :: l2, l1, h, h1, h2 => by
    cases l1 with
    | nil => exact absurd h.symm.eq_nil (by simp)
    | cons a l1 =>
      have e : a = b := by
        have ha : a ∈ b :: l2 := h.mem_iff.1 (by simp)
        have hb : b ∈ a :: l1 := h.mem_iff.2 (by simp)
        rcases List.mem_cons.1 ha with e | ha
        · exact e
        rcases List.mem_cons.1 hb with e | hb
        · exact e.symm
        exact absurd (List.rel_of_pairwise_cons h2 ha) (List.rel_of_pairwise_cons h1 hb)
      subst e
      rw [perm_sorted_unique ((List.perm_cons a).1 h) (List.Pairwise.of_cons h1) (List.Pairwise.of_cons h2)]
def ltP (p q : Int × Int) : Prop := p.2 < q.2 ∨ p.2 = q.2 ∧ p.1 < q.1
instance (p q : Int × Int) : Decidable (ltP p q) := by unfold ltP; infer_instance
def cfP (p q : Int × Int) : Int := orInt (Lib.compareInt p.2 q.2) (Lib.compareInt p.1 q.1)
theorem ltOf_cfP (p q : Int × Int) : ltOf cfP p q = decide (ltP p q) := by
  unfold ltOf cfP orInt Lib.compareInt ltP
  by_cases h1 : p.2 < q.2
  · simp [h1]
  · by_cases h2 : q.2 < p.2
    · have h3 : ¬ p.2 = q.2 := by omega
      simp [h1, h2, h3]
    · have h3 : p.2 = q.2 := by omega
      by_cases h4 : p.1 < q.1
      · simp [h3, h4]
      · by_cases h5 : q.1 < p.1 <;> simp [h3, h4, h5]
theorem lt_yes (p q : Int × Int) : ltOf cfP p q = true ↔ (p.2 < q.2 ∨ p.2 = q.2 ∧ p.1 < q.1) := by rw [ltOf_cfP]; exact decide_eq_true_iff
theorem lt_no (p q : Int × Int) : ltOf cfP p q = false ↔ ¬ (p.2 < q.2 ∨ p.2 = q.2 ∧ p.1 < q.1) := by rw [ltOf_cfP]; exact decide_eq_false_iff_not
theorem swo_cfP : SWO (ltOf cfP) where
  irrefl x := (lt_no x x).2 (by omega)
  trans x y z h1 h2 := (lt_yes _ _).2 (by have := (lt_yes _ _).1 h1; have := (lt_yes _ _).1 h2; omega)
  ntrans x y z h1 h2 := (lt_no _ _).2 (by have := (lt_no _ _).1 h1; have := (lt_no _ _).1 h2; omega)
theorem total_cfP (x y : Int × Int) (h1 : ltOf cfP x y = false) (h2 : ltOf cfP y x = false) : x = y := by
  have h1 := (lt_no _ _).1 h1
  have h2 := (lt_no _ _).1 h2
  exact Prod.ext (by omega) (by omega)
/-- the sorted list is the ordered one -/
theorem merge_eq {d c : List (Int × Int)} (h : d.Perm c) (hc : c.Pairwise ltP) : d.mergeSort (fun x y => !ltOf cfP y x) = c := by
  refine perm_sorted_unique ((List.mergeSort_perm d _).trans h) ?_ hc
  refine (List.pairwise_mergeSort ?_ ?_ d).imp ?_
  · intro a b c h1 h2
    simp only [Bool.not_eq_true', lt_no] at *
    omega
  · intro a b
    simp only [Bool.or_eq_true, Bool.not_eq_true', lt_no]
    omega
  · intro a b h1 h2
    simp only [Bool.not_eq_true', lt_no] at h1
    exact h1 h2

/-! ### the matches of one turn and scale -/
def onePose (T S : Int) (p : Int × Int) : Pose := ⟨p.1, p.2, T, S⟩
def mkOf (m : Img) (t : Tpl) (T S : Int) (p : Int × Int) : Match := ⟨onePose T S p, bound m t (onePose T S p).area⟩
def placeAt (m : Img) (i : Nat) : Int × Int := ((i : Int) % m.w, (i : Int) / m.w)
def canonP (m : Img) (t : Tpl) (limit T S : Int) : List (Int × Int) := ((List.range m.pix.length).map (placeAt m)).filter fun p => decide (bound m t (onePose T S p).area ≤ limit)
def canon (m : Img) (t : Tpl) (limit T S : Int) : List Match := (canonP m t limit T S).map (mkOf m t T S)
theorem place_lt {m : Img} (hw : 1 ≤ m.w) {i j : Nat} (h : i < j) : ltP (placeAt m i) (placeAt m j) := by
  unfold ltP placeAt
  simp only
  have h1 : (i : Int) / m.w ≤ (j : Int) / m.w := Int.ediv_le_ediv (by omega) (by omega)
  have e1 := Int.mul_ediv_add_emod (i : Int) m.w
  have e2 := Int.mul_ediv_add_emod (j : Int) m.w
  by_cases he : (i : Int) / m.w = (j : Int) / m.w
  · right
    rw [he] at e1
    exact ⟨he, by omega⟩
  · left
    omega
theorem canonP_sorted (m : Img) (t : Tpl) (limit T S : Int) (hw : 1 ≤ m.w) : (canonP m t limit T S).Pairwise ltP := by
  unfold canonP
  refine List.Pairwise.filter _ (List.pairwise_map.2 ?_)
  exact List.pairwise_lt_range.imp fun h => place_lt hw h
theorem ltP_nodup {l : List (Int × Int)} (h : l.Pairwise ltP) : l.Nodup := h.imp fun {a b} h1 e => by subst e; unfold ltP at h1; omega
theorem canonP_mem {m : Img} {t : Tpl} {limit T S : Int} (hm : m.Sized) {p : Int × Int} : p ∈ canonP m t limit T S ↔ m.In p.1 p.2 ∧ bound m t (onePose T S p).area ≤ limit := by
  unfold canonP
  rw [List.mem_filter, List.mem_map]
  obtain ⟨⟨w1, w2⟩, ⟨h1, h2⟩, hl⟩ := hm
  constructor
  · rintro ⟨⟨i, hi, rfl⟩, hb⟩
    refine ⟨?_, of_decide_eq_true hb⟩
    have hi := List.mem_range.1 hi
    have m1 := Int.emod_nonneg (i : Int) (show m.w ≠ 0 by omega)
    have m2 := Int.emod_lt_of_pos (i : Int) (show 0 < m.w by omega)
    have m3 : (i : Int) / m.w < m.h := Int.ediv_lt_of_lt_mul (by omega) (by rw [Int.mul_comm]; omega)
    have m4 : 0 ≤ (i : Int) / m.w := Int.ediv_nonneg (by omega) (by omega)
    unfold Img.In placeAt
    simp only
    omega
  · rintro ⟨hi, hb⟩
    refine ⟨⟨(p.2 * m.w + p.1).toNat, ?_, ?_⟩, decide_eq_true hb⟩
    · have := Img.idx ⟨⟨w1, w2⟩, ⟨h1, h2⟩, hl⟩ hi
      rw [List.mem_range]
      omega
    · have := Img.idx ⟨⟨w1, w2⟩, ⟨h1, h2⟩, hl⟩ hi
      obtain ⟨⟨g1, g2⟩, g3, g4⟩ := hi
      have e : (((p.2 * m.w + p.1).toNat : Nat) : Int) = p.1 + p.2 * m.w := by omega
      unfold placeAt
      rw [e, Int.add_mul_emod_self_right, Int.add_mul_ediv_right _ _ (by omega), Int.emod_eq_of_lt g1 (by omega), Int.ediv_eq_zero_of_lt g1 (by omega), Int.zero_add]
def wholeOf (m : Img) (T S : Int) : Area := ⟨0, 0, m.w - 1, m.h - 1, T, S⟩
theorem whole_ok {m : Img} (hm : m.Sized) {T S : Int} (h : Posed T S) : (wholeOf m T S).Ok m := by
  obtain ⟨⟨w1, w2⟩, ⟨h1, h2⟩, hl⟩ := hm
  unfold wholeOf Area.Ok
  exact ⟨⟨Int.le_refl _, by simp only; omega, by simp only; omega⟩, ⟨Int.le_refl _, by simp only; omega, by simp only; omega⟩, h⟩
theorem whole_size {m : Img} (hm : m.Sized) (T S : Int) : (wholeOf m T S).size ≤ (30 : Nat) := by
  obtain ⟨⟨w1, w2⟩, ⟨h1, h2⟩, hl⟩ := hm
  unfold wholeOf Area.size
  simp only
  omega
theorem whole_has {m : Img} {T S : Int} {p : Int × Int} : (wholeOf m T S).Has (onePose T S p) ↔ m.In p.1 p.2 := by
  unfold wholeOf Area.Has onePose Img.In
  simp only [true_and]
def placesOf (l : List Match) : List (Int × Int) := l.map fun x => (x.pose.x, x.pose.y)
/-- **what was found of one turn and scale: the ordered list, in some order** -/
theorem found_perm {m : Img} {t : Tpl} {limit T S : Int} (hm : m.Sized) (h : Posed T S) : (search m t limit 30 (wholeOf m T S)).1 = (placesOf (search m t limit 30 (wholeOf m T S)).1).map (mkOf m t T S) ∧
    (placesOf (search m t limit 30 (wholeOf m T S)).1).Perm (canonP m t limit T S) := by
  have ho := whole_ok hm h
  have hz := whole_size hm T S
  obtain ⟨h1, -, -, -⟩ := search_right (t := t) (limit := limit) 30 _ ho hz
  have hh := search_hits (t := t) (limit := limit) 30 _ ho hz
  generalize (search m t limit 30 (wholeOf m T S)).1 = l at *
  have hp : ∀ x ∈ l, x.pose = onePose T S (x.pose.x, x.pose.y) := fun x hx => by
    obtain ⟨⟨e1, e2⟩, -⟩ := (h1 x hx).2
    have e1 : T = x.pose.turn := e1
    have e2 : S = x.pose.scale := e2
    unfold onePose
    rw [e1, e2]
  constructor
  · unfold placesOf
    rw [List.map_map]
    refine (List.map_id l).symm.trans (List.map_congr_left fun x hx => ?_)
    have e := hp x hx
    show x = mkOf m t T S (x.pose.x, x.pose.y)
    unfold mkOf
    rw [← e, (h1 x hx).1.2.2]
  · rw [List.perm_iff_count]
    intro p
    have e1 : (placesOf l).count p = hits l (onePose T S p) := by
      unfold placesOf hits List.count
      rw [List.countP_map]
      refine List.countP_congr fun x hx => ?_
      have e := hp x hx
      simp only [Function.comp, beq_iff_eq, decide_eq_true_eq]
      constructor
      · rintro rfl; exact e
      · intro h9
        rw [h9]
        rfl
    have e2 : (canonP m t limit T S).count p = if p ∈ canonP m t limit T S then 1 else 0 := (ltP_nodup (canonP_sorted m t limit T S hm.1.1)).count
    rw [e1, hh, e2]
    by_cases h9 : p ∈ canonP m t limit T S
    · rw [if_pos h9, if_pos]
      rw [whole_has]
      exact (canonP_mem hm).1 h9
    · rw [if_neg h9, if_neg]
      rw [whole_has]
      exact fun h8 => h9 ((canonP_mem hm).2 h8)
end Go.Proofs.Ytipkjdfnoonpcaa

/- slices.SortFunc at this program's numbers: the end of the row of matches. -/
namespace Go.Proofs.Ytipkjdfnoonpcaa
open Go.RowKit Go.Sort Go.Lib Go.Shelf

theorem c77_none (p : Option Addr) (cap : Nat) (fv : Value) (w : World) : Calls Try.prog 77 #[.slice p 0 cap, fv] w fun e w' => e = .returned (.tuple #[]) ∧ w' = w :=
  AnyF.slices_SortFunc_none Try.sortM p cap fv w
set_option maxRecDepth 100000 in
theorem c77 (m : Img) (t : Tpl) (T S : Int) (d : Array (Int × Int)) (g off cap : Nat) (w : World) (hH : HoldsK (encP (mkOf m t T S)) 5 w g off d) (hg : g < w.heap.size) (hd : d.size ≤ 1000000) :
    Calls Try.prog 77 #[.slice (some ⟨g, off, none⟩) d.size cap, .func (.func 78) #[] #[]] w fun e w' => e = .returned (.tuple #[]) ∧ ∃ n os, w' = sortWorldK (encP (mkOf m t T S)) 5 w g off n (d.toList.mergeSort fun x y => !ltOf cfP y x).toArray os :=
  AnyQ.slices_SortFunc_total Try.sortM 5 Try.isAgg80 Try.sizeOf80 (encP (mkOf m t T S)) (fun _ => rfl) (fun x => matchCells_one (mkOf m t T S x)) cfP swo_cfP 78 #[] g off cap d w (enters_of Try.func78 (by kernel_rfl) rfl)
    (fun _ _ _ _ x y => c78 (mkOf m t T S x) (mkOf m t T S y) _) hH hg (by omega) total_cfP
end Go.Proofs.Ytipkjdfnoonpcaa

/- The iterator 'wholes': it yields the areas of all places, for each turn and scale. -/
namespace Go.Proofs.Ytipkjdfnoonpcaa
open Go.RowKit Go.Sort Go.Lib Go.Shelf
attribute [local go_sem] Oper.semAt_some

/-- a turn and a scale that are allowed -/
abbrev PS := { p : Int × Int // Posed p.1 p.2 }
def psAt (k : Nat) : PS := ⟨(((k % 48 / 4 : Nat) : Int), ((k % 4 : Nat) : Int) + 1), by unfold Posed; simp only; omega⟩
def upto (k : Nat) : List PS := (List.range k).map psAt
theorem upto_succ (k : Nat) : upto (k + 1) = upto k ++ [psAt k] := by simp [upto, List.range_succ]
theorem upto_length (k : Nat) : (upto k).length = k := by simp [upto]
theorem upto_prefix {j k : Nat} (h : j ≤ k) : upto j <+: upto k := by
  obtain ⟨d, rfl⟩ : ∃ d, k = j + d := ⟨k - j, by omega⟩
  refine ⟨(List.range d).map fun i => psAt (j + i), ?_⟩
  unfold upto
  rw [List.range_add, List.map_append, List.map_map]
  rfl
def encA (m : Img) (x : PS) : Array Value := #[.agg #[.int .i64 0, .int .i64 0, .int .i64 (m.w - 1), .int .i64 (m.h - 1), .int .i64 x.1.1, .int .i64 x.1.2]]
theorem psAt_at {T S : Nat} (h1 : T < 12) (h2 : S < 4) : (psAt (4 * T + S)).1 = ((T : Int), (S : Int) + 1) := by
  unfold psAt
  simp only [Prod.mk.injEq]
  omega
set_option maxRecDepth 100000 in
set_option maxHeartbeats 4000000 in
theorem wholes1_in (F : Fence) (n : Nat) (h102 : F.fn 102) (hro : F.round = none) (hn : 1 ≤ n) (l bw : Nat) (m : Img) (v : Value) (hm : m.Sized) (J Jx : List PS → World → Prop)
    (hY : ∀ pre x W, J pre W → pre.length < 48 → YieldAt F (n - 1) Try.prog l (encA m x) W fun e W' =>
      (e = .returned (.bool true) ∧ J (pre ++ [x]) W' ∧ W'.heap[bw]? = W.heap[bw]?) ∨ (e = .returned (.bool false) ∧ Jx (pre ++ [x]) W'))
    (W : World) (hB : W.heap[bw]? = some (.cells #[.int .i64 m.w, .int .i64 m.h, v] 24)) (h0 : J [] W) :
    CallsIn F n Try.prog 102 #[.func (.yield l) #[] #[], .pointer (some ⟨bw, 0, none⟩)] W fun e W' => (∃ v, e = .returned v) ∧
      ((∃ ys, ys = upto 48 ∧ J ys W') ∨ (∃ pre, pre <+: upto 48 ∧ Jx pre W')) := by
  obtain ⟨⟨w1, w2⟩, ⟨k1, k2⟩, hl⟩ := hm
  clear hl
  refine callsIn_of_wp Try.func102 rfl h102 ?_ hro
  simp only [Try.ntmps102, List.size_toArray, List.length_cons, List.length_nil, Nat.reduceAdd, Nat.reduceSub, Array.replicate_succ, Array.replicate_zero, List.push_toArray, List.append_toArray, List.nil_append, List.cons_append]
  gi_wp2
  gi_loopw [5] (fun v5 wr => ∃ T : Nat, T ≤ 12 ∧ v5 = .int .i64 (T : Int) ∧ J (upto (4 * T)) wr ∧ wr.heap[bw]? = some (.cells #[.int .i64 m.w, .int .i64 m.h, v] 24)) (fun v5 _ => 12 - (intOf v5).toNat)
  case atStart => exact ⟨0, by omega, rfl, h0, hB⟩
  case round =>
    obtain ⟨T, hT, rfl, hJ, hb⟩ := hrel
    by_cases hlt : T < 12
    · have hlt' : (T : Int) < 12 := by omega
      gi_wp2
      gi_loopw [8] (fun v8 wr => ∃ S : Nat, S ≤ 4 ∧ v8 = .int .i64 (S : Int) ∧ J (upto (4 * T + S)) wr ∧ wr.heap[bw]? = some (.cells #[.int .i64 m.w, .int .i64 m.h, v] 24)) (fun v8 _ => 4 - (intOf v8).toNat)
      case atStart => exact ⟨0, by omega, rfl, hJ, hb⟩
      case round =>
        obtain ⟨S, hS, rfl, hJ2, hb2⟩ := hrel
        by_cases hls : S < 4
        · have hls' : (S : Int) < 4 := by omega
          obtain ⟨fn, tmps, assign, body, hy, hR⟩ := hY (upto (4 * T + S)) (psAt (4 * T + S)) wr hJ2 (by rw [upto_length]; omega)
          unfold encA at hy
          rw [psAt_at hlt hls] at hy
          have c0 := cell_of_at hb2 0 rfl
          have c1 := cell_of_at hb2 1 rfl
          have hz := (Array.getElem?_eq_some_iff.1 hb2).1
          gi_wp2
          refine hR.mono ?_
          rintro e W3 (⟨rfl, hJ3, hk3⟩ | ⟨rfl, hJx3⟩)
          · gi_wp2
            go_roundw
            case rel => exact ⟨S + 1, by omega, by go_num, by rw [show 4 * T + (S + 1) = 4 * T + S + 1 by omega, upto_succ]; exact hJ3, hk3.trans hb2⟩
            case measure => show 4 - ((S : Int) + 1).toNat < 4 - (S : Int).toNat; omega
          · gi_wp2
            refine bodyPost_ret (results_none rfl _ _ _) rfl ?_
            exact ⟨⟨_, rfl⟩, .inr ⟨_, by rw [← upto_succ]; exact upto_prefix (by omega), hJx3⟩⟩
        · obtain rfl : S = 4 := by omega
          have hls' : ¬ (4 : Int) < 4 := by omega
          gi_wp2
          go_roundw
          case rel => exact ⟨T + 1, by omega, by go_num, hJ2, hb2⟩
          case measure => show 12 - ((T : Int) + 1).toNat < 12 - (T : Int).toNat; omega
    · obtain rfl : T = 12 := by omega
      gi_wp2
      (first | go_end0 | refine bodyPost_ret (results_none rfl _ _ _) rfl ?_)
      exact ⟨⟨_, rfl⟩, .inl ⟨_, rfl, hJ⟩⟩
/-- **what 'wholes' hands back yields all turns and scales, in order** -/
theorem wholes_stops (F : Fence) (n : Nat) (h102 : F.fn 102) (hro : F.round = none) (hn : 1 ≤ n) (bw : Nat) (m : Img) (v : Value) (hm : m.Sized) (w : World) (hB : w.heap[bw]? = some (.cells #[.int .i64 m.w, .int .i64 m.h, v] 24)) :
    SeqStopsK F n Try.prog 102 #[.pointer (some ⟨bw, 0, none⟩)] (encA m) (fun W W' => W'.heap[bw]? = W.heap[bw]?) (fun ys => ys = upto 48) (fun pre => pre <+: upto 48) 48 w := fun l J Jx W hW _ _ hY h0 =>
  wholes1_in F n h102 hro hn l bw m v hm J Jx hY W ((hW.block bw (Array.getElem?_eq_some_iff.1 hB).1).trans hB) h0
set_option maxRecDepth 100000 in
theorem c75 (m : Img) (v : Value) (w : World) : Calls Try.prog 75 #[imgVal m v] w fun e w' => e = .returned (.func (.func 102) #[] #[.pointer (some ⟨w.heap.size, 0, none⟩)]) ∧ w' = w.alloc (.cells #[.int .i64 m.w, .int .i64 m.h, v] 24) := by
  unfold imgVal
  go_enter Try.func75, Try.ntmps75
  go_wp2
  go_ret
  exact ⟨rfl, rfl⟩
end Go.Proofs.Ytipkjdfnoonpcaa

/- What Find leaves, as plain data; what a round of its loop keeps. -/
namespace Go.Proofs.Ytipkjdfnoonpcaa
open Go.RowKit Go.Sort

theorem OutAt.end_row {w : World} {N bo : Nat} {mv av : Value} {A : List Match} {d : Array (Int × Int)} {ar : List Area} (mk : Int × Int → Match) (h : OutAt w N bo mv av (A ++ d.toList.map mk) ar) (hd : 0 < d.size) :
    ∃ g mc, mv = .slice (some ⟨g, 0, none⟩) (A ++ d.toList.map mk).length mc ∧ A.length + d.size ≤ mc ∧ g < w.heap.size ∧ HoldsK (encP mk) 5 w g (A.length * 5) d := by
  obtain ⟨h1, ⟨hl, h2⟩, h3⟩ := h
  rcases h2 with ⟨h2, h0⟩ | ⟨g, cap, cur, hv, hb, hh, hn, hm, hcs, ht⟩
  · simp at h0
    simp [h0.2] at hd
  · have hlen : (A ++ d.toList.map mk).length = A.length + d.size := by simp
    refine ⟨g, cap, hv, by omega, (Array.getElem?_eq_some_iff.1 hh).1, holds_row mk hh ?_⟩
    rw [hlen] at ht
    exact ht
def findE (m : Img) (t : Tpl) (limit : Int) : Int := if checkE m t = 0 then if 0 ≤ limit ∧ limit ≤ 16320 then 0 else 2 else checkE m t
def msOf (m : Img) (t : Tpl) (limit : Int) (l : List PS) : List Match := l.flatMap fun x => canon m t limit x.1.1 x.1.2
def arOf (m : Img) (t : Tpl) (limit : Int) (l : List PS) : List Area := l.flatMap fun x => (search m t limit 30 (wholeOf m x.1.1 x.1.2)).2
theorem msOf_snoc (m : Img) (t : Tpl) (limit : Int) (l : List PS) (x : PS) : msOf m t limit (l ++ [x]) = msOf m t limit l ++ canon m t limit x.1.1 x.1.2 := by simp [msOf]
theorem arOf_snoc (m : Img) (t : Tpl) (limit : Int) (l : List PS) (x : PS) : arOf m t limit (l ++ [x]) = arOf m t limit l ++ (search m t limit 30 (wholeOf m x.1.1 x.1.2)).2 := by simp [arOf]
theorem flat_le {α β : Type} (f : α → List β) (n : Nat) : ∀ l : List α, (∀ x ∈ l, (f x).length ≤ n) → (l.flatMap f).length ≤ l.length * n
  | [], _ => by simp
  | x :: l, h => by
    have h1 := h x (by simp)
    have h2 := flat_le f n l fun y hy => h y (by simp [hy])
    rw [List.flatMap_cons, List.length_append, List.length_cons, Nat.add_mul]
    omega
theorem canon_len (m : Img) (t : Tpl) (limit T S : Int) : (canon m t limit T S).length ≤ m.pix.length := by
  unfold canon canonP
  rw [List.length_map]
  exact Nat.le_trans (List.length_filter_le _ _) (by simp)
theorem whole_found {m : Img} {t : Tpl} {limit T S : Int} (hm : m.Sized) (h : Posed T S) : (search m t limit 30 (wholeOf m T S)).1.length + (search m t limit 30 (wholeOf m T S)).2.length ≤ m.pix.length := by
  obtain ⟨-, -, -, h4⟩ := search_right (t := t) (limit := limit) 30 _ (whole_ok hm h) (whole_size hm T S)
  have e : ((wholeOf m T S).x1 - (wholeOf m T S).x0 + 1) * ((wholeOf m T S).y1 - (wholeOf m T S).y0 + 1) = m.pix.length := by
    rw [hm.2.2]
    unfold wholeOf
    simp only
    congr 1 <;> omega
  omega
theorem msOf_len {m : Img} (hm : m.Sized) (t : Tpl) (limit : Int) {l : List PS} (h : l.length ≤ 48) : (msOf m t limit l).length ≤ 12288 := by
  have h1 := flat_le (fun x : PS => canon m t limit x.1.1 x.1.2) 256 l fun x _ => Nat.le_trans (canon_len m t limit _ _) (Img.len_bd hm).2
  unfold msOf
  omega
theorem arOf_len {m : Img} (hm : m.Sized) (t : Tpl) (limit : Int) {l : List PS} (h : l.length ≤ 48) : (arOf m t limit l).length ≤ 12288 := by
  have h1 := flat_le (fun x : PS => (search m t limit 30 (wholeOf m x.1.1 x.1.2)).2) 256 l fun x _ => by have := whole_found (t := t) (limit := limit) hm x.2; have := (Img.len_bd hm).2; show (search m t limit 30 (wholeOf m x.1.1 x.1.2)).2.length ≤ 256; omega
  unfold arOf
  omega
/-- a world that grew but for an object that is no cells -/
theorem heap_cells {W W' : World} {row : Option Nat} (hg : W.grownBy W' row) (hr : ∀ r, row = some r → ∃ o : Obj, W.heap[r]? = some o ∧ o.isCells = false) {k : Nat} {cs : Array Value} {e : TypeId} {fr : Nat × Nat} (h : W.heap[k]? = some (.cells cs e fr)) : W'.heap[k]? = some (.cells cs e fr) := by
  rw [hg.block k (Array.getElem?_eq_some_iff.1 h).1 ?_]
  · exact h
  · intro e'
    obtain ⟨o, ho, hc⟩ := hr k e'.symm
    rw [h] at ho
    cases ho
    cases hc
theorem OutAt.loop {W W' : World} {row : Option Nat} {N bo : Nat} {mv av : Value} {ms : List Match} {ar : List Area} (h : OutAt W N bo mv av ms ar) (hg : W.grownBy W' row) (hr : ∀ r, row = some r → ∃ o : Obj, W.heap[r]? = some o ∧ o.isCells = false) : OutAt W' N bo mv av ms ar := by
  refine h.move fun k hk => ?_
  obtain ⟨cs, e, fr, hc⟩ : ∃ cs e fr, W.heap[k]? = some (.cells cs e fr) := by
    rcases hk with rfl | hk | hk
    · exact ⟨_, _, _, h.1⟩
    · obtain ⟨cur, fr, hc⟩ := owns_type h.2.1 k hk; exact ⟨_, _, _, hc⟩
    · obtain ⟨cur, fr, hc⟩ := owns_type h.2.2 k hk; exact ⟨_, _, _, hc⟩
  rw [heap_cells hg hr hc, hc]
theorem owns_loop {W W' : World} {row : Option Nat} {base e sz n : Nat} {v : Value} {cs : List Value} (h : W.ownsRow base e sz v n cs) (hg : W.grownBy W' row) (hr : ∀ r, row = some r → ∃ o : Obj, W.heap[r]? = some o ∧ o.isCells = false) : W'.ownsRow base e sz v n cs :=
  owns_at h fun k hk => by
    obtain ⟨cur, fr, hc⟩ := owns_type h k hk
    rw [heap_cells hg hr hc, hc]
theorem At.loop {W W' : World} {row : Option Nat} (hg : W.grownBy W' row) (hr : ∀ r, row = some r → ∃ o : Obj, W.heap[r]? = some o ∧ o.isCells = false) : ∀ {l : List (Nat × (Array Value × TypeId))}, At W (l.map fun p => (p.1, .cells p.2.1 p.2.2)) → At W' (l.map fun p => (p.1, .cells p.2.1 p.2.2))
  | [], _ => trivial
  | (k, c, e) :: l, h => ⟨heap_cells hg hr h.1, At.loop hg hr (l := l) h.2⟩
/-- only cells have turned -/
theorem Upd.keeps {w w' : World} {N bo : Nat} {mv av mv' av' : Value} {ms : List Match} {ar : List Area} (h : Upd w w' bo mv av mv' av') (hO : OutAt w N bo mv av ms ar) (B : Nat) : KeepsFrom B w w' := by
  refine ⟨h.size, fun k o _ hk hc => ?_⟩
  have hlt := (Array.getElem?_eq_some_iff.1 hk).1
  refine (h.keep k hlt ?_ ?_ ?_).trans hk
  · rintro rfl
    rw [hO.1] at hk
    cases hk
    cases hc
  · intro e
    obtain ⟨cur, fr, h9⟩ := owns_type hO.2.1 k e
    rw [h9] at hk
    cases hk
    cases hc
  · intro e
    obtain ⟨cur, fr, h9⟩ := owns_type hO.2.2 k e
    rw [h9] at hk
    cases hk
    cases hc
end Go.Proofs.Ytipkjdfnoonpcaa

/- 'Find': the walk. -/
namespace Go.Proofs.Ytipkjdfnoonpcaa
open Go.RowKit Go.Sort

attribute [local go_sem] Oper.semAt_some
theorem zero2_own (w : World) (N : Nat) : w.ownsRow N 80 5 (.slice none 0 0) 0 [] ∧ w.ownsRow N 47 6 (.slice none 0 0) 0 [] := ⟨⟨rfl, .inl ⟨rfl, rfl⟩⟩, rfl, .inl ⟨rfl, rfl⟩⟩
/-- what 'Find' leaves -/
def FindIs (m : Img) (t : Tpl) (limit : Int) (w : World) (e : Ending) (w' : World) : Prop :=
  ∃ mv av, e = .returned (.tuple #[.agg #[mv, av], .int .i64 (findE m t limit)]) ∧ w'.ownsRow w.heap.size 80 5 mv (if findE m t limit = 0 then msOf m t limit (upto 48) else []).length ((if findE m t limit = 0 then msOf m t limit (upto 48) else []).flatMap matchCells) ∧
    w'.ownsRow w.heap.size 47 6 av (if findE m t limit = 0 then arOf m t limit (upto 48) else []).length ((if findE m t limit = 0 then arOf m t limit (upto 48) else []).flatMap areaCells) ∧ Ext w w'
theorem findIs_err {m : Img} {t : Tpl} {limit r : Int} {w w' : World} {e : Ending} (hr : findE m t limit = r) (h0 : r ≠ 0) (he : e = .returned (.tuple #[.agg #[.slice none 0 0, .slice none 0 0], .int .i64 r])) (hE : Ext w w') : FindIs m t limit w e w' := by
  refine ⟨_, _, by rw [he, hr], ?_, ?_, hE⟩
  · rw [if_neg (by rw [hr]; exact h0)]
    exact (zero2_own _ _).1
  · rw [if_neg (by rw [hr]; exact h0)]
    exact (zero2_own _ _).2
set_option maxRecDepth 100000 in
set_option maxHeartbeats 16000000 in
theorem c36 (m : Img) (v : Value) (t : Tpl) (tv : Value) (limit : Int) (w : World) (hv : IntsAt w v m.pix) (hml : m.pix.length ≤ maxLen) (htv : IntsAt w tv t.pix) (htl : t.pix.length ≤ maxLen) :
    Calls Try.prog 36 #[imgVal m v, tplVal t tv, .int .i64 limit] w (FindIs m t limit w) := by
  have HV := Lib.hid hv
  have HTV := Lib.hid htv
  obtain ⟨mo, mc, rfl, -, -⟩ := hv.form
  obtain ⟨to, tc, rfl, -, -⟩ := htv.form
  have K67 := Lib.hid (fun w' (h : Ext w w') => c67 m _ t _ w' (HV.out.ext h) hml (HTV.out.ext h) htl)
  have K75 := Lib.hid (fun w' => c75 m (.slice mo m.pix.length mc) w')
  unfold imgVal tplVal at *
  clear hv htv hml htl
  by_cases h0 : checkE m t = 0
  case neg =>
    obtain ⟨r, hr⟩ : ∃ r, checkE m t = r := ⟨_, rfl⟩
    have q0 : (r != 0) = true := by simpa [hr] using h0
    have q1 := Lib.hid (show r ≠ 0 from hr ▸ h0)
    have hR := Lib.hid (show findE m t limit = r from by unfold findE; rw [if_neg h0, hr])
    rw [hr] at K67
    clear h0 hr
    go_enter Try.func36, Try.ntmps36
    go_wp2_with (go_at_call 67; (with_reducible refine (K67.out _ (by repeat (first | exact Ext.refl _ | assumption | refine Ext.alloc ?_ _ | refine Ext.drewN ?_ _ | refine ext_grow ?_ _ _ | refine Ext.trans ?_ (by assumption)))).mono ?_); rintro E w1 ⟨rfl, hb1⟩; have A1 := Lib.hid (show At w1 [(w.heap.size + 1 + 1 + 1, Obj.cells #[.slice none 0 0, .slice none 0 0] 63), (w.heap.size + 1 + 1, Obj.cells #[.int .i64 limit] 3), (w.heap.size + 1, Obj.cells #[.int .i64 t.w, .int .i64 t.h, .slice to t.pix.length tc] 43), (w.heap.size, Obj.cells #[.int .i64 m.w, .int .i64 m.h, .slice mo m.pix.length mc] 24)] from At.ext hb1 ⟨(by repeat (first | (refine blk_at _ _ ?_; (first | rfl | (simp only [size_one]; done))) | refine (blk_past _ _ (by simp only [size_one]; omega)).trans ?_)), (by repeat (first | (refine blk_at _ _ ?_; (first | rfl | (simp only [size_one]; done))) | refine (blk_past _ _ (by simp only [size_one]; omega)).trans ?_)), (by repeat (first | (refine blk_at _ _ ?_; (first | rfl | (simp only [size_one]; done))) | refine (blk_past _ _ (by simp only [size_one]; omega)).trans ?_)), (by repeat (first | (refine blk_at _ _ ?_; (first | rfl | (simp only [size_one]; done))) | refine (blk_past _ _ (by simp only [size_one]; omega)).trans ?_)), trivial⟩); have E1 := Lib.hid (show Ext w w1 from (by repeat (first | exact Ext.refl _ | assumption | refine Ext.alloc ?_ _ | refine Ext.drewN ?_ _ | refine ext_grow ?_ _ _ | refine Ext.trans ?_ (by assumption)))); obtain ⟨⟨x00, x01⟩, xf00, xf01⟩ := run_2 (At.at A1.out 0 rfl); obtain ⟨x10, xf10⟩ := run_1 (At.at A1.out 1 rfl); obtain ⟨⟨x20, x21, x22⟩, xf20, xf21, xf22⟩ := run_3 (At.at A1.out 2 rfl); obtain ⟨⟨x30, x31, x32⟩, xf30, xf31, xf32⟩ := run_3 (At.at A1.out 3 rfl); have xz0 := At.lt A1.out 0 rfl; have xy0 := Nat.lt_succ_of_lt xz0; have xx0 := Nat.lt_succ_of_lt xy0; have xz1 := At.lt A1.out 1 rfl; have xy1 := Nat.lt_succ_of_lt xz1; have xx1 := Nat.lt_succ_of_lt xy1; have xz2 := At.lt A1.out 2 rfl; have xy2 := Nat.lt_succ_of_lt xz2; have xx2 := Nat.lt_succ_of_lt xy2; have xz3 := At.lt A1.out 3 rfl; have xy3 := Nat.lt_succ_of_lt xz3; have xx3 := Nat.lt_succ_of_lt xy3)
    have st := store_2 (v0 := .slice none 0 0) (v1 := .slice none 0 0) (At.at A1.out 0 rfl)
    refine bodyPost_ret (results_row2 rfl _ _ _ _ _ (0, 0) _ rfl st.1 Try.underlying63 rfl (by kernel_rfl)) rfl ?_
    exact findIs_err hR.out q1.out rfl (st.2.2 w (by omega) E1.out)
  obtain ⟨g1, g2⟩ := check_ok h0
  rw [h0] at K67
  by_cases h1 : 0 ≤ limit ∧ limit ≤ 16320
  case neg =>
    have q1 : decide (0 ≤ limit ∧ limit ≤ 16320) = false := decide_eq_false h1
    have hR := Lib.hid (show findE m t limit = 2 from by unfold findE; rw [if_pos h0, if_neg h1])
    clear h0 h1 g1 g2
    go_enter Try.func36, Try.ntmps36
    go_wp2_with (first | (have _q := E1; go_at_call 50; (with_reducible refine (within_one_same 50 (.inl rfl) _ _ _ _ _ (by simp)).mono ?_); rintro e w' ⟨rfl, rfl⟩) | (go_at_call 67; (with_reducible refine (K67.out _ (by repeat (first | exact Ext.refl _ | assumption | refine Ext.alloc ?_ _ | refine Ext.drewN ?_ _ | refine ext_grow ?_ _ _ | refine Ext.trans ?_ (by assumption)))).mono ?_); rintro E w1 ⟨rfl, hb1⟩; have A1 := Lib.hid (show At w1 [(w.heap.size + 1 + 1 + 1, Obj.cells #[.slice none 0 0, .slice none 0 0] 63), (w.heap.size + 1 + 1, Obj.cells #[.int .i64 limit] 3), (w.heap.size + 1, Obj.cells #[.int .i64 t.w, .int .i64 t.h, .slice to t.pix.length tc] 43), (w.heap.size, Obj.cells #[.int .i64 m.w, .int .i64 m.h, .slice mo m.pix.length mc] 24)] from At.ext hb1 ⟨(by repeat (first | (refine blk_at _ _ ?_; (first | rfl | (simp only [size_one]; done))) | refine (blk_past _ _ (by simp only [size_one]; omega)).trans ?_)), (by repeat (first | (refine blk_at _ _ ?_; (first | rfl | (simp only [size_one]; done))) | refine (blk_past _ _ (by simp only [size_one]; omega)).trans ?_)), (by repeat (first | (refine blk_at _ _ ?_; (first | rfl | (simp only [size_one]; done))) | refine (blk_past _ _ (by simp only [size_one]; omega)).trans ?_)), (by repeat (first | (refine blk_at _ _ ?_; (first | rfl | (simp only [size_one]; done))) | refine (blk_past _ _ (by simp only [size_one]; omega)).trans ?_)), trivial⟩); have E1 := Lib.hid (show Ext w w1 from (by repeat (first | exact Ext.refl _ | assumption | refine Ext.alloc ?_ _ | refine Ext.drewN ?_ _ | refine ext_grow ?_ _ _ | refine Ext.trans ?_ (by assumption)))); obtain ⟨⟨x00, x01⟩, xf00, xf01⟩ := run_2 (At.at A1.out 0 rfl); obtain ⟨x10, xf10⟩ := run_1 (At.at A1.out 1 rfl); obtain ⟨⟨x20, x21, x22⟩, xf20, xf21, xf22⟩ := run_3 (At.at A1.out 2 rfl); obtain ⟨⟨x30, x31, x32⟩, xf30, xf31, xf32⟩ := run_3 (At.at A1.out 3 rfl); have xz0 := At.lt A1.out 0 rfl; have xy0 := Nat.lt_succ_of_lt xz0; have xx0 := Nat.lt_succ_of_lt xy0; have xz1 := At.lt A1.out 1 rfl; have xy1 := Nat.lt_succ_of_lt xz1; have xx1 := Nat.lt_succ_of_lt xy1; have xz2 := At.lt A1.out 2 rfl; have xy2 := Nat.lt_succ_of_lt xz2; have xx2 := Nat.lt_succ_of_lt xy2; have xz3 := At.lt A1.out 3 rfl; have xy3 := Nat.lt_succ_of_lt xz3; have xx3 := Nat.lt_succ_of_lt xy3))
    have st := store_2 (v0 := .slice none 0 0) (v1 := .slice none 0 0) (At.at A1.out 0 rfl)
    refine bodyPost_ret (results_row2 rfl _ _ _ _ _ (0, 0) _ rfl (Ext.blk ((Ext.refl _).alloc _) st.1) Try.underlying63 rfl (by kernel_rfl)) rfl ?_
    exact findIs_err hR.out (by decide) rfl ((st.2.2 w (by omega) E1.out).alloc _)
  have q1 : decide (0 ≤ limit ∧ limit ≤ 16320) = true := decide_eq_true h1
  have hR := Lib.hid (show findE m t limit = 0 from by unfold findE; rw [if_pos h0, if_pos h1])
  have HM := Lib.hid g1
  have HT := Lib.hid g2
  clear h0 h1 g1 g2
  refine (callsIn_wide (n := 6)).1 ?_
  refine callsIn_of_wp_marks Try.func36 rfl trivial ?_ rfl
  simp only [Try.ntmps36, List.size_toArray, List.length_cons, List.length_nil, Nat.reduceAdd, Nat.reduceSub, Array.replicate_succ, Array.replicate_zero, List.push_toArray, List.append_toArray, List.nil_append, List.cons_append]
  gi_wp2_with (first | (have _q := E1; refine ⟨trivial, ?_⟩; gi_at_call 75; (with_reducible refine (callsIn_wide.2 (K75.out _)).mono ?_); rintro e w' ⟨rfl, rfl⟩) | (have _q := E1; refine ⟨trivial, ?_⟩; gi_at_call 50; (with_reducible refine (callsIn_wide.2 (within_one_same 50 (.inl rfl) _ _ _ _ _ (by simp))).mono ?_); rintro e w' ⟨rfl, rfl⟩) | (refine ⟨trivial, ?_⟩; gi_at_call 67; (with_reducible refine (callsIn_wide.2 (K67.out _ (by repeat (first | exact Ext.refl _ | assumption | refine Ext.alloc ?_ _ | refine Ext.drewN ?_ _ | refine ext_grow ?_ _ _ | refine Ext.trans ?_ (by assumption))))).mono ?_); rintro E w1 ⟨rfl, hb1⟩; have A1 := Lib.hid (show At w1 [(w.heap.size + 1 + 1 + 1, Obj.cells #[.slice none 0 0, .slice none 0 0] 63), (w.heap.size + 1 + 1, Obj.cells #[.int .i64 limit] 3), (w.heap.size + 1, Obj.cells #[.int .i64 t.w, .int .i64 t.h, .slice to t.pix.length tc] 43), (w.heap.size, Obj.cells #[.int .i64 m.w, .int .i64 m.h, .slice mo m.pix.length mc] 24)] from At.ext hb1 ⟨(by repeat (first | (refine blk_at _ _ ?_; (first | rfl | (simp only [size_one]; done))) | refine (blk_past _ _ (by simp only [size_one]; omega)).trans ?_)), (by repeat (first | (refine blk_at _ _ ?_; (first | rfl | (simp only [size_one]; done))) | refine (blk_past _ _ (by simp only [size_one]; omega)).trans ?_)), (by repeat (first | (refine blk_at _ _ ?_; (first | rfl | (simp only [size_one]; done))) | refine (blk_past _ _ (by simp only [size_one]; omega)).trans ?_)), (by repeat (first | (refine blk_at _ _ ?_; (first | rfl | (simp only [size_one]; done))) | refine (blk_past _ _ (by simp only [size_one]; omega)).trans ?_)), trivial⟩); have E1 := Lib.hid (show Ext w w1 from (by repeat (first | exact Ext.refl _ | assumption | refine Ext.alloc ?_ _ | refine Ext.drewN ?_ _ | refine ext_grow ?_ _ _ | refine Ext.trans ?_ (by assumption)))); obtain ⟨⟨x00, x01⟩, xf00, xf01⟩ := run_2 (At.at A1.out 0 rfl); obtain ⟨x10, xf10⟩ := run_1 (At.at A1.out 1 rfl); obtain ⟨⟨x20, x21, x22⟩, xf20, xf21, xf22⟩ := run_3 (At.at A1.out 2 rfl); obtain ⟨⟨x30, x31, x32⟩, xf30, xf31, xf32⟩ := run_3 (At.at A1.out 3 rfl); have xz0 := At.lt A1.out 0 rfl; have xy0 := Nat.lt_succ_of_lt xz0; have xx0 := Nat.lt_succ_of_lt xy0; have xz1 := At.lt A1.out 1 rfl; have xy1 := Nat.lt_succ_of_lt xz1; have xx1 := Nat.lt_succ_of_lt xy1; have xz2 := At.lt A1.out 2 rfl; have xy2 := Nat.lt_succ_of_lt xz2; have xx2 := Nat.lt_succ_of_lt xy2; have xz3 := At.lt A1.out 3 rfl; have xy3 := Nat.lt_succ_of_lt xz3; have xx3 := Nat.lt_succ_of_lt xy3))
  obtain ⟨k1, hk1⟩ : ∃ k, w1.heap.size = k := ⟨_, rfl⟩
  have HA0 := Lib.hid (show At (((w1.alloc (.cells #[.int .i64 limit] 3)).alloc (.cells #[.slice none 0 0, .slice none 0 0] 63)).alloc (.cells #[.int .i64 m.w, .int .i64 m.h, .slice mo m.pix.length mc] 24)) [(k1 + 1 + 1, Obj.cells #[.int .i64 m.w, .int .i64 m.h, .slice mo m.pix.length mc] 24), (k1 + 1, Obj.cells #[.slice none 0 0, .slice none 0 0] 63), (w.heap.size + 1 + 1 + 1, Obj.cells #[.slice none 0 0, .slice none 0 0] 63), (w.heap.size + 1 + 1, Obj.cells #[.int .i64 limit] 3), (w.heap.size + 1, Obj.cells #[.int .i64 t.w, .int .i64 t.h, .slice to t.pix.length tc] 43), (w.heap.size, Obj.cells #[.int .i64 m.w, .int .i64 m.h, .slice mo m.pix.length mc] 24)] from by
    rw [← hk1]
    exact ⟨(by repeat (first | (refine blk_at _ _ ?_; (first | rfl | (simp only [size_one]; done))) | refine (blk_past _ _ (by simp only [size_one]; omega)).trans ?_)), (by repeat (first | (refine blk_at _ _ ?_; (first | rfl | (simp only [size_one]; done))) | refine (blk_past _ _ (by simp only [size_one]; omega)).trans ?_)), At.alloc (At.alloc (At.alloc A1.out _) _) _⟩)
  have hs0 : (((w1.alloc (.cells #[.int .i64 limit] 3)).alloc (.cells #[.slice none 0 0, .slice none 0 0] 63)).alloc (.cells #[.int .i64 m.w, .int .i64 m.h, .slice mo m.pix.length mc] 24)).heap.size = k1 + 3 := by simp only [size_one, hk1]
  have E0 := Lib.hid (show Ext w (((w1.alloc (.cells #[.int .i64 limit] 3)).alloc (.cells #[.slice none 0 0, .slice none 0 0] 63)).alloc (.cells #[.int .i64 m.w, .int .i64 m.h, .slice mo m.pix.length mc] 24)) from ((E1.out.alloc _).alloc _).alloc _)
  have hwk : w.heap.size + 3 < k1 := by rw [← hk1]; omega
  clear A1 hb1
  clear x00 x01 x10 x20 x21 x22 x30 x31 x32 xf00 xf01 xf10 xf20 xf21 xf22 xf30 xf31 xf32 xz0 xy0 xx0 xz1 xy1 xx1 xz2 xy2 xx2 xz3 xy3 xx3
  clear E1
  rw [hk1]
  obtain ⟨W0, hW0⟩ : ∃ W0, (((w1.alloc (.cells #[.int .i64 limit] 3)).alloc (.cells #[.slice none 0 0, .slice none 0 0] 63)).alloc (.cells #[.int .i64 m.w, .int .i64 m.h, .slice mo m.pix.length mc] 24)) = W0 := ⟨_, rfl⟩
  rw [hW0] at HA0 hs0 E0 ⊢
  clear hW0
  refine wpIn_rangeFunc_ownH rfl (by omega) (gf := 102) (lb := #[.pointer (some ⟨k1 + 1 + 1, 0, none⟩)]) rfl trivial (enters_of Try.func102 (by kernel_rfl) rfl)
    (wholes_stops Fence.wide (6 - 1) trivial rfl (by omega) (k1 + 1 + 1) m (.slice mo m.pix.length mc) HM.out.1 W0 HA0.out.1) (fun h k => k.trans h) (fun W l o o' hl _ _ _ => World.putObj_heap_other (by omega)) (Below.refl _ _) (fun _ => rfl)
    (fun pre W => ∃ mv av, Ext w W ∧ At W [(k1 + 1 + 1, Obj.cells #[.int .i64 m.w, .int .i64 m.h, .slice mo m.pix.length mc] 24), (w.heap.size + 1 + 1 + 1, Obj.cells #[.slice none 0 0, .slice none 0 0] 63), (w.heap.size + 1 + 1, Obj.cells #[.int .i64 limit] 3), (w.heap.size + 1, Obj.cells #[.int .i64 t.w, .int .i64 t.h, .slice to t.pix.length tc] 43), (w.heap.size, Obj.cells #[.int .i64 m.w, .int .i64 m.h, .slice mo m.pix.length mc] 24)] ∧ OutAt W (k1 + 1) (k1 + 1) mv av (msOf m t limit pre) (arOf m t limit pre))
    (fun _ _ _ => False)
    (fun pre W W' row hs hg hr => by
      obtain ⟨mv, av, h1, h2, h3⟩ := hs
      exact ⟨mv, av, h1.grown hg fun r e => by have := (hr r e).1; omega, At.loop hg (fun r e => (hr r e).2) (l := [(k1 + 1 + 1, (#[.int .i64 m.w, .int .i64 m.h, .slice mo m.pix.length mc], 24)), (w.heap.size + 1 + 1 + 1, (#[.slice none 0 0, .slice none 0 0], 63)), (w.heap.size + 1 + 1, (#[.int .i64 limit], 3)), (w.heap.size + 1, (#[.int .i64 t.w, .int .i64 t.h, .slice to t.pix.length tc], 43)), (w.heap.size, (#[.int .i64 m.w, .int .i64 m.h, .slice mo m.pix.length mc], 24))]) h2, h3.loop hg fun r e => (hr r e).2⟩)
    (fun _ _ _ _ _ hs _ _ => hs)
    ⟨_, _, E0.out, ⟨HA0.out.1, HA0.out.2.2⟩, HA0.out.2.1, zero2_own _ _⟩
    (fun x a' W => ∃ Bx mv av, W.heap[Bx]? = some (.cells #[.int .i64 0, .int .i64 0, .int .i64 (m.w - 1), .int .i64 (m.h - 1), .int .i64 x.1.1, .int .i64 x.1.2] 47) ∧ W.heap[k1 + 1]? = some (.cells #[mv, av] 63) ∧ av.ownBlock ≠ some Bx ∧ a' = { tmps := #[.agg #[.int .i64 m.w, .int .i64 m.h, .slice mo m.pix.length mc], .agg #[.int .i64 t.w, .int .i64 t.h, .slice to t.pix.length tc], .int .i64 limit, .pointer (some ⟨w.heap.size, 0, none⟩), .pointer (some ⟨w.heap.size + 1, 0, none⟩), .pointer (some ⟨w.heap.size + 1 + 1, 0, none⟩), .pointer (some ⟨w.heap.size + 1 + 1 + 1, 0, none⟩), .int .i64 0, .int .i64 0, .pointer (some ⟨k1 + 1, 0, none⟩), .pointer (some ⟨Bx, 0, none⟩), undef, undef, undef, .agg #[.int .i64 m.w, .int .i64 m.h, .slice mo m.pix.length mc], .agg #[.int .i64 t.w, .int .i64 t.h, .slice to t.pix.length tc], .int .i64 0, .int .i64 0, .bool false, undef, undef, .int .i64 limit, .slice (some ⟨k1, 0, none⟩) 1 1, .bool true, .bool false, undef, .agg #[.int .i64 m.w, .int .i64 m.h, .slice mo m.pix.length mc], .func (.func 102) #[] #[.pointer (some ⟨k1 + 1 + 1, 0, none⟩)], .agg #[.int .i64 0, .int .i64 0, .int .i64 (m.w - 1), .int .i64 (m.h - 1), .int .i64 x.1.1, .int .i64 x.1.2], undef, undef, undef, undef, undef, undef, undef, undef, undef, undef, undef, undef, undef, undef, undef, undef, undef, undef, undef], defers := [] })
    (fun x a' _ X Y row hs hg hr => by
      obtain ⟨Bx, mv, av, h1, h2, h3⟩ := hs
      exact ⟨Bx, mv, av, heap_cells hg (fun r e => (hr r e).2) h1, heap_cells hg (fun r e => (hr r e).2) h2, h3⟩)
    ?assign ?body ?done ?stop
  case assign =>
    rintro l pre x W K ⟨mv, av, h1, h2, h3⟩ hK
    unfold encA
    gi_wp2
    refine hK _ _ ((KeepsOthers.alloc _ _).from _) (blk_past _ _ (At.lt h2 0 rfl)) ⟨mv, av, h1.alloc _, At.alloc h2 _, h3.ext ((Ext.refl _).alloc _)⟩ ⟨W.heap.size, mv, av, one_first _ _, Ext.blk ((Ext.refl _).alloc _) h3.1, fun e => ?_, rfl⟩
    have := owns_lt h3.2.2 e
    omega
  case body =>
    rintro l pre ⟨⟨T, S⟩, hps⟩ a' W hl ⟨r, hr⟩ ⟨mv, av, hE, hA, hO⟩ ⟨Bx, mv', av', hX, hX1, hX2, rfl⟩ hlt
    dsimp only at hps hX ⊢
    obtain ⟨rfl, rfl⟩ : mv' = mv ∧ av' = av := by
      have := hO.1
      rw [hX1] at this
      cases this
      exact ⟨rfl, rfl⟩
    have HE := Lib.hid hE
    have HA := Lib.hid hA
    have HO := Lib.hid hO
    have HX := Lib.hid hX
    have HX2 := Lib.hid hX2
    obtain ⟨⟨mb, mz, rfl⟩, ab, az, rfl⟩ := hO.forms
    have K69 := Lib.hid (fun w' (h : Ext w w') => c69 t _ T S w' HT.out (HTV.out.ext h) hps)
    unfold tplVal at K69
    obtain ⟨⟨e00, e01, e02⟩, ef00, ef01, ef02⟩ := run_3 (At.at hA 0 rfl)
    obtain ⟨⟨e10, e11⟩, ef10, ef11⟩ := run_2 (At.at hA 1 rfl)
    obtain ⟨e20, ef20⟩ := run_1 (At.at hA 2 rfl)
    obtain ⟨⟨e30, e31, e32⟩, ef30, ef31, ef32⟩ := run_3 (At.at hA 3 rfl)
    obtain ⟨⟨e40, e41, e42⟩, ef40, ef41, ef42⟩ := run_3 (At.at hA 4 rfl)
    have ez0 := At.lt hA 0 rfl
    have ey0 := Nat.lt_succ_of_lt ez0
    have ex0 := Nat.lt_succ_of_lt ey0
    have ez1 := At.lt hA 1 rfl
    have ey1 := Nat.lt_succ_of_lt ez1
    have ex1 := Nat.lt_succ_of_lt ey1
    have ez2 := At.lt hA 2 rfl
    have ey2 := Nat.lt_succ_of_lt ez2
    have ex2 := Nat.lt_succ_of_lt ey2
    have ez3 := At.lt hA 3 rfl
    have ey3 := Nat.lt_succ_of_lt ez3
    have ex3 := Nat.lt_succ_of_lt ey3
    have ez4 := At.lt hA 4 rfl
    have ey4 := Nat.lt_succ_of_lt ez4
    have ex4 := Nat.lt_succ_of_lt ey4
    obtain ⟨⟨f0, f1, f2, f3, f4, f5⟩, -⟩ := run_6 hX
    have fz := (Array.getElem?_eq_some_iff.1 hX).1
    obtain ⟨⟨oc0, oc1⟩, of0, of1⟩ := run_2 hO.1
    have oz := hO.lt (.inl rfl)
    clear hE hA hO hX hX1 hX2
    have hlp := Lib.hid (show pre.length + 1 ≤ 48 from hlt)
    have HL1 := msOf_len HM.out.1 t limit (l := pre) (by omega)
    have HL2 := arOf_len HM.out.1 t limit (l := pre) (by omega)
    have HL3 := whole_found (t := t) (limit := limit) HM.out.1 hps
    have HL4 := (Img.len_bd HM.out.1).2
    obtain ⟨hfound, hperm⟩ := found_perm (t := t) (limit := limit) HM.out.1 hps
    have HC := Lib.hid (merge_eq hperm (canonP_sorted m t limit T S HM.out.1.1.1))
    obtain ⟨d, hd⟩ : ∃ d : Array (Int × Int), d.toList = placesOf (search m t limit 30 (wholeOf m T S)).1 := ⟨(placesOf (search m t limit 30 (wholeOf m T S)).1).toArray, rfl⟩
    rw [← hd] at hfound hperm HC
    have HF := Lib.hid hfound
    have HPL := Lib.hid hperm.length_eq
    have HD := Lib.hid hd
    have hdl : d.size = (search m t limit 30 (wholeOf m T S)).1.length := by rw [← Array.length_toList, hd]; simp [placesOf]
    clear hfound hperm hd
    gi_wp2_with (refine ⟨trivial, ?_⟩; gi_at_call 69; (with_reducible refine (CallsIn.inRound l (callsIn_wide.2 (K69.out _ HE.out))).mono ?_); rintro E w5 ⟨sv, rfl, hso, hx5⟩; obtain ⟨-, so, sc, hsv, -⟩ := SlAt.of_owns hso; subst hsv; have SO := Lib.hid hso; have X5 := Lib.hid hx5; have A5 := Lib.hid (At.ext hx5 HA.out); have O5 := Lib.hid (HO.out.ext hx5); clear hso hx5; obtain ⟨⟨g00, g01, g02⟩, gf00, gf01, gf02⟩ := run_3 (At.at A5.out 0 rfl); obtain ⟨⟨g10, g11⟩, gf10, gf11⟩ := run_2 (At.at A5.out 1 rfl); obtain ⟨g20, gf20⟩ := run_1 (At.at A5.out 2 rfl); obtain ⟨⟨g30, g31, g32⟩, gf30, gf31, gf32⟩ := run_3 (At.at A5.out 3 rfl); obtain ⟨⟨g40, g41, g42⟩, gf40, gf41, gf42⟩ := run_3 (At.at A5.out 4 rfl); have gz0 := At.lt A5.out 0 rfl; have gy0 := Nat.lt_succ_of_lt gz0; have gx0 := Nat.lt_succ_of_lt gy0; have gz1 := At.lt A5.out 1 rfl; have gy1 := Nat.lt_succ_of_lt gz1; have gx1 := Nat.lt_succ_of_lt gy1; have gz2 := At.lt A5.out 2 rfl; have gy2 := Nat.lt_succ_of_lt gz2; have gx2 := Nat.lt_succ_of_lt gy2; have gz3 := At.lt A5.out 3 rfl; have gy3 := Nat.lt_succ_of_lt gz3; have gx3 := Nat.lt_succ_of_lt gy3; have gz4 := At.lt A5.out 4 rfl; have gy4 := Nat.lt_succ_of_lt gz4; have gx4 := Nat.lt_succ_of_lt gy4; obtain ⟨⟨oc0, oc1⟩, of0, of1⟩ := run_2 O5.out.1; have oz := O5.out.lt (.inl rfl); obtain ⟨⟨f0, f1, f2, f3, f4, f5⟩, -⟩ := run_6 (X5.out.blk HX.out); have fz := (Array.getElem?_eq_some_iff.1 (X5.out.blk HX.out)).1)
    have A6 := Lib.hid (show At ((w5.alloc (.cells #[.slice so (stencil t T S t.pix.length).length sc] 113)).alloc (.cells #[.func (.func 76) #[] #[.pointer (some ⟨w5.heap.size, 0, none⟩), .pointer (some ⟨w.heap.size, 0, none⟩), .pointer (some ⟨w.heap.size + 1 + 1, 0, none⟩), .pointer (some ⟨k1 + 1, 0, none⟩), .pointer (some ⟨w5.heap.size + 1, 0, none⟩)]] 120)) [(w5.heap.size, Obj.cells #[.slice so (stencil t T S t.pix.length).length sc] 113), (w.heap.size, Obj.cells #[.int .i64 m.w, .int .i64 m.h, .slice mo m.pix.length mc] 24), (w.heap.size + 1 + 1, Obj.cells #[.int .i64 limit] 3), (w5.heap.size + 1, Obj.cells #[.func (.func 76) #[] #[.pointer (some ⟨w5.heap.size, 0, none⟩), .pointer (some ⟨w.heap.size, 0, none⟩), .pointer (some ⟨w.heap.size + 1 + 1, 0, none⟩), .pointer (some ⟨k1 + 1, 0, none⟩), .pointer (some ⟨w5.heap.size + 1, 0, none⟩)]] 120)] from ⟨blk_past _ _ (by simp) |>.trans (one_first _ _), At.alloc (At.alloc A5.out _) _ |>.2.2.2.2.1, (At.alloc (At.alloc A5.out _) _).2.2.1, blk_at _ _ (by simp), trivial⟩)
    have K76 := Lib.hid (fun w' h1 h2 h3 h4 => c76 m _ t T S limit _ w (k1 + 1) w5.heap.size w.heap.size (w.heap.size + 1 + 1) (k1 + 1) (w5.heap.size + 1) mo so mc (stencil t T S t.pix.length).length sc HM.out HT.out hps (by omega) (by omega) (by omega) HV.out rfl rfl 30 (wholeOf m T S) (whole_ok HM.out.1 hps) (whole_size HM.out.1 T S) rfl rfl (msOf m t limit pre) (arOf m t limit pre) (.slice mb (msOf m t limit pre).length mz) (.slice ab (arOf m t limit pre).length az) w' h1 h2 h3 h4 (by omega) (by omega))
    have E6 := Lib.hid (show Ext w ((w5.alloc (.cells #[.slice so (stencil t T S t.pix.length).length sc] 113)).alloc (.cells #[.func (.func 76) #[] #[.pointer (some ⟨w5.heap.size, 0, none⟩), .pointer (some ⟨w.heap.size, 0, none⟩), .pointer (some ⟨w.heap.size + 1 + 1, 0, none⟩), .pointer (some ⟨k1 + 1, 0, none⟩), .pointer (some ⟨w5.heap.size + 1, 0, none⟩)]] 120)) from ((HE.out.trans X5.out).alloc _).alloc _)
    have O6 := Lib.hid (O5.out.ext (((Ext.refl w5).alloc (.cells #[.slice so (stencil t T S t.pix.length).length sc] 113)).alloc (.cells #[.func (.func 76) #[] #[.pointer (some ⟨w5.heap.size, 0, none⟩), .pointer (some ⟨w.heap.size, 0, none⟩), .pointer (some ⟨w.heap.size + 1 + 1, 0, none⟩), .pointer (some ⟨k1 + 1, 0, none⟩), .pointer (some ⟨w5.heap.size + 1, 0, none⟩)]] 120)))
    have P6 := Lib.hid (show ∃ b, World.ownsRow ((w5.alloc (.cells #[.slice so (stencil t T S t.pix.length).length sc] 113)).alloc (.cells #[.func (.func 76) #[] #[.pointer (some ⟨w5.heap.size, 0, none⟩), .pointer (some ⟨w.heap.size, 0, none⟩), .pointer (some ⟨w.heap.size + 1 + 1, 0, none⟩), .pointer (some ⟨k1 + 1, 0, none⟩), .pointer (some ⟨w5.heap.size + 1, 0, none⟩)]] 120)) b 141 3 (.slice so (stencil t T S t.pix.length).length sc) (stencil t T S t.pix.length).length (pts (stencil t T S t.pix.length)) from ⟨_, owns_ext SO.out (((Ext.refl w5).alloc _).alloc _)⟩)
    have AL6 := Lib.hid (show At ((w5.alloc (.cells #[.slice so (stencil t T S t.pix.length).length sc] 113)).alloc (.cells #[.func (.func 76) #[] #[.pointer (some ⟨w5.heap.size, 0, none⟩), .pointer (some ⟨w.heap.size, 0, none⟩), .pointer (some ⟨w.heap.size + 1 + 1, 0, none⟩), .pointer (some ⟨k1 + 1, 0, none⟩), .pointer (some ⟨w5.heap.size + 1, 0, none⟩)]] 120)) [(k1 + 1 + 1, Obj.cells #[.int .i64 m.w, .int .i64 m.h, .slice mo m.pix.length mc] 24), (w.heap.size + 1 + 1 + 1, Obj.cells #[.slice none 0 0, .slice none 0 0] 63), (w.heap.size + 1 + 1, Obj.cells #[.int .i64 limit] 3), (w.heap.size + 1, Obj.cells #[.int .i64 t.w, .int .i64 t.h, .slice to t.pix.length tc] 43), (w.heap.size, Obj.cells #[.int .i64 m.w, .int .i64 m.h, .slice mo m.pix.length mc] 24)] from At.alloc (At.alloc A5.out _) _)
    have NE6 := Lib.hid (show ∀ k ∈ [k1 + 1 + 1, w.heap.size + 1 + 1 + 1, w.heap.size + 1 + 1, w.heap.size + 1, w.heap.size], k ≠ k1 + 1 ∧ Value.ownBlock (.slice mb (msOf m t limit pre).length mz) ≠ some k ∧ Value.ownBlock (.slice ab (arOf m t limit pre).length az) ≠ some k from by
      intro p hp
      have n0 := O6.out.ne (At.at AL6.out 0 rfl)
      simp only [List.mem_cons, List.not_mem_nil, or_false] at hp
      rcases hp with rfl | rfl | rfl | rfl | rfl
      · exact O6.out.ne (At.at AL6.out 0 rfl) (by decide) (by decide) (by decide)
      · exact ⟨by omega, owns_apart O6.out.2.1 (At.at AL6.out 1 rfl) (by decide), owns_apart O6.out.2.2 (At.at AL6.out 1 rfl) (by decide)⟩
      · exact O6.out.ne (At.at AL6.out 2 rfl) (by decide) (by decide) (by decide)
      · exact O6.out.ne (At.at AL6.out 3 rfl) (by decide) (by decide) (by decide)
      · exact O6.out.ne (At.at AL6.out 4 rfl) (by decide) (by decide) (by decide))
    obtain ⟨R, hR2⟩ : ∃ R, search m t limit 30 (wholeOf m T S) = R := ⟨_, rfl⟩
    rw [hR2] at K76 HF HD HL3 hdl
    have HR2 := Lib.hid hR2
    clear hR2
    unfold areaVal wholeOf at K76
    by_cases h0 : d.size = 0
    · have hr1 : R.1 = [] := List.eq_nil_of_length_eq_zero (by omega)
      have hc1 : canon m t limit T S = [] := List.eq_nil_of_length_eq_zero (by unfold canon; rw [List.length_map, ← HPL.out, Array.length_toList]; exact h0)
      clear h0 hdl
      rw [hr1] at HF
      clear HF
      refine ⟨trivial, ?_⟩
      refine (CallsIn.inRound l (callsIn_wide.2 (K76.out _ E6.out P6.out A6.out O6.out))).mono ?_
      rintro E w7 ⟨mv7, av7, rfl, hE7, hO7, hU7⟩
      rw [hr1, List.append_nil] at hO7
      have E7 := Lib.hid hE7
      have U7 := Lib.hid hU7
      have O7 := Lib.hid hO7
      obtain ⟨⟨m7, z7, rfl⟩, -⟩ := hO7.forms
      obtain ⟨⟨pc0, pc1⟩, pf0, pf1⟩ := run_2 hO7.1
      have pz := hO7.lt (.inl rfl)
      have hw7 := hO7.2.1.2
      clear hE7 hO7 hU7 hr1
      rcases hw7 with ⟨hv, hn⟩ | ⟨g7, cp7, cur7, hv, -, -, hn, -⟩
      · simp only [Value.slice.injEq] at hv
        obtain ⟨rfl, hn0, rfl⟩ := hv
        gi_wp2_with (refine ⟨trivial, ?_⟩; gi_at_call 77; (with_reducible refine (CallsIn.inRound l (callsIn_wide.2 (c77_none _ _ _ _))).mono ?_); rintro E w8 ⟨rfl, rfl⟩)
        all_goals (
          have UT := Lib.hid ((Upd.of_ext (X5.out.trans (((Ext.refl w5).alloc _).alloc _))).trans U7.out)
          have A8 := Lib.hid (At.upd UT.out HA.out NE6.out)
          have e1 : msOf m t limit (pre ++ [⟨(T, S), hps⟩]) = msOf m t limit pre := by
            rw [msOf_snoc]
            dsimp only
            rw [hc1, List.append_nil]
          have e2 : arOf m t limit (pre ++ [⟨(T, S), hps⟩]) = arOf m t limit pre ++ R.2 := by
            rw [arOf_snoc]
            dsimp only
            rw [HR2.out]
          have O8 := O7.out
          rw [← e1, ← e2] at O8
          first
          | exact ⟨UT.out.keeps HO.out _, A8.out.1.trans HA.out.1.symm, E7.out, A8.out, _, av7, O8⟩
          | exact ⟨UT.out.keeps HO.out _, A8.out.1.trans HA.out.1.symm, _, av7, E7.out, A8.out, O8⟩)
      · simp only [Value.slice.injEq] at hv
        obtain ⟨rfl, -, rfl⟩ := hv
        gi_wp2_with (refine ⟨trivial, ?_⟩; gi_at_call 77; (with_reducible refine (CallsIn.inRound l (callsIn_wide.2 (c77_none _ _ _ _))).mono ?_); rintro E w8 ⟨rfl, rfl⟩)
        all_goals (
          have UT := Lib.hid ((Upd.of_ext (X5.out.trans (((Ext.refl w5).alloc _).alloc _))).trans U7.out)
          have A8 := Lib.hid (At.upd UT.out HA.out NE6.out)
          have e1 : msOf m t limit (pre ++ [⟨(T, S), hps⟩]) = msOf m t limit pre := by
            rw [msOf_snoc]
            dsimp only
            rw [hc1, List.append_nil]
          have e2 : arOf m t limit (pre ++ [⟨(T, S), hps⟩]) = arOf m t limit pre ++ R.2 := by
            rw [arOf_snoc]
            dsimp only
            rw [HR2.out]
          have O8 := O7.out
          rw [← e1, ← e2] at O8
          first
          | exact ⟨UT.out.keeps HO.out _, A8.out.1.trans HA.out.1.symm, E7.out, A8.out, _, av7, O8⟩
          | exact ⟨UT.out.keeps HO.out _, A8.out.1.trans HA.out.1.symm, _, av7, E7.out, A8.out, O8⟩)
    · (refine ⟨trivial, ?_⟩; (with_reducible refine (CallsIn.inRound l (callsIn_wide.2 (K76.out _ E6.out P6.out A6.out O6.out))).mono ?_); rintro E w7 ⟨mv7, av7, rfl, hE7, hO7, hU7⟩; have E7 := Lib.hid hE7; have U7 := Lib.hid hU7; have A7 := Lib.hid (At.upd hU7 AL6.out NE6.out); rw [HF.out] at hO7; obtain ⟨g, z7, rfl, hz7, hg7, hH7⟩ := hO7.end_row (mkOf m t T S) (Nat.pos_of_ne_zero h0); have O7 := Lib.hid hO7; have H7 := Lib.hid hH7; obtain ⟨⟨pc0, pc1⟩, pf0, pf1⟩ := run_2 hO7.1; have pz := hO7.lt (.inl rfl); clear hE7 hO7 hU7 hH7)
      have K77 := c77 m t T S d g ((msOf m t limit pre).length * 5) (z7 - (msOf m t limit pre).length) w7 H7.out hg7 (by omega)
      rw [hdl, HC.out] at K77
      gi_wp2_with (refine ⟨trivial, ?_⟩; gi_at_call 77; (with_reducible refine (CallsIn.inRound l (callsIn_wide.2 K77)).mono ?_); rintro E w8 ⟨rfl, nn, os, rfl⟩)
      obtain ⟨O8, U8, X8⟩ := O7.out.sorted (d' := (canonP m t limit T S).toArray) (mkOf m t T S) (by simpa using HPL.out.symm) nn os
      have UT := Lib.hid ((Upd.of_ext (X5.out.trans (((Ext.refl w5).alloc _).alloc _))).trans (U7.out.trans U8))
      have A8 := Lib.hid (At.upd UT.out HA.out NE6.out)
      have e1 : msOf m t limit (pre ++ [⟨(T, S), hps⟩]) = msOf m t limit pre ++ (canonP m t limit T S).toArray.toList.map (mkOf m t T S) := by
        rw [msOf_snoc]
        rfl
      have e2 : arOf m t limit (pre ++ [⟨(T, S), hps⟩]) = arOf m t limit pre ++ R.2 := by
        rw [arOf_snoc]
        dsimp only
        rw [HR2.out]
      rw [← e1, ← e2] at O8
      have X9 := X8 w E7.out (by omega)
      first
      | exact ⟨UT.out.keeps HO.out _, A8.out.1.trans HA.out.1.symm, X9, A8.out, _, av7, O8⟩
      | exact ⟨UT.out.keeps HO.out _, A8.out.1.trans HA.out.1.symm, _, av7, X9, A8.out, O8⟩
  case done =>
    rintro D xs W hD rfl ⟨mv, av, hE, hA, hO⟩ hK
    obtain ⟨⟨mb, mz, rfl⟩, ab, az, rfl⟩ := hO.forms
    obtain ⟨⟨oc0, oc1⟩, of0, of1⟩ := run_2 hO.1
    have oz := hO.lt (.inl rfl)
    obtain ⟨⟨e00, e01, e02⟩, ef00, ef01, ef02⟩ := run_3 (At.at hA 0 rfl)
    obtain ⟨⟨e10, e11⟩, ef10, ef11⟩ := run_2 (At.at hA 1 rfl)
    obtain ⟨e20, ef20⟩ := run_1 (At.at hA 2 rfl)
    obtain ⟨⟨e30, e31, e32⟩, ef30, ef31, ef32⟩ := run_3 (At.at hA 3 rfl)
    obtain ⟨⟨e40, e41, e42⟩, ef40, ef41, ef42⟩ := run_3 (At.at hA 4 rfl)
    have ez0 := At.lt hA 0 rfl
    have ey0 := Nat.lt_succ_of_lt ez0
    have ex0 := Nat.lt_succ_of_lt ey0
    have ez1 := At.lt hA 1 rfl
    have ey1 := Nat.lt_succ_of_lt ez1
    have ex1 := Nat.lt_succ_of_lt ey1
    have ez2 := At.lt hA 2 rfl
    have ey2 := Nat.lt_succ_of_lt ez2
    have ex2 := Nat.lt_succ_of_lt ey2
    have ez3 := At.lt hA 3 rfl
    have ey3 := Nat.lt_succ_of_lt ez3
    have ex3 := Nat.lt_succ_of_lt ey3
    have ez4 := At.lt hA 4 rfl
    have ey4 := Nat.lt_succ_of_lt ez4
    have ex4 := Nat.lt_succ_of_lt ey4
    have HE := Lib.hid hE
    have HA := Lib.hid hA
    have HO := Lib.hid hO
    clear hE hA hO
    gi_wp2
    have st := store_2 (v0 := .slice mb (msOf m t limit (upto 48)).length mz) (v1 := .slice ab (arOf m t limit (upto 48)).length az) (At.at HA.out 1 rfl)
    have hK2 : ((W.setCell ⟨w.heap.size + 1 + 1 + 1, 0, none⟩ (.slice mb (msOf m t limit (upto 48)).length mz)).setCell ⟨w.heap.size + 1 + 1 + 1, 1, none⟩ (.slice ab (arOf m t limit (upto 48)).length az)).heap[D]? = some (.deferred (some [])) := ((KeepsOthers.setCell _ _ _).trans (KeepsOthers.setCell _ _ _)).same D _ hK rfl
    have hgD := grownBy_putObj' ((W.setCell ⟨w.heap.size + 1 + 1 + 1, 0, none⟩ (.slice mb (msOf m t limit (upto 48)).length mz)).setCell ⟨w.heap.size + 1 + 1 + 1, 1, none⟩ (.slice ab (arOf m t limit (upto 48)).length az)) D (.deferred none)
    have hrD : ∀ r, some D = some r → ∃ o : Obj, ((W.setCell ⟨w.heap.size + 1 + 1 + 1, 0, none⟩ (.slice mb (msOf m t limit (upto 48)).length mz)).setCell ⟨w.heap.size + 1 + 1 + 1, 1, none⟩ (.slice ab (arOf m t limit (upto 48)).length az)).heap[r]? = some o ∧ o.isCells = false := fun r e => by cases e; exact ⟨_, hK2, rfl⟩
    refine ⟨by simp, .inl ⟨_, _, rfl, run_takeDeferred hK2, ?_⟩⟩
    refine ⟨_, results_row2 rfl _ _ _ _ _ (0, 0) _ rfl (heap_cells hgD hrD st.1) Try.underlying63 rfl (by kernel_rfl), ?_⟩
    refine ⟨_, _, by rw [hR.out]; rfl, ?_, ?_, ?_⟩
    · rw [if_pos hR.out]
      exact owns_base (owns_loop (own_set (own_set HO.out.2.1 (by omega)) (by omega)) hgD hrD) (by omega)
    · rw [if_pos hR.out]
      exact owns_base (owns_loop (own_set (own_set HO.out.2.2 (by omega)) (by omega)) hgD hrD) (by omega)
    · exact (st.2.2 w (by omega) HE.out).grown hgD fun r e => by cases e; omega
  case stop =>
    rintro D c pre W _ _ h _
    exact h.elim
end Go.Proofs.Ytipkjdfnoonpcaa
