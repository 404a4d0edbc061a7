/- The walk of the reference's 'extended'. -/
import Derived.Test.YtcbimfaneinpkaaAssigned
import Derived.Test.YtcbimfaneinpkaaRegion
set_option linter.unusedVariables false
set_option linter.unusedSimpArgs false
namespace Go.Proofs.Ytcbimfaneinpkaa
open Go.RowKit Go.Sort

theorem info37 : (Try.prog.info? 37).map (fun i => (i.zero, i.size, i.bytes)) = some (some (.slice none 0 0), 1, 24) := by kernel_rfl

theorem grown_cell {w w' : World} {row : Option Nat} (hg : w.grownBy w' row) {b o : Nat} {v : Value} (hc : w.cell? ⟨b, o, none⟩ = some v) (hne : row ≠ some b) : w'.cell? ⟨b, o, none⟩ = some v := by
  rw [World.cell?_of_block (w := w) (hg.block b (World.block_lt_of_cell? _ _ hc) (fun e => hne e.symm))]
  exact hc
/-- nil, or a row of ints that some call has made. -/
def IntRow (w : World) (v : Value) (l : List Int) : Prop := w.ownsRow 0 3 1 v l.length (ints l)
theorem IntRow.at_ {w : World} {v : Value} {l : List Int} (h : IntRow w v l) : IntsAt w v l := SlAt.of_owns h
theorem IntRow.ext {w w' : World} {v : Value} {l : List Int} (h : IntRow w v l) (hb : Ext w w') : IntRow w' v l := owns_ext h hb
/-- Rows of other elements may grow beside it. -/
theorem IntRow.beside {w w' : World} {v : Value} {l : List Int} (h : IntRow w v l) {row : Option Nat} (hg : w.grownBy w' row)
    (hr : ∀ g, row = some g → ∃ cur e fr, w.heap[g]? = some (.cells cur e fr) ∧ e ≠ 3) : IntRow w' v l := by
  obtain ⟨h1, h2⟩ := h
  refine ⟨h1, ?_⟩
  rcases h2 with h2 | ⟨g, cap, cur, hv, hb, hh, r⟩
  · exact .inl h2
  · refine .inr ⟨g, cap, cur, hv, hb, ?_, r⟩
    have hlt : g < w.heap.size := by
      rcases Nat.lt_or_ge g w.heap.size with h | h
      · exact h
      · simp [Array.getElem?_eq_none h] at hh
    rw [hg.block g hlt (fun e => ?_)]
    · exact hh
    · obtain ⟨cur', e', fr, h3, h4⟩ := hr g e.symm
      rw [hh] at h3
      cases h3
      exact h4 rfl
theorem IntRow.one {w : World} {v : Value} {l : List Int} (h : IntRow w v l) : v.oneCell' = true := by
  obtain ⟨h1, ⟨rfl, _⟩ | ⟨g, cap, cur, rfl, _⟩⟩ := h <;> rfl
theorem owns_type {w : World} {base e sz n : Nat} {v : Value} {cs : List Value} (h : w.ownsRow base e sz v n cs) : ∀ g, v.ownBlock = some g → ∃ cur fr, w.heap[g]? = some (.cells cur e fr) := by
  obtain ⟨h1, ⟨rfl, _⟩ | ⟨g, cap, cur, rfl, _, hh, _⟩⟩ := h
  · intro g hg; cases hg
  · intro g' hg
    simp [Value.ownBlock] at hg
    subst hg
    exact ⟨cur, _, hh⟩

/-- Slices that read as lists of indices. -/
def Ls (w : World) (vs : List Value) (res : List (List Nat)) : Prop := vs.length = res.length ∧ ∀ i, i < res.length → IntRow w (vs.getD i undef) (idx (res.getD i []))
theorem Ls.ext {w w' : World} {vs : List Value} {res : List (List Nat)} (h : Ls w vs res) (hb : Ext w w') : Ls w' vs res := ⟨h.1, fun i hi => (h.2 i hi).ext hb⟩
theorem Ls.beside {w w' : World} {vs : List Value} {res : List (List Nat)} (h : Ls w vs res) {row : Option Nat} (hg : w.grownBy w' row)
    (hr : ∀ g, row = some g → ∃ cur e fr, w.heap[g]? = some (.cells cur e fr) ∧ e ≠ 3) : Ls w' vs res := ⟨h.1, fun i hi => (h.2 i hi).beside hg hr⟩
theorem Ls.nil (w : World) : Ls w [] [] := ⟨rfl, fun i hi => by simp at hi⟩
theorem Ls.append {w : World} {vs us : List Value} {r s : List (List Nat)} (h : Ls w vs r) (k : Ls w us s) : Ls w (vs ++ us) (r ++ s) := by
  refine ⟨by simp [h.1, k.1], fun i hi => ?_⟩
  rcases Nat.lt_or_ge i r.length with h1 | h1
  · have e1 : (vs ++ us).getD i undef = vs.getD i undef := by simp [List.getD_eq_getElem?_getD, List.getElem?_append_left (show i < vs.length by rw [h.1]; exact h1)]
    have e2 : (r ++ s).getD i [] = r.getD i [] := by simp [List.getD_eq_getElem?_getD, List.getElem?_append_left h1]
    rw [e1, e2]
    exact h.2 i h1
  · have e1 : (vs ++ us).getD i undef = us.getD (i - r.length) undef := by
      simp only [List.getD_eq_getElem?_getD]
      rw [List.getElem?_append_right (by rw [h.1]; exact h1), h.1]
    have e2 : (r ++ s).getD i [] = s.getD (i - r.length) [] := by
      simp only [List.getD_eq_getElem?_getD]
      rw [List.getElem?_append_right h1]
    rw [e1, e2]
    exact k.2 _ (by simp at hi; omega)
theorem Ls.one {w : World} {vs : List Value} {r : List (List Nat)} (h : Ls w vs r) : ∀ u ∈ vs, u.oneCell' = true := by
  intro u hu
  obtain ⟨i, hi, rfl⟩ := List.getElem_of_mem hu
  have := (h.2 i (by rw [← h.1]; exact hi)).one
  simpa [List.getD_eq_getElem?_getD, hi] using this
theorem Ls.single {w : World} {v : Value} {x : List Nat} (h : IntRow w v (idx x)) : Ls w [v] [x] := by
  refine ⟨rfl, fun i hi => ?_⟩
  have : i = 0 := by simp at hi; exact hi
  subst this
  exact h

def OwnLists (res : List (List Nat)) (w : World) (e : Ending) (w' : World) : Prop :=
  ∃ v' vs, e = .returned v' ∧ w'.ownsRow w.heap.size 37 1 v' res.length vs ∧ Ls w' vs res ∧ Ext w w'

theorem flatMap_range_succ {α : Type} (f : Nat → List α) (i : Nat) : (List.range (i + 1)).flatMap f = (List.range i).flatMap f ++ f i := by
  rw [List.range_succ, List.flatMap_append]; simp

/-- What the operations of 'append(out, extended(b, first, second, append(append([]int{}, x...), i))...)' promise. -/
def gs62 (b : Belt) (v9 v1 v2 vx : Value) (N : Nat) (xs : List Nat) (i : Nat) (res : List (List Nat)) : List (Value → World → Prop) :=
  [fun v _ => v = v9, fun v _ => v = .agg #[.int .i64 b.step, .int .i64 b.slip, .int .i64 b.gate, .int .i64 b.length], fun v _ => v = v1, fun v _ => v = v2,
    fun v w => (∃ ao, v = .slice ao 0 0) ∧ w.ownsRow N 3 1 v 0 [], fun v _ => v = vx,
    fun v w => w.ownsRow N 3 1 v xs.length (ints (idx xs)), fun v _ => v = .int .i64 i, fun v w => SlAt w 1 v 1 [.int .i64 i],
    fun v w => w.ownsRow N 3 1 v (xs.length + 1) (ints (idx (xs ++ [i]))),
    fun v w => ∃ vs, w.ownsRow N 37 1 v res.length vs ∧ Ls w vs res]
theorem gs62_stab (b : Belt) (v9 v1 v2 vx : Value) (N : Nat) (xs : List Nat) (i : Nat) (res : List (List Nat)) : ∀ g ∈ gs62 b v9 v1 v2 vx N xs i res, ∀ v w w', g v w → Ext w w' → g v w' := by
  intro g hg v w w' h hb
  simp only [gs62, List.mem_cons, List.not_mem_nil, or_false] at hg
  rcases hg with rfl | rfl | rfl | rfl | rfl | rfl | rfl | rfl | rfl | rfl | rfl
  · exact h
  · exact h
  · exact h
  · exact h
  · exact ⟨h.1, owns_ext h.2 hb⟩
  · exact h
  · exact owns_ext h hb
  · exact h
  · exact SlAt.ext h hb
  · exact owns_ext h hb
  · obtain ⟨vs, h1, h2⟩ := h
    exact ⟨vs, owns_ext h1 hb, h2.ext hb⟩

set_option maxRecDepth 100000 in
set_option maxHeartbeats 2000000 in
theorem w62 (b : Belt) (hok : b.ok) (fi se : List Int) (v1 v2 : Value) (i1 : Incr fi) (i2 : Incr se) (l1 : fi.length ≤ 10) (l2 : se.length ≤ 10) :
    ∀ (k : Nat) (xs : List Nat) (vx : Value) (w : World), IntsAt w v1 fi → IntsAt w v2 se → IntRow w vx (idx xs) → xs.length + k = se.length → (∀ m, m < xs.length → xs.getD m 0 < fi.length) →
      Calls Try.prog 62 #[.agg #[.int .i64 b.step, .int .i64 b.slip, .int .i64 b.gate, .int .i64 b.length], v1, v2, vx] w (OwnLists (extended b fi se k xs) w) := by
  intro k
  induction k with
  | zero =>
    intro xs vx w h1 h2 hx hk hlt
    have h1' := h1
    have h2' := h2
    have hxx := hx.at_
    obtain ⟨q1, a1, c1, rfl, -⟩ := h1
    obtain ⟨q2, a2, c2, rfl, -⟩ := h2
    obtain ⟨qx, ax, cx, rfl, -⟩ := hxx
    rw [idx_length] at *
    have heq : ((xs.length : Int) == (se.length : Int)) = true := by simp; omega
    by_cases ha : assigned b fi se xs
    all_goals go_enter Try.func62, Try.ntmps62
    all_goals go_wp2_with (go_at_call 74; refine (Ext.lift (w74 b hok fi se xs _ _ _ _ (h1'.ext ((Ext.refl _).alloc _)) (h2'.ext ((Ext.refl _).alloc _)) (hx.at_.ext ((Ext.refl _).alloc _)) i1 i2 l1 l2 (by omega) hlt) (by first | assumption | exact Ext.refl _)).mono ?_; rintro e w' ⟨rfl, hb⟩; have hc := hb.cell)
    · go_ret
      have hb0 : Ext w w' := ((Ext.refl _).alloc _).trans hb
      refine ⟨_, [.slice ax xs.length cx], rfl, ?_, ?_, hb0.alloc _⟩
      · rw [show extended b fi se 0 xs = [xs] from by simp [extended, ha]]
        exact owns_lit w' [_] 37 1 1 _ hb0.size (by unfold maxLen; omega) rfl
      · rw [show extended b fi se 0 xs = [xs] from by simp [extended, ha]]
        exact Ls.single (hx.ext (hb0.alloc _))
    · go_ret
      refine ⟨_, [], rfl, ?_, ?_, ((Ext.refl _).alloc _).trans hb⟩
      · rw [show extended b fi se 0 xs = [] from by simp [extended, ha]]
        exact ⟨rfl, .inl ⟨rfl, rfl⟩⟩
      · rw [show extended b fi se 0 xs = [] from by simp [extended, ha]]
        exact Ls.nil _
  | succ k ih0 =>
    intro xs vx w h1 h2 hx hk hlt
    have ih := Lib.hid ih0
    clear ih0
    by_cases ha : assigned b fi se xs
    · have hxx := hx.at_
      have h1' := h1
      have h2' := h2
      have hlx := hlt
      have hxI : SlAt w 1 vx xs.length (ints (idx xs)) := by
        have := hx.at_
        unfold IntsAt at this
        rwa [idx_length] at this
      obtain ⟨q1, a1, c1, rfl, -⟩ := h1
      obtain ⟨q2, a2, c2, rfl, -⟩ := h2
      obtain ⟨qx, ax, cx, rfl, -⟩ := hxx
      have hne : ((xs.length : Int) == (se.length : Int)) = false := by simp; omega
      rw [idx_length] at *
      go_enter Try.func62, Try.ntmps62
      go_wp2_with (go_at_call 74; refine (Ext.lift (w74 b hok fi se xs _ _ _ _ (h1'.ext ((Ext.refl _).alloc _)) (h2'.ext ((Ext.refl _).alloc _)) (hx.at_.ext ((Ext.refl _).alloc _)) i1 i2 l1 l2 (by omega) hlt) (by first | assumption | exact Ext.refl _)).mono ?_; rintro e w' ⟨rfl, hb⟩; have hc := hb.cell)
      have hb0 : Ext w w' := ((Ext.refl _).alloc _).trans hb
      have k0 : w'.cell? ⟨w.heap.size, 0, none⟩ = some (.int .i64 b.step) := by rw [hc _ _ (by simp)]; simp
      have k1 : w'.cell? ⟨w.heap.size, 1, none⟩ = some (.int .i64 b.slip) := by rw [hc _ _ (by simp)]; simp
      have k2 : w'.cell? ⟨w.heap.size, 2, none⟩ = some (.int .i64 b.gate) := by rw [hc _ _ (by simp)]; simp
      have k3 : w'.cell? ⟨w.heap.size, 3, none⟩ = some (.int .i64 b.length) := by rw [hc _ _ (by simp)]; simp
      clear hc
      go_loopw [9, 10] (fun v9 v10 wr => Ext w wr ∧ (wr.cell? ⟨w.heap.size, 0, none⟩ = some (.int .i64 b.step) ∧ wr.cell? ⟨w.heap.size, 1, none⟩ = some (.int .i64 b.slip) ∧ wr.cell? ⟨w.heap.size, 2, none⟩ = some (.int .i64 b.gate) ∧ wr.cell? ⟨w.heap.size, 3, none⟩ = some (.int .i64 b.length)) ∧
          ∃ (i : Nat) (vs : List Value), i ≤ fi.length ∧ v10 = .int .i64 i ∧ wr.ownsRow (w.heap.size + 1) 37 1 v9 ((List.range i).flatMap fun i => extended b fi se k (xs ++ [i])).length vs ∧ Hid (Ls wr vs ((List.range i).flatMap fun i => extended b fi se k (xs ++ [i])))) (fun _ v _ => fi.length - (intOf v).toNat)
      case atStart => exact ⟨hb0, ⟨k0, k1, k2, k3⟩, 0, [], Nat.zero_le _, rfl, ⟨rfl, .inl ⟨rfl, rfl⟩⟩, Ls.nil _⟩
      case round =>
        obtain ⟨hE, ⟨d0, d1, d2, d3⟩, i, vs, hi, rfl, ho, hL⟩ := hrel
        by_cases hlt : i < fi.length
        · go_wp2_with fail
          obtain ⟨i0, hi0, hz0, hz1, hz2⟩ := info_parts info3
          have hst := RG.stab_of (gs62_stab b u9 (.slice a1 fi.length c1) (.slice a2 se.length c2) (.slice ax xs.length cx) wr.heap.size xs i (extended b fi se k (xs ++ [i])))
          refine RG.wp_rg (gs62 b u9 (.slice a1 fi.length c1) (.slice a2 se.length c2) (.slice ax xs.length cx) wr.heap.size xs i (extended b fi se k (xs ++ [i])))
            (fun i => if i = 9 then [4, 6, 8] else []) (by kernel_rfl) (by kernel_rfl) (by kernel_rfl) ?_ ?_
          · simp only [gs62, List.length_cons, List.length_nil, List.take_succ_cons, List.take_zero, RG.Steps, and_true, Nat.reduceAdd]
            refine ⟨?_, ?_, ?_, ?_, ?_, ?_, ?_, ?_, ?_, ?_, ?_⟩
            · exact RG.st_move rfl rfl (by kernel_rfl) (fun _ _ => rfl) hst
            · refine RG.st_run rfl (fun a w hw hr => ⟨_, w, ?_, Ext.refl _, rfl⟩) hst
              have e := RG.read_out (t := 4) hr (by kernel_rfl) (by kernel_rfl)
              have e' : a.tmps[4]?.getD undef = .pointer (some ⟨_, 0, none⟩) := (Array.getD_eq_getD_getElem? ..).symm.trans e
              have f0 := hw.get d0
              have f1 := hw.get d1
              have f2 := hw.get d2
              have f3 := hw.get d3
              clear hr hst e
              simp [execOp, go_sem, e', f0, f1, f2, f3, Try.underlying23]
            · exact RG.st_move rfl rfl (by kernel_rfl) (fun _ _ => rfl) hst
            · exact RG.st_move rfl rfl (by kernel_rfl) (fun _ _ => rfl) hst
            · refine RG.st_run rfl (fun a w hw hr => ⟨.slice (some ⟨w.heap.size, 0, none⟩) 0 0, w.alloc (.cells #[] 3), ?_, (Ext.refl _).alloc _, ⟨_, rfl⟩, owns_lit w [] 3 0 1 _ hw.size (by unfold maxLen; omega) rfl⟩) hst
              clear hr hst
              simp [execOp, go_sem]
            · exact RG.st_move rfl rfl (by kernel_rfl) (fun _ _ => rfl) hst
            · refine RG.st_wp rfl (fun a w Q hw hr => ?_)
              obtain ⟨⟨ao, e1⟩, e2⟩ := RG.read_in (t := 34) (j := 4) hr (by kernel_rfl) (by kernel_rfl)
              have e3 := RG.read_in (t := 35) (j := 5) hr (by kernel_rfl) (by kernel_rfl)
              rw [e1] at e2
              refine wp_append_full (.tmp 34) (.tmp 35) 37 rfl 3 i0 (.int .i64 0) 1 8 Try.underlying37 hi0 hz0 hz1 hz2 rfl (by omega) _ 0 [] e1 (SlAt.of_owns e2) ⟨ao, rfl⟩ _ xs.length (ints (idx xs)) e3 (hxI.ext (hE.trans hw)) (ints_oneCell' _) (by unfold maxLen; omega) (by omega) ?_
              rintro v' w' hb (⟨h0, rfl⟩ | ⟨h0, ho⟩)
              · refine ⟨_, rfl, hw.trans hb, fun j v _ _ _ h => hst j v _ _ h hb, ?_⟩
                have hx0 : xs = [] := List.eq_nil_of_length_eq_zero h0
                show w'.ownsRow _ 3 1 _ xs.length (ints (idx xs))
                rw [hx0]
                exact owns_ext e2 hb
              · refine ⟨_, rfl, hw.trans hb, fun j v _ _ _ h => hst j v _ _ h hb, ?_⟩
                show w'.ownsRow _ 3 1 _ xs.length (ints (idx xs))
                have := owns_base ho hw.size
                rwa [Nat.zero_add, List.nil_append] at this
            · exact RG.st_move rfl rfl (by kernel_rfl) (fun _ _ => rfl) hst
            · refine RG.st_run rfl (fun a w hw hr => ⟨.slice (some ⟨w.heap.size, 0, none⟩) 1 1, w.alloc (.cells #[.int .i64 i] 3), ?_, (Ext.refl _).alloc _, SlAt.of_owns (owns_lit w [.int .i64 i] 3 1 1 0 (Nat.zero_le _) (by unfold maxLen; omega) rfl)⟩) hst
              have e3 := RG.read_in (t := 37) (j := 7) hr (by kernel_rfl) (by kernel_rfl)
              have e' : a.tmps[37]?.getD undef = .int .i64 i := (Array.getD_eq_getD_getElem? ..).symm.trans e3
              clear hr hst e3
              simp [execOp, go_sem, e']
            · refine RG.st_wp rfl (fun a w Q hw hr => ?_)
              have e1 := RG.read_in (t := 36) (j := 6) hr (by kernel_rfl) (by kernel_rfl)
              have e3 := RG.read_in (t := 38) (j := 8) hr (by kernel_rfl) (by kernel_rfl)
              refine wp_append_sl (.tmp 36) (.tmp 38) 37 rfl _ 3 i0 (.int .i64 0) 1 8 Try.underlying37 hi0 hz0 hz1 hz2 rfl (by omega) _ xs.length (ints (idx xs)) rfl e1 _ 1 [.int .i64 i] rfl e3 (ints_oneCell' [(i : Int)]) (by unfold maxLen; omega) (by omega) hw.size ?_
              intro v' w' ho hg
              have hb : Ext wr w' := hw.grown hg (fun k hk => (owns_block e1 k hk).1)
              refine ⟨_, rfl, hb, fun j v n1 n2 n3 h => ?_, ?_⟩
              · match j with
                | 0 => exact h
                | 1 => exact h
                | 2 => exact h
                | 3 => exact h
                | 5 => exact h
                | 7 => exact h
                | 4 => simp at n1
                | 6 => simp at n1
                | 8 => simp at n1
                | 9 => simp at n2
                | 10 => exact absurd (by decide) n3
                | n + 11 => trivial
              · show w'.ownsRow _ 3 1 _ (xs.length + 1) (ints (idx (xs ++ [i])))
                rw [idx_snoc]
                simpa [ints] using ho
            · refine RG.st_call rfl 62 _ _ rfl Try.func62 (by kernel_rfl) rfl (fun a w hw hr => ?_) hst
              have e1 := RG.read_in (t := 31) (j := 1) hr (by kernel_rfl) (by kernel_rfl)
              have e2 := RG.read_in (t := 32) (j := 2) hr (by kernel_rfl) (by kernel_rfl)
              have e3 := RG.read_in (t := 33) (j := 3) hr (by kernel_rfl) (by kernel_rfl)
              have e4 := RG.read_in (t := 39) (j := 9) hr (by kernel_rfl) (by kernel_rfl)
              have hargs : (#[Operand.tmp 31, Operand.tmp 32, Operand.tmp 33, Operand.tmp 39].map a.eval) = #[.agg #[.int .i64 b.step, .int .i64 b.slip, .int .i64 b.gate, .int .i64 b.length], .slice a1 fi.length c1, .slice a2 se.length c2, a.tmps.getD 39 undef] := by
                simp only [List.map_toArray, List.map_cons, List.map_nil]
                rw [show a.eval (.tmp 31) = _ from e1, show a.eval (.tmp 32) = _ from e2, show a.eval (.tmp 33) = _ from e3]
                rfl
              rw [hargs]
              refine (ih.out (xs ++ [i]) _ w (h1'.ext (hE.trans hw)) (h2'.ext (hE.trans hw)) ?_ (by simp; omega) ?_).mono ?_
              · have := owns_base e4 (Nat.zero_le _)
                show w.ownsRow 0 3 1 _ (idx (xs ++ [i])).length _
                rw [idx_length, List.length_append]
                exact this
              · intro m hm
                simp at hm
                rcases Nat.lt_or_ge m xs.length with h5 | h5
                · rw [getD_snoc_lt xs i 0 h5]; exact hlx m h5
                · obtain rfl : m = xs.length := by omega
                  rw [getD_snoc_eq]; exact hlt
              · rintro e w' ⟨v', vs', rfl, q1, q2, q3⟩
                exact ⟨v', rfl, q3, vs', owns_base q1 hw.size, q2⟩
          · intro wq hwq
            simp only [gs62, List.length_cons, List.length_nil, List.take_succ_cons, List.take_zero, RG.Fin, RG.goneBy, Nat.reduceAdd, List.drop_succ_cons, List.drop_zero]
            intro v0 h0 v1 h1 v2 h2 v3 h3 v4 _ v5 h5 v6 _ v7 h7 v8 _ v9 _ v10 h10
            obtain rfl := h0 (by decide)
            obtain rfl := h1 (by decide)
            obtain rfl := h2 (by decide)
            obtain rfl := h3 (by decide)
            obtain rfl := h5 (by decide)
            obtain rfl := h7 (by decide)
            obtain ⟨vs', o1, o2⟩ := h10 (by decide)
            clear h0 h1 h2 h3 h5 h7 h10
            simp only [Act.put, List.setIfInBounds_toArray, List.set_cons_zero, List.set_cons_succ]
            obtain ⟨i1, hi1, hy0, hy1, hy2⟩ := info_parts info37
            have hlen1 := extended_len b fi se k (xs ++ [i])
            have hlen2 : ((List.range i).flatMap fun i => extended b fi se k (xs ++ [i])).length ≤ i * fi.length ^ k := by
              have := flatMap_len (List.range i) (fun i => extended b fi se k (xs ++ [i])) (fi.length ^ k) (fun a _ => extended_len b fi se k (xs ++ [a]))
              simpa using this
            have hpow := pow_bd (n := fi.length) (k := k) l1 (by omega)
            have hmul : i * fi.length ^ k ≤ 10 * fi.length ^ k := Nat.mul_le_mul_right _ (by omega)
            refine wpList_append_sl rfl (.tmp 30) (.tmp 40) 38 rfl (w.heap.size + 1) 37 i1 (.slice none 0 0) 1 24 Try.underlying38 hi1 hy0 hy1 hy2 rfl (by omega) _ _ vs rfl (owns_ext ho hwq) _ _ vs' rfl (SlAt.of_owns o1) (Ls.one o2) (by unfold maxLen; omega) (by omega) (by have := hE.size; have := hwq.size; have := World.block_lt_of_cell? _ _ d0; simp at this; omega) ?_
            intro v' w2 ho2 hg2
            have hob := owns_block (owns_ext ho hwq)
            have hty : ∀ g, Value.ownBlock v0 = some g → ∃ cur e fr, wq.heap[g]? = some (.cells cur e fr) ∧ e ≠ 3 := fun g hg => by
              obtain ⟨cur, fr, h⟩ := owns_type (owns_ext ho hwq) g hg
              exact ⟨cur, 37, fr, h, by decide⟩
            have hne : Value.ownBlock v0 ≠ some w.heap.size := fun e => by have := (hob _ e).1; omega
            have hL2 := Lib.hid (((hL.out.ext hwq).beside hg2 hty).append (o2.beside hg2 hty))
            have hE2 : Ext w w2 := (hE.trans hwq).grown hg2 (fun g hg => by have := (hob g hg).1; omega)
            have f0 := grown_cell hg2 (hwq.get d0) hne
            have f1 := grown_cell hg2 (hwq.get d1) hne
            have f2 := grown_cell hg2 (hwq.get d2) hne
            have f3 := grown_cell hg2 (hwq.get d3) hne
            have HE := flatMap_range_succ (fun i => extended b fi se k (xs ++ [i])) i
            have HE2 := Lib.hid HE
            clear HE hty hob hne
            go_wp2
            go_roundw
            case rel =>
              refine ⟨hE2, ⟨f0, f1, f2, f3⟩, i + 1, vs ++ vs', by omega, by go_num, ?_, ?_⟩
              · rw [HE2.out, List.length_append]
                exact ho2
              · rw [HE2.out]
                exact hL2.out
            case measure => simp [intOf]; omega
        · obtain rfl : i = fi.length := by omega
          go_wp2
          go_ret
          refine ⟨_, vs, rfl, ?_, ?_, hE⟩
          · rw [show extended b fi se (k + 1) xs = (List.range fi.length).flatMap fun i => extended b fi se k (xs ++ [i]) from by simp [extended, ha]]
            exact owns_base ho (by omega)
          · rw [show extended b fi se (k + 1) xs = (List.range fi.length).flatMap fun i => extended b fi se k (xs ++ [i]) from by simp [extended, ha]]
            exact hL.out
    · have h1' := h1
      have h2' := h2
      have hxx := hx.at_
      obtain ⟨q1, a1, c1, rfl, -⟩ := h1
      obtain ⟨q2, a2, c2, rfl, -⟩ := h2
      obtain ⟨qx, ax, cx, rfl, -⟩ := hxx
      go_enter Try.func62, Try.ntmps62
      go_wp2_with (go_at_call 74; refine (Ext.lift (w74 b hok fi se xs _ _ _ _ (h1'.ext ((Ext.refl _).alloc _)) (h2'.ext ((Ext.refl _).alloc _)) (hx.at_.ext ((Ext.refl _).alloc _)) i1 i2 l1 l2 (by omega) hlt) (by first | assumption | exact Ext.refl _)).mono ?_; rintro e w' ⟨rfl, hb⟩; have hc := hb.cell)
      go_ret
      refine ⟨_, [], rfl, ?_, ?_, ((Ext.refl _).alloc _).trans hb⟩
      · rw [show extended b fi se (k + 1) xs = [] from by simp [extended, ha]]
        exact ⟨rfl, .inl ⟨rfl, rfl⟩⟩
      · rw [show extended b fi se (k + 1) xs = [] from by simp [extended, ha]]
        exact Ls.nil _
end Go.Proofs.Ytcbimfaneinpkaa
