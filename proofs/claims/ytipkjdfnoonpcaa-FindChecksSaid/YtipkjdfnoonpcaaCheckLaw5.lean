/- The law FindChecks: the walk. -/
import Derived.Test.YtipkjdfnoonpcaaCheckFn
import Derived.Test.YtipkjdfnoonpcaaRegion
set_option linter.unusedVariables false
set_option linter.unusedSimpArgs false
namespace Go.Proofs.Ytipkjdfnoonpcaa
open Go.RowKit Go.Sort

theorem matches_one (l : List Match) : ∀ u ∈ l.flatMap matchCells, u.oneCell' = true := by
  intro u hu
  obtain ⟨x, _, hx⟩ := List.mem_flatMap.1 hu
  exact matchCells_one x u hx
theorem areas_one (l : List Area) : ∀ u ∈ l.flatMap areaCells, u.oneCell' = true := by
  intro u hu
  obtain ⟨x, _, hx⟩ := List.mem_flatMap.1 hu
  exact areaCells_one x u hx
theorem owns_type {w : World} {base e sz n : Nat} {v : Value} {cs : List Value} (h : w.ownsRow base e sz v n cs) : ∀ g, v.ownBlock = some g → ∃ cur fr, w.heap[g]? = some (.cells cur e fr) := by
  obtain ⟨h1, h2⟩ := h
  intro g hg
  rcases h2 with ⟨rfl, _⟩ | ⟨g', cap, cur, rfl, hb, hh, _⟩
  · simp [Value.ownBlock] at hg
  · simp [Value.ownBlock] at hg
    subst hg
    exact ⟨_, _, hh⟩
theorem owns_apart {w : World} {base e sz n k e' : Nat} {v : Value} {cs : List Value} {cs' : Array Value} {fr : Nat × Nat} (h : w.ownsRow base e sz v n cs) (hk : w.heap[k]? = some (.cells cs' e' fr)) (he : e ≠ e') : v.ownBlock ≠ some k := by
  intro hv
  obtain ⟨cur, fr', h'⟩ := owns_type h k hv
  rw [hk] at h'
  cases h'
  exact he rfl
def zeroMatch : Value := .agg #[.int .i64 0, .int .i64 0, .int .i64 0, .int .i64 0, .int .i64 0]
def zeroArea : Value := .agg #[.int .i64 0, .int .i64 0, .int .i64 0, .int .i64 0, .int .i64 0, .int .i64 0]
theorem info80 : (Try.prog.info? 80).map (fun i => (i.zero, i.size, i.bytes)) = some (some zeroMatch, 5, 40) := by kernel_rfl
theorem inf47 : (Try.prog.info? 47).map (fun i => (i.zero, i.size, i.bytes)) = some (some zeroArea, 6, 48) := by kernel_rfl
theorem back_1 {w : World} {b1 b2 : Nat} {o1 o2 : Obj} {l : List (Nat × Obj)} (h : At w ((b1, o1) :: l)) : At w l := h.2
/-- what the operations of 'own := api.Search(..)' promise -/
def gs5 (B N : Nat) (v1 v2 : Value) (ms : List Match) (ar : List Area) : List (Value → World → Prop) :=
  [fun v w => (∃ k, v = .slice (some ⟨k, 0, none⟩) 0 0) ∧ w.ownsRow N 80 5 v 0 [], fun v _ => v = .pointer (some ⟨B, 0, none⟩), fun v _ => v = v1, fun v w => w.ownsRow N 80 5 v ms.length (ms.flatMap matchCells),
    fun v w => (∃ k, v = .slice (some ⟨k, 0, none⟩) 0 0) ∧ w.ownsRow N 47 6 v 0 [], fun v _ => v = .pointer (some ⟨B, 1, none⟩), fun v _ => v = v2, fun v w => w.ownsRow N 47 6 v ar.length (ar.flatMap areaCells),
    fun v w => ∃ x y, v = .agg #[x, y] ∧ w.ownsRow N 80 5 x ms.length (ms.flatMap matchCells) ∧ w.ownsRow N 47 6 y ar.length (ar.flatMap areaCells),
    fun v w => ∃ k, v = .pointer (some ⟨k, 0, none⟩) ∧ N ≤ k ∧ w.heap[k]? = some (.cells #[.slice none 0 0, .slice none 0 0] 63)]
theorem gs5_stab (B N : Nat) (v1 v2 : Value) (ms : List Match) (ar : List Area) : ∀ g ∈ gs5 B N v1 v2 ms ar, ∀ v w w', g v w → Ext w w' → g v w' := by
  intro g hg v w w' h hb
  simp only [gs5, List.mem_cons, List.not_mem_nil, or_false] at hg
  rcases hg with rfl | rfl | rfl | rfl | rfl | rfl | rfl | rfl | rfl | rfl
  · exact ⟨h.1, owns_ext h.2 hb⟩
  · exact h
  · exact h
  · exact owns_ext h hb
  · exact ⟨h.1, owns_ext h.2 hb⟩
  · exact h
  · exact h
  · exact owns_ext h hb
  · obtain ⟨x, y, h1, h2, h3⟩ := h
    exact ⟨x, y, h1, owns_ext h2 hb, owns_ext h3 hb⟩
  · obtain ⟨k, h1, h2, h3⟩ := h
    exact ⟨k, h1, h2, hb.blk h3⟩
set_option maxRecDepth 100000 in
set_option maxHeartbeats 16000000 in
theorem c5 (m : Img) (v : Value) (t : Tpl) (tv : Value) (limit : Int) (ms : List Match) (ar : List Area) (mv av : Value) (w : World) (hv : IntsAt w v m.pix) (hl : m.pix.length ≤ maxLen) (ht : IntsAt w tv t.pix) (htl : t.pix.length ≤ maxLen) (h1 : MatchesAt w mv ms) (h2 : AreasAt w av ar) :
    Calls Try.prog 5 #[imgVal m v, tplVal t tv, .int .i64 limit, searchVal mv av] w fun e w' => e = .returned (.bool true) ∧ Ext w w' := by
  have HV := Lib.hid hv
  have HTV := Lib.hid ht
  have HMS := Lib.hid h1
  have HAR := Lib.hid h2
  have HL := Lib.hid hl
  have HTL := Lib.hid htl
  obtain ⟨mo, mc, rfl, -, -⟩ := hv.form
  obtain ⟨to, tc, rfl, -, -⟩ := ht.form
  obtain ⟨m1, mc1, rfl, -, -⟩ := h1.form
  obtain ⟨a1, ac1, rfl, -, -⟩ := h2.form
  have K32 := Lib.hid (fun w' (h : Ext w w') => c32 ms ar _ _ w' (HMS.out.ext h) (HAR.out.ext h))
  obtain ⟨g, hg⟩ : ∃ g, greatB ms ar = g := ⟨_, rfl⟩
  rw [hg] at K32
  cases g
  case true =>
    unfold imgVal tplVal searchVal at *
    clear hv ht h1 h2 hl htl
    go_enter Try.func5, Try.ntmps5
    go_wp2_with (go_at_call 32; (with_reducible refine (K32.out _ (by repeat (first | exact Ext.refl _ | assumption | refine Ext.alloc ?_ _ | refine Ext.drewN ?_ _ | refine ext_grow ?_ _ _ | refine Ext.trans ?_ (by assumption)))).mono ?_); rintro E w1 ⟨rfl, hb1⟩; have A1 := Lib.hid (show At w1 [(w.heap.size + 1 + 1, Obj.cells #[.slice m1 ms.length mc1, .slice a1 ar.length ac1] 63), (w.heap.size + 1, Obj.cells #[.int .i64 t.w, .int .i64 t.h, .slice to t.pix.length tc] 43), (w.heap.size, Obj.cells #[.int .i64 m.w, .int .i64 m.h, .slice mo m.pix.length mc] 24)] from At.ext hb1 ⟨(by repeat (first | (refine blk_at _ _ ?_; (first | rfl | (simp only [size_one]; done))) | refine (blk_past _ _ (by simp only [size_one]; omega)).trans ?_)), (by repeat (first | (refine blk_at _ _ ?_; (first | rfl | (simp only [size_one]; done))) | refine (blk_past _ _ (by simp only [size_one]; omega)).trans ?_)), (by repeat (first | (refine blk_at _ _ ?_; (first | rfl | (simp only [size_one]; done))) | refine (blk_past _ _ (by simp only [size_one]; omega)).trans ?_)), trivial⟩); have E1 := Lib.hid (show Ext w w1 from (by repeat (first | exact Ext.refl _ | assumption | refine Ext.alloc ?_ _ | refine Ext.drewN ?_ _ | refine ext_grow ?_ _ _ | refine Ext.trans ?_ (by assumption)))); obtain ⟨⟨x00, x01⟩, -⟩ := run_2 (At.at A1.out 0 rfl); obtain ⟨⟨x10, x11, x12⟩, -⟩ := run_3 (At.at A1.out 1 rfl); obtain ⟨⟨x20, x21, x22⟩, -⟩ := run_3 (At.at A1.out 2 rfl); have xz0 := At.lt A1.out 0 rfl; have xy0 := Nat.lt_succ_of_lt xz0; have xx0 := Nat.lt_succ_of_lt xy0; have xz1 := At.lt A1.out 1 rfl; have xy1 := Nat.lt_succ_of_lt xz1; have xx1 := Nat.lt_succ_of_lt xy1; have xz2 := At.lt A1.out 2 rfl; have xy2 := Nat.lt_succ_of_lt xz2; have xx2 := Nat.lt_succ_of_lt xy2)
    go_ret
    exact ⟨rfl, E1.out⟩
  have n1 : ms.length ≤ 13000 := by unfold greatB at hg; simp at hg; omega
  have n2 : ar.length ≤ 13000 := by unfold greatB at hg; simp at hg; omega
  have K33 := Lib.hid (fun x y w' (h : Ext w w') (hx : MatchesAt w' x ms) (hy : AreasAt w' y ar) => c33 m _ t _ limit ms ar x y w' (HV.out.ext h) HL.out (HTV.out.ext h) HTL.out hx hy n1 n2)
  have K34 := Lib.hid (fun w' (h : Ext w w') => c34 m _ t _ limit ms ar _ _ w' (HV.out.ext h) HL.out (HTV.out.ext h) HTL.out (HMS.out.ext h) (HAR.out.ext h) n1 n2)
  have K35 := Lib.hid (fun x y w' (h : Ext w w') (hx : MatchesAt w' x ms) (hy : AreasAt w' y ar) => c35 ms ar x y _ _ w' hx hy (HMS.out.ext h) (HAR.out.ext h))
  obtain ⟨r, hr⟩ : ∃ r, checkR m t limit ms ar = r := ⟨_, rfl⟩
  rw [hr] at K33 K34
  clear hr hg
  unfold imgVal tplVal searchVal at *
  clear hv ht h1 h2 hl htl
  obtain ⟨i8, hi8, hz8, hs8, hy8⟩ := info_parts info80
  obtain ⟨i4, hi4, hz4, hs4, hy4⟩ := info_parts inf47
  go_enter Try.func5, Try.ntmps5
  go_wp2_with (go_at_call 32; (with_reducible refine (K32.out _ (by repeat (first | exact Ext.refl _ | assumption | refine Ext.alloc ?_ _ | refine Ext.drewN ?_ _ | refine ext_grow ?_ _ _ | refine Ext.trans ?_ (by assumption)))).mono ?_); rintro E w1 ⟨rfl, hb1⟩; have A1 := Lib.hid (show At w1 [(w.heap.size + 1 + 1, Obj.cells #[.slice m1 ms.length mc1, .slice a1 ar.length ac1] 63), (w.heap.size + 1, Obj.cells #[.int .i64 t.w, .int .i64 t.h, .slice to t.pix.length tc] 43), (w.heap.size, Obj.cells #[.int .i64 m.w, .int .i64 m.h, .slice mo m.pix.length mc] 24)] from At.ext hb1 ⟨(by repeat (first | (refine blk_at _ _ ?_; (first | rfl | (simp only [size_one]; done))) | refine (blk_past _ _ (by simp only [size_one]; omega)).trans ?_)), (by repeat (first | (refine blk_at _ _ ?_; (first | rfl | (simp only [size_one]; done))) | refine (blk_past _ _ (by simp only [size_one]; omega)).trans ?_)), (by repeat (first | (refine blk_at _ _ ?_; (first | rfl | (simp only [size_one]; done))) | refine (blk_past _ _ (by simp only [size_one]; omega)).trans ?_)), trivial⟩); have E1 := Lib.hid (show Ext w w1 from (by repeat (first | exact Ext.refl _ | assumption | refine Ext.alloc ?_ _ | refine Ext.drewN ?_ _ | refine ext_grow ?_ _ _ | refine Ext.trans ?_ (by assumption)))); obtain ⟨⟨x00, x01⟩, -⟩ := run_2 (At.at A1.out 0 rfl); obtain ⟨⟨x10, x11, x12⟩, -⟩ := run_3 (At.at A1.out 1 rfl); obtain ⟨⟨x20, x21, x22⟩, -⟩ := run_3 (At.at A1.out 2 rfl); have xz0 := At.lt A1.out 0 rfl; have xy0 := Nat.lt_succ_of_lt xz0; have xx0 := Nat.lt_succ_of_lt xy0; have xz1 := At.lt A1.out 1 rfl; have xy1 := Nat.lt_succ_of_lt xz1; have xx1 := Nat.lt_succ_of_lt xy1; have xz2 := At.lt A1.out 2 rfl; have xy2 := Nat.lt_succ_of_lt xz2; have xx2 := Nat.lt_succ_of_lt xy2)
  have HMW := Lib.hid (HMS.out.ext E1.out)
  have HAW := Lib.hid (HAR.out.ext E1.out)
  have hst := RG.stab_of (gs5_stab (w.heap.size + 1 + 1) w1.heap.size (.slice m1 ms.length mc1) (.slice a1 ar.length ac1) ms ar)
  refine RG.wp_rg (gs5 (w.heap.size + 1 + 1) w1.heap.size (.slice m1 ms.length mc1) (.slice a1 ar.length ac1) ms ar) (fun _ => []) (by kernel_rfl) (by kernel_rfl) (by kernel_rfl) ?_ ?_
  · simp only [gs5, List.length_cons, List.length_nil, List.take_succ_cons, List.take_zero, RG.Steps, and_true, Nat.reduceAdd]
    refine ⟨?_, ?_, ?_, ?_, ?_, ?_, ?_, ?_, ?_, ?_⟩
    · refine RG.st_run rfl (fun a w hw hr => ⟨.slice (some ⟨w.heap.size, 0, none⟩) 0 0, w.alloc (.cells #[] 80), ?_, (Ext.refl _).alloc _, ⟨_, rfl⟩, owns_lit w [] 80 0 5 _ hw.size (Nat.zero_le _) rfl⟩) hst
      clear hr hst
      simp [execOp, go_sem]
    · refine RG.st_run rfl (fun a w hw hr => ⟨_, w, ?_, Ext.refl _, rfl⟩) hst
      have e := RG.read_out (t := 7) hr (by kernel_rfl) (by kernel_rfl)
      have e' : a.tmps[7]?.getD undef = .pointer (some ⟨_, 0, none⟩) := (Array.getD_eq_getD_getElem? ..).symm.trans e
      clear hr hst e
      simp [execOp, go_sem, e', Try.underlying63]
    · refine RG.st_run rfl (fun a w hw hr => ⟨_, w, ?_, Ext.refl _, rfl⟩) hst
      have e := RG.read_in (t := 13) (j := 1) hr (by kernel_rfl) (by kernel_rfl)
      have e' : a.tmps[13]?.getD undef = .pointer (some ⟨_, _, none⟩) := (Array.getD_eq_getD_getElem? ..).symm.trans e
      have f0 := hw.get x00
      clear hr hst e
      simp [execOp, go_sem, e', f0]
    · refine RG.st_wp rfl (fun a w Q hw hr => ?_)
      obtain ⟨⟨ao, e1⟩, e2⟩ := RG.read_in (t := 12) (j := 0) hr (by kernel_rfl) (by kernel_rfl)
      rw [e1] at e2
      have e3 := RG.read_in (t := 14) (j := 2) hr (by kernel_rfl) (by kernel_rfl)
      refine wp_append_full (.tmp 12) (.tmp 14) 60 rfl 80 i8 zeroMatch 5 40 Try.underlying60 hi8 hz8 hs8 hy8 rfl (by omega) _ 0 [] e1 ⟨rfl, some ⟨ao, 0, none⟩, 0, rfl, Nat.le_refl _, Nat.zero_le _, (fun h => by cases h), fun j u h => by simp at h⟩ ⟨some ⟨ao, 0, none⟩, rfl⟩ _ ms.length (ms.flatMap matchCells) e3 (HMW.out.ext hw) (matches_one ms) (by unfold maxLen; omega) (by omega) ?_
      rintro v' w' hb (⟨h0, rfl⟩ | ⟨h0, ho⟩)
      · refine ⟨_, rfl, hw.trans hb, fun j v _ _ _ h => hst j v _ _ h hb, ?_⟩
        have hx0 : ms = [] := List.eq_nil_of_length_eq_zero h0
        show w'.ownsRow _ 80 5 _ ms.length (ms.flatMap matchCells)
        rw [hx0]
        exact owns_ext e2 hb
      · refine ⟨_, rfl, hw.trans hb, fun j v _ _ _ h => hst j v _ _ h hb, ?_⟩
        show w'.ownsRow _ 80 5 _ ms.length (ms.flatMap matchCells)
        have := owns_base ho hw.size
        rwa [Nat.zero_add, List.nil_append] at this
    · refine RG.st_run rfl (fun a w hw hr => ⟨.slice (some ⟨w.heap.size, 0, none⟩) 0 0, w.alloc (.cells #[] 47), ?_, (Ext.refl _).alloc _, ⟨_, rfl⟩, owns_lit w [] 47 0 6 _ hw.size (Nat.zero_le _) rfl⟩) hst
      clear hr hst
      simp [execOp, go_sem]
    · refine RG.st_run rfl (fun a w hw hr => ⟨_, w, ?_, Ext.refl _, rfl⟩) hst
      have e := RG.read_out (t := 7) hr (by kernel_rfl) (by kernel_rfl)
      have e' : a.tmps[7]?.getD undef = .pointer (some ⟨_, 0, none⟩) := (Array.getD_eq_getD_getElem? ..).symm.trans e
      clear hr hst e
      simp [execOp, go_sem, e', Try.underlying63]
    · refine RG.st_run rfl (fun a w hw hr => ⟨_, w, ?_, Ext.refl _, rfl⟩) hst
      have e := RG.read_in (t := 17) (j := 5) hr (by kernel_rfl) (by kernel_rfl)
      have e' : a.tmps[17]?.getD undef = .pointer (some ⟨_, _, none⟩) := (Array.getD_eq_getD_getElem? ..).symm.trans e
      have f0 := hw.get x01
      clear hr hst e
      simp [execOp, go_sem, e', f0]
    · refine RG.st_wp rfl (fun a w Q hw hr => ?_)
      obtain ⟨⟨ao, e1⟩, e2⟩ := RG.read_in (t := 16) (j := 4) hr (by kernel_rfl) (by kernel_rfl)
      rw [e1] at e2
      have e3 := RG.read_in (t := 18) (j := 6) hr (by kernel_rfl) (by kernel_rfl)
      refine wp_append_full (.tmp 16) (.tmp 18) 61 rfl 47 i4 zeroArea 6 48 Try.underlying61 hi4 hz4 hs4 hy4 rfl (by omega) _ 0 [] e1 ⟨rfl, some ⟨ao, 0, none⟩, 0, rfl, Nat.le_refl _, Nat.zero_le _, (fun h => by cases h), fun j u h => by simp at h⟩ ⟨some ⟨ao, 0, none⟩, rfl⟩ _ ar.length (ar.flatMap areaCells) e3 (HAW.out.ext hw) (areas_one ar) (by unfold maxLen; omega) (by omega) ?_
      rintro v' w' hb (⟨h0, rfl⟩ | ⟨h0, ho⟩)
      · refine ⟨_, rfl, hw.trans hb, fun j v _ _ _ h => hst j v _ _ h hb, ?_⟩
        have hx0 : ar = [] := List.eq_nil_of_length_eq_zero h0
        show w'.ownsRow _ 47 6 _ ar.length (ar.flatMap areaCells)
        rw [hx0]
        exact owns_ext e2 hb
      · refine ⟨_, rfl, hw.trans hb, fun j v _ _ _ h => hst j v _ _ h hb, ?_⟩
        show w'.ownsRow _ 47 6 _ ar.length (ar.flatMap areaCells)
        have := owns_base ho hw.size
        rwa [Nat.zero_add, List.nil_append] at this
    · refine RG.st_run rfl (fun a w hw hr => ⟨.agg #[a.tmps.getD 15 undef, a.tmps.getD 19 undef], w, ?_, Ext.refl _, ?_⟩) hst
      · have e1 := RG.read_in (t := 15) (j := 3) hr (by kernel_rfl) (by kernel_rfl)
        have e2 := RG.read_in (t := 19) (j := 7) hr (by kernel_rfl) (by kernel_rfl)
        have e1' : MatchesAt w (a.tmps.getD 15 undef) ms := SlAt.of_owns (show w.ownsRow _ 80 5 _ ms.length _ from e1)
        have e2' : AreasAt w (a.tmps.getD 19 undef) ar := SlAt.of_owns (show w.ownsRow _ 47 6 _ ar.length _ from e2)
        obtain ⟨so, zo, q1, -, -⟩ := e1'.form
        obtain ⟨ta, ya, q2, -, -⟩ := e2'.form
        have p1 : a.tmps[15]?.getD undef = .slice so ms.length zo := (Array.getD_eq_getD_getElem? ..).symm.trans q1
        have p2 : a.tmps[19]?.getD undef = .slice ta ar.length ya := (Array.getD_eq_getD_getElem? ..).symm.trans q2
        rw [q1, q2]
        clear hr hst e1 e2 e1' e2'
        simp [execOp, go_sem, p1, p2, Try.underlying63]
      · have e1 := RG.read_in (t := 15) (j := 3) hr (by kernel_rfl) (by kernel_rfl)
        have e2 := RG.read_in (t := 19) (j := 7) hr (by kernel_rfl) (by kernel_rfl)
        exact ⟨_, _, rfl, e1, e2⟩
    · refine RG.st_run rfl (fun a w hw hr => ⟨.pointer (some ⟨w.heap.size, 0, none⟩), w.alloc (.cells #[.slice none 0 0, .slice none 0 0] 63), ?_, (Ext.refl _).alloc _, ⟨_, rfl, hw.size, one_first _ _⟩⟩) hst
      clear hr hst
      simp [execOp, go_sem]
  · intro wq hwq
    simp only [gs5, List.length_cons, List.length_nil, List.take_succ_cons, List.take_zero, RG.Fin, RG.goneBy, Nat.reduceAdd, List.drop_succ_cons, List.drop_zero]
    intro v0 _ v1 _ v2 _ v3 _ v4 _ v5 _ v6 _ v7 _ v8 h8 v9 h9
    obtain ⟨x, y, rfl, o1, o2⟩ := h8 (by decide)
    obtain ⟨k9, rfl, hk, q3⟩ := h9 (by decide)
    clear h8 h9
    have q1 : MatchesAt wq x ms := SlAt.of_owns o1
    have q2 : AreasAt wq y ar := SlAt.of_owns o2
    obtain ⟨so, zo, rfl, -, -⟩ := q1.form
    obtain ⟨ta, ya, rfl, -, -⟩ := q2.form
    simp only [Act.put, List.setIfInBounds_toArray, List.set_cons_zero, List.set_cons_succ]
    have s0 := cell_of_at q3 0 rfl
    have s1 := cell_of_at q3 1 rfl
    have sf0 := free_of_at q3 0
    have sf1 := free_of_at q3 1
    have hsz := E1.out.size
    have q4 := Lib.hid (store_2 (v0 := .slice so ms.length zo) (v1 := .slice ta ar.length ya) q3)
    have n8 := owns_apart o1 q3 (by decide)
    have n4 := owns_apart o2 q3 (by decide)
    have o1' := Lib.hid (owns_at (w' := (wq.setCell ⟨k9, 0, none⟩ (.slice so ms.length zo)).setCell ⟨k9, 1, none⟩ (.slice ta ar.length ya)) o1 fun k hk => q4.out.2.1 k (fun e => n8 (by rw [hk, e])))
    have o2' := Lib.hid (owns_at (w' := (wq.setCell ⟨k9, 0, none⟩ (.slice so ms.length zo)).setCell ⟨k9, 1, none⟩ (.slice ta ar.length ya)) o2 fun k hk => q4.out.2.1 k (fun e => n4 (by rw [hk, e])))
    have hE := Lib.hid (q4.out.2.2 w1 hk hwq)
    have hB := Lib.hid q4.out.1
    have hA := Lib.hid (show At ((wq.setCell ⟨k9, 0, none⟩ (.slice so ms.length zo)).setCell ⟨k9, 1, none⟩ (.slice ta ar.length ya)) [(k9, Obj.cells #[.slice so ms.length zo, .slice ta ar.length ya] 63), (w.heap.size + 1 + 1, Obj.cells #[.slice m1 ms.length mc1, .slice a1 ar.length ac1] 63), (w.heap.size + 1, Obj.cells #[.int .i64 t.w, .int .i64 t.h, .slice to t.pix.length tc] 43), (w.heap.size, Obj.cells #[.int .i64 m.w, .int .i64 m.h, .slice mo m.pix.length mc] 24)] from ⟨hB.out, At.ext hE.out A1.out⟩)
    clear q4 hst hB n8 n4 o1 o2 q1 q2 q3
    have hk' := hk
    clear hk
    go_wp2_with fail
    obtain ⟨W, hW⟩ : ∃ W, ((wq.setCell ⟨k9, 0, none⟩ (.slice so ms.length zo)).setCell ⟨k9, 1, none⟩ (.slice ta ar.length ya)) = W := ⟨_, rfl⟩
    rw [hW] at o1' o2' hE hA ⊢
    clear hW s0 s1 sf0 sf1
    clear x00 x01 x10 x11 x12 x20 x21 x22 xz0 xy0 xx0 xz1 xy1 xx1 xz2 xy2 xx2
    have EW := Lib.hid (E1.out.trans hE.out)
    obtain ⟨⟨u00, u01⟩, -⟩ := run_2 (At.at hA.out 0 rfl)
    obtain ⟨⟨u10, u11⟩, -⟩ := run_2 (At.at hA.out 1 rfl)
    obtain ⟨⟨u20, u21, u22⟩, -⟩ := run_3 (At.at hA.out 2 rfl)
    obtain ⟨⟨u30, u31, u32⟩, -⟩ := run_3 (At.at hA.out 3 rfl)
    have uz0 := At.lt hA.out 0 rfl
    have uy0 := Nat.lt_succ_of_lt uz0
    have ux0 := Nat.lt_succ_of_lt uy0
    have uz1 := At.lt hA.out 1 rfl
    have uy1 := Nat.lt_succ_of_lt uz1
    have ux1 := Nat.lt_succ_of_lt uy1
    have uz2 := At.lt hA.out 2 rfl
    have uy2 := Nat.lt_succ_of_lt uz2
    have ux2 := Nat.lt_succ_of_lt uy2
    have uz3 := At.lt hA.out 3 rfl
    have uy3 := Nat.lt_succ_of_lt uz3
    have ux3 := Nat.lt_succ_of_lt uy3
    have M1 := Lib.hid (show MatchesAt W (.slice so ms.length zo) ms from SlAt.of_owns o1'.out)
    have M2 := Lib.hid (show AreasAt W (.slice ta ar.length ya) ar from SlAt.of_owns o2'.out)
    clear o1' o2' hE
    have g0 : (r == r) = true := by simp
    have g1 : (r != r) = false := by simp
    refine wp_region_quiet_below (by kernel_rfl) (by kernel_rfl) ?_
    repeat (go_big_quiet_step (first | (go_at_call 33; with_reducible exact Calls.ext_of (K33.out _ _ _ (ext_grow EW.out _ _) (MatchesAt.ext M1.out (Ext.grow _ _ _)) (AreasAt.ext M2.out (Ext.grow _ _ _)))) | (go_at_call 34; with_reducible exact Calls.ext_of (K34.out _ (ext_grow EW.out _ _))) | (go_at_call 35; with_reducible exact Calls.ext_of (K35.out _ _ _ (ext_grow EW.out _ _) (MatchesAt.ext M1.out (Ext.grow _ _ _)) (AreasAt.ext M2.out (Ext.grow _ _ _))))))
    refine wpQuiet_nil ?_
    intro w9 hw'
    obtain ⟨pq, hw''⟩ := hw'
    have hbw9 := ext_of_regrown hw''
    clear hw'' pq
    go_wp2
    go_ret
    exact ⟨rfl, EW.out.trans hbw9⟩
theorem g5 (m : Img) (v : Value) (t : Tpl) (tv : Value) (limit : Int) (ms : List Match) (ar : List Area) (mv av : Value) (w : World) (hv : IntsAt w v m.pix) (hl : m.pix.length * 8 ≤ 140737488351232) (ht : IntsAt w tv t.pix) (htl : t.pix.length * 8 ≤ 140737488351232) (_hi : (Lit.int .i64 limit).wf = true) (h1 : MatchesAt w mv ms) (h2 : AreasAt w av ar) :
    Calls Try.prog 5 #[imgVal m v, tplVal t tv, .int .i64 limit, searchVal mv av] w fun e w' => e = .returned (.bool true) ∧ Ext w w' := c5 m v t tv limit ms ar mv av w hv (by unfold maxLen; omega) ht (by unfold maxLen; omega) h1 h2
end Go.Proofs.Ytipkjdfnoonpcaa
