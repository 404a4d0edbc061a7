/- The walks of Match: of the program and of the reference. -/
import Derived.Test.YtcbimfaneinpkaaChoose2
import Derived.Laws.EntriesVeiled
set_option linter.unusedVariables false
set_option linter.unusedSimpArgs false
namespace Go.Proofs.Ytcbimfaneinpkaa
open Go.RowKit Go.Sort

theorem ext_of_kp {D bo : Nat} {w a c : World} (h : Ext w a) (k : Kp D bo a c) (h1 : w.heap.size ≤ D) (h2 : w.heap.size ≤ bo) : Ext w c := by
  refine ⟨k.os.trans h.os, k.tape.trans h.tape, k.output.trans h.output, Nat.le_trans h.size k.size, fun i hi => ?_⟩
  rw [k.block i (Nat.lt_of_lt_of_le hi h.size) (by omega) (fun hd => by omega)]
  exact h.block i hi
theorem InB.of {w w' : World} {v : Value} {l : List Int} (h : IntsAt w v l) (hb : Ext w w') : InB w.heap.size w' v l := by
  refine ⟨h.ext hb, fun b h0 hv => ?_⟩
  rcases h.cases with ⟨rfl, -⟩ | ⟨-, b', o, c, rfl, -, -, h3⟩
  · simp at h0
  · simp [Value.ownBlock] at hv
    subst hv
    exact World.block_lt_of_cell? _ _ (h3 0 h0)

/-- What a 'Match' returns. -/
def OwnMatch (r : List (List Nat) × Int) (w : World) (e : Ending) (w' : World) : Prop :=
  ∃ v' vs, e = .returned (.tuple #[v', .int .i64 r.2]) ∧ w'.ownsRow 0 37 1 v' r.1.length vs ∧ Ls w' vs r.1 ∧ Ext w w'
theorem OwnMatch.none {c : Int} {w w' : World} (hb : Ext w w') : OwnMatch ([], c) w (.returned (.tuple #[.slice none 0 0, .int .i64 c])) w' :=
  ⟨_, [], rfl, ⟨rfl, .inl ⟨rfl, rfl⟩⟩, Ls.nil _, hb⟩

theorem heap_at (w : World) (o : Obj) {k : Nat} (h : k = w.heap.size) : (w.alloc o).heap[k]? = some o := by
  subst h
  show (w.heap.push o)[w.heap.size]? = some o
  simp
theorem heap_past (w : World) (o : Obj) {k : Nat} (h : k < w.heap.size) : (w.alloc o).heap[k]? = w.heap[k]? := by
  show (w.heap.push o)[k]? = _
  simp [Array.getElem?_push, Nat.ne_of_lt h]

theorem w58_top (b : Belt) (hok : b.ok) (fi se : List Int) (v1 v2 : Value) (i1 : Incr fi) (i2 : Incr se) (l1 : fi.length ≤ 10) (l2 : se.length ≤ 10) (w w' : World)
    (h1 : IntsAt w v1 fi) (h2 : IntsAt w v2 se) (hb : Ext w w') (hc1 : w'.cell? ⟨w.heap.size + 1, 0, none⟩ = some v1) (hc2 : w'.cell? ⟨w.heap.size + 1 + 1, 0, none⟩ = some v2) :
    Calls Try.prog 58 #[.slice none 0 0, .pointer (some ⟨w.heap.size + 1 + 1, 0, none⟩), .pointer (some ⟨w'.heap.size + 1, 0, none⟩), .pointer (some ⟨w.heap.size + 1, 0, none⟩), .pointer (some ⟨w'.heap.size, 0, none⟩), .pointer (some ⟨w'.heap.size + 1 + 1, 0, none⟩)]
      (((w'.alloc (.cells #[.int .i64 b.step, .int .i64 b.slip, .int .i64 b.gate, .int .i64 b.length, .int .i64 (least b), .int .i64 (most b)] 107)).alloc (.cells #[.slice none 0 0] 38)).alloc
        (.cells #[.func (.func 58) #[] #[.pointer (some ⟨w.heap.size + 1 + 1, 0, none⟩), .pointer (some ⟨w'.heap.size + 1, 0, none⟩), .pointer (some ⟨w.heap.size + 1, 0, none⟩), .pointer (some ⟨w'.heap.size, 0, none⟩), .pointer (some ⟨w'.heap.size + 1 + 1, 0, none⟩)]] 112))
      fun e w2 => e = .returned (.tuple #[]) ∧ Ext w w2 ∧ ∃ sa sc vs, w2.cell? ⟨w'.heap.size + 1, 0, none⟩ = some (.slice sa (choose b fi se se.length []).length sc) ∧
        w2.ownsRow 0 37 1 (.slice sa (choose b fi se se.length []).length sc) (choose b fi se se.length []).length vs ∧ Ls w2 vs (choose b fi se se.length []) := by
  have z1 := World.block_lt_of_cell? _ _ hc1
  have z2 := World.block_lt_of_cell? _ _ hc2
  simp only at z1 z2
  have hE3 := fun o1 o2 o3 => ((hb.alloc o1).alloc o2).alloc o3
  have hlen := choose_len b fi se se.length []
  have hpow := pow_bd (n := fi.length) (k := se.length) l1 l2
  have hcall := w58 b hok fi se v1 v2 w.heap.size (w.heap.size + 1 + 1) (w'.heap.size + 1) (w.heap.size + 1) w'.heap.size (w'.heap.size + 1 + 1) (w'.heap.size + 3) i1 i2 l1 l2 se.length [] (.slice none 0 0)
    (((w'.alloc (.cells #[.int .i64 b.step, .int .i64 b.slip, .int .i64 b.gate, .int .i64 b.length, .int .i64 (least b), .int .i64 (most b)] 107)).alloc (.cells #[.slice none 0 0] 38)).alloc
        (.cells #[.func (.func 58) #[] #[.pointer (some ⟨w.heap.size + 1 + 1, 0, none⟩), .pointer (some ⟨w'.heap.size + 1, 0, none⟩), .pointer (some ⟨w.heap.size + 1, 0, none⟩), .pointer (some ⟨w'.heap.size, 0, none⟩), .pointer (some ⟨w'.heap.size + 1 + 1, 0, none⟩)]] 112)) []
    ?_ ?_ ?_ (by simp; omega) (by simp) (by intro m hm; simp at hm)
  · refine hcall.mono ?_
    rintro e w2 ⟨rfl, ⟨vo, vs, o1, o2, o3⟩, hk⟩
    rw [List.nil_append] at o2 o3
    obtain ⟨-, sa, sc, rfl, -⟩ := SlAt.of_owns o2
    exact ⟨rfl, ext_of_kp (hE3 _ _ _) hk (by omega) (by omega), sa, sc, vs, cell_of_one' o1, owns_base o2 (Nat.zero_le _), o3⟩
  · refine ⟨⟨by omega, by omega, by omega, by omega, by omega, by omega, by omega, by omega, by omega, by omega, by simp⟩, ?_, ?_, ⟨?_, ?_, ?_, ?_, ?_, ?_⟩, ?_, InB.of h1 (hE3 _ _ _), InB.of h2 (hE3 _ _ _)⟩
    · exact ((((Ext.refl w').alloc _).alloc _).alloc _).get hc2
    · exact ((((Ext.refl w').alloc _).alloc _).alloc _).get hc1
    · exact (((Ext.refl _).alloc _).alloc _).get (by simp)
    · exact (((Ext.refl _).alloc _).alloc _).get (by simp)
    · exact (((Ext.refl _).alloc _).alloc _).get (by simp)
    · exact (((Ext.refl _).alloc _).alloc _).get (by simp)
    · exact (((Ext.refl _).alloc _).alloc _).get (by simp)
    · exact (((Ext.refl _).alloc _).alloc _).get (by simp)
    · refine cell_of_one' (t := 112) (fr := (0, 0)) ?_
      exact heap_at _ _ (by simp)
  · exact ⟨rfl, .inl ⟨rfl, rfl⟩⟩
  · refine ⟨.slice none 0 0, [], ?_, ⟨rfl, .inl ⟨rfl, rfl⟩⟩, Ls.nil _⟩
    rw [heap_past _ _ (by simp)]
    exact heap_at _ _ (by simp)

set_option maxRecDepth 100000 in
set_option maxHeartbeats 1000000 in
theorem w25 (b : Belt) (fi se : List Int) (v1 v2 : Value) (w : World) (h1 : IntsAt w v1 fi) (h2 : IntsAt w v2 se) (l1 : fi.length ≤ 50) (l2 : se.length ≤ 50) :
    Calls Try.prog 25 #[.agg #[.int .i64 b.step, .int .i64 b.slip, .int .i64 b.gate, .int .i64 b.length], v1, v2] w (OwnMatch (matched b fi se) w) := by
  have H1 := Lib.hid h1
  have H2 := Lib.hid h2
  obtain ⟨q1, a1, c1, rfl, -⟩ := h1
  obtain ⟨q2, a2, c2, rfl, -⟩ := h2
  by_cases hok : b.ok
  · have hcb : checkBelt b = 0 := checkBelt_ok hok
    by_cases hlen : fi.length ≤ 10 ∧ se.length ≤ 10
    · obtain ⟨l1', l2'⟩ := hlen
      have g1 : decide ((10 : Int) < (fi.length : Int)) = false := decide_eq_false (by omega)
      have g2 : decide ((10 : Int) < (se.length : Int)) = false := decide_eq_false (by omega)
      by_cases i1 : Incr fi
      · by_cases i2 : Incr se
        · have hm : matched b fi se = if choose b fi se se.length [] = [] then ([], 6) else (choose b fi se se.length [], 0) := by simp [matched, hok, l1', l2', i1, i2]
          obtain ⟨r, hr⟩ : ∃ r, r = matched b fi se := ⟨_, rfl⟩
          rw [← hr]
          rw [← hr] at hm
          have HM := Lib.hid hm
          clear hm hr
          have hi1 : decide (Incr fi) = true := decide_eq_true i1
          have hi2 : decide (Incr se) = true := decide_eq_true i2
          have I1 := Lib.hid i1
          have I2 := Lib.hid i2
          clear i1 i2
          have hcs : ∃ cs, choose b fi se se.length [] = cs := ⟨_, rfl⟩
          obtain ⟨cs, hcs⟩ := hcs
          rw [hcs] at HM
          have HC := Lib.hid hcs
          have hmx : fi.length < se.length ∨ ¬ fi.length < se.length := Nat.lt_or_ge _ _ |>.imp id (by omega)
          have hz : cs.length = 0 ∨ cs.length ≠ 0 := by omega
          clear hcs
          rcases hz with hz | hz
          · have hz2 : ((cs.length : Int) == 0) = true := by simp; exact List.eq_nil_of_length_eq_zero hz
            have hr : r = ([], 6) := by rw [HM.out, if_pos (List.eq_nil_of_length_eq_zero hz)]
            subst hr
            clear hz HM
            go_enter Try.func25, Try.ntmps25
            go_wp2_with (first | (go_at_call 23; refine (Ext.lift (w23 b _) (by first | assumption | exact Ext.refl _)).mono ?_; rintro e w' ⟨rfl, hb⟩; have y1 := H1.out.ext (((((Ext.refl w).alloc _).alloc _).alloc _).trans hb); have hc := hb.cell) | (have y4 := y3; go_at_call 57; refine (Ext.lift (w57 se _ _ y3 (by omega)) (by first | assumption | exact Ext.refl _)).mono ?_; rintro e w' ⟨rfl, hb⟩; have hc := hb.cell) | (go_at_call 57; refine (Ext.lift (w57 fi _ _ y1 (by omega)) (by first | assumption | exact Ext.refl _)).mono ?_; rintro e w' ⟨rfl, hb⟩; have y3 := H2.out.ext (((((Ext.refl w).alloc _).alloc _).alloc _).trans hb); have hc := hb.cell) | (go_at_call 54; refine (Ext.lift (w54 b hok _) (by first | assumption | exact Ext.refl _)).mono ?_; rintro e w' ⟨rfl, hb⟩; have hc := hb.cell) | (go_at_call 58; have k2 : w'.cell? ⟨w.heap.size + 1, 0, none⟩ = some (.slice a1 fi.length c1) := hb.get ((Ext.alloc (Ext.refl _) _).get (cell_of_one' (t := 37) (fr := (0, 0)) (heap_at _ _ (by simp)))); have k3 : w'.cell? ⟨w.heap.size + 1 + 1, 0, none⟩ = some (.slice a2 se.length c2) := hb.get (cell_of_one' (t := 37) (fr := (0, 0)) (heap_at _ _ (by simp))); refine (w58_top b hok fi se _ _ I1.out I2.out l1' l2' w w' H1.out H2.out (((((Ext.refl w).alloc _).alloc _).alloc _).trans hb) k2 k3).mono ?_; rw [HC.out]; rintro e w2 ⟨rfl, hE, sa, sc, vs, hcell, ho', hL'⟩; have ho := Lib.hid ho'; have hL := Lib.hid hL'; clear ho' hL'))
            all_goals (go_ret2; exact OwnMatch.none hE)
          · have hz2 : ((cs.length : Int) == 0) = false := by simp; intro h; simp [h] at hz
            have hr : r = (cs, 0) := by rw [HM.out, if_neg (fun h => hz (by simp [h]))]
            subst hr
            clear hz HM
            go_enter Try.func25, Try.ntmps25
            go_wp2_with (first | (go_at_call 23; refine (Ext.lift (w23 b _) (by first | assumption | exact Ext.refl _)).mono ?_; rintro e w' ⟨rfl, hb⟩; have y1 := H1.out.ext (((((Ext.refl w).alloc _).alloc _).alloc _).trans hb); have hc := hb.cell) | (have y4 := y3; go_at_call 57; refine (Ext.lift (w57 se _ _ y3 (by omega)) (by first | assumption | exact Ext.refl _)).mono ?_; rintro e w' ⟨rfl, hb⟩; have hc := hb.cell) | (go_at_call 57; refine (Ext.lift (w57 fi _ _ y1 (by omega)) (by first | assumption | exact Ext.refl _)).mono ?_; rintro e w' ⟨rfl, hb⟩; have y3 := H2.out.ext (((((Ext.refl w).alloc _).alloc _).alloc _).trans hb); have hc := hb.cell) | (go_at_call 54; refine (Ext.lift (w54 b hok _) (by first | assumption | exact Ext.refl _)).mono ?_; rintro e w' ⟨rfl, hb⟩; have hc := hb.cell) | (go_at_call 58; have k2 : w'.cell? ⟨w.heap.size + 1, 0, none⟩ = some (.slice a1 fi.length c1) := hb.get ((Ext.alloc (Ext.refl _) _).get (cell_of_one' (t := 37) (fr := (0, 0)) (heap_at _ _ (by simp)))); have k3 : w'.cell? ⟨w.heap.size + 1 + 1, 0, none⟩ = some (.slice a2 se.length c2) := hb.get (cell_of_one' (t := 37) (fr := (0, 0)) (heap_at _ _ (by simp))); refine (w58_top b hok fi se _ _ I1.out I2.out l1' l2' w w' H1.out H2.out (((((Ext.refl w).alloc _).alloc _).alloc _).trans hb) k2 k3).mono ?_; rw [HC.out]; rintro e w2 ⟨rfl, hE, sa, sc, vs, hcell, ho', hL'⟩; have ho := Lib.hid ho'; have hL := Lib.hid hL'; clear ho' hL'))
            all_goals (go_ret2; exact ⟨_, vs, rfl, ho.out, hL.out, hE⟩)
        · have hm : matched b fi se = ([], 2) := by simp [matched, hok, l1', l2', i1, i2]
          rw [hm]
          clear hm
          have hi1 : decide (Incr fi) = true := decide_eq_true i1
          have hi2 : decide (Incr se) = false := decide_eq_false i2
          clear i1 i2
          go_enter Try.func25, Try.ntmps25
          go_wp2_with (first | (go_at_call 23; refine (Ext.lift (w23 b _) (by first | assumption | exact Ext.refl _)).mono ?_; rintro e w' ⟨rfl, hb⟩; have y1 := H1.out.ext (((((Ext.refl w).alloc _).alloc _).alloc _).trans hb); have hc := hb.cell) | (have y4 := y3; go_at_call 57; refine (Ext.lift (w57 se _ _ y3 (by omega)) (by first | assumption | exact Ext.refl _)).mono ?_; rintro e w' ⟨rfl, hb⟩; have hc := hb.cell) | (go_at_call 57; refine (Ext.lift (w57 fi _ _ y1 (by omega)) (by first | assumption | exact Ext.refl _)).mono ?_; rintro e w' ⟨rfl, hb⟩; have y3 := H2.out.ext (((((Ext.refl w).alloc _).alloc _).alloc _).trans hb); have hc := hb.cell))
          all_goals (go_ret2; exact OwnMatch.none (((((Ext.refl _).alloc _).alloc _).alloc _).trans (by assumption)))
      · have hm : matched b fi se = ([], 2) := by simp [matched, hok, l1', l2', i1]
        rw [hm]
        clear hm
        have hi1 : decide (Incr fi) = false := decide_eq_false i1
        clear i1
        go_enter Try.func25, Try.ntmps25
        go_wp2_with (first | (go_at_call 23; refine (Ext.lift (w23 b _) (by first | assumption | exact Ext.refl _)).mono ?_; rintro e w' ⟨rfl, hb⟩; have y1 := H1.out.ext (((((Ext.refl w).alloc _).alloc _).alloc _).trans hb); have hc := hb.cell) | (go_at_call 57; refine (Ext.lift (w57 fi _ _ y1 (by omega)) (by first | assumption | exact Ext.refl _)).mono ?_; rintro e w' ⟨rfl, hb⟩; have y3 := H2.out.ext (((((Ext.refl w).alloc _).alloc _).alloc _).trans hb); have hc := hb.cell))
        all_goals (go_ret2; exact OwnMatch.none (((((Ext.refl _).alloc _).alloc _).alloc _).trans (by assumption)))
    · have hm : matched b fi se = ([], 4) := by simp [matched, hok, hlen]
      rw [hm]
      clear hm
      rcases Nat.lt_or_ge 10 fi.length with e1 | e1 <;> rcases Nat.lt_or_ge 10 se.length with e2 | e2
      · have g1 : decide ((10 : Int) < (fi.length : Int)) = true := decide_eq_true (by omega)
        have g2 : decide ((10 : Int) < (se.length : Int)) = true := decide_eq_true (by omega)
        go_enter Try.func25, Try.ntmps25
        go_wp2_with (first | (go_at_call 23; refine (Ext.lift (w23 b _) (by first | assumption | exact Ext.refl _)).mono ?_; rintro e w' ⟨rfl, hb⟩; have y1 := H1.out.ext (((((Ext.refl w).alloc _).alloc _).alloc _).trans hb); have hc := hb.cell))
        all_goals (go_ret2; exact OwnMatch.none (((((Ext.refl _).alloc _).alloc _).alloc _).trans (by assumption)))
      · have g1 : decide ((10 : Int) < (fi.length : Int)) = true := decide_eq_true (by omega)
        have g2 : decide ((10 : Int) < (se.length : Int)) = false := decide_eq_false (by omega)
        have g3 : ¬ fi.length < se.length := by omega
        go_enter Try.func25, Try.ntmps25
        go_wp2_with (first | (go_at_call 23; refine (Ext.lift (w23 b _) (by first | assumption | exact Ext.refl _)).mono ?_; rintro e w' ⟨rfl, hb⟩; have y1 := H1.out.ext (((((Ext.refl w).alloc _).alloc _).alloc _).trans hb); have hc := hb.cell))
        all_goals (go_ret2; exact OwnMatch.none (((((Ext.refl _).alloc _).alloc _).alloc _).trans (by assumption)))
      · have g1 : decide ((10 : Int) < (fi.length : Int)) = false := decide_eq_false (by omega)
        have g2 : decide ((10 : Int) < (se.length : Int)) = true := decide_eq_true (by omega)
        have g3 : fi.length < se.length := by omega
        go_enter Try.func25, Try.ntmps25
        go_wp2_with (first | (go_at_call 23; refine (Ext.lift (w23 b _) (by first | assumption | exact Ext.refl _)).mono ?_; rintro e w' ⟨rfl, hb⟩; have y1 := H1.out.ext (((((Ext.refl w).alloc _).alloc _).alloc _).trans hb); have hc := hb.cell))
        all_goals (go_ret2; exact OwnMatch.none (((((Ext.refl _).alloc _).alloc _).alloc _).trans (by assumption)))
      · exact absurd ⟨by omega, by omega⟩ hlen
  · have hcb : checkBelt b = 90 := checkBelt_no hok
    have hm : matched b fi se = ([], 90) := by simp [matched, hok]
    rw [hm]
    clear hm
    go_enter Try.func25, Try.ntmps25
    go_wp2_with (first | (go_at_call 23; refine (Ext.lift (w23 b _) (by first | assumption | exact Ext.refl _)).mono ?_; rintro e w' ⟨rfl, hb⟩; have y1 := H1.out.ext (((((Ext.refl w).alloc _).alloc _).alloc _).trans hb); have hc := hb.cell))
    go_ret2
    exact OwnMatch.none (((((Ext.refl _).alloc _).alloc _).alloc _).trans (by assumption))
end Go.Proofs.Ytcbimfaneinpkaa
