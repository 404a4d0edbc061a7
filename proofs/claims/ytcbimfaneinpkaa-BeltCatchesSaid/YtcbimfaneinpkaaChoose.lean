/- What the closure in Match keeps: all but the variable 'out' and its row. -/
import Derived.Test.YtcbimfaneinpkaaExtended
set_option linter.unusedVariables false
set_option linter.unusedSimpArgs false
namespace Go.Proofs.Ytcbimfaneinpkaa
open Go.RowKit Go.Sort

/-- Rows of lists of ints (37) from D on, and the variable bo, may change; nothing else that was there. -/
structure Kp (D bo : Nat) (w w' : World) : Prop where
  os : w'.os = w.os
  tape : w'.tape = w.tape
  output : w'.output = w.output
  size : w.heap.size ≤ w'.heap.size
  block : ∀ k, k < w.heap.size → k ≠ bo → (D ≤ k → ∀ cur fr, w.heap[k]? ≠ some (.cells cur 37 fr)) → w'.heap[k]? = w.heap[k]?

theorem Kp.refl (D bo : Nat) (w : World) : Kp D bo w w := ⟨rfl, rfl, rfl, Nat.le_refl _, fun _ _ _ _ => rfl⟩
theorem Kp.trans {D bo : Nat} {a b c : World} (h : Kp D bo a b) (k : Kp D bo b c) : Kp D bo a c :=
  ⟨k.os.trans h.os, k.tape.trans h.tape, k.output.trans h.output, Nat.le_trans h.size k.size, fun i hi hn ht => by
    have e := h.block i hi hn ht
    rw [k.block i (Nat.lt_of_lt_of_le hi h.size) hn (fun hd cur fr => by rw [e]; exact ht hd cur fr), e]⟩
theorem Kp.of_ext {D bo : Nat} {w w' : World} (h : Ext w w') : Kp D bo w w' := ⟨h.os, h.tape, h.output, h.size, fun k hk _ _ => h.block k hk⟩
theorem Kp.of_grown {D bo : Nat} {w w' : World} {row : Option Nat} (h : w.grownBy w' row) (hr : ∀ g, row = some g → D ≤ g ∧ ∃ cur fr, w.heap[g]? = some (.cells cur 37 fr)) : Kp D bo w w' :=
  ⟨h.os, h.tape, h.output, h.size, fun k hk _ ht => h.block k hk (fun e => by
    obtain ⟨h1, cur, fr, h2⟩ := hr k e.symm
    exact ht h1 cur fr h2)⟩
theorem Kp.of_set {D bo : Nat} (w : World) (o : Nat) (s : Option Nat) (u : Value) : Kp D bo w (w.setCell ⟨bo, o, s⟩ u) :=
  ⟨rfl, rfl, rfl, by simp, fun k _ hn _ => Below.heap_setCell _ _ _ _ hn⟩
/-- Below D it has only grown, but for bo. -/
theorem Kp.cell {D bo : Nat} {w w' : World} (h : Kp D bo w w') {b o : Nat} {v : Value} (hc : w.cell? ⟨b, o, none⟩ = some v) (hb : b < D) (hn : b ≠ bo) : w'.cell? ⟨b, o, none⟩ = some v := by
  rw [World.cell?_of_block (w := w) (h.block b (World.block_lt_of_cell? _ _ hc) hn (fun hd => by omega))]
  exact hc
theorem Kp.intRow {D bo : Nat} {w w' : World} (h : Kp D bo w w') {v : Value} {l : List Int} (hi : IntRow w v l) (hbo : ∃ cur fr, w.heap[bo]? = some (.cells cur 38 fr)) : IntRow w' v l := by
  obtain ⟨h1, h2⟩ := hi
  refine ⟨h1, ?_⟩
  rcases h2 with h2 | ⟨g, cap, cur, hv, hb, hh, r⟩
  · exact .inl h2
  · refine .inr ⟨g, cap, cur, hv, hb, ?_, r⟩
    have hlt : g < w.heap.size := by
      rcases Nat.lt_or_ge g w.heap.size with h | h
      · exact h
      · simp [Array.getElem?_eq_none h] at hh
    rw [h.block g hlt (fun e => ?_) (fun _ cur' fr' e => ?_)]
    · exact hh
    · obtain ⟨c, f, h3⟩ := hbo
      rw [← e, hh] at h3
      cases h3
    · rw [hh] at e
      cases e
theorem Kp.ls {D bo : Nat} {w w' : World} (h : Kp D bo w w') {vs : List Value} {r : List (List Nat)} (hl : Ls w vs r) (hbo : ∃ cur fr, w.heap[bo]? = some (.cells cur 38 fr)) : Ls w' vs r :=
  ⟨hl.1, fun i hi => h.intRow (hl.2 i hi) hbo⟩

/-- A slice that came in, its cells (if it has any) below B. -/
def InB (B : Nat) (w : World) (v : Value) (l : List Int) : Prop := IntsAt w v l ∧ ∀ b, 0 < l.length → v.ownBlock = some b → b < B
theorem InB.kp {D bo B : Nat} {w w' : World} (h : Kp D bo w w') {v : Value} {l : List Int} (hi : InB B w v l) (hB : B ≤ bo) (hD : bo < D) : InB B w' v l := by
  refine ⟨?_, hi.2⟩
  rcases Nat.eq_zero_or_pos l.length with h0 | h0
  · have hl : l = [] := List.eq_nil_of_length_eq_zero h0
    obtain ⟨h1, ao, cap, h2, h3, h4, h5, h6⟩ := hi.1
    exact ⟨h1, ao, cap, h2, h3, h4, h5, fun j u hj => by subst hl; simp [ints] at hj⟩
  · refine SlAt.keep hi.1 fun b o u hb hc => ?_
    have := hi.2 b h0 hb
    exact h.cell hc (by omega) (by omega)

/-- What the closure has captured. -/
structure St (b : Belt) (fi se : List Int) (v1 v2 : Value) (B bs bo bf bp bc D : Nat) (w : World) : Prop where
  lt : bs < D ∧ bf < D ∧ bp < D ∧ bc < D ∧ bo < D ∧ bs ≠ bo ∧ bf ≠ bo ∧ bp ≠ bo ∧ bc ≠ bo ∧ B ≤ bo ∧ D ≤ w.heap.size
  second : w.cell? ⟨bs, 0, none⟩ = some v2
  first : w.cell? ⟨bf, 0, none⟩ = some v1
  pace : w.cell? ⟨bp, 0, none⟩ = some (.int .i64 b.step) ∧ w.cell? ⟨bp, 1, none⟩ = some (.int .i64 b.slip) ∧ w.cell? ⟨bp, 2, none⟩ = some (.int .i64 b.gate) ∧ w.cell? ⟨bp, 3, none⟩ = some (.int .i64 b.length) ∧
    w.cell? ⟨bp, 4, none⟩ = some (.int .i64 (least b)) ∧ w.cell? ⟨bp, 5, none⟩ = some (.int .i64 (most b))
  choose : w.cell? ⟨bc, 0, none⟩ = some (.func (.func 58) #[] #[.pointer (some ⟨bs, 0, none⟩), .pointer (some ⟨bo, 0, none⟩), .pointer (some ⟨bf, 0, none⟩), .pointer (some ⟨bp, 0, none⟩), .pointer (some ⟨bc, 0, none⟩)])
  in1 : InB B w v1 fi
  in2 : InB B w v2 se
theorem St.kp {b : Belt} {fi se : List Int} {v1 v2 : Value} {B bs bo bf bp bc D : Nat} {w w' : World} (h : St b fi se v1 v2 B bs bo bf bp bc D w) (k : Kp D bo w w') : St b fi se v1 v2 B bs bo bf bp bc D w' := by
  obtain ⟨⟨l1, l2, l3, l4, l5, n1, n2, n3, n4, l6, l7⟩, h2, h3, ⟨p0, p1, p2, p3, p4, p5⟩, h5, h6, h7⟩ := h
  have hsz := k.size
  exact ⟨⟨l1, l2, l3, l4, l5, n1, n2, n3, n4, l6, by omega⟩, k.cell h2 l1 n1, k.cell h3 l2 n2, ⟨k.cell p0 l3 n3, k.cell p1 l3 n3, k.cell p2 l3 n3, k.cell p3 l3 n3, k.cell p4 l3 n3, k.cell p5 l3 n3⟩, k.cell h5 l4 n4, h6.kp k l6 l5, h7.kp k l6 l5⟩

/-- The variable 'out', and what it holds. -/
def Out (D bo : Nat) (w : World) (outs : List (List Nat)) : Prop :=
  ∃ vo vs, w.heap[bo]? = some (.cells #[vo] 38 (0, 0)) ∧ w.ownsRow D 37 1 vo outs.length vs ∧ Ls w vs outs

def Chosen (D bo : Nat) (outs : List (List Nat)) (w : World) (e : Ending) (w' : World) : Prop :=
  e = .returned (.tuple #[]) ∧ Out D bo w' outs ∧ Kp D bo w w'

/-- 'out = append(out, slices.Clone(x))' -/
def gs58a (vo : Value) (vx : Value) (xs : List Nat) : List (Value → World → Prop) :=
  [fun v _ => v = vo, fun v _ => v = vx, fun v w => IntRow w v (idx xs), fun v w => ∃ u, SlAt w 1 v 1 [u] ∧ IntRow w u (idx xs)]
theorem gs58a_stab (vo vx : Value) (xs : List Nat) : ∀ g ∈ gs58a vo vx xs, ∀ v w w', g v w → Ext w w' → g v w' := by
  intro g hg v w w' h hb
  simp only [gs58a, List.mem_cons, List.not_mem_nil, or_false] at hg
  rcases hg with rfl | rfl | rfl | rfl
  · exact h
  · exact h
  · exact IntRow.ext h hb
  · obtain ⟨u, h1, h2⟩ := h
    exact ⟨u, SlAt.ext h1 hb, h2.ext hb⟩

theorem cell_of_one' {w : World} {b : Nat} {v : Value} {t : TypeId} {fr : Nat × Nat} (h : w.heap[b]? = some (.cells #[v] t fr)) : w.cell? ⟨b, 0, none⟩ = some v := by simp [World.cell?, h]
theorem free_of_one' {w : World} {b : Nat} {v : Value} {t : TypeId} (h : w.heap[b]? = some (.cells #[v] t (0, 0))) : w.frozen? ⟨b, 0, none⟩ = false := by simp [World.frozen?, h]
theorem set_one {w : World} {b : Nat} {v u : Value} {t : TypeId} {fr : Nat × Nat} (h : w.heap[b]? = some (.cells #[v] t fr)) : (w.setCell ⟨b, 0, none⟩ u).heap[b]? = some (.cells #[u] t fr) := by
  simp [World.setCell, Array.getElem?_modify, h]

theorem owns_set {w : World} {base e sz n bo : Nat} {v u : Value} {cs : List Value} (h : w.ownsRow base e sz v n cs) (hb : bo < base) : (w.setCell ⟨bo, 0, none⟩ u).ownsRow base e sz v n cs := by
  obtain ⟨h1, h2⟩ := h
  refine ⟨h1, ?_⟩
  rcases h2 with h2 | ⟨g, cap, cur, hv, hg, hh, r⟩
  · exact .inl h2
  · refine .inr ⟨g, cap, cur, hv, hg, ?_, r⟩
    rw [Below.heap_setCell _ _ _ _ (show g ≠ bo by omega)]
    exact hh

set_option maxRecDepth 100000 in
set_option maxHeartbeats 2000000 in
theorem w58_leaf (b : Belt) (fi se : List Int) (v1 v2 : Value) (B bs bo bf bp bc D : Nat) (xs : List Nat) (vx : Value) (w : World) (outs : List (List Nat))
    (hS : St b fi se v1 v2 B bs bo bf bp bc D w) (hx : IntRow w vx (idx xs)) (hO : Out D bo w outs) (hl : outs.length ≤ 10000000000) (hk : xs.length = se.length) (hse : se.length ≤ 10) :
    Calls Try.prog 58 #[vx, .pointer (some ⟨bs, 0, none⟩), .pointer (some ⟨bo, 0, none⟩), .pointer (some ⟨bf, 0, none⟩), .pointer (some ⟨bp, 0, none⟩), .pointer (some ⟨bc, 0, none⟩)] w (Chosen D bo (outs ++ [xs]) w) := by
  have hxx := hx.at_
  obtain ⟨qx, ax, cx, rfl, -⟩ := hxx
  obtain ⟨q2, a2, c2, e2, -⟩ := hS.in2.1
  have hc2 := hS.second
  rw [e2] at hc2
  obtain ⟨vo, vs, o1, o2, o3⟩ := hO
  have hc0 := cell_of_one' o1
  have hD : D ≤ w.heap.size := hS.lt.2.2.2.2.2.2.2.2.2.2
  have hboD : bo < D := hS.lt.2.2.2.2.1
  have heq : (((idx xs).length : Int) == (se.length : Int)) = true := by rw [idx_length]; simp; omega
  have O1 := Lib.hid o1
  clear o1
  go_enter Try.func58, Try.ntmps58
  go_wp2_with fail
  have hst := RG.stab_of (gs58a_stab vo (.slice ax (idx xs).length cx) xs)
  refine RG.wp_rg (gs58a vo (.slice ax (idx xs).length cx) xs) (fun _ => []) (by kernel_rfl) (by kernel_rfl) (by kernel_rfl) ?_ ?_
  · simp only [gs58a, List.length_cons, List.length_nil, List.take_succ_cons, List.take_zero, RG.Steps, and_true, Nat.reduceAdd]
    refine ⟨?_, ?_, ?_, ?_⟩
    · refine RG.st_run rfl (fun a w1 hw hr => ⟨_, w1, ?_, Ext.refl _, rfl⟩) hst
      have e := RG.read_out (t := 2) hr (by kernel_rfl) (by kernel_rfl)
      have e' : a.tmps[2]?.getD undef = .pointer (some ⟨bo, 0, none⟩) := (Array.getD_eq_getD_getElem? ..).symm.trans e
      have f0 := hw.get hc0
      clear hr hst e
      simp [execOp, go_sem, e', f0]
    · exact RG.st_move rfl rfl (by kernel_rfl) (fun _ _ => rfl) hst
    · refine RG.st_call rfl 59 _ _ rfl Try.func59 (by kernel_rfl) rfl (fun a w1 hw hr => ?_) hst
      have e1 := RG.read_in (t := 20) (j := 1) hr (by kernel_rfl) (by kernel_rfl)
      have hargs : (#[Operand.tmp 20].map a.eval) = #[.slice ax (idx xs).length cx] := by
        simp only [List.map_toArray, List.map_cons, List.map_nil]
        rw [show a.eval (.tmp 20) = _ from e1]
      rw [hargs]
      refine (w59 (idx xs) _ w1 (hx.at_.ext hw) (by rw [idx_length]; omega)).mono ?_
      rintro e w' ⟨v', rfl, q1, q2⟩
      exact ⟨v', rfl, q2, owns_base q1 (Nat.zero_le _)⟩
    · refine RG.st_wp rfl (fun a w1 Q hw hr => ?_)
      have e1 := RG.read_in (t := 21) (j := 2) hr (by kernel_rfl) (by kernel_rfl)
      have e' : a.tmps[21]?.getD undef = a.tmps.getD 21 undef := (Array.getD_eq_getD_getElem? ..).symm
      generalize a.tmps.getD 21 undef = u at e' e1
      have hx1 : w1.ownsRow 0 3 1 u (idx xs).length (ints (idx xs)) := e1
      have hrun : (execOp a.eval { dst := some 22, op := Op.buildSlice 38 1 #[(0, Operand.tmp 21)], type := 38, pos := "belt.go:248", after := #[{ on := 2, ground := Ground.data }], guard := none }).run Try.prog w1 =
          .ok (.value (.slice (some ⟨w1.heap.size, 0, none⟩) 1 1)) (w1.alloc (.cells #[u] 37)) := by
        have hx2 := hx1
        clear hx1 e1 hr hst
        obtain ⟨h1, h2⟩ := hx2
        rcases h2 with h2 | ⟨g, cap, cur, h2, _⟩
        · have h3 := h2.1
          clear h2
          subst h3
          simp [execOp, go_sem, e']
        · subst h2
          simp [execOp, go_sem, e']
      unfold Oper.wp
      rw [hrun]
      refine ⟨_, rfl, hw.trans ((Ext.refl _).alloc _), fun j v _ _ _ h => hst j v _ _ h ((Ext.refl _).alloc _), u, SlAt.of_owns (owns_lit w1 [u] 37 1 1 0 (Nat.zero_le _) (by unfold maxLen; omega) rfl), IntRow.ext hx1 ((Ext.refl _).alloc _)⟩
  · intro wq hwq
    simp only [gs58a, List.length_cons, List.length_nil, List.take_succ_cons, List.take_zero, RG.Fin, RG.goneBy, Nat.reduceAdd, List.drop_succ_cons, List.drop_zero]
    intro v0 h0 v1 h1 v2 _ v3 h3
    obtain rfl := h0 (by decide)
    obtain rfl := h1 (by decide)
    obtain ⟨u, q1, q2⟩ := h3 (by decide)
    clear h0 h1 h3
    simp only [Act.put, List.setIfInBounds_toArray, List.set_cons_zero, List.set_cons_succ]
    obtain ⟨i1, hi1, hy0, hy1, hy2⟩ := info_parts info37
    have o1 := O1.out
    have hblt : bo < w.heap.size := by omega
    have hqb := hwq.block bo hblt
    refine wpList_append_sl rfl (.tmp 19) (.tmp 22) 38 rfl D 37 i1 (.slice none 0 0) 1 24 Try.underlying38 hi1 hy0 hy1 hy2 rfl (by omega) _ outs.length vs rfl (owns_ext o2 hwq) _ 1 [u] rfl q1 (by simpa using q2.one) (by unfold maxLen; omega) (by omega) (by have := hwq.size; omega) ?_
    intro v' w2 ho2 hg2
    have hsl2 := SlAt.of_owns ho2
    obtain ⟨zz, sa, sc, hvv, -⟩ := hsl2
    subst hvv
    have hob := owns_block (owns_ext o2 hwq)
    have hty : ∀ g, Value.ownBlock v0 = some g → ∃ cur e fr, wq.heap[g]? = some (.cells cur e fr) ∧ e ≠ 3 := fun g hg => by
      obtain ⟨cur, fr, h⟩ := owns_type (owns_ext o2 hwq) g hg
      exact ⟨cur, 37, fr, h, by decide⟩
    have hk2 : Kp D bo w w2 := (Kp.of_ext hwq).trans (Kp.of_grown hg2 fun g hg => by
      obtain ⟨cur, fr, h⟩ := owns_type (owns_ext o2 hwq) g hg
      exact ⟨(hob g hg).1, cur, fr, h⟩)
    have b2 : w2.heap[bo]? = some (.cells #[v0] 38 (0, 0)) := by
      rw [hg2.block bo (by have := hwq.size; omega) (fun e => by have := (hob bo e.symm).1; omega), hqb]
      exact o1
    have hL2 := Lib.hid (((o3.ext hwq).beside hg2 hty).append ((Ls.single q2).beside hg2 hty))
    have c2 := cell_of_one' b2
    have f2 := free_of_one' b2
    have B2 := Lib.hid b2
    have K2 := Lib.hid hk2
    have HO2 := Lib.hid ho2
    clear b2 hk2 ho2 hob hty hqb o1
    go_wp2
    refine bodyPost_ret (results_none rfl _ _ _) rfl ?_
    have K3 := K2.out.trans (Kp.of_set w2 0 none (.slice sa (outs.length + 1) sc))
    refine ⟨rfl, ⟨.slice sa (outs.length + 1) sc, vs ++ [u], set_one B2.out, ?_, Kp.ls (D := D) (Kp.of_set w2 0 none (.slice sa (outs.length + 1) sc)) hL2.out ⟨_, _, B2.out⟩⟩, K3⟩
    rw [List.length_append]
    exact owns_set HO2.out hboD
end Go.Proofs.Ytcbimfaneinpkaa
