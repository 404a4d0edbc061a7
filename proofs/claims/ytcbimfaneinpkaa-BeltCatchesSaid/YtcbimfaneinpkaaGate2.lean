/- The walks of the gate: whether it is open; a track at work. -/
import Derived.Test.YtcbimfaneinpkaaGate
set_option linter.unusedVariables false
set_option linter.unusedSimpArgs false
namespace Go.Proofs.Ytcbimfaneinpkaa
open Go.RowKit Go.Sort

set_option maxHeartbeats 1000000 in
theorem w75 (l : List Seen) (v : Value) (p : Seen → Bool) (g : FuncId) (lb : Array Value) (w : World) (hv : SeensAt w v l) (hl : l.length ≤ 1000000)
    (eg : ∀ args w, (callFunc g args).run Try.prog w = .ok (.enter g args) w) (hp : ∀ x ∈ l, ∀ w', Ext w w' → Calls Try.prog g (#[seenV x] ++ lb) w' fun e w'' => e = .returned (.bool (p x)) ∧ Ext w' w'') :
    Calls Try.prog 75 #[v, .func (.func g) #[] lb] w fun e w' => e = .returned (.bool (l.any p)) ∧ Ext w w' := by
  have K := Lib.hid (w78 l v p g lb w hv hl eg hp)
  clear hv hl eg hp
  cases hany : l.any p
  · rw [hany, if_neg (by decide)] at K
    clear hany
    go_enter Try.func75, Try.ntmps75
    go_wp2_with (go_at_call 78; (with_reducible refine K.out.mono ?_); rintro e w1 ⟨rfl, h1⟩)
    go_ret
    exact ⟨rfl, h1⟩
  · rw [hany, if_pos rfl] at K
    obtain ⟨k, hk⟩ : ∃ k : Nat, l.findIdx p = k := ⟨_, rfl⟩
    rw [hk] at K
    clear hany hk
    have t1 : decide ((0 : Int) ≤ (k : Int)) = true := decide_eq_true (by omega)
    go_enter Try.func75, Try.ntmps75
    go_wp2_with (go_at_call 78; (with_reducible refine K.out.mono ?_); rintro e w1 ⟨rfl, h1⟩)
    go_ret
    exact ⟨ret_bool (by first | rfl | (simp; done) | (simp; omega)), h1⟩
/-- a track at work: its block -/
def GateAt (w : World) (b : Nat) (t : Track) (vp : Value) : Prop :=
  w.heap[b]? = some (.cells #[.int .i64 t.belt.step, .int .i64 t.belt.slip, .int .i64 t.belt.gate, .int .i64 t.belt.length, .int .i64 t.count, .int .i64 t.next, vp, .int .i64 (first t.belt), .int .i64 (final t.belt)] 123 (0, 0))
theorem GateAt.lt {w : World} {b : Nat} {t : Track} {vp : Value} (h : GateAt w b t vp) : b < w.heap.size := by
  rcases Nat.lt_or_ge b w.heap.size with h9 | h9
  · exact h9
  · unfold GateAt at h; simp [Array.getElem?_eq_none h9] at h
theorem GateAt.ext {w w' : World} {b : Nat} {t : Track} {vp : Value} (h : GateAt w b t vp) (hE : Ext w w') : GateAt w' b t vp := by
  have hl := h.lt
  unfold GateAt at *
  rw [Below.block hE b hl]
  exact h
/-- the parts of a track that works -/
def PartsIn (t : Track) : Prop := t.belt.ok ∧ t.parts.length ≤ 50 ∧ ∀ x ∈ t.parts, 0 ≤ x.at_ ∧ x.at_ ≤ 1099511627776
theorem PartsIn.of_ok {t : Track} (h : t.ok) : PartsIn t := by
  obtain ⟨h1, ⟨s1, s2, s3, s4, s5⟩, h3⟩ := h
  refine ⟨h1, by omega, fun x hx => ?_⟩
  have := (parts_iff.1 h3).1 x hx
  exact ⟨this.2.2.1, by have := this.2.2.2.1; omega⟩
theorem win_bd {b : Belt} (h : b.ok) : (0 ≤ first b ∧ first b ≤ 3000000) ∧ 0 ≤ final b ∧ final b ≤ 3000000 := by
  have h1 := from_bd h h.2.2.2.2.1 h.2.2.2.2.2.1
  have h2 := to_bd h h.2.2.2.2.1 h.2.2.2.2.2.1
  unfold first final
  omega
theorem openAt_eq (t : Track) (n : Int) : openAt t n = t.parts.any fun x => decide (x.verdict ≠ 1) && inWin (first t.belt) (final t.belt) n x := rfl
set_option maxRecDepth 100000 in
set_option maxHeartbeats 2000000 in
theorem w67 (t : Track) (b : Nat) (vp : Value) (n : Int) (w : World) (hg : GateAt w b t vp) (hv : SeensAt w vp t.parts) (hI : PartsIn t) :
    Calls Try.prog 67 #[.pointer (some ⟨b, 0, none⟩), .int .i64 n] w fun e w' => e = .returned (.bool (openAt t n)) ∧ Ext w w' := by
  obtain ⟨⟨f1, f2⟩, f3, f4⟩ := win_bd hI.1
  have c6 := cell_of_at hg 6 rfl
  have c7 := cell_of_at hg 7 rfl
  have c8 := cell_of_at hg 8 rfl
  have K := Lib.hid (fun (w' : World) (h : Ext w w') (pb cb : Nat) (k1 : w'.cell? ⟨pb, 0, none⟩ = some (.pointer (some ⟨b, 0, none⟩))) (k2 : w'.cell? ⟨cb, 0, none⟩ = some (.int .i64 n)) =>
    w75 t.parts vp (fun x => decide (x.verdict ≠ 1) && inWin (first t.belt) (final t.belt) n x) 76 #[.pointer (some ⟨pb, 0, none⟩), .pointer (some ⟨cb, 0, none⟩)] w' (hv.ext h) (by have := hI.2.1; omega)
      (fun args w => by first | rfl | kernel_rfl) (fun x hx w2 h2 => w76 b pb cb x n _ _ w2 ((h.trans h2).get c7) ((h.trans h2).get c8) (h2.get k1) (h2.get k2) (hI.2.2 x hx).1 (hI.2.2 x hx).2 f1 f2 f3 f4))
  rw [← openAt_eq t n] at K
  obtain ⟨r, hr⟩ : ∃ r, openAt t n = r := ⟨_, rfl⟩
  rw [hr] at K ⊢
  clear c7 c8 hr f1 f2 f3 f4 hv hI hg
  have z := World.block_lt_of_cell? _ _ c6
  simp only at z
  go_enter Try.func67, Try.ntmps67
  go_wp2_with (go_at_call 75; (with_reducible refine (K.out _ (by repeat (first | exact Ext.refl _ | assumption | refine Ext.alloc ?_ _ | refine Ext.drewN ?_ _ | refine Ext.setCell ?_ (by first | exact Nat.le_refl _ | omega | (simp; done) | (simp; omega)) _ | refine Ext.trans ?_ (by assumption))) w.heap.size (w.heap.size + 1) (by first | (simp; done) | skip) (by first | (simp; done) | skip)).mono ?_); rintro e w' ⟨rfl, hb⟩)
  go_ret
  exact ⟨rfl, (((Ext.refl _).alloc _).alloc _).trans hb⟩
/-- a list of parts in memory of its own -/
def OwnSeens (l : List Seen) (w : World) (e : Ending) (w' : World) : Prop := ∃ v', e = .returned v' ∧ w'.ownsRow w.heap.size 63 4 v' l.length (seens l) ∧ Ext w w'
set_option maxHeartbeats 1000000 in
theorem w65 (l : List Seen) (v : Value) (w : World) (hv : SeensAt w v l) (hl : l.length ≤ 1000000) :
    Calls Try.prog 65 #[v] w (OwnSeens l w) := by
  obtain ⟨i0, hi, hz0, hz1, hz2⟩ := info_parts info63
  have hv' := hv
  obtain ⟨h1, ao, cap, rfl, h3, h4, h5, h6⟩ := hv'
  cases ao with
  | none =>
    have h0 : cap = 0 := h5 rfl
    subst h0
    have hn : l = [] := List.eq_nil_of_length_eq_zero (by omega)
    subst hn
    have hnil := @Lib.run_eql_slice_nil Try.prog
    go_enter Try.func65, Try.ntmps65
    go_wp2
    go_ret
    exact ⟨_, rfl, ⟨rfl, .inl ⟨rfl, rfl⟩⟩, Ext.refl _⟩
  | some a =>
    have hnil := @Lib.run_eql_slice_nil Try.prog
    go_enter Try.func65, Try.ntmps65
    go_wp2_with (first | (at_builtin; refine wpList_append_sl rfl _ _ 45 rfl w.heap.size 63 i0 (.agg #[.int .i64 0, .int .i64 0, .int .u8 0, .bool false]) 4 24 Try.underlying45 hi hz0 hz1 hz2 rfl (by omega) (.slice (some ⟨w.heap.size, 0, none⟩) 0 0) 0 [] rfl (owns_lit w [] 63 0 4 _ (Nat.le_refl _) (by unfold maxLen; omega) rfl) _ l.length (seens l) rfl (hv.ext ((Ext.refl _).alloc _)) (seens_one _) (by unfold maxLen; omega) (by omega) (by simp) ?_; intro v' w' ho hg))
    go_ret
    refine ⟨_, rfl, by simpa using ho, ((Ext.refl _).alloc _).grown hg (fun k hk => ?_)⟩
    simp [Value.ownBlock] at hk
    omega
/-- a track at work, in memory of its own -/
def OwnGate (t : Track) (w : World) (e : Ending) (w' : World) : Prop :=
  ∃ b vp, e = .returned (.pointer (some ⟨b, 0, none⟩)) ∧ w.heap.size ≤ b ∧ GateAt w' b t vp ∧ w'.ownsRow w.heap.size 63 4 vp t.parts.length (seens t.parts) ∧ vp.ownBlock ≠ some b ∧ Ext w w'
set_option maxRecDepth 100000 in
set_option maxHeartbeats 4000000 in
theorem w66 (t : Track) (v : Value) (w : World) (hv : SeensAt w v t.parts) (hI : PartsIn t) :
    Calls Try.prog 66 #[trackVal t v] w (OwnGate t w) := by
  have hok := hI.1
  have hg := And.intro hok.2.2.2.2.1 hok.2.2.2.2.2.1
  have HV := Lib.hid hv
  obtain ⟨q1, ao, cap, rfl, k1, k2, -⟩ := hv
  have hb1 : ∀ A, Ext w (w.alloc A) := fun A => (Ext.refl _).alloc A
  have hlen : t.parts.length ≤ 1000000 := by have := hI.2.1; omega
  go_enter Try.func66, Try.ntmps66
  go_wp2_with (go_at_call 65; (with_reducible refine (w65 t.parts _ _ (HV.out.ext (hb1 _)) hlen).mono ?_); rintro e w1 ⟨v1, rfl, ho, hE1⟩; have E1 : Ext w w1 := (hb1 _).trans hE1; have b0 : w1.heap[w.heap.size]? = some (.cells #[.int .i64 t.belt.step, .int .i64 t.belt.slip, .int .i64 t.belt.gate, .int .i64 t.belt.length, .int .i64 t.count, .int .i64 t.next, .slice ao t.parts.length cap] 47 (0, 0)) := (hE1.block w.heap.size (by simp)).trans (blk_at w _ rfl); have c0 := cell_of_at b0 0 rfl; have c1 := cell_of_at b0 1 rfl; have c2 := cell_of_at b0 2 rfl; have c3 := cell_of_at b0 3 rfl; have c4 := cell_of_at b0 4 rfl; have c5 := cell_of_at b0 5 rfl; have c6 := cell_of_at b0 6 rfl; have n6 := free_of_at b0 6; have hsl := SlAt.of_owns ho; obtain ⟨-, sa, sc, hvv, -⟩ := hsl; subst hvv; have HO := Lib.hid ho; have B0 := Lib.hid b0; clear ho b0)
  have b2 : (w1.setCell ⟨w.heap.size, 6, none⟩ (.slice sa t.parts.length sc)).heap[w.heap.size]? = some (.cells #[.int .i64 t.belt.step, .int .i64 t.belt.slip, .int .i64 t.belt.gate, .int .i64 t.belt.length, .int .i64 t.count, .int .i64 t.next, .slice sa t.parts.length sc] 47 (0, 0)) := by simp [World.setCell, Array.getElem?_modify, B0.out]
  have E2 : Ext w (w1.setCell ⟨w.heap.size, 6, none⟩ (.slice sa t.parts.length sc)) := E1.setCell (Nat.le_refl _) _
  have ho2 := own_set (bo := w.heap.size) (o := 6) (u := .slice sa t.parts.length sc) HO.out (by simp)
  clear c0 c1 c2 c3 c4 c5 c6 n6 HO B0 E1 hE1
  generalize w1.setCell ⟨w.heap.size, 6, none⟩ (.slice sa t.parts.length sc) = w2 at b2 E2 ho2 ⊢
  have HO2 := Lib.hid ho2
  have c0 := cell_of_at b2 0 rfl
  have c1 := cell_of_at b2 1 rfl
  have c2 := cell_of_at b2 2 rfl
  have c3 := cell_of_at b2 3 rfl
  have B2 := Lib.hid b2
  have z : w.heap.size < w2.heap.size := World.block_lt_of_cell? _ _ c0
  clear b2 ho2
  go_wp2
  refine wp_region_quiet_below (by kernel_rfl) (by kernel_rfl) ?_
  repeat (go_big_quiet_step ((first | (go_at_call 54; exact Calls.ext_of (w54 t.belt hok _)) | (go_at_call 55; exact Calls.ext_of (w55 t.belt hok t.belt.gate hg.1 hg.2 _)))))
  refine wpQuiet_nil ?_
  intro w3 hw'
  obtain ⟨pq, hw''⟩ := hw'
  have hE3 : Ext w2 w3 := by subst hw''; exact Ext.grow _ _ _
  have b3 := (hE3.block w.heap.size z).trans B2.out
  have E3 := E2.trans hE3
  have HO3 := Lib.hid (owns_ext HO2.out hE3)
  clear hw'' pq c0 c1 c2 c3 B2 HO2 hE3
  have c0 := cell_of_at b3 0 rfl
  have c1 := cell_of_at b3 1 rfl
  have c2 := cell_of_at b3 2 rfl
  have c3 := cell_of_at b3 3 rfl
  have c4 := cell_of_at b3 4 rfl
  have c5 := cell_of_at b3 5 rfl
  have c6 := cell_of_at b3 6 rfl
  go_wp2
  go_ret
  refine ⟨w3.heap.size, _, rfl, E3.size, blk_at _ _ rfl, owns_base (owns_ext HO3.out ((Ext.refl _).alloc _)) (by simp), ?_, E3.alloc _⟩
  intro h9
  have := (owns_block HO3.out _ h9).2
  omega
end Go.Proofs.Ytcbimfaneinpkaa
