/- Joined from the parts EndsSum, EndsDifference, EndsTimes, EndsQuotient, SpanBase. -/
import Derived.Test.YtodoimeiklilhaaDoorGSpans
set_option linter.unusedVariables false
set_option linter.unusedSimpArgs false
/- The walk of layer 1's 'ends' for sum. -/
namespace Go.Proofs.YtodoimeiklilhaaDoor
open Go.RowKit Go.Sort

set_option maxRecDepth 100000 in
set_option maxHeartbeats 4000000 in
theorem c_ends_sum (l : List (Rat × Rat)) (b : Nat) (hl : l.length ≤ 100) (hw : ∀ a ∈ l, Fits a.1 ∧ Fits a.2) (w : World) (hc : PairCells w b l) (hbw : b < w.heap.size) :
    Calls Tryd.prog 65 #[.func (.func 60) #[] #[], .slice (some ⟨b, 0, none⟩) l.length l.length] w fun e w' => e = .returned (sansV (endsR (fun p q => answer (p + q)) none l)) ∧ Ext w w' := by
  obtain ⟨r, hr⟩ : ∃ r, endsR (fun p q => answer (p + q)) none l = r := ⟨_, rfl⟩
  rw [hr]
  have HC := Lib.hid hc
  have HW := Lib.hid hw
  have HR := Lib.hid hr
  clear hc hw hr
  go_enter Tryd.func65, Tryd.ntmps65
  go_wp2
  go_loopw [13] (fun i wr => Ext w wr ∧ ∃ (k : Nat) (s : Box), k ≤ l.length ∧ i = .int .i64 k ∧ Hid (endsR (fun p q => answer (p + q)) none l = endsR (fun p q => answer (p + q)) s (l.drop k)) ∧ Hid (k = 0 ↔ s = none) ∧ Hid (BoxFits s) ∧ Hid (wr.heap[w.heap.size]? = some (.cells #[.int .i64 0, .int .i64 0, .int .i64 0, .int .i64 0] 41)) ∧ Hid (wr.heap[w.heap.size + 1]? = some (.cells (boxCells s) 41))) (fun i _ => l.length - (intOf i).toNat)
  case atStart => exact ⟨(by repeat (first | exact Ext.refl _ | assumption | refine Ext.alloc ?_ _ | refine Ext.drewN ?_ _ | refine ext_grow ?_ _ _ | refine Ext.setCell ?_ (by first | exact Nat.le_refl _ | omega | (simp; done) | (simp; omega)) _ | refine Ext.trans ?_ (by assumption))), 0, none, Nat.zero_le _, rfl, rfl, (show (0 = 0 ↔ (none : Box) = none) from by simp), (show BoxFits none from fun b h => by cases h), two_first _ _ _, two_second _ _ _⟩
  case round =>
    obtain ⟨hE, k, s, hk, rfl, hend, hks, hfit, hres, hbox⟩ := hrel
    have z0 : w.heap.size < wr.heap.size := (Array.getElem?_eq_some_iff.1 hres.out).1
    have z1 : w.heap.size + 1 < wr.heap.size := (Array.getElem?_eq_some_iff.1 hbox.out).1
    by_cases hkl : k < l.length
    · obtain ⟨g0, g1, g2, g3⟩ := HC.out k hkl
      obtain ⟨pq, hpq⟩ : ∃ pq, l.getD k (0, 0) = pq := ⟨_, rfl⟩
      have hfpq : Fits pq.1 ∧ Fits pq.2 := HW.out pq (by rw [← hpq, List.getD_eq_getElem?_getD, List.getElem?_eq_getElem hkl]; exact List.getElem_mem hkl)
      rw [hpq] at g0 g1 g2 g3
      obtain ⟨p, q⟩ := pq
      obtain ⟨hp, hq⟩ := hfpq
      simp only at g0 g1 g2 g3 hp hq
      replace g0 := hE.get g0
      replace g1 := hE.get g1
      replace g2 := hE.get g2
      replace g3 := hE.get g3
      have zb : b < wr.heap.size := Nat.lt_of_lt_of_le hbw hE.size
      have HPQ := Lib.hid hpq
      clear hpq
      obtain ⟨⟨x0, e0⟩, hfx⟩ : ∃ y, (fun p q => answer (p + q)) p q = y := ⟨_, rfl⟩
      have CD := Lib.hid (fun w => (hfx ▸ c_sum p q hp hq w : Calls Tryd.prog 60 #[ratV p, ratV q] w fun e w' => e = .returned (fansV (x0, e0)) ∧ Ext w w'))
      have hgood := (answer_good (fun p q => p + q)) p q hp hq
      simp only [hfx] at hgood
      have HFX := Lib.hid hfx
      clear hfx
      by_cases he : e0 = 0
      · obtain ⟨x, hx, hxe⟩ := hgood.1 he
        subst hxe
        subst he
        have CD := Lib.hid (show ∀ w, Calls Tryd.prog 60 #[ratV p, ratV q] w fun e w' => e = .returned (.tuple #[ratV x, .int .i64 0]) ∧ Ext w w' from CD.out)
        clear hgood
        have HEND := Lib.hid (ends_ok (f := fun p q => answer (p + q)) hkl HPQ.out hend.out (congrArg Prod.snd HFX.out) (congrArg Prod.fst HFX.out))
        have HFIT := Lib.hid (step_fits hfit.out hx)
        cases s with
        | none =>
          obtain rfl : k = 0 := hks.out.2 rfl
          obtain ⟨⟨y0, y1, y2, y3⟩, u0, u1, u2, u3⟩ := run_four (show wr.heap[w.heap.size + 1]? = some (.cells #[.int .i64 0, .int .i64 0, .int .i64 0, .int .i64 0] 41) from hbox.out)
          go_wp2_with (go_at_call 60; refine (CD.out _).mono ?_; rintro e w' ⟨rfl, hb⟩; have hc := hb.cell; have hf := hb.frozen; have hz := hb.size; (try simp at hz); have z2 : w.heap.size < w'.heap.size := (by omega); have z3 : w.heap.size + 1 < w'.heap.size := (by omega); have bB := Lib.hid (hb.blk ((blk_past _ _ (by omega)).trans hbox.out)); have bR := Lib.hid (hb.blk ((blk_past _ _ (by omega)).trans hres.out)))
          go_roundw
          case rel =>
            exact ⟨((store_four bB.out).2.2 w (by omega) (by repeat (first | exact Ext.refl _ | assumption | refine Ext.alloc ?_ _ | refine Ext.drewN ?_ _ | refine ext_grow ?_ _ _ | refine Ext.setCell ?_ (by first | exact Nat.le_refl _ | omega | (simp; done) | (simp; omega)) _ | refine Ext.trans ?_ (by assumption)))).alloc _, 1, some (x, x), by omega, by go_num, HEND.out, (show (1 = 0 ↔ (some (x, x) : Box) = none) from by simp), HFIT.out, (blk_past _ _ (by simp; omega)).trans (((store_four bB.out).2.1 _ (by omega)).trans bR.out), (blk_past _ _ (by simp; omega)).trans (store_four bB.out).1⟩
          case measure => simp [intOf]; omega
        | some lh =>
          obtain ⟨lo, hi⟩ := lh
          have hk0 : k ≠ 0 := fun e => by have := hks.out.1 e; cases this
          have t2 : ((k : Int) == 0) = false := by simp; omega
          have hlf : Fits lo := (hfit.out (lo, hi) rfl).1
          have hhf : Fits hi := (hfit.out (lo, hi) rfl).2
          have CL := Lib.hid (fun w => c_lesser lo x hlf hx w)
          have CG := Lib.hid (fun w => c_greater hi x hhf hx w)
          obtain ⟨⟨y0, y1, y2, y3⟩, u0, u1, u2, u3⟩ := run_four (show wr.heap[w.heap.size + 1]? = some (.cells #[.int .i64 (nm lo), .int .i64 (dn lo), .int .i64 (nm hi), .int .i64 (dn hi)] 41) from hbox.out)
          have HK0 := Lib.hid hk0
          clear hk0
          go_wp2_with (go_at_call 60; refine (CD.out _).mono ?_; rintro e w' ⟨rfl, hb⟩; have hc := hb.cell; have hf := hb.frozen; have hz := hb.size; (try simp at hz); have z2 : w.heap.size < w'.heap.size := (by omega); have z3 : w.heap.size + 1 < w'.heap.size := (by omega); have bB := Lib.hid (hb.blk ((blk_past _ _ (by omega)).trans hbox.out)); have bR := Lib.hid (hb.blk ((blk_past _ _ (by omega)).trans hres.out)))
          refine RT.region_last (aq := ?aqs1) (n := 9) (sp := 6) (vx := 35) (b0 := w.heap.size + 1) (oz := .cells #[.int .i64 (nm lo), .int .i64 (dn lo), .int .i64 (nm hi), .int .i64 (dn hi)] 41) (ox := .cells #[.int .i64 (nm (ratMin lo x)), .int .i64 (dn (ratMin lo x)), .int .i64 (nm (ratMax hi x)), .int .i64 (dn (ratMax hi x))] 41) (qs1 := [_, _, _, _, _, _, _, _, _]) (qs2 := []) (wb := w) (fun v => RT.Has [(w'.heap.size, 0, .int .i64 (nm x)), (w'.heap.size, 1, .int .i64 (dn x))] v ∧ v.heap[w.heap.size]? = some (.cells #[.int .i64 0, .int .i64 0, .int .i64 0, .int .i64 0] 41)) (by kernel_rfl) rfl (by kernel_rfl) (by kernel_rfl) rfl rfl (by kernel_rfl) (by kernel_rfl) rfl ?_ ?_ ?_ ?_ ?_ ?_ (by kernel_rfl) rfl ?_ ?_ ?_
          rotate_left
          · exact (blk_past _ _ (by omega)).trans bB.out
          · exact (by repeat (first | exact Ext.refl _ | assumption | refine Ext.alloc ?_ _ | refine Ext.drewN ?_ _ | refine ext_grow ?_ _ _ | refine Ext.setCell ?_ (by first | exact Nat.le_refl _ | omega | (simp; done) | (simp; omega)) _ | refine Ext.trans ?_ (by assumption)))
          · omega
          · exact ⟨⟨cell_of_at (one_first _ _) 0 rfl, cell_of_at (one_first _ _) 1 rfl, trivial⟩, (blk_past w' (.cells #[.int .i64 (nm x), .int .i64 (dn x)] 23) (by omega)).trans bR.out⟩
          · exact fun _ _ h hE => ⟨h.1.ext hE, hE.blk h.2⟩
          · exact fun _ _ h k => ⟨h.1.other (by simp; omega) k, by rw [k _ (by omega)]; exact h.2⟩
          · rintro w1 ⟨⟨o0, o1, -⟩, -⟩ hz1
            obtain ⟨⟨p0, p1, p2, p3⟩, -⟩ := run_four hz1
            have v0 := World.block_lt_of_cell? _ _ o0
            have v1 := World.block_lt_of_cell? _ _ p0
            simp only at v0 v1
            simp only [List.cons_append, List.nil_append, List.append_nil]
            repeat (go_big_quiet_step ((first | (go_at_call 68; with_reducible exact Calls.ext_of (CL.out _)) | (go_at_call 67; with_reducible exact Calls.ext_of (CG.out _)))))
            refine wpQuiet_nil ?_
            exact rfl
          · intro e w h1 h2 h3
            obtain ⟨⟨c0, c1, c2, c3⟩, f0, f1, f2, f3⟩ := run_four h3
            have h2' : e (.tmp 35) = .agg #[.int .i64 (nm (ratMin lo x)), .int .i64 (dn (ratMin lo x)), .int .i64 (nm (ratMax hi x)), .int .i64 (dn (ratMax hi x))] := h2
            apply Exists.intro
            apply And.intro
            · simp [execOp, go_sem, h1, h2', c0, c1, c2, c3, f0, f1, f2, f3]
              exact rfl
            · exact store_four h3
          · rintro w2 ⟨-, hres2⟩ hE2 hX2
            go_wp2
            go_roundw
            case rel => exact ⟨hE2, k + 1, some (ratMin lo x, ratMax hi x), by omega, by go_num, HEND.out, (show (k + 1 = 0 ↔ (some (ratMin lo x, ratMax hi x) : Box) = none) from by simp), HFIT.out, hres2, hX2⟩
            case measure => simp [intOf]; omega
      · have he' : (e0 == 0) = false := by simpa using he
        have he2 : (e0 != 0) = true := by simpa using he
        have hx0 := hgood.2 he
        subst hx0
        obtain ⟨⟨y0, y1, y2, y3⟩, u0, u1, u2, u3⟩ := run_four hres.out
        have HRES := Lib.hid (show r = (none, e0) by rw [← HR.out, ends_err (f := fun p q => answer (p + q)) hkl HPQ.out hend.out (by rw [show ((fun p q => answer (p + q)) p q).2 = e0 from congrArg Prod.snd HFX.out]; exact he)]; exact congrArg (Prod.mk none) (congrArg Prod.snd HFX.out))
        clear he hgood
        go_wp2_with (go_at_call 60; refine (CD.out _).mono ?_; rintro e w' ⟨rfl, hb⟩; have hc := hb.cell; have hf := hb.frozen; have hz := hb.size; (try simp at hz); have z2 : w.heap.size < w'.heap.size := (by omega); have z3 : w.heap.size + 1 < w'.heap.size := (by omega); have bB := Lib.hid (hb.blk ((blk_past _ _ (by omega)).trans hbox.out)); have bR := Lib.hid (hb.blk ((blk_past _ _ (by omega)).trans hres.out)))
        refine bodyPost_ret (RT.results_row2 rfl _ _ (w.heap.size) 41 _ (0, 0) _ rfl ((blk_past _ _ (by simp; omega)).trans (store_four bR.out).1) Tryd.underlying41 rfl info_span) rfl ?_
        exact ⟨by rw [HRES.out]; rfl, ((store_four bR.out).2.2 w (Nat.le_refl _) (by repeat (first | exact Ext.refl _ | assumption | refine Ext.alloc ?_ _ | refine Ext.drewN ?_ _ | refine ext_grow ?_ _ _ | refine Ext.setCell ?_ (by first | exact Nat.le_refl _ | omega | (simp; done) | (simp; omega)) _ | refine Ext.trans ?_ (by assumption)))).alloc _⟩
    · have HRES := Lib.hid (HR.out.symm.trans (ends_done hkl hend.out))
      obtain ⟨⟨y0, y1, y2, y3⟩, u0, u1, u2, u3⟩ := run_four hres.out
      cases s with
      | none =>
        obtain ⟨⟨x0, x1, x2, x3⟩, -⟩ := run_four (show wr.heap[w.heap.size + 1]? = some (.cells #[.int .i64 0, .int .i64 0, .int .i64 0, .int .i64 0] 41) from hbox.out)
        go_wp2
        refine bodyPost_ret (RT.results_row2 rfl _ _ (w.heap.size) 41 _ (0, 0) _ rfl (store_four hres.out).1 Tryd.underlying41 rfl info_span) rfl ?_
        exact ⟨by rw [HRES.out]; rfl, (store_four hres.out).2.2 w (Nat.le_refl _) hE⟩
      | some lh =>
        obtain ⟨lo, hi⟩ := lh
        obtain ⟨⟨x0, x1, x2, x3⟩, -⟩ := run_four (show wr.heap[w.heap.size + 1]? = some (.cells #[.int .i64 (nm lo), .int .i64 (dn lo), .int .i64 (nm hi), .int .i64 (dn hi)] 41) from hbox.out)
        go_wp2
        refine bodyPost_ret (RT.results_row2 rfl _ _ (w.heap.size) 41 _ (0, 0) _ rfl (store_four hres.out).1 Tryd.underlying41 rfl info_span) rfl ?_
        exact ⟨by rw [HRES.out]; rfl, (store_four hres.out).2.2 w (Nat.le_refl _) hE⟩
end Go.Proofs.YtodoimeiklilhaaDoor

/- The walk of layer 1's 'ends' for difference. -/
namespace Go.Proofs.YtodoimeiklilhaaDoor
open Go.RowKit Go.Sort

set_option maxRecDepth 100000 in
set_option maxHeartbeats 4000000 in
theorem c_ends_difference (l : List (Rat × Rat)) (b : Nat) (hl : l.length ≤ 100) (hw : ∀ a ∈ l, Fits a.1 ∧ Fits a.2) (w : World) (hc : PairCells w b l) (hbw : b < w.heap.size) :
    Calls Tryd.prog 65 #[.func (.func 57) #[] #[], .slice (some ⟨b, 0, none⟩) l.length l.length] w fun e w' => e = .returned (sansV (endsR (fun p q => answer (p - q)) none l)) ∧ Ext w w' := by
  obtain ⟨r, hr⟩ : ∃ r, endsR (fun p q => answer (p - q)) none l = r := ⟨_, rfl⟩
  rw [hr]
  have HC := Lib.hid hc
  have HW := Lib.hid hw
  have HR := Lib.hid hr
  clear hc hw hr
  go_enter Tryd.func65, Tryd.ntmps65
  go_wp2
  go_loopw [13] (fun i wr => Ext w wr ∧ ∃ (k : Nat) (s : Box), k ≤ l.length ∧ i = .int .i64 k ∧ Hid (endsR (fun p q => answer (p - q)) none l = endsR (fun p q => answer (p - q)) s (l.drop k)) ∧ Hid (k = 0 ↔ s = none) ∧ Hid (BoxFits s) ∧ Hid (wr.heap[w.heap.size]? = some (.cells #[.int .i64 0, .int .i64 0, .int .i64 0, .int .i64 0] 41)) ∧ Hid (wr.heap[w.heap.size + 1]? = some (.cells (boxCells s) 41))) (fun i _ => l.length - (intOf i).toNat)
  case atStart => exact ⟨(by repeat (first | exact Ext.refl _ | assumption | refine Ext.alloc ?_ _ | refine Ext.drewN ?_ _ | refine ext_grow ?_ _ _ | refine Ext.setCell ?_ (by first | exact Nat.le_refl _ | omega | (simp; done) | (simp; omega)) _ | refine Ext.trans ?_ (by assumption))), 0, none, Nat.zero_le _, rfl, rfl, (show (0 = 0 ↔ (none : Box) = none) from by simp), (show BoxFits none from fun b h => by cases h), two_first _ _ _, two_second _ _ _⟩
  case round =>
    obtain ⟨hE, k, s, hk, rfl, hend, hks, hfit, hres, hbox⟩ := hrel
    have z0 : w.heap.size < wr.heap.size := (Array.getElem?_eq_some_iff.1 hres.out).1
    have z1 : w.heap.size + 1 < wr.heap.size := (Array.getElem?_eq_some_iff.1 hbox.out).1
    by_cases hkl : k < l.length
    · obtain ⟨g0, g1, g2, g3⟩ := HC.out k hkl
      obtain ⟨pq, hpq⟩ : ∃ pq, l.getD k (0, 0) = pq := ⟨_, rfl⟩
      have hfpq : Fits pq.1 ∧ Fits pq.2 := HW.out pq (by rw [← hpq, List.getD_eq_getElem?_getD, List.getElem?_eq_getElem hkl]; exact List.getElem_mem hkl)
      rw [hpq] at g0 g1 g2 g3
      obtain ⟨p, q⟩ := pq
      obtain ⟨hp, hq⟩ := hfpq
      simp only at g0 g1 g2 g3 hp hq
      replace g0 := hE.get g0
      replace g1 := hE.get g1
      replace g2 := hE.get g2
      replace g3 := hE.get g3
      have zb : b < wr.heap.size := Nat.lt_of_lt_of_le hbw hE.size
      have HPQ := Lib.hid hpq
      clear hpq
      obtain ⟨⟨x0, e0⟩, hfx⟩ : ∃ y, (fun p q => answer (p - q)) p q = y := ⟨_, rfl⟩
      have CD := Lib.hid (fun w => (hfx ▸ c_difference p q hp hq w : Calls Tryd.prog 57 #[ratV p, ratV q] w fun e w' => e = .returned (fansV (x0, e0)) ∧ Ext w w'))
      have hgood := (answer_good (fun p q => p - q)) p q hp hq
      simp only [hfx] at hgood
      have HFX := Lib.hid hfx
      clear hfx
      by_cases he : e0 = 0
      · obtain ⟨x, hx, hxe⟩ := hgood.1 he
        subst hxe
        subst he
        have CD := Lib.hid (show ∀ w, Calls Tryd.prog 57 #[ratV p, ratV q] w fun e w' => e = .returned (.tuple #[ratV x, .int .i64 0]) ∧ Ext w w' from CD.out)
        clear hgood
        have HEND := Lib.hid (ends_ok (f := fun p q => answer (p - q)) hkl HPQ.out hend.out (congrArg Prod.snd HFX.out) (congrArg Prod.fst HFX.out))
        have HFIT := Lib.hid (step_fits hfit.out hx)
        cases s with
        | none =>
          obtain rfl : k = 0 := hks.out.2 rfl
          obtain ⟨⟨y0, y1, y2, y3⟩, u0, u1, u2, u3⟩ := run_four (show wr.heap[w.heap.size + 1]? = some (.cells #[.int .i64 0, .int .i64 0, .int .i64 0, .int .i64 0] 41) from hbox.out)
          go_wp2_with (go_at_call 57; refine (CD.out _).mono ?_; rintro e w' ⟨rfl, hb⟩; have hc := hb.cell; have hf := hb.frozen; have hz := hb.size; (try simp at hz); have z2 : w.heap.size < w'.heap.size := (by omega); have z3 : w.heap.size + 1 < w'.heap.size := (by omega); have bB := Lib.hid (hb.blk ((blk_past _ _ (by omega)).trans hbox.out)); have bR := Lib.hid (hb.blk ((blk_past _ _ (by omega)).trans hres.out)))
          go_roundw
          case rel =>
            exact ⟨((store_four bB.out).2.2 w (by omega) (by repeat (first | exact Ext.refl _ | assumption | refine Ext.alloc ?_ _ | refine Ext.drewN ?_ _ | refine ext_grow ?_ _ _ | refine Ext.setCell ?_ (by first | exact Nat.le_refl _ | omega | (simp; done) | (simp; omega)) _ | refine Ext.trans ?_ (by assumption)))).alloc _, 1, some (x, x), by omega, by go_num, HEND.out, (show (1 = 0 ↔ (some (x, x) : Box) = none) from by simp), HFIT.out, (blk_past _ _ (by simp; omega)).trans (((store_four bB.out).2.1 _ (by omega)).trans bR.out), (blk_past _ _ (by simp; omega)).trans (store_four bB.out).1⟩
          case measure => simp [intOf]; omega
        | some lh =>
          obtain ⟨lo, hi⟩ := lh
          have hk0 : k ≠ 0 := fun e => by have := hks.out.1 e; cases this
          have t2 : ((k : Int) == 0) = false := by simp; omega
          have hlf : Fits lo := (hfit.out (lo, hi) rfl).1
          have hhf : Fits hi := (hfit.out (lo, hi) rfl).2
          have CL := Lib.hid (fun w => c_lesser lo x hlf hx w)
          have CG := Lib.hid (fun w => c_greater hi x hhf hx w)
          obtain ⟨⟨y0, y1, y2, y3⟩, u0, u1, u2, u3⟩ := run_four (show wr.heap[w.heap.size + 1]? = some (.cells #[.int .i64 (nm lo), .int .i64 (dn lo), .int .i64 (nm hi), .int .i64 (dn hi)] 41) from hbox.out)
          have HK0 := Lib.hid hk0
          clear hk0
          go_wp2_with (go_at_call 57; refine (CD.out _).mono ?_; rintro e w' ⟨rfl, hb⟩; have hc := hb.cell; have hf := hb.frozen; have hz := hb.size; (try simp at hz); have z2 : w.heap.size < w'.heap.size := (by omega); have z3 : w.heap.size + 1 < w'.heap.size := (by omega); have bB := Lib.hid (hb.blk ((blk_past _ _ (by omega)).trans hbox.out)); have bR := Lib.hid (hb.blk ((blk_past _ _ (by omega)).trans hres.out)))
          refine RT.region_last (aq := ?aqs1) (n := 9) (sp := 6) (vx := 35) (b0 := w.heap.size + 1) (oz := .cells #[.int .i64 (nm lo), .int .i64 (dn lo), .int .i64 (nm hi), .int .i64 (dn hi)] 41) (ox := .cells #[.int .i64 (nm (ratMin lo x)), .int .i64 (dn (ratMin lo x)), .int .i64 (nm (ratMax hi x)), .int .i64 (dn (ratMax hi x))] 41) (qs1 := [_, _, _, _, _, _, _, _, _]) (qs2 := []) (wb := w) (fun v => RT.Has [(w'.heap.size, 0, .int .i64 (nm x)), (w'.heap.size, 1, .int .i64 (dn x))] v ∧ v.heap[w.heap.size]? = some (.cells #[.int .i64 0, .int .i64 0, .int .i64 0, .int .i64 0] 41)) (by kernel_rfl) rfl (by kernel_rfl) (by kernel_rfl) rfl rfl (by kernel_rfl) (by kernel_rfl) rfl ?_ ?_ ?_ ?_ ?_ ?_ (by kernel_rfl) rfl ?_ ?_ ?_
          rotate_left
          · exact (blk_past _ _ (by omega)).trans bB.out
          · exact (by repeat (first | exact Ext.refl _ | assumption | refine Ext.alloc ?_ _ | refine Ext.drewN ?_ _ | refine ext_grow ?_ _ _ | refine Ext.setCell ?_ (by first | exact Nat.le_refl _ | omega | (simp; done) | (simp; omega)) _ | refine Ext.trans ?_ (by assumption)))
          · omega
          · exact ⟨⟨cell_of_at (one_first _ _) 0 rfl, cell_of_at (one_first _ _) 1 rfl, trivial⟩, (blk_past w' (.cells #[.int .i64 (nm x), .int .i64 (dn x)] 23) (by omega)).trans bR.out⟩
          · exact fun _ _ h hE => ⟨h.1.ext hE, hE.blk h.2⟩
          · exact fun _ _ h k => ⟨h.1.other (by simp; omega) k, by rw [k _ (by omega)]; exact h.2⟩
          · rintro w1 ⟨⟨o0, o1, -⟩, -⟩ hz1
            obtain ⟨⟨p0, p1, p2, p3⟩, -⟩ := run_four hz1
            have v0 := World.block_lt_of_cell? _ _ o0
            have v1 := World.block_lt_of_cell? _ _ p0
            simp only at v0 v1
            simp only [List.cons_append, List.nil_append, List.append_nil]
            repeat (go_big_quiet_step ((first | (go_at_call 68; with_reducible exact Calls.ext_of (CL.out _)) | (go_at_call 67; with_reducible exact Calls.ext_of (CG.out _)))))
            refine wpQuiet_nil ?_
            exact rfl
          · intro e w h1 h2 h3
            obtain ⟨⟨c0, c1, c2, c3⟩, f0, f1, f2, f3⟩ := run_four h3
            have h2' : e (.tmp 35) = .agg #[.int .i64 (nm (ratMin lo x)), .int .i64 (dn (ratMin lo x)), .int .i64 (nm (ratMax hi x)), .int .i64 (dn (ratMax hi x))] := h2
            apply Exists.intro
            apply And.intro
            · simp [execOp, go_sem, h1, h2', c0, c1, c2, c3, f0, f1, f2, f3]
              exact rfl
            · exact store_four h3
          · rintro w2 ⟨-, hres2⟩ hE2 hX2
            go_wp2
            go_roundw
            case rel => exact ⟨hE2, k + 1, some (ratMin lo x, ratMax hi x), by omega, by go_num, HEND.out, (show (k + 1 = 0 ↔ (some (ratMin lo x, ratMax hi x) : Box) = none) from by simp), HFIT.out, hres2, hX2⟩
            case measure => simp [intOf]; omega
      · have he' : (e0 == 0) = false := by simpa using he
        have he2 : (e0 != 0) = true := by simpa using he
        have hx0 := hgood.2 he
        subst hx0
        obtain ⟨⟨y0, y1, y2, y3⟩, u0, u1, u2, u3⟩ := run_four hres.out
        have HRES := Lib.hid (show r = (none, e0) by rw [← HR.out, ends_err (f := fun p q => answer (p - q)) hkl HPQ.out hend.out (by rw [show ((fun p q => answer (p - q)) p q).2 = e0 from congrArg Prod.snd HFX.out]; exact he)]; exact congrArg (Prod.mk none) (congrArg Prod.snd HFX.out))
        clear he hgood
        go_wp2_with (go_at_call 57; refine (CD.out _).mono ?_; rintro e w' ⟨rfl, hb⟩; have hc := hb.cell; have hf := hb.frozen; have hz := hb.size; (try simp at hz); have z2 : w.heap.size < w'.heap.size := (by omega); have z3 : w.heap.size + 1 < w'.heap.size := (by omega); have bB := Lib.hid (hb.blk ((blk_past _ _ (by omega)).trans hbox.out)); have bR := Lib.hid (hb.blk ((blk_past _ _ (by omega)).trans hres.out)))
        refine bodyPost_ret (RT.results_row2 rfl _ _ (w.heap.size) 41 _ (0, 0) _ rfl ((blk_past _ _ (by simp; omega)).trans (store_four bR.out).1) Tryd.underlying41 rfl info_span) rfl ?_
        exact ⟨by rw [HRES.out]; rfl, ((store_four bR.out).2.2 w (Nat.le_refl _) (by repeat (first | exact Ext.refl _ | assumption | refine Ext.alloc ?_ _ | refine Ext.drewN ?_ _ | refine ext_grow ?_ _ _ | refine Ext.setCell ?_ (by first | exact Nat.le_refl _ | omega | (simp; done) | (simp; omega)) _ | refine Ext.trans ?_ (by assumption)))).alloc _⟩
    · have HRES := Lib.hid (HR.out.symm.trans (ends_done hkl hend.out))
      obtain ⟨⟨y0, y1, y2, y3⟩, u0, u1, u2, u3⟩ := run_four hres.out
      cases s with
      | none =>
        obtain ⟨⟨x0, x1, x2, x3⟩, -⟩ := run_four (show wr.heap[w.heap.size + 1]? = some (.cells #[.int .i64 0, .int .i64 0, .int .i64 0, .int .i64 0] 41) from hbox.out)
        go_wp2
        refine bodyPost_ret (RT.results_row2 rfl _ _ (w.heap.size) 41 _ (0, 0) _ rfl (store_four hres.out).1 Tryd.underlying41 rfl info_span) rfl ?_
        exact ⟨by rw [HRES.out]; rfl, (store_four hres.out).2.2 w (Nat.le_refl _) hE⟩
      | some lh =>
        obtain ⟨lo, hi⟩ := lh
        obtain ⟨⟨x0, x1, x2, x3⟩, -⟩ := run_four (show wr.heap[w.heap.size + 1]? = some (.cells #[.int .i64 (nm lo), .int .i64 (dn lo), .int .i64 (nm hi), .int .i64 (dn hi)] 41) from hbox.out)
        go_wp2
        refine bodyPost_ret (RT.results_row2 rfl _ _ (w.heap.size) 41 _ (0, 0) _ rfl (store_four hres.out).1 Tryd.underlying41 rfl info_span) rfl ?_
        exact ⟨by rw [HRES.out]; rfl, (store_four hres.out).2.2 w (Nat.le_refl _) hE⟩
end Go.Proofs.YtodoimeiklilhaaDoor

/- The walk of layer 1's 'ends' for times. -/
namespace Go.Proofs.YtodoimeiklilhaaDoor
open Go.RowKit Go.Sort

set_option maxRecDepth 100000 in
set_option maxHeartbeats 4000000 in
theorem c_ends_times (l : List (Rat × Rat)) (b : Nat) (hl : l.length ≤ 100) (hw : ∀ a ∈ l, Fits a.1 ∧ Fits a.2) (w : World) (hc : PairCells w b l) (hbw : b < w.heap.size) :
    Calls Tryd.prog 65 #[.func (.func 58) #[] #[], .slice (some ⟨b, 0, none⟩) l.length l.length] w fun e w' => e = .returned (sansV (endsR (fun p q => answer (p * q)) none l)) ∧ Ext w w' := by
  obtain ⟨r, hr⟩ : ∃ r, endsR (fun p q => answer (p * q)) none l = r := ⟨_, rfl⟩
  rw [hr]
  have HC := Lib.hid hc
  have HW := Lib.hid hw
  have HR := Lib.hid hr
  clear hc hw hr
  go_enter Tryd.func65, Tryd.ntmps65
  go_wp2
  go_loopw [13] (fun i wr => Ext w wr ∧ ∃ (k : Nat) (s : Box), k ≤ l.length ∧ i = .int .i64 k ∧ Hid (endsR (fun p q => answer (p * q)) none l = endsR (fun p q => answer (p * q)) s (l.drop k)) ∧ Hid (k = 0 ↔ s = none) ∧ Hid (BoxFits s) ∧ Hid (wr.heap[w.heap.size]? = some (.cells #[.int .i64 0, .int .i64 0, .int .i64 0, .int .i64 0] 41)) ∧ Hid (wr.heap[w.heap.size + 1]? = some (.cells (boxCells s) 41))) (fun i _ => l.length - (intOf i).toNat)
  case atStart => exact ⟨(by repeat (first | exact Ext.refl _ | assumption | refine Ext.alloc ?_ _ | refine Ext.drewN ?_ _ | refine ext_grow ?_ _ _ | refine Ext.setCell ?_ (by first | exact Nat.le_refl _ | omega | (simp; done) | (simp; omega)) _ | refine Ext.trans ?_ (by assumption))), 0, none, Nat.zero_le _, rfl, rfl, (show (0 = 0 ↔ (none : Box) = none) from by simp), (show BoxFits none from fun b h => by cases h), two_first _ _ _, two_second _ _ _⟩
  case round =>
    obtain ⟨hE, k, s, hk, rfl, hend, hks, hfit, hres, hbox⟩ := hrel
    have z0 : w.heap.size < wr.heap.size := (Array.getElem?_eq_some_iff.1 hres.out).1
    have z1 : w.heap.size + 1 < wr.heap.size := (Array.getElem?_eq_some_iff.1 hbox.out).1
    by_cases hkl : k < l.length
    · obtain ⟨g0, g1, g2, g3⟩ := HC.out k hkl
      obtain ⟨pq, hpq⟩ : ∃ pq, l.getD k (0, 0) = pq := ⟨_, rfl⟩
      have hfpq : Fits pq.1 ∧ Fits pq.2 := HW.out pq (by rw [← hpq, List.getD_eq_getElem?_getD, List.getElem?_eq_getElem hkl]; exact List.getElem_mem hkl)
      rw [hpq] at g0 g1 g2 g3
      obtain ⟨p, q⟩ := pq
      obtain ⟨hp, hq⟩ := hfpq
      simp only at g0 g1 g2 g3 hp hq
      replace g0 := hE.get g0
      replace g1 := hE.get g1
      replace g2 := hE.get g2
      replace g3 := hE.get g3
      have zb : b < wr.heap.size := Nat.lt_of_lt_of_le hbw hE.size
      have HPQ := Lib.hid hpq
      clear hpq
      obtain ⟨⟨x0, e0⟩, hfx⟩ : ∃ y, (fun p q => answer (p * q)) p q = y := ⟨_, rfl⟩
      have CD := Lib.hid (fun w => (hfx ▸ c_times p q hp hq w : Calls Tryd.prog 58 #[ratV p, ratV q] w fun e w' => e = .returned (fansV (x0, e0)) ∧ Ext w w'))
      have hgood := (answer_good (fun p q => p * q)) p q hp hq
      simp only [hfx] at hgood
      have HFX := Lib.hid hfx
      clear hfx
      by_cases he : e0 = 0
      · obtain ⟨x, hx, hxe⟩ := hgood.1 he
        subst hxe
        subst he
        have CD := Lib.hid (show ∀ w, Calls Tryd.prog 58 #[ratV p, ratV q] w fun e w' => e = .returned (.tuple #[ratV x, .int .i64 0]) ∧ Ext w w' from CD.out)
        clear hgood
        have HEND := Lib.hid (ends_ok (f := fun p q => answer (p * q)) hkl HPQ.out hend.out (congrArg Prod.snd HFX.out) (congrArg Prod.fst HFX.out))
        have HFIT := Lib.hid (step_fits hfit.out hx)
        cases s with
        | none =>
          obtain rfl : k = 0 := hks.out.2 rfl
          obtain ⟨⟨y0, y1, y2, y3⟩, u0, u1, u2, u3⟩ := run_four (show wr.heap[w.heap.size + 1]? = some (.cells #[.int .i64 0, .int .i64 0, .int .i64 0, .int .i64 0] 41) from hbox.out)
          go_wp2_with (go_at_call 58; refine (CD.out _).mono ?_; rintro e w' ⟨rfl, hb⟩; have hc := hb.cell; have hf := hb.frozen; have hz := hb.size; (try simp at hz); have z2 : w.heap.size < w'.heap.size := (by omega); have z3 : w.heap.size + 1 < w'.heap.size := (by omega); have bB := Lib.hid (hb.blk ((blk_past _ _ (by omega)).trans hbox.out)); have bR := Lib.hid (hb.blk ((blk_past _ _ (by omega)).trans hres.out)))
          go_roundw
          case rel =>
            exact ⟨((store_four bB.out).2.2 w (by omega) (by repeat (first | exact Ext.refl _ | assumption | refine Ext.alloc ?_ _ | refine Ext.drewN ?_ _ | refine ext_grow ?_ _ _ | refine Ext.setCell ?_ (by first | exact Nat.le_refl _ | omega | (simp; done) | (simp; omega)) _ | refine Ext.trans ?_ (by assumption)))).alloc _, 1, some (x, x), by omega, by go_num, HEND.out, (show (1 = 0 ↔ (some (x, x) : Box) = none) from by simp), HFIT.out, (blk_past _ _ (by simp; omega)).trans (((store_four bB.out).2.1 _ (by omega)).trans bR.out), (blk_past _ _ (by simp; omega)).trans (store_four bB.out).1⟩
          case measure => simp [intOf]; omega
        | some lh =>
          obtain ⟨lo, hi⟩ := lh
          have hk0 : k ≠ 0 := fun e => by have := hks.out.1 e; cases this
          have t2 : ((k : Int) == 0) = false := by simp; omega
          have hlf : Fits lo := (hfit.out (lo, hi) rfl).1
          have hhf : Fits hi := (hfit.out (lo, hi) rfl).2
          have CL := Lib.hid (fun w => c_lesser lo x hlf hx w)
          have CG := Lib.hid (fun w => c_greater hi x hhf hx w)
          obtain ⟨⟨y0, y1, y2, y3⟩, u0, u1, u2, u3⟩ := run_four (show wr.heap[w.heap.size + 1]? = some (.cells #[.int .i64 (nm lo), .int .i64 (dn lo), .int .i64 (nm hi), .int .i64 (dn hi)] 41) from hbox.out)
          have HK0 := Lib.hid hk0
          clear hk0
          go_wp2_with (go_at_call 58; refine (CD.out _).mono ?_; rintro e w' ⟨rfl, hb⟩; have hc := hb.cell; have hf := hb.frozen; have hz := hb.size; (try simp at hz); have z2 : w.heap.size < w'.heap.size := (by omega); have z3 : w.heap.size + 1 < w'.heap.size := (by omega); have bB := Lib.hid (hb.blk ((blk_past _ _ (by omega)).trans hbox.out)); have bR := Lib.hid (hb.blk ((blk_past _ _ (by omega)).trans hres.out)))
          refine RT.region_last (aq := ?aqs1) (n := 9) (sp := 6) (vx := 35) (b0 := w.heap.size + 1) (oz := .cells #[.int .i64 (nm lo), .int .i64 (dn lo), .int .i64 (nm hi), .int .i64 (dn hi)] 41) (ox := .cells #[.int .i64 (nm (ratMin lo x)), .int .i64 (dn (ratMin lo x)), .int .i64 (nm (ratMax hi x)), .int .i64 (dn (ratMax hi x))] 41) (qs1 := [_, _, _, _, _, _, _, _, _]) (qs2 := []) (wb := w) (fun v => RT.Has [(w'.heap.size, 0, .int .i64 (nm x)), (w'.heap.size, 1, .int .i64 (dn x))] v ∧ v.heap[w.heap.size]? = some (.cells #[.int .i64 0, .int .i64 0, .int .i64 0, .int .i64 0] 41)) (by kernel_rfl) rfl (by kernel_rfl) (by kernel_rfl) rfl rfl (by kernel_rfl) (by kernel_rfl) rfl ?_ ?_ ?_ ?_ ?_ ?_ (by kernel_rfl) rfl ?_ ?_ ?_
          rotate_left
          · exact (blk_past _ _ (by omega)).trans bB.out
          · exact (by repeat (first | exact Ext.refl _ | assumption | refine Ext.alloc ?_ _ | refine Ext.drewN ?_ _ | refine ext_grow ?_ _ _ | refine Ext.setCell ?_ (by first | exact Nat.le_refl _ | omega | (simp; done) | (simp; omega)) _ | refine Ext.trans ?_ (by assumption)))
          · omega
          · exact ⟨⟨cell_of_at (one_first _ _) 0 rfl, cell_of_at (one_first _ _) 1 rfl, trivial⟩, (blk_past w' (.cells #[.int .i64 (nm x), .int .i64 (dn x)] 23) (by omega)).trans bR.out⟩
          · exact fun _ _ h hE => ⟨h.1.ext hE, hE.blk h.2⟩
          · exact fun _ _ h k => ⟨h.1.other (by simp; omega) k, by rw [k _ (by omega)]; exact h.2⟩
          · rintro w1 ⟨⟨o0, o1, -⟩, -⟩ hz1
            obtain ⟨⟨p0, p1, p2, p3⟩, -⟩ := run_four hz1
            have v0 := World.block_lt_of_cell? _ _ o0
            have v1 := World.block_lt_of_cell? _ _ p0
            simp only at v0 v1
            simp only [List.cons_append, List.nil_append, List.append_nil]
            repeat (go_big_quiet_step ((first | (go_at_call 68; with_reducible exact Calls.ext_of (CL.out _)) | (go_at_call 67; with_reducible exact Calls.ext_of (CG.out _)))))
            refine wpQuiet_nil ?_
            exact rfl
          · intro e w h1 h2 h3
            obtain ⟨⟨c0, c1, c2, c3⟩, f0, f1, f2, f3⟩ := run_four h3
            have h2' : e (.tmp 35) = .agg #[.int .i64 (nm (ratMin lo x)), .int .i64 (dn (ratMin lo x)), .int .i64 (nm (ratMax hi x)), .int .i64 (dn (ratMax hi x))] := h2
            apply Exists.intro
            apply And.intro
            · simp [execOp, go_sem, h1, h2', c0, c1, c2, c3, f0, f1, f2, f3]
              exact rfl
            · exact store_four h3
          · rintro w2 ⟨-, hres2⟩ hE2 hX2
            go_wp2
            go_roundw
            case rel => exact ⟨hE2, k + 1, some (ratMin lo x, ratMax hi x), by omega, by go_num, HEND.out, (show (k + 1 = 0 ↔ (some (ratMin lo x, ratMax hi x) : Box) = none) from by simp), HFIT.out, hres2, hX2⟩
            case measure => simp [intOf]; omega
      · have he' : (e0 == 0) = false := by simpa using he
        have he2 : (e0 != 0) = true := by simpa using he
        have hx0 := hgood.2 he
        subst hx0
        obtain ⟨⟨y0, y1, y2, y3⟩, u0, u1, u2, u3⟩ := run_four hres.out
        have HRES := Lib.hid (show r = (none, e0) by rw [← HR.out, ends_err (f := fun p q => answer (p * q)) hkl HPQ.out hend.out (by rw [show ((fun p q => answer (p * q)) p q).2 = e0 from congrArg Prod.snd HFX.out]; exact he)]; exact congrArg (Prod.mk none) (congrArg Prod.snd HFX.out))
        clear he hgood
        go_wp2_with (go_at_call 58; refine (CD.out _).mono ?_; rintro e w' ⟨rfl, hb⟩; have hc := hb.cell; have hf := hb.frozen; have hz := hb.size; (try simp at hz); have z2 : w.heap.size < w'.heap.size := (by omega); have z3 : w.heap.size + 1 < w'.heap.size := (by omega); have bB := Lib.hid (hb.blk ((blk_past _ _ (by omega)).trans hbox.out)); have bR := Lib.hid (hb.blk ((blk_past _ _ (by omega)).trans hres.out)))
        refine bodyPost_ret (RT.results_row2 rfl _ _ (w.heap.size) 41 _ (0, 0) _ rfl ((blk_past _ _ (by simp; omega)).trans (store_four bR.out).1) Tryd.underlying41 rfl info_span) rfl ?_
        exact ⟨by rw [HRES.out]; rfl, ((store_four bR.out).2.2 w (Nat.le_refl _) (by repeat (first | exact Ext.refl _ | assumption | refine Ext.alloc ?_ _ | refine Ext.drewN ?_ _ | refine ext_grow ?_ _ _ | refine Ext.setCell ?_ (by first | exact Nat.le_refl _ | omega | (simp; done) | (simp; omega)) _ | refine Ext.trans ?_ (by assumption)))).alloc _⟩
    · have HRES := Lib.hid (HR.out.symm.trans (ends_done hkl hend.out))
      obtain ⟨⟨y0, y1, y2, y3⟩, u0, u1, u2, u3⟩ := run_four hres.out
      cases s with
      | none =>
        obtain ⟨⟨x0, x1, x2, x3⟩, -⟩ := run_four (show wr.heap[w.heap.size + 1]? = some (.cells #[.int .i64 0, .int .i64 0, .int .i64 0, .int .i64 0] 41) from hbox.out)
        go_wp2
        refine bodyPost_ret (RT.results_row2 rfl _ _ (w.heap.size) 41 _ (0, 0) _ rfl (store_four hres.out).1 Tryd.underlying41 rfl info_span) rfl ?_
        exact ⟨by rw [HRES.out]; rfl, (store_four hres.out).2.2 w (Nat.le_refl _) hE⟩
      | some lh =>
        obtain ⟨lo, hi⟩ := lh
        obtain ⟨⟨x0, x1, x2, x3⟩, -⟩ := run_four (show wr.heap[w.heap.size + 1]? = some (.cells #[.int .i64 (nm lo), .int .i64 (dn lo), .int .i64 (nm hi), .int .i64 (dn hi)] 41) from hbox.out)
        go_wp2
        refine bodyPost_ret (RT.results_row2 rfl _ _ (w.heap.size) 41 _ (0, 0) _ rfl (store_four hres.out).1 Tryd.underlying41 rfl info_span) rfl ?_
        exact ⟨by rw [HRES.out]; rfl, (store_four hres.out).2.2 w (Nat.le_refl _) hE⟩
end Go.Proofs.YtodoimeiklilhaaDoor

/- The walk of layer 1's 'ends' for quotient. -/
namespace Go.Proofs.YtodoimeiklilhaaDoor
open Go.RowKit Go.Sort

set_option maxRecDepth 100000 in
set_option maxHeartbeats 4000000 in
theorem c_ends_quotient (l : List (Rat × Rat)) (b : Nat) (hl : l.length ≤ 100) (hw : ∀ a ∈ l, Fits a.1 ∧ Fits a.2) (w : World) (hc : PairCells w b l) (hbw : b < w.heap.size) :
    Calls Tryd.prog 65 #[.func (.func 59) #[] #[], .slice (some ⟨b, 0, none⟩) l.length l.length] w fun e w' => e = .returned (sansV (endsR (quotR) none l)) ∧ Ext w w' := by
  obtain ⟨r, hr⟩ : ∃ r, endsR (quotR) none l = r := ⟨_, rfl⟩
  rw [hr]
  have HC := Lib.hid hc
  have HW := Lib.hid hw
  have HR := Lib.hid hr
  clear hc hw hr
  go_enter Tryd.func65, Tryd.ntmps65
  go_wp2
  go_loopw [13] (fun i wr => Ext w wr ∧ ∃ (k : Nat) (s : Box), k ≤ l.length ∧ i = .int .i64 k ∧ Hid (endsR (quotR) none l = endsR (quotR) s (l.drop k)) ∧ Hid (k = 0 ↔ s = none) ∧ Hid (BoxFits s) ∧ Hid (wr.heap[w.heap.size]? = some (.cells #[.int .i64 0, .int .i64 0, .int .i64 0, .int .i64 0] 41)) ∧ Hid (wr.heap[w.heap.size + 1]? = some (.cells (boxCells s) 41))) (fun i _ => l.length - (intOf i).toNat)
  case atStart => exact ⟨(by repeat (first | exact Ext.refl _ | assumption | refine Ext.alloc ?_ _ | refine Ext.drewN ?_ _ | refine ext_grow ?_ _ _ | refine Ext.setCell ?_ (by first | exact Nat.le_refl _ | omega | (simp; done) | (simp; omega)) _ | refine Ext.trans ?_ (by assumption))), 0, none, Nat.zero_le _, rfl, rfl, (show (0 = 0 ↔ (none : Box) = none) from by simp), (show BoxFits none from fun b h => by cases h), two_first _ _ _, two_second _ _ _⟩
  case round =>
    obtain ⟨hE, k, s, hk, rfl, hend, hks, hfit, hres, hbox⟩ := hrel
    have z0 : w.heap.size < wr.heap.size := (Array.getElem?_eq_some_iff.1 hres.out).1
    have z1 : w.heap.size + 1 < wr.heap.size := (Array.getElem?_eq_some_iff.1 hbox.out).1
    by_cases hkl : k < l.length
    · obtain ⟨g0, g1, g2, g3⟩ := HC.out k hkl
      obtain ⟨pq, hpq⟩ : ∃ pq, l.getD k (0, 0) = pq := ⟨_, rfl⟩
      have hfpq : Fits pq.1 ∧ Fits pq.2 := HW.out pq (by rw [← hpq, List.getD_eq_getElem?_getD, List.getElem?_eq_getElem hkl]; exact List.getElem_mem hkl)
      rw [hpq] at g0 g1 g2 g3
      obtain ⟨p, q⟩ := pq
      obtain ⟨hp, hq⟩ := hfpq
      simp only at g0 g1 g2 g3 hp hq
      replace g0 := hE.get g0
      replace g1 := hE.get g1
      replace g2 := hE.get g2
      replace g3 := hE.get g3
      have zb : b < wr.heap.size := Nat.lt_of_lt_of_le hbw hE.size
      have HPQ := Lib.hid hpq
      clear hpq
      obtain ⟨⟨x0, e0⟩, hfx⟩ : ∃ y, (quotR) p q = y := ⟨_, rfl⟩
      have CD := Lib.hid (fun w => (hfx ▸ c_quotient p q hp hq w : Calls Tryd.prog 59 #[ratV p, ratV q] w fun e w' => e = .returned (fansV (x0, e0)) ∧ Ext w w'))
      have hgood := (quotR_good) p q hp hq
      simp only [hfx] at hgood
      have HFX := Lib.hid hfx
      clear hfx
      by_cases he : e0 = 0
      · obtain ⟨x, hx, hxe⟩ := hgood.1 he
        subst hxe
        subst he
        have CD := Lib.hid (show ∀ w, Calls Tryd.prog 59 #[ratV p, ratV q] w fun e w' => e = .returned (.tuple #[ratV x, .int .i64 0]) ∧ Ext w w' from CD.out)
        clear hgood
        have HEND := Lib.hid (ends_ok (f := quotR) hkl HPQ.out hend.out (congrArg Prod.snd HFX.out) (congrArg Prod.fst HFX.out))
        have HFIT := Lib.hid (step_fits hfit.out hx)
        cases s with
        | none =>
          obtain rfl : k = 0 := hks.out.2 rfl
          obtain ⟨⟨y0, y1, y2, y3⟩, u0, u1, u2, u3⟩ := run_four (show wr.heap[w.heap.size + 1]? = some (.cells #[.int .i64 0, .int .i64 0, .int .i64 0, .int .i64 0] 41) from hbox.out)
          go_wp2_with (go_at_call 59; refine (CD.out _).mono ?_; rintro e w' ⟨rfl, hb⟩; have hc := hb.cell; have hf := hb.frozen; have hz := hb.size; (try simp at hz); have z2 : w.heap.size < w'.heap.size := (by omega); have z3 : w.heap.size + 1 < w'.heap.size := (by omega); have bB := Lib.hid (hb.blk ((blk_past _ _ (by omega)).trans hbox.out)); have bR := Lib.hid (hb.blk ((blk_past _ _ (by omega)).trans hres.out)))
          go_roundw
          case rel =>
            exact ⟨((store_four bB.out).2.2 w (by omega) (by repeat (first | exact Ext.refl _ | assumption | refine Ext.alloc ?_ _ | refine Ext.drewN ?_ _ | refine ext_grow ?_ _ _ | refine Ext.setCell ?_ (by first | exact Nat.le_refl _ | omega | (simp; done) | (simp; omega)) _ | refine Ext.trans ?_ (by assumption)))).alloc _, 1, some (x, x), by omega, by go_num, HEND.out, (show (1 = 0 ↔ (some (x, x) : Box) = none) from by simp), HFIT.out, (blk_past _ _ (by simp; omega)).trans (((store_four bB.out).2.1 _ (by omega)).trans bR.out), (blk_past _ _ (by simp; omega)).trans (store_four bB.out).1⟩
          case measure => simp [intOf]; omega
        | some lh =>
          obtain ⟨lo, hi⟩ := lh
          have hk0 : k ≠ 0 := fun e => by have := hks.out.1 e; cases this
          have t2 : ((k : Int) == 0) = false := by simp; omega
          have hlf : Fits lo := (hfit.out (lo, hi) rfl).1
          have hhf : Fits hi := (hfit.out (lo, hi) rfl).2
          have CL := Lib.hid (fun w => c_lesser lo x hlf hx w)
          have CG := Lib.hid (fun w => c_greater hi x hhf hx w)
          obtain ⟨⟨y0, y1, y2, y3⟩, u0, u1, u2, u3⟩ := run_four (show wr.heap[w.heap.size + 1]? = some (.cells #[.int .i64 (nm lo), .int .i64 (dn lo), .int .i64 (nm hi), .int .i64 (dn hi)] 41) from hbox.out)
          have HK0 := Lib.hid hk0
          clear hk0
          go_wp2_with (go_at_call 59; refine (CD.out _).mono ?_; rintro e w' ⟨rfl, hb⟩; have hc := hb.cell; have hf := hb.frozen; have hz := hb.size; (try simp at hz); have z2 : w.heap.size < w'.heap.size := (by omega); have z3 : w.heap.size + 1 < w'.heap.size := (by omega); have bB := Lib.hid (hb.blk ((blk_past _ _ (by omega)).trans hbox.out)); have bR := Lib.hid (hb.blk ((blk_past _ _ (by omega)).trans hres.out)))
          refine RT.region_last (aq := ?aqs1) (n := 9) (sp := 6) (vx := 35) (b0 := w.heap.size + 1) (oz := .cells #[.int .i64 (nm lo), .int .i64 (dn lo), .int .i64 (nm hi), .int .i64 (dn hi)] 41) (ox := .cells #[.int .i64 (nm (ratMin lo x)), .int .i64 (dn (ratMin lo x)), .int .i64 (nm (ratMax hi x)), .int .i64 (dn (ratMax hi x))] 41) (qs1 := [_, _, _, _, _, _, _, _, _]) (qs2 := []) (wb := w) (fun v => RT.Has [(w'.heap.size, 0, .int .i64 (nm x)), (w'.heap.size, 1, .int .i64 (dn x))] v ∧ v.heap[w.heap.size]? = some (.cells #[.int .i64 0, .int .i64 0, .int .i64 0, .int .i64 0] 41)) (by kernel_rfl) rfl (by kernel_rfl) (by kernel_rfl) rfl rfl (by kernel_rfl) (by kernel_rfl) rfl ?_ ?_ ?_ ?_ ?_ ?_ (by kernel_rfl) rfl ?_ ?_ ?_
          rotate_left
          · exact (blk_past _ _ (by omega)).trans bB.out
          · exact (by repeat (first | exact Ext.refl _ | assumption | refine Ext.alloc ?_ _ | refine Ext.drewN ?_ _ | refine ext_grow ?_ _ _ | refine Ext.setCell ?_ (by first | exact Nat.le_refl _ | omega | (simp; done) | (simp; omega)) _ | refine Ext.trans ?_ (by assumption)))
          · omega
          · exact ⟨⟨cell_of_at (one_first _ _) 0 rfl, cell_of_at (one_first _ _) 1 rfl, trivial⟩, (blk_past w' (.cells #[.int .i64 (nm x), .int .i64 (dn x)] 23) (by omega)).trans bR.out⟩
          · exact fun _ _ h hE => ⟨h.1.ext hE, hE.blk h.2⟩
          · exact fun _ _ h k => ⟨h.1.other (by simp; omega) k, by rw [k _ (by omega)]; exact h.2⟩
          · rintro w1 ⟨⟨o0, o1, -⟩, -⟩ hz1
            obtain ⟨⟨p0, p1, p2, p3⟩, -⟩ := run_four hz1
            have v0 := World.block_lt_of_cell? _ _ o0
            have v1 := World.block_lt_of_cell? _ _ p0
            simp only at v0 v1
            simp only [List.cons_append, List.nil_append, List.append_nil]
            repeat (go_big_quiet_step ((first | (go_at_call 68; with_reducible exact Calls.ext_of (CL.out _)) | (go_at_call 67; with_reducible exact Calls.ext_of (CG.out _)))))
            refine wpQuiet_nil ?_
            exact rfl
          · intro e w h1 h2 h3
            obtain ⟨⟨c0, c1, c2, c3⟩, f0, f1, f2, f3⟩ := run_four h3
            have h2' : e (.tmp 35) = .agg #[.int .i64 (nm (ratMin lo x)), .int .i64 (dn (ratMin lo x)), .int .i64 (nm (ratMax hi x)), .int .i64 (dn (ratMax hi x))] := h2
            apply Exists.intro
            apply And.intro
            · simp [execOp, go_sem, h1, h2', c0, c1, c2, c3, f0, f1, f2, f3]
              exact rfl
            · exact store_four h3
          · rintro w2 ⟨-, hres2⟩ hE2 hX2
            go_wp2
            go_roundw
            case rel => exact ⟨hE2, k + 1, some (ratMin lo x, ratMax hi x), by omega, by go_num, HEND.out, (show (k + 1 = 0 ↔ (some (ratMin lo x, ratMax hi x) : Box) = none) from by simp), HFIT.out, hres2, hX2⟩
            case measure => simp [intOf]; omega
      · have he' : (e0 == 0) = false := by simpa using he
        have he2 : (e0 != 0) = true := by simpa using he
        have hx0 := hgood.2 he
        subst hx0
        obtain ⟨⟨y0, y1, y2, y3⟩, u0, u1, u2, u3⟩ := run_four hres.out
        have HRES := Lib.hid (show r = (none, e0) by rw [← HR.out, ends_err (f := quotR) hkl HPQ.out hend.out (by rw [show ((quotR) p q).2 = e0 from congrArg Prod.snd HFX.out]; exact he)]; exact congrArg (Prod.mk none) (congrArg Prod.snd HFX.out))
        clear he hgood
        go_wp2_with (go_at_call 59; refine (CD.out _).mono ?_; rintro e w' ⟨rfl, hb⟩; have hc := hb.cell; have hf := hb.frozen; have hz := hb.size; (try simp at hz); have z2 : w.heap.size < w'.heap.size := (by omega); have z3 : w.heap.size + 1 < w'.heap.size := (by omega); have bB := Lib.hid (hb.blk ((blk_past _ _ (by omega)).trans hbox.out)); have bR := Lib.hid (hb.blk ((blk_past _ _ (by omega)).trans hres.out)))
        refine bodyPost_ret (RT.results_row2 rfl _ _ (w.heap.size) 41 _ (0, 0) _ rfl ((blk_past _ _ (by simp; omega)).trans (store_four bR.out).1) Tryd.underlying41 rfl info_span) rfl ?_
        exact ⟨by rw [HRES.out]; rfl, ((store_four bR.out).2.2 w (Nat.le_refl _) (by repeat (first | exact Ext.refl _ | assumption | refine Ext.alloc ?_ _ | refine Ext.drewN ?_ _ | refine ext_grow ?_ _ _ | refine Ext.setCell ?_ (by first | exact Nat.le_refl _ | omega | (simp; done) | (simp; omega)) _ | refine Ext.trans ?_ (by assumption)))).alloc _⟩
    · have HRES := Lib.hid (HR.out.symm.trans (ends_done hkl hend.out))
      obtain ⟨⟨y0, y1, y2, y3⟩, u0, u1, u2, u3⟩ := run_four hres.out
      cases s with
      | none =>
        obtain ⟨⟨x0, x1, x2, x3⟩, -⟩ := run_four (show wr.heap[w.heap.size + 1]? = some (.cells #[.int .i64 0, .int .i64 0, .int .i64 0, .int .i64 0] 41) from hbox.out)
        go_wp2
        refine bodyPost_ret (RT.results_row2 rfl _ _ (w.heap.size) 41 _ (0, 0) _ rfl (store_four hres.out).1 Tryd.underlying41 rfl info_span) rfl ?_
        exact ⟨by rw [HRES.out]; rfl, (store_four hres.out).2.2 w (Nat.le_refl _) hE⟩
      | some lh =>
        obtain ⟨lo, hi⟩ := lh
        obtain ⟨⟨x0, x1, x2, x3⟩, -⟩ := run_four (show wr.heap[w.heap.size + 1]? = some (.cells #[.int .i64 (nm lo), .int .i64 (dn lo), .int .i64 (nm hi), .int .i64 (dn hi)] 41) from hbox.out)
        go_wp2
        refine bodyPost_ret (RT.results_row2 rfl _ _ (w.heap.size) 41 _ (0, 0) _ rfl (store_four hres.out).1 Tryd.underlying41 rfl info_span) rfl ?_
        exact ⟨by rw [HRES.out]; rfl, (store_four hres.out).2.2 w (Nat.le_refl _) hE⟩
end Go.Proofs.YtodoimeiklilhaaDoor

/- The walks of layer 1's all; what 'ends' answers for two and for four pairs. -/
namespace Go.Proofs.YtodoimeiklilhaaDoor
open Go.RowKit Go.Sort

@[go_sem] theorem boxCells_none : boxCells none = #[.int .i64 0, .int .i64 0, .int .i64 0, .int .i64 0] := rfl
@[go_sem] theorem boxCells_some (lo hi : Rat) : boxCells (some (lo, hi)) = #[.int .i64 (nm lo), .int .i64 (dn lo), .int .i64 (nm hi), .int .i64 (dn hi)] := rfl
def spanR (f : Rat → Rat → Frac × Int) (pairs : Rat → Rat → Rat → Rat → List (Rat × Rat)) (a b : Span) : Box × Int := if a.ok ∧ b.ok then endsR f none (pairs a.lo.val a.hi.val b.lo.val b.hi.val) else (none, 8)
def pairsAdd (al ah bl bh : Rat) : List (Rat × Rat) := [(al, bl), (ah, bh)]
def pairsSub (al ah bl bh : Rat) : List (Rat × Rat) := [(al, bh), (ah, bl)]
def pairsAll (al ah bl bh : Rat) : List (Rat × Rat) := [(al, bl), (al, bh), (ah, bl), (ah, bh)]
def mkSpan (lo hi : Rat) : Span := ⟨fracOf lo, fracOf hi⟩
theorem Span.of_ok {a : Span} (h : a.ok) : ∃ lo hi : Rat, Fits lo ∧ Fits hi ∧ lo ≤ hi ∧ a = mkSpan lo hi := by
  obtain ⟨l, hl, el⟩ := Frac.of_ok h.1
  obtain ⟨k, hk, ek⟩ := Frac.of_ok h.2.1
  obtain ⟨x, y⟩ := a
  simp only at el ek
  subst el ek
  have := h.2.2
  simp only [fracOf_val] at this
  exact ⟨l, k, hl, hk, this, rfl⟩
theorem mkSpan_ok {lo hi : Rat} (hl : Fits lo) (hh : Fits hi) (h : lo ≤ hi) : (mkSpan lo hi).ok := ⟨fracOf_ok hl, fracOf_ok hh, by show (fracOf lo).val ≤ (fracOf hi).val; rw [fracOf_val, fracOf_val]; exact h⟩
theorem mkSpan_wide {lo hi : Rat} (hl : Fits lo) (hh : Fits hi) : (mkSpan lo hi).wide := ⟨wide_of hl, wide_of hh⟩
theorem spanR_ok (f : Rat → Rat → Frac × Int) (pairs : Rat → Rat → Rat → Rat → List (Rat × Rat)) {al ah bl bh : Rat} (h1 : (mkSpan al ah).ok) (h2 : (mkSpan bl bh).ok) : spanR f pairs (mkSpan al ah) (mkSpan bl bh) = endsR f none (pairs al ah bl bh) := by
  unfold spanR
  rw [if_pos ⟨h1, h2⟩]
  show endsR f none (pairs (fracOf al).val (fracOf ah).val (fracOf bl).val (fracOf bh).val) = _
  simp only [fracOf_val]
abbrev rc (q : Rat) : List Value := [.int .i64 (nm q), .int .i64 (dn q)]
def AllPost (al ah bl bh : Rat) (w : World) (e : Ending) (w' : World) : Prop :=
  ∃ k, e = .returned (.slice (some ⟨k, 0, none⟩) 4 4) ∧ w'.heap[k]? = some (.cells #[.int .i64 (nm al), .int .i64 (dn al), .int .i64 (nm bl), .int .i64 (dn bl), .int .i64 (nm al), .int .i64 (dn al), .int .i64 (nm bh), .int .i64 (dn bh), .int .i64 (nm ah), .int .i64 (dn ah), .int .i64 (nm bl), .int .i64 (dn bl), .int .i64 (nm ah), .int .i64 (dn ah), .int .i64 (nm bh), .int .i64 (dn bh)] 94) ∧ Ext w w'
set_option maxHeartbeats 1000000 in
theorem c_all (al ah bl bh : Rat) (w : World) :
    Calls Tryd.prog 66 #[spanV al ah, spanV bl bh] w (AllPost al ah bl bh w) := by
  go_enter Tryd.func66, Tryd.ntmps66
  go_wp2
  go_ret
  exact ⟨w.heap.size + 1 + 1, rfl, three_third _ _ _ _, (by repeat (first | exact Ext.refl _ | assumption | refine Ext.alloc ?_ _ | refine Ext.drewN ?_ _ | refine ext_grow ?_ _ _ | refine Ext.setCell ?_ (by first | exact Nat.le_refl _ | omega | (simp; done) | (simp; omega)) _ | refine Ext.trans ?_ (by assumption)))⟩
theorem c_ends2_sum (p1 q1 p2 q2 : Rat) (hp1 : Fits p1) (hq1 : Fits q1) (hp2 : Fits p2) (hq2 : Fits q2) (k : Nat) (t : TypeId) (w : World) (h : w.heap[k]? = some (.cells #[.int .i64 (nm p1), .int .i64 (dn p1), .int .i64 (nm q1), .int .i64 (dn q1), .int .i64 (nm p2), .int .i64 (dn p2), .int .i64 (nm q2), .int .i64 (dn q2)] t)) :
    Calls Tryd.prog 65 #[.func (.func 60) #[] #[], .slice (some ⟨k, 0, none⟩) 2 2] w fun e w' => e = .returned (sansV (endsR (fun p q => answer (p + q)) none [(p1, q1), (p2, q2)])) ∧ Ext w w' :=
  c_ends_sum [(p1, q1), (p2, q2)] k (by simp) (by simp [hp1, hq1, hp2, hq2]) w (fun j hj => by
    match j, hj with
    | 0, _ => exact ⟨cell_of_at h 0 rfl, cell_of_at h 1 rfl, cell_of_at h 2 rfl, cell_of_at h 3 rfl⟩
    | 1, _ => exact ⟨cell_of_at h 4 rfl, cell_of_at h 5 rfl, cell_of_at h 6 rfl, cell_of_at h 7 rfl⟩) (Array.getElem?_eq_some_iff.1 h).1
theorem c_ends2_difference (p1 q1 p2 q2 : Rat) (hp1 : Fits p1) (hq1 : Fits q1) (hp2 : Fits p2) (hq2 : Fits q2) (k : Nat) (t : TypeId) (w : World) (h : w.heap[k]? = some (.cells #[.int .i64 (nm p1), .int .i64 (dn p1), .int .i64 (nm q1), .int .i64 (dn q1), .int .i64 (nm p2), .int .i64 (dn p2), .int .i64 (nm q2), .int .i64 (dn q2)] t)) :
    Calls Tryd.prog 65 #[.func (.func 57) #[] #[], .slice (some ⟨k, 0, none⟩) 2 2] w fun e w' => e = .returned (sansV (endsR (fun p q => answer (p - q)) none [(p1, q1), (p2, q2)])) ∧ Ext w w' :=
  c_ends_difference [(p1, q1), (p2, q2)] k (by simp) (by simp [hp1, hq1, hp2, hq2]) w (fun j hj => by
    match j, hj with
    | 0, _ => exact ⟨cell_of_at h 0 rfl, cell_of_at h 1 rfl, cell_of_at h 2 rfl, cell_of_at h 3 rfl⟩
    | 1, _ => exact ⟨cell_of_at h 4 rfl, cell_of_at h 5 rfl, cell_of_at h 6 rfl, cell_of_at h 7 rfl⟩) (Array.getElem?_eq_some_iff.1 h).1
theorem c_ends4_times (al ah bl bh : Rat) (h1 : Fits al) (h2 : Fits ah) (h3 : Fits bl) (h4 : Fits bh) (k : Nat) (t : TypeId) (w : World) (h : w.heap[k]? = some (.cells #[.int .i64 (nm al), .int .i64 (dn al), .int .i64 (nm bl), .int .i64 (dn bl), .int .i64 (nm al), .int .i64 (dn al), .int .i64 (nm bh), .int .i64 (dn bh), .int .i64 (nm ah), .int .i64 (dn ah), .int .i64 (nm bl), .int .i64 (dn bl), .int .i64 (nm ah), .int .i64 (dn ah), .int .i64 (nm bh), .int .i64 (dn bh)] t)) :
    Calls Tryd.prog 65 #[.func (.func 58) #[] #[], .slice (some ⟨k, 0, none⟩) 4 4] w fun e w' => e = .returned (sansV (endsR (fun p q => answer (p * q)) none (pairsAll al ah bl bh))) ∧ Ext w w' :=
  c_ends_times (pairsAll al ah bl bh) k (by simp [pairsAll]) (by simp [pairsAll, h1, h2, h3, h4]) w (fun j hj => by
    match j, hj with
    | 0, _ => exact ⟨cell_of_at h 0 rfl, cell_of_at h 1 rfl, cell_of_at h 2 rfl, cell_of_at h 3 rfl⟩
    | 1, _ => exact ⟨cell_of_at h 4 rfl, cell_of_at h 5 rfl, cell_of_at h 6 rfl, cell_of_at h 7 rfl⟩
    | 2, _ => exact ⟨cell_of_at h 8 rfl, cell_of_at h 9 rfl, cell_of_at h 10 rfl, cell_of_at h 11 rfl⟩
    | 3, _ => exact ⟨cell_of_at h 12 rfl, cell_of_at h 13 rfl, cell_of_at h 14 rfl, cell_of_at h 15 rfl⟩) (Array.getElem?_eq_some_iff.1 h).1
theorem c_ends4_quotient (al ah bl bh : Rat) (h1 : Fits al) (h2 : Fits ah) (h3 : Fits bl) (h4 : Fits bh) (k : Nat) (t : TypeId) (w : World) (h : w.heap[k]? = some (.cells #[.int .i64 (nm al), .int .i64 (dn al), .int .i64 (nm bl), .int .i64 (dn bl), .int .i64 (nm al), .int .i64 (dn al), .int .i64 (nm bh), .int .i64 (dn bh), .int .i64 (nm ah), .int .i64 (dn ah), .int .i64 (nm bl), .int .i64 (dn bl), .int .i64 (nm ah), .int .i64 (dn ah), .int .i64 (nm bh), .int .i64 (dn bh)] t)) :
    Calls Tryd.prog 65 #[.func (.func 59) #[] #[], .slice (some ⟨k, 0, none⟩) 4 4] w fun e w' => e = .returned (sansV (endsR (quotR) none (pairsAll al ah bl bh))) ∧ Ext w w' :=
  c_ends_quotient (pairsAll al ah bl bh) k (by simp [pairsAll]) (by simp [pairsAll, h1, h2, h3, h4]) w (fun j hj => by
    match j, hj with
    | 0, _ => exact ⟨cell_of_at h 0 rfl, cell_of_at h 1 rfl, cell_of_at h 2 rfl, cell_of_at h 3 rfl⟩
    | 1, _ => exact ⟨cell_of_at h 4 rfl, cell_of_at h 5 rfl, cell_of_at h 6 rfl, cell_of_at h 7 rfl⟩
    | 2, _ => exact ⟨cell_of_at h 8 rfl, cell_of_at h 9 rfl, cell_of_at h 10 rfl, cell_of_at h 11 rfl⟩
    | 3, _ => exact ⟨cell_of_at h 12 rfl, cell_of_at h 13 rfl, cell_of_at h 14 rfl, cell_of_at h 15 rfl⟩) (Array.getElem?_eq_some_iff.1 h).1
end Go.Proofs.YtodoimeiklilhaaDoor
