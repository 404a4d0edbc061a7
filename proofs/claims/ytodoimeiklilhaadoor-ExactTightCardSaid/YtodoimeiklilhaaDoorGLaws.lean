/- Joined from the parts Within, Results, SpanMath, SpanLaws, SpanWide. -/
import Derived.Test.YtodoimeiklilhaaDoorGSpanOps
import Derived.BigRegion
import Derived.Deep.RegionHeld3
import Derived.Test.YtodoimeiklilhaaDoorMeetJoin
set_option linter.unusedVariables false
set_option linter.unusedSimpArgs false
/- The walk of the law's 'within'. -/
namespace Go.Proofs.YtodoimeiklilhaaDoor
open Go.RowKit Go.Sort

def withinR (c a : Span) : Bool := decide ((inR a c.lo).2 = 0) && (decide ((inR a c.hi).2 = 0) && ((inR a c.lo).1 && ((inR a c.hi).1 && decide (checkSpanR c = 0))))
set_option maxRecDepth 100000 in
set_option maxHeartbeats 2000000 in
theorem c_within (c a : Span) (hc : c.wide) (ha : a.wide) (w : World) :
    Calls Tryd.prog 40 #[fspanV c, fspanV a] w fun e w' => e = .returned (.bool (withinR c a)) ∧ Ext w w' := by
  have c1 := fun w => c_In a c.lo ha hc.1 w
  have c2 := fun w => c_In a c.hi ha hc.2 w
  have c3 := fun w => c_CheckSpan c hc w
  unfold withinR
  obtain ⟨p1, hp1⟩ : ∃ x, (inR a c.lo).1 = x := ⟨_, rfl⟩
  obtain ⟨e1, he1⟩ : ∃ x, (inR a c.lo).2 = x := ⟨_, rfl⟩
  obtain ⟨p2, hp2⟩ : ∃ x, (inR a c.hi).1 = x := ⟨_, rfl⟩
  obtain ⟨e2, he2⟩ : ∃ x, (inR a c.hi).2 = x := ⟨_, rfl⟩
  obtain ⟨k, hk⟩ : ∃ x, checkSpanR c = x := ⟨_, rfl⟩
  rw [hp1, he1] at c1 ⊢
  rw [hp2, he2] at c2 ⊢
  rw [hk] at c3 ⊢
  have C1 := Lib.hid c1
  have C2 := Lib.hid c2
  have C3 := Lib.hid c3
  clear c1 c2 c3 hp1 he1 hp2 he2 hk
  obtain ⟨⟨a1, a2⟩, ⟨a3, a4⟩⟩ := a
  obtain ⟨⟨b1, b2⟩, ⟨b3, b4⟩⟩ := c
  clear hc ha
  obtain ⟨r, hr⟩ : ∃ r, (decide (e1 = 0) && (decide (e2 = 0) && (p1 && (p2 && decide (k = 0))))) = r := ⟨_, rfl⟩
  rw [hr]
  have HR := Lib.hid hr
  clear hr
  by_cases h1 : e1 = 0
  · have t1 : (e1 == 0) = true := by simpa using h1
    have H1 := Lib.hid h1
    clear h1
    by_cases h2 : e2 = 0
    · have t2 : (e2 == 0) = true := by simpa using h2
      have H2 := Lib.hid h2
      clear h2
      cases p1
      · go_enter Tryd.func40, Tryd.ntmps40; go_wp2_with (first | (go_at_call 39; with_reducible refine (C1.out _).mono ?_; rintro e w' ⟨rfl, hb⟩; have hc := hb.cell; have hz := hb.size; (try simp at hz); have z0 : w.heap.size < w'.heap.size := (by omega); have z1 : w.heap.size + 1 < w'.heap.size := (by omega)) | (go_at_call 39; with_reducible refine (C2.out _).mono ?_; rintro e w' ⟨rfl, hb⟩; have hc := hb.cell; have hz := hb.size; (try simp at hz); have z0 : w.heap.size < w'.heap.size := (by omega); have z1 : w.heap.size + 1 < w'.heap.size := (by omega)) | (go_at_call 38; with_reducible refine (C3.out _).mono ?_; rintro e w' ⟨rfl, hb⟩))
        go_ret
        exact ⟨ret_bool (by rw [← HR.out]; simp), (by repeat (first | exact Ext.refl _ | assumption | refine Ext.alloc ?_ _ | refine Ext.drewN ?_ _ | refine ext_grow ?_ _ _ | refine Ext.setCell ?_ (by first | exact Nat.le_refl _ | omega | (simp; done) | (simp; omega)) _ | refine Ext.trans ?_ (by assumption)))⟩
      · cases p2
        · go_enter Tryd.func40, Tryd.ntmps40; go_wp2_with (first | (go_at_call 39; with_reducible refine (C1.out _).mono ?_; rintro e w' ⟨rfl, hb⟩; have hc := hb.cell; have hz := hb.size; (try simp at hz); have z0 : w.heap.size < w'.heap.size := (by omega); have z1 : w.heap.size + 1 < w'.heap.size := (by omega)) | (go_at_call 39; with_reducible refine (C2.out _).mono ?_; rintro e w' ⟨rfl, hb⟩; have hc := hb.cell; have hz := hb.size; (try simp at hz); have z0 : w.heap.size < w'.heap.size := (by omega); have z1 : w.heap.size + 1 < w'.heap.size := (by omega)) | (go_at_call 38; with_reducible refine (C3.out _).mono ?_; rintro e w' ⟨rfl, hb⟩))
          go_ret
          exact ⟨ret_bool (by rw [← HR.out]; simp), (by repeat (first | exact Ext.refl _ | assumption | refine Ext.alloc ?_ _ | refine Ext.drewN ?_ _ | refine ext_grow ?_ _ _ | refine Ext.setCell ?_ (by first | exact Nat.le_refl _ | omega | (simp; done) | (simp; omega)) _ | refine Ext.trans ?_ (by assumption)))⟩
        · go_enter Tryd.func40, Tryd.ntmps40; go_wp2_with (first | (go_at_call 39; with_reducible refine (C1.out _).mono ?_; rintro e w' ⟨rfl, hb⟩; have hc := hb.cell; have hz := hb.size; (try simp at hz); have z0 : w.heap.size < w'.heap.size := (by omega); have z1 : w.heap.size + 1 < w'.heap.size := (by omega)) | (go_at_call 39; with_reducible refine (C2.out _).mono ?_; rintro e w' ⟨rfl, hb⟩; have hc := hb.cell; have hz := hb.size; (try simp at hz); have z0 : w.heap.size < w'.heap.size := (by omega); have z1 : w.heap.size + 1 < w'.heap.size := (by omega)) | (go_at_call 38; with_reducible refine (C3.out _).mono ?_; rintro e w' ⟨rfl, hb⟩))
          go_ret
          exact ⟨ret_bool (by rw [← HR.out, H1.out, H2.out]; simp; rfl), (by repeat (first | exact Ext.refl _ | assumption | refine Ext.alloc ?_ _ | refine Ext.drewN ?_ _ | refine ext_grow ?_ _ _ | refine Ext.setCell ?_ (by first | exact Nat.le_refl _ | omega | (simp; done) | (simp; omega)) _ | refine Ext.trans ?_ (by assumption)))⟩
    · have t2 : (e2 == 0) = false := by simpa using h2
      have H2 := Lib.hid h2
      clear h2
      go_enter Tryd.func40, Tryd.ntmps40; go_wp2_with (first | (go_at_call 39; with_reducible refine (C1.out _).mono ?_; rintro e w' ⟨rfl, hb⟩; have hc := hb.cell; have hz := hb.size; (try simp at hz); have z0 : w.heap.size < w'.heap.size := (by omega); have z1 : w.heap.size + 1 < w'.heap.size := (by omega)) | (go_at_call 39; with_reducible refine (C2.out _).mono ?_; rintro e w' ⟨rfl, hb⟩; have hc := hb.cell; have hz := hb.size; (try simp at hz); have z0 : w.heap.size < w'.heap.size := (by omega); have z1 : w.heap.size + 1 < w'.heap.size := (by omega)) | (go_at_call 38; with_reducible refine (C3.out _).mono ?_; rintro e w' ⟨rfl, hb⟩))
      go_ret
      exact ⟨ret_bool (by rw [← HR.out]; simp [H2.out]), (by repeat (first | exact Ext.refl _ | assumption | refine Ext.alloc ?_ _ | refine Ext.drewN ?_ _ | refine ext_grow ?_ _ _ | refine Ext.setCell ?_ (by first | exact Nat.le_refl _ | omega | (simp; done) | (simp; omega)) _ | refine Ext.trans ?_ (by assumption)))⟩
  · have t1 : (e1 == 0) = false := by simpa using h1
    have H1 := Lib.hid h1
    clear h1
    go_enter Tryd.func40, Tryd.ntmps40; go_wp2_with (first | (go_at_call 39; with_reducible refine (C1.out _).mono ?_; rintro e w' ⟨rfl, hb⟩; have hc := hb.cell; have hz := hb.size; (try simp at hz); have z0 : w.heap.size < w'.heap.size := (by omega); have z1 : w.heap.size + 1 < w'.heap.size := (by omega)) | (go_at_call 39; with_reducible refine (C2.out _).mono ?_; rintro e w' ⟨rfl, hb⟩; have hc := hb.cell; have hz := hb.size; (try simp at hz); have z0 : w.heap.size < w'.heap.size := (by omega); have z1 : w.heap.size + 1 < w'.heap.size := (by omega)) | (go_at_call 38; with_reducible refine (C3.out _).mono ?_; rintro e w' ⟨rfl, hb⟩))
    go_ret
    exact ⟨ret_bool (by rw [← HR.out]; simp [H1.out]), (by repeat (first | exact Ext.refl _ | assumption | refine Ext.alloc ?_ _ | refine Ext.drewN ?_ _ | refine ext_grow ?_ _ _ | refine Ext.setCell ?_ (by first | exact Nat.le_refl _ | omega | (simp; done) | (simp; omega)) _ | refine Ext.trans ?_ (by assumption)))⟩
end Go.Proofs.YtodoimeiklilhaaDoor

/- The walk of the law's 'results': an operation, by a number, on fractions and on enclosures. -/
namespace Go.Proofs.YtodoimeiklilhaaDoor
open Go.RowKit Go.Sort

theorem drew_blk {w : World} {k : Nat} {o : Obj} (h : w.heap[k]? = some o) : w.drew.heap[k]? = some o := h
theorem results_row4 {P : Program} {fn : Func} {p u p2 u2 : Tmp} {ty ty2 : TypeId} (h : fn.results = #[.cell p ty, .tmp u, .cell p2 ty2, .tmp u2]) (tmps : Array Value) (w : World) (g : Nat) (t : TypeId) (cs : Array Value) (fr : Nat × Nat) (d : TypeDesc)
    (hp : tmps.getD p undef = .pointer (some ⟨g, 0, none⟩)) (hg : w.heap[g]? = some (.cells cs t fr))
    (hu : P.underlying ty = some d) (hd : (match d with | .struct _ | .array _ _ => true | _ => false) = true) (hi : (P.info? ty).map (·.size) = some cs.size)
    (g2 : Nat) (t2 : TypeId) (cs2 : Array Value) (fr2 : Nat × Nat) (d2 : TypeDesc)
    (hp2 : tmps.getD p2 undef = .pointer (some ⟨g2, 0, none⟩)) (hg2 : w.heap[g2]? = some (.cells cs2 t2 fr2))
    (hu2 : P.underlying ty2 = some d2) (hd2 : (match d2 with | .struct _ | .array _ _ => true | _ => false) = true) (hi2 : (P.info? ty2).map (·.size) = some cs2.size) :
    (results fn tmps).run P w = .ok (.tuple #[.agg cs, tmps.getD u undef, .agg cs2, tmps.getD u2 undef]) w := by
  have hp' : tmps[p]?.getD undef = .pointer (some ⟨g, 0, none⟩) := by simpa using hp
  have hp2' : tmps[p2]?.getD undef = .pointer (some ⟨g2, 0, none⟩) := by simpa using hp2
  simp [results, h, hp', hp2', asAddr, Sem.run_bind, Result.andThen, run_loadVar_row w g t ty cs fr d hg hu hd hi, run_loadVar_row w g2 t2 ty2 cs2 fr2 d2 hg2 hu2 hd2 hi2]
/-- an operation by its number -/
def ratOp (k : Int) : Rat → Rat → Frac × Int := if k = 0 then (fun p q => answer (p + q)) else if k = 1 then (fun p q => answer (p - q)) else if k = 2 then (fun p q => answer (p * q)) else quotR
def zR (k : Int) (x y : Frac) : Frac × Int := opR (ratOp k) x y
def sR (k : Int) (a b : Span) : Box × Int := if k = 0 then spanR (fun p q => answer (p + q)) pairsAdd a b else if k = 1 then spanR (fun p q => answer (p - q)) pairsSub a b else if k = 2 then spanR (fun p q => answer (p * q)) pairsAll a b else divSpanR a b
/-- a box as an enclosure -/
def boxSpan : Box → Span
  | none => ⟨⟨0, 0⟩, ⟨0, 0⟩⟩
  | some (lo, hi) => mkSpan lo hi
theorem boxV_span (s : Box) : boxV s = fspanV (boxSpan s) := by cases s <;> rfl
abbrev resV (r : Frac × Int) (s : Span) (f : Int) : Value := .tuple #[fracV r.1, .int .i64 r.2, fspanV s, .int .i64 f]

set_option maxRecDepth 100000 in
set_option maxHeartbeats 4000000 in
theorem c_results_0 (how : Int) (x y : Frac) (a b : Span) (hx : x.wide) (hy : y.wide) (ha : a.wide) (hb : b.wide) (h0 : 0 ≤ how) (h1 : how < 256) (hk : how % 4 = 0) (w : World) :
    Calls Tryd.prog 41 #[.int .u8 how, fracV x, fracV y, fspanV a, fspanV b] w fun e w' => e = .returned (resV (zR 0 x y) (boxSpan (sR 0 a b).1) (sR 0 a b).2) ∧ Ext w w' := by
  have cz := fun w => c_Add x y hx hy w
  have cs := fun w => c_AddSpans a b ha hb w
  rw [show zR 0 x y = opR (fun p q => answer (p + q)) x y from rfl, show sR 0 a b = spanR (fun p q => answer (p + q)) pairsAdd a b from rfl]
  obtain ⟨⟨⟨zn, zd⟩, ze⟩, hz⟩ : ∃ r, opR (fun p q => answer (p + q)) x y = r := ⟨_, rfl⟩
  rw [hz] at cz ⊢
  obtain ⟨s, hs⟩ : ∃ r, spanR (fun p q => answer (p + q)) pairsAdd a b = r := ⟨_, rfl⟩
  rw [hs] at cs ⊢
  obtain ⟨s, se⟩ := s
  obtain ⟨s2, hs2⟩ : ∃ r, boxSpan s = r := ⟨_, rfl⟩
  simp only [sansV, boxV_span, hs2] at cs ⊢
  obtain ⟨⟨s1, s2⟩, ⟨s3, s4⟩⟩ := s2
  have CZ := Lib.hid cz
  have CS := Lib.hid cs
  clear cz cs hz hs hs2
  have t0 : (how % 4 == 0) = true := by simp; omega
  obtain ⟨⟨a1, a2⟩, ⟨a3, a4⟩⟩ := a
  obtain ⟨⟨b1, b2⟩, ⟨b3, b4⟩⟩ := b
  obtain ⟨x1, x2⟩ := x
  obtain ⟨y1, y2⟩ := y
  clear hx hy ha hb hk
  go_enter Tryd.func41, Tryd.ntmps41
  go_wp2_with (first | (go_at_call 26; refine (CZ.out _).mono ?_; rintro e w1 ⟨rfl, hb1⟩; have hc1 := hb1.cell; have hf1 := hb1.frozen; have hz1 := hb1.size; (try simp at hz1); have B6 := Lib.hid (hb1.blk (show _ = some (.cells #[.int .i64 0, .int .i64 0] 23) from (show (World.heap _)[w.heap.size + 1 + 1 + 1 + 1 + 1 + 1]? = _ from (by repeat (first | (refine blk_at _ _ ?_; (first | rfl | (simp only [size_one]; done))) | refine (blk_past _ _ (by simp only [size_one]; omega)).trans ?_))))); have B7 := Lib.hid (hb1.blk (show _ = some (.cells #[.int .i64 0, .int .i64 0, .int .i64 0, .int .i64 0] 41) from (show (World.heap _)[w.heap.size + 1 + 1 + 1 + 1 + 1 + 1 + 1]? = _ from (by repeat (first | (refine blk_at _ _ ?_; (first | rfl | (simp only [size_one]; done))) | refine (blk_past _ _ (by simp only [size_one]; omega)).trans ?_))))); have B4 := Lib.hid (hb1.blk (show _ = some (.cells #[.int .i64 0, .int .i64 0] 23) from (show (World.heap _)[w.heap.size + 1 + 1 + 1 + 1]? = _ from (by repeat (first | (refine blk_at _ _ ?_; (first | rfl | (simp only [size_one]; done))) | refine (blk_past _ _ (by simp only [size_one]; omega)).trans ?_))))); have B5 := Lib.hid (hb1.blk (show _ = some (.cells #[.int .i64 0, .int .i64 0, .int .i64 0, .int .i64 0] 41) from (show (World.heap _)[w.heap.size + 1 + 1 + 1 + 1 + 1]? = _ from (by repeat (first | (refine blk_at _ _ ?_; (first | rfl | (simp only [size_one]; done))) | refine (blk_past _ _ (by simp only [size_one]; omega)).trans ?_))))); have E1 := Lib.hid (show Ext w w1 from (by repeat (first | exact Ext.refl _ | assumption | refine Ext.alloc ?_ _ | refine Ext.drewN ?_ _ | refine ext_grow ?_ _ _ | refine Ext.setCell ?_ (by first | exact Nat.le_refl _ | omega | (simp; done) | (simp; omega)) _ | refine Ext.trans ?_ (by assumption)))); obtain ⟨m0, m1, m2, m3⟩ := run_pair B6.out) | (go_at_call 74; refine (CS.out _).mono ?_; rintro e w2 ⟨rfl, hb2⟩; have C6 := Lib.hid (hb2.blk (store_pair B6.out).1); have C7 := Lib.hid (hb2.blk (((store_pair B6.out).2.1 _ (by omega)).trans B7.out)); have C4 := Lib.hid (hb2.blk (((store_pair B6.out).2.1 _ (by omega)).trans B4.out)); have C5 := Lib.hid (hb2.blk (((store_pair B6.out).2.1 _ (by omega)).trans B5.out)); have E2 := Lib.hid ((((E1.out).setCell (by simp; omega) _).setCell (by simp; omega) _).trans hb2); clear hc1 hf1; obtain ⟨⟨n0, n1, n2, n3⟩, g0, g1, g2, g3⟩ := run_four C7.out))
  have D7 := Lib.hid (store_four (v0 := .int .i64 s1) (v1 := .int .i64 s2) (v2 := .int .i64 s3) (v3 := .int .i64 s4) C7.out).1
  have D6 := Lib.hid (((store_four (v0 := .int .i64 s1) (v1 := .int .i64 s2) (v2 := .int .i64 s3) (v3 := .int .i64 s4) C7.out).2.1 _ (by omega)).trans C6.out)
  have D5 := Lib.hid (((store_four (v0 := .int .i64 s1) (v1 := .int .i64 s2) (v2 := .int .i64 s3) (v3 := .int .i64 s4) C7.out).2.1 _ (by omega)).trans C5.out)
  have D4 := Lib.hid (((store_four (v0 := .int .i64 s1) (v1 := .int .i64 s2) (v2 := .int .i64 s3) (v3 := .int .i64 s4) C7.out).2.1 _ (by omega)).trans C4.out)
  have E3 := Lib.hid ((store_four (v0 := .int .i64 s1) (v1 := .int .i64 s2) (v2 := .int .i64 s3) (v3 := .int .i64 s4) C7.out).2.2 w (by omega) E2.out)
  generalize ((((w2.setCell ⟨w.heap.size + 1 + 1 + 1 + 1 + 1 + 1 + 1, 0, none⟩ (.int .i64 s1)).setCell ⟨w.heap.size + 1 + 1 + 1 + 1 + 1 + 1 + 1, 1, none⟩ (.int .i64 s2)).setCell ⟨w.heap.size + 1 + 1 + 1 + 1 + 1 + 1 + 1, 2, none⟩ (.int .i64 s3)).setCell ⟨w.heap.size + 1 + 1 + 1 + 1 + 1 + 1 + 1, 3, none⟩ (.int .i64 s4)) = w3 at D4 D5 D6 D7 E3 ⊢
  clear m0 m1 m2 m3 n0 n1 n2 n3 g0 g1 g2 g3 B4 B5 B6 B7 C4 C5 C6 C7 E1 E2 hz1 CZ CS
  clear hb1 hb2
  obtain ⟨⟨m0, m1, m2, m3⟩, l0, l1, l2, l3⟩ := run_four D7.out
  obtain ⟨⟨n0, n1, n2, n3⟩, g0, g1, g2, g3⟩ := run_four D5.out
  obtain ⟨p0, p1, p2, p3⟩ := run_pair D6.out
  obtain ⟨q0, q1, q2, q3⟩ := run_pair D4.out
  go_region_held3 (fun w' => w'.cell? ⟨w.heap.size + 1 + 1 + 1 + 1 + 1 + 1 + 1, 0, none⟩ = some (.int .i64 s1) ∧ w'.cell? ⟨w.heap.size + 1 + 1 + 1 + 1 + 1 + 1 + 1, 1, none⟩ = some (.int .i64 s2) ∧ w'.cell? ⟨w.heap.size + 1 + 1 + 1 + 1 + 1 + 1 + 1, 2, none⟩ = some (.int .i64 s3) ∧ w'.cell? ⟨w.heap.size + 1 + 1 + 1 + 1 + 1 + 1 + 1, 3, none⟩ = some (.int .i64 s4) ∧ w'.cell? ⟨w.heap.size + 1 + 1 + 1 + 1 + 1 + 1, 0, none⟩ = some (.int .i64 zn) ∧ w'.cell? ⟨w.heap.size + 1 + 1 + 1 + 1 + 1 + 1, 1, none⟩ = some (.int .i64 zd)) (go_keep) (fail)
  all_goals go_wp2
  have F4 := (store_pair (v0 := .int .i64 zn) (v1 := .int .i64 zd) D4.out).1
  have F5 := ((store_pair (v0 := .int .i64 zn) (v1 := .int .i64 zd) D4.out).2.1 (w.heap.size + 1 + 1 + 1 + 1 + 1) (by omega)).trans D5.out
  have G5 := (store_four (v0 := .int .i64 s1) (v1 := .int .i64 s2) (v2 := .int .i64 s3) (v3 := .int .i64 s4) F5)
  have H4 := (G5.2.1 (w.heap.size + 1 + 1 + 1 + 1) (by omega)).trans F4
  have EE := G5.2.2 w (by omega) ((store_pair (v0 := .int .i64 zn) (v1 := .int .i64 zd) D4.out).2.2 w (by omega) E3.out)
  refine bodyPost_ret (results_row4 rfl _ _ (w.heap.size + 1 + 1 + 1 + 1) 23 #[.int .i64 zn, .int .i64 zd] (0, 0) _ rfl (drew_blk H4) Tryd.underlying23 rfl info_frac (w.heap.size + 1 + 1 + 1 + 1 + 1) 41 #[.int .i64 s1, .int .i64 s2, .int .i64 s3, .int .i64 s4] (0, 0) _ rfl (drew_blk G5.1) Tryd.underlying41 rfl info_span) rfl ?_
  exact ⟨rfl, EE.drew⟩

set_option maxRecDepth 100000 in
set_option maxHeartbeats 4000000 in
theorem c_results_1 (how : Int) (x y : Frac) (a b : Span) (hx : x.wide) (hy : y.wide) (ha : a.wide) (hb : b.wide) (h0 : 0 ≤ how) (h1 : how < 256) (hk : how % 4 = 1) (w : World) :
    Calls Tryd.prog 41 #[.int .u8 how, fracV x, fracV y, fspanV a, fspanV b] w fun e w' => e = .returned (resV (zR 1 x y) (boxSpan (sR 1 a b).1) (sR 1 a b).2) ∧ Ext w w' := by
  have cz := fun w => c_Sub x y hx hy w
  have cs := fun w => c_SubSpans a b ha hb w
  rw [show zR 1 x y = opR (fun p q => answer (p - q)) x y from rfl, show sR 1 a b = spanR (fun p q => answer (p - q)) pairsSub a b from rfl]
  obtain ⟨⟨⟨zn, zd⟩, ze⟩, hz⟩ : ∃ r, opR (fun p q => answer (p - q)) x y = r := ⟨_, rfl⟩
  rw [hz] at cz ⊢
  obtain ⟨s, hs⟩ : ∃ r, spanR (fun p q => answer (p - q)) pairsSub a b = r := ⟨_, rfl⟩
  rw [hs] at cs ⊢
  obtain ⟨s, se⟩ := s
  obtain ⟨s2, hs2⟩ : ∃ r, boxSpan s = r := ⟨_, rfl⟩
  simp only [sansV, boxV_span, hs2] at cs ⊢
  obtain ⟨⟨s1, s2⟩, ⟨s3, s4⟩⟩ := s2
  have CZ := Lib.hid cz
  have CS := Lib.hid cs
  clear cz cs hz hs hs2
  have t0 : (how % 4 == 0) = false := by simp; omega
  have t1 : (how % 4 == 1) = true := by simp; omega
  obtain ⟨⟨a1, a2⟩, ⟨a3, a4⟩⟩ := a
  obtain ⟨⟨b1, b2⟩, ⟨b3, b4⟩⟩ := b
  obtain ⟨x1, x2⟩ := x
  obtain ⟨y1, y2⟩ := y
  clear hx hy ha hb hk
  go_enter Tryd.func41, Tryd.ntmps41
  go_wp2_with (first | (go_at_call 21; refine (CZ.out _).mono ?_; rintro e w1 ⟨rfl, hb1⟩; have hc1 := hb1.cell; have hf1 := hb1.frozen; have hz1 := hb1.size; (try simp at hz1); have B6 := Lib.hid (hb1.blk (show _ = some (.cells #[.int .i64 0, .int .i64 0] 23) from (show (World.heap _)[w.heap.size + 1 + 1 + 1 + 1 + 1 + 1]? = _ from (by repeat (first | (refine blk_at _ _ ?_; (first | rfl | (simp only [size_one]; done))) | refine (blk_past _ _ (by simp only [size_one]; omega)).trans ?_))))); have B7 := Lib.hid (hb1.blk (show _ = some (.cells #[.int .i64 0, .int .i64 0, .int .i64 0, .int .i64 0] 41) from (show (World.heap _)[w.heap.size + 1 + 1 + 1 + 1 + 1 + 1 + 1]? = _ from (by repeat (first | (refine blk_at _ _ ?_; (first | rfl | (simp only [size_one]; done))) | refine (blk_past _ _ (by simp only [size_one]; omega)).trans ?_))))); have B4 := Lib.hid (hb1.blk (show _ = some (.cells #[.int .i64 0, .int .i64 0] 23) from (show (World.heap _)[w.heap.size + 1 + 1 + 1 + 1]? = _ from (by repeat (first | (refine blk_at _ _ ?_; (first | rfl | (simp only [size_one]; done))) | refine (blk_past _ _ (by simp only [size_one]; omega)).trans ?_))))); have B5 := Lib.hid (hb1.blk (show _ = some (.cells #[.int .i64 0, .int .i64 0, .int .i64 0, .int .i64 0] 41) from (show (World.heap _)[w.heap.size + 1 + 1 + 1 + 1 + 1]? = _ from (by repeat (first | (refine blk_at _ _ ?_; (first | rfl | (simp only [size_one]; done))) | refine (blk_past _ _ (by simp only [size_one]; omega)).trans ?_))))); have E1 := Lib.hid (show Ext w w1 from (by repeat (first | exact Ext.refl _ | assumption | refine Ext.alloc ?_ _ | refine Ext.drewN ?_ _ | refine ext_grow ?_ _ _ | refine Ext.setCell ?_ (by first | exact Nat.le_refl _ | omega | (simp; done) | (simp; omega)) _ | refine Ext.trans ?_ (by assumption)))); obtain ⟨m0, m1, m2, m3⟩ := run_pair B6.out) | (go_at_call 32; refine (CS.out _).mono ?_; rintro e w2 ⟨rfl, hb2⟩; have C6 := Lib.hid (hb2.blk (store_pair B6.out).1); have C7 := Lib.hid (hb2.blk (((store_pair B6.out).2.1 _ (by omega)).trans B7.out)); have C4 := Lib.hid (hb2.blk (((store_pair B6.out).2.1 _ (by omega)).trans B4.out)); have C5 := Lib.hid (hb2.blk (((store_pair B6.out).2.1 _ (by omega)).trans B5.out)); have E2 := Lib.hid ((((E1.out).setCell (by simp; omega) _).setCell (by simp; omega) _).trans hb2); clear hc1 hf1; obtain ⟨⟨n0, n1, n2, n3⟩, g0, g1, g2, g3⟩ := run_four C7.out))
  have D7 := Lib.hid (store_four (v0 := .int .i64 s1) (v1 := .int .i64 s2) (v2 := .int .i64 s3) (v3 := .int .i64 s4) C7.out).1
  have D6 := Lib.hid (((store_four (v0 := .int .i64 s1) (v1 := .int .i64 s2) (v2 := .int .i64 s3) (v3 := .int .i64 s4) C7.out).2.1 _ (by omega)).trans C6.out)
  have D5 := Lib.hid (((store_four (v0 := .int .i64 s1) (v1 := .int .i64 s2) (v2 := .int .i64 s3) (v3 := .int .i64 s4) C7.out).2.1 _ (by omega)).trans C5.out)
  have D4 := Lib.hid (((store_four (v0 := .int .i64 s1) (v1 := .int .i64 s2) (v2 := .int .i64 s3) (v3 := .int .i64 s4) C7.out).2.1 _ (by omega)).trans C4.out)
  have E3 := Lib.hid ((store_four (v0 := .int .i64 s1) (v1 := .int .i64 s2) (v2 := .int .i64 s3) (v3 := .int .i64 s4) C7.out).2.2 w (by omega) E2.out)
  generalize ((((w2.setCell ⟨w.heap.size + 1 + 1 + 1 + 1 + 1 + 1 + 1, 0, none⟩ (.int .i64 s1)).setCell ⟨w.heap.size + 1 + 1 + 1 + 1 + 1 + 1 + 1, 1, none⟩ (.int .i64 s2)).setCell ⟨w.heap.size + 1 + 1 + 1 + 1 + 1 + 1 + 1, 2, none⟩ (.int .i64 s3)).setCell ⟨w.heap.size + 1 + 1 + 1 + 1 + 1 + 1 + 1, 3, none⟩ (.int .i64 s4)) = w3 at D4 D5 D6 D7 E3 ⊢
  clear m0 m1 m2 m3 n0 n1 n2 n3 g0 g1 g2 g3 B4 B5 B6 B7 C4 C5 C6 C7 E1 E2 hz1 CZ CS
  clear hb1 hb2
  obtain ⟨⟨m0, m1, m2, m3⟩, l0, l1, l2, l3⟩ := run_four D7.out
  obtain ⟨⟨n0, n1, n2, n3⟩, g0, g1, g2, g3⟩ := run_four D5.out
  obtain ⟨p0, p1, p2, p3⟩ := run_pair D6.out
  obtain ⟨q0, q1, q2, q3⟩ := run_pair D4.out
  go_region_held3 (fun w' => w'.cell? ⟨w.heap.size + 1 + 1 + 1 + 1 + 1 + 1 + 1, 0, none⟩ = some (.int .i64 s1) ∧ w'.cell? ⟨w.heap.size + 1 + 1 + 1 + 1 + 1 + 1 + 1, 1, none⟩ = some (.int .i64 s2) ∧ w'.cell? ⟨w.heap.size + 1 + 1 + 1 + 1 + 1 + 1 + 1, 2, none⟩ = some (.int .i64 s3) ∧ w'.cell? ⟨w.heap.size + 1 + 1 + 1 + 1 + 1 + 1 + 1, 3, none⟩ = some (.int .i64 s4) ∧ w'.cell? ⟨w.heap.size + 1 + 1 + 1 + 1 + 1 + 1, 0, none⟩ = some (.int .i64 zn) ∧ w'.cell? ⟨w.heap.size + 1 + 1 + 1 + 1 + 1 + 1, 1, none⟩ = some (.int .i64 zd)) (go_keep) (fail)
  all_goals go_wp2
  have F4 := (store_pair (v0 := .int .i64 zn) (v1 := .int .i64 zd) D4.out).1
  have F5 := ((store_pair (v0 := .int .i64 zn) (v1 := .int .i64 zd) D4.out).2.1 (w.heap.size + 1 + 1 + 1 + 1 + 1) (by omega)).trans D5.out
  have G5 := (store_four (v0 := .int .i64 s1) (v1 := .int .i64 s2) (v2 := .int .i64 s3) (v3 := .int .i64 s4) F5)
  have H4 := (G5.2.1 (w.heap.size + 1 + 1 + 1 + 1) (by omega)).trans F4
  have EE := G5.2.2 w (by omega) ((store_pair (v0 := .int .i64 zn) (v1 := .int .i64 zd) D4.out).2.2 w (by omega) E3.out)
  refine bodyPost_ret (results_row4 rfl _ _ (w.heap.size + 1 + 1 + 1 + 1) 23 #[.int .i64 zn, .int .i64 zd] (0, 0) _ rfl (drew_blk H4) Tryd.underlying23 rfl info_frac (w.heap.size + 1 + 1 + 1 + 1 + 1) 41 #[.int .i64 s1, .int .i64 s2, .int .i64 s3, .int .i64 s4] (0, 0) _ rfl (drew_blk G5.1) Tryd.underlying41 rfl info_span) rfl ?_
  exact ⟨rfl, EE.drew⟩

set_option maxRecDepth 100000 in
set_option maxHeartbeats 4000000 in
theorem c_results_2 (how : Int) (x y : Frac) (a b : Span) (hx : x.wide) (hy : y.wide) (ha : a.wide) (hb : b.wide) (h0 : 0 ≤ how) (h1 : how < 256) (hk : how % 4 = 2) (w : World) :
    Calls Tryd.prog 41 #[.int .u8 how, fracV x, fracV y, fspanV a, fspanV b] w fun e w' => e = .returned (resV (zR 2 x y) (boxSpan (sR 2 a b).1) (sR 2 a b).2) ∧ Ext w w' := by
  have cz := fun w => c_Mul x y hx hy w
  have cs := fun w => c_MulSpans a b ha hb w
  rw [show zR 2 x y = opR (fun p q => answer (p * q)) x y from rfl, show sR 2 a b = spanR (fun p q => answer (p * q)) pairsAll a b from rfl]
  obtain ⟨⟨⟨zn, zd⟩, ze⟩, hz⟩ : ∃ r, opR (fun p q => answer (p * q)) x y = r := ⟨_, rfl⟩
  rw [hz] at cz ⊢
  obtain ⟨s, hs⟩ : ∃ r, spanR (fun p q => answer (p * q)) pairsAll a b = r := ⟨_, rfl⟩
  rw [hs] at cs ⊢
  obtain ⟨s, se⟩ := s
  obtain ⟨s2, hs2⟩ : ∃ r, boxSpan s = r := ⟨_, rfl⟩
  simp only [sansV, boxV_span, hs2] at cs ⊢
  obtain ⟨⟨s1, s2⟩, ⟨s3, s4⟩⟩ := s2
  have CZ := Lib.hid cz
  have CS := Lib.hid cs
  clear cz cs hz hs hs2
  have t0 : (how % 4 == 0) = false := by simp; omega
  have t1 : (how % 4 == 1) = false := by simp; omega
  have t2 : (how % 4 == 2) = true := by simp; omega
  obtain ⟨⟨a1, a2⟩, ⟨a3, a4⟩⟩ := a
  obtain ⟨⟨b1, b2⟩, ⟨b3, b4⟩⟩ := b
  obtain ⟨x1, x2⟩ := x
  obtain ⟨y1, y2⟩ := y
  clear hx hy ha hb hk
  go_enter Tryd.func41, Tryd.ntmps41
  go_wp2_with (first | (go_at_call 22; refine (CZ.out _).mono ?_; rintro e w1 ⟨rfl, hb1⟩; have hc1 := hb1.cell; have hf1 := hb1.frozen; have hz1 := hb1.size; (try simp at hz1); have B6 := Lib.hid (hb1.blk (show _ = some (.cells #[.int .i64 0, .int .i64 0] 23) from (show (World.heap _)[w.heap.size + 1 + 1 + 1 + 1 + 1 + 1]? = _ from (by repeat (first | (refine blk_at _ _ ?_; (first | rfl | (simp only [size_one]; done))) | refine (blk_past _ _ (by simp only [size_one]; omega)).trans ?_))))); have B7 := Lib.hid (hb1.blk (show _ = some (.cells #[.int .i64 0, .int .i64 0, .int .i64 0, .int .i64 0] 41) from (show (World.heap _)[w.heap.size + 1 + 1 + 1 + 1 + 1 + 1 + 1]? = _ from (by repeat (first | (refine blk_at _ _ ?_; (first | rfl | (simp only [size_one]; done))) | refine (blk_past _ _ (by simp only [size_one]; omega)).trans ?_))))); have B4 := Lib.hid (hb1.blk (show _ = some (.cells #[.int .i64 0, .int .i64 0] 23) from (show (World.heap _)[w.heap.size + 1 + 1 + 1 + 1]? = _ from (by repeat (first | (refine blk_at _ _ ?_; (first | rfl | (simp only [size_one]; done))) | refine (blk_past _ _ (by simp only [size_one]; omega)).trans ?_))))); have B5 := Lib.hid (hb1.blk (show _ = some (.cells #[.int .i64 0, .int .i64 0, .int .i64 0, .int .i64 0] 41) from (show (World.heap _)[w.heap.size + 1 + 1 + 1 + 1 + 1]? = _ from (by repeat (first | (refine blk_at _ _ ?_; (first | rfl | (simp only [size_one]; done))) | refine (blk_past _ _ (by simp only [size_one]; omega)).trans ?_))))); have E1 := Lib.hid (show Ext w w1 from (by repeat (first | exact Ext.refl _ | assumption | refine Ext.alloc ?_ _ | refine Ext.drewN ?_ _ | refine ext_grow ?_ _ _ | refine Ext.setCell ?_ (by first | exact Nat.le_refl _ | omega | (simp; done) | (simp; omega)) _ | refine Ext.trans ?_ (by assumption)))); obtain ⟨m0, m1, m2, m3⟩ := run_pair B6.out) | (go_at_call 47; refine (CS.out _).mono ?_; rintro e w2 ⟨rfl, hb2⟩; have C6 := Lib.hid (hb2.blk (store_pair B6.out).1); have C7 := Lib.hid (hb2.blk (((store_pair B6.out).2.1 _ (by omega)).trans B7.out)); have C4 := Lib.hid (hb2.blk (((store_pair B6.out).2.1 _ (by omega)).trans B4.out)); have C5 := Lib.hid (hb2.blk (((store_pair B6.out).2.1 _ (by omega)).trans B5.out)); have E2 := Lib.hid ((((E1.out).setCell (by simp; omega) _).setCell (by simp; omega) _).trans hb2); clear hc1 hf1; obtain ⟨⟨n0, n1, n2, n3⟩, g0, g1, g2, g3⟩ := run_four C7.out))
  have D7 := Lib.hid (store_four (v0 := .int .i64 s1) (v1 := .int .i64 s2) (v2 := .int .i64 s3) (v3 := .int .i64 s4) C7.out).1
  have D6 := Lib.hid (((store_four (v0 := .int .i64 s1) (v1 := .int .i64 s2) (v2 := .int .i64 s3) (v3 := .int .i64 s4) C7.out).2.1 _ (by omega)).trans C6.out)
  have D5 := Lib.hid (((store_four (v0 := .int .i64 s1) (v1 := .int .i64 s2) (v2 := .int .i64 s3) (v3 := .int .i64 s4) C7.out).2.1 _ (by omega)).trans C5.out)
  have D4 := Lib.hid (((store_four (v0 := .int .i64 s1) (v1 := .int .i64 s2) (v2 := .int .i64 s3) (v3 := .int .i64 s4) C7.out).2.1 _ (by omega)).trans C4.out)
  have E3 := Lib.hid ((store_four (v0 := .int .i64 s1) (v1 := .int .i64 s2) (v2 := .int .i64 s3) (v3 := .int .i64 s4) C7.out).2.2 w (by omega) E2.out)
  generalize ((((w2.setCell ⟨w.heap.size + 1 + 1 + 1 + 1 + 1 + 1 + 1, 0, none⟩ (.int .i64 s1)).setCell ⟨w.heap.size + 1 + 1 + 1 + 1 + 1 + 1 + 1, 1, none⟩ (.int .i64 s2)).setCell ⟨w.heap.size + 1 + 1 + 1 + 1 + 1 + 1 + 1, 2, none⟩ (.int .i64 s3)).setCell ⟨w.heap.size + 1 + 1 + 1 + 1 + 1 + 1 + 1, 3, none⟩ (.int .i64 s4)) = w3 at D4 D5 D6 D7 E3 ⊢
  clear m0 m1 m2 m3 n0 n1 n2 n3 g0 g1 g2 g3 B4 B5 B6 B7 C4 C5 C6 C7 E1 E2 hz1 CZ CS
  clear hb1 hb2
  obtain ⟨⟨m0, m1, m2, m3⟩, l0, l1, l2, l3⟩ := run_four D7.out
  obtain ⟨⟨n0, n1, n2, n3⟩, g0, g1, g2, g3⟩ := run_four D5.out
  obtain ⟨p0, p1, p2, p3⟩ := run_pair D6.out
  obtain ⟨q0, q1, q2, q3⟩ := run_pair D4.out
  go_region_held3 (fun w' => w'.cell? ⟨w.heap.size + 1 + 1 + 1 + 1 + 1 + 1 + 1, 0, none⟩ = some (.int .i64 s1) ∧ w'.cell? ⟨w.heap.size + 1 + 1 + 1 + 1 + 1 + 1 + 1, 1, none⟩ = some (.int .i64 s2) ∧ w'.cell? ⟨w.heap.size + 1 + 1 + 1 + 1 + 1 + 1 + 1, 2, none⟩ = some (.int .i64 s3) ∧ w'.cell? ⟨w.heap.size + 1 + 1 + 1 + 1 + 1 + 1 + 1, 3, none⟩ = some (.int .i64 s4) ∧ w'.cell? ⟨w.heap.size + 1 + 1 + 1 + 1 + 1 + 1, 0, none⟩ = some (.int .i64 zn) ∧ w'.cell? ⟨w.heap.size + 1 + 1 + 1 + 1 + 1 + 1, 1, none⟩ = some (.int .i64 zd)) (go_keep) (fail)
  all_goals go_wp2
  have F4 := (store_pair (v0 := .int .i64 zn) (v1 := .int .i64 zd) D4.out).1
  have F5 := ((store_pair (v0 := .int .i64 zn) (v1 := .int .i64 zd) D4.out).2.1 (w.heap.size + 1 + 1 + 1 + 1 + 1) (by omega)).trans D5.out
  have G5 := (store_four (v0 := .int .i64 s1) (v1 := .int .i64 s2) (v2 := .int .i64 s3) (v3 := .int .i64 s4) F5)
  have H4 := (G5.2.1 (w.heap.size + 1 + 1 + 1 + 1) (by omega)).trans F4
  have EE := G5.2.2 w (by omega) ((store_pair (v0 := .int .i64 zn) (v1 := .int .i64 zd) D4.out).2.2 w (by omega) E3.out)
  refine bodyPost_ret (results_row4 rfl _ _ (w.heap.size + 1 + 1 + 1 + 1) 23 #[.int .i64 zn, .int .i64 zd] (0, 0) _ rfl (drew_blk H4) Tryd.underlying23 rfl info_frac (w.heap.size + 1 + 1 + 1 + 1 + 1) 41 #[.int .i64 s1, .int .i64 s2, .int .i64 s3, .int .i64 s4] (0, 0) _ rfl (drew_blk G5.1) Tryd.underlying41 rfl info_span) rfl ?_
  exact ⟨rfl, EE.drew⟩

set_option maxRecDepth 100000 in
set_option maxHeartbeats 4000000 in
theorem c_results_3 (how : Int) (x y : Frac) (a b : Span) (hx : x.wide) (hy : y.wide) (ha : a.wide) (hb : b.wide) (h0 : 0 ≤ how) (h1 : how < 256) (hk : how % 4 = 3) (w : World) :
    Calls Tryd.prog 41 #[.int .u8 how, fracV x, fracV y, fspanV a, fspanV b] w fun e w' => e = .returned (resV (zR 3 x y) (boxSpan (sR 3 a b).1) (sR 3 a b).2) ∧ Ext w w' := by
  have cz := fun w => c_Div x y hx hy w
  have cs := fun w => c_DivSpans a b ha hb w
  rw [show zR 3 x y = opR quotR x y from rfl, show sR 3 a b = divSpanR a b from rfl]
  obtain ⟨⟨⟨zn, zd⟩, ze⟩, hz⟩ : ∃ r, opR quotR x y = r := ⟨_, rfl⟩
  rw [hz] at cz ⊢
  obtain ⟨s, hs⟩ : ∃ r, divSpanR a b = r := ⟨_, rfl⟩
  rw [hs] at cs ⊢
  obtain ⟨s, se⟩ := s
  obtain ⟨s2, hs2⟩ : ∃ r, boxSpan s = r := ⟨_, rfl⟩
  simp only [sansV, boxV_span, hs2] at cs ⊢
  obtain ⟨⟨s1, s2⟩, ⟨s3, s4⟩⟩ := s2
  have CZ := Lib.hid cz
  have CS := Lib.hid cs
  clear cz cs hz hs hs2
  have t0 : (how % 4 == 0) = false := by simp; omega
  have t1 : (how % 4 == 1) = false := by simp; omega
  have t2 : (how % 4 == 2) = false := by simp; omega
  have t3 : (how % 4 == 3) = true := by simp; omega
  obtain ⟨⟨a1, a2⟩, ⟨a3, a4⟩⟩ := a
  obtain ⟨⟨b1, b2⟩, ⟨b3, b4⟩⟩ := b
  obtain ⟨x1, x2⟩ := x
  obtain ⟨y1, y2⟩ := y
  clear hx hy ha hb hk
  go_enter Tryd.func41, Tryd.ntmps41
  go_wp2_with (first | (go_at_call 23; refine (CZ.out _).mono ?_; rintro e w1 ⟨rfl, hb1⟩; have hc1 := hb1.cell; have hf1 := hb1.frozen; have hz1 := hb1.size; (try simp at hz1); have B6 := Lib.hid (hb1.blk (show _ = some (.cells #[.int .i64 0, .int .i64 0] 23) from (show (World.heap _)[w.heap.size + 1 + 1 + 1 + 1 + 1 + 1]? = _ from (by repeat (first | (refine blk_at _ _ ?_; (first | rfl | (simp only [size_one]; done))) | refine (blk_past _ _ (by simp only [size_one]; omega)).trans ?_))))); have B7 := Lib.hid (hb1.blk (show _ = some (.cells #[.int .i64 0, .int .i64 0, .int .i64 0, .int .i64 0] 41) from (show (World.heap _)[w.heap.size + 1 + 1 + 1 + 1 + 1 + 1 + 1]? = _ from (by repeat (first | (refine blk_at _ _ ?_; (first | rfl | (simp only [size_one]; done))) | refine (blk_past _ _ (by simp only [size_one]; omega)).trans ?_))))); have B4 := Lib.hid (hb1.blk (show _ = some (.cells #[.int .i64 0, .int .i64 0] 23) from (show (World.heap _)[w.heap.size + 1 + 1 + 1 + 1]? = _ from (by repeat (first | (refine blk_at _ _ ?_; (first | rfl | (simp only [size_one]; done))) | refine (blk_past _ _ (by simp only [size_one]; omega)).trans ?_))))); have B5 := Lib.hid (hb1.blk (show _ = some (.cells #[.int .i64 0, .int .i64 0, .int .i64 0, .int .i64 0] 41) from (show (World.heap _)[w.heap.size + 1 + 1 + 1 + 1 + 1]? = _ from (by repeat (first | (refine blk_at _ _ ?_; (first | rfl | (simp only [size_one]; done))) | refine (blk_past _ _ (by simp only [size_one]; omega)).trans ?_))))); have E1 := Lib.hid (show Ext w w1 from (by repeat (first | exact Ext.refl _ | assumption | refine Ext.alloc ?_ _ | refine Ext.drewN ?_ _ | refine ext_grow ?_ _ _ | refine Ext.setCell ?_ (by first | exact Nat.le_refl _ | omega | (simp; done) | (simp; omega)) _ | refine Ext.trans ?_ (by assumption)))); obtain ⟨m0, m1, m2, m3⟩ := run_pair B6.out) | (go_at_call 30; refine (CS.out _).mono ?_; rintro e w2 ⟨rfl, hb2⟩; have C6 := Lib.hid (hb2.blk (store_pair B6.out).1); have C7 := Lib.hid (hb2.blk (((store_pair B6.out).2.1 _ (by omega)).trans B7.out)); have C4 := Lib.hid (hb2.blk (((store_pair B6.out).2.1 _ (by omega)).trans B4.out)); have C5 := Lib.hid (hb2.blk (((store_pair B6.out).2.1 _ (by omega)).trans B5.out)); have E2 := Lib.hid ((((E1.out).setCell (by simp; omega) _).setCell (by simp; omega) _).trans hb2); clear hc1 hf1; obtain ⟨⟨n0, n1, n2, n3⟩, g0, g1, g2, g3⟩ := run_four C7.out))
  have D7 := Lib.hid (store_four (v0 := .int .i64 s1) (v1 := .int .i64 s2) (v2 := .int .i64 s3) (v3 := .int .i64 s4) C7.out).1
  have D6 := Lib.hid (((store_four (v0 := .int .i64 s1) (v1 := .int .i64 s2) (v2 := .int .i64 s3) (v3 := .int .i64 s4) C7.out).2.1 _ (by omega)).trans C6.out)
  have D5 := Lib.hid (((store_four (v0 := .int .i64 s1) (v1 := .int .i64 s2) (v2 := .int .i64 s3) (v3 := .int .i64 s4) C7.out).2.1 _ (by omega)).trans C5.out)
  have D4 := Lib.hid (((store_four (v0 := .int .i64 s1) (v1 := .int .i64 s2) (v2 := .int .i64 s3) (v3 := .int .i64 s4) C7.out).2.1 _ (by omega)).trans C4.out)
  have E3 := Lib.hid ((store_four (v0 := .int .i64 s1) (v1 := .int .i64 s2) (v2 := .int .i64 s3) (v3 := .int .i64 s4) C7.out).2.2 w (by omega) E2.out)
  generalize ((((w2.setCell ⟨w.heap.size + 1 + 1 + 1 + 1 + 1 + 1 + 1, 0, none⟩ (.int .i64 s1)).setCell ⟨w.heap.size + 1 + 1 + 1 + 1 + 1 + 1 + 1, 1, none⟩ (.int .i64 s2)).setCell ⟨w.heap.size + 1 + 1 + 1 + 1 + 1 + 1 + 1, 2, none⟩ (.int .i64 s3)).setCell ⟨w.heap.size + 1 + 1 + 1 + 1 + 1 + 1 + 1, 3, none⟩ (.int .i64 s4)) = w3 at D4 D5 D6 D7 E3 ⊢
  clear m0 m1 m2 m3 n0 n1 n2 n3 g0 g1 g2 g3 B4 B5 B6 B7 C4 C5 C6 C7 E1 E2 hz1 CZ CS
  clear hb1 hb2
  obtain ⟨⟨m0, m1, m2, m3⟩, l0, l1, l2, l3⟩ := run_four D7.out
  obtain ⟨⟨n0, n1, n2, n3⟩, g0, g1, g2, g3⟩ := run_four D5.out
  obtain ⟨p0, p1, p2, p3⟩ := run_pair D6.out
  obtain ⟨q0, q1, q2, q3⟩ := run_pair D4.out
  go_region_held3 (fun w' => w'.cell? ⟨w.heap.size + 1 + 1 + 1 + 1 + 1 + 1 + 1, 0, none⟩ = some (.int .i64 s1) ∧ w'.cell? ⟨w.heap.size + 1 + 1 + 1 + 1 + 1 + 1 + 1, 1, none⟩ = some (.int .i64 s2) ∧ w'.cell? ⟨w.heap.size + 1 + 1 + 1 + 1 + 1 + 1 + 1, 2, none⟩ = some (.int .i64 s3) ∧ w'.cell? ⟨w.heap.size + 1 + 1 + 1 + 1 + 1 + 1 + 1, 3, none⟩ = some (.int .i64 s4) ∧ w'.cell? ⟨w.heap.size + 1 + 1 + 1 + 1 + 1 + 1, 0, none⟩ = some (.int .i64 zn) ∧ w'.cell? ⟨w.heap.size + 1 + 1 + 1 + 1 + 1 + 1, 1, none⟩ = some (.int .i64 zd)) (go_keep) (fail)
  all_goals go_wp2
  have F4 := (store_pair (v0 := .int .i64 zn) (v1 := .int .i64 zd) D4.out).1
  have F5 := ((store_pair (v0 := .int .i64 zn) (v1 := .int .i64 zd) D4.out).2.1 (w.heap.size + 1 + 1 + 1 + 1 + 1) (by omega)).trans D5.out
  have G5 := (store_four (v0 := .int .i64 s1) (v1 := .int .i64 s2) (v2 := .int .i64 s3) (v3 := .int .i64 s4) F5)
  have H4 := (G5.2.1 (w.heap.size + 1 + 1 + 1 + 1) (by omega)).trans F4
  have EE := G5.2.2 w (by omega) ((store_pair (v0 := .int .i64 zn) (v1 := .int .i64 zd) D4.out).2.2 w (by omega) E3.out)
  refine bodyPost_ret (results_row4 rfl _ _ (w.heap.size + 1 + 1 + 1 + 1) 23 #[.int .i64 zn, .int .i64 zd] (0, 0) _ rfl (drew_blk H4) Tryd.underlying23 rfl info_frac (w.heap.size + 1 + 1 + 1 + 1 + 1) 41 #[.int .i64 s1, .int .i64 s2, .int .i64 s3, .int .i64 s4] (0, 0) _ rfl (drew_blk G5.1) Tryd.underlying41 rfl info_span) rfl ?_
  exact ⟨rfl, EE.drew⟩

theorem c_results (how : Int) (x y : Frac) (a b : Span) (hx : x.wide) (hy : y.wide) (ha : a.wide) (hb : b.wide) (h0 : 0 ≤ how) (h1 : how < 256) (w : World) :
    Calls Tryd.prog 41 #[.int .u8 how, fracV x, fracV y, fspanV a, fspanV b] w fun e w' => e = .returned (resV (zR (how % 4) x y) (boxSpan (sR (how % 4) a b).1) (sR (how % 4) a b).2) ∧ Ext w w' := by
  have h : how % 4 = 0 ∨ how % 4 = 1 ∨ how % 4 = 2 ∨ how % 4 = 3 := by omega
  rcases h with h | h | h | h <;> rw [h]
  · exact c_results_0 how x y a b hx hy ha hb h0 h1 h w
  · exact c_results_1 how x y a b hx hy ha hb h0 h1 h w
  · exact c_results_2 how x y a b hx hy ha hb h0 h1 h w
  · exact c_results_3 how x y a b hx hy ha hb h0 h1 h w
end Go.Proofs.YtodoimeiklilhaaDoor

/- Enclosures of results, in plain Lean: their ends are results for ends, and every result of numbers that are enclosed lies between them. No program in sight. -/
namespace Go.Proofs.YtodoimeiklilhaaDoor

theorem min_le_l (p q : Rat) : ratMin p q ≤ p := by unfold ratMin; split <;> grind
theorem min_le_r (p q : Rat) : ratMin p q ≤ q := by unfold ratMin; split <;> grind
theorem le_max_l (p q : Rat) : p ≤ ratMax p q := by unfold ratMax; split <;> grind
theorem le_max_r (p q : Rat) : q ≤ ratMax p q := by unfold ratMax; split <;> grind
theorem min_or (p q : Rat) : ratMin p q = p ∨ ratMin p q = q := by unfold ratMin; split <;> simp
theorem max_or (p q : Rat) : ratMax p q = p ∨ ratMax p q = q := by unfold ratMax; split <;> simp
theorem mul_up {c x y : Rat} (hc : 0 ≤ c) (h : x ≤ y) : x * c ≤ y * c := by
  have : 0 ≤ (y - x) * c := Rat.mul_nonneg (by grind) hc
  grind
theorem mul_down {c x y : Rat} (hc : c ≤ 0) (h : x ≤ y) : y * c ≤ x * c := by
  have : 0 ≤ (y - x) * (-c) := Rat.mul_nonneg (by grind) (by grind)
  grind
/-- a product with a number between two others -/
theorem lin_between {l h t : Rat} (c : Rat) (h1 : l ≤ t) (h2 : t ≤ h) : (l * c ≤ t * c ∧ t * c ≤ h * c) ∨ (h * c ≤ t * c ∧ t * c ≤ l * c) := by
  rcases (show 0 ≤ c ∨ c ≤ 0 by grind) with hc | hc
  · exact Or.inl ⟨mul_up hc h1, mul_up hc h2⟩
  · exact Or.inr ⟨mul_down hc h2, mul_down hc h1⟩
theorem four_between {al ah bl bh x y lo hi : Rat} (h1 : al ≤ x) (h2 : x ≤ ah) (h3 : bl ≤ y) (h4 : y ≤ bh)
    (k1 : lo ≤ al * bl ∧ al * bl ≤ hi) (k2 : lo ≤ al * bh ∧ al * bh ≤ hi) (k3 : lo ≤ ah * bl ∧ ah * bl ≤ hi) (k4 : lo ≤ ah * bh ∧ ah * bh ≤ hi) : lo ≤ x * y ∧ x * y ≤ hi := by
  have c1 := lin_between y h1 h2
  have c2 := lin_between al h3 h4
  have c3 := lin_between ah h3 h4
  rw [Rat.mul_comm bl al, Rat.mul_comm y al, Rat.mul_comm bh al] at c2
  rw [Rat.mul_comm bl ah, Rat.mul_comm y ah, Rat.mul_comm bh ah] at c3
  generalize x * y = v at *
  generalize al * y = v1 at *
  generalize ah * y = v2 at *
  generalize al * bl = v3 at *
  generalize al * bh = v4 at *
  generalize ah * bl = v5 at *
  generalize ah * bh = v6 at *
  clear h1 h2 h3 h4
  rcases c1 with c1 | c1 <;> rcases c2 with c2 | c2 <;> rcases c3 with c3 | c3 <;> grind
/-- the number of an operation -/
def opv (k : Int) (x y : Rat) : Rat := if k = 0 then x + y else if k = 1 then x - y else if k = 2 then x * y else x / y
/-- what an enclosure of results is -/
structure Encl (k : Int) (al ah bl bh lo hi : Rat) : Prop where
  fits : Fits lo ∧ Fits hi
  le : lo ≤ hi
  low : ∃ p q, (p = al ∨ p = ah) ∧ (q = bl ∨ q = bh) ∧ ratOp k p q = (fracOf lo, 0) ∧ lo = opv k p q
  high : ∃ p q, (p = al ∨ p = ah) ∧ (q = bl ∨ q = bh) ∧ ratOp k p q = (fracOf hi, 0) ∧ hi = opv k p q
  all : ∀ x y, al ≤ x → x ≤ ah → bl ≤ y → y ≤ bh → lo ≤ opv k x y ∧ opv k x y ≤ hi
  zero : k = 3 → ¬ (bl ≤ 0 ∧ 0 ≤ bh)
theorem ratOp_zero {k : Int} (hk : k = 0 ∨ k = 1 ∨ k = 2 ∨ k = 3) {p q : Rat} (h : (ratOp k p q).2 = 0) : Fits (opv k p q) ∧ ratOp k p q = (fracOf (opv k p q), 0) := by
  have aux : ∀ v : Rat, (answer v).2 = 0 → Fits v ∧ answer v = (fracOf v, 0) := by
    intro v hv
    unfold answer at hv ⊢
    by_cases hf : Fits v
    · rw [if_pos hf] at hv ⊢; exact ⟨hf, rfl⟩
    · rw [if_neg hf] at hv; simp at hv
  rcases hk with rfl | rfl | rfl | rfl
  · exact aux _ h
  · exact aux _ h
  · exact aux _ h
  · have h' : (quotR p q).2 = 0 := h
    show _ ∧ quotR p q = _
    unfold quotR at h' ⊢
    by_cases h0 : nm q = 0
    · rw [if_pos h0] at h'; simp at h'
    · rw [if_neg h0] at h' ⊢
      exact aux _ h'
theorem ends_two {f : Rat → Rat → Frac × Int} {p1 q1 p2 q2 : Rat} (h : (endsR f none [(p1, q1), (p2, q2)]).2 = 0) :
    (f p1 q1).2 = 0 ∧ (f p2 q2).2 = 0 ∧ endsR f none [(p1, q1), (p2, q2)] = (some (ratMin (f p1 q1).1.val (f p2 q2).1.val, ratMax (f p1 q1).1.val (f p2 q2).1.val), 0) := by
  simp only [endsR] at h ⊢
  by_cases h1 : (f p1 q1).2 = 0
  · by_cases h2 : (f p2 q2).2 = 0
    · simp [h1, h2, stepBox]
    · simp [h1, h2] at h
  · simp [h1] at h
theorem ends_four {f : Rat → Rat → Frac × Int} {p1 q1 p2 q2 p3 q3 p4 q4 : Rat} (h : (endsR f none [(p1, q1), (p2, q2), (p3, q3), (p4, q4)]).2 = 0) :
    (f p1 q1).2 = 0 ∧ (f p2 q2).2 = 0 ∧ (f p3 q3).2 = 0 ∧ (f p4 q4).2 = 0 ∧ endsR f none [(p1, q1), (p2, q2), (p3, q3), (p4, q4)] =
      (some (ratMin (ratMin (ratMin (f p1 q1).1.val (f p2 q2).1.val) (f p3 q3).1.val) (f p4 q4).1.val, ratMax (ratMax (ratMax (f p1 q1).1.val (f p2 q2).1.val) (f p3 q3).1.val) (f p4 q4).1.val), 0) := by
  simp only [endsR] at h ⊢
  by_cases h1 : (f p1 q1).2 = 0
  · by_cases h2 : (f p2 q2).2 = 0
    · by_cases h3 : (f p3 q3).2 = 0
      · by_cases h4 : (f p4 q4).2 = 0
        · simp [h1, h2, h3, h4, stepBox]
        · simp [h1, h2, h3, h4] at h
      · simp [h1, h2, h3] at h
    · simp [h1, h2] at h
  · simp [h1] at h
theorem encl_two {k : Int} (hk : k = 0 ∨ k = 1 ∨ k = 2 ∨ k = 3) {al ah bl bh : Rat} {p1 q1 p2 q2 : Rat} {r : Box × Int} (hr : endsR (ratOp k) none [(p1, q1), (p2, q2)] = r) (he : r.2 = 0)
    (m1 : (p1 = al ∨ p1 = ah) ∧ (q1 = bl ∨ q1 = bh)) (m2 : (p2 = al ∨ p2 = ah) ∧ (q2 = bl ∨ q2 = bh)) (hz : k = 3 → ¬ (bl ≤ 0 ∧ 0 ≤ bh))
    (hall : ∀ x y, al ≤ x → x ≤ ah → bl ≤ y → y ≤ bh → opv k p1 q1 ≤ opv k x y ∧ opv k x y ≤ opv k p2 q2) (hle : opv k p1 q1 ≤ opv k p2 q2) :
    ∃ lo hi, r = (some (lo, hi), 0) ∧ Encl k al ah bl bh lo hi := by
  subst hr
  obtain ⟨h1, h2, h3⟩ := ends_two he
  obtain ⟨f1, e1⟩ := ratOp_zero hk h1
  obtain ⟨f2, e2⟩ := ratOp_zero hk h2
  have hmin : ratMin (opv k p1 q1) (opv k p2 q2) = opv k p1 q1 := by unfold ratMin; split <;> grind
  have hmax : ratMax (opv k p1 q1) (opv k p2 q2) = opv k p2 q2 := by unfold ratMax; split <;> grind
  rw [e1, e2] at h3
  simp only [fracOf_val] at h3
  rw [hmin, hmax] at h3
  exact ⟨_, _, h3, ⟨f1, f2⟩, hle, ⟨p1, q1, m1.1, m1.2, e1, rfl⟩, ⟨p2, q2, m2.1, m2.2, e2, rfl⟩, hall, hz⟩
theorem encl_four {k : Int} (hk : k = 0 ∨ k = 1 ∨ k = 2 ∨ k = 3) {al ah bl bh : Rat} {r : Box × Int} (hr : endsR (ratOp k) none (pairsAll al ah bl bh) = r) (he : r.2 = 0) (hz : k = 3 → ¬ (bl ≤ 0 ∧ 0 ≤ bh))
    (hall : ∀ lo hi x y, al ≤ x → x ≤ ah → bl ≤ y → y ≤ bh → (lo ≤ opv k al bl ∧ opv k al bl ≤ hi) → (lo ≤ opv k al bh ∧ opv k al bh ≤ hi) → (lo ≤ opv k ah bl ∧ opv k ah bl ≤ hi) → (lo ≤ opv k ah bh ∧ opv k ah bh ≤ hi) → lo ≤ opv k x y ∧ opv k x y ≤ hi) :
    ∃ lo hi, r = (some (lo, hi), 0) ∧ Encl k al ah bl bh lo hi := by
  subst hr
  obtain ⟨h1, h2, h3, h4, h5⟩ := ends_four he
  obtain ⟨f1, e1⟩ := ratOp_zero hk h1
  obtain ⟨f2, e2⟩ := ratOp_zero hk h2
  obtain ⟨f3, e3⟩ := ratOp_zero hk h3
  obtain ⟨f4, e4⟩ := ratOp_zero hk h4
  rw [e1, e2, e3, e4] at h5
  simp only [fracOf_val] at h5
  have a1 := min_le_l (opv k al bl) (opv k al bh)
  have a2 := min_le_r (opv k al bl) (opv k al bh)
  have a3 := min_le_l (ratMin (opv k al bl) (opv k al bh)) (opv k ah bl)
  have a4 := min_le_r (ratMin (opv k al bl) (opv k al bh)) (opv k ah bl)
  have a5 := min_le_l (ratMin (ratMin (opv k al bl) (opv k al bh)) (opv k ah bl)) (opv k ah bh)
  have a6 := min_le_r (ratMin (ratMin (opv k al bl) (opv k al bh)) (opv k ah bl)) (opv k ah bh)
  have b1 := le_max_l (opv k al bl) (opv k al bh)
  have b2 := le_max_r (opv k al bl) (opv k al bh)
  have b3 := le_max_l (ratMax (opv k al bl) (opv k al bh)) (opv k ah bl)
  have b4 := le_max_r (ratMax (opv k al bl) (opv k al bh)) (opv k ah bl)
  have b5 := le_max_l (ratMax (ratMax (opv k al bl) (opv k al bh)) (opv k ah bl)) (opv k ah bh)
  have b6 := le_max_r (ratMax (ratMax (opv k al bl) (opv k al bh)) (opv k ah bl)) (opv k ah bh)
  have c1 := min_or (opv k al bl) (opv k al bh)
  have c2 := min_or (ratMin (opv k al bl) (opv k al bh)) (opv k ah bl)
  have c3 := min_or (ratMin (ratMin (opv k al bl) (opv k al bh)) (opv k ah bl)) (opv k ah bh)
  have d1 := max_or (opv k al bl) (opv k al bh)
  have d2 := max_or (ratMax (opv k al bl) (opv k al bh)) (opv k ah bl)
  have d3 := max_or (ratMax (ratMax (opv k al bl) (opv k al bh)) (opv k ah bl)) (opv k ah bh)
  have hlo : Fits (ratMin (ratMin (ratMin (opv k al bl) (opv k al bh)) (opv k ah bl)) (opv k ah bh)) := min_fits (min_fits (min_fits f1 f2) f3) f4
  have hhi : Fits (ratMax (ratMax (ratMax (opv k al bl) (opv k al bh)) (opv k ah bl)) (opv k ah bh)) := max_fits (max_fits (max_fits f1 f2) f3) f4
  generalize ratMin (opv k al bl) (opv k al bh) = u1 at *
  generalize ratMin u1 (opv k ah bl) = u2 at *
  generalize ratMin u2 (opv k ah bh) = u3 at *
  generalize ratMax (opv k al bl) (opv k al bh) = w1 at *
  generalize ratMax w1 (opv k ah bl) = w2 at *
  generalize ratMax w2 (opv k ah bh) = w3 at *
  have pick : ∀ v, (v = opv k al bl ∨ v = opv k al bh ∨ v = opv k ah bl ∨ v = opv k ah bh) → ∃ p q, (p = al ∨ p = ah) ∧ (q = bl ∨ q = bh) ∧ ratOp k p q = (fracOf v, 0) ∧ v = opv k p q := by
    rintro v (rfl | rfl | rfl | rfl)
    · exact ⟨_, _, Or.inl rfl, Or.inl rfl, e1, rfl⟩
    · exact ⟨_, _, Or.inl rfl, Or.inr rfl, e2, rfl⟩
    · exact ⟨_, _, Or.inr rfl, Or.inl rfl, e3, rfl⟩
    · exact ⟨_, _, Or.inr rfl, Or.inr rfl, e4, rfl⟩
  refine ⟨_, _, h5, ⟨hlo, hhi⟩, ?_, pick _ ?_, pick _ ?_, fun x y x1 x2 y1 y2 => hall _ _ x y x1 x2 y1 y2 ?_ ?_ ?_ ?_, hz⟩
  all_goals (clear pick hall e1 e2 e3 e4 h5 hlo hhi f1 f2 f3 f4 h1 h2 h3 h4; generalize opv k al bl = v1 at *; generalize opv k al bh = v2 at *; generalize opv k ah bl = v3 at *; generalize opv k ah bh = v4 at *)
  all_goals grind
theorem inv_le {p q : Rat} (h0 : 0 < p) (h : p ≤ q) : q⁻¹ ≤ p⁻¹ := by
  have hp : p * p⁻¹ = 1 := Rat.mul_inv_cancel p (by grind)
  have hq : q * q⁻¹ = 1 := Rat.mul_inv_cancel q (by grind)
  have i1 : 0 < p⁻¹ := Rat.inv_pos.2 h0
  have i2 : 0 < q⁻¹ := Rat.inv_pos.2 (show 0 < q by grind)
  generalize p⁻¹ = a at *
  generalize q⁻¹ = b at *
  have h3 : 0 ≤ (q - p) * (a * b) := Rat.mul_nonneg (by grind) (Rat.mul_nonneg (by grind) (by grind))
  have h4 : (q - p) * (a * b) = (q * b) * a - (p * a) * b := by grind
  rw [h4, hp, hq] at h3
  grind
theorem inv_le_neg {p q : Rat} (h0 : q < 0) (h : p ≤ q) : q⁻¹ ≤ p⁻¹ := by
  have hp : p * p⁻¹ = 1 := Rat.mul_inv_cancel p (by grind)
  have hq : q * q⁻¹ = 1 := Rat.mul_inv_cancel q (by grind)
  generalize p⁻¹ = a at *
  generalize q⁻¹ = b at *
  have i1 : a ≤ 0 := by
    rcases (show a ≤ 0 ∨ 0 < a by grind) with h | h
    · exact h
    · have := Rat.mul_nonneg (a := -p) (b := a) (by grind) (by grind)
      rw [show -p * a = -(p * a) by grind, hp] at this
      grind
  have i2 : b ≤ 0 := by
    rcases (show b ≤ 0 ∨ 0 < b by grind) with h | h
    · exact h
    · have := Rat.mul_nonneg (a := -q) (b := b) (by grind) (by grind)
      rw [show -q * b = -(q * b) by grind, hq] at this
      grind
  have h3 : 0 ≤ (q - p) * (-a * -b) := Rat.mul_nonneg (by grind) (Rat.mul_nonneg (by grind) (by grind))
  have h4 : (q - p) * (-a * -b) = (q * b) * a - (p * a) * b := by grind
  rw [h4, hp, hq] at h3
  grind
/-- the enclosure that the operation with the number k answers -/
theorem encl_of {k : Int} (hk : k = 0 ∨ k = 1 ∨ k = 2 ∨ k = 3) {al ah bl bh : Rat} (f1 : Fits al) (f2 : Fits ah) (f3 : Fits bl) (f4 : Fits bh) (ha : al ≤ ah) (hb : bl ≤ bh)
    (he : (sR k (mkSpan al ah) (mkSpan bl bh)).2 = 0) : ∃ lo hi, sR k (mkSpan al ah) (mkSpan bl bh) = (some (lo, hi), 0) ∧ Encl k al ah bl bh lo hi := by
  have oa := mkSpan_ok f1 f2 ha
  have ob := mkSpan_ok f3 f4 hb
  rcases hk with rfl | rfl | rfl | rfl
  · have e : sR 0 (mkSpan al ah) (mkSpan bl bh) = endsR (ratOp 0) none [(al, bl), (ah, bh)] := spanR_ok _ _ oa ob
    refine encl_two (Or.inl rfl) e.symm he ⟨Or.inl rfl, Or.inl rfl⟩ ⟨Or.inr rfl, Or.inr rfl⟩ (by simp) (fun x y x1 x2 y1 y2 => ?_) ?_
    · show al + bl ≤ x + y ∧ x + y ≤ ah + bh; grind
    · show al + bl ≤ ah + bh; grind
  · have e : sR 1 (mkSpan al ah) (mkSpan bl bh) = endsR (ratOp 1) none [(al, bh), (ah, bl)] := spanR_ok _ _ oa ob
    refine encl_two (Or.inr (Or.inl rfl)) e.symm he ⟨Or.inl rfl, Or.inr rfl⟩ ⟨Or.inr rfl, Or.inl rfl⟩ (by simp) (fun x y x1 x2 y1 y2 => ?_) ?_
    · show al - bh ≤ x - y ∧ x - y ≤ ah - bl; grind
    · show al - bh ≤ ah - bl; grind
  · have e : sR 2 (mkSpan al ah) (mkSpan bl bh) = endsR (ratOp 2) none (pairsAll al ah bl bh) := spanR_ok _ _ oa ob
    refine encl_four (Or.inr (Or.inr (Or.inl rfl))) e.symm he (by simp) (fun lo hi x y x1 x2 y1 y2 m1 m2 m3 m4 => ?_)
    exact four_between x1 x2 y1 y2 m1 m2 m3 m4
  · have e : sR 3 (mkSpan al ah) (mkSpan bl bh) = if bl ≤ 0 ∧ 0 ≤ bh then (none, 10) else endsR (ratOp 3) none (pairsAll al ah bl bh) := by
      show divSpanR _ _ = _
      unfold divSpanR
      rw [if_pos ⟨oa, ob⟩]
      show (if (fracOf bl).val ≤ 0 ∧ 0 ≤ (fracOf bh).val then _ else endsR quotR none (pairsAll (fracOf al).val (fracOf ah).val (fracOf bl).val (fracOf bh).val)) = _
      simp only [fracOf_val]
      rfl
    by_cases hz : bl ≤ 0 ∧ 0 ≤ bh
    · rw [e, if_pos hz] at he; simp at he
    · rw [if_neg hz] at e
      refine encl_four (Or.inr (Or.inr (Or.inr rfl))) e.symm he (fun _ => hz) (fun lo hi x y x1 x2 y1 y2 m1 m2 m3 m4 => ?_)
      have d : ∀ p q : Rat, opv 3 p q = p * q⁻¹ := fun p q => Rat.div_def p q
      rw [d] at m1 m2 m3 m4 ⊢
      have hs : 0 < bl ∨ bh < 0 := by grind
      rcases hs with hs | hs
      · exact four_between x1 x2 (inv_le (by grind) y2) (inv_le hs y1) m2 m1 m4 m3
      · exact four_between x1 x2 (inv_le_neg hs y2) (inv_le_neg (by grind) y1) m2 m1 m4 m3
end Go.Proofs.YtodoimeiklilhaaDoor

/- The plain laws behind ExactWithin, ExactEncloses, ExactMeets, ExactTight. No program in sight. -/
namespace Go.Proofs.YtodoimeiklilhaaDoor

theorem mkSpan_ok_iff {lo hi : Rat} (h1 : Fits lo) (h2 : Fits hi) : (mkSpan lo hi).ok ↔ lo ≤ hi := by
  constructor
  · intro h
    have := h.2.2
    simp only [mkSpan, fracOf_val] at this
    exact this
  · exact mkSpan_ok h1 h2
theorem inR_zero {s : Span} {x : Frac} (h : (inR s x).2 = 0) : ∃ lo hi q, Fits lo ∧ Fits hi ∧ lo ≤ hi ∧ Fits q ∧ s = mkSpan lo hi ∧ x = fracOf q ∧ inR s x = (decide (lo ≤ q ∧ q ≤ hi), 0) := by
  unfold inR at h ⊢
  by_cases hn : s.ok ∧ x.ok
  · obtain ⟨lo, hi, f1, f2, f3, rfl⟩ := Span.of_ok hn.1
    obtain ⟨q, hq, rfl⟩ := Frac.of_ok hn.2
    refine ⟨lo, hi, q, f1, f2, f3, hq, rfl, rfl, ?_⟩
    rw [if_pos hn]
    show (decide ((fracOf lo).val ≤ (fracOf q).val ∧ (fracOf q).val ≤ (fracOf hi).val), (0 : Int)) = _
    simp only [fracOf_val]
  · rw [if_neg hn] at h; simp at h
theorem inR_mk {lo hi q : Rat} (f1 : Fits lo) (f2 : Fits hi) (h : lo ≤ hi) (hq : Fits q) : inR (mkSpan lo hi) (fracOf q) = (decide (lo ≤ q ∧ q ≤ hi), 0) := by
  unfold inR
  rw [if_pos ⟨mkSpan_ok f1 f2 h, fracOf_ok hq⟩]
  show (decide ((fracOf lo).val ≤ (fracOf q).val ∧ (fracOf q).val ≤ (fracOf hi).val), (0 : Int)) = _
  simp only [fracOf_val]
theorem mkSpan_inj {a b c d : Rat} (h : mkSpan a b = mkSpan c d) : a = c ∧ b = d := by
  unfold mkSpan at h
  rw [Span.mk.injEq] at h
  exact ⟨fracOf_inj h.1, fracOf_inj h.2⟩
theorem within_mk {cl ch al ah : Rat} (f1 : Fits cl) (f2 : Fits ch) (f3 : Fits al) (f4 : Fits ah) (hc : cl ≤ ch) (ha : al ≤ ah) :
    withinR (mkSpan cl ch) (mkSpan al ah) = decide (al ≤ cl ∧ ch ≤ ah) := by
  unfold withinR
  show (decide ((inR (mkSpan al ah) (fracOf cl)).2 = 0) && (decide ((inR (mkSpan al ah) (fracOf ch)).2 = 0) && ((inR (mkSpan al ah) (fracOf cl)).1 && ((inR (mkSpan al ah) (fracOf ch)).1 && decide (checkSpanR (mkSpan cl ch) = 0))))) = _
  rw [inR_mk f3 f4 ha f1, inR_mk f3 f4 ha f2]
  have : checkSpanR (mkSpan cl ch) = 0 := if_pos (mkSpan_ok f1 f2 hc)
  rw [this, Bool.eq_iff_iff]
  simp
  constructor
  · rintro ⟨⟨h1, h2⟩, h3, h4⟩; exact ⟨h1, h4⟩
  · rintro ⟨h1, h2⟩; refine ⟨⟨h1, ?_⟩, ?_, h2⟩ <;> grind
theorem within_true {c a : Span} (h : withinR c a = true) : ∃ cl ch al ah, Fits cl ∧ Fits ch ∧ Fits al ∧ Fits ah ∧ cl ≤ ch ∧ al ≤ ah ∧ c = mkSpan cl ch ∧ a = mkSpan al ah ∧ al ≤ cl ∧ ch ≤ ah := by
  have h' := h
  unfold withinR at h'
  simp only [Bool.and_eq_true, decide_eq_true_eq] at h'
  obtain ⟨h1, h2, h3, h4, h5⟩ := h'
  have hc : c.ok := by
    unfold checkSpanR at h5
    by_cases k : c.ok
    · exact k
    · rw [if_neg k] at h5; simp at h5
  obtain ⟨cl, ch, g1, g2, g3, rfl⟩ := Span.of_ok hc
  obtain ⟨al, ah, q, f1, f2, f3, f4, rfl, -, -⟩ := inR_zero h1
  rw [within_mk g1 g2 f1 f2 g3 f3, decide_eq_true_eq] at h
  exact ⟨cl, ch, al, ah, g1, g2, f1, f2, g3, f3, rfl, rfl, h.1, h.2⟩
theorem how4 (how : Int) : how % 4 = 0 ∨ how % 4 = 1 ∨ how % 4 = 2 ∨ how % 4 = 3 := by omega
/-- an end of an enclosure lies in it -/
theorem opv_end {k : Int} {al ah bl bh p q : Rat} (hp : p = al ∨ p = ah) (hq : q = bl ∨ q = bh) (ha : al ≤ ah) (hb : bl ≤ bh) : al ≤ p ∧ p ≤ ah ∧ bl ≤ q ∧ q ≤ bh := by
  rcases hp with rfl | rfl <;> rcases hq with rfl | rfl <;> grind
theorem within_law (how : Int) (a b c d : Span) (h1 : withinR c a = true) (h2 : withinR d b = true) (h3 : (sR (how % 4) a b).2 = 0) (h4 : (sR (how % 4) c d).2 = 0) :
    withinR (boxSpan (sR (how % 4) c d).1) (boxSpan (sR (how % 4) a b).1) = true := by
  obtain ⟨cl, ch, al, ah, f1, f2, f3, f4, c1, a1, rfl, rfl, m1, m2⟩ := within_true h1
  obtain ⟨dl, dh, bl, bh, g1, g2, g3, g4, d1, b1, rfl, rfl, m3, m4⟩ := within_true h2
  obtain ⟨lo, hi, e1, E1⟩ := encl_of (how4 how) f3 f4 g3 g4 a1 b1 h3
  obtain ⟨lo', hi', e2, E2⟩ := encl_of (how4 how) f1 f2 g1 g2 c1 d1 h4
  rw [e1, e2]
  show withinR (mkSpan lo' hi') (mkSpan lo hi) = true
  rw [within_mk E2.fits.1 E2.fits.2 E1.fits.1 E1.fits.2 E2.le E1.le, decide_eq_true_eq]
  obtain ⟨p, q, hp, hq, -, rfl⟩ := E2.low
  obtain ⟨p', q', hp', hq', -, rfl⟩ := E2.high
  have o1 := opv_end (k := how % 4) hp hq c1 d1
  have o2 := opv_end (k := how % 4) hp' hq' c1 d1
  exact ⟨(E1.all p q (by grind) (by grind) (by grind) (by grind)).1, (E1.all p' q' (by grind) (by grind) (by grind) (by grind)).2⟩
theorem answer_err (v : Rat) : (answer v).2 = 0 ∨ (answer v).2 = 4 := by unfold answer; split <;> simp
theorem nm_zero {q : Rat} (h : nm q = 0) : q = 0 := Rat.num_eq_zero.1 h
theorem ratOp_err {k : Int} (hk : k = 0 ∨ k = 1 ∨ k = 2 ∨ k = 3) {p q : Rat} (hz : k = 3 → q ≠ 0) : (ratOp k p q).2 = 0 ∨ (ratOp k p q).2 = 4 := by
  rcases hk with rfl | rfl | rfl | rfl
  · exact answer_err _
  · exact answer_err _
  · exact answer_err _
  · show (quotR p q).2 = 0 ∨ (quotR p q).2 = 4
    unfold quotR
    rw [if_neg (fun h => hz rfl (nm_zero h))]
    exact answer_err _
theorem ends_err4 {f : Rat → Rat → Frac × Int} : ∀ (l : List (Rat × Rat)) (s : Box), (∀ pq ∈ l, (f pq.1 pq.2).2 = 0 ∨ (f pq.1 pq.2).2 = 4) → (endsR f s l).2 = 0 ∨ (endsR f s l).2 = 4
  | [], s, _ => Or.inl rfl
  | (p, q) :: l, s, h => by
    have h0 := h (p, q) (by simp)
    simp only [endsR]
    by_cases hz : (f p q).2 = 0
    · rw [if_pos hz]; exact ends_err4 l _ (fun pq hm => h pq (by simp [hm]))
    · rw [if_neg hz]; rcases h0 with h0 | h0
      · exact absurd h0 hz
      · exact Or.inr h0
theorem sR_err {k : Int} (hk : k = 0 ∨ k = 1 ∨ k = 2 ∨ k = 3) {al ah bl bh : Rat} (f1 : Fits al) (f2 : Fits ah) (f3 : Fits bl) (f4 : Fits bh) (ha : al ≤ ah) (hb : bl ≤ bh)
    (he : (sR k (mkSpan al ah) (mkSpan bl bh)).2 ≠ 0) : (sR k (mkSpan al ah) (mkSpan bl bh)).2 = 4 ∨ k = 3 ∧ (sR k (mkSpan al ah) (mkSpan bl bh)).2 = 10 := by
  have oa := mkSpan_ok f1 f2 ha
  have ob := mkSpan_ok f3 f4 hb
  rcases hk with rfl | rfl | rfl | rfl
  · have e : sR 0 (mkSpan al ah) (mkSpan bl bh) = endsR (ratOp 0) none [(al, bl), (ah, bh)] := spanR_ok _ _ oa ob
    rw [e] at he ⊢
    exact Or.inl ((ends_err4 _ _ (fun pq _ => ratOp_err (Or.inl rfl) (by simp))).resolve_left he)
  · have e : sR 1 (mkSpan al ah) (mkSpan bl bh) = endsR (ratOp 1) none [(al, bh), (ah, bl)] := spanR_ok _ _ oa ob
    rw [e] at he ⊢
    exact Or.inl ((ends_err4 _ _ (fun pq _ => ratOp_err (Or.inr (Or.inl rfl)) (by simp))).resolve_left he)
  · have e : sR 2 (mkSpan al ah) (mkSpan bl bh) = endsR (ratOp 2) none (pairsAll al ah bl bh) := spanR_ok _ _ oa ob
    rw [e] at he ⊢
    exact Or.inl ((ends_err4 _ _ (fun pq _ => ratOp_err (Or.inr (Or.inr (Or.inl rfl))) (by simp))).resolve_left he)
  · have e : sR 3 (mkSpan al ah) (mkSpan bl bh) = if bl ≤ 0 ∧ 0 ≤ bh then (none, 10) else endsR (ratOp 3) none (pairsAll al ah bl bh) := by
      show divSpanR _ _ = _
      unfold divSpanR
      rw [if_pos ⟨oa, ob⟩]
      show (if (fracOf bl).val ≤ 0 ∧ 0 ≤ (fracOf bh).val then _ else endsR quotR none (pairsAll (fracOf al).val (fracOf ah).val (fracOf bl).val (fracOf bh).val)) = _
      simp only [fracOf_val]
      rfl
    by_cases hz : bl ≤ 0 ∧ 0 ≤ bh
    · rw [if_pos hz] at e; rw [e]; exact Or.inr ⟨rfl, rfl⟩
    · rw [if_neg hz] at e
      rw [e] at he ⊢
      refine Or.inl ((ends_err4 _ _ (fun pq hm => ratOp_err (Or.inr (Or.inr (Or.inr rfl))) (fun _ => ?_))).resolve_left he)
      simp [pairsAll] at hm
      rcases hm with rfl | rfl | rfl | rfl <;> grind
theorem zR_mk {k : Int} {p q : Rat} (hp : Fits p) (hq : Fits q) : zR k (fracOf p) (fracOf q) = ratOp k p q := opR_ok _ hp hq
theorem encloses_law (how : Int) (a b : Span) (x y : Frac) : (inR a x).1 = true → (inR b y).1 = true → (inR a x).2 = 0 → (inR b y).2 = 0 →
    ((sR (how % 4) a b).2 ≠ 0 → (sR (how % 4) a b).2 = 4 ∨ how % 4 = 3 ∧ (sR (how % 4) a b).2 = 10) ∧
    ((sR (how % 4) a b).2 = 0 → checkSpanR (boxSpan (sR (how % 4) a b).1) = 0 ∧ ((zR (how % 4) x y).2 ≠ 0 → (zR (how % 4) x y).2 = 4) ∧
      ((zR (how % 4) x y).2 = 0 → (inR (boxSpan (sR (how % 4) a b).1) (zR (how % 4) x y).1).1 = true ∧ (inR (boxSpan (sR (how % 4) a b).1) (zR (how % 4) x y).1).2 = 0)) := by
  intro h1 h2 h3 h4
  obtain ⟨al, ah, p, f1, f2, f3, f4, rfl, rfl, e1⟩ := inR_zero h3
  obtain ⟨bl, bh, q, g1, g2, g3, g4, rfl, rfl, e2⟩ := inR_zero h4
  rw [e1, decide_eq_true_eq] at h1
  rw [e2, decide_eq_true_eq] at h2
  refine ⟨fun he => sR_err (how4 how) f1 f2 g1 g2 f3 g3 he, fun he => ?_⟩
  obtain ⟨lo, hi, es, E⟩ := encl_of (how4 how) f1 f2 g1 g2 f3 g3 he
  rw [es, zR_mk f4 g4]
  refine ⟨if_pos (mkSpan_ok E.fits.1 E.fits.2 E.le), fun hz => (ratOp_err (how4 how) (fun k e => ?_)).resolve_left hz, fun hz => ?_⟩
  · have := E.zero k; grind
  · obtain ⟨fz, ez⟩ := ratOp_zero (how4 how) hz
    rw [ez]
    show (inR (mkSpan lo hi) (fracOf _)).1 = true ∧ (inR (mkSpan lo hi) (fracOf _)).2 = 0
    rw [inR_mk E.fits.1 E.fits.2 E.le fz]
    exact ⟨decide_eq_true (E.all p q h1.1 h1.2 h2.1 h2.2), rfl⟩
theorem meets_law (a b : Span) (x : Frac) : (inR a x).2 = 0 → (inR b x).2 = 0 →
    (joinR a b).2 = 0 ∧ (inR (boxSpan (joinR a b).1) x).2 = 0 ∧ ((inR a x).1 = true ∨ (inR b x).1 = true → (inR (boxSpan (joinR a b).1) x).1 = true) ∧
    withinR a (boxSpan (joinR a b).1) = true ∧ withinR b (boxSpan (joinR a b).1) = true ∧ ((meetR a b).2 ≠ 0 → (meetR a b).2 = 6 ∧ ¬ ((inR a x).1 = true ∧ (inR b x).1 = true)) ∧
    ((meetR a b).2 = 0 → (inR (boxSpan (meetR a b).1) x).2 = 0 ∧ (inR (boxSpan (meetR a b).1) x).1 = ((inR a x).1 && (inR b x).1)) := by
  intro h3 h4
  obtain ⟨al, ah, p, f1, f2, f3, f4, rfl, rfl, e1⟩ := inR_zero h3
  obtain ⟨bl, bh, q, g1, g2, g3, g4, rfl, ex, e2⟩ := inR_zero h4
  obtain rfl := fracOf_inj ex
  have oa := mkSpan_ok f1 f2 f3
  have ob := mkSpan_ok g1 g2 g3
  have ej : joinR (mkSpan al ah) (mkSpan bl bh) = (some (ratMin al bl, ratMax ah bh), 0) := by
    unfold joinR
    rw [if_pos ⟨oa, ob⟩]
    show (some (ratMin (fracOf al).val (fracOf bl).val, ratMax (fracOf ah).val (fracOf bh).val), (0 : Int)) = _
    simp only [fracOf_val]
  have em : meetR (mkSpan al ah) (mkSpan bl bh) = if ratMax al bl ≤ ratMin ah bh then (some (ratMax al bl, ratMin ah bh), 0) else (none, 6) := by
    unfold meetR
    rw [if_pos ⟨oa, ob⟩]
    show (if ratMax (fracOf al).val (fracOf bl).val ≤ ratMin (fracOf ah).val (fracOf bh).val then (some (ratMax (fracOf al).val (fracOf bl).val, ratMin (fracOf ah).val (fracOf bh).val), (0 : Int)) else _) = _
    simp only [fracOf_val]
  have j1 := min_le_l al bl
  have j2 := min_le_r al bl
  have j3 := le_max_l ah bh
  have j4 := le_max_r ah bh
  have fl := min_fits f1 g1
  have fh := max_fits f2 g2
  have hle : ratMin al bl ≤ ratMax ah bh := by grind
  rw [ej, em, e1, e2]
  show _ ∧ (inR (mkSpan _ _) _).2 = 0 ∧ (_ → (inR (mkSpan _ _) _).1 = true) ∧ withinR _ (mkSpan _ _) = true ∧ withinR _ (mkSpan _ _) = true ∧ _
  rw [inR_mk fl fh hle f4, within_mk f1 f2 fl fh f3 hle, within_mk g1 g2 fl fh g3 hle]
  refine ⟨rfl, rfl, ?_, decide_eq_true ⟨j1, j3⟩, decide_eq_true ⟨j2, j4⟩, ?_, ?_⟩
  · simp only [decide_eq_true_eq]; grind
  · intro h
    by_cases hm : ratMax al bl ≤ ratMin ah bh
    · rw [if_pos hm] at h; simp at h
    · rw [if_neg hm]
      refine ⟨rfl, ?_⟩
      simp only [decide_eq_true_eq]
      have := max_or al bl
      have := min_or ah bh
      grind
  · intro h
    by_cases hm : ratMax al bl ≤ ratMin ah bh
    · rw [if_pos hm]
      show (inR (mkSpan _ _) _).2 = 0 ∧ (inR (mkSpan _ _) _).1 = _
      rw [inR_mk (max_fits f1 g1) (min_fits f2 g2) hm f4]
      refine ⟨rfl, ?_⟩
      rw [Bool.eq_iff_iff]
      simp only [decide_eq_true_eq, Bool.and_eq_true]
      have := max_or al bl
      have := min_or ah bh
      have := le_max_l al bl
      have := le_max_r al bl
      have := min_le_l ah bh
      have := min_le_r ah bh
      grind
    · rw [if_neg hm] at h; simp at h
end Go.Proofs.YtodoimeiklilhaaDoor

/- What the operations answer fits into words. No program in sight. -/
namespace Go.Proofs.YtodoimeiklilhaaDoor

theorem zero_in : InI64 0 := by unfold InI64; omega
theorem boxSpan_wide {s : Box} (h : BoxFits s) : (boxSpan s).wide := by
  cases s with
  | none => exact ⟨⟨zero_in, zero_in⟩, ⟨zero_in, zero_in⟩⟩
  | some b => exact mkSpan_wide (h b rfl).1 (h b rfl).2
theorem zero_wide : Frac.wide ⟨0, 0⟩ := ⟨zero_in, zero_in⟩
theorem answer_wide (v : Rat) : (answer v).1.wide := by
  unfold answer
  by_cases h : Fits v
  · rw [if_pos h]; exact wide_of h
  · rw [if_neg h]; exact zero_wide
theorem quotR_wide (p q : Rat) : (quotR p q).1.wide := by
  unfold quotR
  by_cases h : nm q = 0
  · rw [if_pos h]; exact zero_wide
  · rw [if_neg h]; exact answer_wide _
theorem ratOp_wide (k : Int) (p q : Rat) : (ratOp k p q).1.wide := by
  unfold ratOp
  split
  · exact answer_wide _
  split
  · exact answer_wide _
  split
  · exact answer_wide _
  · exact quotR_wide _ _
theorem opR_wide (f : Rat → Rat → Frac × Int) (hf : ∀ p q, (f p q).1.wide) (a b : Frac) : (opR f a b).1.wide := by
  unfold opR
  by_cases h : a.ok ∧ b.ok
  · rw [if_pos h]; exact hf _ _
  · rw [if_neg h]; exact zero_wide
theorem zR_wide (k : Int) (x y : Frac) : (zR k x y).1.wide := opR_wide _ (ratOp_wide k) _ _
theorem none_fits : BoxFits none := fun b h => by cases h
theorem ends_fits {f : Rat → Rat → Frac × Int} (hf : ∀ p q, (f p q).2 = 0 → Fits (f p q).1.val) : ∀ (l : List (Rat × Rat)) (s : Box), BoxFits s → BoxFits (endsR f s l).1
  | [], s, h => h
  | (p, q) :: l, s, h => by
    simp only [endsR]
    by_cases hz : (f p q).2 = 0
    · rw [if_pos hz]; exact ends_fits hf l _ (step_fits h (hf p q hz))
    · rw [if_neg hz]; exact none_fits
theorem ratOp_val {k : Int} (hk : k = 0 ∨ k = 1 ∨ k = 2 ∨ k = 3) (p q : Rat) (h : (ratOp k p q).2 = 0) : Fits (ratOp k p q).1.val := by
  obtain ⟨f, e⟩ := ratOp_zero hk h
  rw [e, fracOf_val]
  exact f
theorem sR_fits (how : Int) (a b : Span) : BoxFits (sR (how % 4) a b).1 := by
  have key : ∀ k : Int, (k = 0 ∨ k = 1 ∨ k = 2 ∨ k = 3) → ∀ l, BoxFits (endsR (ratOp k) none l).1 := fun k hk l => ends_fits (ratOp_val hk) l none none_fits
  rcases how4 how with h | h | h | h <;> rw [h]
  · show BoxFits (spanR _ _ a b).1
    unfold spanR
    split
    · exact key 0 (by simp) _
    · exact none_fits
  · show BoxFits (spanR _ _ a b).1
    unfold spanR
    split
    · exact key 1 (by simp) _
    · exact none_fits
  · show BoxFits (spanR _ _ a b).1
    unfold spanR
    split
    · exact key 2 (by simp) _
    · exact none_fits
  · show BoxFits (divSpanR a b).1
    unfold divSpanR
    split
    · split
      · exact none_fits
      · exact key 3 (by simp) _
    · exact none_fits
theorem ok_val {a : Frac} (h : a.ok) : Fits a.val := by
  obtain ⟨q, hq, rfl⟩ := Frac.of_ok h
  rw [fracOf_val]
  exact hq
theorem joinR_fits (a b : Span) : BoxFits (joinR a b).1 := by
  unfold joinR
  by_cases h : a.ok ∧ b.ok
  · rw [if_pos h]
    intro c hc
    obtain rfl := Option.some.inj hc
    exact ⟨min_fits (ok_val h.1.1) (ok_val h.2.1), max_fits (ok_val h.1.2.1) (ok_val h.2.2.1)⟩
  · rw [if_neg h]; exact none_fits
theorem meetR_fits (a b : Span) : BoxFits (meetR a b).1 := by
  unfold meetR
  by_cases h : a.ok ∧ b.ok
  · rw [if_pos h]
    split
    · intro c hc
      obtain rfl := Option.some.inj hc
      exact ⟨max_fits (ok_val h.1.1) (ok_val h.2.1), min_fits (ok_val h.1.2.1) (ok_val h.2.2.1)⟩
    · exact none_fits
  · rw [if_neg h]; exact none_fits
end Go.Proofs.YtodoimeiklilhaaDoor
