/- The law FindCut: the walk. -/
import Derived.Test.YtipkjdfnoonpcaaCutPlain
import Derived.Test.YtipkjdfnoonpcaaBytes
set_option linter.unusedVariables false
set_option linter.unusedSimpArgs false
namespace Go.Proofs.Ytipkjdfnoonpcaa
open Go.RowKit Go.Sort

def seenM (y : Match) (l : List Match) : Bool := l.any fun x => decide (x = y)
theorem seenM_step (y : Match) {l : List Match} {i : Nat} (h : i < l.length) : seenM y (l.take (i + 1)) = (seenM y (l.take i) || decide (l.getD i match0 = y)) := by
  unfold seenM
  rw [take_snoc_at match0 h, List.any_append]
  simp
theorem match_beq (x : Match) (a b : Int) : decide (x = (⟨⟨a, b, 0, 2⟩, 0⟩ : Match)) = ((x.pose.x == a) && ((x.pose.y == b) && ((x.pose.turn == 0) && ((x.pose.scale == 2) && (x.dist == 0))))) := by
  obtain ⟨⟨x0, x1, x2, x3⟩, x4⟩ := x
  rw [Bool.eq_iff_iff]
  simp
  constructor
  · rintro ⟨⟨h1, h2, h3, h4⟩, h5⟩; exact ⟨h1, h2, h3, h4, h5⟩
  · rintro ⟨h1, h2, h3, h4, h5⟩; exact ⟨⟨h1, h2, h3, h4⟩, h5⟩
theorem bounds_u8' {x : Int} (h : (Lit.int .u8 x).wf = true) : 0 ≤ x ∧ x ≤ 255 := by
  simp only [Lit.wf, Bool.and_eq_true, decide_eq_true_eq] at h
  exact h
theorem info3c : (Try.prog.info? 3).map (fun i => (i.zero, i.size, i.bytes)) = some (some (.int .i64 0), 1, 8) := by kernel_rfl
set_option maxRecDepth 100000 in
set_option maxHeartbeats 32000000 in
theorem c12 (m : Img) (mv : Value) (x y p q : Int) (fr : List Nat) (fv : Value) (w : World) (hm : IntsAt w mv m.pix) (hml : m.pix.length * 8 ≤ 140737488351232) (hx : 0 ≤ x ∧ x ≤ 255) (hy : 0 ≤ y ∧ y ≤ 255) (hp : 0 ≤ p ∧ p ≤ 255) (hq : 0 ≤ q ∧ q ≤ 255)
    (hf : BytesAt w fv fr) (hfl : fr.length ≤ maxLen) (hfb : ∀ b ∈ fr, b < 256) :
    Calls Try.prog 12 #[imgVal m mv, .int .u8 x, .int .u8 y, .int .u8 p, .int .u8 q, fv] w fun e w' => e = .returned (.bool true) ∧ Ext w w' := by
  have h1m : m.pix.length ≤ maxLen := by unfold maxLen; omega
  have HML := Lib.hid h1m
  have HV := Lib.hid hm
  have HFR := Lib.hid hf
  have HB := Lib.hid hfb
  obtain ⟨io, ic, rfl, -, hcell⟩ := hm.form
  obtain ⟨fo, fc, rfl, -, -⟩ := hf.form
  have K42 := Lib.hid (fun w' (h : Ext w w') => c42 m _ w' (HV.out.ext h) h1m)
  by_cases hc : m.Camera
  case neg =>
    rw [decide_eq_false hc] at K42
    clear hc hm hml hf hfb hcell h1m
    unfold imgVal at *
    go_enter Try.func12, Try.ntmps12
    go_wp2_with (first | (have _q := E1; go_at_call 42; (with_reducible refine (K42.out _ E1.out).mono ?_); rintro E w2 ⟨rfl, hb2⟩; have E2 := Lib.hid (E1.out.trans hb2); have A2 := Lib.hid (show At w2 [(w.heap.size, Obj.cells #[.int .i64 m.w, .int .i64 m.h, .slice io m.pix.length ic] 24)] from At.ext hb2 A1.out); obtain ⟨⟨y00, y01, y02⟩, -⟩ := run_3 (At.at A2.out 0 rfl); have yz0 := At.lt A2.out 0 rfl; have yy0 := Nat.lt_succ_of_lt yz0; have yx0 := Nat.lt_succ_of_lt yy0; clear x00 x01 x02 xz0 xy0 xx0) | (go_at_call 39; (with_reducible refine (c39 _).mono ?_); rintro E w1 ⟨rfl, hb1⟩; have E1 := Lib.hid (show Ext w w1 from (by repeat (first | exact Ext.refl _ | assumption | refine Ext.alloc ?_ _ | refine Ext.drewN ?_ _ | refine ext_grow ?_ _ _ | refine Ext.trans ?_ (by assumption)))); have A1 := Lib.hid (show At w1 [(w.heap.size, Obj.cells #[.int .i64 m.w, .int .i64 m.h, .slice io m.pix.length ic] 24)] from At.ext hb1 ⟨(by repeat (first | (refine blk_at _ _ ?_; (first | rfl | (simp only [size_one]; done))) | refine (blk_past _ _ (by simp only [size_one]; omega)).trans ?_)), trivial⟩); obtain ⟨⟨x00, x01, x02⟩, -⟩ := run_3 (At.at A1.out 0 rfl); have xz0 := At.lt A1.out 0 rfl; have xy0 := Nat.lt_succ_of_lt xz0; have xx0 := Nat.lt_succ_of_lt xy0))
    go_ret
    exact ⟨rfl, E2.out⟩
  rw [decide_eq_true hc] at K42
  have HC := Lib.hid hc
  obtain ⟨pb, pf, hio, -⟩ := hcell 0 (by have := (Img.len_bd hc.1).1; omega)
  subst hio
  have HCELL := Lib.hid hcell
  obtain ⟨i3, hi3, hz3, hs3, hy3⟩ := info_parts info3c
  unfold maxLen at hfl
  obtain ⟨⟨ms1, ms2⟩, ⟨ms3, ms4⟩, -⟩ := hc.1
  obtain ⟨x0, hx0⟩ : ∃ r, x.tmod m.w = r := ⟨_, rfl⟩
  obtain ⟨y0, hy0⟩ : ∃ r, y.tmod m.h = r := ⟨_, rfl⟩
  have rem : ∀ x n : Int, 0 ≤ x → 1 ≤ n → 0 ≤ x.tmod n ∧ x.tmod n ≤ n - 1 := fun x n h1 h2 => by
    rw [Int.tmod_eq_emod_of_nonneg h1]
    have e1 := Int.emod_nonneg x (show n ≠ 0 by omega)
    have e2 := Int.emod_lt_of_pos x (show 0 < n by omega)
    omega
  have bx := rem x m.w hx.1 ms1
  have by_ := rem y m.h hy.1 ms3
  rw [hx0] at bx
  rw [hy0] at by_
  obtain ⟨bx1, bx2⟩ := bx
  obtain ⟨by1, by2⟩ := by_
  obtain ⟨dw, hdw⟩ : ∃ d, m.w - x0 = d := ⟨_, rfl⟩
  obtain ⟨dh, hdh⟩ : ∃ d, m.h - y0 = d := ⟨_, rfl⟩
  obtain ⟨pw, hpw⟩ : ∃ d, min dw 8 = d := ⟨_, rfl⟩
  obtain ⟨ph, hph⟩ : ∃ d, min dh 8 = d := ⟨_, rfl⟩
  have pwb : 1 ≤ pw ∧ pw ≤ 8 ∧ pw ≤ dw := by omega
  have phb : 1 ≤ ph ∧ ph ≤ 8 ∧ ph ≤ dh := by omega
  have bp := rem p pw hp.1 pwb.1
  have bq := rem q ph hq.1 phb.1
  obtain ⟨tw, htw⟩ : ∃ d, p.tmod pw + 1 = d := ⟨_, rfl⟩
  obtain ⟨th, hth⟩ : ∃ d, q.tmod ph + 1 = d := ⟨_, rfl⟩
  have twb : (1 ≤ tw ∧ tw ≤ 8) ∧ x0 + tw ≤ m.w := by omega
  have thb : (1 ≤ th ∧ th ≤ 8) ∧ y0 + th ≤ m.h := by omega
  have m1 : (if dw < 8 then dw else 8) = pw := by rw [← hpw]; split <;> omega
  have m2 : (if 8 < dw then 8 else dw) = pw := by rw [← hpw]; split <;> omega
  have m3 : (if dh < 8 then dh else 8) = ph := by rw [← hph]; split <;> omega
  have m4 : (if 8 < dh then 8 else dh) = ph := by rw [← hph]; split <;> omega
  have a1 : IntKind.i64.wrap (m.w - x0) = dw := by rw [hdw]; exact IntWalk.i64_in _ (by omega)
  have a2 : IntKind.i64.wrap (m.h - y0) = dh := by rw [hdh]; exact IntWalk.i64_in _ (by omega)
  have a3 : IntKind.i64.wrap (p.tmod pw + 1) = tw := by rw [htw]; exact IntWalk.i64_in _ (by omega)
  have a4 : IntKind.i64.wrap (q.tmod ph + 1) = th := by rw [hth]; exact IntWalk.i64_in _ (by omega)
  have a5 : p.tmod pw + 1 = tw := htw
  have a6 : q.tmod ph + 1 = th := hth
  have a7 : p % pw + 1 = tw := by rw [← Int.tmod_eq_emod_of_nonneg hp.1]; exact htw
  have a8 : q % ph + 1 = th := by rw [← Int.tmod_eq_emod_of_nonneg hq.1]; exact hth
  have z1 : (m.w == 0) = false := by simp; omega
  have z2 : (m.h == 0) = false := by simp; omega
  have z3 : (pw == 0) = false := by simp; omega
  have z4 : (ph == 0) = false := by simp; omega
  obtain ⟨N, hN⟩ : ∃ N : Nat, tw * th = (N : Int) := ⟨(tw * th).toNat, by
    have := Int.mul_nonneg (show 0 ≤ tw by omega) (show 0 ≤ th by omega); omega⟩
  have hN64 : N ≤ 64 := by
    have := Int.mul_le_mul twb.1.2 thb.1.2 (by omega) (by omega); omega
  have KF := Lib.hid (fun (ps : List Int) (h1 : ps.length = N) (h2 : CutPix m x0 y0 tw ps) => (show CutAt m x0 y0 tw th ps from ⟨⟨bx1, twb.2⟩, ⟨by1, thb.2⟩, twb.1, thb.1, by rw [h1, hN], h2⟩))
  have HIN := Lib.hid (fun (j : Nat) (hj : j < N) => cut_place (tw := tw) (th := th) (j := (j : Int)) twb.1.1 (by omega) (by rw [hN]; omega))
  have HNN := Lib.hid hN
  obtain ⟨⟨tw1, tw2⟩, tw3⟩ := twb
  obtain ⟨⟨th1, th2⟩, th3⟩ := thb
  obtain ⟨x1, x2⟩ := hx
  obtain ⟨y1, y2⟩ := hy
  obtain ⟨p1, p2⟩ := hp
  obtain ⟨q1, q2⟩ := hq
  obtain ⟨pw1, pw2, -⟩ := pwb
  obtain ⟨ph1, ph2, -⟩ := phb
  obtain ⟨bp1, bp2⟩ := bp
  obtain ⟨bq1, bq2⟩ := bq
  clear hdw hdh htw hth rem hN
  unfold imgVal at *
  clear hc hm hml hf hfb hcell h1m
  go_enter Try.func12, Try.ntmps12
  go_wp2_with (first | (have _q := E1; go_at_call 42; (with_reducible refine (K42.out _ E1.out).mono ?_); rintro E w2 ⟨rfl, hb2⟩; have E2 := Lib.hid (E1.out.trans hb2); have A2 := Lib.hid (show At w2 [(w.heap.size, Obj.cells #[.int .i64 m.w, .int .i64 m.h, .slice (some ⟨pb, pf, none⟩) m.pix.length ic] 24)] from At.ext hb2 A1.out); obtain ⟨⟨y00, y01, y02⟩, -⟩ := run_3 (At.at A2.out 0 rfl); have yz0 := At.lt A2.out 0 rfl; have yy0 := Nat.lt_succ_of_lt yz0; have yx0 := Nat.lt_succ_of_lt yy0; clear x00 x01 x02 xz0 xy0 xx0) | (go_at_call 39; (with_reducible refine (c39 _).mono ?_); rintro E w1 ⟨rfl, hb1⟩; have E1 := Lib.hid (show Ext w w1 from (by repeat (first | exact Ext.refl _ | assumption | refine Ext.alloc ?_ _ | refine Ext.drewN ?_ _ | refine ext_grow ?_ _ _ | refine Ext.trans ?_ (by assumption)))); have A1 := Lib.hid (show At w1 [(w.heap.size, Obj.cells #[.int .i64 m.w, .int .i64 m.h, .slice (some ⟨pb, pf, none⟩) m.pix.length ic] 24)] from At.ext hb1 ⟨(by repeat (first | (refine blk_at _ _ ?_; (first | rfl | (simp only [size_one]; done))) | refine (blk_past _ _ (by simp only [size_one]; omega)).trans ?_)), trivial⟩); obtain ⟨⟨x00, x01, x02⟩, -⟩ := run_3 (At.at A1.out 0 rfl); have xz0 := At.lt A1.out 0 rfl; have xy0 := Nat.lt_succ_of_lt xz0; have xx0 := Nat.lt_succ_of_lt xy0))
  go_quiet (fail)
  have hb3 : Ext w2 (w2.drewN nq) := (Ext.refl _).drewN nq
  generalize hw3 : w2.drewN nq = w3 at hb3 ⊢
  clear hw3
  have E3 := Lib.hid (E2.out.trans hb3)
  have A3 := Lib.hid (show At w3 [(w.heap.size, Obj.cells #[.int .i64 m.w, .int .i64 m.h, .slice (some ⟨pb, pf, none⟩) m.pix.length ic] 24)] from At.ext hb3 A2.out)
  clear y00 y01 y02 yz0 yy0 yx0
  obtain ⟨⟨z00, z01, z02⟩, -⟩ := run_3 (At.at A3.out 0 rfl)
  have zz0 := At.lt A3.out 0 rfl
  have zy0 := Nat.lt_succ_of_lt zz0
  have zx0 := Nat.lt_succ_of_lt zy0
  clear hb3
  go_wp2
  refine RT.region_one (aq := ?azt) (n := 19) (sx := 16) (vx := 59) (oz := Obj.cells #[.int .i64 0, .int .i64 0, .slice none 0 0] 43) (ox := Obj.cells #[.int .i64 tw, .int .i64 th, .slice none 0 0] 43) (qs1 := [_, _, _, _, _, _, _, _, _, _, _, _, _, _, _, _, _, _, _]) (qs2 := []) (by kernel_rfl) rfl (by kernel_rfl) (by kernel_rfl) rfl (of_decide_eq_true (by kernel_rfl)) rfl rfl (by kernel_rfl) (by kernel_rfl) (by kernel_rfl) ?_ ?_ ?_ ?_
  rotate_left
  · intro e w
    simp [execOp, go_sem, Try.underlying43]
  · intro wq hEq
    have AQ := Lib.hid (show At wq [(w.heap.size, Obj.cells #[.int .i64 m.w, .int .i64 m.h, .slice (some ⟨pb, pf, none⟩) m.pix.length ic] 24)] from At.ext hEq A3.out)
    obtain ⟨⟨q00, q01, q02⟩, -⟩ := run_3 (At.at AQ.out 0 rfl)
    have qz0 := At.lt AQ.out 0 rfl
    have qy0 := Nat.lt_succ_of_lt qz0
    have qx0 := Nat.lt_succ_of_lt qy0
    clear hEq
    simp only [List.cons_append, List.nil_append, List.append_nil]
    repeat (go_big_quiet_step (fail))
    refine wpQuiet_nil ?_
    exact rfl
  · intro e w b h1 h2 h3
    obtain ⟨⟨c0, c1, c2⟩, f0, f1, f2⟩ := run_3 h3
    have h2' : e (.tmp 59) = .agg #[.int .i64 tw, .int .i64 th, .slice none 0 0] := h2
    apply Exists.intro
    apply And.intro
    · simp [execOp, go_sem, h1, h2', c0, c1, c2, f0, f1, f2, Try.underlying43]
      exact rfl
    · exact store_3 h3
  intro TB w5 hE5 hbq hX5
  have A5 := Lib.hid (show At w5 [(TB, Obj.cells #[.int .i64 tw, .int .i64 th, .slice none 0 0] 43), (w.heap.size, Obj.cells #[.int .i64 m.w, .int .i64 m.h, .slice (some ⟨pb, pf, none⟩) m.pix.length ic] 24)] from ⟨hX5, At.ext hE5 A3.out⟩)
  have E5 := Lib.hid (E3.out.trans hE5)
  have hTBw : w.heap.size < TB := Nat.lt_of_lt_of_le (At.lt A3.out 0 rfl) hbq
  clear hX5 hE5
  clear z00 z01 z02 zz0 zy0 zx0
  clear A1 A2 E1 E2 A3 E3 a1 a2 a3 a4 a5 a6 a7 a8 m1 m2 m3 m4 z1 z2 z3 z4 hx0 hy0 hpw hph pw1 pw2 ph1 ph2 bp1 bp2 bq1 bq2
  go_wp2
  go_loopw [17] (fun iv wr => ∃ (ps : List Int) (pv : Value), iv = .int .i64 (ps.length : Int) ∧ ps.length ≤ N ∧ Hid (Ext w wr) ∧ Hid (At wr [(TB, Obj.cells #[.int .i64 tw, .int .i64 th, pv] 43), (w.heap.size, Obj.cells #[.int .i64 m.w, .int .i64 m.h, .slice (some ⟨pb, pf, none⟩) m.pix.length ic] 24)]) ∧ Hid (wr.ownsRow (TB + 1) 3 1 pv ps.length (ints ps)) ∧ Hid (CutPix m x0 y0 tw ps)) (fun iv _ => N - (intOf iv).toNat)
  case atStart => exact ⟨[], .slice none 0 0, rfl, Nat.zero_le _, E5, A5, Lib.hid ⟨rfl, .inl ⟨rfl, rfl⟩⟩, Lib.hid (CutPix.nil _ _ _ _)⟩
  case round =>
    clear E5 A5
    obtain ⟨ps, pv, rfl, hpl, hE, hA, hO, hP⟩ := hrel
    obtain ⟨-, sa, sc, hsv, -⟩ := SlAt.of_owns hO.out
    subst hsv
    have htz := At.lt hA.out 0 rfl
    obtain ⟨⟨x00, x01, x02⟩, xf00, xf01, xf02⟩ := run_3 (At.at hA.out 0 rfl)
    obtain ⟨⟨x10, x11, x12⟩, xf10, xf11, xf12⟩ := run_3 (At.at hA.out 1 rfl)
    have xz0 := At.lt hA.out 0 rfl
    have xy0 := Nat.lt_succ_of_lt xz0
    have xx0 := Nat.lt_succ_of_lt xy0
    have xz1 := At.lt hA.out 1 rfl
    have xy1 := Nat.lt_succ_of_lt xz1
    have xx1 := Nat.lt_succ_of_lt xy1
    by_cases hlt : ps.length < N
    · have hlti : decide ((ps.length : Int) < (N : Int)) = true := decide_eq_true (by omega)
      have hnn := HNN.out
      obtain ⟨⟨g1, g2⟩, g3, g4⟩ := HIN.out ps.length hlt
      obtain ⟨rx, hrx⟩ : ∃ r, (ps.length : Int) % tw = r := ⟨_, rfl⟩
      obtain ⟨qy, hqy⟩ : ∃ r, (ps.length : Int) / tw = r := ⟨_, rfl⟩
      rw [hrx] at g1 g2
      rw [hqy] at g3 g4
      have e1 : (ps.length : Int).tmod tw = rx := by rw [Int.tmod_eq_emod_of_nonneg (by omega)]; exact hrx
      have e2 : (ps.length : Int).tdiv tw = qy := by rw [Int.tdiv_eq_ediv_of_nonneg (by omega)]; exact hqy
      have hin : m.In (x0 + rx) (y0 + qy) := ⟨⟨by omega, by omega⟩, by omega, by omega⟩
      obtain ⟨i1, i2, i3', i4⟩ := Img.idx HC.out.1 hin
      obtain ⟨r1, r2⟩ := Img.at_bd HC.out hin
      obtain ⟨YY, hYY⟩ : ∃ YY, y0 + qy = YY := ⟨_, rfl⟩
      obtain ⟨P1, hP1⟩ : ∃ P1, YY * m.w = P1 := ⟨_, rfl⟩
      rw [hYY, hP1] at i1 i2 i3' i4
      obtain ⟨b9, off9, hio, c0⟩ := HCELL.out (P1 + (x0 + rx)).toNat (by omega)
      have e9 : m.pix.getD (P1 + (x0 + rx)).toNat 0 = m.at (x0 + rx) (y0 + qy) := by rw [← hP1, ← hYY]; rfl
      rw [e9] at c0
      cases hio
      replace c0 := hE.out.get c0
      have zc := World.block_lt_of_cell? _ _ c0
      simp only at zc
      obtain ⟨r, hr⟩ : ∃ r, m.at (x0 + rx) (y0 + qy) = r := ⟨_, rfl⟩
      rw [hr] at c0 r1 r2
      have HR := Lib.hid (show r = m.at (x0 + (ps.length : Int) % tw) (y0 + (ps.length : Int) / tw) from by rw [hrx, hqy, hr])
      obtain ⟨P2, hP2⟩ : ∃ P2, P1 + x0 = P2 := ⟨_, rfl⟩
      rw [show (P1 + (x0 + rx)).toNat = (P2 + rx).toNat by omega] at c0
      have hP3 : 0 ≤ P2 + rx := by omega
      have hP4 : P2 + rx < (m.pix.length : Int) := by omega
      have w1 : IntKind.i64.wrap (y0 + qy) = YY := by rw [hYY]; exact IntWalk.i64_in _ (by omega)
      have w2 : IntKind.i64.wrap (YY * m.w) = P1 := by rw [hP1]; exact IntWalk.i64_in _ (by omega)
      have w3 : IntKind.i64.wrap (P1 + x0) = P2 := by rw [hP2]; exact IntWalk.i64_in _ (by omega)
      have w4 : IntKind.i64.wrap (P2 + rx) = P2 + rx := IntWalk.i64_in _ (by omega)
      have z5 : (tw == 0) = false := by simp; omega
      clear hrx hqy hin e9 hr hYY hP1 hP2
      go_wp2_with fail
      go_quiet (fail)
      obtain ⟨w6, hw6⟩ : ∃ w6, wr.drewN nq = w6 := ⟨_, rfl⟩
      have hb6 : Ext wr w6 := by rw [← hw6]; exact (Ext.refl _).drewN nq
      rw [hw6]
      have EW := Lib.hid (hE.out.trans hb6)
      have AW := Lib.hid (show At w6 [(TB, Obj.cells #[.int .i64 tw, .int .i64 th, (.slice sa ps.length sc)] 43), (w.heap.size, Obj.cells #[.int .i64 m.w, .int .i64 m.h, .slice (some ⟨pb, pf, none⟩) m.pix.length ic] 24)] from At.ext hb6 hA.out)
      have OW := Lib.hid (owns_ext hO.out hb6)
      have FW := Lib.hid (HFR.out.ext (hE.out.trans hb6))
      have hb6s := hb6.size
      clear hw6 hb6
      clear x00 x01 x02 x10 x11 x12 xf00 xf01 xf02 xf10 xf11 xf12 xz0 xy0 xx0 xz1 xy1 xx1
      obtain ⟨⟨y00, y01, y02⟩, yf00, yf01, yf02⟩ := run_3 (At.at AW.out 0 rfl)
      obtain ⟨⟨y10, y11, y12⟩, yf10, yf11, yf12⟩ := run_3 (At.at AW.out 1 rfl)
      have yz0 := At.lt AW.out 0 rfl
      have yy0 := Nat.lt_succ_of_lt yz0
      have yx0 := Nat.lt_succ_of_lt yy0
      have yz1 := At.lt AW.out 1 rfl
      have yy1 := Nat.lt_succ_of_lt yz1
      have yx1 := Nat.lt_succ_of_lt yy1
      clear e1 e2 w1 w2 w3 w4 z5 c0 zc g1 g2 g3 g4 i1 i2 i3' i4 hnn
      by_cases t1 : 0 < ps.length
      rotate_left
      · have d1 : decide (0 < ps.length) = false := decide_eq_false t1
        have d2 : decide (0 < (ps.length : Int)) = false := decide_eq_false (by omega)

        have HP2 := Lib.hid (show CutPix m x0 y0 tw (ps ++ [r]) from hP.out.snoc (.inl HR.out))
        go_wp2_with (at_builtin; refine wpList_append_at rfl _ _ 22 rfl (TB + 1) 3 i3 (.int .i64 0) 1 8 Try.underlying22 hi3 hz3 hs3 hy3 rfl (by omega) (.slice sa ps.length sc) ps.length (ints ps) rfl (owns_ext OW.out ((Ext.refl _).alloc _)) _ 1 [.int .i64 (r)] rfl (SlAt.lit_at _ _ rfl [.int .i64 (r)] 3 1 rfl) (by intro u hu; rw [List.mem_singleton.1 hu]; rfl) (by unfold maxLen; omega) (by omega) (by simp; omega) ?_; intro va w8 ho hg hat; obtain ⟨-, sa8, sc8, hv8, -⟩ := SlAt.of_owns ho; subst hv8; have A8 := Lib.hid (show At w8 [(TB, Obj.cells #[.int .i64 tw, .int .i64 th, (.slice sa ps.length sc)] 43), (w.heap.size, Obj.cells #[.int .i64 m.w, .int .i64 m.h, .slice (some ⟨pb, pf, none⟩) m.pix.length ic] 24)] from At.grown hg (At.alloc AW.out _) (by intro k9 hk9 h9; have h8 := owns_block hO.out _ h9; simp only [List.map_cons, List.map_nil, List.mem_cons, List.not_mem_nil, or_false] at hk9; rcases hk9 with rfl | rfl <;> omega)); have E8 := Lib.hid ((EW.out.alloc _).grown hg (fun g9 h9 => by have := (owns_block OW.out g9 h9).1; omega)); have O8 := Lib.hid ho; clear ho hg hat; obtain ⟨⟨v00, v01, v02⟩, vf00, vf01, vf02⟩ := run_3 (At.at A8.out 0 rfl); obtain ⟨⟨v10, v11, v12⟩, vf10, vf11, vf12⟩ := run_3 (At.at A8.out 1 rfl); have vz0 := At.lt A8.out 0 rfl; have vy0 := Nat.lt_succ_of_lt vz0; have vx0 := Nat.lt_succ_of_lt vy0; have vz1 := At.lt A8.out 1 rfl; have vy1 := Nat.lt_succ_of_lt vz1; have vx1 := Nat.lt_succ_of_lt vy1)
        go_roundw
        case rel => exact ⟨ps ++ [r], .slice sa8 (ps.length + 1) sc8, by rw [List.length_append, List.length_singleton]; go_num, by rw [List.length_append, List.length_singleton]; omega, Lib.hid (E8.out.setCell (p := ⟨TB, 2, none⟩) (show w.heap.size ≤ TB by omega) _), Lib.hid ⟨(st_one (At.at A8.out 0 rfl) 2 _).1, At.other (set_at _ TB 2 _) (by simp; omega) (At.erase A8.out 0)⟩, Lib.hid (by rw [List.length_append]; exact (by have h7 := O8.out; unfold ints at h7 ⊢; rw [List.map_append]; exact own_set h7 (by omega))), HP2⟩
        case measure => simp [intOf]; omega
      have d1 : decide (0 < ps.length) = true := decide_eq_true t1
      have d2 : decide (0 < (ps.length : Int)) = true := decide_eq_true (by omega)
      by_cases t2 : 0 < fr.length
      rotate_left
      · have d3 : decide (0 < fr.length) = false := decide_eq_false t2
        have d4 : decide (0 < (fr.length : Int)) = false := decide_eq_false (by omega)

        have HP2 := Lib.hid (show CutPix m x0 y0 tw (ps ++ [r]) from hP.out.snoc (.inl HR.out))
        go_wp2_with (at_builtin; refine wpList_append_at rfl _ _ 22 rfl (TB + 1) 3 i3 (.int .i64 0) 1 8 Try.underlying22 hi3 hz3 hs3 hy3 rfl (by omega) (.slice sa ps.length sc) ps.length (ints ps) rfl (owns_ext OW.out ((Ext.refl _).alloc _)) _ 1 [.int .i64 (r)] rfl (SlAt.lit_at _ _ rfl [.int .i64 (r)] 3 1 rfl) (by intro u hu; rw [List.mem_singleton.1 hu]; rfl) (by unfold maxLen; omega) (by omega) (by simp; omega) ?_; intro va w8 ho hg hat; obtain ⟨-, sa8, sc8, hv8, -⟩ := SlAt.of_owns ho; subst hv8; have A8 := Lib.hid (show At w8 [(TB, Obj.cells #[.int .i64 tw, .int .i64 th, (.slice sa ps.length sc)] 43), (w.heap.size, Obj.cells #[.int .i64 m.w, .int .i64 m.h, .slice (some ⟨pb, pf, none⟩) m.pix.length ic] 24)] from At.grown hg (At.alloc AW.out _) (by intro k9 hk9 h9; have h8 := owns_block hO.out _ h9; simp only [List.map_cons, List.map_nil, List.mem_cons, List.not_mem_nil, or_false] at hk9; rcases hk9 with rfl | rfl <;> omega)); have E8 := Lib.hid ((EW.out.alloc _).grown hg (fun g9 h9 => by have := (owns_block OW.out g9 h9).1; omega)); have O8 := Lib.hid ho; clear ho hg hat; obtain ⟨⟨v00, v01, v02⟩, vf00, vf01, vf02⟩ := run_3 (At.at A8.out 0 rfl); obtain ⟨⟨v10, v11, v12⟩, vf10, vf11, vf12⟩ := run_3 (At.at A8.out 1 rfl); have vz0 := At.lt A8.out 0 rfl; have vy0 := Nat.lt_succ_of_lt vz0; have vx0 := Nat.lt_succ_of_lt vy0; have vz1 := At.lt A8.out 1 rfl; have vy1 := Nat.lt_succ_of_lt vz1; have vx1 := Nat.lt_succ_of_lt vy1)
        go_roundw
        case rel => exact ⟨ps ++ [r], .slice sa8 (ps.length + 1) sc8, by rw [List.length_append, List.length_singleton]; go_num, by rw [List.length_append, List.length_singleton]; omega, Lib.hid (E8.out.setCell (p := ⟨TB, 2, none⟩) (show w.heap.size ≤ TB by omega) _), Lib.hid ⟨(st_one (At.at A8.out 0 rfl) 2 _).1, At.other (set_at _ TB 2 _) (by simp; omega) (At.erase A8.out 0)⟩, Lib.hid (by rw [List.length_append]; exact (by have h7 := O8.out; unfold ints at h7 ⊢; rw [List.map_append]; exact own_set h7 (by omega))), HP2⟩
        case measure => simp [intOf]; omega
      have d3 : decide (0 < fr.length) = true := decide_eq_true t2
      have d4 : decide (0 < (fr.length : Int)) = true := decide_eq_true (by omega)
      obtain ⟨jn, hjn⟩ : ∃ jn, ps.length % fr.length = jn := ⟨_, rfl⟩
      have hjl : jn < fr.length := by rw [← hjn]; exact Nat.mod_lt _ t2
      have hjli : (jn : Int) < (fr.length : Int) := by omega
      have e3 : (ps.length : Int) % (fr.length : Int) = (jn : Int) := by rw [← hjn]; exact (Int.natCast_emod _ _).symm
      have e4 : (ps.length : Int).tmod (fr.length : Int) = (jn : Int) := by rw [Int.tmod_eq_emod_of_nonneg (by omega)]; exact e3
      have z6 : ((fr.length : Int) == 0) = false := by rw [beq_eq_false_iff_ne]; omega
      obtain ⟨_, _, hfx, -, hcx⟩ := FW.out.form
      obtain ⟨fb, ff, hfo, c1⟩ := hcx jn hjl
      simp only [Value.slice.injEq] at hfx
      obtain ⟨hfx, -, -⟩ := hfx
      subst hfx
      subst hfo
      clear hcx
      have hbl : fr.getD jn 0 < 256 := by
        have h9 : fr.getD jn 0 ∈ fr := by rw [List.getD_eq_getElem?_getD, List.getElem?_eq_getElem hjl]; exact List.getElem_mem _
        exact HB.out _ h9
      generalize fr.getD jn 0 = bv at c1 hbl
      have zb := World.block_lt_of_cell? _ _ c1
      simp only at zb
      clear hjn
      by_cases t3 : bv % 4 = 0
      · have d5 : ((bv : Int) % 4 == 0) = true := by simp; omega
        have d6 : ((bv : Int).tmod 4 == 0) = true := by rw [Int.tmod_eq_emod_of_nonneg (by omega)]; exact d5
        clear t3

        have HP2 := Lib.hid (show CutPix m x0 y0 tw (ps ++ [-1]) from hP.out.snoc (.inr ⟨t1, rfl⟩))
        go_wp2_with (at_builtin; refine wpList_append_at rfl _ _ 22 rfl (TB + 1) 3 i3 (.int .i64 0) 1 8 Try.underlying22 hi3 hz3 hs3 hy3 rfl (by omega) (.slice sa ps.length sc) ps.length (ints ps) rfl (owns_ext OW.out ((Ext.refl _).alloc _)) _ 1 [.int .i64 (-1)] rfl (SlAt.lit_at _ _ rfl [.int .i64 (-1)] 3 1 rfl) (by intro u hu; rw [List.mem_singleton.1 hu]; rfl) (by unfold maxLen; omega) (by omega) (by simp; omega) ?_; intro va w8 ho hg hat; obtain ⟨-, sa8, sc8, hv8, -⟩ := SlAt.of_owns ho; subst hv8; have A8 := Lib.hid (show At w8 [(TB, Obj.cells #[.int .i64 tw, .int .i64 th, (.slice sa ps.length sc)] 43), (w.heap.size, Obj.cells #[.int .i64 m.w, .int .i64 m.h, .slice (some ⟨pb, pf, none⟩) m.pix.length ic] 24)] from At.grown hg (At.alloc AW.out _) (by intro k9 hk9 h9; have h8 := owns_block hO.out _ h9; simp only [List.map_cons, List.map_nil, List.mem_cons, List.not_mem_nil, or_false] at hk9; rcases hk9 with rfl | rfl <;> omega)); have E8 := Lib.hid ((EW.out.alloc _).grown hg (fun g9 h9 => by have := (owns_block OW.out g9 h9).1; omega)); have O8 := Lib.hid ho; clear ho hg hat; obtain ⟨⟨v00, v01, v02⟩, vf00, vf01, vf02⟩ := run_3 (At.at A8.out 0 rfl); obtain ⟨⟨v10, v11, v12⟩, vf10, vf11, vf12⟩ := run_3 (At.at A8.out 1 rfl); have vz0 := At.lt A8.out 0 rfl; have vy0 := Nat.lt_succ_of_lt vz0; have vx0 := Nat.lt_succ_of_lt vy0; have vz1 := At.lt A8.out 1 rfl; have vy1 := Nat.lt_succ_of_lt vz1; have vx1 := Nat.lt_succ_of_lt vy1)
        go_roundw
        case rel => exact ⟨ps ++ [-1], .slice sa8 (ps.length + 1) sc8, by rw [List.length_append, List.length_singleton]; go_num, by rw [List.length_append, List.length_singleton]; omega, Lib.hid (E8.out.setCell (p := ⟨TB, 2, none⟩) (show w.heap.size ≤ TB by omega) _), Lib.hid ⟨(st_one (At.at A8.out 0 rfl) 2 _).1, At.other (set_at _ TB 2 _) (by simp; omega) (At.erase A8.out 0)⟩, Lib.hid (by rw [List.length_append]; exact (by have h7 := O8.out; unfold ints at h7 ⊢; rw [List.map_append]; exact own_set h7 (by omega))), HP2⟩
        case measure => simp [intOf]; omega
      · have d5 : ((bv : Int) % 4 == 0) = false := by simp; omega
        have d6 : ((bv : Int).tmod 4 == 0) = false := by rw [Int.tmod_eq_emod_of_nonneg (by omega)]; exact d5
        clear t3

        have HP2 := Lib.hid (show CutPix m x0 y0 tw (ps ++ [r]) from hP.out.snoc (.inl HR.out))
        go_wp2_with (at_builtin; refine wpList_append_at rfl _ _ 22 rfl (TB + 1) 3 i3 (.int .i64 0) 1 8 Try.underlying22 hi3 hz3 hs3 hy3 rfl (by omega) (.slice sa ps.length sc) ps.length (ints ps) rfl (owns_ext OW.out ((Ext.refl _).alloc _)) _ 1 [.int .i64 (r)] rfl (SlAt.lit_at _ _ rfl [.int .i64 (r)] 3 1 rfl) (by intro u hu; rw [List.mem_singleton.1 hu]; rfl) (by unfold maxLen; omega) (by omega) (by simp; omega) ?_; intro va w8 ho hg hat; obtain ⟨-, sa8, sc8, hv8, -⟩ := SlAt.of_owns ho; subst hv8; have A8 := Lib.hid (show At w8 [(TB, Obj.cells #[.int .i64 tw, .int .i64 th, (.slice sa ps.length sc)] 43), (w.heap.size, Obj.cells #[.int .i64 m.w, .int .i64 m.h, .slice (some ⟨pb, pf, none⟩) m.pix.length ic] 24)] from At.grown hg (At.alloc AW.out _) (by intro k9 hk9 h9; have h8 := owns_block hO.out _ h9; simp only [List.map_cons, List.map_nil, List.mem_cons, List.not_mem_nil, or_false] at hk9; rcases hk9 with rfl | rfl <;> omega)); have E8 := Lib.hid ((EW.out.alloc _).grown hg (fun g9 h9 => by have := (owns_block OW.out g9 h9).1; omega)); have O8 := Lib.hid ho; clear ho hg hat; obtain ⟨⟨v00, v01, v02⟩, vf00, vf01, vf02⟩ := run_3 (At.at A8.out 0 rfl); obtain ⟨⟨v10, v11, v12⟩, vf10, vf11, vf12⟩ := run_3 (At.at A8.out 1 rfl); have vz0 := At.lt A8.out 0 rfl; have vy0 := Nat.lt_succ_of_lt vz0; have vx0 := Nat.lt_succ_of_lt vy0; have vz1 := At.lt A8.out 1 rfl; have vy1 := Nat.lt_succ_of_lt vz1; have vx1 := Nat.lt_succ_of_lt vy1)
        go_roundw
        case rel => exact ⟨ps ++ [r], .slice sa8 (ps.length + 1) sc8, by rw [List.length_append, List.length_singleton]; go_num, by rw [List.length_append, List.length_singleton]; omega, Lib.hid (E8.out.setCell (p := ⟨TB, 2, none⟩) (show w.heap.size ≤ TB by omega) _), Lib.hid ⟨(st_one (At.at A8.out 0 rfl) 2 _).1, At.other (set_at _ TB 2 _) (by simp; omega) (At.erase A8.out 0)⟩, Lib.hid (by rw [List.length_append]; exact (by have h7 := O8.out; unfold ints at h7 ⊢; rw [List.map_append]; exact own_set h7 (by omega))), HP2⟩
        case measure => simp [intOf]; omega

    · have hpn : ps.length = N := by omega
      have CA := Lib.hid (KF.out ps hpn hP.out)
      have IP := Lib.hid (show IntsAt wr (.slice sa ps.length sc) ps from SlAt.of_owns hO.out)
      obtain ⟨k1, k2, k3⟩ := CA.out.found HC.out
      obtain ⟨PX, hPX⟩ : ∃ PX, x0 + (tw - 1) / 2 = PX := ⟨_, rfl⟩
      obtain ⟨PY, hPY⟩ : ∃ PY, y0 + (th - 1) / 2 = PY := ⟨_, rfl⟩
      unfold cutMatch at k3
      rw [hPX, hPY] at k1 k3
      have hlp : ps.length ≤ maxLen := by unfold maxLen; omega
      have K27 := Lib.hid (fun w' (h : Ext w w') (h2 : IntsAt w' (.slice sa ps.length sc) ps) => c27 m _ ⟨tw, th, ps⟩ _ ⟨PX, PY, 0, 2⟩ w' (HV.out.ext h) HML.out h2 hlp)
      rw [k1] at K27
      have K36 := Lib.hid (fun w' (h : Ext w w') (h2 : IntsAt w' (.slice sa ps.length sc) ps) => c36b m _ ⟨tw, th, ps⟩ _ 0 w' (HV.out.ext h) HML.out h2 hlp)
      rw [k2] at K36
      unfold imgVal tplVal poseVal at K27
      unfold imgVal tplVal at K36
      have hl13 := foundM_len HC.out.1 ⟨tw, th, ps⟩ 0
      obtain ⟨ms, hms⟩ : ∃ l, foundM m ⟨tw, th, ps⟩ 0 = l := ⟨_, rfl⟩
      rw [hms] at K36 k3 hl13
      have KM := Lib.hid k3
      have hlti : decide ((ps.length : Int) < (N : Int)) = false := decide_eq_false (by omega)
      have hnn := HNN.out
      have e7 : (tw - 1).tdiv 2 = (tw - 1) / 2 := Int.tdiv_eq_ediv_of_nonneg (by omega)
      have e8 : (th - 1).tdiv 2 = (th - 1) / 2 := Int.tdiv_eq_ediv_of_nonneg (by omega)
      have hbPX : 0 ≤ PX ∧ PX ≤ 100 := by omega
      have hbPY : 0 ≤ PY ∧ PY ≤ 100 := by omega
      obtain ⟨wq, hwq⟩ : ∃ wq : World, wq = wr := ⟨_, rfl⟩
      subst hwq
      clear hms k1 k2 k3 hpn hP hlp
      go_wp2_with (first | (have _q := E4; go_at_call 36; (with_reducible refine (K36.out _ E4.out I4.out).mono ?_); rintro E w5 ⟨mo, mc, ao, ac, rfl, ho5, -, hb5⟩; have E5 := Lib.hid (E4.out.trans hb5); have A5 := Lib.hid (show At w5 [(wq.heap.size, Obj.cells #[.int .i64 PX, .int .i64 PY, .int .i64 0, .int .i64 2] 45), (TB, Obj.cells #[.int .i64 tw, .int .i64 th, (.slice sa ps.length sc)] 43), (w.heap.size, Obj.cells #[.int .i64 m.w, .int .i64 m.h, .slice (some ⟨pb, pf, none⟩) m.pix.length ic] 24)] from At.ext hb5 A4.out); have M5 := Lib.hid ho5; clear ho5; obtain ⟨⟨q00, q01, q02, q03⟩, -⟩ := run_4 (At.at A5.out 0 rfl); obtain ⟨⟨q10, q11, q12⟩, -⟩ := run_3 (At.at A5.out 1 rfl); obtain ⟨⟨q20, q21, q22⟩, -⟩ := run_3 (At.at A5.out 2 rfl); have qz0 := At.lt A5.out 0 rfl; have qy0 := Nat.lt_succ_of_lt qz0; have qx0 := Nat.lt_succ_of_lt qy0; have qz1 := At.lt A5.out 1 rfl; have qy1 := Nat.lt_succ_of_lt qz1; have qx1 := Nat.lt_succ_of_lt qy1; have qz2 := At.lt A5.out 2 rfl; have qy2 := Nat.lt_succ_of_lt qz2; have qx2 := Nat.lt_succ_of_lt qy2) | (go_at_call 27; (with_reducible refine (K27.out _ (hE.out.alloc _) (IntsAt.ext IP.out ((Ext.refl _).alloc _))).mono ?_); rintro E w4 ⟨rfl, hb4⟩; have E4 := Lib.hid ((hE.out.alloc _).trans hb4); have A4 := Lib.hid (show At w4 [(wq.heap.size, Obj.cells #[.int .i64 PX, .int .i64 PY, .int .i64 0, .int .i64 2] 45), (TB, Obj.cells #[.int .i64 tw, .int .i64 th, (.slice sa ps.length sc)] 43), (w.heap.size, Obj.cells #[.int .i64 m.w, .int .i64 m.h, .slice (some ⟨pb, pf, none⟩) m.pix.length ic] 24)] from At.ext hb4 ⟨one_first _ _, At.alloc hA.out _⟩); have I4 := Lib.hid (IntsAt.ext (IntsAt.ext IP.out ((Ext.refl _).alloc _)) hb4); obtain ⟨⟨p00, p01, p02, p03⟩, -⟩ := run_4 (At.at A4.out 0 rfl); obtain ⟨⟨p10, p11, p12⟩, -⟩ := run_3 (At.at A4.out 1 rfl); obtain ⟨⟨p20, p21, p22⟩, -⟩ := run_3 (At.at A4.out 2 rfl); have pz0 := At.lt A4.out 0 rfl; have py0 := Nat.lt_succ_of_lt pz0; have px0 := Nat.lt_succ_of_lt py0; have pz1 := At.lt A4.out 1 rfl; have py1 := Nat.lt_succ_of_lt pz1; have px1 := Nat.lt_succ_of_lt py1; have pz2 := At.lt A4.out 2 rfl; have py2 := Nat.lt_succ_of_lt pz2; have px2 := Nat.lt_succ_of_lt py2))
      have M6 := Lib.hid (MatchesAt.ext M5.out ((Ext.refl _).alloc (Obj.cells #[.slice mo ms.length mc, .slice ao (foundA m ⟨tw, th, ps⟩ 0).length ac] 63)))
      have A6 := Lib.hid (show At (World.alloc w5 (Obj.cells #[.slice mo ms.length mc, .slice ao (foundA m ⟨tw, th, ps⟩ 0).length ac] 63)) [(w5.heap.size, Obj.cells #[.slice mo ms.length mc, .slice ao (foundA m ⟨tw, th, ps⟩ 0).length ac] 63), (wq.heap.size, Obj.cells #[.int .i64 PX, .int .i64 PY, .int .i64 0, .int .i64 2] 45)] from ⟨one_first _ _, Ext.blk ((Ext.refl _).alloc _) A5.out.1, trivial⟩)
      go_loopw [24, 25] (fun fv iv wr => Hid (Ext w wr) ∧ Hid (At wr [(w5.heap.size, Obj.cells #[.slice mo ms.length mc, .slice ao (foundA m ⟨tw, th, ps⟩ 0).length ac] 63), (wq.heap.size, Obj.cells #[.int .i64 PX, .int .i64 PY, .int .i64 0, .int .i64 2] 45)]) ∧ Hid (MatchesAt wr (.slice mo ms.length mc) ms) ∧ ∃ (i : Nat) (f : Bool), i ≤ ms.length ∧ iv = .int .i64 (i : Int) ∧ fv = .bool f ∧ Hid (f = seenM ⟨⟨PX, PY, 0, 2⟩, 0⟩ (ms.take i))) (fun _ iv _ => ms.length - (intOf iv).toNat)
      case atStart => exact ⟨Lib.hid (E5.out.alloc _), A6, M6, 0, false, Nat.zero_le _, rfl, rfl, Lib.hid rfl⟩
      case round =>
        clear hE hA hO A6 M6
        obtain ⟨hE, hA, hM, i, f, hi, rfl, rfl, hF⟩ := hrel
        obtain ⟨⟨u00, u01⟩, -⟩ := run_2 (At.at hA.out 0 rfl)
        obtain ⟨⟨u10, u11, u12, u13⟩, -⟩ := run_4 (At.at hA.out 1 rfl)
        have uz0 := At.lt hA.out 0 rfl
        have uy0 := Nat.lt_succ_of_lt uz0
        have ux0 := Nat.lt_succ_of_lt uy0
        have uz1 := At.lt hA.out 1 rfl
        have uy1 := Nat.lt_succ_of_lt uz1
        have ux1 := Nat.lt_succ_of_lt uy1
        by_cases hil : i < ms.length
        · have hili : (i : Int) < (ms.length : Int) := by omega
          have HS := Lib.hid (seenM_step ⟨⟨PX, PY, 0, 2⟩, 0⟩ hil)
          rw [← hF.out] at HS
          obtain ⟨_, _, hfx, -, hcx⟩ := MatchesAt.form hM.out
          obtain ⟨yb, yf, hxb, m0, m1, m2, m3, m4⟩ := hcx i hil
          simp only [Value.slice.injEq] at hfx
          obtain ⟨hfx, -, -⟩ := hfx
          subst hfx
          subst hxb
          clear hcx
          have yz := World.block_lt_of_cell? _ _ m0
          simp only at yz
          generalize ms.getD i match0 = x at m0 m1 m2 m3 m4 HS
          cases f with
          | true =>
            go_wp2_with fail
            go_quiet (fail)
            go_wp2
            go_roundw
            case rel => exact ⟨Lib.hid (hE.out.drewN _), Lib.hid (At.drewN hA.out _), Lib.hid (MatchesAt.ext hM.out ((Ext.refl _).drewN _)), i + 1, true, by omega, by go_num, rfl, Lib.hid (by rw [HS.out]; rfl)⟩
            case measure => simp [intOf]; omega
          | false =>
            rw [Bool.false_or] at HS
            have HQ := Lib.hid (show seenM ⟨⟨PX, PY, 0, 2⟩, 0⟩ (ms.take (i + 1)) = ((x.pose.x == PX) && ((x.pose.y == PY) && ((x.pose.turn == 0) && ((x.pose.scale == 2) && (x.dist == 0))))) from by rw [HS.out]; exact match_beq x PX PY)
            clear HS
            by_cases h0 : x.pose.x = PX
            rotate_left
            · have q0 : (x.pose.x == PX) = false := by simpa using h0
              clear h0
              go_wp2_with fail
              go_quiet (fail)
              go_wp2
              go_roundw
              case rel => exact ⟨Lib.hid (hE.out.drewN _), Lib.hid (At.drewN hA.out _), Lib.hid (MatchesAt.ext hM.out ((Ext.refl _).drewN _)), i + 1, false, by omega, by go_num, rfl, Lib.hid (by rw [HQ.out]; simp [q0])⟩
              case measure => simp [intOf]; omega
            have q0 : (x.pose.x == PX) = true := by simpa using h0
            clear h0
            by_cases h1 : x.pose.y = PY
            rotate_left
            · have q1 : (x.pose.y == PY) = false := by simpa using h1
              clear h1
              go_wp2_with fail
              go_quiet (fail)
              go_wp2
              go_roundw
              case rel => exact ⟨Lib.hid (hE.out.drewN _), Lib.hid (At.drewN hA.out _), Lib.hid (MatchesAt.ext hM.out ((Ext.refl _).drewN _)), i + 1, false, by omega, by go_num, rfl, Lib.hid (by rw [HQ.out]; simp [q0, q1])⟩
              case measure => simp [intOf]; omega
            have q1 : (x.pose.y == PY) = true := by simpa using h1
            clear h1
            by_cases h2 : x.pose.turn = 0
            rotate_left
            · have q2 : (x.pose.turn == 0) = false := by simpa using h2
              clear h2
              go_wp2_with fail
              go_quiet (fail)
              go_wp2
              go_roundw
              case rel => exact ⟨Lib.hid (hE.out.drewN _), Lib.hid (At.drewN hA.out _), Lib.hid (MatchesAt.ext hM.out ((Ext.refl _).drewN _)), i + 1, false, by omega, by go_num, rfl, Lib.hid (by rw [HQ.out]; simp [q0, q1, q2])⟩
              case measure => simp [intOf]; omega
            have q2 : (x.pose.turn == 0) = true := by simpa using h2
            clear h2
            by_cases h3 : x.pose.scale = 2
            rotate_left
            · have q3 : (x.pose.scale == 2) = false := by simpa using h3
              clear h3
              go_wp2_with fail
              go_quiet (fail)
              go_wp2
              go_roundw
              case rel => exact ⟨Lib.hid (hE.out.drewN _), Lib.hid (At.drewN hA.out _), Lib.hid (MatchesAt.ext hM.out ((Ext.refl _).drewN _)), i + 1, false, by omega, by go_num, rfl, Lib.hid (by rw [HQ.out]; simp [q0, q1, q2, q3])⟩
              case measure => simp [intOf]; omega
            have q3 : (x.pose.scale == 2) = true := by simpa using h3
            clear h3
            by_cases h4 : x.dist = 0
            rotate_left
            · have q4 : (x.dist == 0) = false := by simpa using h4
              clear h4
              go_wp2_with fail
              go_quiet (fail)
              go_wp2
              go_roundw
              case rel => exact ⟨Lib.hid (hE.out.drewN _), Lib.hid (At.drewN hA.out _), Lib.hid (MatchesAt.ext hM.out ((Ext.refl _).drewN _)), i + 1, false, by omega, by go_num, rfl, Lib.hid (by rw [HQ.out]; simp [q0, q1, q2, q3, q4])⟩
              case measure => simp [intOf]; omega
            have q4 : (x.dist == 0) = true := by simpa using h4
            clear h4
            go_wp2_with fail
            go_quiet (fail)
            go_wp2
            go_roundw
            case rel => exact ⟨Lib.hid (hE.out.drewN _), Lib.hid (At.drewN hA.out _), Lib.hid (MatchesAt.ext hM.out ((Ext.refl _).drewN _)), i + 1, true, by omega, by go_num, rfl, Lib.hid (by rw [HQ.out]; simp [q0, q1, q2, q3, q4])⟩
            case measure => simp [intOf]; omega
        · obtain rfl : i = ms.length := by omega
          obtain rfl : f = true := by
            rw [hF.out, List.take_length]
            unfold seenM
            rw [List.any_eq_true]
            exact ⟨_, KM.out, decide_eq_true rfl⟩
          go_wp2
          go_ret
          exact ⟨rfl, hE.out⟩

theorem g12 (m : Img) (mv : Value) (x y p q : Int) (fr : List Nat) (fv : Value) (w : World) (hm : IntsAt w mv m.pix) (hml : m.pix.length * 8 ≤ 140737488351232) (h1 : (Lit.int .u8 x).wf = true) (h2 : (Lit.int .u8 y).wf = true) (h3 : (Lit.int .u8 p).wf = true) (h4 : (Lit.int .u8 q).wf = true)
    (hf : BytesAt w fv fr) (hfl : fr.length ≤ maxLen) (hfb : ∀ b ∈ fr, b < 256) :
    Calls Try.prog 12 #[imgVal m mv, .int .u8 x, .int .u8 y, .int .u8 p, .int .u8 q, fv] w fun e w' => e = .returned (.bool true) ∧ Ext w w' := c12 m mv x y p q fr fv w hm hml (bounds_u8' h1) (bounds_u8' h2) (bounds_u8' h3) (bounds_u8' h4) hf hfl hfb
end Go.Proofs.Ytipkjdfnoonpcaa
