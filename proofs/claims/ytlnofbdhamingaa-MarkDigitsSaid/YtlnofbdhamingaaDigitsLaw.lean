/- 'MarkDigits' returns true. -/
import Derived.Test.YtlnofbdhamingaaLineR
set_option linter.unusedVariables false
set_option linter.unusedSimpArgs false
namespace Go.Proofs.Ytlnofbdhamingaa
open Go.RowKit Go.Sort

set_option maxRecDepth 100000 in
set_option maxHeartbeats 8000000 in
theorem digits_law_true (d : Int) (l : List Nat) (lv : Value) (m : Img) (v : Value) (s : Int) (c : Con) (need : Int) (w : World) (hb : BytesAt w lv l) (hv : IntsAt w v m.pix) (hl : m.pix.length ≤ maxLen) :
    Calls Try.prog 3 #[.int .i64 d, lv, imgVal m v, .int .i64 s, conVal c, .int .i64 need] w fun e w' => e = .returned (.bool true) ∧ Ext w w' := by
  have k1 := Lib.hid (fun w' => c_Glyph d w')
  have k2 := Lib.hid (fun w' => r_Glyph d w')
  have k3 := Lib.hid (fun w' (h : Ext w w') => c_Digit lv l w' (hb.ext h))
  have k4 := Lib.hid (fun w' (h : Ext w w') => r_Digit lv l w' (hb.ext h))
  have k5 := Lib.hid (fun w' (h : Ext w w') => c_ReadLine m v s c need w' (hv.ext h) hl)
  have k6 := Lib.hid (fun w' (h : Ext w w') => r_ReadLine m v s c need w' (hv.ext h) hl)
  unfold BytesErr at k1 k2
  unfold ThreeInts at k3 k4
  unfold StrErr at k5 k6
  obtain ⟨g, hg⟩ : ∃ g, glyphI d = g := ⟨_, rfl⟩
  rw [hg] at k1 k2
  obtain ⟨di, hdi⟩ : ∃ x, digitI l = x := ⟨_, rfl⟩
  rw [hdi] at k3 k4
  obtain ⟨li, hli⟩ : ∃ x, lineI m s c need = x := ⟨_, rfl⟩
  rw [hli] at k5 k6
  clear hg hdi hli
  obtain ⟨g1, g2⟩ := g
  obtain ⟨⟨d1, d2⟩, d3⟩ := di
  obtain ⟨l1, l2⟩ := li
  obtain ⟨st, hst⟩ : ∃ st, strN l1 = st := ⟨_, rfl⟩
  dsimp only at k1 k2 k3 k4 k5 k6
  rw [hst] at k5 k6
  obtain ⟨bo, bc, rfl, -, -⟩ := hb.form
  obtain ⟨ao, cap, rfl, -, -⟩ := hv.form
  obtain ⟨mw, mh, pix⟩ := m
  obtain ⟨lo, hi'⟩ := c
  unfold imgVal conVal at *
  dsimp only at *
  have b0 : ((w.alloc (.cells #[.int .i64 mw, .int .i64 mh, .slice ao pix.length cap] 25)).alloc (.cells #[.int .i64 lo, .int .i64 hi'] 27)).heap[w.heap.size]? = some (.cells #[.int .i64 mw, .int .i64 mh, .slice ao pix.length cap] 25) := heap_alloc2_old w _ _
  have b1 : ((w.alloc (.cells #[.int .i64 mw, .int .i64 mh, .slice ao pix.length cap] 25)).alloc (.cells #[.int .i64 lo, .int .i64 hi'] 27)).heap[w.heap.size + 1]? = some (.cells #[.int .i64 lo, .int .i64 hi'] 27) := heap_alloc2_new w _ _
  have B0 := Lib.hid b0
  have B1 := Lib.hid b1
  have x0 := Lib.hid (((Ext.refl w).alloc (.cells #[.int .i64 mw, .int .i64 mh, .slice ao pix.length cap] 25)).alloc (.cells #[.int .i64 lo, .int .i64 hi'] 27))
  clear b0 b1 hst hb hv
  go_enter Try.func3, Try.ntmps3
  go_wp2_with (first
    | (have _q := x5; go_at_call 10; (with_reducible refine (k6.out _ x5.out).mono ?_); rintro E w6 ⟨rfl, h6⟩; have x6 := Lib.hid (x5.out.trans h6))
    | (go_at_call 9; (with_reducible refine (k5.out _ x4.out).mono ?_); rintro E w5 ⟨rfl, h5⟩; have x5 := Lib.hid (x4.out.trans h5); obtain ⟨⟨c0, c1, c2⟩, -⟩ := run_3 (h5.blk r0); obtain ⟨⟨e0, e1⟩, -⟩ := run_2 (h5.blk r1))
    | (go_at_call 8; (with_reducible refine (k4.out _ x3.out).mono ?_); rintro E w4 ⟨rfl, h4⟩; have x4 := Lib.hid (x3.out.trans h4); have r0 := (((z2.out.trans h9).trans h3).trans h4).blk B0.out; have r1 := (((z2.out.trans h9).trans h3).trans h4).blk B1.out; obtain ⟨⟨c0, c1, c2⟩, -⟩ := run_3 r0; obtain ⟨⟨e0, e1⟩, -⟩ := run_2 r1)
    | (go_at_call 7; (with_reducible refine (k3.out _ x9.out).mono ?_); rintro E w3 ⟨rfl, h3⟩; have x3 := Lib.hid (x9.out.trans h3))
    | (go_at_call 6; (with_reducible refine (r_SameBytes_eq _ _ g1 _ y1.out y2.out).mono ?_); rintro E w9 ⟨rfl, h9⟩; have x9 := Lib.hid (x2.out.trans h9))
    | (go_at_call 5; (with_reducible refine (k2.out _).mono ?_); rintro E w2 ⟨v2, rfl, t2, h2⟩; have x2 := Lib.hid (x1.out.trans h2); have z2 := Lib.hid (h1.trans h2); have y1 := Lib.hid (t1.ext h2); have y2 := Lib.hid t2)
    | (go_at_call 4; (with_reducible refine (k1.out _).mono ?_); rintro E w1 ⟨v1, rfl, t1, h1⟩; have x1 := Lib.hid (x0.out.trans h1)))
  go_ret
  exact ⟨rfl, x6.out⟩
end Go.Proofs.Ytlnofbdhamingaa
