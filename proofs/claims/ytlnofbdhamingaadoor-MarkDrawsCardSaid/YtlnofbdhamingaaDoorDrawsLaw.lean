/- 'MarkDraws' returns true. -/
import Derived.Test.YtlnofbdhamingaaDoorDrawR
import Derived.Test.YtlnofbdhamingaaDoorPrintR
import Derived.Test.YtlnofbdhamingaaDoorTwinFn
import Derived.Test.YtlnofbdhamingaaDoorGDraw
import Derived.Deep.DeepCutAuto
import Derived.Deep.Cut
set_option linter.unusedVariables false
set_option linter.unusedSimpArgs false
namespace Go.Proofs.YtlnofbdhamingaaDoor
open Go.RowKit Go.Sort

theorem pix_put2 {w : World} {l : List Int} {b e : Nat} {fr : Nat × Nat} {x y z x' y' z' : Value} {v : Value} (h : IntsAt w v l) (hl : l = [] ∨ 4 ≤ l.length) (hb : w.heap[b]? = some (.cells #[x, y, z] e fr)) :
    IntsAt (((w.setCell ⟨b, 0, none⟩ x').setCell ⟨b, 1, none⟩ y').setCell ⟨b, 2, none⟩ z') v l := by
  rcases hl with rfl | hl
  · obtain ⟨h1, ao, cap, h2, h3, h4, h5, h6⟩ := h
    exact ⟨h1, ao, cap, h2, h3, h4, h5, fun j u hj => by simp [ints] at hj⟩
  · exact pix_put h hl hb
theorem print_len (s : ByteArray) (sz ink paper : Int) : (printI s sz ink paper).1.pix = [] ∨ 4 ≤ (printI s sz ink paper).1.pix.length := by
  rw [printI_def]
  by_cases h1 : LineOk s
  · rw [if_pos h1]
    by_cases h2 : ColOk sz ink paper
    · rw [if_pos h2]
      by_cases h3 : (4 * (s.size : Int) - 1) * sz ≤ 16
      · rw [if_pos h3]
        right
        show 4 ≤ (paintedR _ _ _ _ _ _).length
        rw [paintedR_length]
        have hs : 1 ≤ sz.toNat := by have := h2.1; omega
        have hn : 3 ≤ 4 * s.size - 1 := by have := h1.2; omega
        exact Nat.le_trans (show 4 ≤ 3 * 1 * (5 * 1) by omega) (Nat.mul_le_mul (Nat.mul_le_mul hn hs) (Nat.mul_le_mul_left 5 hs))
      · rw [if_neg h3]; exact .inl rfl
    · rw [if_neg h2]; exact .inl rfl
  · rw [if_neg h1]; exact .inl rfl
set_option maxRecDepth 100000 in
set_option maxHeartbeats 8000000 in
theorem draws_walk (v : Value) (M : List Nat) (s : ByteArray) (sz ink paper : Int) (w : World) (hT : Tabs w) (hv : BytesAt w v M) (nv : M.length ≤ 140737488351232) (hs : s.size ≤ maxLen) :
    Calls Tryd.prog 6 #[v, .string s, .int .i64 sz, .int .i64 ink, .int .i64 paper] w fun e w' => e = .returned (.bool true) ∧ Ext w w' := by
  have K1 := Lib.hid (fun w' (h : Ext w w') => c_Draw v M sz ink paper w' (hT.ext h) (hv.ext h) (by unfold maxLen; omega))
  have K2 := Lib.hid (fun w' (h : Ext w w') => r_Draw v M sz ink paper w' (hv.ext h) (by unfold maxLen; omega))
  have K3 := Lib.hid (fun w' => c_Print s sz ink paper w' hs)
  have K4 := Lib.hid (fun w' => r_Print s sz ink paper w' hs)
  have hpl := print_len s sz ink paper
  obtain ⟨⟨⟨aw, ah, ap⟩, ae⟩, ha⟩ : ∃ r, drawI M sz ink paper = r := ⟨_, rfl⟩
  obtain ⟨⟨⟨bw, bh, bp⟩, be⟩, hb⟩ : ∃ r, printI s sz ink paper = r := ⟨_, rfl⟩
  rw [ha] at K1 K2
  rw [hb] at K3 K4 hpl
  have HPL := Lib.hid hpl
  unfold ImgErr imgVal at K1 K2 K3 K4
  dsimp only at K1 K2 K3 K4 HPL
  have KS1 := Lib.hid (fun w' v1 v2 (h1 : IntsAt w' v1 ap) (h2 : IntsAt w' v2 ap) => r_Same_eq ⟨aw, ah, ap⟩ v1 v2 w' h1 h2)
  have KS2 := Lib.hid (fun w' v1 v2 (h1 : IntsAt w' v1 bp) (h2 : IntsAt w' v2 bp) => r_Same_eq ⟨bw, bh, bp⟩ v1 v2 w' h1 h2)
  unfold imgVal at KS1 KS2
  dsimp only at KS1 KS2
  have q1 : (ae != ae) = false := bne_self_eq_false' _
  have q2 : (be == be) = true := beq_self_eq_true _
  obtain ⟨ao, ac, rfl, -⟩ := hv.form
  clear hT hv nv hs ha hb hpl
  go_enter Tryd.func6, Tryd.ntmps6
  go_upto_region 5 with (first
    | (have _q := E2; go_at_call 33; (with_reducible refine (KS1.out _ _ _ I1 I2).mono ?_); rintro E w3 ⟨rfl, h3⟩; have A3 := Lib.hid (At.ext h3 A2.out); have E3 := Lib.hid ((E2.out.alloc (Obj.cells #[.int .i64 aw, .int .i64 ah, .slice po2 ap.length pc2] 44)).trans h3); obtain ⟨⟨x0, x1, x2⟩, xf0, xf1, xf2⟩ := run_3 (At.at A3.out 1 rfl); obtain ⟨⟨y0, y1, y2⟩, yf0, yf1, yf2⟩ := run_3 (At.at A3.out 0 rfl); have xz := At.lt A3.out 1 rfl; have yz := At.lt A3.out 0 rfl)
    | (have _q := E1; go_at_call 35; (with_reducible refine (K2.out _ (E1.out.alloc _)).mono ?_); rintro E w2 ⟨v2, rfl, i2, h2⟩; obtain ⟨-, po2, pc2, rfl, -⟩ := id i2; have E2 := Lib.hid ((E1.out.alloc (Obj.cells #[.int .i64 aw, .int .i64 ah, .slice po1 ap.length pc1] 44)).trans h2); have I1 := IntsAt.ext i1 ((((Ext.refl w1).alloc (Obj.cells #[.int .i64 aw, .int .i64 ah, .slice po1 ap.length pc1] 44)).trans h2).alloc (Obj.cells #[.int .i64 aw, .int .i64 ah, .slice po2 ap.length pc2] 44)); have I2 := IntsAt.ext i2 ((Ext.refl w2).alloc (Obj.cells #[.int .i64 aw, .int .i64 ah, .slice po2 ap.length pc2] 44)); have A2 := Lib.hid (show At (w2.alloc (Obj.cells #[.int .i64 aw, .int .i64 ah, .slice po2 ap.length pc2] 44)) [(w2.heap.size, Obj.cells #[.int .i64 aw, .int .i64 ah, .slice po2 ap.length pc2] 44), (w1.heap.size, Obj.cells #[.int .i64 aw, .int .i64 ah, .slice po1 ap.length pc1] 44)] from ⟨one_first _ _, At.alloc (At.ext h2 (show At (w1.alloc (Obj.cells #[.int .i64 aw, .int .i64 ah, .slice po1 ap.length pc1] 44)) [(w1.heap.size, Obj.cells #[.int .i64 aw, .int .i64 ah, .slice po1 ap.length pc1] 44)] from ⟨one_first _ _, trivial⟩)) _⟩); have hlt : w1.heap.size < w2.heap.size := Nat.lt_of_lt_of_le (by rw [size_one]; omega) h2.size; obtain ⟨⟨u0, u1, u2⟩, uf0, uf1, uf2⟩ := run_3 (At.at A2.out 1 rfl); have uz := At.lt A2.out 1 rfl)
    | (go_at_call 34; (with_reducible refine (K1.out _ (Ext.refl _)).mono ?_); rintro E w1 ⟨v1, rfl, i1, h1⟩; obtain ⟨-, po1, pc1, rfl, -⟩ := id i1; have E1 := Lib.hid h1))
  obtain ⟨b1, hb1⟩ : ∃ b, w1.heap.size = b := ⟨_, rfl⟩
  obtain ⟨b2, hb2⟩ : ∃ b, w2.heap.size = b := ⟨_, rfl⟩
  have hwb1 : w.heap.size ≤ b1 := by rw [← hb1]; exact E1.out.size
  have A3' := Lib.hid (show At w3 [(b2, Obj.cells #[.int .i64 aw, .int .i64 ah, .slice po2 ap.length pc2] 44), (b1, Obj.cells #[.int .i64 aw, .int .i64 ah, .slice po1 ap.length pc1] 44)] from by rw [← hb1, ← hb2]; exact A3.out)
  rw [hb1, hb2] at hlt
  rw [hb1, hb2]
  have E3' := E3
  clear x0 x1 x2 y0 y1 y2 xf0 xf1 xf2 yf0 yf1 yf2 xz yz u0 u1 u2 uf0 uf1 uf2 uz A3 A2 I1 I2 i1 i2 h1 h2 h3 E1 E2 E3 K1 K2 KS1
  go_upto_region 6 with (go_at_call 36; (with_reducible refine (K3.out _).mono ?_); rintro E w4 ⟨v4, rfl, i4, h4⟩; obtain ⟨-, po4, pc4, rfl, -⟩ := id i4; have A4 := Lib.hid (At.ext h4 A3'.out); have E4 := Lib.hid (E3'.out.trans h4); obtain ⟨⟨x0, x1, x2⟩, xf0, xf1, xf2⟩ := run_3 (At.at A4.out 1 rfl); have xz := At.lt A4.out 1 rfl)
  have st := store_3 (v0 := .int .i64 bw) (v1 := .int .i64 bh) (v2 := .slice po4 bp.length pc4) (At.at A4.out 1 rfl)
  have I5 := Lib.hid (pix_put2 (x' := .int .i64 bw) (y' := .int .i64 bh) (z' := .slice po4 bp.length pc4) i4 HPL.out (At.at A4.out 1 rfl))
  have A5 := Lib.hid (show At (((w4.setCell ⟨b1, 0, none⟩ (.int .i64 bw)).setCell ⟨b1, 1, none⟩ (.int .i64 bh)).setCell ⟨b1, 2, none⟩ (.slice po4 bp.length pc4)) [(b1, Obj.cells #[.int .i64 bw, .int .i64 bh, .slice po4 bp.length pc4] 44), (b2, Obj.cells #[.int .i64 aw, .int .i64 ah, .slice po2 ap.length pc2] 44)] from ⟨st.1, At.other st.2.1 (by simp; omega) (At.erase A4.out 1)⟩)
  have E5 := Lib.hid (st.2.2 w hwb1 E4.out)
  obtain ⟨W5, hW5⟩ : ∃ W, ((w4.setCell ⟨b1, 0, none⟩ (.int .i64 bw)).setCell ⟨b1, 1, none⟩ (.int .i64 bh)).setCell ⟨b1, 2, none⟩ (.slice po4 bp.length pc4) = W := ⟨_, rfl⟩
  rw [hW5] at I5 A5 E5 ⊢
  clear st hW5 x0 x1 x2 xf0 xf1 xf2 xz A4 E4 i4 h4 A3' E3'
  go_upto_region 7 with (go_at_call 37; (with_reducible refine (K4.out _).mono ?_); rintro E w6 ⟨v6, rfl, i6, h6⟩; obtain ⟨-, po6, pc6, rfl, -⟩ := id i6; have A6 := Lib.hid (At.ext h6 A5.out); have E6 := Lib.hid (E5.out.trans h6); have J6 := Lib.hid (IntsAt.ext I5.out h6); obtain ⟨⟨x0, x1, x2⟩, xf0, xf1, xf2⟩ := run_3 (At.at A6.out 1 rfl); have xz := At.lt A6.out 1 rfl)
  have st := store_3 (v0 := .int .i64 bw) (v1 := .int .i64 bh) (v2 := .slice po6 bp.length pc6) (At.at A6.out 1 rfl)
  have I7 := Lib.hid (pix_put2 (x' := .int .i64 bw) (y' := .int .i64 bh) (z' := .slice po6 bp.length pc6) i6 HPL.out (At.at A6.out 1 rfl))
  have J7 := Lib.hid (pix_put2 (x' := .int .i64 bw) (y' := .int .i64 bh) (z' := .slice po6 bp.length pc6) J6.out HPL.out (At.at A6.out 1 rfl))
  have A7 := Lib.hid (show At (((w6.setCell ⟨b2, 0, none⟩ (.int .i64 bw)).setCell ⟨b2, 1, none⟩ (.int .i64 bh)).setCell ⟨b2, 2, none⟩ (.slice po6 bp.length pc6)) [(b2, Obj.cells #[.int .i64 bw, .int .i64 bh, .slice po6 bp.length pc6] 44), (b1, Obj.cells #[.int .i64 bw, .int .i64 bh, .slice po4 bp.length pc4] 44)] from ⟨st.1, At.other st.2.1 (by simp; omega) (At.erase A6.out 1)⟩)
  have E7 := Lib.hid (st.2.2 w (by omega) E6.out)
  obtain ⟨W7, hW7⟩ : ∃ W, ((w6.setCell ⟨b2, 0, none⟩ (.int .i64 bw)).setCell ⟨b2, 1, none⟩ (.int .i64 bh)).setCell ⟨b2, 2, none⟩ (.slice po6 bp.length pc6) = W := ⟨_, rfl⟩
  rw [hW7] at I7 J7 A7 E7 ⊢
  clear st hW7 x0 x1 x2 xf0 xf1 xf2 xz A6 E6 i6 h6 A5 E5 J6 I5
  obtain ⟨⟨x0, x1, x2⟩, xf0, xf1, xf2⟩ := run_3 (At.at A7.out 1 rfl)
  obtain ⟨⟨y0, y1, y2⟩, yf0, yf1, yf2⟩ := run_3 (At.at A7.out 0 rfl)
  have xz := At.lt A7.out 1 rfl
  have yz := At.lt A7.out 0 rfl
  go_wp2_with (go_at_call 33; (with_reducible refine (KS2.out _ _ _ J7.out I7.out).mono ?_); rintro E w8 ⟨rfl, h8⟩)
  go_ret
  exact ⟨rfl, E7.out.trans h8⟩
end Go.Proofs.YtlnofbdhamingaaDoor
