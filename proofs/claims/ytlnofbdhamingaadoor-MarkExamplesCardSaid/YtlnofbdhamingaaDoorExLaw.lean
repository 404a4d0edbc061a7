/- 'MarkExamples' returns true. -/
import Derived.Test.YtlnofbdhamingaaDoorAliveC
import Derived.Test.YtlnofbdhamingaaDoorExVals
import Derived.Test.YtlnofbdhamingaaDoorGlyphO
import Derived.Test.YtlnofbdhamingaaDoorEncFn
set_option linter.unusedVariables false
set_option linter.unusedSimpArgs false
namespace Go.Proofs.YtlnofbdhamingaaDoor
open Go.RowKit Go.Sort

theorem pix_some {w : World} {v : Value} {l : List Int} {n : Nat} (h : IntsAt w v l) (hn : l.length = n) (h0 : 0 < n) :
    ∃ b off cap, v = .slice (some ⟨b, off, none⟩) n cap ∧ ∀ i, i < n → w.cell? ⟨b, off + i, none⟩ = some (.int .i64 (l.getD i 0)) := by
  obtain ⟨ao, cap, rfl, -, hc⟩ := h.form
  rw [hn] at hc ⊢
  obtain ⟨b, off, rfl, -⟩ := hc 0 h0
  refine ⟨b, off, cap, rfl, fun i hi => ?_⟩
  obtain ⟨b', off', e, hx⟩ := hc i hi
  cases e
  exact hx
set_option maxRecDepth 100000 in
set_option maxHeartbeats 16000000 in
theorem ex_walk (w : World) (hT : Tabs w) : Calls Tryd.prog 16 #[] w fun e w' => e = .returned (.bool true) ∧ Ext w w' := by
  obtain ⟨i4, ci, cz0, cz1, cz2⟩ := info_parts3 info_bool
  have HT := Lib.hid hT
  have K0 := Lib.hid (fun w' (h : Ext w w') => l_alive w' (hT.ext h))
  have M1 : Hid (∀ w', Ext w w' → Calls Tryd.prog 18 #[.int .u8 7, .int .u8 9] w' fun e w'' => e = .returned (.tuple #[.int .u8 10, .int .i64 0]) ∧ Ext w' w'') := Lib.hid (fun w' h => by
    have k := c_Mul 7 9 w' (HT.out.ext h); rw [mul_79] at k; exact k)
  have M2 : Hid (∀ w', Ext w w' → Calls Tryd.prog 18 #[.int .u8 0, .int .u8 5] w' fun e w'' => e = .returned (.tuple #[.int .u8 0, .int .i64 0]) ∧ Ext w' w'') := Lib.hid (fun w' h => by
    have k := c_Mul 0 5 w' (HT.out.ext h); rw [mul_05] at k; exact k)
  have M3 : Hid (∀ w', Ext w w' → Calls Tryd.prog 18 #[.int .u8 16, .int .u8 1] w' fun e w'' => e = .returned (.tuple #[.int .u8 0, .int .i64 2]) ∧ Ext w' w'') := Lib.hid (fun w' h => by
    have k := c_Mul 16 1 w' (HT.out.ext h); rw [mul_161] at k; exact k)
  have V1 : Hid (∀ w', Ext w w' → Calls Tryd.prog 20 #[.int .u8 1] w' fun e w'' => e = .returned (.tuple #[.int .u8 1, .int .i64 0]) ∧ Ext w' w'') := Lib.hid (fun w' h => by
    have k := c_Inverse 1 w' (HT.out.ext h); rw [inv_1] at k; exact k)
  have V0 : Hid (∀ w', Ext w w' → Calls Tryd.prog 20 #[.int .u8 0] w' fun e w'' => e = .returned (.tuple #[.int .u8 0, .int .i64 2]) ∧ Ext w' w'') := Lib.hid (fun w' h => by
    have k := c_Inverse 0 w' (HT.out.ext h); rw [inv_0] at k; exact k)
  have K5 : Hid (∀ w' v, Ext w w' → BytesAt w' v [5] → Calls Tryd.prog 22 #[v] w' fun e w'' => ∃ v', e = .returned (.tuple #[v', .int .i64 0]) ∧ BytesAt w'' v' fiveL ∧ Ext w' w'') := Lib.hid (fun w' v h hv => by
    have k := c_Encode v [5] w' (HT.out.ext h) hv (by decide)
    unfold OwnWord at k
    rw [enc_5] at k
    exact k.mono (by rintro e w2 ⟨v', a1, a2, a3⟩; exact ⟨v', a1, SlAt.of_owns a2, a3⟩))
  have KI := Lib.hid (fun w' (v1 v2 : Value) l (h1 : BytesAt w' v1 l) (h2 : BytesAt w' v2 l) => l_is v1 v2 l w' h1 h2)
  have KD : Hid (∀ w' x b, Ext w w' → BytesAt w' x pwL → BoolsAt w' b e13L → Calls Tryd.prog 25 #[x, b, .int .i64 2] w' fun e w'' => ∃ v, e = .returned (.tuple #[v, .int .i64 0, .int .i64 0]) ∧ BytesAt w'' v [0, 1] ∧ (∀ j, v.ownBlock = some j → w'.heap.size ≤ j) ∧ Ext w' w'') := Lib.hid (fun w' x b h hx hb => by
    have k := c_Decode x b pwL e13L 2 w' (HT.out.ext h) hx hb (by decide) (by decide)
    rw [decA_13] at k
    exact k)
  have KD2 : Hid (∀ w' x b, Ext w w' → BytesAt w' x pwL → BoolsAt w' b e14L → Calls Tryd.prog 25 #[x, b, .int .i64 2] w' fun e w'' => ∃ v, e = .returned (.tuple #[v, .int .i64 0, .int .i64 60]) ∧ Ext w' w'') := Lib.hid (fun w' x b h hx hb => by
    have k := c_Decode x b pwL e14L 2 w' (HT.out.ext h) hx hb (by decide) (by decide)
    rw [decA_14] at k
    exact k.mono (by rintro e w2 ⟨v', a1, -, -, a3⟩; exact ⟨v', a1, a3⟩))
  have KDr : Hid (∀ w' v, Ext w w' → BytesAt w' v [0] → Calls Tryd.prog 34 #[v, .int .i64 1, .int .i64 10, .int .i64 200] w' fun e w'' => ∃ v', e = .returned (.tuple #[.agg #[.int .i64 8, .int .i64 8, v'], .int .i64 0]) ∧ IntsAt w'' v' m0I.pix ∧ Ext w' w'') := Lib.hid (fun w' v h hv => by
    have k := c_Draw v [0] 1 10 200 w' (HT.out.ext h) hv (by decide)
    rw [draw_0] at k
    exact k)
  clear hT
  go_enter Tryd.func16, Tryd.ntmps16
  go_wp2_with (first
    | (have _q := e6; go_at_call 49; (with_reducible refine (KI.out _ _ _ fiveL (b6.ext ((Ext.refl _).alloc _)) hb7).mono ?_); rintro E w7 ⟨rfl, h7⟩; have e7 := (e6.alloc (Obj.cells #[.int .u8 5, .int .u8 5, .int .u8 5, .int .u8 5, .int .u8 5, .int .u8 5, .int .u8 5, .int .u8 5, .int .u8 5, .int .u8 5, .int .u8 5, .int .u8 5, .int .u8 5, .int .u8 5, .int .u8 5] 5)).trans h7)
    | (have _q := e5; go_at_call 38; (with_reducible refine (K0.out _ e5).mono ?_); rintro E w6 ⟨rfl, h6⟩; have e6 := e5.trans h6; have b6 := b5.ext h6; have hb7 : BytesAt (w6.alloc (Obj.cells #[.int .u8 5, .int .u8 5, .int .u8 5, .int .u8 5, .int .u8 5, .int .u8 5, .int .u8 5, .int .u8 5, .int .u8 5, .int .u8 5, .int .u8 5, .int .u8 5, .int .u8 5, .int .u8 5, .int .u8 5] 5)) (.slice (some ⟨w6.heap.size, 0, none⟩) 15 15) fiveL := SlAt.of_owns (owns_lit w6 (bytesL fiveL) 5 15 1 0 (Nat.zero_le _) (by unfold maxLen; omega) rfl))
    | (have _q := e4; go_at_call 22; (with_reducible refine (K5.out _ _ (e4.alloc _) hb5).mono ?_); rintro E w5 ⟨v5, rfl, b5, h5⟩; have e5 := (e4.alloc (Obj.cells #[.int .u8 5] 5)).trans h5; obtain ⟨-, so5, sc5, rfl, -⟩ := id b5)
    | (have _q := e3; go_at_call 20; (with_reducible refine (V0.out _ e3).mono ?_); rintro E w4 ⟨rfl, h4⟩; have e4 := e3.trans h4; have hb5 : BytesAt (w4.alloc (Obj.cells #[.int .u8 5] 5)) (.slice (some ⟨w4.heap.size, 0, none⟩) 1 1) [5] := SlAt.of_owns (owns_lit w4 (bytesL [5]) 5 1 1 0 (Nat.zero_le _) (by unfold maxLen; omega) rfl))
    | (have _q := e2; go_at_call 20; (with_reducible refine (V1.out _ e2).mono ?_); rintro E w3 ⟨rfl, h3⟩; have e3 := e2.trans h3)
    | (have _q := e1; go_at_call 18; (with_reducible refine (M3.out _ e1).mono ?_); rintro E w2 ⟨rfl, h2⟩; have e2 := e1.trans h2)
    | (have _q := e0; go_at_call 18; (with_reducible refine (M2.out _ e0).mono ?_); rintro E w1 ⟨rfl, h1⟩; have e1 := e0.trans h1)
    | (go_at_call 18; (with_reducible refine (M1.out _ (Ext.refl _)).mono ?_); rintro E w0 ⟨rfl, h0⟩; have e0 := h0)
    | (at_make; refine wpList_make_full _ rfl _ _ 36 rfl w7.heap.size 4 i4 (.bool false) 1 Tryd.underlying36 ci cz0 cz1 .i64 .i64 _ _ 15 rfl rfl rfl rfl (by rw [cz2]; omega) (by unfold maxLen; omega) (Nat.le_refl _) ?_; intro w8 ho8 hg8; rw [made_bools] at ho8; have h8 : Ext w7 w8 := ext_of_grownNone hg8))
  obtain ⟨gb, hgb⟩ : ∃ g, w7.heap.size = g := ⟨_, rfl⟩
  have E8 := Lib.hid (e7.trans h8)
  have hwg : w.heap.size ≤ gb := by rw [← hgb]; exact e7.size
  rw [hgb] at ho8 ⊢
  have O8 := Lib.hid (show w8.ownsRow gb 4 1 (.slice (some ⟨gb, 0, none⟩) 15 15) 15 (boolsL (eK 0)) by rw [eK_zero]; exact ho8)
  clear M1 M2 M3 V1 V0 K5 K0 h0 h1 h2 h3 h4 h5 h6 h7 e0 e1 e2 e3 e4 e5 e6 b5 b6 hb5 hb7 ho8 hg8 hgb e7 h8
  go_loopw [14] (fun ii wi => ∃ i : Nat, i ≤ 13 ∧ ii = .int .i64 (i : Int) ∧ Ext w wi ∧ Hid (wi.ownsRow gb 4 1 (.slice (some ⟨gb, 0, none⟩) 15 15) 15 (boolsL (eK i)))) (fun ii _ => 13 - (intOf ii).toNat)
  case atStart => exact ⟨0, Nat.zero_le _, rfl, E8.out, O8⟩
  case round =>
    clear O8
    obtain ⟨i, hi, rfl, hE, hX⟩ := hrel
    by_cases hi13 : i < 13
    · have hlen := eK_len i hi
      obtain ⟨y, c0⟩ : ∃ y, wr.cell? ⟨gb, i, none⟩ = some (.bool y) := ⟨_, by rw [hX.out.cellAt i (by omega), boolsL_get (by omega)]⟩
      have c1 := hX.out.frozenAt i
      have HS := Lib.hid (eK_set i hi13)
      clear hlen
      go_wp2
      exact ⟨⟨i + 1, by omega, by go_num, hE.setCell (p := ⟨gb, i, none⟩) hwg _, Lib.hid (by
        have h := (hX.out.stored i (.bool true)).1
        rw [boolsL_set, HS.out] at h
        exact h)⟩, by simp [intOf]; omega⟩
    · have ei : i = 13 := by omega
      rw [ei, eK_13] at hX
      clear ei
      have hgl := (hX.out.lt gb rfl).2
      have HB13 := Lib.hid (show BoolsAt wr (.slice (some ⟨gb, 0, none⟩) 15 15) e13L from SlAt.of_owns hX.out)
      go_upto_region 15 with (first
        | (have _q := h9; go_at_call 25; (with_reducible refine (KD.out _ _ _ (hE.trans h9) b9 (HB13.out.ext h9)).mono ?_); rintro E w10 ⟨v10, rfl, b10, n10, h10⟩; obtain ⟨so10, sc10, rfl⟩ := form_len b10 (show ([0, 1] : List Nat).length = 2 from rfl); have h910 := h9.trans h10; have c0 : w10.cell? ⟨gb, 13, none⟩ = some (.bool false) := (by rw [(owns_ext hX.out h910).cellAt 13 (by omega)]; rfl); have c1 := (owns_ext hX.out h910).frozenAt 13)
        | (go_at_call 50; (with_reducible refine (l_powers _).mono ?_); rintro E w9 ⟨v9, rfl, o9, h9⟩; have b9 : BytesAt w9 v9 pwL := SlAt.of_owns o9; obtain ⟨-, so9, sc9, rfl, -⟩ := id b9))
      have hX10 := Lib.hid (owns_ext hX.out h910)
      go_upto_region 16 with fail
      obtain ⟨W11, hW11⟩ : ∃ W, w10.setCell ⟨gb, 13, none⟩ (.bool true) = W := ⟨_, rfl⟩
      have hgbw : w10.grownBy W11 (some gb) := by rw [← hW11]; exact gb_set _ _ _ _
      have X11 := Lib.hid (show W11.ownsRow gb 4 1 (.slice (some ⟨gb, 0, none⟩) 15 15) 15 (boolsL e14L) by
        have h := (hX10.out.stored 13 (.bool true)).1
        rw [boolsL_set, e14_set] at h
        rw [← hW11]
        exact h)
      have HB14 := Lib.hid (show BoolsAt W11 (.slice (some ⟨gb, 0, none⟩) 15 15) e14L from SlAt.of_owns X11.out)
      have E11 := Lib.hid ((hE.trans h910).gb hgbw hwg)
      have L11 := Lib.hid (show BytesAt W11 (.slice so10 2 sc10) [0, 1] from b10.gb hgbw (fun k hk h9' => by
        have a1 := n10 k hk
        have a2 := Option.some.inj h9'
        have a3 := h9.size
        omega))
      rw [hW11]
      clear hW11 hgbw hX10 hX c0 c1 b9 o9 b10 n10 h10 h910 h9 hE E8 hgl
      go_upto_region 18 with (first
        | (have _q := e13; go_at_call 34; (with_reducible refine (KDr.out _ _ (e13.alloc _) hb13).mono ?_); rintro E w14 ⟨v14, rfl, p14, h14⟩; obtain ⟨gp, op, zp, rfl, hp⟩ := pix_some p14 pix_m0.1 (by decide); have e14 := (e13.alloc (Obj.cells #[.int .u8 0] 5)).trans h14; have L14 := Lib.hid (L13.out.ext (((Ext.refl _).alloc (Obj.cells #[.int .u8 0] 5)).trans h14)))
        | (have _q := e12; go_at_call 25; (with_reducible refine (KD2.out _ _ _ e12 b12 (HB14.out.ext h12)).mono ?_); rintro E w13 ⟨v13, rfl, h13⟩; have e13 := e12.trans h13; have L13 := Lib.hid (L11.out.ext (h12.trans h13)); have hb13 : BytesAt (w13.alloc (Obj.cells #[.int .u8 0] 5)) (.slice (some ⟨w13.heap.size, 0, none⟩) 1 1) [0] := SlAt.of_owns (owns_lit w13 (bytesL [0]) 5 1 1 0 (Nat.zero_le _) (by unfold maxLen; omega) rfl))
        | (go_at_call 50; (with_reducible refine (l_powers _).mono ?_); rintro E w12 ⟨v12, rfl, o12, h12⟩; have b12 : BytesAt w12 v12 pwL := SlAt.of_owns o12; obtain ⟨-, so12, sc12, rfl, -⟩ := id b12; have e12 := E11.out.trans h12))
      have HP0 := Lib.hid pix_m0
      have E14 := Lib.hid (show Ext w (w14.alloc (Obj.cells #[.int .i64 8, .int .i64 8, .slice (some ⟨gp, op, none⟩) 64 zp] 44)) from e14.alloc _)
      have L15 := Lib.hid (show BytesAt (w14.alloc (Obj.cells #[.int .i64 8, .int .i64 8, .slice (some ⟨gp, op, none⟩) 64 zp] 44)) (.slice so10 2 sc10) [0, 1] from L14.out.ext ((Ext.refl _).alloc _))
      obtain ⟨⟨x0, x1, x2⟩, -⟩ := run_3 (one_first w14 (Obj.cells #[.int .i64 8, .int .i64 8, .slice (some ⟨gp, op, none⟩) 64 zp] 44))
      have r0 := ((Ext.refl w14).alloc (Obj.cells #[.int .i64 8, .int .i64 8, .slice (some ⟨gp, op, none⟩) 64 zp] 44)).get (hp 0 (by omega))
      have r7 := ((Ext.refl w14).alloc (Obj.cells #[.int .i64 8, .int .i64 8, .slice (some ⟨gp, op, none⟩) 64 zp] 44)).get (hp 7 (by omega))
      have r1 := ((Ext.refl w14).alloc (Obj.cells #[.int .i64 8, .int .i64 8, .slice (some ⟨gp, op, none⟩) 64 zp] 44)).get (hp 1 (by omega))
      rw [HP0.out.2.1] at r0
      rw [HP0.out.2.2.1] at r7
      rw [HP0.out.2.2.2, ] at r1
      rw [Nat.add_zero] at r0
      obtain ⟨W15, hW15⟩ : ∃ W, w14.alloc (Obj.cells #[.int .i64 8, .int .i64 8, .slice (some ⟨gp, op, none⟩) 64 zp] 44) = W := ⟨_, rfl⟩
      obtain ⟨bI, hbI⟩ : ∃ b, w14.heap.size = b := ⟨_, rfl⟩
      have hbz : bI < W15.heap.size := by rw [← hW15, size_one, hbI]; omega
      rw [hW15] at E14 L15 x0 x1 x2 r0 r7 r1 ⊢
      rw [hbI] at x0 x1 x2 ⊢
      have hb15 := Lib.hid (show BytesAt (W15.alloc (Obj.cells #[.int .u8 0, .int .u8 1] 5)) (.slice (some ⟨W15.heap.size, 0, none⟩) 2 2) [0, 1] from SlAt.of_owns (owns_lit W15 (bytesL [0, 1]) 5 2 1 0 (Nat.zero_le _) (by unfold maxLen; omega) rfl))
      have hl15 := Lib.hid (L15.out.ext ((Ext.refl W15).alloc (Obj.cells #[.int .u8 0, .int .u8 1] 5)))
      have KG : Hid (∀ w', Calls Tryd.prog 51 #[.int .i64 8] w' fun e w'' => ∃ v', e = .returned (.tuple #[v', .int .i64 0]) ∧ w''.ownsRow w'.heap.size 112 1 v' 15 (bytesL g8) ∧ Ext w' w'') := Lib.hid (fun w' => c_GlyphO 8 (by omega) w')
      have D1 : Hid (∀ w' v, BytesAt w' v g8 → Calls Tryd.prog 52 #[v] w' fun e w'' => e = .returned (.tuple #[.int .i64 8, .int .i64 1, .int .i64 0]) ∧ Ext w' w'') := Lib.hid (fun w' v h => by
        have k := c_Digit v _ w' h; rw [dig_8] at k; exact k)
      have D2 : Hid (∀ w' v, BytesAt w' v (g8.set 7 0) → Calls Tryd.prog 52 #[v] w' fun e w'' => e = .returned (.tuple #[.int .i64 0, .int .i64 1, .int .i64 0]) ∧ Ext w' w'') := Lib.hid (fun w' v h => by
        have k := c_Digit v _ w' h; rw [dig_80] at k; exact k)
      have D3 : Hid (∀ w' v, BytesAt w' v ((g8.set 7 0).set 7 2) → Calls Tryd.prog 52 #[v] w' fun e w'' => e = .returned (.tuple #[.int .i64 0, .int .i64 0, .int .i64 0]) ∧ Ext w' w'') := Lib.hid (fun w' v h => by
        have k := c_Digit v _ w' h; rw [dig_82] at k; exact k)
      have HGL := Lib.hid (show ∀ v w' l, l.length = 15 → ∀ b, w'.ownsRow b 112 1 v 15 (bytesL l) → BytesAt w' v l from fun v w' l hl b h => by
        show SlAt w' 1 v l.length (bytesL l)
        rw [hl]
        exact SlAt.of_owns h)
      have HL1 := Lib.hid (show g8.length = 15 ∧ (g8.set 7 0).length = 15 ∧ ((g8.set 7 0).set 7 2).length = 15 by decide)
      clear hW15 hbI p14 hp L14 L13 L15 h14 e14 h12 e12 e13 h13 hb13 b12 o12 KD KD2 KDr HB14 X11 L11 E11 HP0
      go_upto_region 23 with (first
        | (have _q := e16; go_at_call 51; (with_reducible refine (KG.out _).mono ?_); rintro E w17 ⟨v17, rfl, o17, h17⟩; obtain ⟨gg, cg, rfl, hgg, -⟩ := owns_some o17 (by decide); have e17 := Lib.hid (e16.out.trans h17))
        | (go_at_call 49; (with_reducible refine (KI.out _ _ _ [0, 1] hl15.out hb15.out).mono ?_); rintro E w16 ⟨rfl, h16⟩; have e16 := Lib.hid ((E14.out.alloc (Obj.cells #[.int .u8 0, .int .u8 1] 5)).trans h16); have hx16 := ((Ext.refl W15).alloc (Obj.cells #[.int .u8 0, .int .u8 1] 5)).trans h16; have y0 := hx16.get x0; have y1 := hx16.get x1; have y2 := hx16.get x2; have s0 := hx16.get r0; have s7 := hx16.get r7; have s1 := hx16.get r1; have hbz2 := Nat.lt_of_lt_of_le hbz hx16.size))
      have hwgg : w.heap.size ≤ gg := Nat.le_trans e16.out.size hgg
      have HB17 := Lib.hid (HGL.out _ _ _ HL1.out.1 _ o17)
      have O17 := Lib.hid o17
      clear x0 x1 x2 r0 r7 r1 y0 y1 y2 s0 s7 s1 hbz hbz2 hx16 h16 hl15 hb15 E14 e16 o17 h17 hgg
      go_upto_region 24 with (go_at_call 52; (with_reducible refine (D1.out _ _ HB17.out).mono ?_); rintro E w18 ⟨rfl, h18⟩; have O18 := Lib.hid (owns_ext O17.out h18); have E18 := Lib.hid (e17.out.trans h18))
      obtain ⟨z0, c7⟩ : ∃ z, w18.cell? ⟨gg, 7, none⟩ = some (.int .u8 z) := ⟨_, by rw [O18.out.cellAt 7 (by omega), bytesL_get (by rw [HL1.out.1]; omega)]⟩
      have f7 := O18.out.frozenAt 7
      go_upto_region 25 with fail
      have O19 := Lib.hid (show (w18.setCell ⟨gg, 7, none⟩ (.int .u8 0)).ownsRow _ 112 1 (.slice (some ⟨gg, 0, none⟩) 15 cg) 15 (bytesL (g8.set 7 0)) by
        have h := (O18.out.stored 7 (.int .u8 ((0 : Nat) : Int))).1
        rw [bytesL_set] at h
        exact h)
      have E19 := Lib.hid (show Ext w (w18.setCell ⟨gg, 7, none⟩ (.int .u8 0)) from E18.out.setCell (p := ⟨gg, 7, none⟩) hwgg _)
      obtain ⟨W19, hW19⟩ : ∃ W, w18.setCell ⟨gg, 7, none⟩ (.int .u8 0) = W := ⟨_, rfl⟩
      rw [hW19] at O19 E19 ⊢
      have HB19 := Lib.hid (HGL.out _ _ _ HL1.out.2.1 _ O19.out)
      clear hW19 c7 f7 O18 O17 HB17 h18 E18
      go_upto_region 26 with (go_at_call 52; (with_reducible refine (D2.out _ _ HB19.out).mono ?_); rintro E w20 ⟨rfl, h20⟩; have O20 := Lib.hid (owns_ext O19.out h20); have E20 := Lib.hid (E19.out.trans h20))
      obtain ⟨z1, c7⟩ : ∃ z, w20.cell? ⟨gg, 7, none⟩ = some (.int .u8 z) := ⟨_, by rw [O20.out.cellAt 7 (by omega), bytesL_get (by rw [HL1.out.2.1]; omega)]⟩
      have f7 := O20.out.frozenAt 7
      go_upto_region 27 with fail
      have O21 := Lib.hid (show (w20.setCell ⟨gg, 7, none⟩ (.int .u8 2)).ownsRow _ 112 1 (.slice (some ⟨gg, 0, none⟩) 15 cg) 15 (bytesL ((g8.set 7 0).set 7 2)) by
        have h := (O20.out.stored 7 (.int .u8 ((2 : Nat) : Int))).1
        rw [bytesL_set] at h
        exact h)
      have E21 := Lib.hid (show Ext w (w20.setCell ⟨gg, 7, none⟩ (.int .u8 2)) from E20.out.setCell (p := ⟨gg, 7, none⟩) hwgg _)
      obtain ⟨W21, hW21⟩ : ∃ W, w20.setCell ⟨gg, 7, none⟩ (.int .u8 2) = W := ⟨_, rfl⟩
      rw [hW21] at O21 E21 ⊢
      have HB21 := Lib.hid (HGL.out _ _ _ HL1.out.2.2 _ O21.out)
      clear hW21 c7 f7 O20 O19 HB19 h20 E20 E19
      have KP : Hid (∀ w', Calls Tryd.prog 36 #[.string { data := #[49, 55] }, .int .i64 1, .int .i64 10, .int .i64 200] w' fun e w'' => ∃ v', e = .returned (.tuple #[.agg #[.int .i64 7, .int .i64 5, v'], .int .i64 0]) ∧ IntsAt w'' v' p17.pix ∧ Ext w' w'') := Lib.hid (fun w' => by
        have k := c_Print s17 1 10 200 w' (by decide)
        rw [print_17] at k
        exact k)
      have KL1 : Hid (∀ w' v, IntsAt w' v p17.pix → Calls Tryd.prog 46 #[.agg #[.int .i64 7, .int .i64 5, v], .int .i64 1, .agg #[.int .i64 50, .int .i64 100], .int .i64 1] w' fun e w'' => e = .returned (.tuple #[.string { data := #[49, 55] }, .int .i64 0]) ∧ Ext w' w'') := Lib.hid (fun w' v hv => by
        have k := c_ReadLine p17 v 1 ⟨50, 100⟩ 1 w' hv (by decide)
        rw [line_1] at k
        exact k)
      have KL8 : Hid (∀ w' v, IntsAt w' v p17.pix → Calls Tryd.prog 46 #[.agg #[.int .i64 7, .int .i64 5, v], .int .i64 1, .agg #[.int .i64 50, .int .i64 100], .int .i64 8] w' fun e w'' => e = .returned (.tuple #[.string { data := #[63, 63] }, .int .i64 0]) ∧ Ext w' w'') := Lib.hid (fun w' v hv => by
        have k := c_ReadLine p17 v 1 ⟨50, 100⟩ 8 w' hv (by decide)
        rw [line_8] at k
        exact k)
      obtain ⟨ip2, hip2⟩ : ∃ p, p17.pix = p := ⟨_, rfl⟩
      rw [hip2] at KP KL1 KL8
      clear hip2
      have KW : Hid (∀ w', Calls Tryd.prog 48 #[] w' fun e w'' => e = .returned (.agg #[.int .i64 50, .int .i64 100]) ∧ Ext w' w'') := Lib.hid (fun w' => l_wide w')
      go_upto_region 29 with (first
        | (go_at_call 36; (with_reducible refine (KP.out _).mono ?_); rintro E w23 ⟨v23, rfl, i23, h23⟩; obtain ⟨-, qo, qc, rfl, -⟩ := id i23; have e23 := Lib.hid (e22.out.trans h23))
        | (go_at_call 52; (with_reducible refine (D3.out _ _ HB21.out).mono ?_); rintro E w22 ⟨rfl, h22⟩; have e22 := Lib.hid (E21.out.trans h22)))
      obtain ⟨W24, hW24⟩ : ∃ W, w23.alloc (Obj.cells #[.int .i64 7, .int .i64 5, .slice qo ip2.length qc] 44) = W := ⟨_, rfl⟩
      obtain ⟨⟨p0, p1, p2⟩, -⟩ := run_3 (one_first w23 (Obj.cells #[.int .i64 7, .int .i64 5, .slice qo ip2.length qc] 44))
      have hz24 : w23.heap.size < W24.heap.size := by rw [← hW24, size_one]; omega
      have I24 := Lib.hid (show IntsAt W24 (.slice qo ip2.length qc) ip2 from by rw [← hW24]; exact IntsAt.ext i23 ((Ext.refl _).alloc _))
      have E24 := Lib.hid (show Ext w W24 from by rw [← hW24]; exact e23.out.alloc _)
      obtain ⟨B23, hB23⟩ : ∃ b, w23.heap.size = b := ⟨_, rfl⟩
      rw [hW24] at p0 p1 p2 ⊢
      rw [hB23] at p0 p1 p2 hz24 ⊢
      clear hW24 hB23 i23 h23 h22 e22 e23 HB21 O21 E21
      refine wp_region_quiet_below (by kernel_rfl) (by kernel_rfl) ?_
      repeat (go_big_quiet_step (first
        | (go_at_call 48; with_reducible exact Calls.ext_of (KW.out _))
        | (go_at_call 46; with_reducible exact Calls.ext_of (KL1.out _ _ (IntsAt.ext I24.out (Ext.grow _ _ _))))))
      refine wpQuiet_nil ?_
      intro w25 hw'
      obtain ⟨pq, hw''⟩ := hw'
      have h25 := ext_of_regrown hw''
      clear hw'' pq
      have u0 := h25.get p0
      have u1 := h25.get p1
      have u2 := h25.get p2
      have hz25 := Nat.lt_of_lt_of_le hz24 h25.size
      have I25 := Lib.hid (IntsAt.ext I24.out h25)
      have E25 := Lib.hid (E24.out.trans h25)
      clear p0 p1 p2 hz24 I24 E24 h25
      go_wp2
      refine wp_region_quiet_below (by kernel_rfl) (by kernel_rfl) ?_
      repeat (go_big_quiet_step (first
        | (go_at_call 48; with_reducible exact Calls.ext_of (KW.out _))
        | (go_at_call 46; with_reducible exact Calls.ext_of (KL8.out _ _ (IntsAt.ext I25.out (Ext.grow _ _ _))))))
      refine wpQuiet_nil ?_
      intro w26 hw'
      obtain ⟨pq, hw''⟩ := hw'
      have h26 := ext_of_regrown hw''
      clear hw'' pq
      go_wp2
      go_ret
      exact ⟨rfl, E25.out.trans h26⟩
end Go.Proofs.YtlnofbdhamingaaDoor
