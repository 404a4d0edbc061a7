/- Reading of a mark: the reference's. -/
import Derived.Test.YtlnofbdhamingaaDoorRTurn
import Derived.Test.YtlnofbdhamingaaDoorTakenFn
import Derived.Test.YtlnofbdhamingaaDoorDecodeR
import Derived.Test.YtlnofbdhamingaaDoorGMod
import Derived.Deep.DeepCutAuto
import Derived.Deep.Cut
set_option linter.unusedVariables false
set_option linter.unusedSimpArgs false
namespace Go.Proofs.YtlnofbdhamingaaDoor
open Go.RowKit Go.Sort

theorem bytes_ne {w : World} {v : Value} {l : List Nat} {b e : Nat} {fr : Nat × Nat} {cs : Array Value} (h : BytesAt w v l) (hl : 1 ≤ l.length) (hb : w.heap[b]? = some (.cells cs e fr)) (hn : ∀ n : Int, ∀ x ∈ cs.toList, x ≠ .int .u8 n) : ∀ k, v.ownBlock = some k → k ≠ b := by
  rintro k hk rfl
  obtain ⟨ao, cap, rfl, hc⟩ := bytes_cells h
  obtain ⟨b', off, rfl, c⟩ := hc 0 hl
  have e1 : b' = k := Option.some.inj hk
  subst e1
  simp only [World.cell?, hb] at c
  exact hn _ _ (Array.mem_def.1 (Array.mem_of_getElem? c)) rfl
theorem bools_ne {w : World} {v : Value} {l : List Bool} {b e : Nat} {fr : Nat × Nat} {cs : Array Value} (h : BoolsAt w v l) (hl : 1 ≤ l.length) (hb : w.heap[b]? = some (.cells cs e fr)) (hn : ∀ n : Bool, ∀ x ∈ cs.toList, x ≠ .bool n) : ∀ k, v.ownBlock = some k → k ≠ b := by
  rintro k hk rfl
  obtain ⟨ao, cap, rfl, hc⟩ := bools_cells h
  obtain ⟨b', off, rfl, c⟩ := hc 0 hl
  have e1 : b' = k := Option.some.inj hk
  subst e1
  simp only [World.cell?, hb] at c
  exact hn _ _ (Array.mem_def.1 (Array.mem_of_getElem? c)) rfl
theorem seenR_le2 (pix : List Int) (W H S : Nat) (lo hi : Int) (i : Nat) : (seenR pix W H S lo hi).getD i 0 ≤ 2 := by
  by_cases h : i < W * H
  · rw [seenR_get h]; unfold colR; split <;> (try split) <;> omega
  · rw [List.getD_eq_getElem?_getD, List.getElem?_eq_none (by rw [seenR_length]; omega)]; exact Nat.zero_le _
theorem rsee_sq {S t ww : Nat} (hS : 1 ≤ S ∧ S ≤ 2) {m : Img} (h : SqCam S m) (hw : 8 * S = ww) (pv : Value) (lo hi : Int) (hc : (⟨lo, hi⟩ : Con).Ok) (w : World) (hv : IntsAt w pv (turnN t m).pix) :
    Calls Tryd.prog 69 #[.agg #[.int .i64 (ww : Int), .int .i64 (ww : Int), pv], .int .i64 (S : Int), .agg #[.int .i64 lo, .int .i64 hi]] w (OwnBytes (seenR (turnN t m).pix 8 8 S lo hi) w) := by
  subst hw
  have hcm := turnN_cam hS h t
  exact r_Seen 8 8 S (turnN t m).pix pv ⟨lo, hi⟩ w hv hS ⟨by omega, by omega⟩ ⟨by omega, by omega⟩ hcm.len hcm.2.2.2 hc
theorem decA_in {k : Nat} (h1 : 1 ≤ k) (h2 : k ≤ 13) (ms : List Nat) : decA (wordK ms 60) (eraK ms 60) (k : Int) = match decR (wordK ms 60) (eraK ms 60) k with | none => (([], 0), (60 : Int)) | some M => ((M, errN M (wordK ms 60) (eraK ms 60)), (0 : Int)) := by
  have hsy : allSym (wordK ms 60) = true := all_yes fun j hj => by
    have := wordK_syms ms 60 ((wordK ms 60).getD j 0) (by rw [List.getD_eq_getElem?_getD, List.getElem?_eq_getElem hj]; exact List.getElem_mem _)
    omega
  have hD : DecOk (wordK ms 60) (eraK ms 60) (k : Int) := ⟨wordK_len ms 60, hsy, eraK_len ms 60, by omega, by omega⟩
  rw [decA_def, if_pos hD, Int.toNat_natCast]
  cases decR (wordK ms 60) (eraK ms 60) k <;> rfl
set_option maxRecDepth 100000 in
set_option maxHeartbeats 16000000 in
theorem r_Read_main (S ww kn cap : Nat) (pix : List Int) (ao : Option Addr) (lo hi' : Int) (w : World) (hS : 1 ≤ S ∧ S ≤ 2) (hww : 8 * S = ww) (hSC : SqCam S ⟨(ww : Int), (ww : Int), pix⟩) (hcc : (⟨lo, hi'⟩ : Con).Ok) (hk1 : 1 ≤ kn) (hk2 : kn ≤ 13) (hv : IntsAt w (.slice ao pix.length cap) pix) :
    Calls Tryd.prog 31 #[.agg #[.int .i64 (ww : Int), .int .i64 (ww : Int), .slice ao pix.length cap], .agg #[.int .i64 lo, .int .i64 hi'], .int .i64 (kn : Int)] w (RdErr (ansR (readI ⟨(ww : Int), (ww : Int), pix⟩ S lo hi' kn)) w) := by
  have HK := Lib.hid (And.intro hk1 hk2)
  have K1 := Lib.hid (fun w' (h : Ext w w') => r_Camera ⟨(ww : Int), (ww : Int), pix⟩ (.slice ao pix.length cap) w' (hv.ext h) (by
    rw [hSC.len]
    have : 8 * S * (8 * S) ≤ 16 * 16 := Nat.mul_le_mul (by omega) (by omega)
    unfold maxLen
    omega))
  rw [decide_eq_true hSC.2.2] at K1
  have K2 := Lib.hid (fun w' => r_contrast ⟨lo, hi'⟩ w')
  rw [decide_eq_true hcc] at K2
  have HV := Lib.hid hv
  have hnk1 : ¬ (kn : Int) < 1 := by omega
  have hnk2 : ¬ (13 : Int) < (kn : Int) := by omega
  obtain ⟨Rd9, hR9⟩ : ∃ R, readI ⟨(ww : Int), (ww : Int), pix⟩ S lo hi' kn = R := ⟨_, rfl⟩
  rw [hR9]
  have HR9 := Lib.hid hR9
  clear hR9
  have HSC := Lib.hid hSC
  have HCO := Lib.hid hcc
  have HL := Lib.hid (show pix.length = ww * ww by have := hSC.len; rw [hww] at this; exact this)
  have q1 : ((ww : Int) != (ww : Int)) = false := by rw [bne_eq_false_iff_eq]
  have HWW := Lib.hid hww
  have hw16 : ww ≤ 16 ∧ 8 ≤ ww := by omega
  have qd : (ww : Int).tdiv 8 = (S : Int) := by rw [Int.tdiv_eq_ediv_of_nonneg (by omega)]; omega
  have hsz : ww = 8 ∨ (ww = 16 ∧ ¬ ww = 8) := by omega
  unfold imgVal conVal at *
  dsimp only at *
  clear hcc hSC hww hv
  go_enter Tryd.func31, Tryd.ntmps31
  rcases hsz with h8 | ⟨h16, h8⟩
  case' inl =>
    have q2 : ((ww : Int) != 8) = false := by rw [bne_eq_false_iff_eq]; omega
    clear h8
  case' inr =>
    have q2 : ((ww : Int) != 8) = true := by rw [bne_iff_ne]; omega
    have q3 : ((ww : Int) != 16) = false := by rw [bne_eq_false_iff_eq]; omega
    clear h16 h8
  all_goals
    go_wp2_with (first | (go_at_call 68; (with_reducible refine (K1.out _ (by repeat (first | exact Ext.refl _ | assumption | refine Ext.alloc ?_ _ | refine Ext.drewN ?_ _ | refine ext_grow ?_ _ _ | refine Ext.trans ?_ (by assumption)))).mono ?_); rintro E w1 ⟨rfl, h1⟩; have A1 := Lib.hid (show At w1 [(w.heap.size, Obj.cells #[.int .i64 (ww : Int), .int .i64 (ww : Int), .slice ao pix.length cap] 44), (w.heap.size + 1, Obj.cells #[.int .i64 lo, .int .i64 hi'] 46), (w.heap.size + 1 + 1, Obj.cells #[.slice none 0 0, .int .i64 0, .int .i64 0, .int .i64 0] 51)] from At.ext h1 ⟨three_first _ _ _ _, three_second _ _ _ _, three_third _ _ _ _, trivial⟩); have E1 := Lib.hid (show Ext w w1 from (by repeat (first | exact Ext.refl _ | assumption | refine Ext.alloc ?_ _ | refine Ext.drewN ?_ _ | refine ext_grow ?_ _ _ | refine Ext.trans ?_ (by assumption)))); obtain ⟨⟨x0, x1, x2⟩, -⟩ := run_3 (At.at A1.out 0 rfl); obtain ⟨⟨y0, y1⟩, -⟩ := run_2 (At.at A1.out 1 rfl); obtain ⟨⟨z0, z1, z2, z3⟩, zf0, zf1, zf2, zf3⟩ := run_4 (At.at A1.out 2 rfl); have b0 := At.lt A1.out 0 rfl; have b1 := At.lt A1.out 1 rfl; have b2 := At.lt A1.out 2 rfl) | (go_at_call 44; (with_reducible refine (K2.out _).mono ?_); rintro E w2 ⟨rfl, h2⟩; have A2 := Lib.hid (At.ext h2 A1.out); have E2 := Lib.hid (E1.out.trans h2); clear x0 x1 x2 y0 y1 z0 z1 z2 z3 zf0 zf1 zf2 zf3; obtain ⟨⟨x0, x1, x2⟩, -⟩ := run_3 (At.at A2.out 0 rfl); obtain ⟨⟨y0, y1⟩, -⟩ := run_2 (At.at A2.out 1 rfl); obtain ⟨⟨z0, z1, z2, z3⟩, zf0, zf1, zf2, zf3⟩ := run_4 (At.at A2.out 2 rfl)))
    obtain ⟨B0, hB0⟩ : ∃ B, w.heap.size = B := ⟨_, rfl⟩
    obtain ⟨B3, hB3⟩ : ∃ B, w2.heap.size = B := ⟨_, rfl⟩
    have hB03 : B0 + 1 + 1 < B3 := by rw [← hB3, ← hB0]; exact Nat.lt_of_lt_of_le b2 h2.size
    have hEa : Ext w2 (w2.alloc (Obj.cells #[.slice none 0 0, .int .i64 0, .int .i64 0, .int .i64 0] 51)) := (Ext.refl w2).alloc _
    obtain ⟨m0, hm0⟩ : ∃ x, (⟨(ww : Int), (ww : Int), pix⟩ : Img) = x := ⟨_, rfl⟩
    have hpm : pix = m0.pix := by rw [← hm0]
    rw [hm0] at HR9 HSC
    obtain ⟨mods, hmods⟩ : ∃ f : Nat → List Nat, (fun t => seenR (turnN t m0).pix 8 8 S lo hi') = f := ⟨_, rfl⟩
    have HRI := Lib.hid (show Rd9 = bestR kn mods 4 by rw [← HR9.out, ← hmods]; rfl)
    have HMD := Lib.hid (fun t => congrFun hmods t)
    obtain ⟨W3, hW3⟩ : ∃ W, w2.alloc (Obj.cells #[.slice none 0 0, .int .i64 0, .int .i64 0, .int .i64 0] 51) = W := ⟨_, rfl⟩
    have hnew := heap_alloc_new w2 (Obj.cells #[.slice none 0 0, .int .i64 0, .int .i64 0, .int .i64 0] 51)
    rw [hW3] at hEa hnew
    have hA3 := At.ext hEa A2.out
    rw [hB0] at hA3
    rw [hB3] at hnew
    have HA3 := Lib.hid (show At W3 (readL B0 B3 ww lo hi' (.slice ao pix.length cap) (.slice none 0 0) (bestD (bestR kn mods 0))) from ⟨At.at hA3 0 rfl, At.at hA3 1 rfl, At.at hA3 2 rfl, hnew, trivial⟩)
    have HE3 := Lib.hid (E2.out.trans hEa)
    have HP3 := Lib.hid (show IntsAt W3 (.slice ao pix.length cap) (turnN 0 m0).pix from by show IntsAt W3 _ m0.pix; rw [← hpm]; exact HV.out.ext HE3.out)
    have HPB := Lib.hid (show ∀ j, (Value.slice ao pix.length cap).ownBlock = some j → j < B0 ∨ B3 < j from fun j hj => .inl (by
      rcases HV.out.cases with ⟨h1, -⟩ | ⟨hl1, b, off, cp, h1, -, -, h3⟩
      · exfalso
        have h5 := HL.out
        have h6 : ww * ww = 0 := by rw [← h5]; simp [h1]
        rcases Nat.mul_eq_zero.1 h6 with h7 | h7 <;> omega
      · injection h1 with e1 _ _
        rw [e1] at hj
        have e2 : b = j := Option.some.inj hj
        have := World.block_lt_of_cell? _ _ (h3 0 hl1)
        rw [← hB0, ← e2]
        exact this))
    have HBB := Lib.hid (And.intro hB0 hB3)
    have HSS := Lib.hid hS
    rw [hB0, hW3, hB3]
    clear hA3 hnew hEa hW3 hB0 hB3 hpm hm0 hmods HV HL K1 K2 h1 h2 A1 A2 E1 E2 x0 x1 x2 y0 y1 z0 z1 z2 z3 zf0 zf1 zf2 zf3 b0 b1 b2
    go_loopw [9, 10] (fun ff tt wr => ∃ (t : Nat) (pv bv : Value), t ≤ 4 ∧ tt = .int .i64 (t : Int) ∧ ff = .bool (bestR kn mods t).isSome ∧ Hid (Ext w wr) ∧ Hid (At wr (readL B0 B3 ww lo hi' pv bv (bestD (bestR kn mods t)))) ∧ Hid (IntsAt wr pv (turnN t m0).pix) ∧ Hid (∀ j, pv.ownBlock = some j → j < B0 ∨ B3 < j) ∧ Hid (BytesAt wr bv (bestD (bestR kn mods t)).msg) ∧ Hid (∀ j, bv.ownBlock = some j → j ≠ B0 ∧ j ≠ B0 + 1 + 1 ∧ j ≠ B3)) (fun _ tt _ => 4 - (intOf tt).toNat)
    case atStart => exact ⟨0, _, _, Nat.zero_le _, rfl, rfl, HE3, HA3, HP3, HPB, Lib.hid (bytes_nil _), Lib.hid (fun j hj => by cases hj)⟩
    case round =>
      clear HA3 HE3 HP3 HPB
      obtain ⟨t, pv, bv, ht, rfl, rfl, hE, hA, hP, hPB, hBv, hBB⟩ := hrel
      by_cases ht4 : t < 4
      · have K3 := Lib.hid (fun w' (h : Ext wr w') => rsee_sq (t := t) HSS.out HSC.out HWW.out pv lo hi' HCO.out w' (hP.out.ext h))
        have K4 := Lib.hid (fun w' (h : Ext wr w') => r_turn_sq HSS.out (turnN_cam HSS.out HSC.out t) HWW.out pv w' (hP.out.ext h))
        rw [← turnN_succ] at K4
        have hmd := HMD.out t
        have hm2 := fun i => seenR_le2 (turnN t m0).pix 8 8 S lo hi' i
        rw [hmd] at K3 hm2
        have hml := seenR_length (turnN t m0).pix 8 8 S lo hi'
        rw [hmd] at hml
        obtain ⟨ms, hms⟩ : ∃ x, mods t = x := ⟨_, rfl⟩
        rw [hms] at K3 hm2 hml
        have KT := Lib.hid (fun v' w' (h : BytesAt w' v' ms) => r_taken v' ms w' h hml hm2)
        have HML := Lib.hid (show ms.length = 64 from hml)
        have HMS := Lib.hid hms
        obtain ⟨px, hpx⟩ : ∃ x, (turnN t m0).pix = x := ⟨_, rfl⟩
        rw [hpx] at hP
        obtain ⟨po, pc, rfl, -, -⟩ := hP.out.form
        obtain ⟨o, ho⟩ : ∃ o, bestR kn mods t = o := ⟨_, rfl⟩
        rw [ho] at hA hBv ⊢
        have HO := Lib.hid ho
        obtain ⟨ub, hub⟩ : ∃ b, upright ms = b := ⟨_, rfl⟩
        have HUB := Lib.hid hub
        obtain ⟨⟨x0, x1, x2⟩, xf0, xf1, xf2⟩ := run_3 (At.at hA.out 0 rfl)
        obtain ⟨⟨y0, y1⟩, -⟩ := run_2 (At.at hA.out 1 rfl)
        have b0 := At.lt hA.out 0 rfl
        have b1 := At.lt hA.out 1 rfl
        unfold OwnBytes at K3
        unfold TakenIs at KT
        unfold ImgSq at K4
        rw [hub] at KT
        clear hpx ho hms hmd hm2 hml hub
        go_upto_region 13 with (first
          | (go_at_call 69; (with_reducible refine (K3.out _ (Ext.refl _)).mono ?_); rintro E w3 ⟨v3, rfl, h3, h3'⟩; have i3 : BytesAt w3 v3 ms := SlAt.of_owns h3; clear h3)
          | (go_at_call 72; (with_reducible refine (KT.out _ _ i3).mono ?_); rintro E w4 ⟨h4', v1, v2, rfl, hup⟩; have h34 := h3'.trans h4'; have hA3 := Lib.hid (At.ext h34 hA.out); clear x0 x1 x2 xf0 xf1 xf2 y0 y1; obtain ⟨⟨x0, x1, x2⟩, xf0, xf1, xf2⟩ := run_3 (At.at hA3.out 0 rfl); have b30 := At.lt hA3.out 0 rfl)
          | (go_at_call 73; (with_reducible refine (K4.out _ h34).mono ?_); rintro E w5 ⟨v4, rfl, h4, h4b, h5'⟩; have hP4 := Lib.hid h4; clear h4; obtain ⟨-, qo, qc, rfl, -⟩ := hP4.out; have hA4 := Lib.hid (At.ext h5' hA3.out); clear x0 x1 x2 xf0 xf1 xf2; obtain ⟨⟨x0, x1, x2⟩, xf0, xf1, xf2⟩ := run_3 (At.at hA4.out 0 rfl)))
        have hB0n : ∀ j, (Value.slice qo (turnN (t + 1) m0).pix.length qc).ownBlock = some j → B0 ≠ j := fun j hj h9 => by
          have h1 := h4b j hj
          omega
        obtain ⟨n5, hn5⟩ : ∃ n, (turnN (t + 1) m0).pix.length = n := ⟨_, rfl⟩
        rw [hn5] at hB0n hP4 h4b ⊢
        have st := store_3 (v0 := .int .i64 (ww : Int)) (v1 := .int .i64 (ww : Int)) (v2 := .slice qo n5 qc) (At.at hA4.out 0 rfl)
        obtain ⟨W5, hW5⟩ : ∃ W, ((w5.setCell ⟨B0, 0, none⟩ (.int .i64 (ww : Int))).setCell ⟨B0, 1, none⟩ (.int .i64 (ww : Int))).setCell ⟨B0, 2, none⟩ (.slice qo n5 qc) = W := ⟨_, rfl⟩
        have hgb : w5.grownBy W5 (some B0) := by rw [← hW5]; exact gb_trans (gb_trans (gb_set _ _ _ _) (gb_set _ _ _ _)) (gb_set _ _ _ _)
        have hw34 : Ext wr w5 := h34.trans h5'
        rw [hW5] at st ⊢
        have HE5 := Lib.hid (st.2.2 w (by rw [HBB.out.1]; exact Nat.le_refl _) (hE.out.trans hw34))
        have HA5 := Lib.hid (show At W5 (readL B0 B3 ww lo hi' (.slice qo n5 qc) bv (bestD o)) from ⟨st.1, (st.2.1 _ (by omega)).trans (At.at hA4.out 1 rfl), (st.2.1 _ (by omega)).trans (At.at hA4.out 2 rfl), (st.2.1 _ (by omega)).trans (At.at hA4.out 3 rfl), trivial⟩)
        have HP5 := Lib.hid (show IntsAt W5 (.slice qo n5 qc) (turnN (t + 1) m0).pix from SlAt.gb hP4.out hgb (fun j hj h9 => hB0n j hj (Option.some.inj h9).symm))
        have HPB5 := Lib.hid (show ∀ j, (Value.slice qo n5 qc).ownBlock = some j → j < B0 ∨ B3 < j from fun j hj => .inr (by
          have h1 := h4b j hj
          have h2 := h34.size
          have := At.lt hA.out 3 rfl
          omega))
        have HBv5 := Lib.hid (show BytesAt W5 bv (bestD o).msg from (hBv.out.ext hw34).gb hgb (fun j hj h9 => (hBB.out j hj).1 (Option.some.inj h9)))
        have HUP := Lib.hid (show ub = true → BytesAt W5 v1 (wordK ms 60) ∧ BoolsAt W5 v2 (eraK ms 60) from fun hu => by
          obtain ⟨u1, u2⟩ := hup hu
          have n1 := bytes_ne (u1.ext h5') (by rw [wordK_len]; omega) (At.at hA4.out 0 rfl) (fun n x hx => by simp at hx; rcases hx with rfl | rfl <;> simp)
          have n2 := bools_ne (u2.ext h5') (by rw [eraK_len]; omega) (At.at hA4.out 0 rfl) (fun n x hx => by simp at hx; rcases hx with rfl | rfl <;> simp)
          exact ⟨(u1.ext h5').gb hgb (fun j hj h9 => n1 j hj (Option.some.inj h9)), SlAt.gb (u2.ext h5') hgb (fun j hj h9 => n2 j hj (Option.some.inj h9))⟩)
        have FIN := Lib.hid (show ∀ wz, Ext W5 wz → bestR kn mods (t + 1) = o → ∃ (t' : Nat) (pv bv : Value), t' ≤ 4 ∧ Value.int .i64 ((t : Int) + 1) = .int .i64 (t' : Int) ∧ Value.bool o.isSome = .bool (bestR kn mods t').isSome ∧ Hid (Ext w wz) ∧ Hid (At wz (readL B0 B3 ww lo hi' pv bv (bestD (bestR kn mods t')))) ∧ Hid (IntsAt wz pv (turnN t' m0).pix) ∧ Hid (∀ j, pv.ownBlock = some j → j < B0 ∨ B3 < j) ∧ Hid (BytesAt wz bv (bestD (bestR kn mods t')).msg) ∧ Hid (∀ j, bv.ownBlock = some j → j ≠ B0 ∧ j ≠ B0 + 1 + 1 ∧ j ≠ B3) from fun wz hz hb => by
            refine ⟨t + 1, .slice qo n5 qc, bv, by omega, by go_num, ?_⟩
            rw [hb]
            exact ⟨rfl, Lib.hid (HE5.out.trans hz), Lib.hid (At.ext hz HA5.out), Lib.hid (HP5.out.ext hz), HPB5, Lib.hid (HBv5.out.ext hz), hBB⟩)
        clear hW5 hgb st hw34 hn5 h3' h4' h34 h5' h4b hA hP hPB hBv hA3 hA4 hP4 K3 K4 KT hB0n hE b0 b1 b30 x0 x1 x2 xf0 xf1 xf2 i3 hup
        cases ub with
        | false =>
          have HB := Lib.hid (show bestR kn mods (t + 1) = o by
            show better (bestR kn mods t) (candR kn t (mods t)) = o
            rw [HMS.out]
            unfold candR
            rw [if_neg (by rw [HUB.out]; exact Bool.false_ne_true), HO.out]
            rfl)
          go_wp2
          exact ⟨FIN.out _ (Ext.refl _) HB.out, by simp [intOf]; omega⟩
        | true =>
          have HB := Lib.hid (show bestR kn mods (t + 1) = better o (candR kn t ms) by
            show better (bestR kn mods t) (candR kn t (mods t)) = _
            rw [HMS.out, HO.out])
          obtain ⟨hwd, her⟩ := HUP.out rfl
          have HCD := Lib.hid (show candR kn t ms = match decR (wordK ms 60) (eraK ms 60) kn with | some l => some ⟨l, t, errN l (wordK ms 60) (eraK ms 60), goneN (eraK ms 60)⟩ | none => none from if_pos HUB.out)
          have KD := Lib.hid (fun w' (h : Ext W5 w') => r_Decode v1 v2 (wordK ms 60) (eraK ms 60) (kn : Int) w' (hwd.ext h) (SlAt.ext her h) (by rw [wordK_len]; unfold maxLen; omega))
          have KE := Lib.hid (fun w' (h : Ext W5 w') => r_Erased v2 (eraK ms 60) w' (SlAt.ext her h) (by rw [eraK_len]; unfold maxLen; omega))
          rw [decA_in HK.out.1 HK.out.2 ms] at KD
          unfold DecAnsR at KD
          obtain ⟨dr, hdr⟩ : ∃ d, decR (wordK ms 60) (eraK ms 60) kn = d := ⟨_, rfl⟩
          rw [hdr] at KD HCD
          have HDR := Lib.hid hdr
          have hgl := goneK_le (eraK ms 60) (eraK ms 60).length
          have hgl2 : goneN (eraK ms 60) ≤ 15 := by unfold goneN; rw [eraK_len] at hgl ⊢; exact hgl
          obtain ⟨g, hg⟩ : ∃ g, goneN (eraK ms 60) = g := ⟨_, rfl⟩
          rw [hg] at hgl2 HCD KE
          clear hg hgl hdr hwd her HUP
          cases dr with
          | none =>
            have HBn := Lib.hid (show bestR kn mods (t + 1) = o by rw [HB.out, HCD.out]; rfl)
            dsimp only at KD
            go_wp2_with (go_at_call 26; (with_reducible refine (KD.out _ (Ext.refl _)).mono ?_); rintro E w9 ⟨v9, rfl, i9, h9⟩)
            exact ⟨FIN.out _ h9 HBn.out, by simp [intOf]; omega⟩
          | some M =>
            have hel : errN M (wordK ms 60) (eraK ms 60) ≤ 15 := by rw [errN_eq, eraK_len]; exact errK_le _ _ _ _
            obtain ⟨e, he⟩ : ∃ e, errN M (wordK ms 60) (eraK ms 60) = e := ⟨_, rfl⟩
            have HCD2 := Lib.hid (show candR kn t ms = some ⟨M, t, errN M (wordK ms 60) (eraK ms 60), g⟩ from HCD.out)
            dsimp only at KD
            rw [he] at HCD2 hel KD
            have HML2 := Lib.hid (show M.length = kn from (decR_fits HDR.out).2.1)
            clear he HCD
            obtain ⟨bo, bc, rfl, -⟩ := bytes_cells HBv5.out
            go_upto_region 17 with (first | (go_at_call 26; (with_reducible refine (KD.out _ (Ext.refl _)).mono ?_); rintro E w9 ⟨v9, rfl, i9, h9⟩; obtain ⟨vo, vc, rfl, -⟩ := bytes_cells i9) | (go_at_call 74; (with_reducible refine (KE.out _ h9).mono ?_); rintro E w10 ⟨rfl, h10⟩))
            obtain ⟨W11, hW11⟩ : ∃ W, w10.alloc (Obj.cells #[.slice vo M.length vc, .int .i64 (t : Int), .int .i64 (e : Int), .int .i64 (g : Int)] 51) = W := ⟨_, rfl⟩
            have hn5 := heap_alloc_new w10 (Obj.cells #[.slice vo M.length vc, .int .i64 (t : Int), .int .i64 (e : Int), .int .i64 (g : Int)] 51)
            have hx11 : Ext W5 W11 := by rw [← hW11]; exact (h9.trans h10).alloc _
            have hi11 : BytesAt W11 (.slice vo M.length vc) M := by rw [← hW11]; exact i9.ext (h10.alloc _)
            obtain ⟨B5, hB5⟩ : ∃ B, w10.heap.size = B := ⟨_, rfl⟩
            rw [hW11, hB5] at hn5
            rw [hW11, hB5]
            have hA11 := At.ext hx11 HA5.out
            have hM1 : 1 ≤ M.length := by rw [HML2.out]; exact HK.out.1
            have hNE := Lib.hid (show ∀ j, (Value.slice vo M.length vc).ownBlock = some j → j ≠ B0 ∧ j ≠ B0 + 1 + 1 ∧ j ≠ B3 from fun j hj =>
              ⟨bytes_ne hi11 hM1 (At.at hA11 0 rfl) (fun n x hx => by simp at hx; rcases hx with rfl | rfl <;> simp) j hj,
               bytes_ne hi11 hM1 (At.at hA11 2 rfl) (fun n x hx => by simp at hx; rcases hx with rfl | rfl <;> simp) j hj,
               bytes_ne hi11 hM1 (At.at hA11 3 rfl) (fun n x hx => by simp [rdCells] at hx; rcases hx with rfl | rfl | rfl | rfl <;> simp) j hj⟩)
            have TAKE := Lib.hid (show ∀ W9, W9 = (((W11.setCell ⟨B3, 0, none⟩ (.slice vo M.length vc)).setCell ⟨B3, 1, none⟩ (.int .i64 (t : Int))).setCell ⟨B3, 2, none⟩ (.int .i64 (e : Int))).setCell ⟨B3, 3, none⟩ (.int .i64 (g : Int)) → bestR kn mods (t + 1) = some ⟨M, t, e, g⟩ →
                ∃ (t' : Nat) (pv bv : Value), t' ≤ 4 ∧ Value.int .i64 ((t : Int) + 1) = .int .i64 (t' : Int) ∧ Value.bool true = .bool (bestR kn mods t').isSome ∧ Hid (Ext w W9) ∧ Hid (At W9 (readL B0 B3 ww lo hi' pv bv (bestD (bestR kn mods t')))) ∧ Hid (IntsAt W9 pv (turnN t' m0).pix) ∧ Hid (∀ j, pv.ownBlock = some j → j < B0 ∨ B3 < j) ∧ Hid (BytesAt W9 bv (bestD (bestR kn mods t')).msg) ∧ Hid (∀ j, bv.ownBlock = some j → j ≠ B0 ∧ j ≠ B0 + 1 + 1 ∧ j ≠ B3) from by
              intro W9 hW9 hbt
              have st := store_4 (v0 := .slice vo M.length vc) (v1 := .int .i64 (t : Int)) (v2 := .int .i64 (e : Int)) (v3 := .int .i64 (g : Int)) (At.at hA11 3 rfl)
              have hgb : W11.grownBy W9 (some B3) := by rw [hW9]; exact gb_trans (gb_trans (gb_trans (gb_set _ _ _ _) (gb_set _ _ _ _)) (gb_set _ _ _ _)) (gb_set _ _ _ _)
              rw [← hW9] at st
              refine ⟨t + 1, .slice qo n5 qc, .slice vo M.length vc, by omega, by go_num, ?_⟩
              rw [hbt]
              refine ⟨rfl, Lib.hid (st.2.2 w (by rw [HBB.out.1]; omega) (HE5.out.trans hx11)), Lib.hid ⟨(st.2.1 _ (by omega)).trans (At.at hA11 0 rfl), (st.2.1 _ (by omega)).trans (At.at hA11 1 rfl), (st.2.1 _ (by omega)).trans (At.at hA11 2 rfl), st.1, trivial⟩, Lib.hid (SlAt.gb (HP5.out.ext hx11) hgb (fun j hj h8 => by have := HPB5.out j hj; have := Option.some.inj h8; omega)), HPB5, Lib.hid ?_, hNE⟩
              exact hi11.gb hgb (fun j hj h8 => (hNE.out j hj).2.2 (Option.some.inj h8)))
            have X11 := Lib.hid hx11
            have A11 := Lib.hid hA11
            obtain ⟨⟨r0, r1, r2, r3⟩, -⟩ := run_4 hn5
            have rz := World.block_lt_of_cell? _ _ r0
            simp only at rz
            clear hW11 hn5 hx11 hi11 hB5 hA11 h9 h10 i9 hM1 KD KE
            cases ho : o with
            | none =>
              subst ho
              have HBt := Lib.hid (show bestR kn mods (t + 1) = some ⟨M, t, e, g⟩ by rw [HB.out, HCD2.out]; rfl)
              have hb := At.at A11.out 3 rfl
              unfold rdCells at hb
              obtain ⟨⟨p0, p1, p2, p3⟩, pf0, pf1, pf2, pf3⟩ := run_4 hb
              have pz := World.block_lt_of_cell? _ _ p0
              simp only at pz
              simp only [Option.isSome_none]
              go_wp2
              exact ⟨TAKE.out _ rfl HBt.out, by simp [intOf]; omega⟩
            | some b =>
              subst ho
              have hbc := best_cost (k := kn) (mods := mods) t b HO.out
              have hb : W11.heap[B3]? = some (Obj.cells #[.slice bo (bestD (some b)).msg.length bc, .int .i64 (b.turns : Int), .int .i64 (b.errs : Int), .int .i64 (b.gone : Int)] 51) := At.at A11.out 3 rfl
              obtain ⟨⟨p0, p1, p2, p3⟩, pf0, pf1, pf2, pf3⟩ := run_4 hb
              have pz := World.block_lt_of_cell? _ _ p0
              simp only at pz
              have HCC := Lib.hid (show b.cost = 2 * b.errs + b.gone from rfl)
              have HBe := Lib.hid (show bestR kn mods (t + 1) = if 2 * e + g < 2 * b.errs + b.gone then some ⟨M, t, e, g⟩ else some b by
                rw [HB.out, HCD2.out]; rfl)
              rw [HCC.out] at hbc
              obtain ⟨be, hbe⟩ : ∃ n, b.errs = n := ⟨_, rfl⟩
              obtain ⟨bg, hbg⟩ : ∃ n, b.gone = n := ⟨_, rfl⟩
              rw [hbe, hbg] at HBe hbc
              rw [hbe] at p2
              rw [hbg] at p3
              have HBX := Lib.hid (And.intro hbe hbg)
              clear hb hbe hbg
              simp only [Option.isSome_some]
              by_cases hlt : 2 * e + g < 2 * be + bg
              · have HBt := Lib.hid (HBe.out.trans (if_pos hlt))
                have l1 : 2 * (e : Int) + (g : Int) < 2 * (be : Int) + (bg : Int) := by omega
                have l2 : decide (2 * (e : Int) + (g : Int) < 2 * (be : Int) + (bg : Int)) = true := decide_eq_true l1
                go_wp2
                exact ⟨TAKE.out _ rfl HBt.out, by simp [intOf]; omega⟩
              · have HBt := Lib.hid (HBe.out.trans (if_neg hlt))
                have l1 : ¬ 2 * (e : Int) + (g : Int) < 2 * (be : Int) + (bg : Int) := by omega
                have l2 : decide (2 * (e : Int) + (g : Int) < 2 * (be : Int) + (bg : Int)) = false := decide_eq_false l1
                go_wp2
                exact ⟨FIN.out _ X11.out HBt.out, by simp [intOf]; omega⟩
      · obtain rfl : t = 4 := by omega
        obtain ⟨o, ho⟩ : ∃ o, bestR kn mods 4 = o := ⟨_, rfl⟩
        have hro := HRI.out
        rw [ho] at hA hBv hro ⊢
        have HRO := Lib.hid hro
        obtain ⟨⟨z0, z1, z2, z3⟩, zf0, zf1, zf2, zf3⟩ := run_4 (At.at hA.out 2 rfl)
        have b0 := At.lt hA.out 2 rfl
        have b3 := At.lt hA.out 3 rfl
        have hwb : w.heap.size ≤ B0 + 1 + 1 := by rw [HBB.out.1]; omega
        clear hro ht4
        cases o with
        | none =>
          simp only [Option.isSome_none]
          go_wp2
          have st := store_4 (v0 := .slice none 0 0) (v1 := .int .i64 0) (v2 := .int .i64 0) (v3 := .int .i64 0) (At.at hA.out 2 rfl)
          refine bodyPost_ret (results_row2 rfl _ _ _ _ _ (0, 0) _ rfl st.1 Tryd.underlying51 rfl (by kernel_rfl)) rfl ?_
          exact ⟨_, by rw [HRO.out]; rfl, by rw [HRO.out]; exact bytes_nil _, st.2.2 w hwb hE.out⟩
        | some b =>
          simp only [Option.isSome_some]
          have hbm : BytesAt wr bv b.msg := hBv.out
          obtain ⟨-, bo, bc, rfl, -⟩ := id hbm
          have HBM := Lib.hid hbm
          obtain ⟨bl, hbl⟩ : ∃ n, b.msg.length = n := ⟨_, rfl⟩
          have hA1 : wr.heap[B3]? = some (Obj.cells #[.slice bo b.msg.length bc, .int .i64 (b.turns : Int), .int .i64 (b.errs : Int), .int .i64 (b.gone : Int)] 51) := At.at hA.out 3 rfl
          rw [hbl] at HBM hA1
          obtain ⟨⟨p0, p1, p2, p3⟩, -⟩ := run_4 hA1
          have st := store_4 (v0 := .slice bo bl bc) (v1 := .int .i64 (b.turns : Int)) (v2 := .int .i64 (b.errs : Int)) (v3 := .int .i64 (b.gone : Int)) (At.at hA.out 2 rfl)
          have ST := Lib.hid st
          have HBK := Lib.hid (show ∀ j, (Value.slice bo bl bc).ownBlock = some j → j ≠ B0 + 1 + 1 from fun j hj => by
            have h1 : (Value.slice bo b.msg.length bc).ownBlock = some j := by rw [hbl]; exact hj
            exact (hBB.out j h1).2.1)
          clear hbl hA1 hbm st ho
          go_wp2
          refine bodyPost_ret (results_row2 rfl _ _ _ _ _ (0, 0) _ rfl ST.out.1 Tryd.underlying51 rfl (by kernel_rfl)) rfl ?_
          refine ⟨.slice bo bl bc, by rw [HRO.out]; rfl, ?_, ST.out.2.2 w hwb hE.out⟩
          rw [HRO.out]
          show BytesAt _ _ b.msg
          exact HBM.out.keep fun b' o' u hb' hc' => by
            rw [World.cell?_of_block (ST.out.2.1 b' (HBK.out b' hb'))]
            exact hc'
end Go.Proofs.YtlnofbdhamingaaDoor
