/- The image of a line of digits: the reference's walk. -/
import Derived.Test.YtlnofbdhamingaaDoorShapedFn
import Derived.Test.YtlnofbdhamingaaDoorDrawR
import Derived.Test.YtlnofbdhamingaaDoorGPrint
set_option linter.unusedVariables false
set_option linter.unusedSimpArgs false
namespace Go.Proofs.YtlnofbdhamingaaDoor
open Go.RowKit Go.Sort

set_option maxRecDepth 100000 in
set_option maxHeartbeats 8000000 in
theorem r_Printed (s : ByteArray) (W N5 : Nat) (w : World) (hok : LineOk s) (hW2 : W + 1 = 4 * s.size) (hN5 : 5 * W = N5) :
    Calls Tryd.prog 83 #[.string s] w fun e w' => ∃ v', e = .returned v' ∧ w'.ownsRow w.heap.size 5 1 v' N5 (bytesL (printR (digsOf s) W)) ∧ Ext w w' := by
  obtain ⟨i0, hi, hz0, hz1, hz2⟩ := info_parts3 info_byte
  have hs4 := hok.2
  have HOK := Lib.hid hok
  have HW2 := Lib.hid hW2
  have q4 : 4 * (s.size : Int) - 1 = (W : Int) := by omega
  have q6 : 5 * (W : Int) = (N5 : Int) := by omega
  have hw15 : W ≤ 15 ∧ 3 ≤ W := by omega
  have hn5 : N5 ≤ 75 := by omega
  have HN5 := Lib.hid hN5
  clear hok hW2 hN5
  go_enter Tryd.func83, Tryd.ntmps83
  go_wp2_with (at_make; refine wpList_make_full _ rfl _ _ 22 rfl w.heap.size 5 i0 (.int .u8 0) 1 Tryd.underlying22 hi hz0 hz1 .i64 .i64 _ _ N5 rfl rfl rfl rfl (by rw [hz2]; omega) (by unfold maxLen; omega) (Nat.le_refl _) ?_; intro w3 ho3 hg3; rw [made_zero (List.replicate N5 0) N5, rowK_zero, show List.replicate N5 (Value.int .u8 0) = bytesL (List.replicate N5 0) by simp [bytesL]] at ho3; have h3 : Ext w w3 := ext_of_grownNone hg3; have HO3 := Lib.hid ho3; clear ho3 hg3)
  obtain ⟨G, hG⟩ : ∃ G, w.heap.size = G := ⟨_, rfl⟩
  rw [hG] at HO3 ⊢
  have HG := Lib.hid (show w.heap.size ≤ G by omega)
  have HM3 := Lib.hid (show w3.ownsRow G 5 1 (.slice (some ⟨G, 0, none⟩) N5 N5) N5 (bytesL (printK (digsOf s) W 0 0)) by rw [printK_zero, HN5.out]; exact HO3.out)
  have HE3 := Lib.hid h3
  clear HO3 h3 hG
  go_loopw [5] (fun ii wi => ∃ n : Nat, n ≤ s.size ∧ ii = .int .i64 (n : Int) ∧ Ext w wi ∧ Hid (wi.ownsRow G 5 1 (.slice (some ⟨G, 0, none⟩) N5 N5) N5 (bytesL (printK (digsOf s) W n 0)))) (fun ii _ => s.size - (intOf ii).toNat)
  case atStart => exact ⟨0, Nat.zero_le _, rfl, HE3.out, HM3⟩
  case round =>
    clear HM3 HE3
    obtain ⟨n, hn, rfl, hE, hM⟩ := hrel
    by_cases hnl : n < s.size
    · obtain ⟨d1, d2, d3⟩ := digs_lt HOK.out n hnl
      have hdg := digsOf_get hnl
      obtain ⟨x, hx⟩ : ∃ x : UInt8, s[n]'hnl = x := ⟨_, rfl⟩
      rw [hx] at d2 d3 hdg
      obtain ⟨d, hd⟩ : ∃ d, (digsOf s).getD n 0 = d := ⟨_, rfl⟩
      rw [hd] at d1 hdg
      have q7 : (x.toNat : Int) - 48 = (d : Int) := by omega
      have KG := Lib.hid (fun w' => r_Shaped d d1 w')
      unfold OwnBytes at KG
      have HGL := Lib.hid (glyphR_length d d1)
      have HPS := Lib.hid (fun i (h : i < 15) => printK_set (ds := digsOf s) HW2.out hnl h)
      simp only [hd] at HPS
      have HPN := Lib.hid (printK_next (digsOf s) (W := W) (n := n))
      have HDX := Lib.hid (And.intro hd hdg)
      rw [glyphR_length d d1] at KG
      obtain ⟨g, hg⟩ : ∃ g, glyphR d = g := ⟨_, rfl⟩
      rw [hg] at KG HGL
      simp only [hg] at HPS
      have HAT := Lib.hid (fun i (h : i < 15) => (atP_is (n := n) (i := i) HW2.out hnl h).1)
      have hGr := (hM.out.lt G rfl).2
      clear hd hdg hg
      go_wp2_with (go_at_call 119; (with_reducible refine (KG.out _).mono ?_); rintro E w4 ⟨v4, rfl, o4, h4⟩; obtain ⟨gg, cg, rfl, hgg, -⟩ := owns_some o4 (by decide))
      have R4 := Lib.hid (show ∀ j, j < 15 → w4.cell? ⟨gg, j, none⟩ = some (.int .u8 ((g.getD j 0 : Nat) : Int)) from fun j hj => by rw [o4.cellAt j (by omega), bytesL_get (by rw [HGL.out]; exact hj)])
      have hne : gg ≠ G := by omega
      have hE4 := Lib.hid (hE.trans h4)
      have hM4 := Lib.hid (owns_ext hM.out h4)
      clear hE hM h4 o4
      go_loopw [7] (fun ii wi => ∃ i : Nat, i ≤ 15 ∧ ii = .int .i64 (i : Int) ∧ Ext w wi ∧ Hid (w4.grownBy wi (some G)) ∧ Hid (wi.ownsRow G 5 1 (.slice (some ⟨G, 0, none⟩) N5 N5) N5 (bytesL (printK (digsOf s) W n i)))) (fun ii _ => 15 - (intOf ii).toNat)
      case atStart => exact ⟨0, Nat.zero_le _, rfl, hE4.out, Lib.hid (World.grownBy.refl _ _), hM4⟩
      case round =>
        clear hM4 hE4
        obtain ⟨i, hi15, rfl, hE, hB, hM⟩ := hrel
        by_cases hil : i < 15
        · have p1 : decide ((i : Int) < 15) = true := decide_eq_true (by omega)
          have p2 : (i : Int) < 15 := by omega
          have hps := HPS.out i hil
          have hat := HAT.out i hil
          rw [HN5.out] at hat
          have m0 : ∃ y, wr.cell? ⟨G, atP W n i, none⟩ = some (.int .u8 y) := ⟨_, by rw [hM.out.cellAt (atP W n i) (by omega), bytesL_get (by rw [printK_len, HN5.out]; exact hat)]⟩
          obtain ⟨y0, m0⟩ := m0
          have m1 := hM.out.frozenAt (atP W n i)
          have cg0 := R4.out i hil
          have cgz := World.block_lt_of_cell? _ _ cg0
          simp only at cgz
          have c5 : wr.cell? ⟨gg, i, none⟩ = some (.int .u8 ((g.getD i 0 : Nat) : Int)) := by
            rw [World.cell?_of_block (hB.out.block gg cgz (fun h => hne (Option.some.inj h)))]
            exact cg0
          have t2 : (i : Int).tdiv 3 = ((i / 3 : Nat) : Int) := by rw [Int.tdiv_eq_ediv_of_nonneg (by omega)]; rfl
          have t3 : (i : Int).tmod 3 = ((i % 3 : Nat) : Int) := by rw [Int.tmod_eq_emod_of_nonneg (by omega)]; rfl
          have hr := Nat.mod_lt i (show 0 < 3 by omega)
          have ha5 : i / 3 < 5 := by omega
          have hpd : atP W n i = i / 3 * W + 4 * n + i % 3 := rfl
          obtain ⟨y, hy⟩ : ∃ y, g.getD i 0 = y := ⟨_, rfl⟩
          rw [hy] at hps c5
          obtain ⟨t, htt⟩ : ∃ t, atP W n i = t := ⟨_, rfl⟩
          rw [htt] at hat m0 m1 hps hpd
          obtain ⟨a, haa⟩ : ∃ a, i / 3 = a := ⟨_, rfl⟩
          obtain ⟨r, hrr⟩ : ∃ r, i % 3 = r := ⟨_, rfl⟩
          rw [haa] at t2 ha5 hpd
          rw [hrr] at t3 hr hpd
          obtain ⟨p, hp⟩ : ∃ p, a * W = p := ⟨_, rfl⟩
          rw [hp] at hpd
          have t5 : (a : Int) * (W : Int) = (p : Int) := by rw [← hp]; exact (Int.natCast_mul a W).symm
          have hpb : p ≤ 75 := by rw [← hp]; exact Nat.mul_le_mul (show a ≤ 5 by omega) hw15.1
          have t6 : (p : Int) + 4 * (n : Int) + (r : Int) = (t : Int) := by omega
          have HPS2 := Lib.hid hps
          have HXX := Lib.hid (And.intro hy (And.intro htt (And.intro haa (And.intro hrr (And.intro hp hpd)))))
          clear hy htt haa hrr hp hps hpd cg0 cgz
          go_wp2
          refine ⟨⟨i + 1, by omega, by go_num, hE.setCell (p := ⟨G, t, none⟩) HG.out _, Lib.hid (gb_trans hB.out (gb_set _ _ _ _)), Lib.hid ?_⟩, by simp [intOf]; omega⟩
          have h := (hM.out.stored t (.int .u8 (y : Int))).1
          rw [bytesL_set, HPS2.out] at h
          exact h
        · have p1 : decide ((i : Int) < 15) = false := decide_eq_false (by omega)
          have ei : i = 15 := by omega
          have hM2 := hM.out
          rw [ei, HPN.out] at hM2
          have HM2 := Lib.hid hM2
          clear hM hM2 hil ei
          go_wp2
          exact ⟨⟨n + 1, by omega, by go_num, hE, HM2⟩, by simp [intOf]; omega⟩
    · have hnn : n = s.size := by omega
      have hMM := hM.out
      rw [hnn, ← digsOf_len] at hMM
      have HMM := Lib.hid hMM
      clear hMM hnn hM
      go_wp2
      go_ret
      exact ⟨_, rfl, owns_base HMM.out HG.out, hE⟩
set_option maxRecDepth 100000 in
set_option maxHeartbeats 8000000 in
theorem r_Print (s : ByteArray) (sz ink paper : Int) (w : World) (hs : s.size ≤ maxLen) :
    Calls Tryd.prog 37 #[.string s, .int .i64 sz, .int .i64 ink, .int .i64 paper] w (ImgErr (printI s sz ink paper) w) := by
  have K1 := Lib.hid (fun w' => r_Line s w' hs)
  have K2 := Lib.hid (fun w' => r_paint sz ink paper w')
  have HD := Lib.hid (printI_def s sz ink paper)
  by_cases hok : LineOk s
  case neg =>
    have HI := Lib.hid (show printI s sz ink paper = (⟨0, 0, []⟩, 61) by rw [HD.out, if_neg hok])
    rw [decide_eq_false hok] at K1
    clear hok hs
    go_enter Tryd.func37, Tryd.ntmps37
    go_wp2_with (go_at_call 47; (with_reducible refine (K1.out _).mono ?_); rintro E w1 ⟨rfl, h1⟩; have A1 := Lib.hid (show At w1 [(w.heap.size, Obj.cells #[.int .i64 0, .int .i64 0, .slice none 0 0] 44)] from At.ext h1 ⟨one_first _ _, trivial⟩); have E1 := Lib.hid (show Ext w w1 from ((Ext.refl w).alloc _).trans h1); obtain ⟨⟨z0, z1, z2⟩, zf0, zf1, zf2⟩ := run_3 (At.at A1.out 0 rfl); have b0 := At.lt A1.out 0 rfl)
    (have st := store_3 (v0 := .int .i64 0) (v1 := .int .i64 0) (v2 := .slice none 0 0) (At.at A1.out 0 rfl); refine bodyPost_ret (results_row2 rfl _ _ _ _ _ (0, 0) _ rfl st.1 Tryd.underlying44 rfl (by kernel_rfl)) rfl ?_; exact ⟨_, by rw [HI.out]; rfl, by rw [HI.out]; exact SlAt.nil _ 1, st.2.2 w (Nat.le_refl _) E1.out⟩)
  have HOK := Lib.hid hok
  have hs4 := hok.2
  rw [decide_eq_true hok] at K1
  have hD1 := Lib.hid (HD.out.trans (if_pos hok))
  clear HD
  by_cases hc : ColOk sz ink paper
  case neg =>
    have HI := Lib.hid (show printI s sz ink paper = (⟨0, 0, []⟩, 2) by rw [hD1.out, if_neg hc])
    rw [decide_eq_false hc] at K2
    clear hc hok hs
    go_enter Tryd.func37, Tryd.ntmps37
    go_wp2_with (first | (go_at_call 47; (with_reducible refine (K1.out _).mono ?_); rintro E w1 ⟨rfl, h1⟩; have A1 := Lib.hid (show At w1 [(w.heap.size, Obj.cells #[.int .i64 0, .int .i64 0, .slice none 0 0] 44)] from At.ext h1 ⟨one_first _ _, trivial⟩); have E1 := Lib.hid (show Ext w w1 from ((Ext.refl w).alloc _).trans h1); obtain ⟨⟨z0, z1, z2⟩, zf0, zf1, zf2⟩ := run_3 (At.at A1.out 0 rfl); have b0 := At.lt A1.out 0 rfl) | (go_at_call 78; (with_reducible refine (K2.out _).mono ?_); rintro E w2 ⟨rfl, h2⟩; have A2 := Lib.hid (At.ext h2 A1.out); have E2 := Lib.hid (E1.out.trans h2); clear z0 z1 z2 zf0 zf1 zf2 b0; obtain ⟨⟨z0, z1, z2⟩, zf0, zf1, zf2⟩ := run_3 (At.at A2.out 0 rfl); have b0 := At.lt A2.out 0 rfl))
    (have st := store_3 (v0 := .int .i64 0) (v1 := .int .i64 0) (v2 := .slice none 0 0) (At.at A2.out 0 rfl); refine bodyPost_ret (results_row2 rfl _ _ _ _ _ (0, 0) _ rfl st.1 Tryd.underlying44 rfl (by kernel_rfl)) rfl ?_; exact ⟨_, by rw [HI.out]; rfl, by rw [HI.out]; exact SlAt.nil _ 1, st.2.2 w (Nat.le_refl _) E2.out⟩)
  have hD2 := Lib.hid (hD1.out.trans (if_pos hc))
  rw [decide_eq_true hc] at K2
  obtain ⟨S, rfl⟩ := Int.eq_ofNat_of_zero_le (show 0 ≤ sz by have := hc.1; omega)
  have hS : 1 ≤ S ∧ S ≤ 2 := by have := hc.1; omega
  obtain ⟨W, hW⟩ : ∃ n, 4 * s.size - 1 = n := ⟨_, rfl⟩
  have hW2 : W + 1 = 4 * s.size := by omega
  rw [hW, Int.toNat_natCast] at hD2
  have q4 : 4 * (s.size : Int) - 1 = (W : Int) := by omega
  rw [q4] at hD2
  have hw15 : W ≤ 15 ∧ 3 ≤ W := by omega
  obtain ⟨ww, hww⟩ : ∃ n, W * S = n := ⟨_, rfl⟩
  have q5 : (W : Int) * (S : Int) = (ww : Int) := by rw [← hww]; exact (Int.natCast_mul W S).symm
  rw [hww, q5] at hD2
  have hwwb : ww ≤ 32 := by rw [← hww]; exact Nat.mul_le_mul (show W ≤ 16 by omega) hS.2
  have hww3 : 3 ≤ ww := by rw [← hww]; exact Nat.le_trans (show 3 ≤ W * 1 by omega) (Nat.mul_le_mul_left _ hS.1)
  by_cases h16 : (ww : Int) ≤ 16
  case neg =>
    have HI := Lib.hid (show printI s (S : Int) ink paper = (⟨0, 0, []⟩, 21) by rw [hD2.out, if_neg h16])
    have h17 : (16 : Int) < (ww : Int) := by omega
    have HX := Lib.hid (And.intro hww hW)
    clear h16 hc hok hs hD1 hD2 hW hww hW2
    go_enter Tryd.func37, Tryd.ntmps37
    go_wp2_with (first | (go_at_call 47; (with_reducible refine (K1.out _).mono ?_); rintro E w1 ⟨rfl, h1⟩; have A1 := Lib.hid (show At w1 [(w.heap.size, Obj.cells #[.int .i64 0, .int .i64 0, .slice none 0 0] 44)] from At.ext h1 ⟨one_first _ _, trivial⟩); have E1 := Lib.hid (show Ext w w1 from ((Ext.refl w).alloc _).trans h1); obtain ⟨⟨z0, z1, z2⟩, zf0, zf1, zf2⟩ := run_3 (At.at A1.out 0 rfl); have b0 := At.lt A1.out 0 rfl) | (go_at_call 78; (with_reducible refine (K2.out _).mono ?_); rintro E w2 ⟨rfl, h2⟩; have A2 := Lib.hid (At.ext h2 A1.out); have E2 := Lib.hid (E1.out.trans h2); clear z0 z1 z2 zf0 zf1 zf2 b0; obtain ⟨⟨z0, z1, z2⟩, zf0, zf1, zf2⟩ := run_3 (At.at A2.out 0 rfl); have b0 := At.lt A2.out 0 rfl))
    (have st := store_3 (v0 := .int .i64 0) (v1 := .int .i64 0) (v2 := .slice none 0 0) (At.at A2.out 0 rfl); refine bodyPost_ret (results_row2 rfl _ _ _ _ _ (0, 0) _ rfl st.1 Tryd.underlying44 rfl (by kernel_rfl)) rfl ?_; exact ⟨_, by rw [HI.out]; rfl, by rw [HI.out]; exact SlAt.nil _ 1, st.2.2 w (Nat.le_refl _) E2.out⟩)
  have hn16 : ¬ (16 : Int) < (ww : Int) := by omega
  have HI := Lib.hid (show printI s (S : Int) ink paper = (⟨(ww : Int), ((5 * S : Nat) : Int), paintedR (printR (digsOf s) W) ww S ink paper (ww * (5 * S))⟩, 0) by rw [hD2.out, if_pos h16])
  have KP := Lib.hid (fun w' => r_Printed s W (5 * W) w' hok hW2 rfl)
  have K5 := Lib.hid (fun v' w' (h : BytesAt w' v' (printR (digsOf s) W)) => r_Painted W 5 S ww (5 * S) (ww * (5 * S)) ink paper (printR (digsOf s) W) v' w' h (by unfold printR; rw [printK_len, Nat.mul_comm]) hS ⟨by omega, by omega⟩ ⟨by omega, by omega⟩ hww rfl rfl (Nat.le_trans (Nat.mul_le_mul hwwb (show 5 * S ≤ 10 by omega)) (by omega)))
  have HPL0 : (printR (digsOf s) W).length = 5 * W := by unfold printR; rw [printK_len]
  obtain ⟨h5, hh5⟩ : ∃ n, 5 * S = n := ⟨_, rfl⟩
  rw [hh5] at K5 HI
  obtain ⟨np, hnp⟩ : ∃ n, ww * h5 = n := ⟨_, rfl⟩
  rw [hnp] at K5 HI
  have HPL := Lib.hid (paintedR_length (printR (digsOf s) W) ww S ink paper np)
  obtain ⟨px, hpx⟩ : ∃ p, paintedR (printR (digsOf s) W) ww S ink paper np = p := ⟨_, rfl⟩
  rw [hpx] at K5 HI HPL
  unfold imgVal at K5
  dsimp only at K5
  have hnp4 : 4 ≤ px.length := by
    rw [HPL.out, ← hnp, ← hh5]
    exact Nat.le_trans (show 4 ≤ 3 * 5 by omega) (Nat.mul_le_mul hww3 (show 5 ≤ 5 * S by omega))
  obtain ⟨pr, hpr⟩ : ∃ p, printR (digsOf s) W = p := ⟨_, rfl⟩
  rw [hpr] at KP K5 HPL0
  obtain ⟨N5, hN5⟩ : ∃ n, 5 * W = n := ⟨_, rfl⟩
  rw [hN5] at KP HPL0
  have HPL5 := Lib.hid HPL0
  have K5' : Hid (∀ v' w', BytesAt w' v' pr → Calls Tryd.prog 79 #[v', .int .i64 (W : Int), .int .i64 (S : Int), .int .i64 ink, .int .i64 paper] w' fun e w'' => ∃ v9, e = .returned (.agg #[.int .i64 (ww : Int), .int .i64 (h5 : Int), v9]) ∧ IntsAt w'' v9 px ∧ Ext w' w'') := K5
  have HX := Lib.hid (And.intro hww (And.intro hW (And.intro hh5 (And.intro hnp (And.intro hpx (And.intro hpr hN5))))))
  clear K5 hc hok hs hD1 hD2 hW hww hW2 hh5 hnp hpx hpr hN5 h16 HPL0
  go_enter Tryd.func37, Tryd.ntmps37
  go_wp2_with (first
      | (go_at_call 47; (with_reducible refine (K1.out _).mono ?_); rintro E w1 ⟨rfl, h1⟩; have A1 := Lib.hid (show At w1 [(w.heap.size, Obj.cells #[.int .i64 0, .int .i64 0, .slice none 0 0] 44)] from At.ext h1 ⟨one_first _ _, trivial⟩); have E1 := Lib.hid (show Ext w w1 from ((Ext.refl w).alloc _).trans h1); obtain ⟨⟨z0, z1, z2⟩, zf0, zf1, zf2⟩ := run_3 (At.at A1.out 0 rfl); have b0 := At.lt A1.out 0 rfl)
      | (go_at_call 78; (with_reducible refine (K2.out _).mono ?_); rintro E w2 ⟨rfl, h2⟩; have A2 := Lib.hid (At.ext h2 A1.out); have E2 := Lib.hid (E1.out.trans h2); clear z0 z1 z2 zf0 zf1 zf2 b0; obtain ⟨⟨z0, z1, z2⟩, zf0, zf1, zf2⟩ := run_3 (At.at A2.out 0 rfl); have b0 := At.lt A2.out 0 rfl)
      | (go_at_call 83; (with_reducible refine (KP.out _).mono ?_); rintro E w3 ⟨v3, rfl, o3, h3⟩; have hE3 := E2.out.trans h3; have b3 : BytesAt w3 v3 pr := (by show SlAt w3 1 v3 pr.length (bytesL pr); rw [HPL5.out]; exact SlAt.of_owns o3))
      | (go_at_call 79; (with_reducible refine (K5'.out _ _ b3).mono ?_); rintro E w5 ⟨v5, rfl, i5, h5'⟩; obtain ⟨-, po, pc, rfl, -⟩ := id i5; have hE5 := hE3.trans h5'; have hb := At.at (At.ext (h3.trans h5') A2.out) 0 rfl; clear z0 z1 z2 zf0 zf1 zf2 b0; obtain ⟨⟨c0, c1, c2⟩, f0, f1, f2⟩ := run_3 hb; have zb := World.block_lt_of_cell? _ _ c0; simp only at zb))
  have st := store_3 (v0 := .int .i64 (ww : Int)) (v1 := .int .i64 (h5 : Int)) (v2 := .slice po px.length pc) hb
  refine bodyPost_ret (results_row2 rfl _ _ _ _ _ (0, 0) _ rfl st.1 Tryd.underlying44 rfl (by kernel_rfl)) rfl ?_
  exact ⟨.slice po px.length pc, by rw [HI.out]; rfl, by rw [HI.out]; exact pix_put i5 hnp4 hb, st.2.2 w (Nat.le_refl _) hE5⟩
end Go.Proofs.YtlnofbdhamingaaDoor
