/- Reading of a mark: the reference's. -/
import Derived.Test.YtlnofbdhamingaaDoorRReadM
set_option linter.unusedVariables false
set_option linter.unusedSimpArgs false
namespace Go.Proofs.YtlnofbdhamingaaDoor
open Go.RowKit Go.Sort

set_option maxRecDepth 100000 in
set_option maxHeartbeats 16000000 in
theorem r_Read (m : Img) (v : Value) (c : Con) (k : Int) (w : World) (hv : IntsAt w v m.pix) (hl : m.pix.length ≤ maxLen) :
    Calls Tryd.prog 31 #[imgVal m v, conVal c, .int .i64 k] w (RdErr (readA m c k) w) := by
  have K1 := Lib.hid (fun w' (h : Ext w w') => r_Camera m v w' (hv.ext h) hl)
  have K2 := Lib.hid (fun w' => r_contrast c w')
  have HV := Lib.hid hv
  obtain ⟨ao, cap, rfl, -, -⟩ := hv.form
  clear hv
  obtain ⟨mw, mh, pix⟩ := m
  obtain ⟨lo, hi'⟩ := c
  have HD := Lib.hid (readA_def ⟨mw, mh, pix⟩ ⟨lo, hi'⟩ k)
  by_cases hcm : (⟨mw, mh, pix⟩ : Img).Camera
  case neg =>
    have HI := Lib.hid (show readA ⟨mw, mh, pix⟩ ⟨lo, hi'⟩ k = (rd0, 20) by rw [HD.out, if_neg hcm])
    rw [decide_eq_false hcm] at K1
    unfold imgVal conVal at *
    dsimp only at *
    clear hcm
    go_enter Tryd.func31, Tryd.ntmps31
    go_wp2_with ((go_at_call 68; (with_reducible refine (K1.out _ (by repeat (first | exact Ext.refl _ | assumption | refine Ext.alloc ?_ _ | refine Ext.drewN ?_ _ | refine ext_grow ?_ _ _ | refine Ext.trans ?_ (by assumption)))).mono ?_); rintro E w1 ⟨rfl, h1⟩; have A1 := Lib.hid (show At w1 [(w.heap.size, Obj.cells #[.int .i64 mw, .int .i64 mh, .slice ao pix.length cap] 44), (w.heap.size + 1, Obj.cells #[.int .i64 lo, .int .i64 hi'] 46), (w.heap.size + 1 + 1, Obj.cells #[.slice none 0 0, .int .i64 0, .int .i64 0, .int .i64 0] 51)] from At.ext h1 ⟨three_first _ _ _ _, three_second _ _ _ _, three_third _ _ _ _, trivial⟩); have E1 := Lib.hid (show Ext w w1 from (by repeat (first | exact Ext.refl _ | assumption | refine Ext.alloc ?_ _ | refine Ext.drewN ?_ _ | refine ext_grow ?_ _ _ | refine Ext.trans ?_ (by assumption)))); obtain ⟨⟨x0, x1, x2⟩, -⟩ := run_3 (At.at A1.out 0 rfl); obtain ⟨⟨y0, y1⟩, -⟩ := run_2 (At.at A1.out 1 rfl); obtain ⟨⟨z0, z1, z2, z3⟩, zf0, zf1, zf2, zf3⟩ := run_4 (At.at A1.out 2 rfl); have b0 := At.lt A1.out 0 rfl; have b1 := At.lt A1.out 1 rfl; have b2 := At.lt A1.out 2 rfl))
    (have st := store_4 (v0 := .slice none 0 0) (v1 := .int .i64 0) (v2 := .int .i64 0) (v3 := .int .i64 0) (At.at A1.out 2 rfl); refine bodyPost_ret (results_row2 rfl _ _ _ _ _ (0, 0) _ rfl st.1 Tryd.underlying51 rfl (by kernel_rfl)) rfl ?_; exact ⟨_, by rw [HI.out]; rfl, by rw [HI.out]; exact bytes_nil _, st.2.2 w (Nat.le_succ_of_le (Nat.le_succ _)) E1.out⟩)
  have HC := Lib.hid hcm
  rw [decide_eq_true hcm] at K1
  have hD1 : readA ⟨mw, mh, pix⟩ ⟨lo, hi'⟩ k = _ := HD.out.trans (if_pos hcm)
  by_cases hco : (⟨lo, hi'⟩ : Con).Ok ∧ 1 ≤ k ∧ k ≤ 13
  case neg =>
    have HI := Lib.hid (show readA ⟨mw, mh, pix⟩ ⟨lo, hi'⟩ k = (rd0, 2) by rw [hD1, if_neg hco])
    by_cases hoo : (⟨lo, hi'⟩ : Con).Ok
    · rw [decide_eq_true hoo] at K2
      have hk : k < 1 ∨ 13 < k := by
        rcases Int.lt_or_le k 1 with h | h
        · exact .inl h
        · exact .inr (Classical.byContradiction fun h9 => hco ⟨hoo, h, by omega⟩)
      unfold imgVal conVal at *
      dsimp only at *
      clear hcm hco hoo hD1 HD
      rcases hk with hk | hk
      · go_enter Tryd.func31, Tryd.ntmps31
        go_wp2_with (first | (go_at_call 68; (with_reducible refine (K1.out _ (by repeat (first | exact Ext.refl _ | assumption | refine Ext.alloc ?_ _ | refine Ext.drewN ?_ _ | refine ext_grow ?_ _ _ | refine Ext.trans ?_ (by assumption)))).mono ?_); rintro E w1 ⟨rfl, h1⟩; have A1 := Lib.hid (show At w1 [(w.heap.size, Obj.cells #[.int .i64 mw, .int .i64 mh, .slice ao pix.length cap] 44), (w.heap.size + 1, Obj.cells #[.int .i64 lo, .int .i64 hi'] 46), (w.heap.size + 1 + 1, Obj.cells #[.slice none 0 0, .int .i64 0, .int .i64 0, .int .i64 0] 51)] from At.ext h1 ⟨three_first _ _ _ _, three_second _ _ _ _, three_third _ _ _ _, trivial⟩); have E1 := Lib.hid (show Ext w w1 from (by repeat (first | exact Ext.refl _ | assumption | refine Ext.alloc ?_ _ | refine Ext.drewN ?_ _ | refine ext_grow ?_ _ _ | refine Ext.trans ?_ (by assumption)))); obtain ⟨⟨x0, x1, x2⟩, -⟩ := run_3 (At.at A1.out 0 rfl); obtain ⟨⟨y0, y1⟩, -⟩ := run_2 (At.at A1.out 1 rfl); obtain ⟨⟨z0, z1, z2, z3⟩, zf0, zf1, zf2, zf3⟩ := run_4 (At.at A1.out 2 rfl); have b0 := At.lt A1.out 0 rfl; have b1 := At.lt A1.out 1 rfl; have b2 := At.lt A1.out 2 rfl) | (go_at_call 44; (with_reducible refine (K2.out _).mono ?_); rintro E w2 ⟨rfl, h2⟩; have A2 := Lib.hid (At.ext h2 A1.out); have E2 := Lib.hid (E1.out.trans h2); clear x0 x1 x2 y0 y1 z0 z1 z2 z3 zf0 zf1 zf2 zf3; obtain ⟨⟨x0, x1, x2⟩, -⟩ := run_3 (At.at A2.out 0 rfl); obtain ⟨⟨y0, y1⟩, -⟩ := run_2 (At.at A2.out 1 rfl); obtain ⟨⟨z0, z1, z2, z3⟩, zf0, zf1, zf2, zf3⟩ := run_4 (At.at A2.out 2 rfl)))
        (have st := store_4 (v0 := .slice none 0 0) (v1 := .int .i64 0) (v2 := .int .i64 0) (v3 := .int .i64 0) (At.at A2.out 2 rfl); refine bodyPost_ret (results_row2 rfl _ _ _ _ _ (0, 0) _ rfl st.1 Tryd.underlying51 rfl (by kernel_rfl)) rfl ?_; exact ⟨_, by rw [HI.out]; rfl, by rw [HI.out]; exact bytes_nil _, st.2.2 w (Nat.le_succ_of_le (Nat.le_succ _)) E2.out⟩)
      · have hk0 : ¬ k < 1 := by omega
        go_enter Tryd.func31, Tryd.ntmps31
        go_wp2_with (first | (go_at_call 68; (with_reducible refine (K1.out _ (by repeat (first | exact Ext.refl _ | assumption | refine Ext.alloc ?_ _ | refine Ext.drewN ?_ _ | refine ext_grow ?_ _ _ | refine Ext.trans ?_ (by assumption)))).mono ?_); rintro E w1 ⟨rfl, h1⟩; have A1 := Lib.hid (show At w1 [(w.heap.size, Obj.cells #[.int .i64 mw, .int .i64 mh, .slice ao pix.length cap] 44), (w.heap.size + 1, Obj.cells #[.int .i64 lo, .int .i64 hi'] 46), (w.heap.size + 1 + 1, Obj.cells #[.slice none 0 0, .int .i64 0, .int .i64 0, .int .i64 0] 51)] from At.ext h1 ⟨three_first _ _ _ _, three_second _ _ _ _, three_third _ _ _ _, trivial⟩); have E1 := Lib.hid (show Ext w w1 from (by repeat (first | exact Ext.refl _ | assumption | refine Ext.alloc ?_ _ | refine Ext.drewN ?_ _ | refine ext_grow ?_ _ _ | refine Ext.trans ?_ (by assumption)))); obtain ⟨⟨x0, x1, x2⟩, -⟩ := run_3 (At.at A1.out 0 rfl); obtain ⟨⟨y0, y1⟩, -⟩ := run_2 (At.at A1.out 1 rfl); obtain ⟨⟨z0, z1, z2, z3⟩, zf0, zf1, zf2, zf3⟩ := run_4 (At.at A1.out 2 rfl); have b0 := At.lt A1.out 0 rfl; have b1 := At.lt A1.out 1 rfl; have b2 := At.lt A1.out 2 rfl) | (go_at_call 44; (with_reducible refine (K2.out _).mono ?_); rintro E w2 ⟨rfl, h2⟩; have A2 := Lib.hid (At.ext h2 A1.out); have E2 := Lib.hid (E1.out.trans h2); clear x0 x1 x2 y0 y1 z0 z1 z2 z3 zf0 zf1 zf2 zf3; obtain ⟨⟨x0, x1, x2⟩, -⟩ := run_3 (At.at A2.out 0 rfl); obtain ⟨⟨y0, y1⟩, -⟩ := run_2 (At.at A2.out 1 rfl); obtain ⟨⟨z0, z1, z2, z3⟩, zf0, zf1, zf2, zf3⟩ := run_4 (At.at A2.out 2 rfl)))
        (have st := store_4 (v0 := .slice none 0 0) (v1 := .int .i64 0) (v2 := .int .i64 0) (v3 := .int .i64 0) (At.at A2.out 2 rfl); refine bodyPost_ret (results_row2 rfl _ _ _ _ _ (0, 0) _ rfl st.1 Tryd.underlying51 rfl (by kernel_rfl)) rfl ?_; exact ⟨_, by rw [HI.out]; rfl, by rw [HI.out]; exact bytes_nil _, st.2.2 w (Nat.le_succ_of_le (Nat.le_succ _)) E2.out⟩)
    · rw [decide_eq_false hoo] at K2
      unfold imgVal conVal at *
      dsimp only at *
      clear hcm hco hoo hD1 HD
      go_enter Tryd.func31, Tryd.ntmps31
      go_wp2_with (first | (go_at_call 68; (with_reducible refine (K1.out _ (by repeat (first | exact Ext.refl _ | assumption | refine Ext.alloc ?_ _ | refine Ext.drewN ?_ _ | refine ext_grow ?_ _ _ | refine Ext.trans ?_ (by assumption)))).mono ?_); rintro E w1 ⟨rfl, h1⟩; have A1 := Lib.hid (show At w1 [(w.heap.size, Obj.cells #[.int .i64 mw, .int .i64 mh, .slice ao pix.length cap] 44), (w.heap.size + 1, Obj.cells #[.int .i64 lo, .int .i64 hi'] 46), (w.heap.size + 1 + 1, Obj.cells #[.slice none 0 0, .int .i64 0, .int .i64 0, .int .i64 0] 51)] from At.ext h1 ⟨three_first _ _ _ _, three_second _ _ _ _, three_third _ _ _ _, trivial⟩); have E1 := Lib.hid (show Ext w w1 from (by repeat (first | exact Ext.refl _ | assumption | refine Ext.alloc ?_ _ | refine Ext.drewN ?_ _ | refine ext_grow ?_ _ _ | refine Ext.trans ?_ (by assumption)))); obtain ⟨⟨x0, x1, x2⟩, -⟩ := run_3 (At.at A1.out 0 rfl); obtain ⟨⟨y0, y1⟩, -⟩ := run_2 (At.at A1.out 1 rfl); obtain ⟨⟨z0, z1, z2, z3⟩, zf0, zf1, zf2, zf3⟩ := run_4 (At.at A1.out 2 rfl); have b0 := At.lt A1.out 0 rfl; have b1 := At.lt A1.out 1 rfl; have b2 := At.lt A1.out 2 rfl) | (go_at_call 44; (with_reducible refine (K2.out _).mono ?_); rintro E w2 ⟨rfl, h2⟩; have A2 := Lib.hid (At.ext h2 A1.out); have E2 := Lib.hid (E1.out.trans h2); clear x0 x1 x2 y0 y1 z0 z1 z2 z3 zf0 zf1 zf2 zf3; obtain ⟨⟨x0, x1, x2⟩, -⟩ := run_3 (At.at A2.out 0 rfl); obtain ⟨⟨y0, y1⟩, -⟩ := run_2 (At.at A2.out 1 rfl); obtain ⟨⟨z0, z1, z2, z3⟩, zf0, zf1, zf2, zf3⟩ := run_4 (At.at A2.out 2 rfl)))
      (have st := store_4 (v0 := .slice none 0 0) (v1 := .int .i64 0) (v2 := .int .i64 0) (v3 := .int .i64 0) (At.at A2.out 2 rfl); refine bodyPost_ret (results_row2 rfl _ _ _ _ _ (0, 0) _ rfl st.1 Tryd.underlying51 rfl (by kernel_rfl)) rfl ?_; exact ⟨_, by rw [HI.out]; rfl, by rw [HI.out]; exact bytes_nil _, st.2.2 w (Nat.le_succ_of_le (Nat.le_succ _)) E2.out⟩)
  have hD2 : readA ⟨mw, mh, pix⟩ ⟨lo, hi'⟩ k = _ := hD1.trans (if_pos hco)
  rw [decide_eq_true hco.1] at K2
  obtain ⟨hcc, hk1, hk2⟩ := hco
  have hnk1 : ¬ k < 1 := by omega
  have hnk2 : ¬ 13 < k := by omega
  by_cases hsz : mw = mh ∧ (mw = 8 ∨ mw = 16)
  case neg =>
    have HI := Lib.hid (show readA ⟨mw, mh, pix⟩ ⟨lo, hi'⟩ k = (rd0, 21) by rw [hD2, if_neg hsz])
    unfold imgVal conVal at *
    dsimp only at *
    by_cases h1 : mw = mh
    · have q1 : (mw != mh) = false := by rw [bne_eq_false_iff_eq]; exact h1
      have q2 : (mw != 8) = true := by rw [bne_iff_ne]; exact fun h => hsz ⟨h1, .inl h⟩
      have q3 : (mw != 16) = true := by rw [bne_iff_ne]; exact fun h => hsz ⟨h1, .inr h⟩
      clear hcm hcc hD1 hD2 HD hsz h1
      go_enter Tryd.func31, Tryd.ntmps31
      go_wp2_with (first | (go_at_call 68; (with_reducible refine (K1.out _ (by repeat (first | exact Ext.refl _ | assumption | refine Ext.alloc ?_ _ | refine Ext.drewN ?_ _ | refine ext_grow ?_ _ _ | refine Ext.trans ?_ (by assumption)))).mono ?_); rintro E w1 ⟨rfl, h1⟩; have A1 := Lib.hid (show At w1 [(w.heap.size, Obj.cells #[.int .i64 mw, .int .i64 mh, .slice ao pix.length cap] 44), (w.heap.size + 1, Obj.cells #[.int .i64 lo, .int .i64 hi'] 46), (w.heap.size + 1 + 1, Obj.cells #[.slice none 0 0, .int .i64 0, .int .i64 0, .int .i64 0] 51)] from At.ext h1 ⟨three_first _ _ _ _, three_second _ _ _ _, three_third _ _ _ _, trivial⟩); have E1 := Lib.hid (show Ext w w1 from (by repeat (first | exact Ext.refl _ | assumption | refine Ext.alloc ?_ _ | refine Ext.drewN ?_ _ | refine ext_grow ?_ _ _ | refine Ext.trans ?_ (by assumption)))); obtain ⟨⟨x0, x1, x2⟩, -⟩ := run_3 (At.at A1.out 0 rfl); obtain ⟨⟨y0, y1⟩, -⟩ := run_2 (At.at A1.out 1 rfl); obtain ⟨⟨z0, z1, z2, z3⟩, zf0, zf1, zf2, zf3⟩ := run_4 (At.at A1.out 2 rfl); have b0 := At.lt A1.out 0 rfl; have b1 := At.lt A1.out 1 rfl; have b2 := At.lt A1.out 2 rfl) | (go_at_call 44; (with_reducible refine (K2.out _).mono ?_); rintro E w2 ⟨rfl, h2⟩; have A2 := Lib.hid (At.ext h2 A1.out); have E2 := Lib.hid (E1.out.trans h2); clear x0 x1 x2 y0 y1 z0 z1 z2 z3 zf0 zf1 zf2 zf3; obtain ⟨⟨x0, x1, x2⟩, -⟩ := run_3 (At.at A2.out 0 rfl); obtain ⟨⟨y0, y1⟩, -⟩ := run_2 (At.at A2.out 1 rfl); obtain ⟨⟨z0, z1, z2, z3⟩, zf0, zf1, zf2, zf3⟩ := run_4 (At.at A2.out 2 rfl)))
      (have st := store_4 (v0 := .slice none 0 0) (v1 := .int .i64 0) (v2 := .int .i64 0) (v3 := .int .i64 0) (At.at A2.out 2 rfl); refine bodyPost_ret (results_row2 rfl _ _ _ _ _ (0, 0) _ rfl st.1 Tryd.underlying51 rfl (by kernel_rfl)) rfl ?_; exact ⟨_, by rw [HI.out]; rfl, by rw [HI.out]; exact bytes_nil _, st.2.2 w (Nat.le_succ_of_le (Nat.le_succ _)) E2.out⟩)
    · have q1 : (mw != mh) = true := by rw [bne_iff_ne]; exact h1
      clear hcm hcc hD1 hD2 HD hsz h1
      go_enter Tryd.func31, Tryd.ntmps31
      go_wp2_with (first | (go_at_call 68; (with_reducible refine (K1.out _ (by repeat (first | exact Ext.refl _ | assumption | refine Ext.alloc ?_ _ | refine Ext.drewN ?_ _ | refine ext_grow ?_ _ _ | refine Ext.trans ?_ (by assumption)))).mono ?_); rintro E w1 ⟨rfl, h1⟩; have A1 := Lib.hid (show At w1 [(w.heap.size, Obj.cells #[.int .i64 mw, .int .i64 mh, .slice ao pix.length cap] 44), (w.heap.size + 1, Obj.cells #[.int .i64 lo, .int .i64 hi'] 46), (w.heap.size + 1 + 1, Obj.cells #[.slice none 0 0, .int .i64 0, .int .i64 0, .int .i64 0] 51)] from At.ext h1 ⟨three_first _ _ _ _, three_second _ _ _ _, three_third _ _ _ _, trivial⟩); have E1 := Lib.hid (show Ext w w1 from (by repeat (first | exact Ext.refl _ | assumption | refine Ext.alloc ?_ _ | refine Ext.drewN ?_ _ | refine ext_grow ?_ _ _ | refine Ext.trans ?_ (by assumption)))); obtain ⟨⟨x0, x1, x2⟩, -⟩ := run_3 (At.at A1.out 0 rfl); obtain ⟨⟨y0, y1⟩, -⟩ := run_2 (At.at A1.out 1 rfl); obtain ⟨⟨z0, z1, z2, z3⟩, zf0, zf1, zf2, zf3⟩ := run_4 (At.at A1.out 2 rfl); have b0 := At.lt A1.out 0 rfl; have b1 := At.lt A1.out 1 rfl; have b2 := At.lt A1.out 2 rfl) | (go_at_call 44; (with_reducible refine (K2.out _).mono ?_); rintro E w2 ⟨rfl, h2⟩; have A2 := Lib.hid (At.ext h2 A1.out); have E2 := Lib.hid (E1.out.trans h2); clear x0 x1 x2 y0 y1 z0 z1 z2 z3 zf0 zf1 zf2 zf3; obtain ⟨⟨x0, x1, x2⟩, -⟩ := run_3 (At.at A2.out 0 rfl); obtain ⟨⟨y0, y1⟩, -⟩ := run_2 (At.at A2.out 1 rfl); obtain ⟨⟨z0, z1, z2, z3⟩, zf0, zf1, zf2, zf3⟩ := run_4 (At.at A2.out 2 rfl)))
      (have st := store_4 (v0 := .slice none 0 0) (v1 := .int .i64 0) (v2 := .int .i64 0) (v3 := .int .i64 0) (At.at A2.out 2 rfl); refine bodyPost_ret (results_row2 rfl _ _ _ _ _ (0, 0) _ rfl st.1 Tryd.underlying51 rfl (by kernel_rfl)) rfl ?_; exact ⟨_, by rw [HI.out]; rfl, by rw [HI.out]; exact bytes_nil _, st.2.2 w (Nat.le_succ_of_le (Nat.le_succ _)) E2.out⟩)
  obtain ⟨rfl, hsz⟩ := hsz
  obtain ⟨S, hS, rfl⟩ : ∃ S : Nat, (1 ≤ S ∧ S ≤ 2) ∧ mw = ((8 * S : Nat) : Int) := by
    rcases hsz with h | h
    · exact ⟨1, by omega, h⟩
    · exact ⟨2, by omega, h⟩
  have hSC : SqCam S ⟨((8 * S : Nat) : Int), ((8 * S : Nat) : Int), pix⟩ := ⟨rfl, rfl, hcm⟩
  have hS8 : (((8 * S : Nat) : Int) / 8).toNat = S := by omega
  have hD3 : readA ⟨((8 * S : Nat) : Int), ((8 * S : Nat) : Int), pix⟩ ⟨lo, hi'⟩ k = match readI ⟨((8 * S : Nat) : Int), ((8 * S : Nat) : Int), pix⟩ S lo hi' k.toNat with | none => (rd0, (60 : Int)) | some r => (r, (0 : Int)) := by
    rw [hD2, if_pos ⟨rfl, hsz⟩, hS8]
    try rfl
  obtain ⟨kn, rfl⟩ := Int.eq_ofNat_of_zero_le (show 0 ≤ k by omega)
  rw [Int.toNat_natCast] at hD3
  have h9 := r_Read_main S (8 * S) kn cap pix ao lo hi' w hS rfl hSC hcc (by omega) (by omega) HV.out
  have e : readA ⟨((8 * S : Nat) : Int), ((8 * S : Nat) : Int), pix⟩ ⟨lo, hi'⟩ (kn : Int) = ansR (readI ⟨((8 * S : Nat) : Int), ((8 * S : Nat) : Int), pix⟩ S lo hi' kn) := by
    rw [hD3]
    cases readI ⟨((8 * S : Nat) : Int), ((8 * S : Nat) : Int), pix⟩ S lo hi' kn <;> rfl
  rw [e]
  exact h9
end Go.Proofs.YtlnofbdhamingaaDoor
