/- Offsets: the functions and the reference's walks. -/
import Derived.Test.YtipkjdfnoonpcaaDir
set_option linter.unusedVariables false
set_option linter.unusedSimpArgs false
namespace Go.Proofs.Ytipkjdfnoonpcaa
open Go.RowKit Go.Sort

/-- what 'Offset' answers -/
def offsetR (t : Tpl) (turn scale i j : Int) : Int × Int × Int :=
  if t.Ok then if Posed turn scale ∧ (0 ≤ i ∧ i ≤ t.w - 1) ∧ 0 ≤ j ∧ j ≤ t.h - 1 then (offX t turn scale i j, offY t turn scale i j, 0) else (0, 0, 2) else (0, 0, 70)
set_option maxHeartbeats 4000000 in
theorem c60 (turn scale : Int) (w : World) : Calls Try.prog 60 #[.int .i64 turn, .int .i64 scale] w fun e w' => e = .returned (.bool (decide (Posed turn scale))) ∧ Ext w w' := by
  by_cases h1 : 0 ≤ turn ∧ turn ≤ 11
  case neg =>
    have q1 : decide (0 ≤ turn ∧ turn ≤ 11) = false := decide_eq_false h1
    have H1 := Lib.hid h1
    clear h1
    go_enter Try.func60, Try.ntmps60
    go_wp2_with (go_at_call 61; (with_reducible refine (rwithin_same 61 (.inl rfl) _ _ _ _).mono ?_); rintro e w' ⟨rfl, rfl⟩)
    go_ret
    exact ⟨ret_bool (decide_eq_false (fun h => H1.out h.1)).symm, (by repeat (first | exact Ext.refl _ | assumption | refine Ext.alloc ?_ _ | refine Ext.drewN ?_ _ | refine ext_grow ?_ _ _ | refine Ext.trans ?_ (by assumption)))⟩
  have q1 : decide (0 ≤ turn ∧ turn ≤ 11) = true := decide_eq_true h1
  have H1 := Lib.hid h1
  clear h1
  go_enter Try.func60, Try.ntmps60
  go_wp2_with (go_at_call 61; (with_reducible refine (rwithin_same 61 (.inl rfl) _ _ _ _).mono ?_); rintro e w' ⟨rfl, rfl⟩)
  go_ret
  exact ⟨ret_bool (by have := H1.out; simp [Posed, this.1, this.2]), (by repeat (first | exact Ext.refl _ | assumption | refine Ext.alloc ?_ _ | refine Ext.drewN ?_ _ | refine ext_grow ?_ _ _ | refine Ext.trans ?_ (by assumption)))⟩
set_option maxRecDepth 100000 in
set_option maxHeartbeats 8000000 in
theorem c59 (t : Tpl) (v : Value) (w : World) (hv : IntsAt w v t.pix) (hl : t.pix.length ≤ maxLen) :
    Calls Try.prog 59 #[tplVal t v] w fun e w' => e = .returned (.bool (decide t.Ok)) ∧ Ext w w' := by
  obtain ⟨ao, cap, rfl, -, hc⟩ := hv.form
  have HC := Lib.hid hc
  have hlm : t.pix.length ≤ 9223372036854775807 := hl
  unfold tplVal
  clear hv hc
  by_cases hs : 1 ≤ t.w ∧ t.w ≤ 8
  case neg =>
    have q1 : decide (1 ≤ t.w ∧ t.w ≤ 8) = false := decide_eq_false hs
    have HS := Lib.hid hs
    clear hs
    go_enter Try.func59, Try.ntmps59
    go_wp2_with (go_at_call 61; (with_reducible refine (rwithin_same 61 (.inl rfl) _ _ _ _).mono ?_); rintro e w' ⟨rfl, rfl⟩)
    go_ret
    exact ⟨ret_bool (decide_eq_false (fun h => HS.out h.1.1)).symm, (by repeat (first | exact Ext.refl _ | assumption | refine Ext.alloc ?_ _ | refine Ext.drewN ?_ _ | refine ext_grow ?_ _ _ | refine Ext.trans ?_ (by assumption)))⟩
  by_cases ht : 1 ≤ t.h ∧ t.h ≤ 8
  case neg =>
    have q1 : decide (1 ≤ t.w ∧ t.w ≤ 8) = true := decide_eq_true hs
    have q2 : decide (1 ≤ t.h ∧ t.h ≤ 8) = false := decide_eq_false ht
    have HS := Lib.hid ht
    clear hs ht
    go_enter Try.func59, Try.ntmps59
    go_wp2_with (go_at_call 61; (with_reducible refine (rwithin_same 61 (.inl rfl) _ _ _ _).mono ?_); rintro e w' ⟨rfl, rfl⟩)
    go_ret
    exact ⟨ret_bool (decide_eq_false (fun h => HS.out h.1.2.1)).symm, (by repeat (first | exact Ext.refl _ | assumption | refine Ext.alloc ?_ _ | refine Ext.drewN ?_ _ | refine ext_grow ?_ _ _ | refine Ext.trans ?_ (by assumption)))⟩
  obtain ⟨p1, p2⟩ := mul_side8 ⟨hs, ht⟩
  have q1 : decide (1 ≤ t.w ∧ t.w ≤ 8) = true := decide_eq_true hs
  have q2 : decide (1 ≤ t.h ∧ t.h ≤ 8) = true := decide_eq_true ht
  have HS := Lib.hid hs
  have HT := Lib.hid ht
  clear hs ht
  by_cases hn : (t.pix.length : Int) = t.w * t.h
  case neg =>
    have q3 : ((t.pix.length : Int) != t.w * t.h) = true := by simpa using hn
    have HN := Lib.hid hn
    clear hn
    go_enter Try.func59, Try.ntmps59
    go_wp2_with (go_at_call 61; (with_reducible refine (rwithin_same 61 (.inl rfl) _ _ _ _).mono ?_); rintro e w' ⟨rfl, rfl⟩)
    go_ret
    exact ⟨ret_bool (decide_eq_false (fun h => HN.out h.1.2.2)).symm, (by repeat (first | exact Ext.refl _ | assumption | refine Ext.alloc ?_ _ | refine Ext.drewN ?_ _ | refine ext_grow ?_ _ _ | refine Ext.trans ?_ (by assumption)))⟩
  have q3 : ((t.pix.length : Int) != t.w * t.h) = false := by simpa using hn
  have HN := Lib.hid hn
  clear hn
  go_enter Try.func59, Try.ntmps59
  go_wp2_with (go_at_call 61; (with_reducible refine (rwithin_same 61 (.inl rfl) _ _ _ _).mono ?_); rintro e w' ⟨rfl, rfl⟩)
  go_loop [3, 4] (fun cv i => ∃ (k : Nat) (c : Bool), k ≤ t.pix.length ∧ i = .int .i64 (k : Int) ∧ cv = .bool c ∧ Hid (allIn (-1) 255 (t.pix.take k)) ∧ Hid (c = true ↔ ∃ n ∈ t.pix.take k, 0 ≤ n)) (fun _ i => t.pix.length - (intOf i).toNat)
  case atStart => exact ⟨0, false, Nat.zero_le _, rfl, rfl, Lib.hid (fun n hn => by simp at hn), Lib.hid (by simp)⟩
  case round =>
    obtain ⟨k, c, hk, rfl, rfl, hI, hJ⟩ := hrel
    by_cases hkl : k < t.pix.length
    · obtain ⟨b, off, rfl, c0⟩ := HC.out k hkl
      obtain ⟨x, hx⟩ : ∃ x, t.pix.getD k 0 = x := ⟨_, rfl⟩
      rw [hx] at c0
      have HX := Lib.hid hx
      have z0 := World.block_lt_of_cell? _ _ c0
      simp only at z0
      clear hx
      by_cases h1 : -1 ≤ x ∧ x ≤ 255
      case neg =>
        have q4 : decide (-1 ≤ x ∧ x ≤ 255) = false := decide_eq_false h1
        have H1 := Lib.hid h1
        clear h1
        go_wp2_with (go_at_call 61; (with_reducible refine (rwithin_same 61 (.inl rfl) _ _ _ _).mono ?_); rintro e w' ⟨rfl, rfl⟩)
        go_ret
        exact ⟨ret_bool (decide_eq_false (fun h => allIn_not hkl (by rw [HX.out]; exact H1.out) h.2.1)).symm, (by repeat (first | exact Ext.refl _ | assumption | refine Ext.alloc ?_ _ | refine Ext.drewN ?_ _ | refine ext_grow ?_ _ _ | refine Ext.trans ?_ (by assumption)))⟩
      have q4 : decide (-1 ≤ x ∧ x ≤ 255) = true := decide_eq_true h1
      have H1 := Lib.hid h1
      clear h1
      have HA := Lib.hid ((allIn_snoc hkl).2 ⟨hI.out, by rw [HX.out]; exact H1.out⟩)
      cases c
      · by_cases h0 : 0 ≤ x
        · go_wp2_with (go_at_call 61; (with_reducible refine (rwithin_same 61 (.inl rfl) _ _ _ _).mono ?_); rintro e w' ⟨rfl, rfl⟩)
          go_round
          case rel => exact ⟨k + 1, true, by omega, by go_num, rfl, HA, Lib.hid (by rw [ex_snoc hkl, HX.out]; exact ⟨fun _ => .inr h0, fun _ => rfl⟩)⟩
          case measure => simp [intOf]; omega
        · have h0f : decide (0 ≤ x) = false := decide_eq_false h0
          go_wp2_with (go_at_call 61; (with_reducible refine (rwithin_same 61 (.inl rfl) _ _ _ _).mono ?_); rintro e w' ⟨rfl, rfl⟩)
          go_round
          case rel => exact ⟨k + 1, false, by omega, by go_num, rfl, HA, Lib.hid (by rw [ex_snoc hkl, HX.out]; exact ⟨fun h => (by cases h), fun h => by rcases h with h | h; exact hJ.out.2 h; omega⟩)⟩
          case measure => simp [intOf]; omega
      · go_wp2_with (go_at_call 61; (with_reducible refine (rwithin_same 61 (.inl rfl) _ _ _ _).mono ?_); rintro e w' ⟨rfl, rfl⟩)
        go_round
        case rel => exact ⟨k + 1, true, by omega, by go_num, rfl, HA, Lib.hid (by rw [ex_snoc hkl]; exact ⟨fun _ => .inl (hJ.out.1 (by first | rfl | trivial)), fun _ => rfl⟩)⟩
        case measure => simp [intOf]; omega
    · have h1 := hI.out
      have h2 := hJ.out
      rw [List.take_of_length_le (by omega)] at h1 h2
      have HF := Lib.hid (show c = decide t.Ok from by
        rw [Bool.eq_iff_iff, decide_eq_true_iff]
        exact h2.trans ⟨fun h => ⟨⟨HS.out, HT.out, HN.out⟩, h1, h⟩, fun h => h.2.2⟩)
      clear h1 h2 hI hJ
      go_wp2
      go_ret
      exact ⟨ret_bool HF.out, (by repeat (first | exact Ext.refl _ | assumption | refine Ext.alloc ?_ _ | refine Ext.drewN ?_ _ | refine ext_grow ?_ _ _ | refine Ext.trans ?_ (by assumption)))⟩
set_option maxRecDepth 100000 in
set_option maxHeartbeats 16000000 in
theorem c62 (t : Tpl) (v : Value) (turn scale i j : Int) (w : World) (ht : (1 ≤ t.w ∧ t.w ≤ 8) ∧ 1 ≤ t.h ∧ t.h ≤ 8) (hv : IntsAt w v t.pix) (hp : Posed turn scale) (hi : 0 ≤ i ∧ i ≤ t.w - 1) (hj : 0 ≤ j ∧ j ≤ t.h - 1) :
    Calls Try.prog 62 #[tplVal t v, .int .i64 turn, .int .i64 scale, .int .i64 i, .int .i64 j] w fun e w' => e = .returned (.tuple #[.int .i64 (offX t turn scale i j), .int .i64 (offY t turn scale i j)]) ∧ Ext w w' := by
  obtain ⟨ao, cap, rfl, -, -⟩ := hv.form
  obtain ⟨⟨t1, t2⟩, t3, t4⟩ := ht
  obtain ⟨hp1, hsc⟩ := hp
  obtain ⟨i1, i2⟩ := hi
  obtain ⟨j1, j2⟩ := hj
  have KD := Lib.hid (fun w' => c96 turn w' hp1)
  have hdb := dirOf_bd turn
  obtain ⟨a, ha⟩ : ∃ a, (dirOf turn).1 = a := ⟨_, rfl⟩
  obtain ⟨b, hb⟩ : ∃ b, (dirOf turn).2 = b := ⟨_, rfl⟩
  rw [ha, hb] at hdb KD
  have HD := Lib.hid (And.intro ha hb)
  obtain ⟨⟨a1, a2⟩, b1, b2⟩ := hdb
  obtain ⟨u, hu⟩ : ∃ u, 2 * i - (t.w - 1) = u := ⟨_, rfl⟩
  obtain ⟨z, hz⟩ : ∃ z, 2 * j - (t.h - 1) = z := ⟨_, rfl⟩
  have hu1 : -8 ≤ u ∧ u ≤ 8 := by omega
  have hz1 : -8 ≤ z ∧ z ≤ 8 := by omega
  obtain ⟨⟨m1, m2⟩, ⟨m3, m4⟩, ⟨m5, m6⟩, -, -⟩ := off_bd (a := a) (b := b) (u := u) (v := z) ⟨a1, a2⟩ ⟨b1, b2⟩ hu1 hz1 hsc
  obtain ⟨⟨m7, m8⟩, ⟨m9, m10⟩, -, ⟨m11, m12⟩⟩ := off_bd (a := b) (b := a) (u := u) (v := z) ⟨b1, b2⟩ ⟨a1, a2⟩ hu1 hz1 hsc
  have K1 := Lib.hid (fun w => c97 (scale * (a * u - b * z) + 10) w (by omega) (by omega))
  have K2 := Lib.hid (fun w => c97 (scale * (b * u + a * z) + 10) w (by omega) (by omega))
  have hX : offX t turn scale i j = (scale * (a * u - b * z) + 10) / 20 := by unfold offX; rw [HD.out.1, HD.out.2, show 2 * i - t.w + 1 = u by omega, show 2 * j - t.h + 1 = z by omega]
  have hY : offY t turn scale i j = (scale * (b * u + a * z) + 10) / 20 := by unfold offY; rw [HD.out.1, HD.out.2, show 2 * i - t.w + 1 = u by omega, show 2 * j - t.h + 1 = z by omega]
  rw [← hX] at K1
  rw [← hY] at K2
  obtain ⟨OX, hox⟩ : ∃ x, offX t turn scale i j = x := ⟨_, rfl⟩
  obtain ⟨OY, hoy⟩ : ∃ x, offY t turn scale i j = x := ⟨_, rfl⟩
  rw [hox] at K1
  rw [hoy] at K2
  have HO := Lib.hid (And.intro hox hoy)
  have wa : IntKind.i64.wrap (2 * i) = 2 * i := IntWalk.i64_in _ (by omega)
  have wb : IntKind.i64.wrap (t.w - 1) = t.w - 1 := IntWalk.i64_in _ (by omega)
  have wc : IntKind.i64.wrap (2 * i - (t.w - 1)) = u := by rw [hu]; exact IntWalk.i64_in _ (by omega)
  have wd : IntKind.i64.wrap (2 * j) = 2 * j := IntWalk.i64_in _ (by omega)
  have we : IntKind.i64.wrap (t.h - 1) = t.h - 1 := IntWalk.i64_in _ (by omega)
  have wf : IntKind.i64.wrap (2 * j - (t.h - 1)) = z := by rw [hz]; exact IntWalk.i64_in _ (by omega)
  unfold tplVal
  clear hv ha hb hX hY hox hoy hu hz
  go_enter Try.func62, Try.ntmps62
  go_wp2_with (go_at_call 96; (with_reducible refine (KD.out _).mono ?_); rintro E w1 ⟨rfl, hb1⟩; have A1 := Lib.hid (show At w1 [(w.heap.size, Obj.cells #[.int .i64 t.w, .int .i64 t.h, .slice ao t.pix.length cap] 43)] from At.ext hb1 ⟨(by repeat (first | (refine blk_at _ _ ?_; (first | rfl | (simp only [size_one]; done))) | refine (blk_past _ _ (by simp only [size_one]; omega)).trans ?_)), trivial⟩); have E1 := Lib.hid (show Ext w w1 from (by repeat (first | exact Ext.refl _ | assumption | refine Ext.alloc ?_ _ | refine Ext.drewN ?_ _ | refine ext_grow ?_ _ _ | refine Ext.trans ?_ (by assumption)))); obtain ⟨⟨x00, x01, x02⟩, -⟩ := run_3 (At.at A1.out 0 rfl); have xz0 := At.lt A1.out 0 rfl; have xy0 := Nat.lt_succ_of_lt xz0; have xx0 := Nat.lt_succ_of_lt xy0)
  go_quiet (fail)
  have hb6 : Ext w1 (w1.drewN nq) := (Ext.refl _).drewN nq
  generalize hw6 : w1.drewN nq = w6 at hb6 ⊢
  clear hw6 wa wb wc wd we wf
  go_wp2_with (first | (go_at_call 97; (with_reducible refine (K1.out _).mono ?_); rintro E w7 ⟨rfl, hb7⟩) | (go_at_call 97; (with_reducible refine (K2.out _).mono ?_); rintro E w8 ⟨rfl, hb8⟩))
  go_ret2
  exact ⟨by rw [HO.out.1, HO.out.2]; rfl, E1.out.trans (hb6.trans (hb7.trans hb8))⟩
set_option maxRecDepth 100000 in
set_option maxHeartbeats 8000000 in
theorem c25 (t : Tpl) (v : Value) (turn scale i j : Int) (w : World) (hv : IntsAt w v t.pix) (hl : t.pix.length ≤ maxLen) :
    Calls Try.prog 25 #[tplVal t v, .int .i64 turn, .int .i64 scale, .int .i64 i, .int .i64 j] w fun e w' => e = .returned (.tuple #[.int .i64 (offsetR t turn scale i j).1, .int .i64 (offsetR t turn scale i j).2.1, .int .i64 (offsetR t turn scale i j).2.2]) ∧ Ext w w' := by
  have HV := Lib.hid hv
  obtain ⟨ao, cap, rfl, -, -⟩ := hv.form
  have KV := Lib.hid (fun w' (h : Ext w w') => c56 t _ w' (HV.out.ext h) hl)
  have KP := Lib.hid (fun w' => c57 turn scale w')
  have KO := fun (h1 : t.Ok) (h2 : Posed turn scale) (h3 : 0 ≤ i ∧ i ≤ t.w - 1) (h4 : 0 ≤ j ∧ j ≤ t.h - 1) => Lib.hid (fun w' (h : Ext w w') => c58 t _ turn scale i j w' ⟨h1.1.1, h1.1.2.1⟩ (HV.out.ext h) h2 h3 h4)
  unfold tplVal at *
  clear hv hl
  by_cases h1 : t.Ok
  case neg =>
    have q1 : decide t.Ok = false := decide_eq_false h1
    rw [q1] at KV
    have hR := Lib.hid (show offsetR t turn scale i j = (0, 0, 70) from if_neg h1)
    clear h1 q1 KO
    go_enter Try.func25, Try.ntmps25
    go_wp2_with (go_at_call 56; (with_reducible refine (KV.out _ (by repeat (first | exact Ext.refl _ | assumption | refine Ext.alloc ?_ _ | refine Ext.drewN ?_ _ | refine ext_grow ?_ _ _ | refine Ext.trans ?_ (by assumption)))).mono ?_); rintro E w1 ⟨rfl, hb1⟩; have A1 := Lib.hid (show At w1 [(w.heap.size, Obj.cells #[.int .i64 t.w, .int .i64 t.h, .slice ao t.pix.length cap] 43)] from At.ext (show Ext _ w1 from hb1) ⟨(by repeat (first | (refine blk_at _ _ ?_; (first | rfl | (simp only [size_one]; done))) | refine (blk_past _ _ (by simp only [size_one]; omega)).trans ?_)), trivial⟩); have E1 := Lib.hid (show Ext w w1 from (by repeat (first | exact Ext.refl _ | assumption | refine Ext.alloc ?_ _ | refine Ext.drewN ?_ _ | refine ext_grow ?_ _ _ | refine Ext.trans ?_ (by assumption)))); obtain ⟨⟨x00, x01, x02⟩, -⟩ := run_3 (At.at A1.out 0 rfl); have xz0 := At.lt A1.out 0 rfl; have xy0 := Nat.lt_succ_of_lt xz0; have xx0 := Nat.lt_succ_of_lt xy0)
    go_ret3
    exact ⟨by rw [hR.out]; rfl, (by repeat (first | exact Ext.refl _ | assumption | refine Ext.alloc ?_ _ | refine Ext.drewN ?_ _ | refine ext_grow ?_ _ _ | refine Ext.trans ?_ (by assumption)))⟩
  have q1 : decide t.Ok = true := decide_eq_true h1
  rw [q1] at KV
  obtain ⟨⟨⟨b1, b2⟩, ⟨b3, b4⟩, -⟩, -⟩ := id h1
  by_cases h2 : Posed turn scale
  case neg =>
    have q2 : decide (Posed turn scale) = false := decide_eq_false h2
    rw [q2] at KP
    have hR := Lib.hid (show offsetR t turn scale i j = (0, 0, 2) from (if_pos h1).trans (if_neg (fun h => h2 h.1)))
    clear h1 q1 h2 q2 KO
    go_enter Try.func25, Try.ntmps25
    go_wp2_with (first | (have _q := E1; go_at_call 57; (with_reducible refine (KP.out _).mono ?_); rintro E w2 ⟨rfl, hb2⟩; have A2 := Lib.hid (show At w2 [(w.heap.size, Obj.cells #[.int .i64 t.w, .int .i64 t.h, .slice ao t.pix.length cap] 43)] from At.ext (show Ext w1 w2 from (by repeat (first | exact Ext.refl _ | assumption | refine Ext.alloc ?_ _ | refine Ext.drewN ?_ _ | refine ext_grow ?_ _ _ | refine Ext.trans ?_ (by assumption)))) A1.out); have E2 := Lib.hid (show Ext w w2 from (by repeat (first | exact Ext.refl _ | assumption | refine Ext.alloc ?_ _ | refine Ext.drewN ?_ _ | refine ext_grow ?_ _ _ | refine Ext.trans ?_ (by assumption)))); obtain ⟨⟨y00, y01, y02⟩, -⟩ := run_3 (At.at A2.out 0 rfl); have yz0 := At.lt A2.out 0 rfl; have yy0 := Nat.lt_succ_of_lt yz0; have yx0 := Nat.lt_succ_of_lt yy0) | (go_at_call 56; (with_reducible refine (KV.out _ (by repeat (first | exact Ext.refl _ | assumption | refine Ext.alloc ?_ _ | refine Ext.drewN ?_ _ | refine ext_grow ?_ _ _ | refine Ext.trans ?_ (by assumption)))).mono ?_); rintro E w1 ⟨rfl, hb1⟩; have A1 := Lib.hid (show At w1 [(w.heap.size, Obj.cells #[.int .i64 t.w, .int .i64 t.h, .slice ao t.pix.length cap] 43)] from At.ext (show Ext _ w1 from hb1) ⟨(by repeat (first | (refine blk_at _ _ ?_; (first | rfl | (simp only [size_one]; done))) | refine (blk_past _ _ (by simp only [size_one]; omega)).trans ?_)), trivial⟩); have E1 := Lib.hid (show Ext w w1 from (by repeat (first | exact Ext.refl _ | assumption | refine Ext.alloc ?_ _ | refine Ext.drewN ?_ _ | refine ext_grow ?_ _ _ | refine Ext.trans ?_ (by assumption)))); obtain ⟨⟨x00, x01, x02⟩, -⟩ := run_3 (At.at A1.out 0 rfl); have xz0 := At.lt A1.out 0 rfl; have xy0 := Nat.lt_succ_of_lt xz0; have xx0 := Nat.lt_succ_of_lt xy0))
    go_ret3
    exact ⟨by rw [hR.out]; rfl, (by repeat (first | exact Ext.refl _ | assumption | refine Ext.alloc ?_ _ | refine Ext.drewN ?_ _ | refine ext_grow ?_ _ _ | refine Ext.trans ?_ (by assumption)))⟩
  have q2 : decide (Posed turn scale) = true := decide_eq_true h2
  rw [q2] at KP
  by_cases h3 : 0 ≤ i ∧ i ≤ t.w - 1
  case neg =>
    have q3 : decide (0 ≤ i ∧ i ≤ t.w - 1) = false := decide_eq_false h3
    have hR := Lib.hid (show offsetR t turn scale i j = (0, 0, 2) from (if_pos h1).trans (if_neg (fun h => h3 h.2.1)))
    clear h1 q1 h2 q2 h3 KO
    go_enter Try.func25, Try.ntmps25
    go_wp2_with (first | (have _q := E2; go_at_call 50; (with_reducible refine (within_one_same 50 (.inl rfl) _ _ _ _ _ (by simp)).mono ?_); rintro e w' ⟨rfl, rfl⟩) | (have _q := E1; go_at_call 57; (with_reducible refine (KP.out _).mono ?_); rintro E w2 ⟨rfl, hb2⟩; have A2 := Lib.hid (show At w2 [(w.heap.size, Obj.cells #[.int .i64 t.w, .int .i64 t.h, .slice ao t.pix.length cap] 43)] from At.ext (show Ext w1 w2 from (by repeat (first | exact Ext.refl _ | assumption | refine Ext.alloc ?_ _ | refine Ext.drewN ?_ _ | refine ext_grow ?_ _ _ | refine Ext.trans ?_ (by assumption)))) A1.out); have E2 := Lib.hid (show Ext w w2 from (by repeat (first | exact Ext.refl _ | assumption | refine Ext.alloc ?_ _ | refine Ext.drewN ?_ _ | refine ext_grow ?_ _ _ | refine Ext.trans ?_ (by assumption)))); obtain ⟨⟨y00, y01, y02⟩, -⟩ := run_3 (At.at A2.out 0 rfl); have yz0 := At.lt A2.out 0 rfl; have yy0 := Nat.lt_succ_of_lt yz0; have yx0 := Nat.lt_succ_of_lt yy0) | (go_at_call 56; (with_reducible refine (KV.out _ (by repeat (first | exact Ext.refl _ | assumption | refine Ext.alloc ?_ _ | refine Ext.drewN ?_ _ | refine ext_grow ?_ _ _ | refine Ext.trans ?_ (by assumption)))).mono ?_); rintro E w1 ⟨rfl, hb1⟩; have A1 := Lib.hid (show At w1 [(w.heap.size, Obj.cells #[.int .i64 t.w, .int .i64 t.h, .slice ao t.pix.length cap] 43)] from At.ext (show Ext _ w1 from hb1) ⟨(by repeat (first | (refine blk_at _ _ ?_; (first | rfl | (simp only [size_one]; done))) | refine (blk_past _ _ (by simp only [size_one]; omega)).trans ?_)), trivial⟩); have E1 := Lib.hid (show Ext w w1 from (by repeat (first | exact Ext.refl _ | assumption | refine Ext.alloc ?_ _ | refine Ext.drewN ?_ _ | refine ext_grow ?_ _ _ | refine Ext.trans ?_ (by assumption)))); obtain ⟨⟨x00, x01, x02⟩, -⟩ := run_3 (At.at A1.out 0 rfl); have xz0 := At.lt A1.out 0 rfl; have xy0 := Nat.lt_succ_of_lt xz0; have xx0 := Nat.lt_succ_of_lt xy0))
    go_ret3
    exact ⟨by rw [hR.out]; rfl, (by repeat (first | exact Ext.refl _ | assumption | refine Ext.alloc ?_ _ | refine Ext.drewN ?_ _ | refine ext_grow ?_ _ _ | refine Ext.trans ?_ (by assumption)))⟩
  have q3 : decide (0 ≤ i ∧ i ≤ t.w - 1) = true := decide_eq_true h3
  by_cases h4 : 0 ≤ j ∧ j ≤ t.h - 1
  case neg =>
    have q4 : decide (0 ≤ j ∧ j ≤ t.h - 1) = false := decide_eq_false h4
    have hR := Lib.hid (show offsetR t turn scale i j = (0, 0, 2) from (if_pos h1).trans (if_neg (fun h => h4 h.2.2)))
    clear h1 q1 h2 q2 h3 h4 KO
    go_enter Try.func25, Try.ntmps25
    go_wp2_with (first | (have _q := E2; go_at_call 50; (with_reducible refine (within_one_same 50 (.inl rfl) _ _ _ _ _ (by simp)).mono ?_); rintro e w' ⟨rfl, rfl⟩) | (have _q := E1; go_at_call 57; (with_reducible refine (KP.out _).mono ?_); rintro E w2 ⟨rfl, hb2⟩; have A2 := Lib.hid (show At w2 [(w.heap.size, Obj.cells #[.int .i64 t.w, .int .i64 t.h, .slice ao t.pix.length cap] 43)] from At.ext (show Ext w1 w2 from (by repeat (first | exact Ext.refl _ | assumption | refine Ext.alloc ?_ _ | refine Ext.drewN ?_ _ | refine ext_grow ?_ _ _ | refine Ext.trans ?_ (by assumption)))) A1.out); have E2 := Lib.hid (show Ext w w2 from (by repeat (first | exact Ext.refl _ | assumption | refine Ext.alloc ?_ _ | refine Ext.drewN ?_ _ | refine ext_grow ?_ _ _ | refine Ext.trans ?_ (by assumption)))); obtain ⟨⟨y00, y01, y02⟩, -⟩ := run_3 (At.at A2.out 0 rfl); have yz0 := At.lt A2.out 0 rfl; have yy0 := Nat.lt_succ_of_lt yz0; have yx0 := Nat.lt_succ_of_lt yy0) | (go_at_call 56; (with_reducible refine (KV.out _ (by repeat (first | exact Ext.refl _ | assumption | refine Ext.alloc ?_ _ | refine Ext.drewN ?_ _ | refine ext_grow ?_ _ _ | refine Ext.trans ?_ (by assumption)))).mono ?_); rintro E w1 ⟨rfl, hb1⟩; have A1 := Lib.hid (show At w1 [(w.heap.size, Obj.cells #[.int .i64 t.w, .int .i64 t.h, .slice ao t.pix.length cap] 43)] from At.ext (show Ext _ w1 from hb1) ⟨(by repeat (first | (refine blk_at _ _ ?_; (first | rfl | (simp only [size_one]; done))) | refine (blk_past _ _ (by simp only [size_one]; omega)).trans ?_)), trivial⟩); have E1 := Lib.hid (show Ext w w1 from (by repeat (first | exact Ext.refl _ | assumption | refine Ext.alloc ?_ _ | refine Ext.drewN ?_ _ | refine ext_grow ?_ _ _ | refine Ext.trans ?_ (by assumption)))); obtain ⟨⟨x00, x01, x02⟩, -⟩ := run_3 (At.at A1.out 0 rfl); have xz0 := At.lt A1.out 0 rfl; have xy0 := Nat.lt_succ_of_lt xz0; have xx0 := Nat.lt_succ_of_lt xy0))
    go_ret3
    exact ⟨by rw [hR.out]; rfl, (by repeat (first | exact Ext.refl _ | assumption | refine Ext.alloc ?_ _ | refine Ext.drewN ?_ _ | refine ext_grow ?_ _ _ | refine Ext.trans ?_ (by assumption)))⟩
  have q4 : decide (0 ≤ j ∧ j ≤ t.h - 1) = true := decide_eq_true h4
  replace KO := KO h1 h2 h3 h4
  have hR := Lib.hid (show offsetR t turn scale i j = (offX t turn scale i j, offY t turn scale i j, 0) from (if_pos h1).trans (if_pos ⟨h2, h3, h4⟩))
  clear h1 q1 h2 q2 h3 h4
  obtain ⟨OX, hox⟩ : ∃ x, offX t turn scale i j = x := ⟨_, rfl⟩
  obtain ⟨OY, hoy⟩ : ∃ x, offY t turn scale i j = x := ⟨_, rfl⟩
  have HO := Lib.hid (And.intro hox hoy)
  rw [hox, hoy] at KO
  clear hox hoy
  go_enter Try.func25, Try.ntmps25
  go_wp2_with (first | (have _q := E2; go_at_call 58; (with_reducible refine (KO.out _ (E2.out.trans (by repeat (first | exact Ext.refl _ | assumption | refine Ext.alloc ?_ _ | refine Ext.drewN ?_ _ | refine ext_grow ?_ _ _ | refine Ext.trans ?_ (by assumption))))).mono ?_); rintro E w3 ⟨rfl, hb3⟩) | (have _q := E2; go_at_call 50; (with_reducible refine (within_one_same 50 (.inl rfl) _ _ _ _ _ (by simp)).mono ?_); rintro e w' ⟨rfl, rfl⟩) | (have _q := E1; go_at_call 57; (with_reducible refine (KP.out _).mono ?_); rintro E w2 ⟨rfl, hb2⟩; have A2 := Lib.hid (show At w2 [(w.heap.size, Obj.cells #[.int .i64 t.w, .int .i64 t.h, .slice ao t.pix.length cap] 43)] from At.ext (show Ext w1 w2 from (by repeat (first | exact Ext.refl _ | assumption | refine Ext.alloc ?_ _ | refine Ext.drewN ?_ _ | refine ext_grow ?_ _ _ | refine Ext.trans ?_ (by assumption)))) A1.out); have E2 := Lib.hid (show Ext w w2 from (by repeat (first | exact Ext.refl _ | assumption | refine Ext.alloc ?_ _ | refine Ext.drewN ?_ _ | refine ext_grow ?_ _ _ | refine Ext.trans ?_ (by assumption)))); obtain ⟨⟨y00, y01, y02⟩, -⟩ := run_3 (At.at A2.out 0 rfl); have yz0 := At.lt A2.out 0 rfl; have yy0 := Nat.lt_succ_of_lt yz0; have yx0 := Nat.lt_succ_of_lt yy0) | (go_at_call 56; (with_reducible refine (KV.out _ (by repeat (first | exact Ext.refl _ | assumption | refine Ext.alloc ?_ _ | refine Ext.drewN ?_ _ | refine ext_grow ?_ _ _ | refine Ext.trans ?_ (by assumption)))).mono ?_); rintro E w1 ⟨rfl, hb1⟩; have A1 := Lib.hid (show At w1 [(w.heap.size, Obj.cells #[.int .i64 t.w, .int .i64 t.h, .slice ao t.pix.length cap] 43)] from At.ext (show Ext _ w1 from hb1) ⟨(by repeat (first | (refine blk_at _ _ ?_; (first | rfl | (simp only [size_one]; done))) | refine (blk_past _ _ (by simp only [size_one]; omega)).trans ?_)), trivial⟩); have E1 := Lib.hid (show Ext w w1 from (by repeat (first | exact Ext.refl _ | assumption | refine Ext.alloc ?_ _ | refine Ext.drewN ?_ _ | refine ext_grow ?_ _ _ | refine Ext.trans ?_ (by assumption)))); obtain ⟨⟨x00, x01, x02⟩, -⟩ := run_3 (At.at A1.out 0 rfl); have xz0 := At.lt A1.out 0 rfl; have xy0 := Nat.lt_succ_of_lt xz0; have xx0 := Nat.lt_succ_of_lt xy0))
  go_ret3
  exact ⟨by rw [hR.out, HO.out.1, HO.out.2]; rfl, (by repeat (first | exact Ext.refl _ | assumption | refine Ext.alloc ?_ _ | refine Ext.drewN ?_ _ | refine ext_grow ?_ _ _ | refine Ext.trans ?_ (by assumption)))⟩
set_option maxRecDepth 100000 in
set_option maxHeartbeats 8000000 in
theorem c26 (t : Tpl) (v : Value) (turn scale i j : Int) (w : World) (hv : IntsAt w v t.pix) (hl : t.pix.length ≤ maxLen) :
    Calls Try.prog 26 #[tplVal t v, .int .i64 turn, .int .i64 scale, .int .i64 i, .int .i64 j] w fun e w' => e = .returned (.tuple #[.int .i64 (offsetR t turn scale i j).1, .int .i64 (offsetR t turn scale i j).2.1, .int .i64 (offsetR t turn scale i j).2.2]) ∧ Ext w w' := by
  have HV := Lib.hid hv
  obtain ⟨ao, cap, rfl, -, -⟩ := hv.form
  have KV := Lib.hid (fun w' (h : Ext w w') => c59 t _ w' (HV.out.ext h) hl)
  have KP := Lib.hid (fun w' => c60 turn scale w')
  have KO := fun (h1 : t.Ok) (h2 : Posed turn scale) (h3 : 0 ≤ i ∧ i ≤ t.w - 1) (h4 : 0 ≤ j ∧ j ≤ t.h - 1) => Lib.hid (fun w' (h : Ext w w') => c62 t _ turn scale i j w' ⟨h1.1.1, h1.1.2.1⟩ (HV.out.ext h) h2 h3 h4)
  unfold tplVal at *
  clear hv hl
  by_cases h1 : t.Ok
  case neg =>
    have q1 : decide t.Ok = false := decide_eq_false h1
    rw [q1] at KV
    have hR := Lib.hid (show offsetR t turn scale i j = (0, 0, 70) from if_neg h1)
    clear h1 q1 KO
    go_enter Try.func26, Try.ntmps26
    go_wp2_with (go_at_call 59; (with_reducible refine (KV.out _ (by repeat (first | exact Ext.refl _ | assumption | refine Ext.alloc ?_ _ | refine Ext.drewN ?_ _ | refine ext_grow ?_ _ _ | refine Ext.trans ?_ (by assumption)))).mono ?_); rintro E w1 ⟨rfl, hb1⟩; have A1 := Lib.hid (show At w1 [(w.heap.size, Obj.cells #[.int .i64 t.w, .int .i64 t.h, .slice ao t.pix.length cap] 43)] from At.ext (show Ext _ w1 from hb1) ⟨(by repeat (first | (refine blk_at _ _ ?_; (first | rfl | (simp only [size_one]; done))) | refine (blk_past _ _ (by simp only [size_one]; omega)).trans ?_)), trivial⟩); have E1 := Lib.hid (show Ext w w1 from (by repeat (first | exact Ext.refl _ | assumption | refine Ext.alloc ?_ _ | refine Ext.drewN ?_ _ | refine ext_grow ?_ _ _ | refine Ext.trans ?_ (by assumption)))); obtain ⟨⟨x00, x01, x02⟩, -⟩ := run_3 (At.at A1.out 0 rfl); have xz0 := At.lt A1.out 0 rfl; have xy0 := Nat.lt_succ_of_lt xz0; have xx0 := Nat.lt_succ_of_lt xy0)
    go_ret3
    exact ⟨by rw [hR.out]; rfl, (by repeat (first | exact Ext.refl _ | assumption | refine Ext.alloc ?_ _ | refine Ext.drewN ?_ _ | refine ext_grow ?_ _ _ | refine Ext.trans ?_ (by assumption)))⟩
  have q1 : decide t.Ok = true := decide_eq_true h1
  rw [q1] at KV
  obtain ⟨⟨⟨b1, b2⟩, ⟨b3, b4⟩, -⟩, -⟩ := id h1
  by_cases h2 : Posed turn scale
  case neg =>
    have q2 : decide (Posed turn scale) = false := decide_eq_false h2
    rw [q2] at KP
    have hR := Lib.hid (show offsetR t turn scale i j = (0, 0, 2) from (if_pos h1).trans (if_neg (fun h => h2 h.1)))
    clear h1 q1 h2 q2 KO
    go_enter Try.func26, Try.ntmps26
    go_wp2_with (first | (have _q := E1; go_at_call 60; (with_reducible refine (KP.out _).mono ?_); rintro E w2 ⟨rfl, hb2⟩; have A2 := Lib.hid (show At w2 [(w.heap.size, Obj.cells #[.int .i64 t.w, .int .i64 t.h, .slice ao t.pix.length cap] 43)] from At.ext (show Ext w1 w2 from (by repeat (first | exact Ext.refl _ | assumption | refine Ext.alloc ?_ _ | refine Ext.drewN ?_ _ | refine ext_grow ?_ _ _ | refine Ext.trans ?_ (by assumption)))) A1.out); have E2 := Lib.hid (show Ext w w2 from (by repeat (first | exact Ext.refl _ | assumption | refine Ext.alloc ?_ _ | refine Ext.drewN ?_ _ | refine ext_grow ?_ _ _ | refine Ext.trans ?_ (by assumption)))); obtain ⟨⟨y00, y01, y02⟩, -⟩ := run_3 (At.at A2.out 0 rfl); have yz0 := At.lt A2.out 0 rfl; have yy0 := Nat.lt_succ_of_lt yz0; have yx0 := Nat.lt_succ_of_lt yy0) | (go_at_call 59; (with_reducible refine (KV.out _ (by repeat (first | exact Ext.refl _ | assumption | refine Ext.alloc ?_ _ | refine Ext.drewN ?_ _ | refine ext_grow ?_ _ _ | refine Ext.trans ?_ (by assumption)))).mono ?_); rintro E w1 ⟨rfl, hb1⟩; have A1 := Lib.hid (show At w1 [(w.heap.size, Obj.cells #[.int .i64 t.w, .int .i64 t.h, .slice ao t.pix.length cap] 43)] from At.ext (show Ext _ w1 from hb1) ⟨(by repeat (first | (refine blk_at _ _ ?_; (first | rfl | (simp only [size_one]; done))) | refine (blk_past _ _ (by simp only [size_one]; omega)).trans ?_)), trivial⟩); have E1 := Lib.hid (show Ext w w1 from (by repeat (first | exact Ext.refl _ | assumption | refine Ext.alloc ?_ _ | refine Ext.drewN ?_ _ | refine ext_grow ?_ _ _ | refine Ext.trans ?_ (by assumption)))); obtain ⟨⟨x00, x01, x02⟩, -⟩ := run_3 (At.at A1.out 0 rfl); have xz0 := At.lt A1.out 0 rfl; have xy0 := Nat.lt_succ_of_lt xz0; have xx0 := Nat.lt_succ_of_lt xy0))
    go_ret3
    exact ⟨by rw [hR.out]; rfl, (by repeat (first | exact Ext.refl _ | assumption | refine Ext.alloc ?_ _ | refine Ext.drewN ?_ _ | refine ext_grow ?_ _ _ | refine Ext.trans ?_ (by assumption)))⟩
  have q2 : decide (Posed turn scale) = true := decide_eq_true h2
  rw [q2] at KP
  by_cases h3 : 0 ≤ i ∧ i ≤ t.w - 1
  case neg =>
    have q3 : decide (0 ≤ i ∧ i ≤ t.w - 1) = false := decide_eq_false h3
    have hR := Lib.hid (show offsetR t turn scale i j = (0, 0, 2) from (if_pos h1).trans (if_neg (fun h => h3 h.2.1)))
    clear h1 q1 h2 q2 h3 KO
    go_enter Try.func26, Try.ntmps26
    go_wp2_with (first | (have _q := E2; go_at_call 61; (with_reducible refine (rwithin_same 61 (.inl rfl) _ _ _ _).mono ?_); rintro e w' ⟨rfl, rfl⟩) | (have _q := E1; go_at_call 60; (with_reducible refine (KP.out _).mono ?_); rintro E w2 ⟨rfl, hb2⟩; have A2 := Lib.hid (show At w2 [(w.heap.size, Obj.cells #[.int .i64 t.w, .int .i64 t.h, .slice ao t.pix.length cap] 43)] from At.ext (show Ext w1 w2 from (by repeat (first | exact Ext.refl _ | assumption | refine Ext.alloc ?_ _ | refine Ext.drewN ?_ _ | refine ext_grow ?_ _ _ | refine Ext.trans ?_ (by assumption)))) A1.out); have E2 := Lib.hid (show Ext w w2 from (by repeat (first | exact Ext.refl _ | assumption | refine Ext.alloc ?_ _ | refine Ext.drewN ?_ _ | refine ext_grow ?_ _ _ | refine Ext.trans ?_ (by assumption)))); obtain ⟨⟨y00, y01, y02⟩, -⟩ := run_3 (At.at A2.out 0 rfl); have yz0 := At.lt A2.out 0 rfl; have yy0 := Nat.lt_succ_of_lt yz0; have yx0 := Nat.lt_succ_of_lt yy0) | (go_at_call 59; (with_reducible refine (KV.out _ (by repeat (first | exact Ext.refl _ | assumption | refine Ext.alloc ?_ _ | refine Ext.drewN ?_ _ | refine ext_grow ?_ _ _ | refine Ext.trans ?_ (by assumption)))).mono ?_); rintro E w1 ⟨rfl, hb1⟩; have A1 := Lib.hid (show At w1 [(w.heap.size, Obj.cells #[.int .i64 t.w, .int .i64 t.h, .slice ao t.pix.length cap] 43)] from At.ext (show Ext _ w1 from hb1) ⟨(by repeat (first | (refine blk_at _ _ ?_; (first | rfl | (simp only [size_one]; done))) | refine (blk_past _ _ (by simp only [size_one]; omega)).trans ?_)), trivial⟩); have E1 := Lib.hid (show Ext w w1 from (by repeat (first | exact Ext.refl _ | assumption | refine Ext.alloc ?_ _ | refine Ext.drewN ?_ _ | refine ext_grow ?_ _ _ | refine Ext.trans ?_ (by assumption)))); obtain ⟨⟨x00, x01, x02⟩, -⟩ := run_3 (At.at A1.out 0 rfl); have xz0 := At.lt A1.out 0 rfl; have xy0 := Nat.lt_succ_of_lt xz0; have xx0 := Nat.lt_succ_of_lt xy0))
    go_ret3
    exact ⟨by rw [hR.out]; rfl, (by repeat (first | exact Ext.refl _ | assumption | refine Ext.alloc ?_ _ | refine Ext.drewN ?_ _ | refine ext_grow ?_ _ _ | refine Ext.trans ?_ (by assumption)))⟩
  have q3 : decide (0 ≤ i ∧ i ≤ t.w - 1) = true := decide_eq_true h3
  by_cases h4 : 0 ≤ j ∧ j ≤ t.h - 1
  case neg =>
    have q4 : decide (0 ≤ j ∧ j ≤ t.h - 1) = false := decide_eq_false h4
    have hR := Lib.hid (show offsetR t turn scale i j = (0, 0, 2) from (if_pos h1).trans (if_neg (fun h => h4 h.2.2)))
    clear h1 q1 h2 q2 h3 h4 KO
    go_enter Try.func26, Try.ntmps26
    go_wp2_with (first | (have _q := E2; go_at_call 61; (with_reducible refine (rwithin_same 61 (.inl rfl) _ _ _ _).mono ?_); rintro e w' ⟨rfl, rfl⟩) | (have _q := E1; go_at_call 60; (with_reducible refine (KP.out _).mono ?_); rintro E w2 ⟨rfl, hb2⟩; have A2 := Lib.hid (show At w2 [(w.heap.size, Obj.cells #[.int .i64 t.w, .int .i64 t.h, .slice ao t.pix.length cap] 43)] from At.ext (show Ext w1 w2 from (by repeat (first | exact Ext.refl _ | assumption | refine Ext.alloc ?_ _ | refine Ext.drewN ?_ _ | refine ext_grow ?_ _ _ | refine Ext.trans ?_ (by assumption)))) A1.out); have E2 := Lib.hid (show Ext w w2 from (by repeat (first | exact Ext.refl _ | assumption | refine Ext.alloc ?_ _ | refine Ext.drewN ?_ _ | refine ext_grow ?_ _ _ | refine Ext.trans ?_ (by assumption)))); obtain ⟨⟨y00, y01, y02⟩, -⟩ := run_3 (At.at A2.out 0 rfl); have yz0 := At.lt A2.out 0 rfl; have yy0 := Nat.lt_succ_of_lt yz0; have yx0 := Nat.lt_succ_of_lt yy0) | (go_at_call 59; (with_reducible refine (KV.out _ (by repeat (first | exact Ext.refl _ | assumption | refine Ext.alloc ?_ _ | refine Ext.drewN ?_ _ | refine ext_grow ?_ _ _ | refine Ext.trans ?_ (by assumption)))).mono ?_); rintro E w1 ⟨rfl, hb1⟩; have A1 := Lib.hid (show At w1 [(w.heap.size, Obj.cells #[.int .i64 t.w, .int .i64 t.h, .slice ao t.pix.length cap] 43)] from At.ext (show Ext _ w1 from hb1) ⟨(by repeat (first | (refine blk_at _ _ ?_; (first | rfl | (simp only [size_one]; done))) | refine (blk_past _ _ (by simp only [size_one]; omega)).trans ?_)), trivial⟩); have E1 := Lib.hid (show Ext w w1 from (by repeat (first | exact Ext.refl _ | assumption | refine Ext.alloc ?_ _ | refine Ext.drewN ?_ _ | refine ext_grow ?_ _ _ | refine Ext.trans ?_ (by assumption)))); obtain ⟨⟨x00, x01, x02⟩, -⟩ := run_3 (At.at A1.out 0 rfl); have xz0 := At.lt A1.out 0 rfl; have xy0 := Nat.lt_succ_of_lt xz0; have xx0 := Nat.lt_succ_of_lt xy0))
    go_ret3
    exact ⟨by rw [hR.out]; rfl, (by repeat (first | exact Ext.refl _ | assumption | refine Ext.alloc ?_ _ | refine Ext.drewN ?_ _ | refine ext_grow ?_ _ _ | refine Ext.trans ?_ (by assumption)))⟩
  have q4 : decide (0 ≤ j ∧ j ≤ t.h - 1) = true := decide_eq_true h4
  replace KO := KO h1 h2 h3 h4
  have hR := Lib.hid (show offsetR t turn scale i j = (offX t turn scale i j, offY t turn scale i j, 0) from (if_pos h1).trans (if_pos ⟨h2, h3, h4⟩))
  clear h1 q1 h2 q2 h3 h4
  obtain ⟨OX, hox⟩ : ∃ x, offX t turn scale i j = x := ⟨_, rfl⟩
  obtain ⟨OY, hoy⟩ : ∃ x, offY t turn scale i j = x := ⟨_, rfl⟩
  have HO := Lib.hid (And.intro hox hoy)
  rw [hox, hoy] at KO
  clear hox hoy
  go_enter Try.func26, Try.ntmps26
  go_wp2_with (first | (have _q := E2; go_at_call 62; (with_reducible refine (KO.out _ (E2.out.trans (by repeat (first | exact Ext.refl _ | assumption | refine Ext.alloc ?_ _ | refine Ext.drewN ?_ _ | refine ext_grow ?_ _ _ | refine Ext.trans ?_ (by assumption))))).mono ?_); rintro E w3 ⟨rfl, hb3⟩) | (have _q := E2; go_at_call 61; (with_reducible refine (rwithin_same 61 (.inl rfl) _ _ _ _).mono ?_); rintro e w' ⟨rfl, rfl⟩) | (have _q := E1; go_at_call 60; (with_reducible refine (KP.out _).mono ?_); rintro E w2 ⟨rfl, hb2⟩; have A2 := Lib.hid (show At w2 [(w.heap.size, Obj.cells #[.int .i64 t.w, .int .i64 t.h, .slice ao t.pix.length cap] 43)] from At.ext (show Ext w1 w2 from (by repeat (first | exact Ext.refl _ | assumption | refine Ext.alloc ?_ _ | refine Ext.drewN ?_ _ | refine ext_grow ?_ _ _ | refine Ext.trans ?_ (by assumption)))) A1.out); have E2 := Lib.hid (show Ext w w2 from (by repeat (first | exact Ext.refl _ | assumption | refine Ext.alloc ?_ _ | refine Ext.drewN ?_ _ | refine ext_grow ?_ _ _ | refine Ext.trans ?_ (by assumption)))); obtain ⟨⟨y00, y01, y02⟩, -⟩ := run_3 (At.at A2.out 0 rfl); have yz0 := At.lt A2.out 0 rfl; have yy0 := Nat.lt_succ_of_lt yz0; have yx0 := Nat.lt_succ_of_lt yy0) | (go_at_call 59; (with_reducible refine (KV.out _ (by repeat (first | exact Ext.refl _ | assumption | refine Ext.alloc ?_ _ | refine Ext.drewN ?_ _ | refine ext_grow ?_ _ _ | refine Ext.trans ?_ (by assumption)))).mono ?_); rintro E w1 ⟨rfl, hb1⟩; have A1 := Lib.hid (show At w1 [(w.heap.size, Obj.cells #[.int .i64 t.w, .int .i64 t.h, .slice ao t.pix.length cap] 43)] from At.ext (show Ext _ w1 from hb1) ⟨(by repeat (first | (refine blk_at _ _ ?_; (first | rfl | (simp only [size_one]; done))) | refine (blk_past _ _ (by simp only [size_one]; omega)).trans ?_)), trivial⟩); have E1 := Lib.hid (show Ext w w1 from (by repeat (first | exact Ext.refl _ | assumption | refine Ext.alloc ?_ _ | refine Ext.drewN ?_ _ | refine ext_grow ?_ _ _ | refine Ext.trans ?_ (by assumption)))); obtain ⟨⟨x00, x01, x02⟩, -⟩ := run_3 (At.at A1.out 0 rfl); have xz0 := At.lt A1.out 0 rfl; have xy0 := Nat.lt_succ_of_lt xz0; have xx0 := Nat.lt_succ_of_lt xy0))
  go_ret3
  exact ⟨by rw [hR.out, HO.out.1, HO.out.2]; rfl, (by repeat (first | exact Ext.refl _ | assumption | refine Ext.alloc ?_ _ | refine Ext.drewN ?_ _ | refine ext_grow ?_ _ _ | refine Ext.trans ?_ (by assumption)))⟩
end Go.Proofs.Ytipkjdfnoonpcaa
