/- The law FindOffsets: the walk. -/
import Derived.Test.YtipkjdfnoonpcaaAliveF
set_option linter.unusedVariables false
set_option linter.unusedSimpArgs false
namespace Go.Proofs.Ytipkjdfnoonpcaa
open Go.RowKit Go.Sort

set_option maxRecDepth 100000
theorem dir3 (turn : Int) (h : 0 ≤ turn ∧ turn ≤ 11) : dirOf ((turn + 3) % 12) = (-(dirOf turn).2, (dirOf turn).1) ∧ dirOf ((turn + 6) % 12) = (-(dirOf turn).1, -(dirOf turn).2) := by
  have h2 : ∀ n : Nat, n < 12 → dirOf (((n : Int) + 3) % 12) = (-(dirOf n).2, (dirOf n).1) ∧ dirOf (((n : Int) + 6) % 12) = (-(dirOf n).1, -(dirOf n).2) := by decide +kernel
  have h3 := h2 turn.toNat (by omega)
  rwa [show ((turn.toNat : Nat) : Int) = turn by omega] at h3
theorem turn_near (N : Int) : (-N + 10) / 20 - -((N + 10) / 20) ≤ 1 ∧ -((N + 10) / 20) - (-N + 10) / 20 ≤ 1 := by omega
set_option maxHeartbeats 4000000 in
theorem c44 (a b : Int) (w : World) (ha : -1000 ≤ a ∧ a ≤ 1000) (hb : -1000 ≤ b ∧ b ≤ 1000) (h1 : a - b ≤ 1) (h2 : b - a ≤ 1) : Calls Try.prog 44 #[.int .i64 a, .int .i64 b] w fun e w' => e = .returned (.bool true) ∧ Ext w w' := by
  have q1 : decide (a - b ≤ 1) = true := decide_eq_true h1
  have q2 : decide (b - a ≤ 1) = true := decide_eq_true h2
  obtain ⟨a1, a2⟩ := ha
  obtain ⟨b1, b2⟩ := hb
  clear h1 h2
  go_enter Try.func44, Try.ntmps44
  go_wp2
  go_ret
  exact ⟨rfl, Ext.refl _⟩
theorem offs {t : Tpl} {turn scale i j : Int} (hp : Posed turn scale) : offX t ((turn + 3) % 12) scale i j - -offY t turn scale i j ≤ 1 ∧ -offY t turn scale i j - offX t ((turn + 3) % 12) scale i j ≤ 1 ∧ offY t ((turn + 3) % 12) scale i j = offX t turn scale i j ∧
    (offX t ((turn + 6) % 12) scale i j - -offX t turn scale i j ≤ 1 ∧ -offX t turn scale i j - offX t ((turn + 6) % 12) scale i j ≤ 1) ∧ (offY t ((turn + 6) % 12) scale i j - -offY t turn scale i j ≤ 1 ∧ -offY t turn scale i j - offY t ((turn + 6) % 12) scale i j ≤ 1) ∧
    offX t turn scale (t.w - 1 - i) (t.h - 1 - j) = offX t ((turn + 6) % 12) scale i j ∧ offY t turn scale (t.w - 1 - i) (t.h - 1 - j) = offY t ((turn + 6) % 12) scale i j := by
  obtain ⟨d3, d6⟩ := dir3 turn hp.1
  unfold offX offY
  rw [d3, d6]
  obtain ⟨a, b⟩ := dirOf turn
  simp only
  rw [show 2 * (t.w - 1 - i) - t.w + 1 = -(2 * i - t.w + 1) by omega, show 2 * (t.h - 1 - j) - t.h + 1 = -(2 * j - t.h + 1) by omega]
  generalize 2 * i - t.w + 1 = u
  generalize 2 * j - t.h + 1 = v
  have e1 : scale * (-b * u - a * v) = -(scale * (b * u + a * v)) := by rw [← Int.mul_neg]; congr 1; rw [Int.neg_mul]; omega
  have e2 : scale * (-a * u - -b * v) = -(scale * (a * u - b * v)) := by rw [← Int.mul_neg]; congr 1; rw [Int.neg_mul, Int.neg_mul]; omega
  have e3 : scale * (-b * u + -a * v) = -(scale * (b * u + a * v)) := by rw [← Int.mul_neg]; congr 1; rw [Int.neg_mul, Int.neg_mul]; omega
  have e4 : scale * (a * -u - b * -v) = -(scale * (a * u - b * v)) := by rw [← Int.mul_neg]; congr 1; rw [Int.mul_neg, Int.mul_neg]; omega
  have e5 : scale * (b * -u + a * -v) = -(scale * (b * u + a * v)) := by rw [← Int.mul_neg]; congr 1; rw [Int.mul_neg, Int.mul_neg]; omega
  have e6 : a * u + -b * v = a * u - b * v := by rw [Int.neg_mul]; omega
  rw [e1, e2, e3, e4, e5, e6]
  obtain ⟨n1, n2⟩ := turn_near (scale * (b * u + a * v))
  obtain ⟨n3, n4⟩ := turn_near (scale * (a * u - b * v))
  exact ⟨n1, n2, rfl, ⟨n3, n4⟩, ⟨n1, n2⟩, rfl, rfl⟩
theorem off_small {t : Tpl} (ht : t.Ok) {turn scale i j : Int} (hp : Posed turn scale) (hi : 0 ≤ i ∧ i ≤ t.w - 1) (hj : 0 ≤ j ∧ j ≤ t.h - 1) : (-1000 ≤ offX t turn scale i j ∧ offX t turn scale i j ≤ 1000) ∧ -1000 ≤ offY t turn scale i j ∧ offY t turn scale i j ≤ 1000 := by
  obtain ⟨⟨⟨t1, t2⟩, ⟨t3, t4⟩, -⟩, -⟩ := ht
  obtain ⟨⟨a1, a2⟩, b1, b2⟩ := dirOf_bd turn
  have h1 := off_bd (a := (dirOf turn).1) (b := (dirOf turn).2) (u := 2 * i - t.w + 1) (v := 2 * j - t.h + 1) ⟨a1, a2⟩ ⟨b1, b2⟩ (by omega) (by omega) hp.2
  have h2 := off_bd (a := (dirOf turn).2) (b := (dirOf turn).1) (u := 2 * i - t.w + 1) (v := 2 * j - t.h + 1) ⟨b1, b2⟩ ⟨a1, a2⟩ (by omega) (by omega) hp.2
  unfold offX offY
  omega
theorem offsetR_yes {t : Tpl} {turn scale i j : Int} (ht : t.Ok) (h : Posed turn scale ∧ (0 ≤ i ∧ i ≤ t.w - 1) ∧ 0 ≤ j ∧ j ≤ t.h - 1) : offsetR t turn scale i j = (offX t turn scale i j, offY t turn scale i j, 0) := by
  unfold offsetR
  rw [if_pos ht, if_pos h]
set_option maxHeartbeats 16000000 in
theorem c16 (t : Tpl) (tv : Value) (turn scale i j : Int) (w : World) (hv : IntsAt w tv t.pix) (hl : t.pix.length * 8 ≤ 140737488351232) :
    Calls Try.prog 16 #[tplVal t tv, .int .i64 turn, .int .i64 scale, .int .i64 i, .int .i64 j] w fun e w' => e = .returned (.bool true) ∧ Ext w w' := by
  have hlm : t.pix.length ≤ maxLen := by unfold maxLen; omega
  have HV := Lib.hid hv
  obtain ⟨ao, cap, rfl, -, -⟩ := hv.form
  have K25 := fun turn scale i j w' (h : IntsAt w' (.slice ao t.pix.length cap) t.pix) => c25 t _ turn scale i j w' h hlm
  have KA := Lib.hid (K25 turn scale i j)
  by_cases h0 : t.Ok ∧ Posed turn scale ∧ (0 ≤ i ∧ i ≤ t.w - 1) ∧ 0 ≤ j ∧ j ≤ t.h - 1
  case neg =>
    obtain ⟨r, hr, hr0⟩ : ∃ r, offsetR t turn scale i j = (0, 0, r) ∧ (r != 0) = true := by
      unfold offsetR
      by_cases h1 : t.Ok
      · rw [if_pos h1, if_neg (fun h2 => h0 ⟨h1, h2⟩)]; exact ⟨2, rfl, rfl⟩
      · rw [if_neg h1]; exact ⟨70, rfl, rfl⟩
    rw [hr] at KA
    clear hr K25 h0
    unfold tplVal at *
    clear hv hl hlm
    go_enter Try.func16, Try.ntmps16
    go_wp2_with (first | (have _q := E1; go_at_call 25; (with_reducible refine (KA.out _ HV_1.out).mono ?_); rintro E w2 ⟨rfl, hb2⟩; have A2 := Lib.hid (show At w2 [(w.heap.size, Obj.cells #[.int .i64 t.w, .int .i64 t.h, .slice ao t.pix.length cap] 43)] from At.ext hb2 A1.out); have E2 := Lib.hid ((E1.out).trans hb2); obtain ⟨⟨c2_0_0, c2_0_1, c2_0_2⟩, f2_0_0, f2_0_1, f2_0_2⟩ := run_3 (At.at A2.out 0 rfl); have s2_0 : w.heap.size < w2.heap.size := At.lt A2.out 0 rfl; (try clear c1_0_0 c1_0_1 c1_0_2 f1_0_0 f1_0_1 f1_0_2 s1_0); have HV_2 := Lib.hid (IntsAt.ext (HV_1.out) hb2)) | (go_at_call 39; (with_reducible refine (c39 _).mono ?_); rintro E w1 ⟨rfl, hb1⟩; have A1 := Lib.hid (show At w1 [(w.heap.size, Obj.cells #[.int .i64 t.w, .int .i64 t.h, .slice ao t.pix.length cap] 43)] from At.ext hb1 (show At (World.alloc w (Obj.cells #[.int .i64 t.w, .int .i64 t.h, .slice ao t.pix.length cap] 43)) [(w.heap.size, Obj.cells #[.int .i64 t.w, .int .i64 t.h, .slice ao t.pix.length cap] 43)] from ⟨(by repeat (first | (refine blk_at _ _ ?_; (first | rfl | (simp only [size_one]; done))) | refine (blk_past _ _ (by simp only [size_one]; omega)).trans ?_)), trivial⟩)); have E1 := Lib.hid (((show Ext w (World.alloc w (Obj.cells #[.int .i64 t.w, .int .i64 t.h, .slice ao t.pix.length cap] 43)) from (by repeat (first | exact Ext.refl _ | assumption | refine Ext.alloc ?_ _ | refine Ext.drewN ?_ _ | refine ext_grow ?_ _ _ | refine Ext.setCell ?_ (by first | exact Nat.le_refl _ | omega | (simp; done) | (simp; omega)) _ | refine Ext.trans ?_ (by assumption))))).trans hb1); obtain ⟨⟨c1_0_0, c1_0_1, c1_0_2⟩, f1_0_0, f1_0_1, f1_0_2⟩ := run_3 (At.at A1.out 0 rfl); have s1_0 : w.heap.size < w1.heap.size := At.lt A1.out 0 rfl; have HV_1 := Lib.hid (IntsAt.ext ((IntsAt.ext HV.out (by repeat (first | exact Ext.refl _ | assumption | refine Ext.alloc ?_ _ | refine Ext.drewN ?_ _ | refine ext_grow ?_ _ _ | refine Ext.setCell ?_ (by first | exact Nat.le_refl _ | omega | (simp; done) | (simp; omega)) _ | refine Ext.trans ?_ (by assumption))))) hb1)))
    go_ret
    exact ⟨rfl, E2.out⟩
  obtain ⟨ht, hp, hi, hj⟩ := h0
  have hp3 : Posed ((turn + 3) % 12) scale := ⟨by omega, hp.2⟩
  have hp6 : Posed ((turn + 6) % 12) scale := ⟨by omega, hp.2⟩
  have KB := Lib.hid (K25 ((turn + 3) % 12) scale i j)
  have KC := Lib.hid (K25 ((turn + 6) % 12) scale i j)
  have KD := Lib.hid (K25 turn scale (t.w - 1 - i) (t.h - 1 - j))
  clear K25
  obtain ⟨n1, n2, n3, ⟨n4, n5⟩, ⟨n6, n7⟩, n8, n9⟩ := offs (t := t) (scale := scale) (i := i) (j := j) hp
  have bA := off_small ht hp hi hj
  have bB := off_small ht hp3 hi hj
  have bC := off_small ht hp6 hi hj
  rw [offsetR_yes ht ⟨hp, hi, hj⟩] at KA
  rw [offsetR_yes ht ⟨hp3, hi, hj⟩] at KB
  rw [offsetR_yes ht ⟨hp6, hi, hj⟩] at KC
  rw [offsetR_yes ht ⟨hp, by omega, by omega⟩, n8, n9] at KD
  rw [n3] at KB bB
  obtain ⟨x, hx⟩ : ∃ x, offX t turn scale i j = x := ⟨_, rfl⟩
  obtain ⟨y, hy⟩ : ∃ y, offY t turn scale i j = y := ⟨_, rfl⟩
  obtain ⟨u, hu⟩ : ∃ u, offX t ((turn + 3) % 12) scale i j = u := ⟨_, rfl⟩
  obtain ⟨p, hpp⟩ : ∃ p, offX t ((turn + 6) % 12) scale i j = p := ⟨_, rfl⟩
  obtain ⟨q, hqq⟩ : ∃ q, offY t ((turn + 6) % 12) scale i j = q := ⟨_, rfl⟩
  rw [hx, hy] at KA bA
  rw [hu, hx] at KB bB
  rw [hpp, hqq] at KC KD bC
  rw [hu, hy] at n1 n2
  rw [hpp, hx] at n4 n5
  rw [hqq, hy] at n6 n7
  obtain ⟨⟨x1, x2⟩, y1, y2⟩ := bA
  have N0 := Lib.hid (fun w' => c44 u (-y) w' bB.1 (by omega) n1 n2)
  have N1 := Lib.hid (fun w' => c44 x x w' ⟨x1, x2⟩ ⟨x1, x2⟩ (by omega) (by omega))
  have N2 := Lib.hid (fun w' => c44 p (-x) w' bC.1 (by omega) n4 n5)
  have N3 := Lib.hid (fun w' => c44 q (-y) w' bC.2 (by omega) n6 n7)
  have r3 : (turn + 3).tmod 12 = (turn + 3) % 12 := Int.tmod_eq_emod_of_nonneg (by have := hp.1; omega)
  have r6 : (turn + 6).tmod 12 = (turn + 6) % 12 := Int.tmod_eq_emod_of_nonneg (by have := hp.1; omega)
  obtain ⟨T3, hT3⟩ : ∃ T3, (turn + 3) % 12 = T3 := ⟨_, rfl⟩
  obtain ⟨T6, hT6⟩ : ∃ T6, (turn + 6) % 12 = T6 := ⟨_, rfl⟩
  have b3 : 0 ≤ T3 ∧ T3 ≤ 11 := by omega
  have b6 : 0 ≤ T6 ∧ T6 ≤ 11 := by omega
  rw [hT3] at KB r3
  rw [hT6] at KC r6
  obtain ⟨⟨p1, p2⟩, -⟩ := hp
  obtain ⟨i1, i2⟩ := hi
  obtain ⟨j1, j2⟩ := hj
  obtain ⟨b31, b32⟩ := b3
  obtain ⟨b61, b62⟩ := b6
  obtain ⟨⟨⟨t1, t2⟩, ⟨t3, t4⟩, -⟩, -⟩ := ht
  have e1 : (p == p) = true := by simp
  have e2 : (q == q) = true := by simp
  clear hT3 hT6 hx hy hu hpp hqq n1 n2 n3 n4 n5 n6 n7 n8 n9 bB bC hp3 hp6
  unfold tplVal at *
  clear hv hl hlm
  go_enter Try.func16, Try.ntmps16
  go_wp2_with (first | (have _q := E8; go_at_call 44; (with_reducible refine (N3.out _).mono ?_); rintro E w9 ⟨rfl, hb9⟩; have A9 := Lib.hid (show At w9 [(w.heap.size, Obj.cells #[.int .i64 t.w, .int .i64 t.h, .slice ao t.pix.length cap] 43)] from At.ext hb9 A8.out); have E9 := Lib.hid ((E8.out).trans hb9); obtain ⟨⟨c9_0_0, c9_0_1, c9_0_2⟩, f9_0_0, f9_0_1, f9_0_2⟩ := run_3 (At.at A9.out 0 rfl); have s9_0 : w.heap.size < w9.heap.size := At.lt A9.out 0 rfl; (try clear c8_0_0 c8_0_1 c8_0_2 f8_0_0 f8_0_1 f8_0_2 s8_0); have HV_9 := Lib.hid (IntsAt.ext (HV_8.out) hb9)) | (have _q := E7; go_at_call 44; (with_reducible refine (N2.out _).mono ?_); rintro E w8 ⟨rfl, hb8⟩; have A8 := Lib.hid (show At w8 [(w.heap.size, Obj.cells #[.int .i64 t.w, .int .i64 t.h, .slice ao t.pix.length cap] 43)] from At.ext hb8 A7.out); have E8 := Lib.hid ((E7.out).trans hb8); obtain ⟨⟨c8_0_0, c8_0_1, c8_0_2⟩, f8_0_0, f8_0_1, f8_0_2⟩ := run_3 (At.at A8.out 0 rfl); have s8_0 : w.heap.size < w8.heap.size := At.lt A8.out 0 rfl; (try clear c7_0_0 c7_0_1 c7_0_2 f7_0_0 f7_0_1 f7_0_2 s7_0); have HV_8 := Lib.hid (IntsAt.ext (HV_7.out) hb8)) | (have _q := E6; go_at_call 44; (with_reducible refine (N1.out _).mono ?_); rintro E w7 ⟨rfl, hb7⟩; have A7 := Lib.hid (show At w7 [(w.heap.size, Obj.cells #[.int .i64 t.w, .int .i64 t.h, .slice ao t.pix.length cap] 43)] from At.ext hb7 A6.out); have E7 := Lib.hid ((E6.out).trans hb7); obtain ⟨⟨c7_0_0, c7_0_1, c7_0_2⟩, f7_0_0, f7_0_1, f7_0_2⟩ := run_3 (At.at A7.out 0 rfl); have s7_0 : w.heap.size < w7.heap.size := At.lt A7.out 0 rfl; (try clear c6_0_0 c6_0_1 c6_0_2 f6_0_0 f6_0_1 f6_0_2 s6_0); have HV_7 := Lib.hid (IntsAt.ext (HV_6.out) hb7)) | (have _q := E5; go_at_call 44; (with_reducible refine (N0.out _).mono ?_); rintro E w6 ⟨rfl, hb6⟩; have A6 := Lib.hid (show At w6 [(w.heap.size, Obj.cells #[.int .i64 t.w, .int .i64 t.h, .slice ao t.pix.length cap] 43)] from At.ext hb6 A5.out); have E6 := Lib.hid ((E5.out).trans hb6); obtain ⟨⟨c6_0_0, c6_0_1, c6_0_2⟩, f6_0_0, f6_0_1, f6_0_2⟩ := run_3 (At.at A6.out 0 rfl); have s6_0 : w.heap.size < w6.heap.size := At.lt A6.out 0 rfl; (try clear c5_0_0 c5_0_1 c5_0_2 f5_0_0 f5_0_1 f5_0_2 s5_0); have HV_6 := Lib.hid (IntsAt.ext (HV_5.out) hb6)) | (have _q := E4; go_at_call 25; (with_reducible refine (KD.out _ HV_4.out).mono ?_); rintro E w5 ⟨rfl, hb5⟩; have A5 := Lib.hid (show At w5 [(w.heap.size, Obj.cells #[.int .i64 t.w, .int .i64 t.h, .slice ao t.pix.length cap] 43)] from At.ext hb5 A4.out); have E5 := Lib.hid ((E4.out).trans hb5); obtain ⟨⟨c5_0_0, c5_0_1, c5_0_2⟩, f5_0_0, f5_0_1, f5_0_2⟩ := run_3 (At.at A5.out 0 rfl); have s5_0 : w.heap.size < w5.heap.size := At.lt A5.out 0 rfl; (try clear c4_0_0 c4_0_1 c4_0_2 f4_0_0 f4_0_1 f4_0_2 s4_0); have HV_5 := Lib.hid (IntsAt.ext (HV_4.out) hb5)) | (have _q := E3; go_at_call 25; (with_reducible refine (KC.out _ HV_3.out).mono ?_); rintro E w4 ⟨rfl, hb4⟩; have A4 := Lib.hid (show At w4 [(w.heap.size, Obj.cells #[.int .i64 t.w, .int .i64 t.h, .slice ao t.pix.length cap] 43)] from At.ext hb4 A3.out); have E4 := Lib.hid ((E3.out).trans hb4); obtain ⟨⟨c4_0_0, c4_0_1, c4_0_2⟩, f4_0_0, f4_0_1, f4_0_2⟩ := run_3 (At.at A4.out 0 rfl); have s4_0 : w.heap.size < w4.heap.size := At.lt A4.out 0 rfl; (try clear c3_0_0 c3_0_1 c3_0_2 f3_0_0 f3_0_1 f3_0_2 s3_0); have HV_4 := Lib.hid (IntsAt.ext (HV_3.out) hb4)) | (have _q := E2; go_at_call 25; (with_reducible refine (KB.out _ HV_2.out).mono ?_); rintro E w3 ⟨rfl, hb3⟩; have A3 := Lib.hid (show At w3 [(w.heap.size, Obj.cells #[.int .i64 t.w, .int .i64 t.h, .slice ao t.pix.length cap] 43)] from At.ext hb3 A2.out); have E3 := Lib.hid ((E2.out).trans hb3); obtain ⟨⟨c3_0_0, c3_0_1, c3_0_2⟩, f3_0_0, f3_0_1, f3_0_2⟩ := run_3 (At.at A3.out 0 rfl); have s3_0 : w.heap.size < w3.heap.size := At.lt A3.out 0 rfl; (try clear c2_0_0 c2_0_1 c2_0_2 f2_0_0 f2_0_1 f2_0_2 s2_0); have HV_3 := Lib.hid (IntsAt.ext (HV_2.out) hb3)) | (have _q := E1; go_at_call 25; (with_reducible refine (KA.out _ HV_1.out).mono ?_); rintro E w2 ⟨rfl, hb2⟩; have A2 := Lib.hid (show At w2 [(w.heap.size, Obj.cells #[.int .i64 t.w, .int .i64 t.h, .slice ao t.pix.length cap] 43)] from At.ext hb2 A1.out); have E2 := Lib.hid ((E1.out).trans hb2); obtain ⟨⟨c2_0_0, c2_0_1, c2_0_2⟩, f2_0_0, f2_0_1, f2_0_2⟩ := run_3 (At.at A2.out 0 rfl); have s2_0 : w.heap.size < w2.heap.size := At.lt A2.out 0 rfl; (try clear c1_0_0 c1_0_1 c1_0_2 f1_0_0 f1_0_1 f1_0_2 s1_0); have HV_2 := Lib.hid (IntsAt.ext (HV_1.out) hb2)) | (go_at_call 39; (with_reducible refine (c39 _).mono ?_); rintro E w1 ⟨rfl, hb1⟩; have A1 := Lib.hid (show At w1 [(w.heap.size, Obj.cells #[.int .i64 t.w, .int .i64 t.h, .slice ao t.pix.length cap] 43)] from At.ext hb1 (show At (World.alloc w (Obj.cells #[.int .i64 t.w, .int .i64 t.h, .slice ao t.pix.length cap] 43)) [(w.heap.size, Obj.cells #[.int .i64 t.w, .int .i64 t.h, .slice ao t.pix.length cap] 43)] from ⟨(by repeat (first | (refine blk_at _ _ ?_; (first | rfl | (simp only [size_one]; done))) | refine (blk_past _ _ (by simp only [size_one]; omega)).trans ?_)), trivial⟩)); have E1 := Lib.hid (((show Ext w (World.alloc w (Obj.cells #[.int .i64 t.w, .int .i64 t.h, .slice ao t.pix.length cap] 43)) from (by repeat (first | exact Ext.refl _ | assumption | refine Ext.alloc ?_ _ | refine Ext.drewN ?_ _ | refine ext_grow ?_ _ _ | refine Ext.setCell ?_ (by first | exact Nat.le_refl _ | omega | (simp; done) | (simp; omega)) _ | refine Ext.trans ?_ (by assumption))))).trans hb1); obtain ⟨⟨c1_0_0, c1_0_1, c1_0_2⟩, f1_0_0, f1_0_1, f1_0_2⟩ := run_3 (At.at A1.out 0 rfl); have s1_0 : w.heap.size < w1.heap.size := At.lt A1.out 0 rfl; have HV_1 := Lib.hid (IntsAt.ext ((IntsAt.ext HV.out (by repeat (first | exact Ext.refl _ | assumption | refine Ext.alloc ?_ _ | refine Ext.drewN ?_ _ | refine ext_grow ?_ _ _ | refine Ext.setCell ?_ (by first | exact Nat.le_refl _ | omega | (simp; done) | (simp; omega)) _ | refine Ext.trans ?_ (by assumption))))) hb1)))
  go_ret
  exact ⟨rfl, E9.out⟩
theorem g16 (t : Tpl) (tv : Value) (turn scale i j : Int) (w : World) (hv : IntsAt w tv t.pix) (hl : t.pix.length * 8 ≤ 140737488351232) (_h1 : (Lit.int .i64 turn).wf = true) (_h2 : (Lit.int .i64 scale).wf = true) (_h3 : (Lit.int .i64 i).wf = true) (_h4 : (Lit.int .i64 j).wf = true) :
    Calls Try.prog 16 #[tplVal t tv, .int .i64 turn, .int .i64 scale, .int .i64 i, .int .i64 j] w fun e w' => e = .returned (.bool true) ∧ Ext w w' := c16 t tv turn scale i j w hv hl
end Go.Proofs.Ytipkjdfnoonpcaa
