/- The modules of a camera image: the reference's. -/
import Derived.Test.YtlnofbdhamingaaSumFn
set_option linter.unusedVariables false
set_option linter.unusedSimpArgs false
namespace Go.Proofs.Ytlnofbdhamingaa
open Go.RowKit Go.Sort

set_option maxRecDepth 100000 in
set_option maxHeartbeats 8000000 in
theorem r_Seen (W H S : Nat) (pix : List Int) (v : Value) (c : Con) (w : World) (hv : IntsAt w v pix) (hS : 1 ≤ S ∧ S ≤ 2) (hW : 1 ≤ W ∧ W * S ≤ 16) (hH : 1 ≤ H ∧ H * S ≤ 16) (hl : pix.length = H * S * (W * S)) (hp : allIn 0 255 pix) (hc : c.Ok) :
    Calls Try.prog 28 #[imgVal ⟨(W * S : Nat), (H * S : Nat), pix⟩ v, .int .i64 (S : Int), conVal c] w (OwnBytes (seenR pix W H S c.lo c.hi) w) := by
  obtain ⟨i0, hi, hz0, hz1, hz2⟩ := info_parts3 info_byte
  obtain ⟨lo, hi'⟩ := c
  have q1 : ((W * S : Nat) : Int) / (S : Int) = W := by rw [Int.natCast_mul]; exact Int.mul_ediv_cancel _ (by omega)
  have q2 : ((H * S : Nat) : Int) / (S : Int) = H := by rw [Int.natCast_mul]; exact Int.mul_ediv_cancel _ (by omega)
  have hWl : W ≤ 16 := by obtain ⟨h1, h2⟩ := hW; have := Nat.le_mul_of_pos_right W (show 0 < S by omega); omega
  have hHl : H ≤ 16 := by obtain ⟨h1, h2⟩ := hH; have := Nat.le_mul_of_pos_right H (show 0 < S by omega); omega
  have hWH : W * H ≤ 256 := Nat.mul_le_mul hWl hHl
  have HG0 : Hid (∀ i j, i < W → j < H → (seenR pix W H S lo hi').getD (j * W + i) 0 = colR lo hi' S (sum2 (pixAt pix (W * S)) (i * S) (j * S) S)) := Lib.hid (fun i j hi hj => by
    have h : j * W + i < W * H := by
      have h1 : (j + 1) * W ≤ H * W := Nat.mul_le_mul_right _ hj
      rw [Nat.succ_mul] at h1
      rw [Nat.mul_comm W H]
      omega
    rw [seenR_get h, psum_full pix hS.1 hi hj]
    rfl)
  have HSB : Hid (∀ i j, i < W → j < H → 0 ≤ sum2 (pixAt pix (W * S)) (i * S) (j * S) S ∧ sum2 (pixAt pix (W * S)) (i * S) (j * S) S ≤ 1020) := Lib.hid (fun i j hi hj => by
    have by1 : j * S + S ≤ H * S := by rw [← Nat.succ_mul]; exact Nat.mul_le_mul_right _ hj
    have bx1 : i * S + S ≤ W * S := by rw [← Nat.succ_mul]; exact Nat.mul_le_mul_right _ hi
    have h := sumN_bd (f := fun b => sumN (fun a => pixAt pix (W * S) (i * S + a) (j * S + b)) S) (b := 510) S (fun b hb => by
      have h := sumN_bd (f := fun a => pixAt pix (W * S) (i * S + a) (j * S + b)) (b := 255) S (fun a ha => pixAt_bd hp hl (by omega) (by omega))
      omega)
    unfold sum2
    omega)
  have K : Hid (∀ i j x0 y0 x1 y1 : Nat, i < W → j < H → i * S = x0 → j * S = y0 → x0 + S = x1 → y0 + S = y1 → ∀ w', Ext w w' → Calls Try.prog 34 #[imgVal ⟨(W * S : Nat), (H * S : Nat), pix⟩ v, .int .i64 (x0 : Int), .int .i64 (y0 : Int), .int .i64 (x1 : Int), .int .i64 (y1 : Int)] w'
      fun e w'' => e = .returned (.int .i64 (sum2 (pixAt pix (W * S)) x0 y0 S)) ∧ Ext w' w'') := Lib.hid (fun i j x0 y0 x1 y1 hi hj e1 e2 e3 e4 w' h => by
    have by1 : j * S + S ≤ H * S := by rw [← Nat.succ_mul]; exact Nat.mul_le_mul_right _ hj
    have bx1 : i * S + S ≤ W * S := by rw [← Nat.succ_mul]; exact Nat.mul_le_mul_right _ hi
    have hw1 : 1 ≤ W * S := Nat.mul_pos hW.1 hS.1
    have hh1 : 1 ≤ H * S := Nat.mul_pos hH.1 hS.1
    exact r_Sum (W * S) (H * S) S x0 y0 x1 y1 pix v w' (hv.ext h) hS ⟨hw1, hW.2⟩ ⟨hh1, hH.2⟩ hl hp e3.symm e4.symm (by omega) (by omega))
  have HSL := Lib.hid (seenR_length pix W H S lo hi')
  obtain ⟨ww, hww⟩ : ∃ ww, W * S = ww := ⟨_, rfl⟩
  obtain ⟨hh, hhh⟩ : ∃ hh, H * S = hh := ⟨_, rfl⟩
  simp only [hww, hhh] at q1 q2 HG0 HSB K hW hH ⊢
  have q3 : (ww : Int).tdiv (S : Int) = W := by rw [← q1]; exact Int.tdiv_eq_ediv_of_nonneg (by omega)
  have q4 : (hh : Int).tdiv (S : Int) = H := by rw [← q2]; exact Int.tdiv_eq_ediv_of_nonneg (by omega)
  have HCB : Hid (0 ≤ lo * (S : Int) ∧ lo * (S : Int) ≤ 510 ∧ 0 ≤ lo * (S : Int) * (S : Int) ∧ lo * (S : Int) * (S : Int) ≤ 1020 ∧ 0 ≤ hi' * (S : Int) ∧ hi' * (S : Int) ≤ 510 ∧ 0 ≤ hi' * (S : Int) * (S : Int) ∧ hi' * (S : Int) * (S : Int) ≤ 1020) := Lib.hid (by
    obtain ⟨h1, h2, h3⟩ := hc
    dsimp only at h1 h2 h3
    rcases (show S = 1 ∨ S = 2 by omega) with rfl | rfl
    · simp only [Int.natCast_one, Int.mul_one]; omega
    · have : ((2 : Nat) : Int) = 2 := rfl
      rw [this]; omega)
  have HWS := Lib.hid (And.intro hww hhh)
  obtain ⟨sn, hsn⟩ : ∃ sn, seenR pix W H S lo hi' = sn := ⟨_, rfl⟩
  rw [hsn] at HG0 HSL ⊢
  obtain ⟨ao, cap, rfl, -, -⟩ := hv.form
  unfold imgVal conVal at *
  dsimp only at K ⊢
  obtain ⟨g2, hg2⟩ : ∃ g2, pixAt pix ww = g2 := ⟨_, rfl⟩
  simp only [hg2] at HG0 HSB K
  clear hv hp hc hww hhh hl hsn q1 q2 hg2
  obtain ⟨w0, hw0⟩ : ∃ w0, (w.alloc (.cells #[.int .i64 (ww : Int), .int .i64 (hh : Int), .slice ao pix.length cap] 25)).alloc (.cells #[.int .i64 lo, .int .i64 hi'] 27) = w0 := ⟨_, rfl⟩
  have HA0 := Lib.hid (show At w0 (boxes w.heap.size ww hh (.slice ao pix.length cap) lo hi') from hw0 ▸ ⟨heap_alloc2_old w _ _, heap_alloc2_new w _ _, trivial⟩)
  have HE0 := Lib.hid (show Ext w w0 from hw0 ▸ ((Ext.refl w).alloc _).alloc _)
  have HZ0 := Lib.hid (show w0.heap.size = w.heap.size + 1 + 1 from hw0 ▸ (Array.size_push _).trans (congrArg (· + 1) (Array.size_push _)))
  have HW0 := Lib.hid hw0
  clear hw0
  go_enter Try.func28, Try.ntmps28
  go_wp2
  rw [HW0.out]
  go_loopw [7, 8, 9, 10, 11] (fun o jv _ _ _ wr => ∃ j : Nat, j ≤ H ∧ jv = .int .i64 (j : Int) ∧ Ext w0 wr ∧ Hid (wr.ownsRow w0.heap.size 5 1 o (j * W) (bytesL (sn.take (j * W))))) (fun _ jv _ _ _ _ => H - (intOf jv).toNat)
  case atStart => exact ⟨0, Nat.zero_le _, rfl, Ext.refl _, Lib.hid (by rw [Nat.zero_mul]; exact ⟨rfl, .inl ⟨rfl, rfl⟩⟩)⟩
  case round =>
    obtain ⟨j, hj, rfl, hE, hO⟩ := hrel
    obtain ⟨⟨c0, c1, c2⟩, -⟩ := run_3 (At.at (At.ext hE HA0.out) 0 rfl)
    by_cases hjH : j < H
    · obtain ⟨y0, hy0⟩ : ∃ y0, j * S = y0 := ⟨_, rfl⟩
      obtain ⟨r, hr⟩ : ∃ r, j * W = r := ⟨_, rfl⟩
      have hrb : r + W ≤ 256 := by
        have h1 : (j + 1) * W ≤ H * W := Nat.mul_le_mul_right _ hjH
        rw [Nat.succ_mul] at h1
        rw [Nat.mul_comm W H] at hWH
        omega
      have hyb : y0 ≤ 32 := by rw [← hy0]; exact Nat.mul_le_mul (show j ≤ 16 by omega) hS.2
      have m1 : (j : Int) * (S : Int) = (y0 : Int) := by rw [← hy0]; exact (Int.natCast_mul j S).symm
      obtain ⟨y1, hy1⟩ : ∃ y1, y0 + S = y1 := ⟨_, rfl⟩
      have m2 : (y0 : Int) + (S : Int) = (y1 : Int) := by omega
      rw [hr] at hO
      have HR := Lib.hid hr
      have HY := Lib.hid (And.intro hy0 hy1)
      clear hr hy0 hy1
      go_wp2
      clear c0 c1 c2
      go_loopw [7, 9, 10, 11] (fun o iv _ _ wr => ∃ i : Nat, i ≤ W ∧ iv = .int .i64 (i : Int) ∧ Ext w0 wr ∧ Hid (wr.ownsRow w0.heap.size 5 1 o (r + i) (bytesL (sn.take (r + i))))) (fun _ iv _ _ _ => W - (intOf iv).toNat)
      case atStart => exact ⟨0, Nat.zero_le _, rfl, hE, hO⟩
      case round =>
        clear hE hO
        obtain ⟨i, hii, rfl, hE, hO⟩ := hrel
        obtain ⟨⟨c0, c1, c2⟩, -⟩ := run_3 (At.at (At.ext hE HA0.out) 0 rfl)
        obtain ⟨⟨d0, d1⟩, -⟩ := run_2 (At.at (At.ext hE HA0.out) 1 rfl)
        by_cases hiW : i < W
        · obtain ⟨x0, hx0⟩ : ∃ x0, i * S = x0 := ⟨_, rfl⟩
          have hxb : x0 ≤ 32 := by rw [← hx0]; exact Nat.mul_le_mul (show i ≤ 16 by omega) hS.2
          have m3 : (i : Int) * (S : Int) = (x0 : Int) := by rw [← hx0]; exact (Int.natCast_mul i S).symm
          obtain ⟨x1, hx1⟩ : ∃ x1, x0 + S = x1 := ⟨_, rfl⟩
          have m4 : (x0 : Int) + (S : Int) = (x1 : Int) := by omega
          have KK := Lib.hid (fun (w' : World) (h : Ext w0 w') => K.out i j x0 y0 x1 y1 hiW hjH hx0 HY.out.1 hx1 HY.out.2 w' (HE0.out.trans h))
          have HG1 := HG0.out i j hiW hjH
          have HB1 := HSB.out i j hiW hjH
          rw [hx0, HY.out.1] at HG1 HB1
          rw [HR.out] at HG1
          obtain ⟨x, hxx⟩ : ∃ x, sum2 g2 x0 y0 S = x := ⟨_, rfl⟩
          rw [hxx] at HG1 HB1
          simp only [hxx] at KK
          obtain ⟨t, ht⟩ : ∃ t, r + i = t := ⟨_, rfl⟩
          have htb : t < 256 := by omega
          have htl : t < sn.length := by
            rw [HSL.out]
            have h1 : (j + 1) * W ≤ H * W := Nat.mul_le_mul_right _ hjH
            rw [Nat.succ_mul] at h1
            have h2 := HR.out
            rw [Nat.mul_comm W H]
            omega
          rw [ht] at hO HG1
          have HTK := Lib.hid (show bytesL (sn.take (t + 1)) = bytesL (sn.take t) ++ [.int .u8 (sn.getD t 0 : Nat)] by
            rw [List.take_succ_eq_append_getElem htl, List.getD_eq_getElem?_getD, List.getElem?_eq_getElem htl]
            simp only [bytesL, List.map_append, List.map_cons, List.map_nil, Option.getD_some])
          have HT := Lib.hid ht
          obtain ⟨n1, n2, n3, n4, n5, n6, n7, n8⟩ := HCB.out
          obtain ⟨p1, hp1⟩ : ∃ p, lo * (S : Int) = p := ⟨_, rfl⟩
          obtain ⟨p3, hp3⟩ : ∃ p, hi' * (S : Int) = p := ⟨_, rfl⟩
          unfold colR at HG1
          rw [hp1] at n1 n2 n3 n4 HG1
          rw [hp3] at n5 n6 n7 n8 HG1
          obtain ⟨p2, hp2⟩ : ∃ p, p1 * (S : Int) = p := ⟨_, rfl⟩
          obtain ⟨p4, hp4⟩ : ∃ p, p3 * (S : Int) = p := ⟨_, rfl⟩
          rw [hp2] at n3 n4 HG1
          rw [hp4] at n7 n8 HG1
          have HG := Lib.hid HG1
          have HX := Lib.hid (And.intro hx0 (And.intro hx1 hxx))
          clear HG1 hx0 hx1 hxx ht htl
          by_cases h1 : x ≤ p2
          · have HV1 := Lib.hid (show sn.getD t 0 = 1 by rw [HG.out, if_pos h1])
            go_wp2_with (first
              | (go_at_call 34; (with_reducible refine (KK.out _ hE).mono ?_); rintro E w2 ⟨rfl, h2⟩; have hE2 := hE.trans h2; have hO2 := owns_ext hO.out h2; have e0 := h2.get c0; have e1 := h2.get c1; have e2 := h2.get c2; have g0 := h2.get d0; have g1 := h2.get d1)
              | (at_builtin; refine wpList_append_sl rfl _ _ 22 rfl w0.heap.size 5 i0 (.int .u8 0) 1 1 Try.underlying22 hi hz0 hz1 hz2 rfl (by omega) u7 t (bytesL (sn.take t)) rfl (owns_ext hO2 ((Ext.refl _).alloc _)) _ 1 [.int .u8 1] rfl (SlAt.of_owns (owns_lit w2 [.int .u8 1] 5 1 1 0 (Nat.zero_le _) (by unfold maxLen; omega) rfl)) (bytes_oneCell' [1]) (by unfold maxLen; omega) (by omega) (hE2.alloc _).size ?_; intro v' w' ho hg))
            exact ⟨⟨i + 1, by omega, by go_num, (hE2.alloc _).grown hg (fun g hk => (owns_block hO2 g hk).1), Lib.hid (by
              rw [← Nat.add_assoc, HT.out, HTK.out, HV1.out]
              exact ho)⟩, by simp [intOf]; omega⟩
          · by_cases h2 : x < p4
            · have HV1 := Lib.hid (show sn.getD t 0 = 2 by rw [HG.out, if_neg h1, if_pos h2])
              go_wp2_with (first
                | (go_at_call 34; (with_reducible refine (KK.out _ hE).mono ?_); rintro E w2 ⟨rfl, h2⟩; have hE2 := hE.trans h2; have hO2 := owns_ext hO.out h2; have e0 := h2.get c0; have e1 := h2.get c1; have e2 := h2.get c2; have g0 := h2.get d0; have g1 := h2.get d1)
                | (at_builtin; refine wpList_append_sl rfl _ _ 22 rfl w0.heap.size 5 i0 (.int .u8 0) 1 1 Try.underlying22 hi hz0 hz1 hz2 rfl (by omega) u7 t (bytesL (sn.take t)) rfl (owns_ext hO2 ((Ext.refl _).alloc _)) _ 1 [.int .u8 2] rfl (SlAt.of_owns (owns_lit w2 [.int .u8 2] 5 1 1 0 (Nat.zero_le _) (by unfold maxLen; omega) rfl)) (bytes_oneCell' [2]) (by unfold maxLen; omega) (by omega) (hE2.alloc _).size ?_; intro v' w' ho hg))
              exact ⟨⟨i + 1, by omega, by go_num, (hE2.alloc _).grown hg (fun g hk => (owns_block hO2 g hk).1), Lib.hid (by
                rw [← Nat.add_assoc, HT.out, HTK.out, HV1.out]
                exact ho)⟩, by simp [intOf]; omega⟩
            · have HV1 := Lib.hid (show sn.getD t 0 = 0 by rw [HG.out, if_neg h1, if_neg h2])
              go_wp2_with (first
                | (go_at_call 34; (with_reducible refine (KK.out _ hE).mono ?_); rintro E w2 ⟨rfl, h2⟩; have hE2 := hE.trans h2; have hO2 := owns_ext hO.out h2; have e0 := h2.get c0; have e1 := h2.get c1; have e2 := h2.get c2; have g0 := h2.get d0; have g1 := h2.get d1)
                | (at_builtin; refine wpList_append_sl rfl _ _ 22 rfl w0.heap.size 5 i0 (.int .u8 0) 1 1 Try.underlying22 hi hz0 hz1 hz2 rfl (by omega) u7 t (bytesL (sn.take t)) rfl (owns_ext hO2 ((Ext.refl _).alloc _)) _ 1 [.int .u8 0] rfl (SlAt.of_owns (owns_lit w2 [.int .u8 0] 5 1 1 0 (Nat.zero_le _) (by unfold maxLen; omega) rfl)) (bytes_oneCell' [0]) (by unfold maxLen; omega) (by omega) (hE2.alloc _).size ?_; intro v' w' ho hg))
              exact ⟨⟨i + 1, by omega, by go_num, (hE2.alloc _).grown hg (fun g hk => (owns_block hO2 g hk).1), Lib.hid (by
                rw [← Nat.add_assoc, HT.out, HTK.out, HV1.out]
                exact ho)⟩, by simp [intOf]; omega⟩
        · obtain rfl : i = W := by omega
          have HR2 := Lib.hid (show r + i = (j + 1) * i by rw [Nat.succ_mul, HR.out])
          go_wp2
          exact ⟨⟨j + 1, by omega, by go_num, hE, by rw [← HR2.out]; exact hO⟩, by simp [intOf]; omega⟩
    · obtain rfl : j = H := by omega
      have HF := Lib.hid (show j * W = sn.length by rw [HSL.out, Nat.mul_comm])
      go_wp2
      go_ret
      refine ⟨_, rfl, ?_, HE0.out.trans hE⟩
      have h := hO.out
      rw [HF.out, List.take_length] at h
      exact owns_base h (by have := HZ0.out; omega)
end Go.Proofs.Ytlnofbdhamingaa
