/- Joined from the parts SumFn, SeenFn, ModFn. -/
import Derived.Test.YtlnofbdhamingaaDoorGSee
import Derived.Test.YtlnofbdhamingaaDoorGDraw
set_option linter.unusedVariables false
set_option linter.unusedSimpArgs false
/- Sums of pixels: the reference's. -/
namespace Go.Proofs.YtlnofbdhamingaaDoor
open Go.RowKit Go.Sort

/-- a pixel by its place -/
def pixAt (pix : List Int) (ww : Nat) (x y : Nat) : Int := pix.getD (y * ww + x) 0
theorem pixAt_bd {pix : List Int} {ww hh x y : Nat} (hp : allIn 0 255 pix) (hl : pix.length = hh * ww) (hx : x < ww) (hy : y < hh) : 0 ≤ pixAt pix ww x y ∧ pixAt pix ww x y ≤ 255 := by
  unfold pixAt
  have h1 : (y + 1) * ww ≤ hh * ww := Nat.mul_le_mul_right _ hy
  rw [Nat.succ_mul] at h1
  rw [List.getD_eq_getElem?_getD, List.getElem?_eq_getElem (by omega)]
  exact hp _ (List.getElem_mem _)
theorem img_at (pix : List Int) (ww hh x y : Nat) : Img.at ⟨(ww : Int), (hh : Int), pix⟩ (x : Int) (y : Int) = pixAt pix ww x y := by
  unfold Img.at pixAt
  congr 1
theorem sumN_succ (f : Nat → Int) (k : Nat) : sumN f (k + 1) = sumN f k + f k := rfl
set_option maxRecDepth 100000 in
set_option maxHeartbeats 8000000 in
theorem r_Sum (ww hh S x0 y0 x1 y1 : Nat) (pix : List Int) (v : Value) (w : World) (hv : IntsAt w v pix) (hS : 1 ≤ S ∧ S ≤ 2) (hW : 1 ≤ ww ∧ ww ≤ 16) (hH : 1 ≤ hh ∧ hh ≤ 16) (hl : pix.length = hh * ww) (hp : allIn 0 255 pix)
    (hx1 : x1 = x0 + S) (hy1 : y1 = y0 + S) (hx : x1 ≤ ww) (hy : y1 ≤ hh) :
    Calls Tryd.prog 104 #[imgVal ⟨(ww : Int), (hh : Int), pix⟩ v, .int .i64 (x0 : Int), .int .i64 (y0 : Int), .int .i64 (x1 : Int), .int .i64 (y1 : Int)] w
      fun e w' => e = .returned (.int .i64 (sum2 (pixAt pix ww) x0 y0 S)) ∧ Ext w w' := by
  have hsz : (⟨(ww : Int), (hh : Int), pix⟩ : Img).Sized := ⟨by dsimp only; omega, by dsimp only; omega, by dsimp only; rw [hl, Int.natCast_mul, Int.mul_comm]⟩
  have K := Lib.hid (fun (x y : Nat) (h1 : x < ww) (h2 : y < hh) (w' : World) (h : Ext w w') => by
    have := r_At ⟨(ww : Int), (hh : Int), pix⟩ v (x : Int) (y : Int) w' hsz ⟨by dsimp only; omega, by dsimp only; omega⟩ (hv.ext h)
    rw [img_at] at this
    exact this)
  have HB := Lib.hid (fun (x y : Nat) (h1 : x < ww) (h2 : y < hh) => pixAt_bd (x := x) (y := y) hp hl h1 h2)
  obtain ⟨f, hf⟩ : ∃ f, pixAt pix ww = f := ⟨_, rfl⟩
  simp only [hf] at K HB ⊢
  obtain ⟨ao, cap, rfl, -, -⟩ := hv.form
  unfold imgVal at K ⊢
  dsimp only at K ⊢
  have HE := Lib.hid (And.intro hx1 hy1)
  have HRB : Hid (∀ j, j < S → ∀ n, n ≤ S → 0 ≤ sumN (fun i => f (x0 + i) (y0 + j)) n ∧ sumN (fun i => f (x0 + i) (y0 + j)) n ≤ 510) := Lib.hid (fun j hj n hn => by
    have h := sumN_bd (f := fun i => f (x0 + i) (y0 + j)) (b := 255) n (fun i hi => HB.out (x0 + i) (y0 + j) (by omega) (by omega))
    omega)
  have HRC : Hid (∀ n, n ≤ S → 0 ≤ sumN (fun j => sumN (fun i => f (x0 + i) (y0 + j)) S) n ∧ sumN (fun j => sumN (fun i => f (x0 + i) (y0 + j)) S) n ≤ 1020) := Lib.hid (fun n hn => by
    have h := sumN_bd (f := fun j => sumN (fun i => f (x0 + i) (y0 + j)) S) (b := 510) n (fun j hj => HRB.out j (by omega) S (Nat.le_refl _))
    omega)
  clear hsz hv hl hp hf hx1 hy1
  obtain ⟨w0, hw0⟩ : ∃ w0, w.alloc (.cells #[.int .i64 (ww : Int), .int .i64 (hh : Int), .slice ao pix.length cap] 44) = w0 := ⟨_, rfl⟩
  have HA0 := Lib.hid (show At w0 [(w.heap.size, .cells #[.int .i64 (ww : Int), .int .i64 (hh : Int), .slice ao pix.length cap] 44)] from hw0 ▸ ⟨one_first w _, trivial⟩)
  have HE0 := Lib.hid (show Ext w w0 from hw0 ▸ (Ext.refl w).alloc _)
  have HW0 := Lib.hid hw0
  clear hw0
  go_enter Tryd.func104, Tryd.ntmps104
  go_wp2
  rw [HW0.out]
  go_loopw [11, 12, 13] (fun s y _ wr => ∃ j : Nat, j ≤ S ∧ y = .int .i64 ((y0 + j : Nat) : Int) ∧ Ext w0 wr ∧ s = .int .i64 (sumN (fun j => sumN (fun i => f (x0 + i) (y0 + j)) S) j)) (fun _ y _ _ => y1 - (intOf y).toNat)
  case atStart => exact ⟨0, Nat.zero_le _, rfl, Ext.refl _, rfl⟩
  case round =>
    obtain ⟨j, hj, rfl, hE, rfl⟩ := hrel
    obtain ⟨y, hyy⟩ : ∃ y, y0 + j = y := ⟨_, rfl⟩
    have HY := Lib.hid hyy
    have hc := HRC.out j hj
    obtain ⟨s, hs⟩ : ∃ s, sumN (fun j => sumN (fun i => f (x0 + i) (y0 + j)) S) j = s := ⟨_, rfl⟩
    rw [hs] at hc ⊢
    rw [hyy]
    have HS := Lib.hid hs
    clear hyy hs
    obtain ⟨hx1, hy1⟩ := HE.out
    by_cases hjS : j < S
    · have hyl : y < y1 := by have := HY.out; omega
      clear hx1 hy1
      go_wp2
      go_loopw [11, 13] (fun s' x wr => ∃ i : Nat, i ≤ S ∧ x = .int .i64 ((x0 + i : Nat) : Int) ∧ Ext w0 wr ∧ s' = .int .i64 (s + sumN (fun i => f (x0 + i) (y0 + j)) i)) (fun _ x _ => x1 - (intOf x).toNat)
      case atStart => exact ⟨0, Nat.zero_le _, rfl, hE, by show _ = Value.int .i64 (s + 0); rw [Int.add_zero]⟩
      case round =>
        clear hE
        obtain ⟨i, hi, rfl, hE, rfl⟩ := hrel
        obtain ⟨x, hxx⟩ : ∃ x, x0 + i = x := ⟨_, rfl⟩
        have HX := Lib.hid hxx
        have hb := HRB.out j hjS i hi
        obtain ⟨p, hp⟩ : ∃ p, sumN (fun i => f (x0 + i) (y0 + j)) i = p := ⟨_, rfl⟩
        rw [hp] at hb ⊢
        have HT := Lib.hid (show sumN (fun i => f (x0 + i) (y0 + j)) (i + 1) = p + f x y by
          rw [sumN_succ, hp]
          show p + f (x0 + i) (y0 + j) = _
          rw [hxx, HY.out])
        rw [hxx]
        have HP := Lib.hid hp
        clear hxx hp
        obtain ⟨hx1, -⟩ := HE.out
        by_cases hiS : i < S
        · have hxl : x < x1 := by have := HX.out; omega
          clear hx1
          obtain ⟨⟨c0, c1, c2⟩, -⟩ := run_3 (At.at (At.ext hE HA0.out) 0 rfl)
          have KK := Lib.hid (K.out x y (by omega) (by omega) wr (HE0.out.trans hE))
          have hbd := HB.out x y (by omega) (by omega)
          obtain ⟨z, hz⟩ : ∃ z, f x y = z := ⟨_, rfl⟩
          rw [hz] at KK hbd HT
          have HZ := Lib.hid hz
          clear hz
          go_wp2_with (go_at_call 111; (with_reducible refine KK.out.mono ?_); rintro E w2 ⟨rfl, h2⟩)
          exact ⟨⟨i + 1, by omega, by rw [← Nat.add_assoc, HX.out]; go_num, hE.trans h2, by rw [HT.out, Int.add_assoc]⟩, by simp [intOf]; omega⟩
        · obtain rfl : i = S := by omega
          have hxl : x = x1 := by have := HX.out; omega
          subst hxl
          clear hx1
          go_wp2
          exact ⟨⟨j + 1, by omega, by rw [← Nat.add_assoc, HY.out]; go_num, hE, by rw [sumN_succ, HS.out, HP.out]⟩, by simp [intOf]; omega⟩
    · obtain rfl : j = S := by omega
      have hyl : y = y1 := by have := HY.out; omega
      subst hyl
      clear hx1 hy1
      go_wp2
      go_ret
      exact ⟨by rw [← HS.out]; rfl, HE0.out.trans hE⟩
end Go.Proofs.YtlnofbdhamingaaDoor

/- The modules of a camera image: the reference's. -/
namespace Go.Proofs.YtlnofbdhamingaaDoor
open Go.RowKit Go.Sort

set_option maxRecDepth 100000 in
set_option maxHeartbeats 8000000 in
theorem r_Seen (W H S : Nat) (pix : List Int) (v : Value) (c : Con) (w : World) (hv : IntsAt w v pix) (hS : 1 ≤ S ∧ S ≤ 2) (hW : 1 ≤ W ∧ W * S ≤ 16) (hH : 1 ≤ H ∧ H * S ≤ 16) (hl : pix.length = H * S * (W * S)) (hp : allIn 0 255 pix) (hc : c.Ok) :
    Calls Tryd.prog 69 #[imgVal ⟨(W * S : Nat), (H * S : Nat), pix⟩ v, .int .i64 (S : Int), conVal c] w (OwnBytes (seenR pix W H S c.lo c.hi) w) := by
  obtain ⟨i0, hi, hz0, hz1, hz2⟩ := info_parts3 info_byte
  obtain ⟨lo, hi'⟩ := c
  have q1 : ((W * S : Nat) : Int) / (S : Int) = W := by rw [Int.natCast_mul]; exact Int.mul_ediv_cancel _ (by omega)
  have q2 : ((H * S : Nat) : Int) / (S : Int) = H := by rw [Int.natCast_mul]; exact Int.mul_ediv_cancel _ (by omega)
  have hWl : W ≤ 16 := by obtain ⟨h1, h2⟩ := hW; have := Nat.le_mul_of_pos_right W (show 0 < S by omega); omega
  have hHl : H ≤ 16 := by obtain ⟨h1, h2⟩ := hH; have := Nat.le_mul_of_pos_right H (show 0 < S by omega); omega
  have hWH : W * H ≤ 256 := Nat.mul_le_mul hWl hHl
  have HG0 : Hid (∀ i j, i < W → j < H → (seenR pix W H S lo hi').getD (j * W + i) 0 = colR lo hi' S (sum2 (pixAt pix (W * S)) (i * S) (j * S) S)) := Lib.hid (fun i j hi hj => by
    have h : j * W + i < W * H := by
      have h1 : (j + 1) * W ≤ H * W := Nat.mul_le_mul_right _ hj
      rw [Nat.succ_mul] at h1
      rw [Nat.mul_comm W H]
      omega
    rw [seenR_get h, psum_full pix hS.1 hi hj]
    rfl)
  have HSB : Hid (∀ i j, i < W → j < H → 0 ≤ sum2 (pixAt pix (W * S)) (i * S) (j * S) S ∧ sum2 (pixAt pix (W * S)) (i * S) (j * S) S ≤ 1020) := Lib.hid (fun i j hi hj => by
    have by1 : j * S + S ≤ H * S := by rw [← Nat.succ_mul]; exact Nat.mul_le_mul_right _ hj
    have bx1 : i * S + S ≤ W * S := by rw [← Nat.succ_mul]; exact Nat.mul_le_mul_right _ hi
    have h := sumN_bd (f := fun b => sumN (fun a => pixAt pix (W * S) (i * S + a) (j * S + b)) S) (b := 510) S (fun b hb => by
      have h := sumN_bd (f := fun a => pixAt pix (W * S) (i * S + a) (j * S + b)) (b := 255) S (fun a ha => pixAt_bd hp hl (by omega) (by omega))
      omega)
    unfold sum2
    omega)
  have K : Hid (∀ i j x0 y0 x1 y1 : Nat, i < W → j < H → i * S = x0 → j * S = y0 → x0 + S = x1 → y0 + S = y1 → ∀ w', Ext w w' → Calls Tryd.prog 104 #[imgVal ⟨(W * S : Nat), (H * S : Nat), pix⟩ v, .int .i64 (x0 : Int), .int .i64 (y0 : Int), .int .i64 (x1 : Int), .int .i64 (y1 : Int)] w'
      fun e w'' => e = .returned (.int .i64 (sum2 (pixAt pix (W * S)) x0 y0 S)) ∧ Ext w' w'') := Lib.hid (fun i j x0 y0 x1 y1 hi hj e1 e2 e3 e4 w' h => by
    have by1 : j * S + S ≤ H * S := by rw [← Nat.succ_mul]; exact Nat.mul_le_mul_right _ hj
    have bx1 : i * S + S ≤ W * S := by rw [← Nat.succ_mul]; exact Nat.mul_le_mul_right _ hi
    have hw1 : 1 ≤ W * S := Nat.mul_pos hW.1 hS.1
    have hh1 : 1 ≤ H * S := Nat.mul_pos hH.1 hS.1
    exact r_Sum (W * S) (H * S) S x0 y0 x1 y1 pix v w' (hv.ext h) hS ⟨hw1, hW.2⟩ ⟨hh1, hH.2⟩ hl hp e3.symm e4.symm (by omega) (by omega))
  have HSL := Lib.hid (seenR_length pix W H S lo hi')
  obtain ⟨ww, hww⟩ : ∃ ww, W * S = ww := ⟨_, rfl⟩
  obtain ⟨hh, hhh⟩ : ∃ hh, H * S = hh := ⟨_, rfl⟩
  simp only [hww, hhh] at q1 q2 HG0 HSB K hW hH ⊢
  have q3 : (ww : Int).tdiv (S : Int) = W := by rw [← q1]; exact Int.tdiv_eq_ediv_of_nonneg (by omega)
  have q4 : (hh : Int).tdiv (S : Int) = H := by rw [← q2]; exact Int.tdiv_eq_ediv_of_nonneg (by omega)
  have HCB : Hid (0 ≤ lo * (S : Int) ∧ lo * (S : Int) ≤ 510 ∧ 0 ≤ lo * (S : Int) * (S : Int) ∧ lo * (S : Int) * (S : Int) ≤ 1020 ∧ 0 ≤ hi' * (S : Int) ∧ hi' * (S : Int) ≤ 510 ∧ 0 ≤ hi' * (S : Int) * (S : Int) ∧ hi' * (S : Int) * (S : Int) ≤ 1020) := Lib.hid (by
    obtain ⟨h1, h2, h3⟩ := hc
    dsimp only at h1 h2 h3
    rcases (show S = 1 ∨ S = 2 by omega) with rfl | rfl
    · simp only [Int.natCast_one, Int.mul_one]; omega
    · have : ((2 : Nat) : Int) = 2 := rfl
      rw [this]; omega)
  have HWS := Lib.hid (And.intro hww hhh)
  obtain ⟨sn, hsn⟩ : ∃ sn, seenR pix W H S lo hi' = sn := ⟨_, rfl⟩
  rw [hsn] at HG0 HSL ⊢
  obtain ⟨ao, cap, rfl, -, -⟩ := hv.form
  unfold imgVal conVal at *
  dsimp only at K ⊢
  obtain ⟨g2, hg2⟩ : ∃ g2, pixAt pix ww = g2 := ⟨_, rfl⟩
  simp only [hg2] at HG0 HSB K
  clear hv hp hc hww hhh hl hsn q1 q2 hg2
  obtain ⟨w0, hw0⟩ : ∃ w0, (w.alloc (.cells #[.int .i64 (ww : Int), .int .i64 (hh : Int), .slice ao pix.length cap] 44)).alloc (.cells #[.int .i64 lo, .int .i64 hi'] 46) = w0 := ⟨_, rfl⟩
  have HA0 := Lib.hid (show At w0 (boxes w.heap.size ww hh (.slice ao pix.length cap) lo hi') from hw0 ▸ ⟨heap_alloc2_old w _ _, heap_alloc2_new w _ _, trivial⟩)
  have HE0 := Lib.hid (show Ext w w0 from hw0 ▸ ((Ext.refl w).alloc _).alloc _)
  have HZ0 := Lib.hid (show w0.heap.size = w.heap.size + 1 + 1 from hw0 ▸ (Array.size_push _).trans (congrArg (· + 1) (Array.size_push _)))
  have HW0 := Lib.hid hw0
  clear hw0
  go_enter Tryd.func69, Tryd.ntmps69
  go_wp2
  rw [HW0.out]
  go_loopw [7, 8, 9, 10, 11] (fun o jv _ _ _ wr => ∃ j : Nat, j ≤ H ∧ jv = .int .i64 (j : Int) ∧ Ext w0 wr ∧ Hid (wr.ownsRow w0.heap.size 5 1 o (j * W) (bytesL (sn.take (j * W))))) (fun _ jv _ _ _ _ => H - (intOf jv).toNat)
  case atStart => exact ⟨0, Nat.zero_le _, rfl, Ext.refl _, Lib.hid (by rw [Nat.zero_mul]; exact ⟨rfl, .inl ⟨rfl, rfl⟩⟩)⟩
  case round =>
    obtain ⟨j, hj, rfl, hE, hO⟩ := hrel
    obtain ⟨⟨c0, c1, c2⟩, -⟩ := run_3 (At.at (At.ext hE HA0.out) 0 rfl)
    by_cases hjH : j < H
    · obtain ⟨y0, hy0⟩ : ∃ y0, j * S = y0 := ⟨_, rfl⟩
      obtain ⟨r, hr⟩ : ∃ r, j * W = r := ⟨_, rfl⟩
      have hrb : r + W ≤ 256 := by
        have h1 : (j + 1) * W ≤ H * W := Nat.mul_le_mul_right _ hjH
        rw [Nat.succ_mul] at h1
        rw [Nat.mul_comm W H] at hWH
        omega
      have hyb : y0 ≤ 32 := by rw [← hy0]; exact Nat.mul_le_mul (show j ≤ 16 by omega) hS.2
      have m1 : (j : Int) * (S : Int) = (y0 : Int) := by rw [← hy0]; exact (Int.natCast_mul j S).symm
      obtain ⟨y1, hy1⟩ : ∃ y1, y0 + S = y1 := ⟨_, rfl⟩
      have m2 : (y0 : Int) + (S : Int) = (y1 : Int) := by omega
      rw [hr] at hO
      have HR := Lib.hid hr
      have HY := Lib.hid (And.intro hy0 hy1)
      clear hr hy0 hy1
      go_wp2
      clear c0 c1 c2
      go_loopw [7, 9, 10, 11] (fun o iv _ _ wr => ∃ i : Nat, i ≤ W ∧ iv = .int .i64 (i : Int) ∧ Ext w0 wr ∧ Hid (wr.ownsRow w0.heap.size 5 1 o (r + i) (bytesL (sn.take (r + i))))) (fun _ iv _ _ _ => W - (intOf iv).toNat)
      case atStart => exact ⟨0, Nat.zero_le _, rfl, hE, hO⟩
      case round =>
        clear hE hO
        obtain ⟨i, hii, rfl, hE, hO⟩ := hrel
        obtain ⟨⟨c0, c1, c2⟩, -⟩ := run_3 (At.at (At.ext hE HA0.out) 0 rfl)
        obtain ⟨⟨d0, d1⟩, -⟩ := run_2 (At.at (At.ext hE HA0.out) 1 rfl)
        by_cases hiW : i < W
        · obtain ⟨x0, hx0⟩ : ∃ x0, i * S = x0 := ⟨_, rfl⟩
          have hxb : x0 ≤ 32 := by rw [← hx0]; exact Nat.mul_le_mul (show i ≤ 16 by omega) hS.2
          have m3 : (i : Int) * (S : Int) = (x0 : Int) := by rw [← hx0]; exact (Int.natCast_mul i S).symm
          obtain ⟨x1, hx1⟩ : ∃ x1, x0 + S = x1 := ⟨_, rfl⟩
          have m4 : (x0 : Int) + (S : Int) = (x1 : Int) := by omega
          have KK := Lib.hid (fun (w' : World) (h : Ext w0 w') => K.out i j x0 y0 x1 y1 hiW hjH hx0 HY.out.1 hx1 HY.out.2 w' (HE0.out.trans h))
          have HG1 := HG0.out i j hiW hjH
          have HB1 := HSB.out i j hiW hjH
          rw [hx0, HY.out.1] at HG1 HB1
          rw [HR.out] at HG1
          obtain ⟨x, hxx⟩ : ∃ x, sum2 g2 x0 y0 S = x := ⟨_, rfl⟩
          rw [hxx] at HG1 HB1
          simp only [hxx] at KK
          obtain ⟨t, ht⟩ : ∃ t, r + i = t := ⟨_, rfl⟩
          have htb : t < 256 := by omega
          have htl : t < sn.length := by
            rw [HSL.out]
            have h1 : (j + 1) * W ≤ H * W := Nat.mul_le_mul_right _ hjH
            rw [Nat.succ_mul] at h1
            have h2 := HR.out
            rw [Nat.mul_comm W H]
            omega
          rw [ht] at hO HG1
          have HTK := Lib.hid (show bytesL (sn.take (t + 1)) = bytesL (sn.take t) ++ [.int .u8 (sn.getD t 0 : Nat)] by
            rw [List.take_succ_eq_append_getElem htl, List.getD_eq_getElem?_getD, List.getElem?_eq_getElem htl]
            simp only [bytesL, List.map_append, List.map_cons, List.map_nil, Option.getD_some])
          have HT := Lib.hid ht
          obtain ⟨n1, n2, n3, n4, n5, n6, n7, n8⟩ := HCB.out
          obtain ⟨p1, hp1⟩ : ∃ p, lo * (S : Int) = p := ⟨_, rfl⟩
          obtain ⟨p3, hp3⟩ : ∃ p, hi' * (S : Int) = p := ⟨_, rfl⟩
          unfold colR at HG1
          rw [hp1] at n1 n2 n3 n4 HG1
          rw [hp3] at n5 n6 n7 n8 HG1
          obtain ⟨p2, hp2⟩ : ∃ p, p1 * (S : Int) = p := ⟨_, rfl⟩
          obtain ⟨p4, hp4⟩ : ∃ p, p3 * (S : Int) = p := ⟨_, rfl⟩
          rw [hp2] at n3 n4 HG1
          rw [hp4] at n7 n8 HG1
          have HG := Lib.hid HG1
          have HX := Lib.hid (And.intro hx0 (And.intro hx1 hxx))
          clear HG1 hx0 hx1 hxx ht htl
          by_cases h1 : x ≤ p2
          · have HV1 := Lib.hid (show sn.getD t 0 = 1 by rw [HG.out, if_pos h1])
            go_wp2_with (first
              | (go_at_call 104; (with_reducible refine (KK.out _ hE).mono ?_); rintro E w2 ⟨rfl, h2⟩; have hE2 := hE.trans h2; have hO2 := owns_ext hO.out h2; have e0 := h2.get c0; have e1 := h2.get c1; have e2 := h2.get c2; have g0 := h2.get d0; have g1 := h2.get d1)
              | (at_builtin; refine wpList_append_sl rfl _ _ 22 rfl w0.heap.size 5 i0 (.int .u8 0) 1 1 Tryd.underlying22 hi hz0 hz1 hz2 rfl (by omega) u7 t (bytesL (sn.take t)) rfl (owns_ext hO2 ((Ext.refl _).alloc _)) _ 1 [.int .u8 1] rfl (SlAt.of_owns (owns_lit w2 [.int .u8 1] 5 1 1 0 (Nat.zero_le _) (by unfold maxLen; omega) rfl)) (bytes_oneCell' [1]) (by unfold maxLen; omega) (by omega) (hE2.alloc _).size ?_; intro v' w' ho hg))
            exact ⟨⟨i + 1, by omega, by go_num, (hE2.alloc _).grown hg (fun g hk => (owns_block hO2 g hk).1), Lib.hid (by
              rw [← Nat.add_assoc, HT.out, HTK.out, HV1.out]
              exact ho)⟩, by simp [intOf]; omega⟩
          · by_cases h2 : x < p4
            · have HV1 := Lib.hid (show sn.getD t 0 = 2 by rw [HG.out, if_neg h1, if_pos h2])
              go_wp2_with (first
                | (go_at_call 104; (with_reducible refine (KK.out _ hE).mono ?_); rintro E w2 ⟨rfl, h2⟩; have hE2 := hE.trans h2; have hO2 := owns_ext hO.out h2; have e0 := h2.get c0; have e1 := h2.get c1; have e2 := h2.get c2; have g0 := h2.get d0; have g1 := h2.get d1)
                | (at_builtin; refine wpList_append_sl rfl _ _ 22 rfl w0.heap.size 5 i0 (.int .u8 0) 1 1 Tryd.underlying22 hi hz0 hz1 hz2 rfl (by omega) u7 t (bytesL (sn.take t)) rfl (owns_ext hO2 ((Ext.refl _).alloc _)) _ 1 [.int .u8 2] rfl (SlAt.of_owns (owns_lit w2 [.int .u8 2] 5 1 1 0 (Nat.zero_le _) (by unfold maxLen; omega) rfl)) (bytes_oneCell' [2]) (by unfold maxLen; omega) (by omega) (hE2.alloc _).size ?_; intro v' w' ho hg))
              exact ⟨⟨i + 1, by omega, by go_num, (hE2.alloc _).grown hg (fun g hk => (owns_block hO2 g hk).1), Lib.hid (by
                rw [← Nat.add_assoc, HT.out, HTK.out, HV1.out]
                exact ho)⟩, by simp [intOf]; omega⟩
            · have HV1 := Lib.hid (show sn.getD t 0 = 0 by rw [HG.out, if_neg h1, if_neg h2])
              go_wp2_with (first
                | (go_at_call 104; (with_reducible refine (KK.out _ hE).mono ?_); rintro E w2 ⟨rfl, h2⟩; have hE2 := hE.trans h2; have hO2 := owns_ext hO.out h2; have e0 := h2.get c0; have e1 := h2.get c1; have e2 := h2.get c2; have g0 := h2.get d0; have g1 := h2.get d1)
                | (at_builtin; refine wpList_append_sl rfl _ _ 22 rfl w0.heap.size 5 i0 (.int .u8 0) 1 1 Tryd.underlying22 hi hz0 hz1 hz2 rfl (by omega) u7 t (bytesL (sn.take t)) rfl (owns_ext hO2 ((Ext.refl _).alloc _)) _ 1 [.int .u8 0] rfl (SlAt.of_owns (owns_lit w2 [.int .u8 0] 5 1 1 0 (Nat.zero_le _) (by unfold maxLen; omega) rfl)) (bytes_oneCell' [0]) (by unfold maxLen; omega) (by omega) (hE2.alloc _).size ?_; intro v' w' ho hg))
              exact ⟨⟨i + 1, by omega, by go_num, (hE2.alloc _).grown hg (fun g hk => (owns_block hO2 g hk).1), Lib.hid (by
                rw [← Nat.add_assoc, HT.out, HTK.out, HV1.out]
                exact ho)⟩, by simp [intOf]; omega⟩
        · obtain rfl : i = W := by omega
          have HR2 := Lib.hid (show r + i = (j + 1) * i by rw [Nat.succ_mul, HR.out])
          go_wp2
          exact ⟨⟨j + 1, by omega, by go_num, hE, by rw [← HR2.out]; exact hO⟩, by simp [intOf]; omega⟩
    · obtain rfl : j = H := by omega
      have HF := Lib.hid (show j * W = sn.length by rw [HSL.out, Nat.mul_comm])
      go_wp2
      go_ret
      refine ⟨_, rfl, ?_, HE0.out.trans hE⟩
      have h := hO.out
      rw [HF.out, List.take_length] at h
      exact owns_base h (by have := HZ0.out; omega)
end Go.Proofs.YtlnofbdhamingaaDoor

/- The modules of an image: the program's and the reference's. -/
namespace Go.Proofs.YtlnofbdhamingaaDoor
open Go.RowKit Go.Sort

/-- what both answer -/
def modulesI (m : Img) (s : Int) (c : Con) : List Nat × Int :=
  if m.Camera then (if 1 ≤ s ∧ s ≤ 2 ∧ c.Ok then (if m.w % s = 0 ∧ m.h % s = 0 then (seenR m.pix (m.w / s).toNat (m.h / s).toNat s.toNat c.lo c.hi, 0) else ([], 21)) else ([], 2)) else ([], 20)
theorem modulesI_def (m : Img) (s : Int) (c : Con) : modulesI m s c = if m.Camera then (if 1 ≤ s ∧ s ≤ 2 ∧ c.Ok then (if m.w % s = 0 ∧ m.h % s = 0 then (seenR m.pix (m.w / s).toNat (m.h / s).toNat s.toNat c.lo c.hi, 0) else ([], 21)) else ([], 2)) else ([], 20) := rfl
set_option maxRecDepth 100000 in
set_option maxHeartbeats 8000000 in
theorem c_Modules (m : Img) (v : Value) (s : Int) (c : Con) (w : World) (hv : IntsAt w v m.pix) (hl : m.pix.length ≤ maxLen) :
    Calls Tryd.prog 28 #[imgVal m v, .int .i64 s, conVal c] w (BytesErr (modulesI m s c) w) := by
  have K1 := Lib.hid (fun w' (h : Ext w w') => c_camera m v w' (hv.ext h) hl)
  have K2 := Lib.hid (fun w' => c_contrast c w')
  have HV := Lib.hid hv
  obtain ⟨ao, cap, rfl, -, -⟩ := hv.form
  clear hv
  obtain ⟨mw, mh, pix⟩ := m
  obtain ⟨lo, hi'⟩ := c
  have HD := Lib.hid (modulesI_def ⟨mw, mh, pix⟩ s ⟨lo, hi'⟩)
  by_cases hcm : (⟨mw, mh, pix⟩ : Img).Camera
  case neg =>
    have HN := Lib.hid hcm
    have hq : decide (⟨mw, mh, pix⟩ : Img).Camera = false := decide_eq_false hcm
    rw [hq] at K1
    unfold imgVal conVal at *
    dsimp only at *
    clear hcm hq
    have HI := Lib.hid (show modulesI ⟨mw, mh, pix⟩ s ⟨lo, hi'⟩ = ([], 20) by rw [HD.out, if_neg HN.out])
    go_enter Tryd.func28, Tryd.ntmps28
    go_wp2_with (go_at_call 65; (with_reducible refine (K1.out _ (by repeat (first | exact Ext.refl _ | assumption | refine Ext.alloc ?_ _ | refine Ext.drewN ?_ _ | refine ext_grow ?_ _ _ | refine Ext.trans ?_ (by assumption)))).mono ?_); rintro E w1 ⟨rfl, h1⟩; obtain ⟨⟨c0, c1, c2⟩, -⟩ := run_3 (h1.blk (heap_alloc2_old w _ _)); obtain ⟨⟨d0, d1⟩, -⟩ := run_2 (h1.blk (heap_alloc2_new w _ _)))
    go_ret2
    exact ⟨_, by rw [HI.out]; rfl, by rw [HI.out]; exact bytes_nil _, (by repeat (first | exact Ext.refl _ | assumption | refine Ext.alloc ?_ _ | refine Ext.drewN ?_ _ | refine ext_grow ?_ _ _ | refine Ext.trans ?_ (by assumption)))⟩
  have hq : decide (⟨mw, mh, pix⟩ : Img).Camera = true := decide_eq_true hcm
  rw [hq] at K1
  have HC := Lib.hid hcm
  clear hq
  by_cases hco : (⟨lo, hi'⟩ : Con).Ok
  case neg =>
    have HN := Lib.hid hco
    have hq : decide (⟨lo, hi'⟩ : Con).Ok = false := decide_eq_false hco
    rw [hq] at K2
    unfold imgVal conVal at *
    dsimp only at *
    clear hcm hco hq
    have HI0 := Lib.hid (show modulesI ⟨mw, mh, pix⟩ s ⟨lo, hi'⟩ = ([], 2) by rw [HD.out, if_pos HC.out, if_neg (fun h => HN.out h.2.2)])
    by_cases s1 : s < 1
    · have HI := Lib.hid (show modulesI ⟨mw, mh, pix⟩ s ⟨lo, hi'⟩ = ([], 2) by exact HI0.out)
      go_enter Tryd.func28, Tryd.ntmps28
      go_wp2_with (go_at_call 65; (with_reducible refine (K1.out _ (by repeat (first | exact Ext.refl _ | assumption | refine Ext.alloc ?_ _ | refine Ext.drewN ?_ _ | refine ext_grow ?_ _ _ | refine Ext.trans ?_ (by assumption)))).mono ?_); rintro E w1 ⟨rfl, h1⟩; obtain ⟨⟨c0, c1, c2⟩, -⟩ := run_3 (h1.blk (heap_alloc2_old w _ _)); obtain ⟨⟨d0, d1⟩, -⟩ := run_2 (h1.blk (heap_alloc2_new w _ _)))
      go_ret2
      exact ⟨_, by rw [HI.out]; rfl, by rw [HI.out]; exact bytes_nil _, (by repeat (first | exact Ext.refl _ | assumption | refine Ext.alloc ?_ _ | refine Ext.drewN ?_ _ | refine ext_grow ?_ _ _ | refine Ext.trans ?_ (by assumption)))⟩
    by_cases s2 : 2 < s
    · have HI := Lib.hid (show modulesI ⟨mw, mh, pix⟩ s ⟨lo, hi'⟩ = ([], 2) by exact HI0.out)
      go_enter Tryd.func28, Tryd.ntmps28
      go_wp2_with (go_at_call 65; (with_reducible refine (K1.out _ (by repeat (first | exact Ext.refl _ | assumption | refine Ext.alloc ?_ _ | refine Ext.drewN ?_ _ | refine ext_grow ?_ _ _ | refine Ext.trans ?_ (by assumption)))).mono ?_); rintro E w1 ⟨rfl, h1⟩; obtain ⟨⟨c0, c1, c2⟩, -⟩ := run_3 (h1.blk (heap_alloc2_old w _ _)); obtain ⟨⟨d0, d1⟩, -⟩ := run_2 (h1.blk (heap_alloc2_new w _ _)))
      go_ret2
      exact ⟨_, by rw [HI.out]; rfl, by rw [HI.out]; exact bytes_nil _, (by repeat (first | exact Ext.refl _ | assumption | refine Ext.alloc ?_ _ | refine Ext.drewN ?_ _ | refine ext_grow ?_ _ _ | refine Ext.trans ?_ (by assumption)))⟩
    have HI := Lib.hid (show modulesI ⟨mw, mh, pix⟩ s ⟨lo, hi'⟩ = ([], 2) by exact HI0.out)
    go_enter Tryd.func28, Tryd.ntmps28
    go_wp2_with (first | (go_at_call 65; (with_reducible refine (K1.out _ (by repeat (first | exact Ext.refl _ | assumption | refine Ext.alloc ?_ _ | refine Ext.drewN ?_ _ | refine ext_grow ?_ _ _ | refine Ext.trans ?_ (by assumption)))).mono ?_); rintro E w1 ⟨rfl, h1⟩; obtain ⟨⟨c0, c1, c2⟩, -⟩ := run_3 (h1.blk (heap_alloc2_old w _ _)); obtain ⟨⟨d0, d1⟩, -⟩ := run_2 (h1.blk (heap_alloc2_new w _ _))) | (go_at_call 66; (with_reducible refine (K2.out _).mono ?_); rintro E w2 ⟨rfl, h2⟩; have e0 := h2.get c0; have e1 := h2.get c1; have e2 := h2.get c2; have g0 := h2.get d0; have g1 := h2.get d1))
    go_ret2
    exact ⟨_, by rw [HI.out]; rfl, by rw [HI.out]; exact bytes_nil _, (by repeat (first | exact Ext.refl _ | assumption | refine Ext.alloc ?_ _ | refine Ext.drewN ?_ _ | refine ext_grow ?_ _ _ | refine Ext.trans ?_ (by assumption)))⟩
  have hq : decide (⟨lo, hi'⟩ : Con).Ok = true := decide_eq_true hco
  rw [hq] at K2
  have HO := Lib.hid hco
  clear hq
  by_cases s1 : s < 1
  · unfold imgVal conVal at *
    dsimp only at *
    clear hcm hco
    have HI := Lib.hid (show modulesI ⟨mw, mh, pix⟩ s ⟨lo, hi'⟩ = ([], 2) by rw [HD.out, if_pos HC.out, if_neg (fun h => by have := h.1; omega)])
    go_enter Tryd.func28, Tryd.ntmps28
    go_wp2_with (go_at_call 65; (with_reducible refine (K1.out _ (by repeat (first | exact Ext.refl _ | assumption | refine Ext.alloc ?_ _ | refine Ext.drewN ?_ _ | refine ext_grow ?_ _ _ | refine Ext.trans ?_ (by assumption)))).mono ?_); rintro E w1 ⟨rfl, h1⟩; obtain ⟨⟨c0, c1, c2⟩, -⟩ := run_3 (h1.blk (heap_alloc2_old w _ _)); obtain ⟨⟨d0, d1⟩, -⟩ := run_2 (h1.blk (heap_alloc2_new w _ _)))
    go_ret2
    exact ⟨_, by rw [HI.out]; rfl, by rw [HI.out]; exact bytes_nil _, (by repeat (first | exact Ext.refl _ | assumption | refine Ext.alloc ?_ _ | refine Ext.drewN ?_ _ | refine ext_grow ?_ _ _ | refine Ext.trans ?_ (by assumption)))⟩
  by_cases s2 : 2 < s
  · unfold imgVal conVal at *
    dsimp only at *
    clear hcm hco
    have HI := Lib.hid (show modulesI ⟨mw, mh, pix⟩ s ⟨lo, hi'⟩ = ([], 2) by rw [HD.out, if_pos HC.out, if_neg (fun h => by have := h.2.1; omega)])
    go_enter Tryd.func28, Tryd.ntmps28
    go_wp2_with (go_at_call 65; (with_reducible refine (K1.out _ (by repeat (first | exact Ext.refl _ | assumption | refine Ext.alloc ?_ _ | refine Ext.drewN ?_ _ | refine ext_grow ?_ _ _ | refine Ext.trans ?_ (by assumption)))).mono ?_); rintro E w1 ⟨rfl, h1⟩; obtain ⟨⟨c0, c1, c2⟩, -⟩ := run_3 (h1.blk (heap_alloc2_old w _ _)); obtain ⟨⟨d0, d1⟩, -⟩ := run_2 (h1.blk (heap_alloc2_new w _ _)))
    go_ret2
    exact ⟨_, by rw [HI.out]; rfl, by rw [HI.out]; exact bytes_nil _, (by repeat (first | exact Ext.refl _ | assumption | refine Ext.alloc ?_ _ | refine Ext.drewN ?_ _ | refine ext_grow ?_ _ _ | refine Ext.trans ?_ (by assumption)))⟩
  obtain ⟨S, rfl⟩ := Int.eq_ofNat_of_zero_le (show 0 ≤ s by omega)
  obtain ⟨⟨hw, hh, hln⟩, hpx⟩ := hcm
  dsimp only at hw hh hln hpx
  obtain ⟨ww, rfl⟩ := Int.eq_ofNat_of_zero_le (show 0 ≤ mw by omega)
  obtain ⟨hn, rfl⟩ := Int.eq_ofNat_of_zero_le (show 0 ≤ mh by omega)
  have hS : 1 ≤ S ∧ S ≤ 2 := by omega
  have hw' : 1 ≤ ww ∧ ww ≤ 16 := by omega
  have hh' : 1 ≤ hn ∧ hn ≤ 16 := by omega
  have t1 : (ww : Int).tmod (S : Int) = ((ww % S : Nat) : Int) := by rw [Int.tmod_eq_emod_of_nonneg (by omega)]; exact (Int.natCast_emod ww S).symm
  have t2 : (hn : Int).tmod (S : Int) = ((hn % S : Nat) : Int) := by rw [Int.tmod_eq_emod_of_nonneg (by omega)]; exact (Int.natCast_emod hn S).symm
  have HD2 := Lib.hid (show modulesI ⟨ww, hn, pix⟩ (S : Int) ⟨lo, hi'⟩ = if ww % S = 0 ∧ hn % S = 0 then (seenR pix (ww / S) (hn / S) S lo hi', 0) else ([], 21) by
    rw [HD.out, if_pos HC.out, if_pos ⟨by omega, by omega, HO.out⟩]
    have a1 : ((ww : Int) % (S : Int) = 0 ∧ (hn : Int) % (S : Int) = 0) ↔ (ww % S = 0 ∧ hn % S = 0) := by rw [← Int.natCast_emod, ← Int.natCast_emod]; omega
    dsimp only
    rw [show ((ww : Int) / (S : Int)).toNat = ww / S by rw [← Int.natCast_ediv]; rfl, show ((hn : Int) / (S : Int)).toNat = hn / S by rw [← Int.natCast_ediv]; rfl, Int.toNat_natCast]
    by_cases a2 : ww % S = 0 ∧ hn % S = 0
    · rw [if_pos a2, if_pos (a1.2 a2)]
    · rw [if_neg a2, if_neg (fun h => a2 (a1.1 h))])
  have K3 : Hid (∀ w', Ext w w' → ww % S = 0 → hn % S = 0 → Calls Tryd.prog 67 #[imgVal ⟨(ww : Int), (hn : Int), pix⟩ (.slice ao pix.length cap), .int .i64 (S : Int), conVal ⟨lo, hi'⟩] w' (OwnBytes (seenR pix (ww / S) (hn / S) S lo hi') w')) := Lib.hid (fun w' h a b => by
    have ew : ww / S * S = ww := Nat.div_mul_cancel (Nat.dvd_of_mod_eq_zero a)
    have eh : hn / S * S = hn := Nat.div_mul_cancel (Nat.dvd_of_mod_eq_zero b)
    have hl2 : pix.length = hn * ww := by rw [Int.mul_comm, ← Int.natCast_mul] at hln; exact Int.natCast_inj.1 hln
    have k := c_see (ww / S) (hn / S) S pix (.slice ao pix.length cap) ⟨lo, hi'⟩ w' (HV.out.ext h) hS ⟨Nat.pos_of_ne_zero (fun h0 => by rw [h0] at ew; omega), by rw [ew]; exact hw'.2⟩ ⟨Nat.pos_of_ne_zero (fun h0 => by rw [h0] at eh; omega), by rw [eh]; exact hh'.2⟩ (by rw [ew, eh]; exact hl2) hpx hco
    rw [ew, eh] at k
    exact k)
  have hS0 : (S : Int) ≠ 0 := by omega
  have hml := Nat.mod_lt ww (show 0 < S by omega)
  have hnl := Nat.mod_lt hn (show 0 < S by omega)
  unfold imgVal conVal at *
  dsimp only at *
  obtain ⟨a, ha⟩ : ∃ a, ww % S = a := ⟨_, rfl⟩
  obtain ⟨b, hb⟩ : ∃ b, hn % S = b := ⟨_, rfl⟩
  rw [ha] at t1 HD2 hml K3
  rw [hb] at t2 HD2 hnl K3
  clear hco hln hpx ha hb HD hw hh
  by_cases ha : a = 0
  case neg =>
    have HN := Lib.hid ha
    have q : ((a : Int) != 0) = true := by rw [bne_iff_ne]; omega
    have HI := Lib.hid (show modulesI ⟨ww, hn, pix⟩ (S : Int) ⟨lo, hi'⟩ = ([], 21) by rw [HD2.out, if_neg (fun h => HN.out h.1)])
    clear ha
    go_enter Tryd.func28, Tryd.ntmps28
    go_wp2_with (first | (go_at_call 65; (with_reducible refine (K1.out _ (by repeat (first | exact Ext.refl _ | assumption | refine Ext.alloc ?_ _ | refine Ext.drewN ?_ _ | refine ext_grow ?_ _ _ | refine Ext.trans ?_ (by assumption)))).mono ?_); rintro E w1 ⟨rfl, h1⟩; obtain ⟨⟨c0, c1, c2⟩, -⟩ := run_3 (h1.blk (heap_alloc2_old w _ _)); obtain ⟨⟨d0, d1⟩, -⟩ := run_2 (h1.blk (heap_alloc2_new w _ _))) | (go_at_call 66; (with_reducible refine (K2.out _).mono ?_); rintro E w2 ⟨rfl, h2⟩; have e0 := h2.get c0; have e1 := h2.get c1; have e2 := h2.get c2; have g0 := h2.get d0; have g1 := h2.get d1))
    go_ret2
    exact ⟨_, by rw [HI.out]; rfl, by rw [HI.out]; exact bytes_nil _, (by repeat (first | exact Ext.refl _ | assumption | refine Ext.alloc ?_ _ | refine Ext.drewN ?_ _ | refine ext_grow ?_ _ _ | refine Ext.trans ?_ (by assumption)))⟩
  subst ha
  by_cases hb : b = 0
  case neg =>
    have HN := Lib.hid hb
    have q : ((b : Int) != 0) = true := by rw [bne_iff_ne]; omega
    have HI := Lib.hid (show modulesI ⟨ww, hn, pix⟩ (S : Int) ⟨lo, hi'⟩ = ([], 21) by rw [HD2.out, if_neg (fun h => HN.out h.2)])
    clear hb
    go_enter Tryd.func28, Tryd.ntmps28
    go_wp2_with (first | (go_at_call 65; (with_reducible refine (K1.out _ (by repeat (first | exact Ext.refl _ | assumption | refine Ext.alloc ?_ _ | refine Ext.drewN ?_ _ | refine ext_grow ?_ _ _ | refine Ext.trans ?_ (by assumption)))).mono ?_); rintro E w1 ⟨rfl, h1⟩; obtain ⟨⟨c0, c1, c2⟩, -⟩ := run_3 (h1.blk (heap_alloc2_old w _ _)); obtain ⟨⟨d0, d1⟩, -⟩ := run_2 (h1.blk (heap_alloc2_new w _ _))) | (go_at_call 66; (with_reducible refine (K2.out _).mono ?_); rintro E w2 ⟨rfl, h2⟩; have e0 := h2.get c0; have e1 := h2.get c1; have e2 := h2.get c2; have g0 := h2.get d0; have g1 := h2.get d1))
    go_ret2
    exact ⟨_, by rw [HI.out]; rfl, by rw [HI.out]; exact bytes_nil _, (by repeat (first | exact Ext.refl _ | assumption | refine Ext.alloc ?_ _ | refine Ext.drewN ?_ _ | refine ext_grow ?_ _ _ | refine Ext.trans ?_ (by assumption)))⟩
  subst hb
  have HI := Lib.hid (show modulesI ⟨ww, hn, pix⟩ (S : Int) ⟨lo, hi'⟩ = (seenR pix (ww / S) (hn / S) S lo hi', 0) by rw [HD2.out, if_pos ⟨rfl, rfl⟩])
  have K4 := Lib.hid (fun w' (h : Ext w w') => K3.out w' h rfl rfl)
  unfold OwnBytes at K4
  clear K3
  go_enter Tryd.func28, Tryd.ntmps28
  go_wp2_with (first | (go_at_call 65; (with_reducible refine (K1.out _ (by repeat (first | exact Ext.refl _ | assumption | refine Ext.alloc ?_ _ | refine Ext.drewN ?_ _ | refine ext_grow ?_ _ _ | refine Ext.trans ?_ (by assumption)))).mono ?_); rintro E w1 ⟨rfl, h1⟩; obtain ⟨⟨c0, c1, c2⟩, -⟩ := run_3 (h1.blk (heap_alloc2_old w _ _)); obtain ⟨⟨d0, d1⟩, -⟩ := run_2 (h1.blk (heap_alloc2_new w _ _))) | (go_at_call 66; (with_reducible refine (K2.out _).mono ?_); rintro E w2 ⟨rfl, h2⟩; have e0 := h2.get c0; have e1 := h2.get c1; have e2 := h2.get c2; have g0 := h2.get d0; have g1 := h2.get d1) | (go_at_call 67; (with_reducible refine (K4.out _ (by repeat (first | exact Ext.refl _ | assumption | refine Ext.alloc ?_ _ | refine Ext.drewN ?_ _ | refine ext_grow ?_ _ _ | refine Ext.trans ?_ (by assumption)))).mono ?_); rintro E w3 ⟨v3, rfl, h0, h3⟩))
  go_ret2
  exact ⟨_, by rw [HI.out]; rfl, by rw [HI.out]; exact BytesAt.of_owns h0, (by repeat (first | exact Ext.refl _ | assumption | refine Ext.alloc ?_ _ | refine Ext.drewN ?_ _ | refine ext_grow ?_ _ _ | refine Ext.trans ?_ (by assumption)))⟩
set_option maxRecDepth 100000 in
set_option maxHeartbeats 8000000 in
theorem r_Modules (m : Img) (v : Value) (s : Int) (c : Con) (w : World) (hv : IntsAt w v m.pix) (hl : m.pix.length ≤ maxLen) :
    Calls Tryd.prog 29 #[imgVal m v, .int .i64 s, conVal c] w (BytesErr (modulesI m s c) w) := by
  have K1 := Lib.hid (fun w' (h : Ext w w') => r_Camera m v w' (hv.ext h) hl)
  have K2 := Lib.hid (fun w' => r_contrast c w')
  have HV := Lib.hid hv
  obtain ⟨ao, cap, rfl, -, -⟩ := hv.form
  clear hv
  obtain ⟨mw, mh, pix⟩ := m
  obtain ⟨lo, hi'⟩ := c
  have HD := Lib.hid (modulesI_def ⟨mw, mh, pix⟩ s ⟨lo, hi'⟩)
  by_cases hcm : (⟨mw, mh, pix⟩ : Img).Camera
  case neg =>
    have HN := Lib.hid hcm
    have hq : decide (⟨mw, mh, pix⟩ : Img).Camera = false := decide_eq_false hcm
    rw [hq] at K1
    unfold imgVal conVal at *
    dsimp only at *
    clear hcm hq
    have HI := Lib.hid (show modulesI ⟨mw, mh, pix⟩ s ⟨lo, hi'⟩ = ([], 20) by rw [HD.out, if_neg HN.out])
    go_enter Tryd.func29, Tryd.ntmps29
    go_wp2_with (go_at_call 68; (with_reducible refine (K1.out _ (by repeat (first | exact Ext.refl _ | assumption | refine Ext.alloc ?_ _ | refine Ext.drewN ?_ _ | refine ext_grow ?_ _ _ | refine Ext.trans ?_ (by assumption)))).mono ?_); rintro E w1 ⟨rfl, h1⟩; obtain ⟨⟨c0, c1, c2⟩, -⟩ := run_3 (h1.blk (heap_alloc2_old w _ _)); obtain ⟨⟨d0, d1⟩, -⟩ := run_2 (h1.blk (heap_alloc2_new w _ _)))
    go_ret2
    exact ⟨_, by rw [HI.out]; rfl, by rw [HI.out]; exact bytes_nil _, (by repeat (first | exact Ext.refl _ | assumption | refine Ext.alloc ?_ _ | refine Ext.drewN ?_ _ | refine ext_grow ?_ _ _ | refine Ext.trans ?_ (by assumption)))⟩
  have hq : decide (⟨mw, mh, pix⟩ : Img).Camera = true := decide_eq_true hcm
  rw [hq] at K1
  have HC := Lib.hid hcm
  clear hq
  by_cases hco : (⟨lo, hi'⟩ : Con).Ok
  case neg =>
    have HN := Lib.hid hco
    have hq : decide (⟨lo, hi'⟩ : Con).Ok = false := decide_eq_false hco
    rw [hq] at K2
    unfold imgVal conVal at *
    dsimp only at *
    clear hcm hco hq
    have HI0 := Lib.hid (show modulesI ⟨mw, mh, pix⟩ s ⟨lo, hi'⟩ = ([], 2) by rw [HD.out, if_pos HC.out, if_neg (fun h => HN.out h.2.2)])
    by_cases s1 : s < 1
    · have HI := Lib.hid (show modulesI ⟨mw, mh, pix⟩ s ⟨lo, hi'⟩ = ([], 2) by exact HI0.out)
      go_enter Tryd.func29, Tryd.ntmps29
      go_wp2_with (go_at_call 68; (with_reducible refine (K1.out _ (by repeat (first | exact Ext.refl _ | assumption | refine Ext.alloc ?_ _ | refine Ext.drewN ?_ _ | refine ext_grow ?_ _ _ | refine Ext.trans ?_ (by assumption)))).mono ?_); rintro E w1 ⟨rfl, h1⟩; obtain ⟨⟨c0, c1, c2⟩, -⟩ := run_3 (h1.blk (heap_alloc2_old w _ _)); obtain ⟨⟨d0, d1⟩, -⟩ := run_2 (h1.blk (heap_alloc2_new w _ _)))
      go_ret2
      exact ⟨_, by rw [HI.out]; rfl, by rw [HI.out]; exact bytes_nil _, (by repeat (first | exact Ext.refl _ | assumption | refine Ext.alloc ?_ _ | refine Ext.drewN ?_ _ | refine ext_grow ?_ _ _ | refine Ext.trans ?_ (by assumption)))⟩
    by_cases s2 : 2 < s
    · have HI := Lib.hid (show modulesI ⟨mw, mh, pix⟩ s ⟨lo, hi'⟩ = ([], 2) by exact HI0.out)
      go_enter Tryd.func29, Tryd.ntmps29
      go_wp2_with (go_at_call 68; (with_reducible refine (K1.out _ (by repeat (first | exact Ext.refl _ | assumption | refine Ext.alloc ?_ _ | refine Ext.drewN ?_ _ | refine ext_grow ?_ _ _ | refine Ext.trans ?_ (by assumption)))).mono ?_); rintro E w1 ⟨rfl, h1⟩; obtain ⟨⟨c0, c1, c2⟩, -⟩ := run_3 (h1.blk (heap_alloc2_old w _ _)); obtain ⟨⟨d0, d1⟩, -⟩ := run_2 (h1.blk (heap_alloc2_new w _ _)))
      go_ret2
      exact ⟨_, by rw [HI.out]; rfl, by rw [HI.out]; exact bytes_nil _, (by repeat (first | exact Ext.refl _ | assumption | refine Ext.alloc ?_ _ | refine Ext.drewN ?_ _ | refine ext_grow ?_ _ _ | refine Ext.trans ?_ (by assumption)))⟩
    have HI := Lib.hid (show modulesI ⟨mw, mh, pix⟩ s ⟨lo, hi'⟩ = ([], 2) by exact HI0.out)
    go_enter Tryd.func29, Tryd.ntmps29
    go_wp2_with (first | (go_at_call 68; (with_reducible refine (K1.out _ (by repeat (first | exact Ext.refl _ | assumption | refine Ext.alloc ?_ _ | refine Ext.drewN ?_ _ | refine ext_grow ?_ _ _ | refine Ext.trans ?_ (by assumption)))).mono ?_); rintro E w1 ⟨rfl, h1⟩; obtain ⟨⟨c0, c1, c2⟩, -⟩ := run_3 (h1.blk (heap_alloc2_old w _ _)); obtain ⟨⟨d0, d1⟩, -⟩ := run_2 (h1.blk (heap_alloc2_new w _ _))) | (go_at_call 44; (with_reducible refine (K2.out _).mono ?_); rintro E w2 ⟨rfl, h2⟩; have e0 := h2.get c0; have e1 := h2.get c1; have e2 := h2.get c2; have g0 := h2.get d0; have g1 := h2.get d1))
    go_ret2
    exact ⟨_, by rw [HI.out]; rfl, by rw [HI.out]; exact bytes_nil _, (by repeat (first | exact Ext.refl _ | assumption | refine Ext.alloc ?_ _ | refine Ext.drewN ?_ _ | refine ext_grow ?_ _ _ | refine Ext.trans ?_ (by assumption)))⟩
  have hq : decide (⟨lo, hi'⟩ : Con).Ok = true := decide_eq_true hco
  rw [hq] at K2
  have HO := Lib.hid hco
  clear hq
  by_cases s1 : s < 1
  · unfold imgVal conVal at *
    dsimp only at *
    clear hcm hco
    have HI := Lib.hid (show modulesI ⟨mw, mh, pix⟩ s ⟨lo, hi'⟩ = ([], 2) by rw [HD.out, if_pos HC.out, if_neg (fun h => by have := h.1; omega)])
    go_enter Tryd.func29, Tryd.ntmps29
    go_wp2_with (go_at_call 68; (with_reducible refine (K1.out _ (by repeat (first | exact Ext.refl _ | assumption | refine Ext.alloc ?_ _ | refine Ext.drewN ?_ _ | refine ext_grow ?_ _ _ | refine Ext.trans ?_ (by assumption)))).mono ?_); rintro E w1 ⟨rfl, h1⟩; obtain ⟨⟨c0, c1, c2⟩, -⟩ := run_3 (h1.blk (heap_alloc2_old w _ _)); obtain ⟨⟨d0, d1⟩, -⟩ := run_2 (h1.blk (heap_alloc2_new w _ _)))
    go_ret2
    exact ⟨_, by rw [HI.out]; rfl, by rw [HI.out]; exact bytes_nil _, (by repeat (first | exact Ext.refl _ | assumption | refine Ext.alloc ?_ _ | refine Ext.drewN ?_ _ | refine ext_grow ?_ _ _ | refine Ext.trans ?_ (by assumption)))⟩
  by_cases s2 : 2 < s
  · unfold imgVal conVal at *
    dsimp only at *
    clear hcm hco
    have HI := Lib.hid (show modulesI ⟨mw, mh, pix⟩ s ⟨lo, hi'⟩ = ([], 2) by rw [HD.out, if_pos HC.out, if_neg (fun h => by have := h.2.1; omega)])
    go_enter Tryd.func29, Tryd.ntmps29
    go_wp2_with (go_at_call 68; (with_reducible refine (K1.out _ (by repeat (first | exact Ext.refl _ | assumption | refine Ext.alloc ?_ _ | refine Ext.drewN ?_ _ | refine ext_grow ?_ _ _ | refine Ext.trans ?_ (by assumption)))).mono ?_); rintro E w1 ⟨rfl, h1⟩; obtain ⟨⟨c0, c1, c2⟩, -⟩ := run_3 (h1.blk (heap_alloc2_old w _ _)); obtain ⟨⟨d0, d1⟩, -⟩ := run_2 (h1.blk (heap_alloc2_new w _ _)))
    go_ret2
    exact ⟨_, by rw [HI.out]; rfl, by rw [HI.out]; exact bytes_nil _, (by repeat (first | exact Ext.refl _ | assumption | refine Ext.alloc ?_ _ | refine Ext.drewN ?_ _ | refine ext_grow ?_ _ _ | refine Ext.trans ?_ (by assumption)))⟩
  obtain ⟨S, rfl⟩ := Int.eq_ofNat_of_zero_le (show 0 ≤ s by omega)
  obtain ⟨⟨hw, hh, hln⟩, hpx⟩ := hcm
  dsimp only at hw hh hln hpx
  obtain ⟨ww, rfl⟩ := Int.eq_ofNat_of_zero_le (show 0 ≤ mw by omega)
  obtain ⟨hn, rfl⟩ := Int.eq_ofNat_of_zero_le (show 0 ≤ mh by omega)
  have hS : 1 ≤ S ∧ S ≤ 2 := by omega
  have hw' : 1 ≤ ww ∧ ww ≤ 16 := by omega
  have hh' : 1 ≤ hn ∧ hn ≤ 16 := by omega
  have t1 : (ww : Int).tmod (S : Int) = ((ww % S : Nat) : Int) := by rw [Int.tmod_eq_emod_of_nonneg (by omega)]; exact (Int.natCast_emod ww S).symm
  have t2 : (hn : Int).tmod (S : Int) = ((hn % S : Nat) : Int) := by rw [Int.tmod_eq_emod_of_nonneg (by omega)]; exact (Int.natCast_emod hn S).symm
  have HD2 := Lib.hid (show modulesI ⟨ww, hn, pix⟩ (S : Int) ⟨lo, hi'⟩ = if ww % S = 0 ∧ hn % S = 0 then (seenR pix (ww / S) (hn / S) S lo hi', 0) else ([], 21) by
    rw [HD.out, if_pos HC.out, if_pos ⟨by omega, by omega, HO.out⟩]
    have a1 : ((ww : Int) % (S : Int) = 0 ∧ (hn : Int) % (S : Int) = 0) ↔ (ww % S = 0 ∧ hn % S = 0) := by rw [← Int.natCast_emod, ← Int.natCast_emod]; omega
    dsimp only
    rw [show ((ww : Int) / (S : Int)).toNat = ww / S by rw [← Int.natCast_ediv]; rfl, show ((hn : Int) / (S : Int)).toNat = hn / S by rw [← Int.natCast_ediv]; rfl, Int.toNat_natCast]
    by_cases a2 : ww % S = 0 ∧ hn % S = 0
    · rw [if_pos a2, if_pos (a1.2 a2)]
    · rw [if_neg a2, if_neg (fun h => a2 (a1.1 h))])
  have K3 : Hid (∀ w', Ext w w' → ww % S = 0 → hn % S = 0 → Calls Tryd.prog 69 #[imgVal ⟨(ww : Int), (hn : Int), pix⟩ (.slice ao pix.length cap), .int .i64 (S : Int), conVal ⟨lo, hi'⟩] w' (OwnBytes (seenR pix (ww / S) (hn / S) S lo hi') w')) := Lib.hid (fun w' h a b => by
    have ew : ww / S * S = ww := Nat.div_mul_cancel (Nat.dvd_of_mod_eq_zero a)
    have eh : hn / S * S = hn := Nat.div_mul_cancel (Nat.dvd_of_mod_eq_zero b)
    have hl2 : pix.length = hn * ww := by rw [Int.mul_comm, ← Int.natCast_mul] at hln; exact Int.natCast_inj.1 hln
    have k := r_Seen (ww / S) (hn / S) S pix (.slice ao pix.length cap) ⟨lo, hi'⟩ w' (HV.out.ext h) hS ⟨Nat.pos_of_ne_zero (fun h0 => by rw [h0] at ew; omega), by rw [ew]; exact hw'.2⟩ ⟨Nat.pos_of_ne_zero (fun h0 => by rw [h0] at eh; omega), by rw [eh]; exact hh'.2⟩ (by rw [ew, eh]; exact hl2) hpx hco
    rw [ew, eh] at k
    exact k)
  have hS0 : (S : Int) ≠ 0 := by omega
  have hml := Nat.mod_lt ww (show 0 < S by omega)
  have hnl := Nat.mod_lt hn (show 0 < S by omega)
  unfold imgVal conVal at *
  dsimp only at *
  obtain ⟨a, ha⟩ : ∃ a, ww % S = a := ⟨_, rfl⟩
  obtain ⟨b, hb⟩ : ∃ b, hn % S = b := ⟨_, rfl⟩
  rw [ha] at t1 HD2 hml K3
  rw [hb] at t2 HD2 hnl K3
  clear hco hln hpx ha hb HD hw hh
  by_cases ha : a = 0
  case neg =>
    have HN := Lib.hid ha
    have q : ((a : Int) != 0) = true := by rw [bne_iff_ne]; omega
    have HI := Lib.hid (show modulesI ⟨ww, hn, pix⟩ (S : Int) ⟨lo, hi'⟩ = ([], 21) by rw [HD2.out, if_neg (fun h => HN.out h.1)])
    clear ha
    go_enter Tryd.func29, Tryd.ntmps29
    go_wp2_with (first | (go_at_call 68; (with_reducible refine (K1.out _ (by repeat (first | exact Ext.refl _ | assumption | refine Ext.alloc ?_ _ | refine Ext.drewN ?_ _ | refine ext_grow ?_ _ _ | refine Ext.trans ?_ (by assumption)))).mono ?_); rintro E w1 ⟨rfl, h1⟩; obtain ⟨⟨c0, c1, c2⟩, -⟩ := run_3 (h1.blk (heap_alloc2_old w _ _)); obtain ⟨⟨d0, d1⟩, -⟩ := run_2 (h1.blk (heap_alloc2_new w _ _))) | (go_at_call 44; (with_reducible refine (K2.out _).mono ?_); rintro E w2 ⟨rfl, h2⟩; have e0 := h2.get c0; have e1 := h2.get c1; have e2 := h2.get c2; have g0 := h2.get d0; have g1 := h2.get d1))
    go_ret2
    exact ⟨_, by rw [HI.out]; rfl, by rw [HI.out]; exact bytes_nil _, (by repeat (first | exact Ext.refl _ | assumption | refine Ext.alloc ?_ _ | refine Ext.drewN ?_ _ | refine ext_grow ?_ _ _ | refine Ext.trans ?_ (by assumption)))⟩
  subst ha
  by_cases hb : b = 0
  case neg =>
    have HN := Lib.hid hb
    have q : ((b : Int) != 0) = true := by rw [bne_iff_ne]; omega
    have HI := Lib.hid (show modulesI ⟨ww, hn, pix⟩ (S : Int) ⟨lo, hi'⟩ = ([], 21) by rw [HD2.out, if_neg (fun h => HN.out h.2)])
    clear hb
    go_enter Tryd.func29, Tryd.ntmps29
    go_wp2_with (first | (go_at_call 68; (with_reducible refine (K1.out _ (by repeat (first | exact Ext.refl _ | assumption | refine Ext.alloc ?_ _ | refine Ext.drewN ?_ _ | refine ext_grow ?_ _ _ | refine Ext.trans ?_ (by assumption)))).mono ?_); rintro E w1 ⟨rfl, h1⟩; obtain ⟨⟨c0, c1, c2⟩, -⟩ := run_3 (h1.blk (heap_alloc2_old w _ _)); obtain ⟨⟨d0, d1⟩, -⟩ := run_2 (h1.blk (heap_alloc2_new w _ _))) | (go_at_call 44; (with_reducible refine (K2.out _).mono ?_); rintro E w2 ⟨rfl, h2⟩; have e0 := h2.get c0; have e1 := h2.get c1; have e2 := h2.get c2; have g0 := h2.get d0; have g1 := h2.get d1))
    go_ret2
    exact ⟨_, by rw [HI.out]; rfl, by rw [HI.out]; exact bytes_nil _, (by repeat (first | exact Ext.refl _ | assumption | refine Ext.alloc ?_ _ | refine Ext.drewN ?_ _ | refine ext_grow ?_ _ _ | refine Ext.trans ?_ (by assumption)))⟩
  subst hb
  have HI := Lib.hid (show modulesI ⟨ww, hn, pix⟩ (S : Int) ⟨lo, hi'⟩ = (seenR pix (ww / S) (hn / S) S lo hi', 0) by rw [HD2.out, if_pos ⟨rfl, rfl⟩])
  have K4 := Lib.hid (fun w' (h : Ext w w') => K3.out w' h rfl rfl)
  unfold OwnBytes at K4
  clear K3
  go_enter Tryd.func29, Tryd.ntmps29
  go_wp2_with (first | (go_at_call 68; (with_reducible refine (K1.out _ (by repeat (first | exact Ext.refl _ | assumption | refine Ext.alloc ?_ _ | refine Ext.drewN ?_ _ | refine ext_grow ?_ _ _ | refine Ext.trans ?_ (by assumption)))).mono ?_); rintro E w1 ⟨rfl, h1⟩; obtain ⟨⟨c0, c1, c2⟩, -⟩ := run_3 (h1.blk (heap_alloc2_old w _ _)); obtain ⟨⟨d0, d1⟩, -⟩ := run_2 (h1.blk (heap_alloc2_new w _ _))) | (go_at_call 44; (with_reducible refine (K2.out _).mono ?_); rintro E w2 ⟨rfl, h2⟩; have e0 := h2.get c0; have e1 := h2.get c1; have e2 := h2.get c2; have g0 := h2.get d0; have g1 := h2.get d1) | (go_at_call 69; (with_reducible refine (K4.out _ (by repeat (first | exact Ext.refl _ | assumption | refine Ext.alloc ?_ _ | refine Ext.drewN ?_ _ | refine ext_grow ?_ _ _ | refine Ext.trans ?_ (by assumption)))).mono ?_); rintro E w3 ⟨v3, rfl, h0, h3⟩))
  go_ret2
  exact ⟨_, by rw [HI.out]; rfl, by rw [HI.out]; exact BytesAt.of_owns h0, (by repeat (first | exact Ext.refl _ | assumption | refine Ext.alloc ?_ _ | refine Ext.drewN ?_ _ | refine ext_grow ?_ _ _ | refine Ext.trans ?_ (by assumption)))⟩
end Go.Proofs.YtlnofbdhamingaaDoor
