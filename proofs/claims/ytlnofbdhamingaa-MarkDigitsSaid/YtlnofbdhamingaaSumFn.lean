/- Sums of pixels: the reference's. -/
import Derived.Test.YtlnofbdhamingaaSeeFn
set_option linter.unusedVariables false
set_option linter.unusedSimpArgs false
namespace Go.Proofs.Ytlnofbdhamingaa
open Go.RowKit Go.Sort

/-- a pixel by its place -/
def pixAt (pix : List Int) (ww : Nat) (x y : Nat) : Int := pix.getD (y * ww + x) 0
theorem pixAt_bd {pix : List Int} {ww hh x y : Nat} (hp : allIn 0 255 pix) (hl : pix.length = hh * ww) (hx : x < ww) (hy : y < hh) : 0 ≤ pixAt pix ww x y ∧ pixAt pix ww x y ≤ 255 := by
  unfold pixAt
  have h1 : (y + 1) * ww ≤ hh * ww := Nat.mul_le_mul_right _ hy
  rw [Nat.succ_mul] at h1
  rw [List.getD_eq_getElem?_getD, List.getElem?_eq_getElem (by omega)]
  exact hp _ (List.getElem_mem _)
theorem img_at (pix : List Int) (ww hh x y : Nat) : Img.at ⟨(ww : Int), (hh : Int), pix⟩ (x : Int) (y : Int) = pixAt pix ww x y := by
  unfold Img.at pixAt
  congr 1
theorem sumN_succ (f : Nat → Int) (k : Nat) : sumN f (k + 1) = sumN f k + f k := rfl
set_option maxRecDepth 100000 in
set_option maxHeartbeats 8000000 in
theorem r_Sum (ww hh S x0 y0 x1 y1 : Nat) (pix : List Int) (v : Value) (w : World) (hv : IntsAt w v pix) (hS : 1 ≤ S ∧ S ≤ 2) (hW : 1 ≤ ww ∧ ww ≤ 16) (hH : 1 ≤ hh ∧ hh ≤ 16) (hl : pix.length = hh * ww) (hp : allIn 0 255 pix)
    (hx1 : x1 = x0 + S) (hy1 : y1 = y0 + S) (hx : x1 ≤ ww) (hy : y1 ≤ hh) :
    Calls Try.prog 34 #[imgVal ⟨(ww : Int), (hh : Int), pix⟩ v, .int .i64 (x0 : Int), .int .i64 (y0 : Int), .int .i64 (x1 : Int), .int .i64 (y1 : Int)] w
      fun e w' => e = .returned (.int .i64 (sum2 (pixAt pix ww) x0 y0 S)) ∧ Ext w w' := by
  have hsz : (⟨(ww : Int), (hh : Int), pix⟩ : Img).Sized := ⟨by dsimp only; omega, by dsimp only; omega, by dsimp only; rw [hl, Int.natCast_mul, Int.mul_comm]⟩
  have K := Lib.hid (fun (x y : Nat) (h1 : x < ww) (h2 : y < hh) (w' : World) (h : Ext w w') => by
    have := r_At ⟨(ww : Int), (hh : Int), pix⟩ v (x : Int) (y : Int) w' hsz ⟨by dsimp only; omega, by dsimp only; omega⟩ (hv.ext h)
    rw [img_at] at this
    exact this)
  have HB := Lib.hid (fun (x y : Nat) (h1 : x < ww) (h2 : y < hh) => pixAt_bd (x := x) (y := y) hp hl h1 h2)
  obtain ⟨f, hf⟩ : ∃ f, pixAt pix ww = f := ⟨_, rfl⟩
  simp only [hf] at K HB ⊢
  obtain ⟨ao, cap, rfl, -, -⟩ := hv.form
  unfold imgVal at K ⊢
  dsimp only at K ⊢
  have HE := Lib.hid (And.intro hx1 hy1)
  have HRB : Hid (∀ j, j < S → ∀ n, n ≤ S → 0 ≤ sumN (fun i => f (x0 + i) (y0 + j)) n ∧ sumN (fun i => f (x0 + i) (y0 + j)) n ≤ 510) := Lib.hid (fun j hj n hn => by
    have h := sumN_bd (f := fun i => f (x0 + i) (y0 + j)) (b := 255) n (fun i hi => HB.out (x0 + i) (y0 + j) (by omega) (by omega))
    omega)
  have HRC : Hid (∀ n, n ≤ S → 0 ≤ sumN (fun j => sumN (fun i => f (x0 + i) (y0 + j)) S) n ∧ sumN (fun j => sumN (fun i => f (x0 + i) (y0 + j)) S) n ≤ 1020) := Lib.hid (fun n hn => by
    have h := sumN_bd (f := fun j => sumN (fun i => f (x0 + i) (y0 + j)) S) (b := 510) n (fun j hj => HRB.out j (by omega) S (Nat.le_refl _))
    omega)
  clear hsz hv hl hp hf hx1 hy1
  obtain ⟨w0, hw0⟩ : ∃ w0, w.alloc (.cells #[.int .i64 (ww : Int), .int .i64 (hh : Int), .slice ao pix.length cap] 25) = w0 := ⟨_, rfl⟩
  have HA0 := Lib.hid (show At w0 [(w.heap.size, .cells #[.int .i64 (ww : Int), .int .i64 (hh : Int), .slice ao pix.length cap] 25)] from hw0 ▸ ⟨one_first w _, trivial⟩)
  have HE0 := Lib.hid (show Ext w w0 from hw0 ▸ (Ext.refl w).alloc _)
  have HW0 := Lib.hid hw0
  clear hw0
  go_enter Try.func34, Try.ntmps34
  go_wp2
  rw [HW0.out]
  go_loopw [11, 12, 13] (fun s y _ wr => ∃ j : Nat, j ≤ S ∧ y = .int .i64 ((y0 + j : Nat) : Int) ∧ Ext w0 wr ∧ s = .int .i64 (sumN (fun j => sumN (fun i => f (x0 + i) (y0 + j)) S) j)) (fun _ y _ _ => y1 - (intOf y).toNat)
  case atStart => exact ⟨0, Nat.zero_le _, rfl, Ext.refl _, rfl⟩
  case round =>
    obtain ⟨j, hj, rfl, hE, rfl⟩ := hrel
    obtain ⟨y, hyy⟩ : ∃ y, y0 + j = y := ⟨_, rfl⟩
    have HY := Lib.hid hyy
    have hc := HRC.out j hj
    obtain ⟨s, hs⟩ : ∃ s, sumN (fun j => sumN (fun i => f (x0 + i) (y0 + j)) S) j = s := ⟨_, rfl⟩
    rw [hs] at hc ⊢
    rw [hyy]
    have HS := Lib.hid hs
    clear hyy hs
    obtain ⟨hx1, hy1⟩ := HE.out
    by_cases hjS : j < S
    · have hyl : y < y1 := by have := HY.out; omega
      clear hx1 hy1
      go_wp2
      go_loopw [11, 13] (fun s' x wr => ∃ i : Nat, i ≤ S ∧ x = .int .i64 ((x0 + i : Nat) : Int) ∧ Ext w0 wr ∧ s' = .int .i64 (s + sumN (fun i => f (x0 + i) (y0 + j)) i)) (fun _ x _ => x1 - (intOf x).toNat)
      case atStart => exact ⟨0, Nat.zero_le _, rfl, hE, by show _ = Value.int .i64 (s + 0); rw [Int.add_zero]⟩
      case round =>
        clear hE
        obtain ⟨i, hi, rfl, hE, rfl⟩ := hrel
        obtain ⟨x, hxx⟩ : ∃ x, x0 + i = x := ⟨_, rfl⟩
        have HX := Lib.hid hxx
        have hb := HRB.out j hjS i hi
        obtain ⟨p, hp⟩ : ∃ p, sumN (fun i => f (x0 + i) (y0 + j)) i = p := ⟨_, rfl⟩
        rw [hp] at hb ⊢
        have HT := Lib.hid (show sumN (fun i => f (x0 + i) (y0 + j)) (i + 1) = p + f x y by
          rw [sumN_succ, hp]
          show p + f (x0 + i) (y0 + j) = _
          rw [hxx, HY.out])
        rw [hxx]
        have HP := Lib.hid hp
        clear hxx hp
        obtain ⟨hx1, -⟩ := HE.out
        by_cases hiS : i < S
        · have hxl : x < x1 := by have := HX.out; omega
          clear hx1
          obtain ⟨⟨c0, c1, c2⟩, -⟩ := run_3 (At.at (At.ext hE HA0.out) 0 rfl)
          have KK := Lib.hid (K.out x y (by omega) (by omega) wr (HE0.out.trans hE))
          have hbd := HB.out x y (by omega) (by omega)
          obtain ⟨z, hz⟩ : ∃ z, f x y = z := ⟨_, rfl⟩
          rw [hz] at KK hbd HT
          have HZ := Lib.hid hz
          clear hz
          go_wp2_with (go_at_call 37; (with_reducible refine KK.out.mono ?_); rintro E w2 ⟨rfl, h2⟩)
          exact ⟨⟨i + 1, by omega, by rw [← Nat.add_assoc, HX.out]; go_num, hE.trans h2, by rw [HT.out, Int.add_assoc]⟩, by simp [intOf]; omega⟩
        · obtain rfl : i = S := by omega
          have hxl : x = x1 := by have := HX.out; omega
          subst hxl
          clear hx1
          go_wp2
          exact ⟨⟨j + 1, by omega, by rw [← Nat.add_assoc, HY.out]; go_num, hE, by rw [sumN_succ, HS.out, HP.out]⟩, by simp [intOf]; omega⟩
    · obtain rfl : j = S := by omega
      have hyl : y = y1 := by have := HY.out; omega
      subst hyl
      clear hx1 hy1
      go_wp2
      go_ret
      exact ⟨by rw [← HS.out]; rfl, HE0.out.trans hE⟩
end Go.Proofs.Ytlnofbdhamingaa
