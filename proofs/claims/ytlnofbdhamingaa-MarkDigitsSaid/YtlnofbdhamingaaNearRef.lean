/- The nearest digit: the reference's; what both answer. -/
import Derived.Test.YtlnofbdhamingaaNearFn
import Derived.Test.YtlnofbdhamingaaShapedFn
set_option linter.unusedVariables false
set_option linter.unusedSimpArgs false
namespace Go.Proofs.Ytlnofbdhamingaa
open Go.RowKit Go.Sort

theorem BytesAt.some {w : World} {v : Value} {l : List Nat} {n : Nat} (h : BytesAt w v l) (hn : l.length = n) (h0 : 0 < n) :
    ∃ b off cap, v = .slice (some ⟨b, off, none⟩) n cap ∧ ∀ j, j < n → w.cell? ⟨b, off + j, none⟩ = some (.int .u8 ((l.getD j 0 : Nat) : Int)) := by
  subst hn
  rcases h.cases with ⟨h1, -⟩ | ⟨-, b, off, cap, h1, -, -, h2⟩
  · rw [h1] at h0
    exact absurd h0 (Nat.lt_irrefl _)
  · exact ⟨b, off, cap, h1, h2⟩
theorem distK_succ (g ms : List Nat) (k : Nat) : distK g ms (k + 1) = distK g ms k + (if ms.getD k 0 ≠ 2 ∧ ms.getD k 0 ≠ g.getD k 0 then 1 else 0) := rfl
set_option maxRecDepth 100000 in
set_option maxHeartbeats 8000000 in
theorem r_Distance (v : Value) (ms : List Nat) (d : Nat) (hd : d < 10) (w : World) (hv : BytesAt w v ms) (hl : ms.length = 15) :
    Calls Try.prog 21 #[.int .i64 (d : Int), v] w fun e w' => e = .returned (.int .i64 (dist ms d : Nat)) ∧ Ext w w' := by
  obtain ⟨b, off, cap, rfl, hc⟩ := hv.some hl (by omega)
  have HC := Lib.hid hc
  have HD := Lib.hid (show dist ms d = distK (glyphR d) ms 15 from rfl)
  have K := Lib.hid (r_Shaped d hd w)
  have hgl := glyphR_length d hd
  obtain ⟨g, hg⟩ : ∃ g, glyphR d = g := ⟨_, rfl⟩
  rw [hg] at K hgl HD
  have HG := Lib.hid hgl
  unfold OwnBytes at K
  clear hc hv hl hg hgl
  go_enter Try.func21, Try.ntmps21
  go_wp2_with (go_at_call 12; (with_reducible refine K.out.mono ?_); rintro E w1 ⟨v1, rfl, h0, h1⟩)
  obtain ⟨b1, off1, cap1, rfl, hc1⟩ := (BytesAt.of_owns h0).some HG.out (by omega)
  have HC1 := Lib.hid hc1
  clear hc1 h0
  go_loopw [5, 7] (fun n i wr => ∃ k : Nat, k ≤ 15 ∧ i = .int .i64 (k : Int) ∧ Ext w1 wr ∧ n = .int .i64 (distK g ms k : Nat)) (fun _ i _ => 15 - (intOf i).toNat)
  case atStart => exact ⟨0, by omega, rfl, Ext.refl _, rfl⟩
  case round =>
    obtain ⟨k, hk, rfl, hE2, rfl⟩ := hrel
    by_cases hkl : k < 15
    · have c0 := (h1.trans hE2).get (HC.out k hkl)
      have c1 := hE2.get (HC1.out k hkl)
      have HK := Lib.hid (distK_succ g ms k)
      have hdk := distK_le g ms k
      obtain ⟨x, hx⟩ : ∃ x, ms.getD k 0 = x := ⟨_, rfl⟩
      obtain ⟨y, hy⟩ : ∃ y, g.getD k 0 = y := ⟨_, rfl⟩
      obtain ⟨n, hn⟩ : ∃ n, distK g ms k = n := ⟨_, rfl⟩
      rw [hx] at c0 HK
      rw [hy] at c1 HK
      rw [hn] at HK hdk ⊢
      have HXY := Lib.hid (And.intro hx (And.intro hy hn))
      clear hx hy hn
      by_cases h2 : x = 2
      · have q0 : ((x : Int) != 2) = false := by rw [h2]; rfl
        have HF := Lib.hid (show distK g ms (k + 1) = n by rw [HK.out, if_neg (fun h => h.1 h2)]; rfl)
        clear h2
        go_wp2
        go_quiet (fail)
        go_wp2
        exact ⟨⟨k + 1, by omega, by go_num, hE2.drewN _, by rw [HF.out]⟩, by simp [intOf]; omega⟩
      · have q0 : ((x : Int) != 2) = true := by rw [bne_iff_ne]; omega
        by_cases h3 : x = y
        · have q1 : ((x : Int) != (y : Int)) = false := by rw [h3]; exact bne_self_eq_false' _
          have HF := Lib.hid (show distK g ms (k + 1) = n by rw [HK.out, if_neg (fun h => h.2 h3)]; rfl)
          clear h2 h3
          go_wp2
          go_quiet (fail)
          go_wp2
          exact ⟨⟨k + 1, by omega, by go_num, hE2.drewN _, by rw [HF.out]⟩, by simp [intOf]; omega⟩
        · have q1 : ((x : Int) != (y : Int)) = true := by rw [bne_iff_ne]; omega
          have HF := Lib.hid (show distK g ms (k + 1) = n + 1 by rw [HK.out, if_pos ⟨h2, h3⟩])
          clear h2 h3
          go_wp2
          go_quiet (fail)
          go_wp2
          exact ⟨⟨k + 1, by omega, by go_num, hE2.drewN _, by rw [HF.out]; go_num⟩, by simp [intOf]; omega⟩
    · obtain rfl : k = 15 := by omega
      go_wp2
      go_ret
      exact ⟨by rw [HD.out]; rfl, h1.trans hE2⟩
theorem bestN_succ (f : Nat → Nat) (k : Nat) : bestN f (k + 1) = if f (k + 1) < f (bestN f k) then k + 1 else bestN f k := rfl
theorem margN_succ (f : Nat → Nat) (b k : Nat) : margN f b (k + 1) = if k ≠ b then min (margN f b k) (f k - f b) else margN f b k := rfl
set_option maxRecDepth 100000 in
set_option maxHeartbeats 8000000 in
theorem r_Nearest (v : Value) (ms : List Nat) (w : World) (hv : BytesAt w v ms) (hl : ms.length = 15) :
    Calls Try.prog 15 #[v] w fun e w' => e = .returned (.tuple #[.int .i64 ((nearestR ms).1 : Nat), .int .i64 ((nearestR ms).2 : Nat)]) ∧ Ext w w' := by
  have K := Lib.hid (fun (d : Nat) (hd : d < 10) (w' : World) (h : Ext w w') => r_Distance v ms d hd w' (hv.ext h) hl)
  have HF := Lib.hid (dist_le ms)
  have HR := Lib.hid (show nearestR ms = (bestN (dist ms) 9, margN (dist ms) (bestN (dist ms) 9) 10) from rfl)
  obtain ⟨f, hf⟩ : ∃ f, dist ms = f := ⟨_, rfl⟩
  simp only [hf] at K
  rw [hf] at HF HR
  obtain ⟨b0, off0, cap, rfl, -⟩ := hv.some hl (by omega)
  clear hv hf hl
  go_enter Try.func15, Try.ntmps15
  go_wp2
  go_loopw [4, 5] (fun b i wr => ∃ k : Nat, k ≤ 9 ∧ i = .int .i64 ((k + 1 : Nat) : Int) ∧ Ext w wr ∧ b = .int .i64 (bestN f k : Nat)) (fun _ i _ => 11 - (intOf i).toNat)
  case atStart => exact ⟨0, by omega, rfl, Ext.refl _, rfl⟩
  case round =>
    obtain ⟨k, hk, rfl, hE, rfl⟩ := hrel
    have hb := bestN_le f k
    by_cases hk9 : k < 9
    · have HS := Lib.hid (bestN_succ f k)
      obtain ⟨b, hbb⟩ : ∃ b, bestN f k = b := ⟨_, rfl⟩
      rw [hbb] at hb HS ⊢
      have HB := Lib.hid hbb
      clear hbb
      have m1 := HF.out (k + 1)
      have m2 := HF.out b
      have K1 := Lib.hid (by have h := K.out (k + 1) (by omega); simpa only [Int.natCast_add, Int.natCast_one] using h)
      have K2 := Lib.hid (K.out b (by omega))
      obtain ⟨y, hy⟩ : ∃ y, f (k + 1) = y := ⟨_, rfl⟩
      obtain ⟨z, hz⟩ : ∃ z, f b = z := ⟨_, rfl⟩
      rw [hy] at m1 K1 HS
      rw [hz] at m2 K2 HS
      have HYZ := Lib.hid (And.intro hy hz)
      clear hy hz
      by_cases hc : y < z
      · have hF := Lib.hid (show bestN f (k + 1) = k + 1 by rw [HS.out, if_pos hc])
        go_wp2_with (first
          | (have _q := h1; go_at_call 21; (with_reducible refine (K2.out _ (hE.trans h1)).mono ?_); rintro E w2 ⟨rfl, h2⟩)
          | (go_at_call 21; (with_reducible refine (K1.out _ hE).mono ?_); rintro E w1 ⟨rfl, h1⟩))
        exact ⟨⟨k + 1, by omega, by go_num, (hE.trans h1).trans h2, by rw [hF.out]; go_num⟩, by simp [intOf]; omega⟩
      · have hF := Lib.hid (show bestN f (k + 1) = b by rw [HS.out, if_neg hc])
        go_wp2_with (first
          | (have _q := h1; go_at_call 21; (with_reducible refine (K2.out _ (hE.trans h1)).mono ?_); rintro E w2 ⟨rfl, h2⟩)
          | (go_at_call 21; (with_reducible refine (K1.out _ hE).mono ?_); rintro E w1 ⟨rfl, h1⟩))
        exact ⟨⟨k + 1, by omega, by go_num, (hE.trans h1).trans h2, by rw [hF.out]⟩, by simp [intOf]; omega⟩
    · obtain rfl : k = 9 := by omega
      obtain ⟨b, hbb⟩ : ∃ b, bestN f 9 = b := ⟨_, rfl⟩
      rw [hbb] at hb HR ⊢
      have HB := Lib.hid hbb
      clear hbb
      go_wp2
      go_loopw [6, 7] (fun m i wr => ∃ d : Nat, d ≤ 10 ∧ i = .int .i64 (d : Int) ∧ Ext w wr ∧ m = .int .i64 (margN f b d : Nat)) (fun _ i _ => 10 - (intOf i).toNat)
      case atStart => exact ⟨0, by omega, rfl, hE, rfl⟩
      case round =>
        obtain ⟨d, hd, rfl, hE, rfl⟩ := hrel
        by_cases hd10 : d < 10
        · have HS := Lib.hid (margN_succ f b d)
          have hm := (margN_inv f b d).1
          obtain ⟨m, hmm⟩ : ∃ m, margN f b d = m := ⟨_, rfl⟩
          rw [hmm] at HS hm ⊢
          by_cases hc : d = b
          · have hF := Lib.hid (show margN f b (d + 1) = m by rw [HS.out, if_neg (fun h => h hc)])
            have q0 : ((d : Int) != (b : Int)) = false := by rw [hc]; exact bne_self_eq_false' _
            have HM := Lib.hid (And.intro hmm hc)
            clear hmm hc
            go_wp2
            exact ⟨⟨d + 1, by omega, by go_num, hE, by rw [hF.out]⟩, by simp [intOf]; omega⟩
          · have m1 := HF.out d
            have m2 := HF.out b
            have q0 : ((d : Int) != (b : Int)) = true := by rw [bne_iff_ne]; omega
            have K1 := Lib.hid (K.out d hd10)
            have K2 := Lib.hid (K.out b (by omega))
            have m3 : f b ≤ f d := by rw [← HB.out]; exact bestN_min f 9 d (by omega)
            have hF := Lib.hid (show margN f b (d + 1) = min m (f d - f b) by rw [HS.out, if_pos hc])
            obtain ⟨y, hy⟩ : ∃ y, f d = y := ⟨_, rfl⟩
            obtain ⟨z, hz⟩ : ∃ z, f b = z := ⟨_, rfl⟩
            rw [hy] at m1 m3 K1 hF
            rw [hz] at m2 m3 K2 hF
            have HYZ := Lib.hid (And.intro hy (And.intro hz (And.intro hmm hc)))
            clear hy hz hmm hc
            go_wp2_with (first
              | (have _q := h1; go_at_call 21; (with_reducible refine (K2.out _ (hE.trans h1)).mono ?_); rintro E w2 ⟨rfl, h2⟩)
              | (go_at_call 21; (with_reducible refine (K1.out _ hE).mono ?_); rintro E w1 ⟨rfl, h1⟩))
            all_goals exact ⟨⟨d + 1, by omega, by first | omega | go_num, (hE.trans h1).trans h2, by rw [hF.out]; first | omega | go_num⟩, by simp [intOf]; omega⟩
        · obtain rfl : d = 10 := by omega
          go_wp2
          go_ret2
          exact ⟨by rw [HR.out]; rfl, hE⟩
end Go.Proofs.Ytlnofbdhamingaa
