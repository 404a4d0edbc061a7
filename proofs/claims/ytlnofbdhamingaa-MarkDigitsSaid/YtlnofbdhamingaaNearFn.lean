/- The nearest digit: the program's. -/
import Derived.Test.YtlnofbdhamingaaNearPlain
set_option linter.unusedVariables false
set_option linter.unusedSimpArgs false
namespace Go.Proofs.Ytlnofbdhamingaa
open Go.RowKit Go.Sort

theorem arr_get {g : List Nat} {k : Nat} (hk : k < g.length) : (bytesL g).toArray[k]? = some (.int .u8 (g.getD k 0 : Nat)) := by
  simp [bytesL, List.getElem?_map, List.getD_eq_getElem?_getD, List.getElem?_eq_getElem hk]
theorem run_index_arr (w : World) (g : List Nat) (k : Nat) (hg : g.length = 15) (hk : k < 15) :
    (Instr.index 43 (.agg (bytesL g).toArray) (.int .i64 (k : Int))).run Try.prog w = .ok (.int .u8 (g.getD k 0 : Nat)) w := by
  have h1 : (0 : Int) ≤ (k : Int) ∧ (k : Int) < ((15 : Nat) : Int) := by omega
  have h2 := arr_get (g := g) (k := k) (by omega)
  have e : (Instr.index 43 (.agg (bytesL g).toArray) (.int .i64 (k : Int))).run Try.prog w = (part 5 (bytesL g).toArray k).run Try.prog w := by
    simp only [Instr.index, asIntOf, Sem.run_bind, Sem.run_pure, Result.andThen_ok, run_underlying Try.underlying43, if_pos h1, Try.sizeOf5, Int.toNat_natCast, Nat.mul_one]
  rw [e]
  simp only [part, Sem.run_bind, Try.isAgg5, Result.andThen_ok, Bool.false_eq_true, if_false, h2, Sem.run_pure]
theorem nearN_succ (f : Nat → Nat) (k : Nat) : nearN f (k + 1) = if f k < (nearN f k).2.1 then (k, f k, (nearN f k).2.1) else ((nearN f k).1, (nearN f k).2.1, min (nearN f k).2.2 (f k)) := rfl
set_option maxRecDepth 100000 in
set_option maxHeartbeats 8000000 in
theorem c_nearest (v : Value) (ms : List Nat) (w : World) (hv : BytesAt w v ms) (hl : ms.length = 15) :
    Calls Try.prog 14 #[v] w fun e w' => e = .returned (.tuple #[.int .i64 ((nearestR ms).1 : Nat), .int .i64 ((nearestR ms).2 : Nat)]) ∧ Ext w w' := by
  obtain ⟨ao, cap, rfl, -, hc⟩ := hv.form
  have HC := Lib.hid hc
  have HL := Lib.hid hl
  have HN := Lib.hid (nearest_of ms)
  clear hc hv hl
  go_enter Try.func14, Try.ntmps14
  go_wp2
  go_loopw [4, 5, 6, 11] (fun b l n i wr => ∃ d : Nat, d ≤ 10 ∧ i = .int .i64 (d : Int) ∧ Ext w wr ∧ b = .int .i64 ((nearN (dist ms) d).1 : Nat) ∧ l = .int .i64 ((nearN (dist ms) d).2.1 : Nat) ∧ n = .int .i64 ((nearN (dist ms) d).2.2 : Nat)) (fun _ _ _ i _ => 10 - (intOf i).toNat)
  case atStart => exact ⟨0, by omega, rfl, Ext.refl _, rfl, rfl, rfl⟩
  case round =>
    obtain ⟨d, hd, rfl, hE, rfl, rfl, rfl⟩ := hrel
    by_cases hd10 : d < 10
    · have K := Lib.hid (c_glyph d hd10 wr)
      have hgl := glyphR_length d hd10
      have HD := Lib.hid (show dist ms d = distK (glyphR d) ms 15 from rfl)
      have HB := Lib.hid (nearN_bd (dist ms) (dist_le ms) d)
      have HS := Lib.hid (nearN_succ (dist ms) d)
      obtain ⟨s, hs⟩ : ∃ s, nearN (dist ms) d = s := ⟨_, rfl⟩
      obtain ⟨g, hg⟩ : ∃ g, glyphR d = g := ⟨_, rfl⟩
      rw [hs] at HB HS ⊢
      rw [hg] at K hgl HD
      obtain ⟨s1, s2, s3⟩ := s
      have HG := Lib.hid hgl
      have HX := Lib.hid (And.intro hs hg)
      clear hgl hs hg
      go_wp2_with (go_at_call 11; (with_reducible refine K.out.mono ?_); rintro E w1 ⟨rfl, h1⟩)
      have hE1 := hE.trans h1
      go_loopw [8, 16] (fun n i wr => ∃ k : Nat, k ≤ 15 ∧ i = .int .i64 (k : Int) ∧ Ext w wr ∧ n = .int .i64 (distK g ms k : Nat)) (fun _ i _ => 15 - (intOf i).toNat)
      case atStart => exact ⟨0, by omega, rfl, hE1, rfl⟩
      case round =>
        obtain ⟨k, hk, rfl, hE2, rfl⟩ := hrel
        by_cases hkl : k < 15
        · have hag := run_index_arr wr g k HG.out hkl
          obtain ⟨b, off, rfl, c0⟩ := HC.out k (by rw [HL.out]; exact hkl)
          have c0 := hE2.get c0
          have HK := Lib.hid (show distK g ms (k + 1) = distK g ms k + (if ms.getD k 0 ≠ 2 ∧ ms.getD k 0 ≠ g.getD k 0 then 1 else 0) from rfl)
          have hdk := distK_le g ms k
          obtain ⟨x, hx⟩ : ∃ x, ms.getD k 0 = x := ⟨_, rfl⟩
          obtain ⟨y, hy⟩ : ∃ y, g.getD k 0 = y := ⟨_, rfl⟩
          obtain ⟨n, hn⟩ : ∃ n, distK g ms k = n := ⟨_, rfl⟩
          rw [hx] at c0 HK
          rw [hy] at hag HK
          rw [hn] at HK hdk ⊢
          have HXY := Lib.hid (And.intro hx (And.intro hy hn))
          clear hx hy hn
          rw [HL.out]
          by_cases h2 : x = 2
          · have q0 : ((x : Int) = 2) := by omega
            have HF := Lib.hid (show distK g ms (k + 1) = n by rw [HK.out, if_neg (fun h => h.1 h2)]; rfl)
            go_wp2
            exact ⟨⟨k + 1, by omega, by go_num, hE2, by rw [HF.out]⟩, by simp [intOf]; omega⟩
          · have q0 : ¬ ((x : Int) = 2) := by omega
            by_cases h3 : x = y
            · subst h3
              have HF := Lib.hid (show distK g ms (k + 1) = n by rw [HK.out, if_neg (fun h => h.2 rfl)]; rfl)
              go_wp2
              exact ⟨⟨k + 1, by omega, by go_num, hE2, by rw [HF.out]⟩, by simp [intOf]; omega⟩
            · have q1 : ((x : Int) != (y : Int)) = true := by rw [bne_iff_ne]; omega
              have q2 : ((x : Int) != 2) = true := by rw [bne_iff_ne]; exact q0
              have HF := Lib.hid (show distK g ms (k + 1) = n + 1 by rw [HK.out, if_pos ⟨h2, h3⟩])
              go_wp2
              exact ⟨⟨k + 1, by omega, by go_num, hE2, by rw [HF.out]; go_num⟩, by simp [intOf]; omega⟩
        · obtain rfl : k = 15 := by omega
          have hdk := distK_le g ms 15
          obtain ⟨n, hn⟩ : ∃ n, distK g ms 15 = n := ⟨_, rfl⟩
          rw [hn] at HD hdk ⊢
          have HNN := Lib.hid hn
          clear hn
          obtain ⟨b1, b2, b3⟩ := HB.out
          by_cases hq : n < s2
          · have q : ((n : Int) < (s2 : Int)) := by omega
            have HF := Lib.hid (show nearN (dist ms) (d + 1) = (d, n, s2) by rw [HS.out, HD.out, if_pos hq])
            go_wp2
            exact ⟨⟨d + 1, by omega, by go_num, hE2, by rw [HF.out], by rw [HF.out], by rw [HF.out]⟩, by simp [intOf]; omega⟩
          · have q : ¬ ((n : Int) < (s2 : Int)) := by omega
            have HF := Lib.hid (show nearN (dist ms) (d + 1) = (s1, s2, min s3 n) by rw [HS.out, HD.out, if_neg hq])
            obtain ⟨mn, hmn⟩ : ∃ mn : Int, min (s3 : Int) (n : Int) = mn := ⟨_, rfl⟩
            have HM := Lib.hid hmn
            clear hmn
            go_wp2
            exact ⟨⟨d + 1, by omega, by go_num, hE2, by rw [HF.out], by rw [HF.out], by rw [HF.out]; go_num⟩, by simp [intOf]; omega⟩
    · obtain rfl : d = 10 := by omega
      obtain ⟨h1, h2⟩ := HN.out
      have b := nearN_bd (dist ms) (dist_le ms) 10
      have c := nearest_bd ms
      obtain ⟨s, hs⟩ : ∃ s, nearN (dist ms) 10 = s := ⟨_, rfl⟩
      obtain ⟨r, hr⟩ : ∃ r, nearestR ms = r := ⟨_, rfl⟩
      rw [hs] at h1 h2 b
      rw [hr] at h1 h2 c
      have HR := Lib.hid hr
      rw [hs]
      clear hs hr HN
      obtain ⟨s1, s2, s3⟩ := s
      obtain ⟨r1, r2⟩ := r
      dsimp only at h1 h2 b c ⊢
      subst h1 h2
      go_wp2
      go_ret2
      exact ⟨by rw [HR.out]; congr 1; simp; omega, hE⟩
/-- the greatest byte of a list -/
def maxU (l : List Nat) : Nat → Nat
  | 0 => l.getD 0 0
  | k + 1 => max (maxU l k) (l.getD (k + 1) 0)
theorem maxU_ge (l : List Nat) : ∀ k, ∀ j ≤ k, l.getD j 0 ≤ maxU l k
  | 0, j, h => by obtain rfl : j = 0 := by omega
                  exact Nat.le_refl _
  | k + 1, j, h => by
    rcases Nat.lt_or_ge k j with h9 | h9
    · obtain rfl : j = k + 1 := by omega
      exact Nat.le_max_right _ _
    · exact Nat.le_trans (maxU_ge l k j h9) (Nat.le_max_left _ _)
theorem maxU_in (l : List Nat) : ∀ k, ∃ j ≤ k, maxU l k = l.getD j 0
  | 0 => ⟨0, Nat.le_refl _, rfl⟩
  | k + 1 => by
    obtain ⟨j, hj, e⟩ := maxU_in l k
    rcases Nat.le_total (maxU l k) (l.getD (k + 1) 0) with h | h
    · exact ⟨k + 1, Nat.le_refl _, Nat.max_eq_right h⟩
    · exact ⟨j, by omega, (Nat.max_eq_left h).trans e⟩
set_option maxRecDepth 100000 in
set_option maxHeartbeats 4000000 in
theorem c_maxU (v : Value) (l : List Nat) (w : World) (hv : BytesAt w v l) (hl : 1 ≤ l.length) (hm : l.length ≤ 1000) :
    Calls Try.prog 13 #[v] w fun e w' => e = .returned (.int .u8 (maxU l (l.length - 1) : Nat)) ∧ Ext w w' := by
  obtain ⟨ao, cap, rfl, -, hc⟩ := hv.form
  have c00 := hc 0 (by omega)
  have HC := Lib.hid hc
  clear hc hv
  obtain ⟨b0, off0, rfl, c0⟩ := c00
  obtain ⟨x0, hx0⟩ : ∃ x, l.getD 0 0 = x := ⟨_, rfl⟩
  rw [hx0, Nat.add_zero] at c0
  have HX := Lib.hid hx0
  clear hx0
  have q0 : ¬ ((l.length : Int) < 1) := by omega
  go_enter Try.func13, Try.ntmps13
  go_wp2
  go_loopw [3, 4] (fun m i wr => ∃ k : Nat, k + 1 ≤ l.length ∧ i = .int .i64 ((k + 1 : Nat) : Int) ∧ Ext w wr ∧ m = .int .u8 (maxU l k : Nat)) (fun _ i _ => l.length - (intOf i).toNat)
  case atStart => exact ⟨0, hl, rfl, Ext.refl _, by rw [← HX.out]; rfl⟩
  case round =>
    obtain ⟨k, hk, rfl, hE, rfl⟩ := hrel
    by_cases hkl : k + 1 < l.length
    · obtain ⟨b, off, hbo, c1⟩ := HC.out (k + 1) hkl
      obtain ⟨rfl, rfl⟩ : b0 = b ∧ off0 = off := by injection hbo with h; injection h with h1 h2; exact ⟨h1, h2⟩
      have c1 := hE.get c1
      have HM := Lib.hid (show maxU l (k + 1) = max (maxU l k) (l.getD (k + 1) 0) from rfl)
      obtain ⟨x, hx⟩ : ∃ x, l.getD (k + 1) 0 = x := ⟨_, rfl⟩
      rw [hx] at c1 HM
      obtain ⟨m, hm'⟩ : ∃ m, maxU l k = m := ⟨_, rfl⟩
      rw [hm'] at HM ⊢
      have HH := Lib.hid (And.intro hx hm')
      clear hx hm' hbo
      go_wp2
      trace_state
      refine ⟨⟨k + 1, by omega, by go_num, hE, by rw [HM.out]; go_num⟩, by simp [intOf]; omega⟩
    · obtain rfl : k = l.length - 1 := by omega
      go_wp2
      go_ret
      exact ⟨rfl, hE⟩
end Go.Proofs.Ytlnofbdhamingaa
