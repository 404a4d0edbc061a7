/- 'MarkSharp' returns true. -/
import Derived.Test.YtlnofbdhamingaaDoorAliveC
import Derived.Test.YtlnofbdhamingaaDoorSharpPlain
import Derived.Test.YtlnofbdhamingaaDoorGlyphO
import Derived.Test.YtlnofbdhamingaaDoorTail
set_option linter.unusedVariables false
set_option linter.unusedSimpArgs false
namespace Go.Proofs.YtlnofbdhamingaaDoor
open Go.RowKit Go.Sort

theorem glyphI_bad {d : Int} (h : ¬ (0 ≤ d ∧ d ≤ 9)) : glyphI d = ([], 2) := if_neg h
set_option maxRecDepth 100000 in
set_option maxHeartbeats 8000000 in
theorem sharp_walk (dg : Int) (v : Value) (ch : List Nat) (w : World) (hT : Tabs w) (hv : BytesAt w v ch) (hn : ch.length ≤ 140737488351232) :
    Calls Tryd.prog 17 #[.int .i64 dg, v] w fun e w' => e = .returned (.bool true) ∧ Ext w w' := by
  have K0 := Lib.hid (l_alive w hT)
  by_cases h : 0 ≤ dg ∧ dg ≤ 9
  · obtain ⟨d, rfl⟩ := Int.eq_ofNat_of_zero_le h.1
    have hd : d < 10 := by omega
    have KG := Lib.hid (fun w' => c_GlyphO d hd w')
    obtain ⟨b, m, hdi, hb9, hor⟩ := sharp_law (ch := ch) hd
    have GB := Lib.hid (glyph_bits hd)
    have r4 : decide ((0 : Int) ≤ (b : Int)) = true := decide_eq_true (by omega)
    have r5 : decide ((b : Int) ≤ 9) = true := decide_eq_true (by omega)
    have r5n : decide (b ≤ 9) = true := decide_eq_true (by omega)
    have r6 : decide ((0 : Int) ≤ (m : Int)) = true := decide_eq_true (by omega)
    have GL := glyphR_length d hd
    obtain ⟨G, hG⟩ : ∃ G, glyphR d = G := ⟨_, rfl⟩
    rw [hG] at KG hdi GB GL
    have HDI := Lib.hid hdi
    have HOR := Lib.hid hor
    have KD := Lib.hid (fun w' v' (hv' : BytesAt w' v' (sharpK G ch 15)) => by
      have k := c_Digit v' _ w' hv'
      rw [hdi] at k
      exact (show Calls Tryd.prog 52 #[v'] w' fun e w'' => e = .returned (.tuple #[.int .i64 (b : Int), .int .i64 (m : Int), .int .i64 0]) ∧ Ext w' w'' from k))
    have GZ := Lib.hid (sharpK_zero ch GL)
    have q1 : decide ((d : Int) < 0) = false := decide_eq_false (by omega)
    have q2 : decide ((9 : Int) < (d : Int)) = false := decide_eq_false (by omega)
    have HV := Lib.hid hv
    obtain ⟨ao, ac, rfl, -, hc⟩ := hv.form
    have HC := Lib.hid hc
    clear hG hdi hor GL hv hc h hT hn
    go_enter Tryd.func17, Tryd.ntmps17
    go_wp2_with (first
      | (go_at_call 38; (with_reducible refine K0.out.mono ?_); rintro E w0 ⟨rfl, e0⟩)
      | (go_at_call 51; (with_reducible refine (KG.out _).mono ?_); rintro E w1 ⟨v1, rfl, o1, h1⟩; obtain ⟨g1, c1, rfl, hg1, -⟩ := owns_some o1 (by decide)))
    have O1 := Lib.hid (show w1.ownsRow w0.heap.size 112 1 (.slice (some ⟨g1, 0, none⟩) 15 c1) 15 (bytesL (sharpK G ch 0)) by rw [GZ.out]; exact o1)
    clear o1 KG K0 GZ
    go_loopw [8, 9] (fun nn ii wi => ∃ i : Nat, i ≤ 15 ∧ ii = .int .i64 (i : Int) ∧ Ext w0 wi ∧ Hid (wi.ownsRow w0.heap.size 112 1 (.slice (some ⟨g1, 0, none⟩) 15 c1) 15 (bytesL (sharpK G ch i))) ∧ nn = .int .i64 ((wrongS ch i : Nat) : Int)) (fun _ ii _ => 15 - (intOf ii).toNat)
    case atStart => exact ⟨0, Nat.zero_le _, rfl, h1, O1, rfl⟩
    case round =>
      clear O1
      obtain ⟨i, hi, rfl, hE, hO, rfl⟩ := hrel
      by_cases hi15 : i < 15
      · have p1 : decide ((i : Int) < 15) = true := decide_eq_true (by omega)
        by_cases hil : i < ch.length
        · have p2 : decide ((i : Int) < (ch.length : Int)) = true := decide_eq_true (by omega)
          have p3 : (i : Int) < (ch.length : Int) := by omega
          obtain ⟨cb, co, rfl, c0'⟩ := HC.out i hil
          have c0 := (e0.trans hE).get c0'
          have r0 : wr.cell? ⟨g1, i, none⟩ = some (.int .u8 ((G.getD i 0 : Nat) : Int)) := by
            rw [hO.out.cellAt i (by omega), bytesL_get (by rw [sharpK_len]; omega), sharpK_get hi15, if_neg (by omega)]
          have r1 := hO.out.frozenAt i
          have gb := GB.out i
          have HSet := Lib.hid (sharpK_set (g := G) (ch := ch) hi15)
          have HSame := Lib.hid (fun h => sharpK_same (g := G) (ch := ch) hi15 h)
          have HAt := Lib.hid (show sharpAt G ch i = if ch.getD i 0 % 8 = 1 then 1 - G.getD i 0 else if ch.getD i 0 % 8 = 2 then 2 else G.getD i 0 from rfl)
          have HW := Lib.hid (show wrongS ch (i + 1) = wrongS ch i + (if ch.getD i 0 % 8 = 1 then 1 else 0) from rfl)
          have hwl := wrongS_le ch i
          have m8 : ((ch.getD i 0 : Nat) : Int).tmod 8 = ((ch.getD i 0 % 8 : Nat) : Int) := rfl
          obtain ⟨mm, hmm⟩ : ∃ m, ch.getD i 0 % 8 = m := ⟨_, rfl⟩
          rw [hmm] at HW HAt m8
          obtain ⟨x, hx⟩ : ∃ x, ch.getD i 0 = x := ⟨_, rfl⟩
          obtain ⟨g, hg⟩ : ∃ x, G.getD i 0 = x := ⟨_, rfl⟩
          obtain ⟨n, hn9⟩ : ∃ n, wrongS ch i = n := ⟨_, rfl⟩
          rw [hx] at c0 m8
          rw [hg] at r0 gb HAt HSame
          rw [hn9] at HW hwl ⊢
          have HZ := Lib.hid (And.intro hmm (And.intro hx (And.intro hg hn9)))
          clear hmm hx hg hn9 c0'
          by_cases m1 : mm = 1
          · have k1 : ((mm : Int) == 1) = true := by rw [m1]; rfl
            have W1 : (1 : Int) - (g : Int) = ((1 - g : Nat) : Int) := by omega
            have HA := Lib.hid (show sharpAt G ch i = 1 - g by rw [HAt.out, if_pos m1])
            have HN := Lib.hid (show wrongS ch (i + 1) = n + 1 by rw [HW.out, if_pos m1])
            obtain ⟨z, hz⟩ : ∃ z, 1 - g = z := ⟨_, rfl⟩
            rw [hz] at W1 HA
            clear m1 hz
            go_wp2
            exact ⟨⟨i + 1, by omega, by go_num, hE.setCell (p := ⟨_, i, none⟩) hg1 _, Lib.hid (by
              have h := (hO.out.stored i (.int .u8 (z : Int))).1
              rw [bytesL_set, ← HA.out, HSet.out] at h
              rw [← HA.out]
              exact h), by rw [HN.out]; go_num⟩, by simp [intOf]; omega⟩
          · have k1 : ((mm : Int) == 1) = false := by simp; omega
            have HN := Lib.hid (show wrongS ch (i + 1) = n by rw [HW.out, if_neg m1, Nat.add_zero])
            by_cases m2 : mm = 2
            · have k2 : ((mm : Int) == 2) = true := by rw [m2]; rfl
              have HA := Lib.hid (show sharpAt G ch i = 2 by rw [HAt.out, if_neg m1, if_pos m2])
              clear m1 m2
              go_wp2
              exact ⟨⟨i + 1, by omega, by go_num, hE.setCell (p := ⟨_, i, none⟩) hg1 _, Lib.hid (by
                have h := (hO.out.stored i (.int .u8 ((2 : Nat) : Int))).1
                rw [bytesL_set, ← HA.out, HSet.out] at h
                rw [HA.out] at h
                exact h), by rw [HN.out]⟩, by simp [intOf]; omega⟩
            · have k2 : ((mm : Int) == 2) = false := by simp; omega
              have HA := Lib.hid (HSame.out (by rw [HAt.out, if_neg m1, if_neg m2]))
              clear m1 m2
              go_wp2
              exact ⟨⟨i + 1, by omega, by go_num, hE, Lib.hid (by rw [HA.out]; exact hO.out), by rw [HN.out]⟩, by simp [intOf]; omega⟩
        · have p2 : decide ((i : Int) < (ch.length : Int)) = false := decide_eq_false (by omega)
          have hfin := sharp_end (g := G) (ch := ch) (n := i) (by omega) (15 - i)
          rw [show i + (15 - i) = 15 by omega] at hfin
          have hfin : sharpK G ch i = sharpK G ch 15 ∧ wrongS ch i = wrongS ch 15 := ⟨hfin.1.symm, hfin.2.symm⟩
          have HB := Lib.hid (show BytesAt wr (.slice (some ⟨g1, 0, none⟩) 15 c1) (sharpK G ch 15) by
            have h9 := SlAt.of_owns hO.out
            rw [hfin.1] at h9
            exact h9)
          have HE := Lib.hid (e0.trans hE)
          rw [hfin.2]
          obtain ⟨n, hnn⟩ : ∃ n, wrongS ch 15 = n := ⟨_, rfl⟩
          rw [hnn] at HOR ⊢
          have hor := HOR.out
          by_cases hmn : m ≤ n
          · have q4 : decide ((m : Int) ≤ (n : Int)) = true := decide_eq_true (by omega)
            have q4n : decide (m ≤ n) = true := decide_eq_true (by omega)
            clear hor hmn hfin hnn hO hE
            go_wp2_with (go_at_call 52; (with_reducible refine (KD.out _ _ HB.out).mono ?_); rintro E w7 ⟨rfl, h7⟩)
            go_ret
            exact ⟨rfl, HE.out.trans h7⟩
          · have hbd : b = d := by rcases hor with h8 | h8; exact absurd h8 hmn; exact h8
            have q4 : decide ((m : Int) ≤ (n : Int)) = false := decide_eq_false (by omega)
            have q4n : decide (m ≤ n) = false := decide_eq_false (by omega)
            have q5 : ((b : Int) == (d : Int)) = true := by rw [hbd]; exact beq_self_eq_true _
            clear hor hmn hfin hnn hO hE hbd
            go_wp2_with (go_at_call 52; (with_reducible refine (KD.out _ _ HB.out).mono ?_); rintro E w7 ⟨rfl, h7⟩)
            go_ret
            exact ⟨rfl, HE.out.trans h7⟩
      · have p1 : decide ((i : Int) < 15) = false := decide_eq_false (by omega)
        have hfin : sharpK G ch i = sharpK G ch 15 ∧ wrongS ch i = wrongS ch 15 := by rw [show i = 15 by omega]; exact ⟨rfl, rfl⟩
        have h0 := hb9
        have HB := Lib.hid (show BytesAt wr (.slice (some ⟨g1, 0, none⟩) 15 c1) (sharpK G ch 15) by
          have h9 := SlAt.of_owns hO.out
          rw [hfin.1] at h9
          exact h9)
        have HE := Lib.hid (e0.trans hE)
        rw [hfin.2]
        obtain ⟨n, hnn⟩ : ∃ n, wrongS ch 15 = n := ⟨_, rfl⟩
        rw [hnn] at HOR ⊢
        have hor := HOR.out
        by_cases hmn : m ≤ n
        · have q4 : decide ((m : Int) ≤ (n : Int)) = true := decide_eq_true (by omega)
          have q4n : decide (m ≤ n) = true := decide_eq_true (by omega)
          clear hor hmn hfin hnn hO hE
          go_wp2_with (go_at_call 52; (with_reducible refine (KD.out _ _ HB.out).mono ?_); rintro E w7 ⟨rfl, h7⟩)
          go_ret
          exact ⟨rfl, HE.out.trans h7⟩
        · have hbd : b = d := by rcases hor with h8 | h8; exact absurd h8 hmn; exact h8
          have q4 : decide ((m : Int) ≤ (n : Int)) = false := decide_eq_false (by omega)
          have q4n : decide (m ≤ n) = false := decide_eq_false (by omega)
          have q5 : ((b : Int) == (d : Int)) = true := by rw [hbd]; exact beq_self_eq_true _
          clear hor hmn hfin hnn hO hE hbd
          go_wp2_with (go_at_call 52; (with_reducible refine (KD.out _ _ HB.out).mono ?_); rintro E w7 ⟨rfl, h7⟩)
          go_ret
          exact ⟨rfl, HE.out.trans h7⟩
  · have KG := Lib.hid (fun w' => c_Glyph dg w')
    rw [glyphI_bad h] at KG
    obtain ⟨ao, ac, rfl, -⟩ := hv.form
    clear hT hv hn
    by_cases h0 : dg < 0
    · clear h
      go_enter Tryd.func17, Tryd.ntmps17
      go_wp2_with (first
        | (go_at_call 38; (with_reducible refine K0.out.mono ?_); rintro E w0 ⟨rfl, e0⟩)
        | (go_at_call 51; (with_reducible refine (KG.out _).mono ?_); rintro E w1 ⟨v1, rfl, -, h1⟩))
      go_ret
      exact ⟨rfl, e0.trans h1⟩
    · have h9 : 9 < dg := by omega
      clear h
      go_enter Tryd.func17, Tryd.ntmps17
      go_wp2_with (first
        | (go_at_call 38; (with_reducible refine K0.out.mono ?_); rintro E w0 ⟨rfl, e0⟩)
        | (go_at_call 51; (with_reducible refine (KG.out _).mono ?_); rintro E w1 ⟨v1, rfl, -, h1⟩))
      go_ret
      exact ⟨rfl, e0.trans h1⟩
end Go.Proofs.YtlnofbdhamingaaDoor
