/- The walk of 'BeltPlace'. -/
import Derived.Test.YtcbimfaneinpkaaMoves
set_option linter.unusedVariables false
set_option linter.unusedSimpArgs false
namespace Go.Proofs.Ytcbimfaneinpkaa
open Go.RowKit Go.Sort

theorem window_ok {b : Belt} {p f t e : Int} (h : window b p = (f, t, e)) (he : e = 0) : b.ok ∧ f = winFrom b p ∧ t = winTo b p ∧ 1 ≤ p ∧ p ≤ 1000000 := by
  subst he
  unfold window at h
  split at h
  · split at h
    · rename_i h1 h2
      injection h with e1 e2
      injection e2 with e2 e3
      exact ⟨h1, e1.symm, e2.symm, h2.1, h2.2⟩
    · injection h with _ h; injection h with _ h; cases h
  · injection h with _ h; injection h with _ h; cases h
set_option maxRecDepth 100000 in
set_option maxHeartbeats 4000000 in
theorem w7 (b : Belt) (place length : Int) (v : Value) (l : List Nat) (w : World) (hv : BytesAt w v l) (hl : l.length ≤ maxLen) (hs : ∀ x ∈ l, x < 256) :
    Calls Try.prog 7 #[.agg #[.int .i64 b.step, .int .i64 b.slip, .int .i64 b.gate, .int .i64 b.length], .int .i64 place, .int .i64 length, v] w fun e w' => e = .returned (.bool true) ∧ Ext w w' := by
  have hm : maxLen = 9223372036854775807 := rfl
  rw [hm] at hl
  obtain ⟨ao, cap, rfl, -, hc⟩ := hv.form
  have HC := Lib.hid hc
  clear hc hv
  have K17 := Lib.hid (fun w => w17 b place w)
  have KA := Lib.hid c_alive
  obtain ⟨r, hr⟩ : ∃ r, window b place = r := ⟨_, rfl⟩
  rw [hr] at K17
  obtain ⟨fr, to, e⟩ := r
  simp only at K17
  by_cases he : e = 0
  case neg =>
    have t1 : (e != 0) = true := by simpa using he
    clear he hr
    go_enter Try.func7, Try.ntmps7
    go_wp2_with (first | (go_at_call 43; (with_reducible refine (KA.out _).mono ?_); rintro E w1 ⟨rfl, h1⟩; have E1 : Ext w w1 := ((Ext.refl _).alloc _).trans h1; have hB1 := Lib.hid (h1.blk (blk_at w _ rfl)); obtain ⟨⟨c0, c1, c2, c3⟩, f0, f1, f2, f3⟩ := run_4 hB1.out; have z1 : w.heap.size < w1.heap.size := World.block_lt_of_cell? _ _ c0) | (go_at_call 17; (with_reducible refine (K17.out _).mono ?_); rintro E w2 ⟨rfl, h2⟩; have E2 : Ext w w2 := E1.trans h2; have hB2 := Lib.hid (h2.blk hB1.out); clear c0 c1 c2 c3 f0 f1 f2 f3; obtain ⟨⟨c0, c1, c2, c3⟩, f0, f1, f2, f3⟩ := run_4 hB2.out; have z2 : w.heap.size < w2.heap.size := World.block_lt_of_cell? _ _ c0))
    go_ret
    exact ⟨rfl, E2⟩
  obtain ⟨hok, e1, e2, p0, p1⟩ := window_ok hr he
  have HE := Lib.hid (And.intro e1 e2)
  have ht := to_bd hok p0 p1
  have hf := from_bd hok p0 p1
  rw [← e1] at hf
  rw [← e2] at ht
  obtain ⟨hf1, hf2⟩ := hf
  obtain ⟨ht1, ht2⟩ := ht
  clear hr e1 e2
  subst he
  by_cases hl2 : l.length ≤ 200
  case neg =>
    have t2 : decide ((200 : Int) < (l.length : Int)) = true := decide_eq_true (by omega)
    go_enter Try.func7, Try.ntmps7
    go_wp2_with (first | (go_at_call 43; (with_reducible refine (KA.out _).mono ?_); rintro E w1 ⟨rfl, h1⟩; have E1 : Ext w w1 := ((Ext.refl _).alloc _).trans h1; have hB1 := Lib.hid (h1.blk (blk_at w _ rfl)); obtain ⟨⟨c0, c1, c2, c3⟩, f0, f1, f2, f3⟩ := run_4 hB1.out; have z1 : w.heap.size < w1.heap.size := World.block_lt_of_cell? _ _ c0) | (go_at_call 17; (with_reducible refine (K17.out _).mono ?_); rintro E w2 ⟨rfl, h2⟩; have E2 : Ext w w2 := E1.trans h2; have hB2 := Lib.hid (h2.blk hB1.out); clear c0 c1 c2 c3 f0 f1 f2 f3; obtain ⟨⟨c0, c1, c2, c3⟩, f0, f1, f2, f3⟩ := run_4 hB2.out; have z2 : w.heap.size < w2.heap.size := World.block_lt_of_cell? _ _ c0))
    go_ret
    exact ⟨rfl, E2⟩
  have t2 : decide ((200 : Int) < (l.length : Int)) = false := decide_eq_false (by omega)
  by_cases hn : 0 ≤ length
  case neg =>
    have t3 : decide (length < 0) = true := decide_eq_true (by omega)
    go_enter Try.func7, Try.ntmps7
    go_wp2_with (first | (go_at_call 43; (with_reducible refine (KA.out _).mono ?_); rintro E w1 ⟨rfl, h1⟩; have E1 : Ext w w1 := ((Ext.refl _).alloc _).trans h1; have hB1 := Lib.hid (h1.blk (blk_at w _ rfl)); obtain ⟨⟨c0, c1, c2, c3⟩, f0, f1, f2, f3⟩ := run_4 hB1.out; have z1 : w.heap.size < w1.heap.size := World.block_lt_of_cell? _ _ c0) | (go_at_call 17; (with_reducible refine (K17.out _).mono ?_); rintro E w2 ⟨rfl, h2⟩; have E2 : Ext w w2 := E1.trans h2; have hB2 := Lib.hid (h2.blk hB1.out); clear c0 c1 c2 c3 f0 f1 f2 f3; obtain ⟨⟨c0, c1, c2, c3⟩, f0, f1, f2, f3⟩ := run_4 hB2.out; have z2 : w.heap.size < w2.heap.size := World.block_lt_of_cell? _ _ c0))
    go_ret
    exact ⟨rfl, E2⟩
  have t3 : decide (length < 0) = false := decide_eq_false (by omega)
  by_cases hn2 : length ≤ b.length
  case neg =>
    have t4 : decide (b.length < length) = true := decide_eq_true (by omega)
    go_enter Try.func7, Try.ntmps7
    go_wp2_with (first | (go_at_call 43; (with_reducible refine (KA.out _).mono ?_); rintro E w1 ⟨rfl, h1⟩; have E1 : Ext w w1 := ((Ext.refl _).alloc _).trans h1; have hB1 := Lib.hid (h1.blk (blk_at w _ rfl)); obtain ⟨⟨c0, c1, c2, c3⟩, f0, f1, f2, f3⟩ := run_4 hB1.out; have z1 : w.heap.size < w1.heap.size := World.block_lt_of_cell? _ _ c0) | (go_at_call 17; (with_reducible refine (K17.out _).mono ?_); rintro E w2 ⟨rfl, h2⟩; have E2 : Ext w w2 := E1.trans h2; have hB2 := Lib.hid (h2.blk hB1.out); clear c0 c1 c2 c3 f0 f1 f2 f3; obtain ⟨⟨c0, c1, c2, c3⟩, f0, f1, f2, f3⟩ := run_4 hB2.out; have z2 : w.heap.size < w2.heap.size := World.block_lt_of_cell? _ _ c0))
    go_ret
    exact ⟨rfl, E2⟩
  have t4 : decide (b.length < length) = false := decide_eq_false (by omega)
  have hbl : b.length ≤ 1000000 := hok.2.2.2.2.2.2.2
  have K44 := Lib.hid (fun w => w44 b w)
  rw [decide_eq_true hok] at K44
  have HOK := Lib.hid hok
  have hb := moved_bd hok
  have hlm : 1 ≤ least b ∧ most b ≤ 2000 := by obtain ⟨a1, a2, a3, a4, -⟩ := hok; unfold least most; omega
  have HB := Lib.hid hb
  have HLM := Lib.hid hlm
  clear hb hlm hok
  go_enter Try.func7, Try.ntmps7
  go_wp2_with (first | (go_at_call 43; (with_reducible refine (KA.out _).mono ?_); rintro E w1 ⟨rfl, h1⟩; have E1 : Ext w w1 := ((Ext.refl _).alloc _).trans h1; have hB1 := Lib.hid (h1.blk (blk_at w _ rfl)); obtain ⟨⟨c0, c1, c2, c3⟩, f0, f1, f2, f3⟩ := run_4 hB1.out; have z1 : w.heap.size < w1.heap.size := World.block_lt_of_cell? _ _ c0) | (go_at_call 17; (with_reducible refine (K17.out _).mono ?_); rintro E w2 ⟨rfl, h2⟩; have E2 : Ext w w2 := E1.trans h2; have hB2 := Lib.hid (h2.blk hB1.out); clear c0 c1 c2 c3 f0 f1 f2 f3; obtain ⟨⟨c0, c1, c2, c3⟩, f0, f1, f2, f3⟩ := run_4 hB2.out; have z2 : w.heap.size < w2.heap.size := World.block_lt_of_cell? _ _ c0) | (go_at_call 44; (with_reducible refine (K44.out _).mono ?_); rintro E w3 ⟨rfl, h3⟩; have E3 : Ext w w3 := E2.trans h3; have hB3 := Lib.hid (h3.blk hB2.out); clear c0 c1 c2 c3 f0 f1 f2 f3))
  go_loopw [13, 48] (fun s i wr => ∃ (k : Nat) (sum : Int), k ≤ l.length ∧ i = .int .i64 (k : Int) ∧ s = .int .i64 sum ∧ Hid ((k : Int) * least b ≤ sum ∧ sum ≤ (k : Int) * most b) ∧ Ext w wr ∧ Hid (wr.heap[w.heap.size]? = some (.cells #[.int .i64 b.step, .int .i64 b.slip, .int .i64 b.gate, .int .i64 b.length] 23)) ∧ 0 ≤ sum ∧ sum ≤ 400000) (fun _ i _ => l.length - (intOf i).toNat)
  case atStart => exact ⟨0, 0, by omega, rfl, rfl, Lib.hid (by simp), E3, hB3, by omega, by omega⟩
  case round =>
    obtain ⟨k, sum, hk, rfl, rfl, hS, hE, hB, s0, s1⟩ := hrel
    by_cases hkl : k < l.length
    · obtain ⟨bo, off, rfl, x0⟩ := HC.out k hkl
      have x0 := hE.get x0
      obtain ⟨⟨c0, c1, c2, c3⟩, f0, f1, f2, f3⟩ := run_4 hB.out
      have z1 : w.heap.size < wr.heap.size := World.block_lt_of_cell? _ _ c0
      have hx : l.getD k 0 < 256 := hs _ (by rw [List.getD_eq_getElem?_getD, List.getElem?_eq_getElem hkl]; exact List.getElem_mem hkl)
      obtain ⟨x, hxx⟩ : ∃ x, l.getD k 0 = x := ⟨_, rfl⟩
      rw [hxx] at x0 hx
      clear hxx
      have K45 := Lib.hid (fun w => w45 b HOK.out x hx w)
      have hmv := HB.out (x : Int)
      obtain ⟨m, hm2⟩ : ∃ m, movedR b (x : Int) = m := ⟨_, rfl⟩
      rw [hm2] at K45 hmv
      clear hm2
      have hst := Lib.hid (reach_step HOK.out hS.out.1 hS.out.2 hmv.1 hmv.2)
      have hlm := HLM.out
      have hbd : ((k + 1 : Nat) : Int) * most b ≤ 400000 := by
        have h1 : ((k + 1 : Nat) : Int) * most b ≤ ((k + 1 : Nat) : Int) * 2000 := Int.mul_le_mul_of_nonneg_left hlm.2 (by omega)
        omega
      have hs2 : 0 ≤ sum + m ∧ sum + m ≤ 400000 := by
        have := hst.out.2
        rw [show ((k : Int) + 1) = ((k + 1 : Nat) : Int) by omega] at this
        omega
      have hm3 : 0 ≤ m ∧ m ≤ 2000 := by omega
      have hpl : place ≤ sum + m → sum - length ≤ place → fr ≤ (k : Int) + 1 ∧ (k : Int) + 1 ≤ to := fun g1 g2 => by
        rw [HE.out.1, HE.out.2]
        exact place_ok HOK.out hS.out.1 hS.out.2 hmv.1 hmv.2 hn2 g1 g2
      have HPL := Lib.hid hpl
      obtain ⟨m0, m1⟩ := hm3
      have HS2 := Lib.hid hs2
      clear hmv hbd hs2 hlm hpl
      have fin : ∀ w4, Ext wr w4 → ∃ (k' : Nat) (sum' : Int), k' ≤ l.length ∧ Value.int .i64 ((k : Int) + 1) = .int .i64 (k' : Int) ∧ Value.int .i64 (sum + m) = .int .i64 sum' ∧ Hid ((k' : Int) * least b ≤ sum' ∧ sum' ≤ (k' : Int) * most b) ∧ Ext w w4 ∧ Hid (w4.heap[w.heap.size]? = some (.cells #[.int .i64 b.step, .int .i64 b.slip, .int .i64 b.gate, .int .i64 b.length] 23)) ∧ 0 ≤ sum' ∧ sum' ≤ 400000 := fun w4 h4 =>
        ⟨k + 1, sum + m, by omega, by go_num, rfl, Lib.hid (by have := hst.out; rw [show ((k + 1 : Nat) : Int) = (k : Int) + 1 by omega]; exact this), hE.trans h4, Lib.hid (h4.blk hB.out), HS2.out.1, HS2.out.2⟩
      have FIN := Lib.hid fin
      clear fin
      by_cases g1 : place ≤ sum + m
      · have u1 : decide (place ≤ sum + m) = true := decide_eq_true g1
        by_cases g2 : sum - length ≤ place
        · have u2 : decide (sum - length ≤ place) = true := decide_eq_true g2
          obtain ⟨g3, g4⟩ := HPL.out g1 g2
          have u3 : decide ((k : Int) + 1 < fr) = false := decide_eq_false (by omega)
          have u4 : decide (to < (k : Int) + 1) = false := decide_eq_false (by omega)
          go_wp2_with (go_at_call 45; (with_reducible refine (K45.out _).mono ?_); rintro E w4 ⟨rfl, h4⟩)
          go_roundw
          case rel => exact FIN.out _ h4
          case measure => simp [intOf]; omega
        · have u2 : decide (sum - length ≤ place) = false := decide_eq_false g2
          go_wp2_with (go_at_call 45; (with_reducible refine (K45.out _).mono ?_); rintro E w4 ⟨rfl, h4⟩)
          go_roundw
          case rel => exact FIN.out _ h4
          case measure => simp [intOf]; omega
      · have u1 : decide (place ≤ sum + m) = false := decide_eq_false g1
        go_wp2_with (go_at_call 45; (with_reducible refine (K45.out _).mono ?_); rintro E w4 ⟨rfl, h4⟩)
        go_roundw
        case rel => exact FIN.out _ h4
        case measure => simp [intOf]; omega
    · obtain rfl : k = l.length := by omega
      go_wp2
      go_ret
      exact ⟨rfl, hE⟩
end Go.Proofs.Ytcbimfaneinpkaa
