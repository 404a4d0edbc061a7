/- How far the belt moves, and the walk of 'BeltReach'. -/
import Derived.Test.YtcbimfaneinpkaaAlive
import Derived.Test.YtcbimfaneinpkaaBytes
set_option linter.unusedVariables false
set_option linter.unusedSimpArgs false
namespace Go.Proofs.Ytcbimfaneinpkaa
open Go.RowKit Go.Sort

set_option maxHeartbeats 2000000 in
theorem w45 (b : Belt) (hok : b.ok) (m : Nat) (hm : m < 256) (w : World) :
    Calls Try.prog 45 #[.agg #[.int .i64 b.step, .int .i64 b.slip, .int .i64 b.gate, .int .i64 b.length], .int .u8 (m : Int)] w fun e w' => e = .returned (.int .i64 (movedR b (m : Int))) ∧ Ext w w' := by
  obtain ⟨a1, a2, a3, a4, -⟩ := hok
  have h1 := Int.emod_nonneg (m : Int) (show 2 * b.slip + 1 ≠ 0 by omega)
  have h2 := Int.emod_lt_of_pos (m : Int) (show 0 < 2 * b.slip + 1 by omega)
  have h3 : (m : Int).tmod (2 * b.slip + 1) = (m : Int) % (2 * b.slip + 1) := Int.tmod_eq_emod_of_nonneg (by omega)
  unfold movedR
  go_enter Try.func45, Try.ntmps45
  go_wp2_with fail
  go_quiet (fail)
  go_wp2
  go_ret
  exact ⟨rfl, ((Ext.refl _).alloc _).drewN _⟩
theorem reach_ok {b : Belt} {n lo hi e : Int} (h : reach b n = (lo, hi, e)) (he : e = 0) : b.ok ∧ lo = n * least b ∧ hi = n * most b ∧ 0 ≤ n ∧ n ≤ 1000000 := by
  subst he
  unfold reach at h
  split at h
  · split at h
    · rename_i h1 h2
      injection h with e1 e2
      injection e2 with e2 e3
      exact ⟨h1, e1.symm, e2.symm, h2.1, h2.2⟩
    · injection h with _ h; injection h with _ h; cases h
  · injection h with _ h; injection h with _ h; cases h
set_option maxRecDepth 100000 in
set_option maxHeartbeats 4000000 in
theorem w15 (b : Belt) (v : Value) (l : List Nat) (w : World) (hv : BytesAt w v l) (hl : l.length ≤ maxLen) (hs : ∀ x ∈ l, x < 256) :
    Calls Try.prog 15 #[.agg #[.int .i64 b.step, .int .i64 b.slip, .int .i64 b.gate, .int .i64 b.length], v] w fun e w' => e = .returned (.bool true) ∧ Ext w w' := by
  have hm : maxLen = 9223372036854775807 := rfl
  rw [hm] at hl
  obtain ⟨ao, cap, rfl, -, hc⟩ := hv.form
  have HC := Lib.hid hc
  clear hc hv
  have K19 := Lib.hid (fun w => w19 b (l.length : Int) w)
  have KA := Lib.hid c_alive
  obtain ⟨r, hr⟩ : ∃ r, reach b (l.length : Int) = r := ⟨_, rfl⟩
  rw [hr] at K19
  obtain ⟨lo, hi, e⟩ := r
  simp only at K19
  by_cases he : e = 0
  case neg =>
    have t1 : (e != 0) = true := by simpa using he
    clear he hr
    go_enter Try.func15, Try.ntmps15
    go_wp2_with (first
      | (go_at_call 43; (with_reducible refine (KA.out _).mono ?_); rintro E w1 ⟨rfl, h1⟩; have E1 : Ext w w1 := ((Ext.refl _).alloc _).trans h1; have hc := h1.cell; have hz := h1.size)
      | (go_at_call 19; (with_reducible refine (K19.out _).mono ?_); rintro E w2 ⟨rfl, h2⟩))
    go_ret
    exact ⟨rfl, E1.trans h2⟩
  obtain ⟨hok, e1, e2, n0, n1⟩ := reach_ok hr he
  have HE := Lib.hid (And.intro e1 e2)
  clear hr e1 e2
  subst he
  by_cases hl2 : l.length ≤ 200
  case neg =>
    have t2 : decide ((200 : Int) < (l.length : Int)) = true := decide_eq_true (by omega)
    go_enter Try.func15, Try.ntmps15
    go_wp2_with (first
      | (go_at_call 43; (with_reducible refine (KA.out _).mono ?_); rintro E w1 ⟨rfl, h1⟩; have E1 : Ext w w1 := ((Ext.refl _).alloc _).trans h1; have hc := h1.cell; have hz := h1.size)
      | (go_at_call 19; (with_reducible refine (K19.out _).mono ?_); rintro E w2 ⟨rfl, h2⟩))
    go_ret
    exact ⟨rfl, E1.trans h2⟩
  have t2 : decide ((200 : Int) < (l.length : Int)) = false := decide_eq_false (by omega)
  have K44 := Lib.hid (fun w => w44 b w)
  rw [decide_eq_true hok] at K44
  have HOK := Lib.hid hok
  have hb := moved_bd hok
  have hlm : 1 ≤ least b ∧ most b ≤ 2000 := by obtain ⟨a1, a2, a3, a4, -⟩ := hok; unfold least most; omega
  have HB := Lib.hid hb
  have HLM := Lib.hid hlm
  clear hb hlm hok
  go_enter Try.func15, Try.ntmps15
  go_wp2_with (first
    | (go_at_call 43; (with_reducible refine (KA.out _).mono ?_); rintro E w1 ⟨rfl, h1⟩; have E1 : Ext w w1 := ((Ext.refl _).alloc _).trans h1; have hB1 := Lib.hid (h1.blk (blk_at w _ rfl)); obtain ⟨⟨c0, c1, c2, c3⟩, f0, f1, f2, f3⟩ := run_4 hB1.out; have z1 : w.heap.size < w1.heap.size := World.block_lt_of_cell? _ _ c0)
    | (go_at_call 19; (with_reducible refine (K19.out _).mono ?_); rintro E w2 ⟨rfl, h2⟩; have E2 : Ext w w2 := E1.trans h2; have hB2 := Lib.hid (h2.blk hB1.out); clear c0 c1 c2 c3 f0 f1 f2 f3; obtain ⟨⟨c0, c1, c2, c3⟩, f0, f1, f2, f3⟩ := run_4 hB2.out; have z2 : w.heap.size < w2.heap.size := World.block_lt_of_cell? _ _ c0)
    | (go_at_call 44; (with_reducible refine (K44.out _).mono ?_); rintro E w3 ⟨rfl, h3⟩; have E3 : Ext w w3 := E2.trans h3; have hB3 := Lib.hid (h3.blk hB2.out); clear c0 c1 c2 c3 f0 f1 f2 f3))
  go_loopw [9, 34] (fun s i wr => ∃ (k : Nat) (sum : Int), k ≤ l.length ∧ i = .int .i64 (k : Int) ∧ s = .int .i64 sum ∧ Hid ((k : Int) * least b ≤ sum ∧ sum ≤ (k : Int) * most b) ∧ Ext w wr ∧ Hid (wr.heap[w.heap.size]? = some (.cells #[.int .i64 b.step, .int .i64 b.slip, .int .i64 b.gate, .int .i64 b.length] 23)) ∧ 0 ≤ sum ∧ sum ≤ 400000) (fun _ i _ => l.length - (intOf i).toNat)
  case atStart => exact ⟨0, 0, by omega, rfl, rfl, Lib.hid (by simp), E3, hB3, by omega, by omega⟩
  case round =>
    obtain ⟨k, sum, hk, rfl, rfl, hS, hE, hB, s0, s1⟩ := hrel
    by_cases hkl : k < l.length
    · obtain ⟨bo, off, rfl, x0⟩ := HC.out k hkl
      have x0 := hE.get x0
      obtain ⟨⟨c0, c1, c2, c3⟩, f0, f1, f2, f3⟩ := run_4 hB.out
      have z1 : w.heap.size < wr.heap.size := World.block_lt_of_cell? _ _ c0
      have hx : l.getD k 0 < 256 := hs _ (by rw [List.getD_eq_getElem?_getD, List.getElem?_eq_getElem hkl]; exact List.getElem_mem hkl)
      obtain ⟨x, hxx⟩ : ∃ x, l.getD k 0 = x := ⟨_, rfl⟩
      rw [hxx] at x0 hx
      clear hxx
      have K45 := Lib.hid (fun w => w45 b HOK.out x hx w)
      have hmv := HB.out (x : Int)
      obtain ⟨m, hm2⟩ : ∃ m, movedR b (x : Int) = m := ⟨_, rfl⟩
      rw [hm2] at K45 hmv
      clear hm2
      have hst := Lib.hid (reach_step HOK.out hS.out.1 hS.out.2 hmv.1 hmv.2)
      have hlm := HLM.out
      have hbd : ((k + 1 : Nat) : Int) * most b ≤ 400000 := by
        have h1 : ((k + 1 : Nat) : Int) * most b ≤ ((k + 1 : Nat) : Int) * 2000 := Int.mul_le_mul_of_nonneg_left hlm.2 (by omega)
        omega
      have hs2 : 0 ≤ sum + m ∧ sum + m ≤ 400000 := by
        have := hst.out.2
        rw [show ((k : Int) + 1) = ((k + 1 : Nat) : Int) by omega] at this
        omega
      have hm3 : 0 ≤ m ∧ m ≤ 2000 := by omega
      obtain ⟨m0, m1⟩ := hm3
      have HS2 := Lib.hid hs2
      clear hmv hbd hs2 hlm
      go_wp2_with (go_at_call 45; (with_reducible refine (K45.out _).mono ?_); rintro E w4 ⟨rfl, h4⟩)
      go_roundw
      case rel => exact ⟨k + 1, sum + m, by omega, by go_num, rfl, Lib.hid (by have := hst.out; rw [show ((k + 1 : Nat) : Int) = (k : Int) + 1 by omega]; exact this), hE.trans h4, Lib.hid (h4.blk hB.out), HS2.out.1, HS2.out.2⟩
      case measure => simp [intOf]; omega
    · obtain rfl : k = l.length := by omega
      have t3 : decide (lo ≤ sum) = true := decide_eq_true (by rw [HE.out.1]; exact hS.out.1)
      have t4 : decide (sum ≤ hi) = true := decide_eq_true (by rw [HE.out.2]; exact hS.out.2)
      go_wp2
      go_ret
      exact ⟨ret_bool (by first | rfl | (simp; omega)), hE⟩
end Go.Proofs.Ytcbimfaneinpkaa
