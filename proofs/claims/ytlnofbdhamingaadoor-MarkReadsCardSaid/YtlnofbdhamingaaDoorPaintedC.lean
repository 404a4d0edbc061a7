/- Images of modules: the reference's walk. -/
import Derived.Test.YtlnofbdhamingaaDoorGDraw
set_option linter.unusedVariables false
set_option linter.unusedSimpArgs false
namespace Go.Proofs.YtlnofbdhamingaaDoor
open Go.RowKit Go.Sort

set_option maxRecDepth 100000 in
set_option maxHeartbeats 4000000 in
theorem r_Painted (W H S ww hh N : Nat) (ink paper : Int) (ms : List Nat) (v : Value) (w : World) (hv : BytesAt w v ms) (hl : ms.length = W * H) (hS : 1 ≤ S ∧ S ≤ 2) (hW : 1 ≤ W ∧ W ≤ 16) (hH : 1 ≤ H ∧ H ≤ 16) (hww : W * S = ww) (hhh : H * S = hh) (hN : ww * hh = N) (hNs : N ≤ 1000) :
    Calls Tryd.prog 79 #[v, .int .i64 (W : Int), .int .i64 (S : Int), .int .i64 ink, .int .i64 paper] w
      fun e w' => ∃ v', e = .returned (imgVal ⟨(ww : Int), (hh : Int), paintedR ms ww S ink paper N⟩ v') ∧ IntsAt w' v' (paintedR ms ww S ink paper N) ∧ Ext w w' := by
  obtain ⟨n0, hn0⟩ : ∃ n, W * H = n := ⟨_, rfl⟩
  have hwb : ww ≤ 32 := by rw [← hww]; exact Nat.mul_le_mul hW.2 hS.2
  have hhb : hh ≤ 32 := by rw [← hhh]; exact Nat.mul_le_mul hH.2 hS.2
  have hNb : N ≤ 1024 := by rw [← hN]; exact Nat.mul_le_mul hwb hhb
  have hn1 : 1 ≤ n0 := by rw [← hn0]; exact Nat.mul_pos hW.1 hH.1
  have hN1 : 0 < N := by rw [← hN, ← hww, ← hhh]; exact Nat.mul_pos (Nat.mul_pos hW.1 hS.1) (Nat.mul_pos hH.1 hS.1)
  have q0 : (W : Int) * (S : Int) = (ww : Int) := by rw [← hww]; exact (Int.natCast_mul W S).symm
  have q1 : (H : Int) * (S : Int) = (hh : Int) := by rw [← hhh]; exact (Int.natCast_mul H S).symm
  have q2 : (n0 : Int).tdiv (W : Int) = (H : Int) := by
    rw [Int.tdiv_eq_ediv_of_nonneg (by omega), ← hn0, Int.natCast_mul, Int.mul_comm]
    exact Int.mul_ediv_cancel _ (by omega)
  rw [hn0] at hl
  obtain ⟨bo, oo, cp, rfl, hc⟩ : ∃ b off cap, v = .slice (some ⟨b, off, none⟩) n0 cap ∧ ∀ j, j < n0 → w.cell? ⟨b, off + j, none⟩ = some (.int .u8 ((ms.getD j 0 : Nat) : Int)) := by
    rcases hv.cases with ⟨h1, -⟩ | ⟨-, b, off, cap, h1, -, -, h2⟩
    · rw [h1] at hl; simp at hl; omega
    · rw [hl] at h1 h2; exact ⟨b, off, cap, h1, h2⟩
  have HC := Lib.hid hc
  have HX := Lib.hid (And.intro hl (And.intro hn0 (And.intro hww (And.intro hhh hN))))
  have KB := Lib.hid (fun w' => r_Blank ww hh N HX.out.2.2.2.2 hNs (by omega) (by omega) w')
  unfold imgVal at KB ⊢
  dsimp only at KB ⊢
  clear hc hv hl hn0 hww hhh hN
  go_enter Tryd.func79, Tryd.ntmps79
  go_wp2_with (go_at_call 110; (with_reducible refine (KB.out _).mono ?_); rintro E w1 ⟨v1, rfl, h0, h1⟩; obtain ⟨g, cpv, rfl, hg0, -⟩ := owns_some h0 hN1; have z1 := (owns_block h0 g rfl).2; have r0 := h1.blk (heap_alloc_new w _))
  have hb0 : w.heap.size + 1 ≤ g := by have h9 := hg0; rw [size_one] at h9; exact h9
  have hgz : g < w1.heap.size := z1
  have hE1 : Ext w w1 := ((Ext.refl w).alloc _).trans h1
  have HA := Lib.hid (show At (w1.alloc (.cells #[.int .i64 (ww : Int), .int .i64 (hh : Int), .slice (some ⟨g, 0, none⟩) N cpv] 44)) [(w.heap.size, .cells #[.int .i64 0, .int .i64 0, .slice none 0 0] 44), (w1.heap.size, .cells #[.int .i64 (ww : Int), .int .i64 (hh : Int), .slice (some ⟨g, 0, none⟩) N cpv] 44)] from ⟨((Ext.refl w1).alloc _).blk r0, heap_alloc_new w1 _, trivial⟩)
  have HO := Lib.hid (owns_ext h0 ((Ext.refl w1).alloc (.cells #[.int .i64 (ww : Int), .int .i64 (hh : Int), .slice (some ⟨g, 0, none⟩) N cpv] 44)))
  rw [← partR_zero ms ww S ink paper N] at HO
  have hE2 : Ext w (w1.alloc (.cells #[.int .i64 (ww : Int), .int .i64 (hh : Int), .slice (some ⟨g, 0, none⟩) N cpv] 44)) := hE1.alloc _
  obtain ⟨B1, hB1⟩ : ∃ B, w1.heap.size = B := ⟨_, rfl⟩
  obtain ⟨bs, hbs⟩ : ∃ b, (w.alloc (Obj.cells #[.int .i64 0, .int .i64 0, .slice none 0 0] 44)).heap.size = b := ⟨_, rfl⟩
  rw [hB1] at HA hgz ⊢
  rw [hbs] at HO
  have HBB := Lib.hid (And.intro hB1 hbs)
  clear h0 h1 r0 z1 hg0 hE1 hB1 hbs
  go_loopw [12] (fun i wr => ∃ k : Nat, k ≤ N ∧ i = .int .i64 (k : Int) ∧ Ext w wr ∧ Hid (At wr [(w.heap.size, .cells #[.int .i64 0, .int .i64 0, .slice none 0 0] 44), (B1, .cells #[.int .i64 (ww : Int), .int .i64 (hh : Int), .slice (some ⟨g, 0, none⟩) N cpv] 44)]) ∧ Hid (wr.ownsRow bs 3 1 (.slice (some ⟨g, 0, none⟩) N cpv) N (ints (partR ms ww S ink paper N k)))) (fun i _ => N - (intOf i).toNat)
  case atStart => exact ⟨0, Nat.zero_le _, rfl, hE2, HA, HO⟩
  case round =>
    clear HA HO hE2
    obtain ⟨k, hk, rfl, hE, hA, hO⟩ := hrel
    obtain ⟨⟨d0, d1, d2⟩, f0, f1, f2⟩ := run_3 (At.at hA.out 0 rfl)
    obtain ⟨⟨c0, c1, c2⟩, -⟩ := run_3 (At.at hA.out 1 rfl)
    by_cases hkN : k < N
    · have hcl : cellOf ww S k < n0 := by
        obtain ⟨x1, x2, x3, x4, x5⟩ := HX.out
        have h := cellOf_lt (W := W) (H := H) (S := S) (k := k) hS.1 hW.1 (by rw [x3, x4, x5]; exact hkN)
        rw [x3, x2] at h
        exact h
      have HCE := Lib.hid (show cellOf ww S k = k / ww / S * W + k % ww / S by
        unfold cellOf
        rw [← HX.out.2.2.1, Nat.mul_div_cancel _ hS.1])
      have HS := Lib.hid (partR_set ms ww S ink paper hkN)
      have K0 : ∀ w', Ext w w' → w'.cell? ⟨bo, oo + cellOf ww S k, none⟩ = some (.int .u8 ((ms.getD (cellOf ww S k) 0 : Nat) : Int)) := fun w' h => h.get (HC.out (cellOf ww S k) hcl)
      have r0 : ∃ x, wr.cell? ⟨g, k, none⟩ = some (.int .i64 x) := ⟨_, by rw [hO.out.cellAt k (by omega), ints_get (by rw [partR_length _ _ _ _ _ (by omega)]; exact hkN)]⟩
      obtain ⟨x0, r0⟩ := r0
      have r1 := hO.out.frozenAt k
      have hw1 : 1 ≤ ww := by rw [← HX.out.2.2.1]; exact Nat.mul_pos hW.1 hS.1
      obtain ⟨t, ht⟩ : ∃ t, cellOf ww S k = t := ⟨_, rfl⟩
      rw [ht] at K0 hcl HS HCE
      obtain ⟨y, hy⟩ : ∃ y, ms.getD t 0 = y := ⟨_, rfl⟩
      rw [hy] at K0 HS
      have HK0 := Lib.hid K0
      clear K0
      have hm1 := Nat.mod_lt k (show 0 < ww by omega)
      have t1 : (k : Int).tdiv (ww : Int) = ((k / ww : Nat) : Int) := by rw [Int.tdiv_eq_ediv_of_nonneg (by omega)]; exact (Int.natCast_ediv k ww).symm
      have t4 : (k : Int).tmod (ww : Int) = ((k % ww : Nat) : Int) := by rw [Int.tmod_eq_emod_of_nonneg (by omega)]; exact (Int.natCast_emod k ww).symm
      have ha : k / ww ≤ k := Nat.div_le_self _ _
      obtain ⟨a, haa⟩ : ∃ a, k / ww = a := ⟨_, rfl⟩
      obtain ⟨d, hdd⟩ : ∃ d, k % ww = d := ⟨_, rfl⟩
      rw [haa] at t1 HCE ha
      rw [hdd] at t4 HCE hm1
      have t2 : (a : Int).tdiv (S : Int) = ((a / S : Nat) : Int) := by rw [Int.tdiv_eq_ediv_of_nonneg (by omega)]; exact (Int.natCast_ediv a S).symm
      have t5 : (d : Int).tdiv (S : Int) = ((d / S : Nat) : Int) := by rw [Int.tdiv_eq_ediv_of_nonneg (by omega)]; exact (Int.natCast_ediv d S).symm
      have hb : a / S ≤ a := Nat.div_le_self _ _
      have he : d / S ≤ d := Nat.div_le_self _ _
      obtain ⟨a2, ha2⟩ : ∃ a2, a / S = a2 := ⟨_, rfl⟩
      obtain ⟨d2', hd2⟩ : ∃ d2, d / S = d2 := ⟨_, rfl⟩
      rw [ha2] at t2 HCE hb
      rw [hd2] at t5 HCE he
      obtain ⟨p, hp⟩ : ∃ p, a2 * W = p := ⟨_, rfl⟩
      rw [hp] at HCE
      have t3 : (a2 : Int) * (W : Int) = (p : Int) := by rw [← hp]; exact (Int.natCast_mul a2 W).symm
      have t6 : (p : Int) + (d2' : Int) = (t : Int) := by have := HCE.out; omega
      have hpt : p ≤ t ∧ d2' ≤ t := by have := HCE.out; omega
      have hn0b : n0 ≤ 256 := by rw [← HX.out.2.1]; exact Nat.mul_le_mul hW.2 hH.2
      have HZ := Lib.hid (And.intro ht (And.intro hy (And.intro haa (And.intro hdd (And.intro ha2 (And.intro hd2 hp))))))
      clear ht hy haa hdd ha2 hd2 hp d0 d1 d2 f0 f1 f2
      have hAp := fun u : Value => (show At (wr.setCell ⟨g, k, none⟩ u) [(w.heap.size, .cells #[.int .i64 0, .int .i64 0, .slice none 0 0] 44), (B1, .cells #[.int .i64 (ww : Int), .int .i64 (hh : Int), .slice (some ⟨g, 0, none⟩) N cpv] 44)] from ⟨(set_at _ g k _ w.heap.size (by omega)).trans (At.at hA.out 0 rfl), (set_at _ g k _ B1 (by omega)).trans (At.at hA.out 1 rfl), trivial⟩)
      have HAp := Lib.hid hAp
      have hOp := fun x : Int => (hO.out.stored k (.int .i64 x)).1
      have HOp := Lib.hid hOp
      have hEp := fun u : Value => hE.setCell (p := ⟨g, k, none⟩) (by show w.heap.size ≤ g; omega) u
      have HEp := Lib.hid hEp
      clear hAp hOp hEp
      by_cases h1 : y = 1
      · subst h1
        go_wp2
        obtain ⟨wn, hwn⟩ : ∃ wn, wr.setCell ⟨g, k, none⟩ (.int .i64 paper) = wn := ⟨_, rfl⟩
        have hA2 := HAp.out (.int .i64 paper)
        have hE2 := HEp.out (.int .i64 paper)
        have hO2 := HOp.out paper
        rw [hwn] at hA2 hE2 hO2 ⊢
        have e0 := HK0.out wn hE2
        obtain ⟨⟨x0, x1, x2⟩, -⟩ := run_3 (At.at hA2 1 rfl)
        have HA2 := Lib.hid hA2
        have HO2 := Lib.hid hO2
        clear c0 c1 c2 r0 r1 hwn hA2 hO2
        have HS3 := Lib.hid (show (partR ms ww S ink paper N k).set k ink = partR ms ww S ink paper N (k + 1) by have h9 := HS.out; rw [if_pos trivial] at h9; exact h9)
        have s0 : wn.cell? ⟨g, k, none⟩ = some (.int .i64 paper) := by
          rw [HO2.out.cellAt k (by omega), List.getElem?_set_self (by rw [ints_length, partR_length _ _ _ _ _ (by omega)]; exact hkN)]
        have s1 := HO2.out.frozenAt k
        go_quiet (fail)
        go_wp2
        have hA3 := At.ext ((Ext.refl wn).drewN nq) HA2.out
        have hO3 := ((owns_ext HO2.out ((Ext.refl wn).drewN nq)).stored k (.int .i64 ink)).1
        rw [List.set_set, show (ints (partR ms ww S ink paper N k)).set k (.int .i64 ink) = ints ((partR ms ww S ink paper N k).set k ink) by rw [ints, ints, List.map_set], HS3.out] at hO3
        exact ⟨⟨k + 1, by omega, by go_num, (hE2.drewN nq).setCell (p := ⟨g, k, none⟩) (by show w.heap.size ≤ g; omega) _, Lib.hid ⟨(set_at _ g k _ w.heap.size (by omega)).trans (At.at hA3 0 rfl), (set_at _ g k _ B1 (by omega)).trans (At.at hA3 1 rfl), trivial⟩, Lib.hid hO3⟩, by simp [intOf]; omega⟩
      · have q9 : ((y : Int) == 1) = false := by rw [beq_eq_false_iff_ne]; omega
        have HS2 := Lib.hid (show (partR ms ww S ink paper N k).set k paper = partR ms ww S ink paper N (k + 1) by rw [← HS.out, if_neg h1])
        clear h1
        go_wp2
        obtain ⟨wn, hwn⟩ : ∃ wn, wr.setCell ⟨g, k, none⟩ (.int .i64 paper) = wn := ⟨_, rfl⟩
        have hA2 := HAp.out (.int .i64 paper)
        have hE2 := HEp.out (.int .i64 paper)
        have hO2 := HOp.out paper
        rw [hwn] at hA2 hE2 hO2 ⊢
        have e0 := HK0.out wn hE2
        obtain ⟨⟨x0, x1, x2⟩, -⟩ := run_3 (At.at hA2 1 rfl)
        have HA2 := Lib.hid hA2
        have HO2 := Lib.hid hO2
        clear c0 c1 c2 r0 r1 hwn hA2 hO2
        go_quiet (fail)
        go_wp2
        exact ⟨⟨k + 1, by omega, by go_num, hE2.drewN _, Lib.hid (At.ext ((Ext.refl _).drewN _) HA2.out), Lib.hid (owns_ext (by
          have h := HO2.out
          rw [show (ints (partR ms ww S ink paper N k)).set k (.int .i64 paper) = ints ((partR ms ww S ink paper N k).set k paper) by rw [ints, ints, List.map_set], HS2.out] at h
          exact h) ((Ext.refl _).drewN _))⟩, by simp [intOf]; omega⟩
    · obtain rfl : k = N := by omega
      have toI : ∀ w2 : World, w2.ownsRow bs 3 1 (.slice (some ⟨g, 0, none⟩) k cpv) k (ints (partR ms ww S ink paper k k)) → IntsAt w2 (.slice (some ⟨g, 0, none⟩) k cpv) (paintedR ms ww S ink paper k) := fun w2 h => by
        rw [partR_full] at h
        have h2 := SlAt.of_owns h
        unfold IntsAt
        rw [paintedR_length]
        exact h2
      have HI := Lib.hid toI
      have hth : wr.there w.heap.size 0 3 := fun j hj => by
        rcases (show j = 0 ∨ j = 1 ∨ j = 2 by omega) with rfl | rfl | rfl
        · exact ⟨by rw [d0]; rfl, f0⟩
        · exact ⟨by rw [d1]; rfl, f1⟩
        · exact ⟨by rw [d2]; rfl, f2⟩
      have hrg := World.rangeAt_setCells_same wr w.heap.size 0 [.int .i64 (ww : Int), .int .i64 (hh : Int), .slice (some ⟨g, 0, none⟩) k cpv] hth
      simp only [World.setCells, Nat.reduceAdd] at hrg
      have HRG := Lib.hid hrg
      have hne : ∀ o' v', (Value.slice (some ⟨g, 0, none⟩) k cpv).ownBlock ≠ some ({ block := w.heap.size, off := o', spot := v' } : Addr).block := fun _ _ h9 => absurd (Option.some.inj h9) (by show ¬ g = w.heap.size; omega)
      have HNE := Lib.hid hne
      clear toI hrg hth hne
      go_wp2
      (try simp only [Exit.inBlock, Exit.then])
      refine bodyPost_ret (v := .agg [.int .i64 (ww : Int), .int .i64 (hh : Int), .slice (some ⟨g, 0, none⟩) k cpv].toArray) ?_ rfl ⟨_, rfl, HI.out _ ?_, ?_⟩
      · exact results_cell_mid rfl _ _ w.heap.size _ _ rfl HRG.out Tryd.underlying44 rfl info_img3
      · exact ownsRow_setCell_other (ownsRow_setCell_other (ownsRow_setCell_other hO.out (HNE.out 0 none) _) (HNE.out 1 none) _) (HNE.out 2 none) _
      · iterate 3 refine Ext.setCell ?_ (Nat.le_refl _) _
        exact hE
end Go.Proofs.YtlnofbdhamingaaDoor
