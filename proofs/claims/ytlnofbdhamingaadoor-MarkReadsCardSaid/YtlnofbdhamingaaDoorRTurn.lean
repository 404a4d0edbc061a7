/- The turn of a square image: the reference's. -/
import Derived.Test.YtlnofbdhamingaaDoorGRead
import Derived.Test.YtlnofbdhamingaaDoorPaintedC
import Derived.Test.YtlnofbdhamingaaDoorDrawR
set_option linter.unusedVariables false
set_option linter.unusedSimpArgs false
namespace Go.Proofs.YtlnofbdhamingaaDoor
open Go.RowKit Go.Sort

def tpK (l : List Int) (N k : Nat) : List Int := l.take k ++ List.replicate (N - k) 0
theorem tpK_zero (l : List Int) (N : Nat) : tpK l N 0 = List.replicate N 0 := by simp [tpK]
theorem tpK_full {l : List Int} {N : Nat} (h : l.length = N) : tpK l N N = l := by subst h; simp [tpK]
theorem tpK_len {l : List Int} {N k : Nat} (h : l.length = N) (hk : k ≤ N) : (tpK l N k).length = N := by simp [tpK]; omega
theorem tpK_set {l : List Int} {N k : Nat} (hk : k < N) (hn : l.length = N) : (tpK l N k).set k (l.getD k 0) = tpK l N (k + 1) := by
  subst hn
  unfold tpK
  have e : l.take (k + 1) = l.take k ++ [l.getD k 0] := by
    rw [List.take_add_one, List.getElem?_eq_getElem hk, List.getD_eq_getElem?_getD, List.getElem?_eq_getElem hk]; rfl
  have e2 : l.length - k = (l.length - (k + 1)) + 1 := by omega
  rw [e, e2, List.replicate_succ]
  have hlen : (l.take k).length = k := by simp; omega
  rw [List.set_append_right _ _ (by omega), hlen, Nat.sub_self]
  simp
def ImgSq (ww : Nat) (l : List Int) (w : World) (e : Ending) (w' : World) : Prop :=
  ∃ v', e = .returned (.tuple #[.agg #[.int .i64 (ww : Int), .int .i64 (ww : Int), v'], .int .i64 0]) ∧ IntsAt w' v' l ∧ (∀ j, v'.ownBlock = some j → w.heap.size ≤ j) ∧ Ext w w'
theorem turn_at {S : Nat} {m : Img} (h : SqCam S m) {k : Nat} (hk : k < 8 * S * (8 * S)) : (turnI m).pix.getD k 0 = m.at ((k / (8 * S) : Nat) : Int) (((8 * S : Nat) : Int) - 1 - ((k % (8 * S) : Nat) : Int)) := by
  have h8 : 0 < 8 * S := by
    rcases Nat.eq_zero_or_pos S with h0 | h0
    · subst h0; simp at hk
    · omega
  have hd : k / (8 * S) < 8 * S := (Nat.div_lt_iff_lt_mul h8).2 hk
  obtain ⟨h1, h2, -⟩ := h
  unfold turnI gridL
  rw [h1, h2]
  simp only [Int.toNat_natCast]
  rw [List.getD_eq_getElem?_getD, List.getElem?_map, List.getElem?_range hk, Option.map_some, Option.getD_some, Nat.mod_eq_of_lt hd]
set_option maxRecDepth 100000 in
set_option maxHeartbeats 8000000 in
theorem r_turn_sq {S ww : Nat} (hS : 1 ≤ S ∧ S ≤ 2) {m : Img} (h : SqCam S m) (hw : 8 * S = ww) (v : Value) (w : World) (hv : IntsAt w v m.pix) :
    Calls Tryd.prog 73 #[.agg #[.int .i64 (ww : Int), .int .i64 (ww : Int), v]] w (ImgSq ww (turnI m).pix w) := by
  have hlen := h.len
  have hb : 8 * S * (8 * S) ≤ 256 := Nat.mul_le_mul (show 8 * S ≤ 16 by omega) (show 8 * S ≤ 16 by omega)
  have hlen2 := (turn_cam hS h).len
  have HTA := Lib.hid (fun k hk => turn_at h (k := k) hk)
  have hcam := h
  obtain ⟨q1, q2, q3⟩ := hcam
  have hww : 8 ≤ ww ∧ ww ≤ 16 := by omega
  rw [hw] at hlen hlen2 hb q1 q2 HTA
  have hsz := q3.1
  have KV := Lib.hid (fun w' (hx : Ext w w') => r_Valid m v w' (hv.ext hx) (by rw [hlen]; unfold maxLen; omega))
  rw [decide_eq_true ((Img.camera_iff _).1 q3).1] at KV
  have KA := Lib.hid (fun w' (hx : Ext w w') (x y : Int) (hi : m.In x y) => r_At m v x y w' hsz hi (hv.ext hx))
  obtain ⟨N, hN⟩ : ∃ N, ww * ww = N := ⟨_, rfl⟩
  rw [hN] at hlen hlen2 hb HTA
  have hN1 : 1 ≤ N := by rw [← hN]; exact Nat.mul_pos (by omega) (by omega)
  have KB := Lib.hid (fun w' => r_Blank ww ww N hN (by omega) (by omega) (by omega) w')
  unfold imgVal at KV KA KB
  dsimp only at KB
  rw [q1, q2] at KV KA
  have HIN := Lib.hid (show ∀ x y : Int, (0 ≤ x ∧ x ≤ (ww : Int) - 1) → (0 ≤ y ∧ y ≤ (ww : Int) - 1) → m.In x y from fun x y hx hy => by
    unfold Img.In
    rw [q1, q2]
    exact ⟨hx, hy⟩)
  obtain ⟨nl, hnl⟩ : ∃ l, (turnI m).pix = l := ⟨_, rfl⟩
  rw [hnl] at hlen2 HTA ⊢
  have HX := Lib.hid (And.intro hw (And.intro hN hnl))
  have HL2 := Lib.hid hlen2
  obtain ⟨-, ao, cap, rfl, -, -⟩ := id hv
  rw [hlen] at KV KA ⊢
  clear hv h hw hsz q1 q2 q3 hN hnl hlen hlen2
  unfold ImgSq
  go_enter Tryd.func73, Tryd.ntmps73
  go_wp2_with (first
    | (go_at_call 110; (with_reducible refine (KB.out _).mono ?_); rintro E w2 ⟨v2, rfl, o2, h2⟩; obtain ⟨g, cpv, rfl, hg0, -⟩ := owns_some o2 hN1; have z2 := (owns_block o2 g rfl).2)
    | (go_at_call 103; (with_reducible refine (KV.out _ (((Ext.refl w).alloc _).alloc _)).mono ?_); rintro E w1 ⟨rfl, h1⟩; have A1 := Lib.hid (show At w1 [(w.heap.size, .cells #[.int .i64 (ww : Int), .int .i64 (ww : Int), .slice ao N cap] 44), (w.heap.size + 1, .cells #[.int .i64 0, .int .i64 0, .slice none 0 0] 44)] from At.ext h1 ⟨two_first _ _ _, two_second _ _ _, trivial⟩); have E1 := Lib.hid (show Ext w w1 from (((Ext.refl w).alloc _).alloc _).trans h1); clear h1; obtain ⟨⟨x0, x1, x2⟩, xf0, xf1, xf2⟩ := run_3 (At.at A1.out 0 rfl); have xz := At.lt A1.out 0 rfl))
  have hA2 := At.ext h2 A1.out
  have HA := Lib.hid (show At (w2.alloc (.cells #[.int .i64 (ww : Int), .int .i64 (ww : Int), .slice (some ⟨g, 0, none⟩) N cpv] 44)) [(w.heap.size, .cells #[.int .i64 (ww : Int), .int .i64 (ww : Int), .slice ao N cap] 44), (w.heap.size + 1, .cells #[.int .i64 0, .int .i64 0, .slice none 0 0] 44), (w2.heap.size, .cells #[.int .i64 (ww : Int), .int .i64 (ww : Int), .slice (some ⟨g, 0, none⟩) N cpv] 44)] from ⟨((Ext.refl w2).alloc _).blk (At.at hA2 0 rfl), ((Ext.refl w2).alloc _).blk (At.at hA2 1 rfl), heap_alloc_new w2 _, trivial⟩)
  have HO := Lib.hid (owns_ext o2 ((Ext.refl w2).alloc (.cells #[.int .i64 (ww : Int), .int .i64 (ww : Int), .slice (some ⟨g, 0, none⟩) N cpv] 44)))
  rw [← tpK_zero nl N] at HO
  have HE2 := Lib.hid (show Ext w (w2.alloc (.cells #[.int .i64 (ww : Int), .int .i64 (ww : Int), .slice (some ⟨g, 0, none⟩) N cpv] 44)) from (E1.out.trans h2).alloc _)
  have hgB : w.heap.size + 1 < g := by
    have a1 := At.lt A1.out 1 rfl
    omega
  obtain ⟨B4, hB4⟩ : ∃ B, w2.heap.size = B := ⟨_, rfl⟩
  obtain ⟨b1, hb1⟩ : ∃ B, w1.heap.size = B := ⟨_, rfl⟩
  rw [hB4] at HA z2 ⊢
  rw [hb1] at HO
  have HBB := Lib.hid (And.intro hB4 hb1)
  clear o2 h2 hA2 A1 E1 x0 x1 x2 xf0 xf1 xf2 xz hg0 hB4 hb1 KV KB
  go_loopw [5] (fun i wr => ∃ k : Nat, k ≤ N ∧ i = .int .i64 (k : Int) ∧ Hid (Ext w wr) ∧ Hid (At wr [(w.heap.size, .cells #[.int .i64 (ww : Int), .int .i64 (ww : Int), .slice ao N cap] 44), (w.heap.size + 1, .cells #[.int .i64 0, .int .i64 0, .slice none 0 0] 44), (B4, .cells #[.int .i64 (ww : Int), .int .i64 (ww : Int), .slice (some ⟨g, 0, none⟩) N cpv] 44)]) ∧ Hid (wr.ownsRow b1 3 1 (.slice (some ⟨g, 0, none⟩) N cpv) N (ints (tpK nl N k)))) (fun i _ => N - (intOf i).toNat)
  case atStart => exact ⟨0, Nat.zero_le _, rfl, HE2, HA, HO⟩
  case round =>
    clear HA HO HE2
    obtain ⟨k, hk, rfl, hE, hA, hO⟩ := hrel
    obtain ⟨⟨d0, d1, d2⟩, f0, f1, f2⟩ := run_3 (At.at hA.out 0 rfl)
    obtain ⟨⟨c0, c1, c2⟩, e0, e1, e2⟩ := run_3 (At.at hA.out 2 rfl)
    by_cases hkN : k < N
    · have hwp : 0 < ww := by omega
      have hr := HTA.out k hkN
      have hdw : k / ww < ww := (Nat.div_lt_iff_lt_mul hwp).2 (by rw [HX.out.2.1]; exact hkN)
      have hm1 := Nat.mod_lt k hwp
      have t1 : (k : Int).tdiv (ww : Int) = ((k / ww : Nat) : Int) := by rw [Int.tdiv_eq_ediv_of_nonneg (by omega)]; exact (Int.natCast_ediv k ww).symm
      have t4 : (k : Int).tmod (ww : Int) = ((k % ww : Nat) : Int) := by rw [Int.tmod_eq_emod_of_nonneg (by omega)]; exact (Int.natCast_emod k ww).symm
      have HS := Lib.hid (tpK_set (l := nl) hkN HL2.out)
      rw [hr] at HS
      obtain ⟨a, haa⟩ : ∃ a, k / ww = a := ⟨_, rfl⟩
      obtain ⟨d, hdd⟩ : ∃ d, k % ww = d := ⟨_, rfl⟩
      rw [haa] at t1 hdw HS
      rw [hdd] at t4 hm1 HS
      have K2 := Lib.hid (fun w' (hx : Ext wr w') => KA.out w' (hE.out.trans hx) (a : Int) ((ww : Int) - 1 - (d : Int)) (HIN.out _ _ (by omega) (by omega)))
      obtain ⟨r, hrr⟩ : ∃ r, m.at (a : Int) ((ww : Int) - 1 - (d : Int)) = r := ⟨_, rfl⟩
      rw [hrr] at K2 HS
      have s0 : ∃ x, wr.cell? ⟨g, k, none⟩ = some (.int .i64 x) := ⟨_, by rw [hO.out.cellAt k (by omega), ints_get (by rw [tpK_len HL2.out (by omega)]; exact hkN)]⟩
      obtain ⟨x0, r0⟩ := s0
      have HZ := Lib.hid (And.intro hrr (And.intro haa hdd))
      clear hr hrr haa hdd
      go_wp2
      refine RG.region_tail (aq := ?aqn) 18 (by kernel_rfl) (by kernel_rfl) (by kernel_rfl) (by kernel_rfl) ?_ ?_
      rotate_left
      · intro wq hEq
        have q0 := hEq.get c0
        have q1 := hEq.get c1
        have q2 := hEq.get c2
        have q3 := hEq.get d0
        have q4 := hEq.get d1
        have q5 := hEq.get d2
        have q6 := hEq.get r0
        have zq := hEq.size
        have z0 := World.block_lt_of_cell? _ _ q0
        have z1 := World.block_lt_of_cell? _ _ q3
        have z3 := World.block_lt_of_cell? _ _ q6
        simp only at z0 z1 z3
        simp only [List.take_succ_cons, List.take_zero]
        repeat (go_big_quiet_step (first | (go_at_call 111; with_reducible exact Calls.ext_of (K2.out _ (hEq.trans (Ext.grow _ _ _))))))
        refine wpQuiet_nil ?_
        exact rfl
      · intro wt hEt
        simp only [List.drop_succ_cons, List.drop_zero]
        have hAt := Lib.hid (At.ext hEt hA.out)
        have hOt := Lib.hid (owns_ext hO.out hEt)
        have hE9 := Lib.hid (hE.out.trans hEt)
        have s0 := hEt.get r0
        have s1 := hOt.out.frozenAt k
        clear hEt c0 c1 c2 d0 d1 d2 e0 e1 e2 f0 f1 f2 r0
        go_wp2
        exact ⟨⟨k + 1, by omega, by go_num, Lib.hid (hE9.out.setCell (p := ⟨g, k, none⟩) (by show w.heap.size ≤ g; omega) _), Lib.hid ⟨(set_at _ g k _ w.heap.size (by omega)).trans (At.at hAt.out 0 rfl), (set_at _ g k _ (w.heap.size + 1) (by omega)).trans (At.at hAt.out 1 rfl), (set_at _ g k _ B4 (by omega)).trans (At.at hAt.out 2 rfl), trivial⟩, Lib.hid (by
          have h := (hOt.out.stored k (.int .i64 r)).1
          rw [ints_set, HS.out] at h
          exact h)⟩, by simp [intOf]; omega⟩
    · obtain rfl : k = N := by omega
      rw [tpK_full HL2.out] at hO
      obtain ⟨⟨x0, x1, x2⟩, xf0, xf1, xf2⟩ := run_3 (At.at hA.out 1 rfl)
      have b1' := At.lt hA.out 1 rfl
      go_wp2
      have st := store_3 (v0 := .int .i64 (ww : Int)) (v1 := .int .i64 (ww : Int)) (v2 := .slice (some ⟨g, 0, none⟩) k cpv) (At.at hA.out 1 rfl)
      refine bodyPost_ret (results_row2 rfl _ _ _ _ _ (0, 0) _ rfl st.1 Tryd.underlying44 rfl (by kernel_rfl)) rfl ?_
      refine ⟨.slice (some ⟨g, 0, none⟩) k cpv, rfl, ?_, fun j hj => ?_, st.2.2 w (by omega) hE.out⟩
      · have hne : ∀ j, (Value.slice (some ⟨g, 0, none⟩) k cpv).ownBlock = some j → some j ≠ some (w.heap.size + 1) := fun j hj h9 => by
          have e1 : g = j := Option.some.inj hj
          have e2 := Option.some.inj h9
          omega
        have h := SlAt.gb (SlAt.of_owns hO.out) (gb_trans (gb_trans (gb_set wr (w.heap.size + 1) 0 (.int .i64 (ww : Int))) (gb_set _ _ 1 (.int .i64 (ww : Int)))) (gb_set _ _ 2 (.slice (some ⟨g, 0, none⟩) k cpv))) hne
        unfold IntsAt
        rw [HL2.out]
        exact h
      · have e1 : g = j := Option.some.inj hj
        omega
end Go.Proofs.YtlnofbdhamingaaDoor
