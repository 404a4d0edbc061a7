/- Stencils: the program's walk. -/
import Derived.Test.YtipkjdfnoonpcaaOffFn
set_option linter.unusedVariables false
set_option linter.unusedSimpArgs false
namespace Go.Proofs.Ytipkjdfnoonpcaa
open Go.RowKit Go.Sort

def ptCells (p : Pt) : List Value := [.int .i64 p.x, .int .i64 p.y, .int .i64 p.v]
def pts (l : List Pt) : List Value := l.flatMap ptCells
theorem pts_snoc (l : List Pt) (p : Pt) : pts (l ++ [p]) = pts l ++ ptCells p := by simp [pts]
theorem pts_one (p : Pt) : ∀ u ∈ ptCells p, u.oneCell' = true := by
  intro u hu
  simp only [ptCells, List.mem_cons, List.not_mem_nil, or_false] at hu
  rcases hu with rfl | rfl | rfl <;> rfl
theorem info141 : (Try.prog.info? 141).map (fun i => (i.zero, i.size, i.bytes)) = some (some (.agg #[.int .i64 0, .int .i64 0, .int .i64 0]), 3, 24) := by kernel_rfl
/-- what 'stencilOf' answers -/
def StenIs (t : Tpl) (turn scale : Int) (w : World) (e : Ending) (w' : World) : Prop :=
  ∃ v', e = .returned v' ∧ w'.ownsRow w.heap.size 141 3 v' (stencil t turn scale t.pix.length).length (pts (stencil t turn scale t.pix.length)) ∧ Ext w w'
theorem tplace_bd {t : Tpl} (ht : t.Ok) {k : Nat} (hk : k < t.pix.length) : (0 ≤ (k : Int) % t.w ∧ (k : Int) % t.w ≤ t.w - 1) ∧ 0 ≤ (k : Int) / t.w ∧ (k : Int) / t.w ≤ t.h - 1 := by
  obtain ⟨⟨⟨h1, h2⟩, ⟨h3, h4⟩, h5⟩, -⟩ := ht
  have a1 := Int.emod_nonneg (k : Int) (show t.w ≠ 0 by omega)
  have a2 := Int.emod_lt_of_pos (k : Int) (show 0 < t.w by omega)
  have a3 : 0 ≤ (k : Int) / t.w := Int.ediv_nonneg (by omega) (by omega)
  have a4 : (k : Int) / t.w < t.h := Int.ediv_lt_of_lt_mul (by omega) (by rw [Int.mul_comm]; omega)
  omega
theorem sten_yes {t : Tpl} {turn scale x : Int} {k : Nat} (hx : t.pix.getD k 0 = x) (h0 : 0 ≤ x) : stencil t turn scale (k + 1) = stencil t turn scale k ++ [⟨offX t turn scale ((k : Int) % t.w) ((k : Int) / t.w), offY t turn scale ((k : Int) % t.w) ((k : Int) / t.w), x⟩] := by
  subst hx
  rw [stencil, if_pos h0]
  rfl
theorem sten_no {t : Tpl} {turn scale x : Int} {k : Nat} (hx : t.pix.getD k 0 = x) (h0 : x < 0) : stencil t turn scale (k + 1) = stencil t turn scale k := by
  subst hx
  rw [stencil, if_neg (by omega)]
set_option maxRecDepth 100000 in
set_option maxHeartbeats 16000000 in
theorem c69 (t : Tpl) (v : Value) (turn scale : Int) (w : World) (ht : t.Ok) (hv : IntsAt w v t.pix) (hp : Posed turn scale) :
    Calls Try.prog 69 #[tplVal t v, .int .i64 turn, .int .i64 scale] w (StenIs t turn scale w) := by
  have HV := Lib.hid hv
  have HT := Lib.hid ht
  have HP := Lib.hid hp
  obtain ⟨ao, cap, rfl, -, hc⟩ := hv.form
  have HC := Lib.hid hc
  obtain ⟨n1, n2⟩ := Tpl.len_bd ht
  obtain ⟨⟨⟨t1, t2⟩, ⟨t3, t4⟩, -⟩, -⟩ := ht
  obtain ⟨i0, hi0, hz0, hz1, hz2⟩ := info_parts info141
  unfold tplVal
  clear hv hc hp
  go_enter Try.func69, Try.ntmps69
  go_wp2
  go_loopw [7, 15] (fun ov iv wr => ∃ k : Nat, k ≤ t.pix.length ∧ iv = .int .i64 (k : Int) ∧ Hid (Ext w wr) ∧ Hid (At wr [(w.heap.size, Obj.cells #[.int .i64 t.w, .int .i64 t.h, .slice ao t.pix.length cap] 43)]) ∧ Hid (wr.ownsRow (w.heap.size + 1) 141 3 ov (stencil t turn scale k).length (pts (stencil t turn scale k)))) (fun _ iv _ => t.pix.length - (intOf iv).toNat)
  case atStart => exact ⟨0, by omega, rfl, Lib.hid (by repeat (first | exact Ext.refl _ | assumption | refine Ext.alloc ?_ _ | refine Ext.drewN ?_ _ | refine ext_grow ?_ _ _ | refine Ext.trans ?_ (by assumption))), Lib.hid ⟨(by repeat (first | (refine blk_at _ _ ?_; (first | rfl | (simp only [size_one]; done))) | refine (blk_past _ _ (by simp only [size_one]; omega)).trans ?_)), trivial⟩, Lib.hid ⟨rfl, .inl ⟨rfl, rfl⟩⟩⟩
  case round =>
    obtain ⟨k, hk, rfl, hE, hA, hO⟩ := hrel
    obtain ⟨⟨x00, x01, x02⟩, -⟩ := run_3 (At.at hA.out 0 rfl)
    have xz0 := At.lt hA.out 0 rfl
    have xy0 := Nat.lt_succ_of_lt xz0
    have xx0 := Nat.lt_succ_of_lt xy0
    by_cases hkl : k < t.pix.length
    · obtain ⟨b, off, rfl, c0⟩ := HC.out k hkl
      have c0 := hE.out.get c0
      have zc := World.block_lt_of_cell? _ _ c0
      simp only at zc
      obtain ⟨x, hx⟩ : ∃ x, t.pix.getD k 0 = x := ⟨_, rfl⟩
      rw [hx] at c0
      have HX := Lib.hid hx
      clear hx
      have hkli : (k : Int) < (t.pix.length : Int) := by omega
      by_cases h0 : 0 ≤ x
      case neg =>
        have h0f : decide (0 ≤ x) = false := decide_eq_false h0
        go_wp2
        go_roundw
        case rel => exact ⟨k + 1, by omega, by go_num, hE, hA, Lib.hid (by rw [sten_no HX.out (by omega)]; exact hO.out)⟩
        case measure => simp [intOf]; omega
      have h0t : decide (0 ≤ x) = true := decide_eq_true h0
      obtain ⟨pb, pb2⟩ := tplace_bd HT.out hkl
      have K58 := Lib.hid (fun w' (h : Ext wr w') => c58 t _ turn scale ((k : Int) % t.w) ((k : Int) / t.w) w' ⟨HT.out.1.1, HT.out.1.2.1⟩ (HV.out.ext (hE.out.trans h)) HP.out pb pb2)
      obtain ⟨px, hpx⟩ : ∃ px, (k : Int) % t.w = px := ⟨_, rfl⟩
      obtain ⟨py, hpy⟩ : ∃ py, (k : Int) / t.w = py := ⟨_, rfl⟩
      obtain ⟨OX, hox⟩ : ∃ x, offX t turn scale ((k : Int) % t.w) ((k : Int) / t.w) = x := ⟨_, rfl⟩
      obtain ⟨OY, hoy⟩ : ∃ x, offY t turn scale ((k : Int) % t.w) ((k : Int) / t.w) = x := ⟨_, rfl⟩
      rw [hox, hoy] at K58
      rw [hpx, hpy] at K58
      rw [hpx] at pb
      rw [hpy] at pb2
      unfold tplVal at K58
      have HO := Lib.hid (And.intro hox hoy)
      have hlen := stencil_len t turn scale k
      have hrem : (k : Int).tmod t.w = px := by rw [Int.tmod_eq_emod_of_nonneg (by omega)]; exact hpx
      have hquo : (k : Int).tdiv t.w = py := by rw [Int.tdiv_eq_ediv_of_nonneg (by omega)]; exact hpy
      have hwq : IntKind.i64.wrap py = py := IntWalk.i64_in _ (by omega)
      have htw : (t.w == 0) = false := by simp; omega
      clear hox hoy hpx hpy pb pb2
      go_wp2
      refine wp_region_quiet_below (by kernel_rfl) (by kernel_rfl) ?_
      repeat (go_big_quiet_step ((go_at_call 58; with_reducible exact Calls.ext_of (K58.out _ (Ext.grow _ _ _)))))
      refine wpQuiet_nil ?_
      intro w7 hw'
      obtain ⟨pq, hw''⟩ := hw'
      have hb7 := ext_of_regrown hw''
      clear hw'' pq hrem hquo hwq
      have A7 := Lib.hid (show At w7 [(w.heap.size, Obj.cells #[.int .i64 t.w, .int .i64 t.h, .slice (some ⟨b, off, none⟩) t.pix.length cap] 43)] from At.ext hb7 hA.out)
      have E7 := Lib.hid (hE.out.trans hb7)
      have O7 := Lib.hid (owns_ext hO.out hb7)
      have hz7 := hb7.size
      have hwz := E7.out.size
      have hw9 : w.heap.size < w7.heap.size := At.lt A7.out 0 rfl
      go_wp2_with (at_builtin; refine wpList_append_at rfl _ _ 113 rfl (w.heap.size + 1) 141 i0 (.agg #[.int .i64 0, .int .i64 0, .int .i64 0]) 3 24 Try.underlying113 hi0 hz0 hz1 hz2 rfl (by omega) u7 (stencil t turn scale k).length (pts (stencil t turn scale k)) rfl (owns_ext O7.out ((Ext.refl _).alloc _)) _ 1 (ptCells ⟨OX, OY, x⟩) rfl (SlAt.lit_at _ (w7.heap.size) rfl (ptCells ⟨OX, OY, x⟩) 141 3 rfl) (pts_one _) (by unfold maxLen; omega) (by omega) (by simp; omega) ?_; intro va w8 ho hg hat; have A8 := Lib.hid (show At w8 [(w.heap.size, Obj.cells #[.int .i64 t.w, .int .i64 t.h, .slice (some ⟨b, off, none⟩) t.pix.length cap] 43)] from At.grown hg (At.alloc A7.out _) (by intro k9 hk9; simp only [List.map_cons, List.map_nil, List.mem_cons, List.not_mem_nil, or_false] at hk9; rcases hk9 with rfl; exact fun h9 => by have := (owns_block O7.out _ h9).1; omega)); have E8 := Lib.hid ((E7.out.alloc _).grown hg (fun g9 h9 => by have := (owns_block O7.out g9 h9).1; omega)); have O8 := Lib.hid ho; clear ho hg hat)
      go_roundw
      case rel => exact ⟨k + 1, by omega, by go_num, E8, A8, Lib.hid (by rw [sten_yes HX.out h0, HO.out.1, HO.out.2, pts_snoc, List.length_append]; exact O8.out)⟩
      case measure => simp [intOf]; omega
    · have hkk : k = t.pix.length := by omega
      have HO := Lib.hid (hkk ▸ hO.out)
      clear hkk
      go_wp2
      go_ret
      exact ⟨_, rfl, owns_base HO.out (by omega), hE.out⟩
end Go.Proofs.Ytipkjdfnoonpcaa
