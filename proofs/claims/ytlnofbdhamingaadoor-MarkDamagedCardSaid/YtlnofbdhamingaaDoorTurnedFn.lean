/- An image that is turned some times: the law's. -/
import Derived.Test.YtlnofbdhamingaaDoorGRead
set_option linter.unusedVariables false
set_option linter.unusedSimpArgs false
namespace Go.Proofs.YtlnofbdhamingaaDoor
open Go.RowKit Go.Sort

set_option maxRecDepth 100000 in
set_option maxHeartbeats 8000000 in
theorem l_turned {S ww : Nat} (hS : 1 ≤ S ∧ S ≤ 2) {m : Img} (h : SqCam S m) (hw : 8 * S = ww) (v : Value) (times T : Nat) (hT : times % 4 = T) (w : World) (hv : IntsAt w v m.pix) :
    Calls Tryd.prog 45 #[.agg #[.int .i64 (ww : Int), .int .i64 (ww : Int), v], .int .u8 (times : Int)] w fun e w' => ∃ v', e = .returned (.tuple #[.agg #[.int .i64 (ww : Int), .int .i64 (ww : Int), v'], .bool true]) ∧ IntsAt w' v' (turnN T m).pix ∧ Ext w w' := by
  have K := Lib.hid (fun t w' pv hp => turn_sq hS h hw (t := t) pv w' hp)
  have m4 : (times : Int).tmod 4 = (T : Int) := by rw [← hT]; rfl
  have HT4 := Nat.mod_lt times (show 0 < 4 by omega)
  rw [hT] at HT4
  have HV := Lib.hid hv
  have HVB := Lib.hid (show ∀ j, v.ownBlock = some j → j < w.heap.size from fun j hj => by
    have hlen : 1 ≤ m.pix.length := by
      rw [h.len]
      have : 1 * 1 ≤ 8 * S * (8 * S) := Nat.mul_le_mul (by omega) (by omega)
      omega
    obtain ⟨-, ao, cap, rfl, -, -, -, hc⟩ := id hv
    obtain ⟨b, off, rfl, hcell⟩ := hc 0 _ (List.getElem?_eq_getElem (by simp [ints]; omega))
    have := World.block_lt_of_cell? _ _ hcell
    have e : b = j := Option.some.inj hj
    rw [← e]
    exact this)
  obtain ⟨-, vo, vc, rfl, -⟩ := id hv
  clear hv hT hw h hS
  go_enter Tryd.func45, Tryd.ntmps45
  go_wp2
  obtain ⟨W0, hW0⟩ : ∃ W, (w.alloc (.cells #[.int .i64 (ww : Int), .int .i64 (ww : Int), .slice vo m.pix.length vc] 44)).alloc (.cells #[.int .i64 0, .int .i64 0, .slice none 0 0] 44) = W := ⟨_, rfl⟩
  obtain ⟨B, hB⟩ : ∃ B, w.heap.size = B := ⟨_, rfl⟩
  have HA0 := Lib.hid (show At W0 [(B, .cells #[.int .i64 (ww : Int), .int .i64 (ww : Int), .slice vo m.pix.length vc] 44), (B + 1, .cells #[.int .i64 0, .int .i64 0, .slice none 0 0] 44)] from by rw [← hW0, ← hB]; exact ⟨two_first _ _ _, two_second _ _ _, trivial⟩)
  have HE0 := Lib.hid (show Ext w W0 from by rw [← hW0]; exact ((Ext.refl w).alloc _).alloc _)
  have HI0 := Lib.hid (show IntsAt W0 (.slice vo m.pix.length vc) (turnN 0 m).pix from HV.out.ext HE0.out)
  rw [hW0, hB]
  clear hW0 HV
  go_loopw [6] (fun ii wi => ∃ t : Nat, t ≤ T ∧ ii = .int .u8 (t : Int) ∧ Ext w wi ∧ ∃ vt, Hid (At wi [(B, .cells #[.int .i64 (ww : Int), .int .i64 (ww : Int), vt] 44), (B + 1, .cells #[.int .i64 0, .int .i64 0, .slice none 0 0] 44)]) ∧ Hid (IntsAt wi vt (turnN t m).pix) ∧ Hid (∀ j, vt.ownBlock = some j → j ≠ B ∧ j ≠ B + 1)) (fun ii _ => T - (intOf ii).toNat)
  case atStart => exact ⟨0, Nat.zero_le _, rfl, HE0.out, _, HA0, HI0, Lib.hid (fun j hj => by have := HVB.out j hj; omega)⟩
  case round =>
    clear HA0 HE0 HI0
    obtain ⟨t, ht, rfl, hE, vt, hA, hI, hN⟩ := hrel
    have xzr := At.lt hA.out 0 rfl
    have yzr := At.lt hA.out 1 rfl
    obtain ⟨⟨x0, x1, x2⟩, xf0, xf1, xf2⟩ := run_3 (At.at hA.out 0 rfl)
    obtain ⟨⟨y0, y1, y2⟩, yf0, yf1, yf2⟩ := run_3 (At.at hA.out 1 rfl)
    have xz := At.lt hA.out 0 rfl
    have yz := At.lt hA.out 1 rfl
    obtain ⟨l, hl⟩ : ∃ l, (turnN t m).pix = l := ⟨_, rfl⟩
    by_cases htT : t < T
    · have p1 : decide ((t : Int) < (T : Int)) = true := decide_eq_true (by omega)
      have K1 := Lib.hid (fun w' (h : Ext wr w') => K.out t w' vt (hI.out.ext h))
      obtain ⟨-, uo, uc, rfl, -⟩ := id hI.out
      rw [hl] at x2 hI hA K1
      obtain ⟨n, hn⟩ : ∃ n, l.length = n := ⟨_, rfl⟩
      rw [hn] at x2 hA K1
      clear hl
      go_wp2_with (go_at_call 70; (with_reducible refine (K1.out _ (Ext.refl _)).mono ?_); rintro E w3 ⟨v3, rfl, i3, n3, h3⟩; obtain ⟨-, po, pc, rfl, -⟩ := id i3; have A3 := Lib.hid (At.ext h3 hA.out); have I3 := Lib.hid i3; clear x0 x1 x2 xf0 xf1 xf2 xz yz; obtain ⟨⟨x0, x1, x2⟩, xf0, xf1, xf2⟩ := run_3 (At.at A3.out 0 rfl); have xz := At.lt A3.out 0 rfl)
      obtain ⟨L3, hL3⟩ : ∃ n, (turnN (t + 1) m).pix.length = n := ⟨_, rfl⟩
      rw [hL3] at I3 n3 ⊢
      have st := store_3 (v0 := .int .i64 (ww : Int)) (v1 := .int .i64 (ww : Int)) (v2 := .slice po L3 pc) (At.at A3.out 0 rfl)
      obtain ⟨W4, hW4⟩ : ∃ W, ((w3.setCell ⟨B, 0, none⟩ (.int .i64 (ww : Int))).setCell ⟨B, 1, none⟩ (.int .i64 (ww : Int))).setCell ⟨B, 2, none⟩ (.slice po L3 pc) = W := ⟨_, rfl⟩
      have hgb : w3.grownBy W4 (some B) := by rw [← hW4]; exact gb_trans (gb_trans (gb_set _ _ _ _) (gb_set _ _ _ _)) (gb_set _ _ _ _)
      rw [hW4] at st ⊢
      have hI4 : IntsAt W4 (.slice po L3 pc) (turnN (t + 1) m).pix := SlAt.gb I3.out hgb (fun k hk h9 => by
        have h1 := n3 k hk
        have h2 := Option.some.inj h9
        omega)
      refine ⟨⟨t + 1, by omega, by go_num, (st.2.2 w (by omega) (hE.trans h3)).alloc _, _, Lib.hid (At.alloc (show At W4 [(B, .cells #[.int .i64 (ww : Int), .int .i64 (ww : Int), .slice po L3 pc] 44), (B + 1, .cells #[.int .i64 0, .int .i64 0, .slice none 0 0] 44)] from ⟨st.1, At.other st.2.1 (by simp) (At.erase A3.out 0)⟩) _), Lib.hid (SlAt.ext hI4 ((Ext.refl _).alloc _)), Lib.hid (fun j hj => ?_)⟩, by simp [intOf]; omega⟩
      have h1 := n3 j hj
      omega
    · have p1 : decide ((t : Int) < (T : Int)) = false := decide_eq_false (by omega)
      have et : t = T := by omega
      rw [et] at hI
      obtain ⟨-, uo, uc, rfl, -⟩ := id hI.out
      rw [et] at hl
      have HP := Lib.hid hl
      rw [hl] at x2 hI hA
      obtain ⟨n, hn⟩ : ∃ n, l.length = n := ⟨_, rfl⟩
      rw [hn] at x2 hA
      have HN := Lib.hid hn
      clear hl hn et
      go_wp2
      have st := store_3 (v0 := .int .i64 (ww : Int)) (v1 := .int .i64 (ww : Int)) (v2 := .slice uo n uc) (At.at hA.out 1 rfl)
      refine bodyPost_ret (results_row2 rfl _ _ _ _ _ (0, 0) _ rfl st.1 Tryd.underlying44 rfl (by kernel_rfl)) rfl ?_
      refine ⟨.slice uo n uc, rfl, ?_, st.2.2 w (by omega) hE⟩
      have hI2 := hI.out
      have hN2 := hN.out
      rw [HN.out] at hI2
      rw [HP.out, HN.out] at hN2
      rw [HP.out]
      refine SlAt.gb hI2 (gb_trans (gb_trans (gb_set _ (B + 1) _ _) (gb_set _ _ _ _)) (gb_set _ _ _ _)) (fun k hk h9 => (hN2 k hk).2 (Option.some.inj h9))
end Go.Proofs.YtlnofbdhamingaaDoor
