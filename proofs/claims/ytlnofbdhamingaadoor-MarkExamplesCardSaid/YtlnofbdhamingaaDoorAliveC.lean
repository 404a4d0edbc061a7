/- The examples that every outright law asks first: the walk. -/
import Derived.Test.YtlnofbdhamingaaDoorGAlive
import Derived.Test.YtlnofbdhamingaaDoorGRead
set_option linter.unusedVariables false
set_option linter.unusedSimpArgs false
namespace Go.Proofs.YtlnofbdhamingaaDoor
open Go.RowKit Go.Sort

def rdA : Rd := ⟨[0], 3, 0, 0⟩
def xK (i : Nat) : List Nat := List.replicate i 0 ++ pwL.drop i
theorem xK_set : ∀ i, i < 6 → (xK i).set i 0 = xK (i + 1) := by decide
theorem xK_len : ∀ i, i ≤ 6 → (xK i).length = 15 := by decide
theorem xK_get : ∀ i, i < 6 → ∃ y, (bytesL (xK i))[i]? = some (.int .u8 y) := fun i hi => ⟨_, bytesL_get (by rw [xK_len i (by omega)]; omega)⟩
set_option maxRecDepth 100000 in
set_option maxHeartbeats 16000000 in
theorem l_alive (w : World) (hT : Tabs w) : Calls Tryd.prog 38 #[] w fun e w' => e = .returned (.bool true) ∧ Ext w w' := by
  obtain ⟨i4, ci, cz0, cz1, cz2⟩ := info_parts3 info_bool
  have HT := Lib.hid hT
  have K1 : Hid (∀ w', Ext w w' → Calls Tryd.prog 18 #[.int .u8 2, .int .u8 8] w' fun e w'' => e = .returned (.tuple #[.int .u8 3, .int .i64 0]) ∧ Ext w' w'') := Lib.hid (fun w' h => by
    have k := c_Mul 2 8 w' (HT.out.ext h)
    rw [mul_28] at k
    exact k)
  have K2 : Hid (∀ w', Ext w w' → Calls Tryd.prog 20 #[.int .u8 2] w' fun e w'' => e = .returned (.tuple #[.int .u8 9, .int .i64 0]) ∧ Ext w' w'') := Lib.hid (fun w' h => by
    have k := c_Inverse 2 w' (HT.out.ext h)
    rw [inv_2] at k
    exact k)
  have K3 : Hid (∀ w' v, Ext w w' → BytesAt w' v [0, 1] → Calls Tryd.prog 22 #[v] w' fun e w'' => ∃ v', e = .returned (.tuple #[v', .int .i64 0]) ∧ w''.ownsRow w'.heap.size 5 1 v' 15 (bytesL pwL) ∧ Ext w' w'') := Lib.hid (fun w' v h hv => by
    have k := c_Encode v [0, 1] w' (HT.out.ext h) hv (by decide)
    unfold OwnWord at k
    rw [enc_01] at k
    exact k)
  clear hT
  go_enter Tryd.func38, Tryd.ntmps38
  go_wp2_with (first
    | (go_at_call 18; (with_reducible refine (K1.out _ (Ext.refl _)).mono ?_); rintro E w1 ⟨rfl, h1⟩)
    | (go_at_call 20; (with_reducible refine (K2.out _ h1).mono ?_); rintro E w2 ⟨rfl, h2⟩; have e2 := h1.trans h2; have hb2 : BytesAt (w2.alloc (Obj.cells #[.int .u8 0, .int .u8 1] 5)) (.slice (some ⟨w2.heap.size, 0, none⟩) 2 2) [0, 1] := SlAt.of_owns (owns_lit w2 (bytesL [0, 1]) 5 2 1 0 (Nat.zero_le _) (by unfold maxLen; omega) rfl))
    | (go_at_call 22; (with_reducible refine (K3.out _ _ (e2.alloc _) hb2).mono ?_); rintro E w3 ⟨v3, rfl, h3o, h3⟩; have e3 := (e2.alloc _).trans h3)
    | (go_at_call 50; (with_reducible refine (l_powers _).mono ?_); rintro E w4 ⟨v4, rfl, h4o', h4⟩; have h4o : w4.ownsRow w3.heap.size 5 1 v4 15 (bytesL pwL) := h4o'; clear h4o'; obtain ⟨gx, cx, rfl, hgx, -⟩ := owns_some h4o (by decide)))
  have H3 := Lib.hid (show BytesAt w3 v3 pwL from SlAt.of_owns h3o)
  have HX := Lib.hid (show w4.ownsRow w3.heap.size 5 1 (.slice (some ⟨gx, 0, none⟩) 15 cx) 15 (bytesL (xK 0)) from h4o)
  clear h4o h3o hb2 h3 h1 h2 e2 K1 K2 K3
  go_loopw [8] (fun ii wi => ∃ i : Nat, i ≤ 6 ∧ ii = .int .i64 (i : Int) ∧ Ext w3 wi ∧ Hid (wi.ownsRow w3.heap.size 5 1 (.slice (some ⟨gx, 0, none⟩) 15 cx) 15 (bytesL (xK i)))) (fun ii _ => 6 - (intOf ii).toNat)
  case atStart => exact ⟨0, Nat.zero_le _, rfl, h4, HX⟩
  case round =>
    clear HX h4
    obtain ⟨i, hi, rfl, hE, hX⟩ := hrel
    by_cases hi6 : i < 6
    · obtain ⟨y, hy⟩ := xK_get i hi6
      have c0 : wr.cell? ⟨gx, i, none⟩ = some (.int .u8 y) := by rw [hX.out.cellAt i (by omega)]; exact hy
      have c1 := hX.out.frozenAt i
      have HS := Lib.hid (xK_set i hi6)
      clear hy
      go_wp2
      refine ⟨⟨i + 1, by omega, by go_num, hE.setCell (p := ⟨gx, i, none⟩) (by show w3.heap.size ≤ gx; exact hgx) _, Lib.hid ?_⟩, by simp [intOf]; omega⟩
      have h := (hX.out.stored i (.int .u8 ((0 : Nat) : Int))).1
      rw [bytesL_set, HS.out] at h
      exact h
    · obtain rfl : i = 6 := by omega
      have D0 : xK 6 = xL := by decide
      have hx6 := hX.out
      rw [D0] at hx6
      have KD : Hid (∀ w' x b, Ext w w' → BytesAt w' x xL → BoolsAt w' b noneL → Calls Tryd.prog 25 #[x, b, .int .i64 2] w' fun e w'' => ∃ v, e = .returned (.tuple #[v, .int .i64 6, .int .i64 0]) ∧ BytesAt w'' v [0, 1] ∧ (∀ j, v.ownBlock = some j → w'.heap.size ≤ j) ∧ Ext w' w'') := Lib.hid (fun w' x b h hx hb => by
        have k := c_Decode x b xL noneL 2 w' (HT.out.ext h) hx hb (by decide) (by decide)
        rw [decA_x] at k
        exact k)
      have KD2 : Hid (∀ w' x b, Ext w w' → BytesAt w' x yL → BoolsAt w' b noneL → Calls Tryd.prog 25 #[x, b, .int .i64 2] w' fun e w'' => ∃ v, e = .returned (.tuple #[v, .int .i64 0, .int .i64 60]) ∧ BytesAt w'' v [] ∧ (∀ j, v.ownBlock = some j → w'.heap.size ≤ j) ∧ Ext w' w'') := Lib.hid (fun w' x b h hx hb => by
        have k := c_Decode x b yL noneL 2 w' (HT.out.ext h) hx hb (by decide) (by decide)
        rw [decA_y] at k
        exact k)
      have HX6 := Lib.hid hx6
      have hEw := e3.trans hE
      clear hX hx6 D0 hi6 hi
      go_upto_region 11 with (first
        | (at_make; refine wpList_make_full _ rfl _ _ 36 rfl w3.heap.size 4 i4 (.bool false) 1 Tryd.underlying36 ci cz0 cz1 .i64 .i64 _ _ 15 rfl rfl rfl rfl (by rw [cz2]; omega) (by unfold maxLen; omega) hE.size ?_; intro w5 ho5 hg5; rw [made_bools] at ho5; have h5 : Ext wr w5 := ext_of_grownNone hg5; have hb5 : BoolsAt w5 (.slice (some ⟨wr.heap.size, 0, none⟩) 15 15) noneL := SlAt.of_owns ho5; have hx5 : BytesAt w5 (.slice (some ⟨gx, 0, none⟩) 15 cx) xL := (show BytesAt wr _ xL from SlAt.of_owns HX6.out).ext h5)
        | (go_at_call 25; (with_reducible refine (KD.out _ _ _ (hEw.trans h5) hx5 hb5).mono ?_); rintro E w6 ⟨v6, rfl, h6b, h6n, h6⟩; have h56 := h5.trans h6; have HX7 := Lib.hid (owns_ext HX6.out h56); have d0 : w6.cell? ⟨gx, 6, none⟩ = some (.int .u8 12) := (by rw [HX7.out.cellAt 6 (by omega)]; rfl); have d1 := HX7.out.frozenAt 6))
      obtain ⟨W7, hW7⟩ : ∃ W, w6.setCell ⟨gx, 6, none⟩ (.int .u8 0) = W := ⟨_, rfl⟩
      have hgb : w6.grownBy W7 (some gx) := by rw [← hW7]; exact gb_set _ _ _ _
      have HX8 := Lib.hid (show W7.ownsRow w3.heap.size 5 1 (.slice (some ⟨gx, 0, none⟩) 15 cx) 15 (bytesL yL) by
        have h := (HX7.out.stored 6 (.int .u8 ((0 : Nat) : Int))).1
        rw [bytesL_set, show xL.set 6 0 = yL by decide] at h
        rw [← hW7]
        exact h)
      have hE7 := (hE.trans h56).gb hgb hgx
      have HL6 := Lib.hid (show BytesAt W7 v6 [0, 1] from h6b.gb hgb (fun k hk h9 => by
        have e1 := h6n k hk
        have e2 : k = gx := Option.some.inj h9
        have e3 := (HX6.out.lt gx rfl).2
        have e4 := h5.size
        omega))
      have HP7 := Lib.hid (H3.out.ext hE7)
      have hEw7 := e3.trans hE7
      rw [hW7]
      have hgz := (HX8.out.lt gx rfl).2
      clear hgb HX7 d0 d1 h56 h6b h6 hb5 hx5 h5 ho5 hg5 hE hEw HX6 hW7
      have K9 : Hid (∀ w' (v1 v2 : Value) l, BytesAt w' v1 l → BytesAt w' v2 l → Calls Tryd.prog 49 #[v1, .int .i64 0, v2] w' fun e w'' => e = .returned (.bool true) ∧ Ext w' w'') := Lib.hid (fun w' v1 v2 l h1 h2 => l_is v1 v2 l w' h1 h2)
      have KDr : Hid (∀ w' v, Ext w w' → BytesAt w' v [0] → Calls Tryd.prog 34 #[v, .int .i64 1, .int .i64 10, .int .i64 200] w' fun e w'' => ∃ v', e = .returned (.tuple #[.agg #[.int .i64 8, .int .i64 8, v'], .int .i64 0]) ∧ IntsAt w'' v' (turnN 0 m0I).pix ∧ Ext w' w'') := Lib.hid (fun w' v h hv => by
        have k := c_Draw v [0] 1 10 200 w' (HT.out.ext h) hv (by decide)
        rw [draw_0] at k
        exact k)
      have KTu : Hid (∀ w' v, IntsAt w' v (turnN 0 m0I).pix → Calls Tryd.prog 70 #[.agg #[.int .i64 8, .int .i64 8, v]] w' fun e w'' => ∃ v', e = .returned (.tuple #[.agg #[.int .i64 8, .int .i64 8, v'], .int .i64 0]) ∧ IntsAt w'' v' (turnN 1 m0I).pix ∧ (∀ j, v'.ownBlock = some j → w'.heap.size ≤ j) ∧ Ext w' w'') := Lib.hid (fun w' v hv => turn_sq (S := 1) (ww := 8) (t := 0) ⟨by omega, by omega⟩ m0_cam rfl v w' hv)
      obtain ⟨ip0, hip0⟩ : ∃ p, (turnN 0 m0I).pix = p := ⟨_, rfl⟩
      obtain ⟨ip1, hip1⟩ : ∃ p, (turnN 1 m0I).pix = p := ⟨_, rfl⟩
      rw [hip0] at KDr KTu
      rw [hip1] at KTu
      have HIP1 := Lib.hid hip1
      clear hip0 hip1
      go_upto_region 16 with (first
        | (have _q := E14; go_at_call 70; (with_reducible refine (KTu.out _ _ (hp14.ext ((Ext.refl _).alloc _))).mono ?_); rintro E w15 ⟨v15, rfl, h15, h15n, h15'⟩; obtain ⟨-, uo, uc, rfl, -⟩ := id h15; have hA15 := Lib.hid (show At w15 [(w14.heap.size, Obj.cells #[.int .i64 8, .int .i64 8, .slice t14 ip0.length tc] 44)] from ⟨h15'.blk (heap_alloc_new w14 _), trivial⟩); obtain ⟨⟨x0, x1, x2⟩, xf0, xf1, xf2⟩ := run_3 (At.at hA15.out 0 rfl); have xz := At.lt hA15.out 0 rfl)
        | (have _q := E13; go_at_call 34; (with_reducible refine (KDr.out _ _ (hEw7.trans (E13.out.alloc _)) hb13).mono ?_); rintro E w14 ⟨v14, rfl, h14, h14'⟩; obtain ⟨-, t14, tc, rfl, -⟩ := id h14; have hp14 := h14; have E14 := Lib.hid ((E13.out.alloc (Obj.cells #[.int .u8 0] 5)).trans h14'))
        | (have _q := E12; go_at_call 49; (with_reducible refine (K9.out _ _ _ [0, 1] hl12 hb12).mono ?_); rintro E w13 ⟨rfl, h13⟩; have E13 := Lib.hid ((E12.out.alloc (Obj.cells #[.int .u8 0, .int .u8 1] 5)).trans h13); have hb13 : BytesAt (w13.alloc (Obj.cells #[.int .u8 0] 5)) (.slice (some ⟨w13.heap.size, 0, none⟩) 1 1) [0] := SlAt.of_owns (owns_lit w13 (bytesL [0]) 5 1 1 0 (Nat.zero_le _) (by unfold maxLen; omega) rfl))
        | (have _q := E11; go_at_call 49; (with_reducible refine (K9.out _ _ _ pwL (HP7.out.ext E11.out) h11b).mono ?_); rintro E w12 ⟨rfl, h12⟩; have E12 := Lib.hid (E11.out.trans h12); have hb12 : BytesAt (w12.alloc (Obj.cells #[.int .u8 0, .int .u8 1] 5)) (.slice (some ⟨w12.heap.size, 0, none⟩) 2 2) [0, 1] := SlAt.of_owns (owns_lit w12 (bytesL [0, 1]) 5 2 1 0 (Nat.zero_le _) (by unfold maxLen; omega) rfl); have hl12 := HL6.out.ext (E12.out.alloc (Obj.cells #[.int .u8 0, .int .u8 1] 5)))
        | (go_at_call 50; (with_reducible refine (l_powers _).mono ?_); rintro E w11 ⟨v11, rfl, h11o, h11⟩; have h11b : BytesAt w11 v11 pwL := SlAt.of_owns h11o; have E11 := Lib.hid (E10.trans h11))
        | (at_make; refine wpList_make_full _ rfl _ _ 36 rfl w3.heap.size 4 i4 (.bool false) 1 Tryd.underlying36 ci cz0 cz1 .i64 .i64 _ _ 15 rfl rfl rfl rfl (by rw [cz2]; omega) (by unfold maxLen; omega) hE7.size ?_; intro w8 ho8 hg8; rw [made_bools] at ho8; have h8 : Ext W7 w8 := ext_of_grownNone hg8; have hb8 : BoolsAt w8 (.slice (some ⟨W7.heap.size, 0, none⟩) 15 15) noneL := SlAt.of_owns ho8; have hx8 : BytesAt w8 (.slice (some ⟨gx, 0, none⟩) 15 cx) yL := (show BytesAt W7 _ yL from SlAt.of_owns HX8.out).ext h8)
        | (go_at_call 25; (with_reducible refine (KD2.out _ _ _ (hEw7.trans h8) hx8 hb8).mono ?_); rintro E w9 ⟨v9, rfl, h9b, -, h9⟩; have E10 := h8.trans h9))
      have st := store_3 (v0 := .int .i64 8) (v1 := .int .i64 8) (v2 := .slice uo ip1.length uc) (At.at hA15.out 0 rfl)
      obtain ⟨B15, hB15⟩ : ∃ b, w14.heap.size = b := ⟨_, rfl⟩
      rw [hB15] at st xz ⊢
      obtain ⟨W16, hW16⟩ : ∃ W, ((w15.setCell ⟨B15, 0, none⟩ (.int .i64 8)).setCell ⟨B15, 1, none⟩ (.int .i64 8)).setCell ⟨B15, 2, none⟩ (.slice uo ip1.length uc) = W := ⟨_, rfl⟩
      rw [hW16] at st ⊢
      have HE16 := Lib.hid (show Ext w W16 from st.2.2 w (by
        have h1 := hEw7.size
        have h2 := E14.out.size
        omega) ((hEw7.trans E14.out).trans (((Ext.refl w14).alloc _).trans h15')))
      have HA16 := Lib.hid (show At W16 [(B15, Obj.cells #[.int .i64 8, .int .i64 8, .slice uo ip1.length uc] 44)] from ⟨st.1, trivial⟩)
      have hgb : w15.grownBy W16 (some B15) := by rw [← hW16]; exact gb_trans (gb_trans (gb_set _ _ _ _) (gb_set _ _ _ _)) (gb_set _ _ _ _)
      have HI16 := Lib.hid (show IntsAt W16 (.slice uo ip1.length uc) ip1 from SlAt.gb h15 hgb (fun k hk h9 => by
        have h1 := h15n k hk
        have h2 := Option.some.inj h9
        have h3 := size_one w14 (Obj.cells #[.int .i64 8, .int .i64 8, .slice t14 ip0.length tc] 44)
        omega))
      have KR := Lib.hid (show ∀ wx, Ext W16 wx → Calls Tryd.prog 30 #[.agg #[.int .i64 8, .int .i64 8, .slice uo ip1.length uc], .agg #[.int .i64 50, .int .i64 100], .int .i64 1] wx fun e w' => ∃ v', e = .returned (.tuple #[rdV v' rdA, .int .i64 0]) ∧ BytesAt w' v' rdA.msg ∧ Ext wx w' from fun wx hw => by
        have hpx : IntsAt wx (.slice uo ip1.length uc) (turnI m0I).pix := by
          have h := HI16.out.ext hw
          rw [← HIP1.out] at h ⊢
          exact h
        have k := c_Read (turnI m0I) (.slice uo ip1.length uc) ⟨50, 100⟩ 1 wx (HT.out.ext (HE16.out.trans hw)) hpx (by rw [(turn_cam (S := 1) ⟨by omega, by omega⟩ m0_cam).len]; decide)
        rw [readA_0] at k
        exact k)
      obtain ⟨⟨x0', x1', x2'⟩, -⟩ := run_3 (At.at HA16.out 0 rfl)
      have xz' := At.lt HA16.out 0 rfl
      have hml : 1 ≤ rdA.msg.length := by decide
      clear x0 x1 x2 xf0 xf1 xf2 xz st hgb h15 h15n h15' hA15 hW16 hB15 hp14 h14 h14' E14 E13 hb13 E12 h13 h12 hl12 hb12 h11 h11o h11b E11 E10 h9 h9b h8 hb8 hx8 ho8 hg8 HX8 HL6 HP7 hE7 hEw7 hgz K9 KDr KTu KD KD2 e3
      have x0 := x0'
      have x1 := x1'
      have x2 := x2'
      clear x0' x1' x2'
      obtain ⟨gs, hgs⟩ : ∃ gs : List (Value → World → Prop), gs = [fun (v : Value) (_ : World) => v = (.agg #[.int .i64 8, .int .i64 8, .slice uo ip1.length uc]), fun (v : Value) (_ : World) => v = (.agg #[.int .i64 50, .int .i64 100]), (fun (v : Value) (w : World) => ∃ v', v = .tuple #[rdV v' rdA, .int .i64 0] ∧ BytesAt w v' rdA.msg), (fun (v : Value) (w : World) => ∃ v', v = .tuple #[rdV v' rdA, .int .i64 0] ∧ BytesAt w v' rdA.msg), (fun (v : Value) (w : World) => ∃ v', v = rdV v' rdA ∧ BytesAt w v' rdA.msg), fun (v : Value) (_ : World) => v = .int .i64 0, (fun (v : Value) (w : World) => ∃ b, v = .pointer (some ⟨b, 0, none⟩) ∧ W16.heap.size ≤ b ∧ w.heap[b]? = some (.cells rdZero 51)), (fun (v : Value) (w : World) => ∃ b s' z', v = .pointer (some ⟨b, 0, none⟩) ∧ W16.heap.size ≤ b ∧ w.heap[b]? = some (.cells #[.slice s' rdA.msg.length z', .int .i64 (rdA.turns : Int), .int .i64 (rdA.errs : Int), .int .i64 (rdA.gone : Int)] 51) ∧ BytesAt w (.slice s' rdA.msg.length z') rdA.msg)] := ⟨_, rfl⟩
      have hst := RG.stab_of (Gs := gs) (by
        intro g hg v w1 w2 h hb
        rw [hgs] at hg
        simp only [List.mem_cons, List.not_mem_nil, or_false] at hg
        rcases hg with rfl | rfl | rfl | rfl | rfl | rfl | rfl | rfl
        · exact h
        · exact h
        · obtain ⟨v', h1, h2⟩ := h; exact ⟨v', h1, h2.ext hb⟩
        · obtain ⟨v', h1, h2⟩ := h; exact ⟨v', h1, h2.ext hb⟩
        · obtain ⟨v', h1, h2⟩ := h; exact ⟨v', h1, h2.ext hb⟩
        · exact h
        · obtain ⟨b', h1, h2, h3⟩ := h; exact ⟨b', h1, h2, hb.blk h3⟩
        · obtain ⟨b', s', z', h1, h2, h3, h4⟩ := h; exact ⟨b', s', z', h1, h2, hb.blk h3, h4.ext hb⟩)
      subst hgs
      refine RG.wp_rgn ([fun (v : Value) (_ : World) => v = (.agg #[.int .i64 8, .int .i64 8, .slice uo ip1.length uc]), fun (v : Value) (_ : World) => v = (.agg #[.int .i64 50, .int .i64 100]), (fun (v : Value) (w : World) => ∃ v', v = .tuple #[rdV v' rdA, .int .i64 0] ∧ BytesAt w v' rdA.msg), (fun (v : Value) (w : World) => ∃ v', v = .tuple #[rdV v' rdA, .int .i64 0] ∧ BytesAt w v' rdA.msg), (fun (v : Value) (w : World) => ∃ v', v = rdV v' rdA ∧ BytesAt w v' rdA.msg), fun (v : Value) (_ : World) => v = .int .i64 0, (fun (v : Value) (w : World) => ∃ b, v = .pointer (some ⟨b, 0, none⟩) ∧ W16.heap.size ≤ b ∧ w.heap[b]? = some (.cells rdZero 51)), (fun (v : Value) (w : World) => ∃ b s' z', v = .pointer (some ⟨b, 0, none⟩) ∧ W16.heap.size ≤ b ∧ w.heap[b]? = some (.cells #[.slice s' rdA.msg.length z', .int .i64 (rdA.turns : Int), .int .i64 (rdA.errs : Int), .int .i64 (rdA.gone : Int)] 51) ∧ BytesAt w (.slice s' rdA.msg.length z') rdA.msg)]) (fun i => if i = 7 then [6] else []) (by kernel_rfl) (by kernel_rfl) (by kernel_rfl) ?_ ?_
      · simp only [List.length_cons, List.length_nil, List.take_succ_cons, List.take_zero, RG.StepsN, and_true, Nat.reduceAdd]
        refine ⟨?_, ?_, ?_, ?_, ?_, ?_, ?_, ?_⟩
        · refine RG.stepN rfl (RG.st_run rfl (fun a wx hw hr => ⟨_, wx, ?_, Ext.refl _, rfl⟩) hst)
          have e := RG.read_out (t := 15) hr (by kernel_rfl) (by kernel_rfl)
          have e' : a.tmps[15]?.getD undef = .pointer (some ⟨B15, 0, none⟩) := (Array.getD_eq_getD_getElem? ..).symm.trans e
          have f0 := hw.get x0
          have f1 := hw.get x1
          have f2 := hw.get x2
          clear hr hst e
          simp [execOp, go_sem, e', f0, f1, f2]
        · refine RG.stepN rfl (RG.st_call rfl 48 #[] #[] rfl Tryd.func48 (by kernel_rfl) (by kernel_rfl) (fun a wx hw hr => ?_) hst)
          rw [show ((#[] : Array Operand).map a.eval) = #[] by simp]
          refine (l_wide wx).mono ?_
          rintro e w' ⟨rfl, hb⟩
          exact ⟨_, rfl, hb, rfl⟩
        · refine RG.stepN rfl (RG.st_call rfl 30 #[Operand.tmp 103, Operand.tmp 104, Operand.const (.int .i64 1)] _ rfl Tryd.func30 (by kernel_rfl) (by kernel_rfl) (fun a wx hw hr => ?_) hst)
          have p0 := RG.read_in (t := 103) (j := 0) hr (by kernel_rfl) (by kernel_rfl)
          have p1 := RG.read_in (t := 104) (j := 1) hr (by kernel_rfl) (by kernel_rfl)
          have hargs : (#[Operand.tmp 103, Operand.tmp 104, Operand.const (.int .i64 1)].map a.eval) = #[.agg #[.int .i64 8, .int .i64 8, .slice uo ip1.length uc], .agg #[.int .i64 50, .int .i64 100], .int .i64 1] := by
            simp only [List.map_toArray, List.map_cons, List.map_nil]
            rw [show a.eval (.tmp 103) = _ from p0, show a.eval (.tmp 104) = _ from p1]
            rfl
          rw [hargs]
          refine (KR.out wx hw).mono ?_
          rintro e w' ⟨v', rfl, ho, hb⟩
          exact ⟨_, rfl, hb, v', rfl, ho⟩
        · refine RG.stepN rfl (RG.st_run rfl (fun a wx hw hr => ?_) hst)
          obtain ⟨v', p0, ho⟩ := RG.read_in (t := 105) (j := 2) hr (by kernel_rfl) (by kernel_rfl)
          have r0 : a.tmps[105]?.getD undef = _ := (Array.getD_eq_getD_getElem? ..).symm.trans p0
          refine ⟨_, wx, ?_, Ext.refl _, v', rfl, ho⟩
          clear hr hst p0
          simp [execOp, go_sem, r0]
        · refine RG.stepN rfl (RG.st_run rfl (fun a wx hw hr => ?_) hst)
          obtain ⟨v', p0, ho⟩ := RG.read_in (t := 102) (j := 3) hr (by kernel_rfl) (by kernel_rfl)
          have r0 : a.tmps[102]?.getD undef = _ := (Array.getD_eq_getD_getElem? ..).symm.trans p0
          refine ⟨_, wx, ?_, Ext.refl _, v', rfl, ho⟩
          clear hr hst p0
          simp [execOp, go_sem, r0]
        · refine RG.stepN rfl (RG.st_run rfl (fun a wx hw hr => ?_) hst)
          obtain ⟨v', p0, ho⟩ := RG.read_in (t := 102) (j := 3) hr (by kernel_rfl) (by kernel_rfl)
          have r0 : a.tmps[102]?.getD undef = _ := (Array.getD_eq_getD_getElem? ..).symm.trans p0
          refine ⟨_, wx, ?_, Ext.refl _, rfl⟩
          clear hr hst p0
          simp [execOp, go_sem, r0]
        · refine RG.stepN rfl (RG.st_run rfl (fun a wx hw hr => ⟨.pointer (some ⟨wx.heap.size, 0, none⟩), wx.alloc (.cells rdZero 51), ?_, (Ext.refl _).alloc _, wx.heap.size, rfl, hw.size, one_first _ _⟩) hst)
          clear hr hst
          unfold rdZero
          simp [execOp, go_sem, Tryd.underlying51]
        · refine RG.st_store (t := 16) rfl rfl rfl (fun a wx hw hr => ?_)
          obtain ⟨b', p0, hbb, hz⟩ := RG.read_in (t := 16) (j := 6) hr (by kernel_rfl) (by kernel_rfl)
          obtain ⟨v', p1, ho⟩ := RG.read_in (t := 106) (j := 4) hr (by kernel_rfl) (by kernel_rfl)
          have hz := Lib.hid hz
          obtain ⟨-, s', z', hv', -⟩ := id ho
          subst hv'
          have hne : ∀ v9, BytesAt wx v9 rdA.msg → ∀ g, v9.ownBlock = some g → g ≠ b' := fun v9 h9 g hg e => bytes_not h9 hml hz.out (e ▸ hg)
          have hz4 := hz.out
          unfold rdZero at hz4
          have st := store_4 (v0 := .slice s' rdA.msg.length z') (v1 := .int .i64 (rdA.turns : Int)) (v2 := .int .i64 (rdA.errs : Int)) (v3 := .int .i64 (rdA.gone : Int)) hz4
          have keep : ∀ v9, BytesAt wx v9 rdA.msg → BytesAt ((((wx.setCell ⟨b', 0, none⟩ (.slice s' rdA.msg.length z')).setCell ⟨b', 1, none⟩ (.int .i64 (rdA.turns : Int))).setCell ⟨b', 2, none⟩ (.int .i64 (rdA.errs : Int))).setCell ⟨b', 3, none⟩ (.int .i64 (rdA.gone : Int))) v9 rdA.msg := fun v9 h9 => SlAt.keep h9 fun b o u hb hc => by
            rw [World.cell?_of_block (st.2.1 b (hne v9 h9 b hb))]
            exact hc
          refine ⟨_, reading_store rfl p0 p1 hz.out, st.2.2 W16 hbb hw, ?_, b', s', z', p0, hbb, st.1, keep _ ho⟩
          · intro j v hj hji hjd hG
            match j with
            | 0 => have hG' : v = (.agg #[.int .i64 8, .int .i64 8, .slice uo ip1.length uc]) := hG; exact hG'
            | 1 => have hG' : v = (.agg #[.int .i64 50, .int .i64 100]) := hG; exact hG'
            | 2 => obtain ⟨v9, h9, ho9⟩ := hG; exact ⟨v9, h9, keep _ ho9⟩
            | 3 => obtain ⟨v9, h9, ho9⟩ := hG; exact ⟨v9, h9, keep _ ho9⟩
            | 4 => obtain ⟨v9, h9, ho9⟩ := hG; exact ⟨v9, h9, keep _ ho9⟩
            | 6 => exact absurd (by simp) hj
            | 5 => have hG' : v = .int .i64 0 := hG; exact hG'
            | 7 => exact absurd rfl hji
            | j + 8 => exact (show True from trivial)
      · intro wt hEt
        simp only [List.length_cons, List.length_nil, List.take_succ_cons, List.take_zero, RG.Fin, RG.goneBy, Nat.reduceAdd, List.drop_succ_cons, List.drop_zero]
        intro v0r h0r v1r h1r v2r h2r v3r h3r v4r h4r v5r h5r v6r h6r hsto
        obtain rfl := h0r (by decide)
        obtain rfl := h1r (by decide)
        obtain rfl := h5r (by decide)
        obtain ⟨bR, su, zu, hv9, hb9, hU9, hO9⟩ := hsto 7 _ 16 6 (by decide) rfl rfl rfl (by kernel_rfl) (by decide)
        simp [Act.put] at hv9
        subst hv9
        clear hst hsto h0r h1r h2r h3r h4r h5r h6r
        simp only [Act.put, List.setIfInBounds_toArray, List.set_cons_zero, List.set_cons_succ]
        have hEt := Lib.hid (HE16.out.trans hEt)
        have hAR := Lib.hid (show At wt [(bR, Obj.cells #[.slice su 1 zu, .int .i64 3, .int .i64 0, .int .i64 0] 51)] from ⟨hU9, trivial⟩)
        have hOR := Lib.hid (show BytesAt wt (.slice su 1 zu) [0] from hO9)
        have hbR : W16.heap.size ≤ bR := hb9
        have KP : Hid (∀ w', Calls Tryd.prog 36 #[.string { data := #[49, 55] }, .int .i64 1, .int .i64 10, .int .i64 200] w' fun e w'' => ∃ v', e = .returned (.tuple #[.agg #[.int .i64 7, .int .i64 5, v'], .int .i64 0]) ∧ IntsAt w'' v' p17.pix ∧ Ext w' w'') := Lib.hid (fun w' => by
          have k := c_Print s17 1 10 200 w' (by decide)
          rw [print_17] at k
          exact k)
        have KL : Hid (∀ w' v, IntsAt w' v p17.pix → Calls Tryd.prog 46 #[.agg #[.int .i64 7, .int .i64 5, v], .int .i64 1, .agg #[.int .i64 50, .int .i64 100], .int .i64 7] w' fun e w'' => e = .returned (.tuple #[.string { data := #[49, 63] }, .int .i64 0]) ∧ Ext w' w'') := Lib.hid (fun w' v hv => by
          have k := c_ReadLine p17 v 1 ⟨50, 100⟩ 7 w' hv (by decide)
          rw [line_17] at k
          exact k)
        obtain ⟨ip2, hip2⟩ : ∃ p, p17.pix = p := ⟨_, rfl⟩
        rw [hip2] at KP KL
        clear hip2 KR HI16 HA16 x0 x1 x2 xz' hU9 hO9 hb9
        go_upto_region 18 with (go_at_call 36; (with_reducible refine (KP.out _).mono ?_); rintro E w17 ⟨v17, rfl, h17, h17'⟩; obtain ⟨-, qo, qc, rfl, -⟩ := id h17; have hp17 := h17)
        have KW : Hid (∀ w', Calls Tryd.prog 48 #[] w' fun e w'' => e = .returned (.agg #[.int .i64 50, .int .i64 100]) ∧ Ext w' w'') := Lib.hid (fun w' => l_wide w')
        have hE18 := Lib.hid ((Ext.refl w17).alloc (Obj.cells #[.int .i64 7, .int .i64 5, .slice qo ip2.length qc] 44))
        have hp18 := Lib.hid (hp17.ext hE18.out)
        obtain ⟨⟨p0, p1, p2⟩, -⟩ := run_3 (one_first w17 (Obj.cells #[.int .i64 7, .int .i64 5, .slice qo ip2.length qc] 44))
        obtain ⟨W18, hW18⟩ : ∃ W, w17.alloc (Obj.cells #[.int .i64 7, .int .i64 5, .slice qo ip2.length qc] 44) = W := ⟨_, rfl⟩
        obtain ⟨B17, hB17⟩ : ∃ b, w17.heap.size = b := ⟨_, rfl⟩
        have hz18 : B17 < W18.heap.size := by rw [← hW18, size_one, hB17]; omega
        rw [hW18] at hp18 hE18 p0 p1 p2 ⊢
        rw [hB17] at p0 p1 p2 ⊢
        have hA18 := Lib.hid (At.ext (h17'.trans hE18.out) hAR.out)
        have hE18w := Lib.hid ((hEt.out.trans h17').trans hE18.out)
        have hO18 := Lib.hid (hOR.out.ext (h17'.trans hE18.out))
        refine wp_region_quiet_below (by kernel_rfl) (by kernel_rfl) ?_
        repeat (go_big_quiet_step (first
          | (go_at_call 48; with_reducible exact Calls.ext_of (KW.out _))
          | (go_at_call 46; with_reducible exact Calls.ext_of (KL.out _ _ (hp18.out.ext (Ext.grow _ _ _))))))
        refine wpQuiet_nil ?_
        intro w19 hw'
        obtain ⟨pq, hw''⟩ := hw'
        have h19 := ext_of_regrown hw''
        clear hw'' pq
        obtain ⟨⟨r0, r1, r2, r3⟩, -⟩ := run_4 (At.at (At.ext h19 hA18.out) 0 rfl)
        have p0' := h19.get p0
        have rz := At.lt (At.ext h19 hA18.out) 0 rfl
        have hE19 := Lib.hid (hE18w.out.trans h19)
        have HO19 := Lib.hid (hO18.out.ext h19)
        have hb19 := Lib.hid (show BytesAt (w19.alloc (Obj.cells #[.int .u8 0] 5)) (.slice (some ⟨w19.heap.size, 0, none⟩) 1 1) [0] from SlAt.of_owns (owns_lit w19 (bytesL [0]) 5 1 1 0 (Nat.zero_le _) (by unfold maxLen; omega) rfl))
        have KS : Hid (Calls Tryd.prog 32 #[.agg #[.slice su 1 zu, .int .i64 3, .int .i64 0, .int .i64 0], .agg #[.slice (some ⟨w19.heap.size, 0, none⟩) 1 1, .int .i64 3, .int .i64 0, .int .i64 0]] (w19.alloc (Obj.cells #[.int .u8 0] 5)) fun e w'' => e = .returned (.bool true) ∧ Ext (w19.alloc (Obj.cells #[.int .u8 0] 5)) w'') := Lib.hid (r_SameReading _ _ rdA _ (HO19.out.ext ((Ext.refl _).alloc _)) hb19.out)
        clear p0 p1 p2 hz18 hW18 hB17 h17 h17' hp17 hp18 hA18 hO18 hE18 KP KL
        go_wp2_with (go_at_call 32; (with_reducible refine KS.out.mono ?_); rintro E w20 ⟨rfl, h20⟩; have s0 := (((Ext.refl w19).alloc _).trans h20).get p0')
        go_ret
        exact ⟨rfl, (hE19.out.alloc _).trans h20⟩
end Go.Proofs.YtlnofbdhamingaaDoor
