/- 'MarkFar' returns true. -/
import Derived.Test.YtlnofbdhamingaaDoorAliveC
import Derived.Test.YtlnofbdhamingaaDoorGLine
import Derived.Test.YtlnofbdhamingaaDoorEncFn
import Derived.Test.YtlnofbdhamingaaDoorGMath
import Derived.Test.YtlnofbdhamingaaDoorTail
set_option linter.unusedVariables false
set_option linter.unusedSimpArgs false
namespace Go.Proofs.YtlnofbdhamingaaDoor
open Go.RowKit Go.Sort

theorem encR_get {l : List Nat} {i : Nat} (h : i < 15) : (encR l).getD i 0 = gval l (powN i) := by
  unfold encR
  rw [List.getD_eq_getElem?_getD, List.getElem?_map, List.getElem?_range h]
  rfl
theorem far_facts {a b : List Nat} {k : Nat} (ha : isMessage a = true) (hb : isMessage b = true) (la : a.length = k) (lb : b.length = k) :
    ∃ X Y Z : List Nat, encR a = X ∧ encR b = Y ∧ encR (padd a b) = Z ∧ X.length = 15 ∧ Y.length = 15 ∧ Z.length = 15 ∧
      (∀ i < 15, X.getD i 0 < 16 ∧ Y.getD i 0 < 16 ∧ Z.getD i 0 = X.getD i 0 ^^^ Y.getD i 0) ∧
      (∀ n < 15, diffK a b (n + 1) = if X.getD n 0 = Y.getD n 0 then diffK a b n else diffK a b n + 1) ∧ (a ≠ b → 16 ≤ diffK a b 15 + k) := by
  have sa := (message_syms ha).1
  have sb := (message_syms hb).1
  refine ⟨_, _, _, rfl, rfl, rfl, encR_length _, encR_length _, encR_length _, fun i hi => ?_, fun n hn => ?_, fun h => far_words sa sb la lb h⟩
  · refine ⟨syms_get (encR_lt sa) i, syms_get (encR_lt sb) i, ?_⟩
    rw [encR_get hi, encR_get hi, encR_get hi]
    exact sum_words sa sb hi
  · rw [encR_get hn, encR_get hn]
    exact diffK_succ a b n
theorem padd_msg {a b : List Nat} {k : Nat} (ha : isMessage a = true) (hb : isMessage b = true) (la : a.length = k) (lb : b.length = k) : isMessage (padd a b) = true ∧ (padd a b).length = k := by
  have h1 := message_syms ha
  have h2 := message_syms hb
  have hl : (padd a b).length = k := by rw [padd_len]; omega
  have hs := padd_syms h1.1 h2.1
  refine ⟨?_, hl⟩
  have h3 : 1 ≤ a.length := by
    unfold isMessage at ha
    simp only [Bool.and_eq_true, decide_eq_true_eq] at ha
    exact ha.1.1
  unfold isMessage allSym
  simp only [Bool.and_eq_true, decide_eq_true_eq, List.all_eq_true]
  exact ⟨⟨by omega, by omega⟩, fun n hn => by have := hs n hn; omega⟩
set_option maxRecDepth 100000 in
set_option maxHeartbeats 8000000 in
theorem far_law (v1 : Value) (a : List Nat) (v2 : Value) (b : List Nat) (w : World) (hT : Tabs w) (h1 : BytesAt w v1 a) (n1 : a.length ≤ 140737488351232) (h2 : BytesAt w v2 b) (n2 : b.length ≤ 140737488351232) :
    Calls Tryd.prog 8 #[v1, v2] w fun e w' => e = .returned (.bool true) ∧ Ext w w' := by
  obtain ⟨i0, hi, hz0, hz1, hz2⟩ := info_parts3 info_byte
  have K0 := Lib.hid (l_alive w hT)
  have K1 := Lib.hid (fun w' (h : Ext w w') => r_Message v1 a w' (h1.ext h) (by unfold maxLen; omega))
  have K2 := Lib.hid (fun w' (h : Ext w w') => r_Message v2 b w' (h2.ext h) (by unfold maxLen; omega))
  have HT := Lib.hid hT
  have H1 := Lib.hid h1
  have H2 := Lib.hid h2
  clear n1 n2
  rcases ha : isMessage a with _ | _
  · rw [ha] at K1
    obtain ⟨ao, ac, rfl, -⟩ := h1.form
    clear hT h1 h2
    go_enter Tryd.func8, Tryd.ntmps8
    go_wp2_with (first
      | (go_at_call 38; (with_reducible refine K0.out.mono ?_); rintro E w0 ⟨rfl, e0⟩)
      | (go_at_call 39; (with_reducible refine (K1.out _ e0).mono ?_); rintro E w1 ⟨rfl, h1⟩; have e1 := e0.trans h1))
    go_ret
    exact ⟨rfl, e1⟩
  rcases hb : isMessage b with _ | _
  · rw [ha] at K1
    rw [hb] at K2
    obtain ⟨ao, ac, rfl, -⟩ := h1.form
    clear hT h1 h2
    go_enter Tryd.func8, Tryd.ntmps8
    go_wp2_with (first
      | (go_at_call 38; (with_reducible refine K0.out.mono ?_); rintro E w0 ⟨rfl, e0⟩)
      | (go_at_call 39; (with_reducible refine (K1.out _ e0).mono ?_); rintro E w1 ⟨rfl, h1⟩; have e1 := e0.trans h1)
      | (go_at_call 39; (with_reducible refine (K2.out _ e1).mono ?_); rintro E w2 ⟨rfl, h2⟩; have e2 := e1.trans h2))
    go_ret
    exact ⟨rfl, e2⟩
  rw [ha] at K1
  rw [hb] at K2
  by_cases hl : a.length = b.length
  · obtain ⟨k, hk⟩ : ∃ k, a.length = k := ⟨_, rfl⟩
    have hkb : b.length = k := by omega
    have k13 : k ≤ 13 := by have := (message_syms ha).2; omega
    have k1 : 1 ≤ k := by
      unfold isMessage at ha
      simp only [Bool.and_eq_true, decide_eq_true_eq] at ha
      omega
    obtain ⟨pm, pl⟩ := padd_msg ha hb hk hkb
    obtain ⟨X, Y, Z, hX, hY, hZ, lX, lY, lZ, hS, hD, hF⟩ := far_facts ha hb hk hkb
    have E1 := encK hT h1 ha
    have E2 := encK hT h2 hb
    have E3 : ∀ w' v, Ext w w' → BytesAt w' v (padd a b) → EncK w' v (padd a b) := fun w' v h hv => encK (hT.ext h) hv pm
    unfold EncK at E1 E2 E3
    rw [hX] at E1
    rw [hY] at E2
    rw [hZ] at E3
    have E1 := Lib.hid E1
    have E2 := Lib.hid E2
    have E3 := Lib.hid E3
    have HS := Lib.hid hS
    have HD := Lib.hid hD
    have HF := Lib.hid hF
    have PG := Lib.hid (fun i => padd_get a b i)
    have SA := Lib.hid (fun i => And.intro (syms_get (message_syms ha).1 i) (syms_get (message_syms hb).1 i))
    obtain ⟨P, hP⟩ : ∃ P, padd a b = P := ⟨_, rfl⟩
    rw [hP] at E3 PG pl
    have PL := Lib.hid pl
    have LX := Lib.hid (And.intro lX (And.intro lY lZ))
    obtain ⟨ab, ao, ac, rfl, ca⟩ := BytesAt.some h1 hk (by omega)
    obtain ⟨bb, bo, bc, rfl, cb⟩ := BytesAt.some h2 hkb (by omega)
    have CA := Lib.hid ca
    have CB := Lib.hid cb
    clear hT h1 h2 hl hk hkb pm pl hX hY hZ lX lY lZ hS hD hF hP ca cb ha hb
    go_enter Tryd.func8, Tryd.ntmps8
    go_wp2_with (first
      | (go_at_call 38; (with_reducible refine K0.out.mono ?_); rintro E w0 ⟨rfl, e0⟩)
      | (go_at_call 39; (with_reducible refine (K1.out _ e0).mono ?_); rintro E w1 ⟨rfl, h1⟩; have e1 := e0.trans h1)
      | (go_at_call 39; (with_reducible refine (K2.out _ e1).mono ?_); rintro E w2 ⟨rfl, h2⟩; have e2 := e1.trans h2)
      | (at_make; refine wpList_make_full _ rfl _ _ 22 rfl w2.heap.size 5 i0 (.int .u8 0) 1 Tryd.underlying22 hi hz0 hz1 .i64 .i64 _ _ k rfl rfl rfl rfl (by rw [hz2]; omega) (by unfold maxLen; omega) (Nat.le_refl _) ?_; intro w3 ho3 hg3))
    rw [made_zero P] at ho3
    have e3 : Ext w2 w3 := ext_of_grownNone hg3
    have HO3 := Lib.hid ho3
    clear ho3 hg3 h1 h2 K1 K2 K0
    go_loopw [7] (fun ii wi => ∃ i : Nat, i ≤ k ∧ ii = .int .i64 (i : Int) ∧ Ext w2 wi ∧ Hid (wi.ownsRow w2.heap.size 5 1 (.slice (some ⟨w2.heap.size, 0, none⟩) k k) k (rowK P k i))) (fun ii _ => k - (intOf ii).toNat)
    case atStart => exact ⟨0, Nat.zero_le _, rfl, e3, HO3⟩
    case round =>
      clear HO3
      obtain ⟨i, hi, rfl, hE, hO⟩ := hrel
      by_cases hik : i < k
      · have c0 := (e2.trans hE).get (CA.out i hik)
        have c1 := (e2.trans hE).get (CB.out i hik)
        obtain ⟨xx, r0⟩ : ∃ x, wr.cell? ⟨w2.heap.size, i, none⟩ = some (.int .u8 x) := ⟨0, by rw [hO.out.cellAt i (by omega)]; exact rowK_get hik PL.out.symm⟩
        have r1 := hO.out.frozenAt i
        have HP := Lib.hid (PG.out i)
        have sx := SA.out i
        obtain ⟨x, hx⟩ : ∃ x, a.getD i 0 = x := ⟨_, rfl⟩
        obtain ⟨y, hy⟩ : ∃ y, b.getD i 0 = y := ⟨_, rfl⟩
        rw [hx] at c0 HP sx
        rw [hy] at c1 HP sx
        have X1 : bits .xor .u8 (x : Int) (y : Int) = ((x ^^^ y : Nat) : Int) := u8_xor_nat x y (by omega) (by omega)
        obtain ⟨z, hz⟩ : ∃ z, x ^^^ y = z := ⟨_, rfl⟩
        rw [hz] at X1 HP
        clear hx hy hz sx
        go_wp2
        refine RG.region_tail (aq := ?aqn) 12 (by kernel_rfl) (by kernel_rfl) (by kernel_rfl) (by kernel_rfl) ?_ ?_
        rotate_left
        · intro wq hEq
          have q0 := hEq.get c0
          have q1 := hEq.get c1
          have q3 := hEq.get r0
          have zq := hEq.size
          have z0 := World.block_lt_of_cell? _ _ q0
          have z1 := World.block_lt_of_cell? _ _ q1
          have z3 := World.block_lt_of_cell? _ _ q3
          simp only at z0 z1 z3
          simp only [List.take_succ_cons, List.take_zero]
          repeat (go_big_quiet_step (fail))
          refine wpQuiet_nil ?_
          exact rfl
        · intro wt hEt
          simp only [List.drop_succ_cons, List.drop_zero]
          have hOt := Lib.hid (owns_ext hO.out hEt)
          have hE9 := Lib.hid (hE.trans hEt)
          have s0 := hEt.get r0
          have s1 := hOt.out.frozenAt i
          clear hEt
          go_wp2
          exact ⟨⟨i + 1, by omega, by go_num, hE9.out.setCell (p := ⟨_, i, none⟩) (Nat.le_refl _) _, Lib.hid (by
            have h := (hOt.out.stored i (.int .u8 (z : Int))).1
            rw [← HP.out, rowK_set hik PL.out.symm] at h
            rw [← HP.out]
            exact h)⟩, by simp [intOf]; omega⟩
      · have ei : i = k := by omega
        have ho := hO.out
        rw [ei] at ho ⊢
        rw [show rowK P k k = bytesL P by have h := @rowK_full P; rw [PL.out] at h; exact h] at ho
        have HC := Lib.hid (show BytesAt wr (.slice (some ⟨w2.heap.size, 0, none⟩) k k) P by
          show SlAt wr 1 _ P.length (bytesL P)
          rw [PL.out]
          exact SlAt.of_owns ho)
        have hEw := e2.trans hE
        have L15 := LX.out
        have X15 : (bytesL X).length = 15 := by unfold bytesL; rw [List.length_map]; exact L15.1
        clear ei hO ho hik hi hE e3 CA CB PG SA L15 X15
        go_wp2_with (first
          | (have _q := e5; go_at_call 22; (with_reducible refine (E3.out _ _ e5 (HC.out.ext x5) _ (Ext.refl _)).mono ?_); rintro E w6 ⟨v6, rfl, o6, h6⟩; obtain ⟨g6, c6, rfl, -, -⟩ := owns_some o6 (by decide); have e6 := e5.trans h6)
          | (have _q := e4; go_at_call 22; (with_reducible refine (E2.out _ e4).mono ?_); rintro E w5 ⟨v5, rfl, o5, h5⟩; obtain ⟨g5, c5, rfl, -, -⟩ := owns_some o5 (by decide); have e5 := e4.trans h5; have x5 := h4.trans h5)
          | (go_at_call 22; (with_reducible refine (E1.out _ hEw).mono ?_); rintro E w4 ⟨v4, rfl, o4, h4⟩; obtain ⟨g4, c4, rfl, -, -⟩ := owns_some o4 (by decide); have e4 := hEw.trans h4))
        have O4 := Lib.hid (owns_ext o4 (h5.trans h6))
        have O5 := Lib.hid (owns_ext o5 h6)
        have O6 := Lib.hid o6
        have HW := Lib.hid e6
        have R4 : Hid (∀ j < 15, w6.cell? ⟨g4, j, none⟩ = some (.int .u8 ((X.getD j 0 : Nat) : Int))) := Lib.hid (fun j hj => by rw [O4.out.cellAt j (by omega), bytesL_get (by rw [LX.out.1]; exact hj)])
        have R5 : Hid (∀ j < 15, w6.cell? ⟨g5, j, none⟩ = some (.int .u8 ((Y.getD j 0 : Nat) : Int))) := Lib.hid (fun j hj => by rw [O5.out.cellAt j (by omega), bytesL_get (by rw [LX.out.2.1]; exact hj)])
        have R6 : Hid (∀ j < 15, w6.cell? ⟨g6, j, none⟩ = some (.int .u8 ((Z.getD j 0 : Nat) : Int))) := Lib.hid (fun j hj => by rw [O6.out.cellAt j (by omega), bytesL_get (by rw [LX.out.2.2]; exact hj)])
        clear o4 o5 o6 h4 h5 h6 e4 e5 e6 x5 O4 O5 O6 E1 E2 E3 HC
        go_loopw [14, 15] (fun nn ii wi => ∃ i : Nat, i ≤ 15 ∧ ii = .int .i64 (i : Int) ∧ Ext w6 wi ∧ nn = .int .i64 ((diffK a b i : Nat) : Int)) (fun _ ii _ => 15 - (intOf ii).toNat)
        case atStart => exact ⟨0, by omega, rfl, Ext.refl _, rfl⟩
        case round =>
          obtain ⟨i, hi, rfl, hE, rfl⟩ := hrel
          by_cases hi15 : i < 15
          · have c4 := hE.get (R4.out i hi15)
            have c5 := hE.get (R5.out i hi15)
            have c6 := hE.get (R6.out i hi15)
            obtain ⟨sx, sy, sz⟩ := HS.out i hi15
            have HK := Lib.hid (HD.out i hi15)
            have hdk := diffK_le a b i
            obtain ⟨x, hx⟩ : ∃ x, X.getD i 0 = x := ⟨_, rfl⟩
            obtain ⟨y, hy⟩ : ∃ y, Y.getD i 0 = y := ⟨_, rfl⟩
            obtain ⟨z, hz⟩ : ∃ z, Z.getD i 0 = z := ⟨_, rfl⟩
            obtain ⟨n, hn⟩ : ∃ n, diffK a b i = n := ⟨_, rfl⟩
            rw [hx] at c4 HK sx sz
            rw [hy] at c5 HK sy sz
            rw [hz] at c6 sz
            rw [hn] at HK hdk ⊢
            have X1 : bits .xor .u8 (x : Int) (y : Int) = (z : Int) := by rw [sz]; exact u8_xor_nat x y (by omega) (by omega)
            have HXY := Lib.hid (And.intro hx (And.intro hy (And.intro hz hn)))
            clear hx hy hz hn sz sx sy
            by_cases hxy : x = y
            · have q1 : ((x : Int) != (y : Int)) = false := by rw [hxy]; exact bne_self_eq_false' _
              have HF2 := Lib.hid (show diffK a b (i + 1) = n by rw [HK.out, if_pos hxy])
              clear hxy
              go_wp2
              go_quiet (fail)
              go_wp2
              go_quiet (fail)
              go_wp2
              exact ⟨⟨i + 1, by omega, by go_num, hE.drewN _, by rw [HF2.out]⟩, by simp [intOf]; omega⟩
            · have q1 : ((x : Int) != (y : Int)) = true := by rw [bne_iff_ne]; omega
              have HF2 := Lib.hid (show diffK a b (i + 1) = n + 1 by rw [HK.out, if_neg hxy])
              clear hxy
              go_wp2
              go_quiet (fail)
              go_wp2
              go_quiet (fail)
              go_wp2
              exact ⟨⟨i + 1, by omega, by go_num, hE.drewN _, by rw [HF2.out]; go_num⟩, by simp [intOf]; omega⟩
          · have ei : i = 15 := by omega
            rw [ei] at ⊢
            have hd := diffK_le a b 15
            have HE := Lib.hid (HW.out.trans hE)
            have hf := HF.out
            obtain ⟨n, hn⟩ : ∃ n, diffK a b 15 = n := ⟨_, rfl⟩
            rw [hn] at hd hf ⊢
            by_cases hge : 16 ≤ n + k
            · have q2 : decide ((16 : Int) - (k : Int) ≤ (n : Int)) = true := decide_eq_true (by omega)
              clear ei hi15 hi hf hn hge hE
              go_wp2
              go_ret
              exact ⟨rfl, HE.out⟩
            · have q2 : decide ((16 : Int) - (k : Int) ≤ (n : Int)) = false := decide_eq_false (by omega)
              have hab : a = b := Classical.byContradiction fun h => hge (hf h)
              have KS := Lib.hid (fun w' (h : Ext w w') => r_SameBytes_eq _ _ a w' (H1.out.ext h) (by rw [hab]; exact H2.out.ext h))
              clear ei hi15 hi hf hn hge hE hab
              go_wp2_with (go_at_call 24; (with_reducible refine (KS.out _ HE.out).mono ?_); rintro E w7 ⟨rfl, h7⟩)
              go_ret
              exact ⟨rfl, HE.out.trans h7⟩
  · have q0 : ((a.length : Int) != (b.length : Int)) = true := by rw [bne_iff_ne]; omega
    obtain ⟨ao, ac, rfl, -⟩ := h1.form
    obtain ⟨bo, bc, rfl, -⟩ := h2.form
    clear hT h1 h2 hl
    go_enter Tryd.func8, Tryd.ntmps8
    go_wp2_with (first
      | (go_at_call 38; (with_reducible refine K0.out.mono ?_); rintro E w0 ⟨rfl, e0⟩)
      | (go_at_call 39; (with_reducible refine (K1.out _ e0).mono ?_); rintro E w1 ⟨rfl, h1⟩; have e1 := e0.trans h1)
      | (go_at_call 39; (with_reducible refine (K2.out _ e1).mono ?_); rintro E w2 ⟨rfl, h2⟩; have e2 := e1.trans h2))
    go_ret
    exact ⟨rfl, e2⟩
end Go.Proofs.YtlnofbdhamingaaDoor
