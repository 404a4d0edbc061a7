/- What is taken from the modules of a mark: the reference's. -/
import Derived.Test.YtlnofbdhamingaaDoorGRead
import Derived.Test.YtlnofbdhamingaaDoorFitFn
set_option linter.unusedVariables false
set_option linter.unusedSimpArgs false
namespace Go.Proofs.YtlnofbdhamingaaDoor
open Go.RowKit Go.Sort

theorem cornerR_two : ∀ i, i < 64 → (cornerR i).2 = !isData i := by decide
theorem corner_is : ∀ i, i < 64 → isData i = false → i = 0 ∨ i = 7 ∨ i = 56 ∨ i = 63 := by decide
theorem up_bad {ms : List Nat} {i : Nat} (hi : i < 64) (hd : isData i = false) (h1 : ms.getD i 0 ≠ 2) (h2 : ms.getD i 0 ≠ (cornerR i).1) (h3 : ms.getD i 0 ≤ 2) : upright ms = false := by
  unfold upright
  rcases corner_is i hi hd with rfl | rfl | rfl | rfl
  · have h2' : ms.getD 0 0 ≠ 1 := h2
    rw [decide_eq_false (show ¬ ms.getD 0 0 ≠ 0 by omega)]; rfl
  · have h2' : ms.getD 7 0 ≠ 0 := h2
    rw [decide_eq_false (show ¬ ms.getD 7 0 ≠ 1 by omega)]; simp
  · have h2' : ms.getD 56 0 ≠ 1 := h2
    rw [decide_eq_false (show ¬ ms.getD 56 0 ≠ 0 by omega)]; simp
  · have h2' : ms.getD 63 0 ≠ 1 := h2
    rw [decide_eq_false (show ¬ ms.getD 63 0 ≠ 0 by omega)]; simp
theorem up_ok {ms : List Nat} (h : ∀ c, c < 64 → isData c = false → ms.getD c 0 = 2 ∨ ms.getD c 0 = (cornerR c).1) : upright ms = true := by
  have a0 : ms.getD 0 0 = 2 ∨ ms.getD 0 0 = 1 := h 0 (by omega) rfl
  have a7 : ms.getD 7 0 = 2 ∨ ms.getD 7 0 = 0 := h 7 (by omega) rfl
  have a56 : ms.getD 56 0 = 2 ∨ ms.getD 56 0 = 1 := h 56 (by omega) rfl
  have a63 : ms.getD 63 0 = 2 ∨ ms.getD 63 0 = 1 := h 63 (by omega) rfl
  unfold upright
  rw [decide_eq_true (show ms.getD 0 0 ≠ 0 by omega), decide_eq_true (show ms.getD 7 0 ≠ 1 by omega), decide_eq_true (show ms.getD 56 0 ≠ 0 by omega), decide_eq_true (show ms.getD 63 0 ≠ 0 by omega)]; rfl
theorem tOf_64 : tOf 64 = 60 := by decide
theorem shl_list : ((List.range 16).all fun y => (List.range 4).all fun r => (List.range 2).all fun x => y % 2 ^ (4 - r) != 0 || ((y : Int) + (x : Int) * 2 ^ (3 - r)) % 256 == ((y + x * 2 ^ (3 - r) : Nat) : Int)) = true := by kernel_rfl
theorem shl_at {y r x : Nat} (hy : y < 16) (hr : r < 4) (hx : x < 2) (h : y % 2 ^ (4 - r) = 0) : ((y : Int) + (x : Int) * 2 ^ (3 - r)) % 256 = ((y + x * 2 ^ (3 - r) : Nat) : Int) := by
  have h1 := List.all_eq_true.1 (List.all_eq_true.1 (List.all_eq_true.1 shl_list y (List.mem_range.2 hy)) r (List.mem_range.2 hr)) x (List.mem_range.2 hx)
  rw [Bool.or_eq_true] at h1
  rcases h1 with h1 | h1
  · rw [bne_iff_ne] at h1; exact absurd h h1
  · exact beq_iff_eq.1 h1
def TakenIs (ms : List Nat) (w : World) (e : Ending) (w' : World) : Prop :=
  Ext w w' ∧ ∃ v1 v2, e = .returned (.tuple #[v1, v2, .bool (upright ms)]) ∧ (upright ms = true → BytesAt w' v1 (wordK ms 60) ∧ BoolsAt w' v2 (eraK ms 60))
set_option maxRecDepth 100000 in
set_option maxHeartbeats 16000000 in
theorem r_taken (v : Value) (ms : List Nat) (w : World) (hv : BytesAt w v ms) (hl : ms.length = 64) (h2 : ∀ i, ms.getD i 0 ≤ 2) : Calls Tryd.prog 72 #[v] w (TakenIs ms w) := by
  obtain ⟨i3, bi, bz0, bz1, bz2⟩ := info_parts3 info_byte
  obtain ⟨i4, ci, cz0, cz1, cz2⟩ := info_parts3 info_bool
  obtain ⟨mo, mc, rfl, hmc⟩ := bytes_cells hv
  rw [hl] at hmc ⊢
  obtain ⟨mb, mof, rfl, -⟩ := hmc 0 (by omega)
  have HM := Lib.hid (show ∀ i, i < 64 → w.cell? ⟨mb, mof + i, none⟩ = some (.int .u8 ((ms.getD i 0 : Nat) : Int)) from fun i h => by
    obtain ⟨b, o, e, h2⟩ := hmc i h
    cases e
    exact h2)
  have H2 := Lib.hid h2
  have HT := Lib.hid tOf_64
  have HB := Lib.hid (fun i (h : i < 64) hd h1 h2' => up_bad (ms := ms) (i := i) h hd h1 h2' (h2 i))
  have HOk := Lib.hid (fun h => up_ok (ms := ms) h)
  have HW0 := Lib.hid (wordK_zero ms)
  have HE0 := Lib.hid (eraK_zero ms)
  clear hv hl h2 hmc
  unfold TakenIs
  go_enter Tryd.func72, Tryd.ntmps72
  go_wp2
  have hst := RG.stab_of (gsM_stab w.heap.size)
  refine RG.wp_rg (gsM w.heap.size) (fun _ => []) (by kernel_rfl) (by kernel_rfl) (by kernel_rfl) ?_ ?_
  · simp only [gsM, List.length_cons, List.length_nil, List.take_succ_cons, List.take_zero, RG.Steps, and_true, Nat.reduceAdd]
    refine ⟨?_, ?_, ?_, ?_⟩
    · refine RG.st_run rfl (fun A W hW hr => ?_) hst
      obtain ⟨W', hrun, u1, u2⟩ := run_make_full (P := Tryd.prog) W w.heap.size 22 5 i3 (.int .u8 0) 1 Tryd.underlying22 bi bz0 bz1 .i64 .i64 15 (by rw [bz2]; omega) (by unfold maxLen; omega) hW.size
      refine ⟨.slice (some ⟨W.heap.size, 0, none⟩) 15 15, W', ?_, ext_of_grownNone u2, ?_⟩
      · have hrun2 : Sem.run Tryd.prog (Instr.makeSlice 22 (.int .i64 15) (.int .i64 15)) W = .ok (.slice (some ⟨W.heap.size, 0, none⟩) 15 15) W' := hrun
        simp [execOp, show ∀ v, A.eval (Operand.const v) = v from fun _ => rfl, hrun2, Result.andThen]
      · rw [made_zero (List.replicate 15 0) 15, rowK_zero] at u1
        exact u1
    · refine RG.st_run rfl (fun A W hW hr => ?_) hst
      obtain ⟨W', hrun, u1, u2⟩ := run_make_full (P := Tryd.prog) W w.heap.size 36 4 i4 (.bool false) 1 Tryd.underlying36 ci cz0 cz1 .i64 .i64 15 (by rw [cz2]; omega) (by unfold maxLen; omega) hW.size
      refine ⟨.slice (some ⟨W.heap.size, 0, none⟩) 15 15, W', ?_, ext_of_grownNone u2, ?_⟩
      · have hrun2 : Sem.run Tryd.prog (Instr.makeSlice 36 (.int .i64 15) (.int .i64 15)) W = .ok (.slice (some ⟨W.heap.size, 0, none⟩) 15 15) W' := hrun
        simp [execOp, show ∀ v, A.eval (Operand.const v) = v from fun _ => rfl, hrun2, Result.andThen]
      · rw [made_bools] at u1
        exact u1
    · refine RG.st_run rfl (fun A W hW hr => ⟨A.tmps.getD 11 undef, W, ?_, Ext.refl _, ?_⟩) hst
      · simp [execOp, go_sem]
      · exact RG.read_in (t := 11) (j := 0) hr (by kernel_rfl) (by kernel_rfl)
    · refine RG.st_run rfl (fun A W hW hr => ⟨A.tmps.getD 12 undef, W, ?_, Ext.refl _, ?_⟩) hst
      · simp [execOp, go_sem]
      · exact RG.read_in (t := 12) (j := 1) hr (by kernel_rfl) (by kernel_rfl)
  · intro wq hwq
    simp only [gsM, List.length_cons, List.length_nil, List.take_succ_cons, List.take_zero, RG.Fin, RG.goneBy, Nat.reduceAdd, List.drop_succ_cons, List.drop_zero, List.drop_nil]
    intro v0 _ v1 _ v2 h2 v3 h3
    have h2 := h2 (by decide)
    have h3 := h3 (by decide)
    simp only [Act.put, List.setIfInBounds_toArray, List.set_cons_zero, List.set_cons_succ]
    obtain ⟨gw, cw, rfl, hgw, -⟩ := owns_some h2 (by decide)
    obtain ⟨ge, ce, rfl, hge, -⟩ := owns_some h3 (by decide)
    have hne : gw ≠ ge := fun h => own_types h2 h3 (by decide) gw rfl (by rw [h]; rfl)
    have OW := Lib.hid (show wq.ownsRow w.heap.size 5 1 (.slice (some ⟨gw, 0, none⟩) 15 cw) 15 (bytesL (wordK ms 0)) by rw [HW0.out]; rw [show bytesL (List.replicate 15 0) = List.replicate 15 (Value.int .u8 0) by simp [bytesL]]; exact h2)
    have OE := Lib.hid (show wq.ownsRow w.heap.size 4 1 (.slice (some ⟨ge, 0, none⟩) 15 ce) 15 (boolsL (eraK ms 0)) by rw [HE0.out]; exact h3)
    clear h2 h3 hst
    go_wp2
    go_loopw [7, 8, 9, 10] (fun tt ii _ _ wi => ∃ i : Nat, i ≤ 64 ∧ ii = .int .i64 (i : Int) ∧ tt = .int .i64 ((tOf i : Nat) : Int) ∧ Hid (∀ c, c < i → isData c = false → ms.getD c 0 = 2 ∨ ms.getD c 0 = (cornerR c).1) ∧ Ext w wi ∧ Hid (wi.ownsRow w.heap.size 5 1 (.slice (some ⟨gw, 0, none⟩) 15 cw) 15 (bytesL (wordK ms (tOf i)))) ∧ Hid (wi.ownsRow w.heap.size 4 1 (.slice (some ⟨ge, 0, none⟩) 15 ce) 15 (boolsL (eraK ms (tOf i))))) (fun _ ii _ _ _ => 64 - (intOf ii).toNat)
    case atStart => exact ⟨0, by omega, rfl, rfl, Lib.hid (fun c h => absurd h (by omega)), hwq, OW, OE⟩
    case round =>
      clear OW OE hwq HW0 HE0
      obtain ⟨i, hi, rfl, rfl, hC, hE, hW, hEr⟩ := hrel
      by_cases hil : i < 64
      · have K := Lib.hid (fun w' => r_corner i w')
        have cm := hE.get (HM.out i hil)
        have hm2 := H2.out i
        by_cases hd : isData i = true
        · have hcn := cornerR_two i hil
          rw [hd] at hcn
          have hn60 := tOf_lt i hil hd
          have HT1 := Lib.hid (tOf_yes hd)
          have hat := atD_tOf i hil hd
          have HCC := Lib.hid (show ∀ c, c < i + 1 → isData c = false → ms.getD c 0 = 2 ∨ ms.getD c 0 = (cornerR c).1 from fun c hc hf => by
            by_cases hci : c = i
            · subst hci; rw [hd] at hf; cases hf
            · exact hC.out c (by omega) hf)
          obtain ⟨cr, hcr⟩ : ∃ c, cornerR i = c := ⟨_, rfl⟩
          rw [hcr] at K hcn
          obtain ⟨c1, c2⟩ := cr
          simp only [Bool.not_true] at hcn
          subst hcn
          clear hcr hd hC
          obtain ⟨n, hnn⟩ : ∃ n, tOf i = n := ⟨_, rfl⟩
          rw [hnn] at hn60 HT1 hat hW hEr ⊢
          have HNN := Lib.hid hnn
          clear hnn
          have ha : n / 4 < 15 := by omega
          have t2 : (n : Int).tdiv 4 = ((n / 4 : Nat) : Int) := by rw [Int.tdiv_eq_ediv_of_nonneg (by omega)]; rfl
          have t3 : (n : Int).tmod 4 = ((n % 4 : Nat) : Int) := by rw [Int.tmod_eq_emod_of_nonneg (by omega)]; rfl
          have hr := Nat.mod_lt n (show 0 < 4 by omega)
          have hwl := (wordAt_step ms (q := n / 4) (r := n % 4) hr).2
          rw [show 4 * (n / 4) + n % 4 = n by omega] at hwl
          have hwg := wordK_get (ms := ms) (n := n) ha
          rw [← hwg] at hwl
          have hw16' : (wordK ms n).getD (n / 4) 0 < 16 := by rw [hwg]; exact wordAt_lt _ _ _
          have d0 : wr.cell? ⟨gw, n / 4, none⟩ = some (.int .u8 (((wordK ms n).getD (n / 4) 0 : Nat) : Int)) := by rw [hW.out.cellAt (n / 4) (by omega), bytesL_get (by rw [wordK_len]; exact ha)]
          have d1 := hW.out.frozenAt (n / 4)
          have e0 : wr.cell? ⟨ge, n / 4, none⟩ = some (.bool ((eraK ms n).getD (n / 4) false)) := by rw [hEr.out.cellAt (n / 4) (by omega), boolsL_get (by rw [eraK_len]; exact ha)]
          have e1 := hEr.out.frozenAt (n / 4)
          by_cases hx2 : ms.getD i 0 < 2
          · have HWS := Lib.hid (wordK_step (ms := ms) hn60)
            have HES := Lib.hid (eraK_stay (ms := ms) hn60 (.inl (show lostD ms n = false from decide_eq_false (by rw [hat]; omega))))
            have hwb : wbit ms n = ms.getD i 0 := by unfold wbit; rw [hat]; exact if_pos hx2
            rw [hwb] at HWS
            obtain ⟨x, hx⟩ : ∃ x, ms.getD i 0 = x := ⟨_, rfl⟩
            rw [hx] at cm hx2 HWS hm2
            obtain ⟨y, hy⟩ : ∃ y, (wordK ms n).getD (n / 4) 0 = y := ⟨_, rfl⟩
            rw [hy] at d0 hwl hw16' HWS
            obtain ⟨a, haa⟩ : ∃ a, n / 4 = a := ⟨_, rfl⟩
            obtain ⟨r, hrr⟩ : ∃ r, n % 4 = r := ⟨_, rfl⟩
            rw [haa] at t2 ha d0 d1 HWS e0 e1
            rw [hrr] at t3 hr HWS hwl
            have HXX := Lib.hid (And.intro hx (And.intro hy (And.intro haa hrr)))
            have rr2 : ((x : Int) == 2) = false := by rw [beq_eq_false_iff_ne]; omega
            clear hx hy haa hrr hwb hwg e0 e1 hat hm2
            go_wp2_with (go_at_call 109; (with_reducible refine (K.out _).mono ?_); rintro E w1 ⟨rfl, h1⟩; have cm := h1.get cm; have d0 := h1.get d0)
            refine RG.region_tail (aq := ?_) 15 (by kernel_rfl) (by kernel_rfl) (by kernel_rfl) (by kernel_rfl) ?_ ?_
            rotate_left
            · intro wq hEq
              have p0 := hEq.get d0
              have p1 := hEq.get cm
              have zq := hEq.size
              have z1 := World.block_lt_of_cell? _ _ p0
              have z2 := World.block_lt_of_cell? _ _ p1
              simp only at z1 z2
              simp only [List.take_succ_cons, List.take_zero]
              repeat (go_big_quiet_step (fail))
              refine wpQuiet_nil ?_
              exact rfl
            · intro wt hEt
              simp only [List.drop_succ_cons, List.drop_zero]
              have hWt := Lib.hid (owns_ext hW.out (h1.trans hEt))
              have hEt2 := Lib.hid (owns_ext hEr.out (h1.trans hEt))
              have hEE := Lib.hid ((hE.trans h1).trans hEt)
              have s0 := hEt.get d0
              have s1 := hWt.out.frozenAt a
              have HOR := Lib.hid (shl_at hw16' hr hx2 hwl)
              have hgwW : w.heap.size ≤ gw := hgw
              clear hEt hW hEr hE d0 d1 cm rr2 h1
              go_wp2
              refine ⟨⟨i + 1, by omega, by go_num, by rw [HT1.out]; go_num, HCC, hEE.out.setCell (p := ⟨gw, a, none⟩) hgwW _, Lib.hid ?_, Lib.hid ?_⟩, by simp [intOf]; omega⟩
              · have h := (hWt.out.stored a (.int .u8 ((y + x * 2 ^ (3 - r) : Nat) : Int))).1
                rw [bytesL_set, HWS.out] at h
                rw [HT1.out, HOR.out]
                exact h
              · rw [HT1.out, HES.out]
                exact ownsRow_setCell_other hEt2.out (fun h => own_types hWt.out hEt2.out (by decide) gw rfl h) _
          · have hld : lostD ms n = true := decide_eq_true (by rw [hat]; omega)
            have HWS := Lib.hid (wordK_stay (ms := ms) hn60 hld)
            have HES := Lib.hid (eraK_step (ms := ms) hn60)
            rw [hld, Bool.or_true] at HES
            obtain ⟨x, hx⟩ : ∃ x, ms.getD i 0 = x := ⟨_, rfl⟩
            rw [hx] at cm hx2 hm2
            obtain rfl : x = 2 := by omega
            obtain ⟨y, hy⟩ : ∃ y, (eraK ms n).getD (n / 4) false = y := ⟨_, rfl⟩
            rw [hy] at e0
            obtain ⟨a, haa⟩ : ∃ a, n / 4 = a := ⟨_, rfl⟩
            rw [haa] at t2 ha e0 e1 HES
            have hgeW : w.heap.size ≤ ge := hge
            clear hx hy haa hwg d0 d1 hwl hw16' hld hr t3 hm2 hx2 hat
            go_wp2_with (go_at_call 109; (with_reducible refine (K.out _).mono ?_); rintro E w1 ⟨rfl, h1⟩; have cm := h1.get cm; have e0 := h1.get e0; have e1 := (owns_ext hEr.out h1).frozenAt a)
            refine ⟨⟨i + 1, by omega, by go_num, by rw [HT1.out]; go_num, HCC, (hE.trans h1).setCell (p := ⟨ge, a, none⟩) hgeW _, Lib.hid ?_, Lib.hid ?_⟩, by simp [intOf]; omega⟩
            · rw [HT1.out, HWS.out]
              exact ownsRow_setCell_other (owns_ext hW.out h1) (fun h => own_types hEr.out hW.out (by decide) ge rfl h) _
            · have h := ((owns_ext hEr.out h1).stored a (.bool true)).1
              rw [boolsL_set, HES.out] at h
              rw [HT1.out]
              exact h
        · have hd' : isData i = false := by simpa using hd
          have hcn := cornerR_two i hil
          rw [hd'] at hcn
          have HT1 := Lib.hid (tOf_no hd')
          have HCC := Lib.hid (show (ms.getD i 0 = 2 ∨ ms.getD i 0 = (cornerR i).1) → ∀ c, c < i + 1 → isData c = false → ms.getD c 0 = 2 ∨ ms.getD c 0 = (cornerR c).1 from fun h c hc hf => by
            by_cases hci : c = i
            · subst hci; exact h
            · exact hC.out c (by omega) hf)
          have HBB := Lib.hid (HB.out i hil hd')
          have hc12 : (cornerR i).1 ≤ 1 := by unfold cornerR; split; exact Nat.le_refl _; split <;> exact Nat.zero_le _
          obtain ⟨cr, hcr⟩ : ∃ c, cornerR i = c := ⟨_, rfl⟩
          rw [hcr] at K hcn HCC HBB hc12
          obtain ⟨c1, c2⟩ := cr
          simp only [Bool.not_false] at hcn
          subst hcn
          dsimp only at HCC HBB hc12
          clear hcr hd hd' hC
          obtain ⟨x, hx⟩ : ∃ x, ms.getD i 0 = x := ⟨_, rfl⟩
          rw [hx] at cm hm2 HCC HBB
          obtain ⟨n, hnn⟩ : ∃ n, tOf i = n := ⟨_, rfl⟩
          rw [hnn] at HT1 hW hEr ⊢
          clear hx hnn
          by_cases hx2 : x = 2
          · subst hx2
            have HC2 := Lib.hid (HCC.out (.inl rfl))
            clear HCC HBB
            go_wp2_with (go_at_call 109; (with_reducible refine (K.out _).mono ?_); rintro E w1 ⟨rfl, h1⟩; have cm := h1.get cm)
            exact ⟨⟨i + 1, by omega, by go_num, by rw [HT1.out], HC2, hE.trans h1, Lib.hid (by rw [HT1.out]; exact owns_ext hW.out h1), Lib.hid (by rw [HT1.out]; exact owns_ext hEr.out h1)⟩, by simp [intOf]; omega⟩
          · have r1 : ((x : Int) == 2) = false := by rw [beq_eq_false_iff_ne]; omega
            by_cases hxc : x = c1
            · subst hxc
              have HC2 := Lib.hid (HCC.out (.inr rfl))
              clear HCC HBB
              go_wp2_with (go_at_call 109; (with_reducible refine (K.out _).mono ?_); rintro E w1 ⟨rfl, h1⟩; have cm := h1.get cm)
              exact ⟨⟨i + 1, by omega, by go_num, by rw [HT1.out], HC2, hE.trans h1, Lib.hid (by rw [HT1.out]; exact owns_ext hW.out h1), Lib.hid (by rw [HT1.out]; exact owns_ext hEr.out h1)⟩, by simp [intOf]; omega⟩
            · have r2 : ((x : Int) == (c1 : Int)) = false := by rw [beq_eq_false_iff_ne]; omega
              have r3 : ((x : Int) != (c1 : Int)) = true := by rw [bne, r2]; rfl
              have r4 : ((x : Int) != 2) = true := by rw [bne, r1]; rfl
              have HU := Lib.hid (HBB.out hx2 hxc)
              clear HCC HBB
              go_wp2_with (go_at_call 109; (with_reducible refine (K.out _).mono ?_); rintro E w1 ⟨rfl, h1⟩; have cm := h1.get cm)
              go_ret3
              rw [HU.out]
              exact ⟨hE.trans h1, _, _, rfl, fun h => nomatch h⟩
      · obtain rfl : i = 64 := by omega
        have HU := Lib.hid (HOk.out hC.out)
        rw [HT.out] at hW hEr
        clear hC
        go_wp2
        go_ret3
        rw [HU.out]
        exact ⟨hE, _, _, rfl, fun _ => ⟨by have h := SlAt.of_owns hW.out; unfold BytesAt; rw [wordK_len]; exact h, by have h := SlAt.of_owns hEr.out; unfold BoolsAt; rw [eraK_len]; exact h⟩⟩
end Go.Proofs.YtlnofbdhamingaaDoor
