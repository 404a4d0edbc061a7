/- Joined from the parts KernelFn, RowsUp. -/
import Derived.Test.YtlnofbdhamingaaDoorGPoly
import Derived.Deep.DeepCutAuto
import Derived.Deep.Cut
set_option linter.unusedVariables false
set_option linter.unusedSimpArgs false
/- A solution of a system of equations: the program's. -/
namespace Go.Proofs.YtlnofbdhamingaaDoor
open Go.RowKit Go.Sort

theorem info_intK : (Tryd.prog.info? 3).map (fun i => (i.zero, i.size, i.bytes)) = some (some (.int .i64 0), 1, 8) := by kernel_rfl
def rangeI (k : Nat) : List Int := (List.range k).map Int.ofNat
theorem rangeI_len (k : Nat) : (rangeI k).length = k := by simp [rangeI]
theorem rangeI_succ (k : Nat) : rangeI (k + 1) = rangeI k ++ [(k : Int)] := by simp [rangeI, List.range_succ]
theorem rangeI_get {c k : Nat} (h : k < c) : (ints (rangeI c))[k]? = some (.int .i64 (k : Int)) := by
  rw [ints_get (by rw [rangeI_len]; exact h)]
  simp [rangeI, List.getD_eq_getElem?_getD, h]
/-- what 'kernel' answers -/
def KernelIs (R0 : Mat) (u : Nat) (w0 w : World) (e : Ending) (w' : World) : Prop :=
  Ext w0 w' ∧ ((KerOk R0 u none ∧ e = .returned (.slice none 0 0)) ∨ ∃ v vv, KerOk R0 u (some v) ∧ e = .returned vv ∧ w'.ownsRow w.heap.size 92 1 vv u (bytesL v))
set_option maxRecDepth 100000 in
set_option maxHeartbeats 16000000 in
theorem c_kernel (w0 w : World) (R cap n u : Nat) (gs : List (Nat × Nat)) (R0 : Mat) (hT : Tabs w0) (hE0 : Ext w0 w) (hR : RowsAt w w0.heap.size w.heap.size R cap gs R0 n u) (hn1 : 1 ≤ n) (hn : n ≤ 100) (hu1 : 1 ≤ u) (hu : u ≤ 100) (hok : R0.Ok u) :
    Calls Tryd.prog 95 #[.slice (some ⟨R, 0, none⟩) n cap, .int .i64 (u : Int)] w (KernelIs R0 u w0 w) := by
  obtain ⟨i0, hi, hz0, hz1, hz2⟩ := info_parts3 info_intK
  obtain ⟨i1, ki, kz0, kz1, kz2⟩ := info_parts3 info_symS
  have HT := Lib.hid hT
  have HR0 := Lib.hid hR
  have HK0 := Lib.hid (kin_start hok)
  have hb0 := hE0.size
  clear hT hR hok
  go_enter Tryd.func95, Tryd.ntmps95
  go_wp2
  go_step3
  go_wp2
  go_step3
  go_wp2
  obtain ⟨B, hB⟩ : ∃ B, w.heap.size = B := ⟨_, rfl⟩
  rw [hB] at HR0 hb0
  have HBB := Lib.hid hB
  go_loopw [5, 6, 18] (fun pv fr ci wr => ∃ (c : Nat) (gs : List (Nat × Nat)) (M : Mat), c ≤ u ∧ ci = .int .i64 (c : Int) ∧ fr = .int .i64 (-1) ∧ Ext w0 wr ∧ Hid (Kin R0 M u c) ∧ Hid (RowsAt wr w0.heap.size B R cap gs M n u) ∧ Hid (wr.ownsRow B 3 1 pv c (ints (rangeI c))) ∧ Hid (B ≤ wr.heap.size)) (fun _ _ ci _ => u - (intOf ci).toNat)
  case atStart => exact ⟨0, gs, R0, Nat.zero_le _, rfl, rfl, hE0, HK0, HR0, Lib.hid ⟨rfl, .inl ⟨rfl, rfl⟩⟩, Lib.hid (by rw [HBB.out]; exact Nat.le_refl _)⟩
  case round =>
    clear HR0 HK0 gs
    obtain ⟨c, gs, M, hcu, rfl, rfl, hE, hK, hM, hP, hBz⟩ := hrel
    have hcn : c ≤ n := by have h1 := hK.out.2.1.1; have h2 := hM.out.len; omega
    obtain ⟨-, ao, pc, rfl, -⟩ := SlAt.of_owns hP.out
    by_cases hc : c < u
    · obtain ⟨W0, hW0⟩ : ∃ W0, W0 = wr := ⟨_, rfl⟩
      subst hW0
      go_wp2
      go_loopw [5, 9] (fun pv ii wi => ∃ i : Nat, c ≤ i ∧ i ≤ n ∧ ii = .int .i64 (i : Int) ∧ pv = .slice ao c pc ∧ Ext w0 wi ∧ Hid (∀ j, c ≤ j → j < i → M.at j c = 0) ∧ Hid (RowsAt wi w0.heap.size B R cap gs M n u) ∧ Hid (wi.ownsRow B 3 1 (.slice ao c pc) c (ints (rangeI c))) ∧ Hid (B ≤ wi.heap.size)) (fun _ ii _ => n - (intOf ii).toNat)
      case atStart => exact ⟨c, Nat.le_refl _, hcn, rfl, rfl, hE, Lib.hid (fun j h1 h2 => absurd h1 (by omega)), hM, hP, hBz⟩
      case round =>
        clear hM hP hBz hE
        obtain ⟨i, hci, hin, rfl, rfl, hE, hZ, hM, hP, hBz⟩ := hrel
        by_cases hi' : i < n
        · have ct := hM.out.cellTop hi'
          have cc := hM.out.cell hi' hc
          have hal := Mat.at_lt (i := i) (j := c) hK.out.1
          obtain ⟨⟨gi, qi⟩, hgi⟩ : ∃ p, gAt gs i = p := ⟨_, rfl⟩
          rw [hgi] at ct cc
          unfold RowV at ct
          dsimp only at ct cc
          by_cases ha0 : M.at i c = 0
          · rw [ha0] at cc
            have HZ := Lib.hid (show ∀ j, c ≤ j → j < i + 1 → M.at j c = 0 from fun j h1 h2 => by
              rcases Nat.lt_or_ge j i with h9 | h9
              · exact hZ.out j h1 h9
              · obtain rfl : j = i := by omega
                exact ha0)
            clear hZ hgi ha0
            go_wp2
            exact ⟨⟨i + 1, by omega, by omega, by go_num, rfl, hE, HZ, hM, hP, hBz⟩, by simp [intOf]; omega⟩
          · have HA0 := Lib.hid ha0
            obtain ⟨a, haa⟩ : ∃ a, M.at i c = a := ⟨_, rfl⟩
            rw [haa] at cc hal ha0
            have q0 : ((a : Int) == 0) = false := by rw [beq_eq_false_iff_ne]; omega
            have hcn' : c < n := by omega
            have cn := hM.out.cellTop hcn'
            obtain ⟨⟨gn, qn⟩, hgn⟩ : ∃ p, gAt gs c = p := ⟨_, rfl⟩
            rw [hgn] at cn
            unfold RowV at cn
            dsimp only at cn
            have f1 := hM.out.top.frozenAt i
            have f2 := hM.out.top.frozenAt c
            have HAA := Lib.hid (And.intro haa (And.intro hgi hgn))
            clear haa hgi hgn ha0
            have hs1 := (hM.out.top.stored c (.slice (some ⟨gi, 0, none⟩) u qi)).1
            have hs3 : i < ((gs.map (RowV u)).set c (.slice (some ⟨gi, 0, none⟩) u qi)).length := by rw [List.length_set, List.length_map, hM.out.glen]; exact hi'
            have s1 : ((wr.setCell ⟨R, c, none⟩ (.slice (some ⟨gi, 0, none⟩) u qi)).drew).cell? ⟨R, i, none⟩ = some (((gs.map (RowV u)).set c (.slice (some ⟨gi, 0, none⟩) u qi))[i]'hs3) := by
              rw [hs1.drew.cellAt i (by omega)]
              exact List.getElem?_eq_getElem hs3
            have s2 := hs1.drew.frozenAt i
            obtain ⟨sv, hsv⟩ : ∃ v, ((gs.map (RowV u)).set c (.slice (some ⟨gi, 0, none⟩) u qi))[i]'hs3 = v := ⟨_, rfl⟩
            rw [hsv] at s1
            clear hs1 hsv
            go_wp2
            go_region
            obtain ⟨W1, hW1⟩ : ∃ W1, ((wr.setCell ⟨R, c, none⟩ (.slice (some ⟨gi, 0, none⟩) u qi)).setCell ⟨R, i, none⟩ (.slice (some ⟨gn, 0, none⟩) u qn)).drew = W1 := ⟨_, rfl⟩
            have hRb := hM.out.base_le.1
            have hRB := hM.out.low.1
            have hE1 : Ext w0 W1 := by
              rw [← hW1]
              exact ((hE.setCell (p := ⟨R, c, none⟩) hRb _).setCell (p := ⟨R, i, none⟩) hRb _).drew
            have hM1 : RowsAt W1 w0.heap.size B R cap (gSwap gs c i) (M.swap c i) n u := by
              have h := hM.out.swap hcn' hi'
              rw [HAA.out.2.1, HAA.out.2.2] at h
              rw [← hW1]
              exact h.ext (Ext.refl _).drew
            have hpn : ∀ k, (Value.slice ao c pc).ownBlock = some k → k ≠ R := fun k hk => by
              have := (hP.out.lt k hk).1
              omega
            have hP1 : W1.ownsRow B 3 1 (.slice ao c pc) c (ints (rangeI c)) := by
              rw [← hW1]
              exact (ownsRow_setCell_other (ownsRow_setCell_other hP.out (fun h => hpn R h rfl) _) (fun h => hpn R h rfl) _).drew
            have hB1 : B ≤ W1.heap.size := by
              have h1 := hBz.out
              have h2 := (gb_trans (gb_set wr R c (.slice (some ⟨gi, 0, none⟩) u qi)) (gb_set _ R i (.slice (some ⟨gn, 0, none⟩) u qn))).size
              rw [← hW1]
              exact Nat.le_trans h1 h2
            have hg1 : gAt (gSwap gs c i) c = (gi, qi) := by
              rw [gSwap_get (by rw [hM.out.glen]; exact hcn') (by rw [hM.out.glen]; exact hi')]
              by_cases h : c = i
              · rw [if_pos h, h]; exact HAA.out.2.1
              · rw [if_neg h, if_pos rfl]; exact HAA.out.2.1
            have hr1 : (M.swap c i).row c = M.row i := by
              rw [Mat.row_swap (by rw [hM.out.len]; exact hcn') (by rw [hM.out.len]; exact hi')]
              by_cases h : c = i
              · rw [if_pos h, h]
              · rw [if_neg h, if_pos rfl]
            have HPL := Lib.hid hpn
            rw [hW1]
            have HM1 := Lib.hid hM1
            have HP1 := Lib.hid hP1
            have HB1 := Lib.hid hB1
            have HE1 := Lib.hid hE1
            obtain ⟨gs1, hgs1⟩ : ∃ g, gSwap gs c i = g := ⟨_, rfl⟩
            rw [hgs1] at HM1 hg1
            have HML := Lib.hid (And.intro hM.out.len hM.out.glen)
            clear hM1 hP1 hB1 hE1 hM hP hBz hE hpn ct cc cn f1 f2 s1 s2 hW1 hgs1
            obtain ⟨M1, hMM1⟩ : ∃ m, M.swap c i = m := ⟨_, rfl⟩
            rw [hMM1] at HM1 hr1
            have HMM1 := Lib.hid hMM1
            have ct := HM1.out.cellTop hcn'
            have cc := HM1.out.cell hcn' hc
            have hac : M1.at c c = a := by
              have h := HAA.out.1
              unfold Mat.at at h ⊢
              rw [hr1]; exact h
            rw [hg1] at ct cc
            unfold RowV at ct
            dsimp only at ct cc
            rw [hac] at cc
            obtain ⟨s, hs⟩ : ∃ s, ginv a = s := ⟨_, rfl⟩
            have hsl : s < 16 := by
              have : ∀ x : Fin 16, ginv x < 16 := by decide
              rw [← hs]
              exact this ⟨a, hal⟩
            have CI := Lib.hid (fun (w' : World) (h : Ext W1 w') => c_inverse a hal w' (HT.out.ext (HE1.out.trans h)))
            rw [hs] at CI
            have HSS := Lib.hid hs
            have HR1 := Lib.hid hr1
            have HG1 := Lib.hid hg1
            clear hMM1 hac hs hr1 hg1
            go_wp2_with (go_at_call 55; (with_reducible refine (CI.out _ (Ext.refl _)).mono ?_); rintro E W2 ⟨rfl, h2⟩; have ct2 := h2.get ct; have cc2 := h2.get cc; clear ct cc)
            have HM2 := Lib.hid (HM1.out.ext h2)
            have HP2 := Lib.hid (owns_ext HP1.out h2)
            have HB2 := Lib.hid (Nat.le_trans HB1.out h2.size)
            have hE2 := HE1.out.trans h2
            clear HM1 HP1 HB1 HE1 h2 ct2 cc2 CI
            obtain ⟨r, hr⟩ : ∃ r, M1.row c = r := ⟨_, rfl⟩
            have hrl : r.length = u := by rw [← hr]; exact HM2.out.rlen c hcn'
            have HRS := Lib.hid (show Syms r by rw [← hr, HR1.out]; exact (Mat.ok_row hK.out.1 (by rw [HML.out.1]; exact hi')).1)
            have HM3 := Lib.hid (show RowsAt W2 w0.heap.size B R cap gs1 (M1.set c (mapK (gmul s) r 0)) n u by
              rw [mapK_zero, ← hr]
              have h := set_same (l := M1) (i := c) (d := [])
              unfold Mat.row
              rw [h]; exact HM2.out)
            have HRR := Lib.hid hr
            clear HM2 hr
            go_loopw [66] (fun ki wi => ∃ k : Nat, k ≤ u ∧ ki = .int .i64 (k : Int) ∧ Ext w0 wi ∧ Hid (RowsAt wi w0.heap.size B R cap gs1 (M1.set c (mapK (gmul s) r k)) n u) ∧ Hid (wi.ownsRow B 3 1 (.slice ao c pc) c (ints (rangeI c))) ∧ Hid (B ≤ wi.heap.size)) (fun ki _ => u - (intOf ki).toNat)
            case atStart => exact ⟨0, Nat.zero_le _, rfl, hE2, HM3, HP2, HB2⟩
            case round =>
              clear HM3 HP2 HB2 hE2
              obtain ⟨k, hku, rfl, hE, hM, hP, hBz⟩ := hrel
              by_cases hk : k < u
              · have ct := hM.out.cellTop hcn'
                have r0 := hM.out.cell hcn' hk
                have f0 := hM.out.free hcn' k
                rw [HG1.out] at ct r0 f0
                unfold RowV at ct
                dsimp only at ct r0 f0
                have hx : Mat.at (M1.set c (mapK (gmul s) r k)) c k = r.getD k 0 := by
                  unfold Mat.at
                  rw [Mat.row_set (by have h1 := hM.out.len; rw [List.length_set] at h1; omega), if_pos rfl, mapK_get (by omega)]
                rw [hx] at r0
                have hxl := syms_get HRS.out k
                have HS := Lib.hid (mapK_set (f := gmul s) (l := r) (k := k) (by omega))
                obtain ⟨x, hxx⟩ : ∃ x, r.getD k 0 = x := ⟨_, rfl⟩
                rw [hxx] at r0 hxl HS
                have CM := Lib.hid (fun (w' : World) (h : Ext wr w') => c_mul s x hsl hxl w' (HT.out.ext (hE.trans h)))
                obtain ⟨y, hy⟩ : ∃ y, gmul s x = y := ⟨_, rfl⟩
                rw [hy] at CM HS
                have HYY := Lib.hid (And.intro hxx hy)
                clear hx hxx hy
                go_wp2
                refine RG.region_tail (aq := ?aqn) 9 (by kernel_rfl) (by kernel_rfl) (by kernel_rfl) (by kernel_rfl) ?_ ?_
                rotate_left
                · intro wq hEq
                  have q1 := hEq.get ct
                  have q3 := hEq.get r0
                  have zq := hEq.size
                  have z0 := World.block_lt_of_cell? _ _ q1
                  have z1 := World.block_lt_of_cell? _ _ q3
                  simp only at z0 z1
                  simp only [List.take_succ_cons, List.take_zero]
                  repeat (go_big_quiet_step ((go_at_call 53; with_reducible exact Calls.ext_of (CM.out _ (hEq.trans (Ext.grow _ _ _))))))
                  refine wpQuiet_nil ?_
                  exact rfl
                · intro wt hEt
                  simp only [List.drop_succ_cons, List.drop_zero]
                  have hMt := Lib.hid (hM.out.ext hEt)
                  have hPt := Lib.hid (owns_ext hP.out hEt)
                  have hE9 := Lib.hid (hE.trans hEt)
                  have hBt := Lib.hid (Nat.le_trans hBz.out hEt.size)
                  have s0 := hEt.get r0
                  have s1 := hMt.out.free hcn' k
                  rw [HG1.out] at s1
                  dsimp only at s1
                  clear hEt hM hP hE hBz ct r0 f0
                  have hgb := hMt.out.base_le.2 c hcn'
                  have hgB := hMt.out.low.2 c hcn'
                  rw [HG1.out] at hgb hgB
                  dsimp only at hgb hgB
                  go_wp2
                  refine ⟨⟨k + 1, by omega, by go_num, hE9.out.setCell (p := ⟨gi, k, none⟩) hgb _, Lib.hid ?_, Lib.hid (ownsRow_setCell_other hPt.out (fun h => ?_) _), Lib.hid (Nat.le_trans hBt.out (gb_set _ _ _ _).size)⟩, by simp [intOf]; omega⟩
                  · have h := hMt.out.put (w' := wt.setCell ⟨gi, k, none⟩ (.int .u8 (y : Int))) hcn' (r := mapK (gmul s) r (k + 1)) (by
                      have h1 := hMt.out.row c hcn'
                      rw [HG1.out] at h1 ⊢
                      have h2 := (h1.stored k (.int .u8 (y : Int))).1
                      rw [Mat.row_set (by have h1 := hMt.out.len; rw [List.length_set] at h1; omega), if_pos rfl, bytesL_set, HS.out] at h2
                      exact h2) (by rw [mapK_len]; exact hrl) (by rw [HG1.out]; exact gb_set _ _ _ _)
                    rw [List.set_set] at h
                    exact h
                  · have := (hPt.out.lt gi h).1
                    omega
              · obtain rfl : u = k := by omega
                have hOM : M.Ok u := hK.out.1
                have hl1 : M1.length = n := by have h1 := hM.out.len; rw [List.length_set] at h1; exact h1
                have hO1 : M1.Ok u := by rw [← HMM1.out]; exact Mat.swap_ok hOM (by rw [HML.out.1]; exact hcn') (by rw [HML.out.1]; exact hi')
                obtain ⟨M2, hM2⟩ : ∃ m, M1.scale c s = m := ⟨_, rfl⟩
                have HO2 := Lib.hid (show M2.Ok u by rw [← hM2]; exact Mat.scale_ok hO1 (by omega) hsl)
                have hl2 : M2.length = n := by rw [← hM2, Mat.scale_len]; exact hl1
                have HL2 := Lib.hid hl2
                have HM2 := Lib.hid (show RowsAt wr w0.heap.size B R cap gs1 (M2.clears c c 0) n u by
                  have h := hM.out
                  rw [show mapK (gmul s) r u = pscale s (M1.row c) by rw [← hrl, mapK_full, HRR.out]; rfl] at h
                  rw [← hM2]
                  exact h)
                have HPV := Lib.hid (show M.pivot c i = M2.clears c c n by
                  unfold Mat.pivot
                  dsimp only
                  rw [HMM1.out, HAA.out.1, HSS.out, hM2, hl2])
                have HP2 := hP
                have HB2 := hBz
                have hE2 := hE
                clear hM hP hBz hE hO1 hOM hM2 hl2 HRS HRR HMM1 hl1 hrl
                go_wp2
                go_loopw [83] (fun ki wi => ∃ k : Nat, k ≤ n ∧ ki = .int .i64 (k : Int) ∧ Ext w0 wi ∧ Hid (RowsAt wi w0.heap.size B R cap gs1 (M2.clears c c k) n u) ∧ Hid (wi.ownsRow B 3 1 (.slice ao c pc) c (ints (rangeI c))) ∧ Hid (B ≤ wi.heap.size)) (fun ki _ => n - (intOf ki).toNat)
                case atStart => exact ⟨0, Nat.zero_le _, rfl, hE2, HM2, HP2, HB2⟩
                case round =>
                  clear HM2 HP2 HB2 hE2
                  obtain ⟨k, hkn, rfl, hE, hM, hP, hBz⟩ := hrel
                  by_cases hk : k < n
                  · have HCS := Lib.hid (show M2.clears c c (k + 1) = (M2.clears c c k).clear c c k from rfl)
                    by_cases hkc : k = c
                    · have q1 : ((k : Int) != (c : Int)) = false := by rw [hkc]; simp
                      have HM9 := Lib.hid (show RowsAt wr w0.heap.size B R cap gs1 (M2.clears c c (k + 1)) n u by
                        rw [HCS.out, Mat.clear, if_pos hkc]; exact hM.out)
                      clear hM hkc
                      go_wp2
                      exact ⟨⟨k + 1, by omega, by go_num, hE, HM9, hP, hBz⟩, by simp [intOf]; omega⟩
                    · have q1 : ((k : Int) != (c : Int)) = true := by rw [bne_iff_ne]; omega
                      have ctk := hM.out.cellTop hk
                      have ctc := hM.out.cellTop hcn'
                      have r0 := hM.out.cell hk hc
                      obtain ⟨⟨gk, qk⟩, hgk⟩ : ∃ p, gAt gs1 k = p := ⟨_, rfl⟩
                      rw [HG1.out] at ctc
                      rw [hgk] at ctk r0
                      unfold RowV at ctk ctc
                      dsimp only at ctk ctc r0
                      obtain ⟨Mk, hMk⟩ : ∃ m, M2.clears c c k = m := ⟨_, rfl⟩
                      have hOk : Mk.Ok u := by rw [← hMk]; exact Mat.clears_ok HO2.out (by rw [HL2.out]; exact hcn') (by rw [HL2.out]; omega)
                      have hlk : Mk.length = n := by rw [← hMk, Mat.clears_len, HL2.out]
                      rw [hMk] at hM r0 HCS
                      have ht := Mat.at_lt (i := k) (j := c) hOk
                      have HOK := Lib.hid (Mat.ok_row hOk (i := k) (by omega))
                      have HOC := Lib.hid (Mat.ok_row hOk (i := c) (by omega))
                      have HRK := Lib.hid (show wr.ownsRow w0.heap.size 92 1 (.slice (some ⟨gk, 0, none⟩) u qk) u (bytesL (Mk.row k)) by have h := hM.out.row k hk; rw [hgk] at h; exact h)
                      have HRC := Lib.hid (show BytesAt wr (.slice (some ⟨gi, 0, none⟩) u qi) (Mk.row c) by have h := hM.out.row c hcn'; rw [HG1.out] at h; have h2 := SlAt.of_owns h; have h3 := (Mat.ok_row hOk (i := c) (by omega)).2; unfold BytesAt; rw [h3]; exact h2)
                      have HNE := Lib.hid (show ∀ j, (Value.slice (some ⟨gi, 0, none⟩) u qi).ownBlock = some j → some j ≠ some gk from fun j h1 h2 => by
                        have e1 : gi = j := Option.some.inj h1
                        have e2 : j = gk := Option.some.inj h2
                        have h := hM.out.apart.2 k c hk hcn' hkc
                        rw [hgk, HG1.out] at h
                        dsimp only at h
                        omega)
                      have HCR := Lib.hid (show Mk.clear c c k = Mk.set k (padd (Mk.row k) (pscale (Mk.at k c) (Mk.row c))) by unfold Mat.clear; rw [if_neg hkc])
                      obtain ⟨t, htt⟩ : ∃ t, Mk.at k c = t := ⟨_, rfl⟩
                      rw [htt] at r0 ht HCR
                      have HGK := Lib.hid (And.intro hgk htt)
                      have HLK := Lib.hid (And.intro hMk hlk)
                      clear hMk hlk hOk hgk htt hkc
                      go_wp2
                      refine RG.region_tail (aq := ?aqm) 15 (by kernel_rfl) (by kernel_rfl) (by kernel_rfl) (by kernel_rfl) ?_ ?_
                      rotate_left
                      · intro wq hEq
                        have q1 := hEq.get ctk
                        have q2 := hEq.get ctc
                        have q3 := hEq.get r0
                        have zq := hEq.size
                        have z0 := World.block_lt_of_cell? _ _ q1
                        have z1 := World.block_lt_of_cell? _ _ q3
                        simp only at z0 z1
                        simp only [List.take_succ_cons, List.take_zero]
                        repeat (go_big_quiet_step (fail))
                        refine wpQuiet_nil ?_
                        exact rfl
                      · intro wt hEt
                        simp only [List.drop_succ_cons, List.drop_zero]
                        have hMt := Lib.hid (hM.out.ext hEt)
                        have hPt := Lib.hid (owns_ext hP.out hEt)
                        have hE9 := Lib.hid (hE.trans hEt)
                        have hBt := Lib.hid (Nat.le_trans hBz.out hEt.size)
                        have hRK := Lib.hid (owns_ext HRK.out hEt)
                        have hRC := Lib.hid (HRC.out.ext hEt)
                        clear hEt hM hP hE hBz ctk ctc r0 HRK HRC
                        have hgb := hMt.out.base_le.2 k hk
                        have hgB := hMt.out.low.2 k hk
                        rw [HGK.out.1] at hgb hgB
                        dsimp only at hgb hgB
                        have hu9 : u ≤ 1000 := Nat.le_trans hu (by decide)
                        have hu8 : 0 + u ≤ u := by rw [Nat.zero_add]; exact Nat.le_refl _
                        have hu7 : (Mk.row c).length ≤ u := by rw [HOC.out.2]; exact Nat.le_refl _
                        have KS := Lib.hid (c_scaled w0 gk 0 u qk u qk w0.heap.size t (Mk.row k) (Mk.row c) _ wt HT.out hE9.out (Nat.le_refl _) hRK.out HOK.out.2 HOK.out.1 hu9 hRC.out HNE.out HOC.out.1 ht hu8 hu7)
                        go_wp2_with (first
                          | (go_at_call 122
                             (with_reducible refine KS.out.mono ?_)
                             rintro E w8 ⟨rfl, a1, a2⟩
                             have hE8 := hE9.out.gb a2 hgb
                             have hM8 := Lib.hid (hMt.out.put hk (r := addAt (Mk.row k) 0 t (Mk.row c)) (by rw [HGK.out.1]; exact a1) (by rw [addAt_len (by rw [HOC.out.2, HOK.out.2]; omega)]; exact HOK.out.2) (by rw [HGK.out.1]; exact a2))
                             have hP8 := Lib.hid (own_gb hPt.out a2 (fun j h1 h2 => by have e1 := (hPt.out.lt j h1).1; have e2 : j = gk := Option.some.inj h2; omega))
                             have hB8 := Lib.hid (Nat.le_trans hBt.out a2.size)
                             clear a1 a2))
                        refine ⟨⟨k + 1, by omega, by go_num, hE8, Lib.hid ?_, hP8, hB8⟩, by simp [intOf]; omega⟩
                        rw [HCS.out, HCR.out, ← addAt_all]
                        exact hM8.out
                  · obtain rfl : n = k := by omega
                    have HKn := Lib.hid (kin_step hK.out hci (by rw [HML.out.1]; exact hi') HA0.out)
                    rw [HPV.out] at HKn
                    have HRL := Lib.hid (rangeI_succ c)
                    have hrl := rangeI_len c
                    obtain ⟨rl, hrl2⟩ : ∃ l, rangeI c = l := ⟨_, rfl⟩
                    rw [hrl2] at HRL hrl hP
                    have hPz := hP
                    rw [← hrl] at hPz
                    have hc100 : c ≤ 100 := by omega
                    clear hrl2 HPV HML HAA HSS HR1
                    go_wp2_with (at_builtin; refine wpList_append_sl rfl _ _ 42 rfl B 3 i0 (.int .i64 0) 1 8 Tryd.underlying42 hi hz0 hz1 hz2 rfl (by omega) (.slice ao c pc) c (ints rl) rfl (owns_ext hP.out ((Ext.refl _).alloc _)) _ 1 [.int .i64 (c : Int)] rfl (SlAt.of_owns (owns_lit wr [.int .i64 (c : Int)] 3 1 1 0 (Nat.zero_le _) (by unfold maxLen; omega) rfl)) (ints_oneCell' [(c : Int)]) (by unfold maxLen; omega) (by omega) (Nat.le_trans hBz.out ((Ext.refl wr).alloc _).size) ?_; intro v' w' ho hg)
                    have hEa : Ext wr (wr.alloc (.cells #[.int .i64 (c : Int)] 3)) := (Ext.refl wr).alloc _
                    have hPB : ∀ g, (Value.slice ao c pc).ownBlock = some g → B ≤ g := fun g hk => (hP.out.lt g hk).1
                    refine ⟨⟨c + 1, gs1, _, by omega, by go_num, rfl, (hE.alloc _).grown hg (fun g hk => Nat.le_trans hb0 (hPB g hk)), HKn, Lib.hid ((hM.out.ext hEa).gb hg hPB), Lib.hid (by
                      rw [HRL.out, show ints (rl ++ [(c : Int)]) = ints rl ++ [.int .i64 (c : Int)] by simp [ints]]
                      exact ho), Lib.hid (Nat.le_trans (Nat.le_trans hBz.out hEa.size) hg.size)⟩, by simp [intOf]; omega⟩
        · obtain rfl : n = i := by omega
          have HKS := Lib.hid (kin_some hK.out hc (fun i h1 h2 => hZ.out i h1 (by rw [← hM.out.len]; exact h2)))
          have hzz := Nat.le_trans hb0 hBz.out
          have hMc : ∀ k, (nullK M c u k).length = u ∨ c < k := fun k => by
            rcases Nat.lt_or_ge c k with h | h
            · exact .inr h
            · exact .inl (nullK_len hc h)
          have HNL := Lib.hid hMc
          have hnc : c < n ∨ c = n := by omega
          clear hZ hi' hMc hin hci
          go_wp2_with (at_make; refine wpList_make_full _ rfl _ _ 129 rfl B 92 i1 (.int .u8 0) 1 Tryd.underlying129 ki kz0 kz1 .i64 .i64 _ _ u rfl rfl rfl rfl (by rw [kz2]; omega) (by unfold maxLen; omega) hBz.out ?_; intro w3 ho3 hg3; rw [made_zero (List.replicate u 0) u, rowK_zero, show List.replicate u (Value.int .u8 0) = bytesL (List.replicate u 0) by simp [bytesL]] at ho3; have h3 : Ext wr w3 := ext_of_grownNone hg3; have HO3 := Lib.hid ho3; have r0 : w3.cell? ⟨wr.heap.size, c, none⟩ = some (.int .u8 ((0 : Nat) : Int)) := (by rw [ho3.cellAt c (by omega), bytesL_get (by simp; omega)]; simp [List.getD_eq_getElem?_getD, hc]); have r1 := ho3.frozenAt c; clear ho3 hg3)
          obtain ⟨G, hG⟩ : ∃ G, wr.heap.size = G := ⟨_, rfl⟩
          have hBG : B ≤ G := by rw [← hG]; exact hBz.out
          rw [hG] at HO3 ⊢
          have hE4 : Ext w0 (w3.setCell ⟨G, c, none⟩ (.int .u8 1)) := (hE.trans h3).setCell (p := ⟨G, c, none⟩) (by show w0.heap.size ≤ G; omega) _
          have HO4 := Lib.hid (show (w3.setCell ⟨G, c, none⟩ (.int .u8 1)).ownsRow B 92 1 (.slice (some ⟨G, 0, none⟩) u u) u (bytesL (nullK M c u 0)) by
            have h := (HO3.out.stored c (.int .u8 ((1 : Nat) : Int))).1
            rw [bytesL_set, nullK_zero M hc] at h
            exact h)
          have HM4 := Lib.hid (show RowsAt (w3.setCell ⟨G, c, none⟩ (.int .u8 1)) w0.heap.size B R cap gs M n u from (hM.out.ext h3).gb (gb_set _ G c _) (fun k hk => by cases hk; exact hBG))
          have HP4 := Lib.hid (show (w3.setCell ⟨G, c, none⟩ (.int .u8 1)).ownsRow B 3 1 (.slice ao c pc) c (ints (rangeI c)) from ownsRow_setCell_other (owns_ext hP.out h3) (fun h => by have := (hP.out.lt G h).2; omega) _)
          have hpg : Hid (∀ k, (Value.slice ao c pc).ownBlock = some k → k ≠ G) := Lib.hid (fun k hk => by have := (hP.out.lt k hk).2; omega)
          clear HO3 hM hP hBz hE h3 r0 r1 hG
          go_loopw [121] (fun ki wi => ∃ k : Nat, k ≤ c ∧ ki = .int .i64 (k : Int) ∧ Ext w0 wi ∧ Hid (RowsAt wi w0.heap.size B R cap gs M n u) ∧ Hid (wi.ownsRow B 3 1 (.slice ao c pc) c (ints (rangeI c))) ∧ Hid (wi.ownsRow B 92 1 (.slice (some ⟨G, 0, none⟩) u u) u (bytesL (nullK M c u k)))) (fun ki _ => c - (intOf ki).toNat)
          case atStart => exact ⟨0, Nat.zero_le _, rfl, hE4, HM4, HP4, HO4⟩
          case round =>
            clear HO4 HM4 HP4 hE4
            obtain ⟨k, hkc, rfl, hE, hM, hP, hO⟩ := hrel
            by_cases hk : k < c
            · have hkn : k < n := by omega
              have ct := hM.out.cellTop hkn
              have r0 := hM.out.cell hkn hc
              obtain ⟨⟨gk, qk⟩, hgk⟩ : ∃ p, gAt gs k = p := ⟨_, rfl⟩
              rw [hgk] at ct r0
              unfold RowV at ct
              dsimp only at ct r0
              obtain ⟨-, po, px, hpe, -, -, -, hpc⟩ := SlAt.of_owns hP.out
              obtain ⟨pb, pf, rfl, p0⟩ := hpc k _ (rangeI_get hk)
              injection hpe with e1 e2 e3
              subst e1 e3
              have hln : (nullK M c u k).length = u := nullK_len hc hkc
              have s0 : wr.cell? ⟨G, k, none⟩ = some (.int .u8 (((nullK M c u k).getD k 0 : Nat) : Int)) := by rw [hO.out.cellAt k (by omega), bytesL_get (by omega)]
              have s1 := hO.out.frozenAt k
              have HS := Lib.hid (nullK_set (R := M) (c := c) (u := u) (k := k) hk)
              obtain ⟨x, hx⟩ : ∃ x, M.at k c = x := ⟨_, rfl⟩
              rw [hx] at r0 HS
              clear hpc hgk hx hln
              go_wp2
              refine ⟨⟨k + 1, by omega, by go_num, hE.setCell (p := ⟨G, k, none⟩) (by show w0.heap.size ≤ G; omega) _, Lib.hid (hM.out.gb (gb_set _ G k _) (fun j hj => by cases hj; exact hBG)), Lib.hid (ownsRow_setCell_other hP.out (fun h => hpg.out G h rfl) _), Lib.hid ?_⟩, by simp [intOf]; omega⟩
              have h := (hO.out.stored k (.int .u8 (x : Int))).1
              rw [bytesL_set, HS.out] at h
              exact h
            · obtain rfl : c = k := by omega
              have HO := Lib.hid (show wr.ownsRow B 92 1 (.slice (some ⟨G, 0, none⟩) u u) u (bytesL (nullVec M c u)) by rw [← nullK_full]; exact hO.out)
              clear hO
              go_wp2
              go_ret
              exact ⟨hE, .inr ⟨_, _, HKS.out, rfl, by rw [HBB.out]; exact HO.out⟩⟩
    · obtain rfl : c = u := by omega
      have HKn := Lib.hid (kin_none hK.out)
      clear hcn hc
      go_wp2
      go_ret
      exact ⟨hE, .inl ⟨HKn.out, rfl⟩⟩
end Go.Proofs.YtlnofbdhamingaaDoor

/- Slices of booleans; rows of rows that are made one after another. Generic but for the types' numbers. -/
namespace Go.Proofs.YtlnofbdhamingaaDoor
open Go.RowKit Go.Sort

def boolsL (l : List Bool) : List Value := l.map Value.bool
theorem boolsL_length (l : List Bool) : (boolsL l).length = l.length := by simp [boolsL]
theorem boolsL_get {l : List Bool} {j : Nat} (h : j < l.length) : (boolsL l)[j]? = some (.bool (l.getD j false)) := by
  simp [boolsL, List.getD_eq_getElem?_getD, h]
theorem boolsL_set (l : List Bool) (k : Nat) (b : Bool) : (boolsL l).set k (.bool b) = boolsL (l.set k b) := by unfold boolsL; rw [List.map_set]
def BoolsAt (w : World) (v : Value) (l : List Bool) : Prop := SlAt w 1 v l.length (boolsL l)
theorem BoolsAt.ext {w w' : World} {v : Value} {l : List Bool} (h : BoolsAt w v l) (hb : Ext w w') : BoolsAt w' v l := SlAt.ext h hb
theorem BoolsAt.some {w : World} {v : Value} {l : List Bool} {n : Nat} (h : BoolsAt w v l) (hn : l.length = n) (h0 : 0 < n) :
    ∃ b off cap, v = .slice (some ⟨b, off, none⟩) n cap ∧ ∀ j, j < n → w.cell? ⟨b, off + j, none⟩ = some (.bool (l.getD j false)) := by
  subst hn
  rcases SlAt.cases (by omega) h with ⟨h1, -⟩ | ⟨-, b, off, cap, h1, -, -, h2⟩
  · rw [h1] at h0
    exact absurd h0 (Nat.lt_irrefl _)
  · exact ⟨b, off, cap, h1, fun j hj => h2 j _ (boolsL_get hj)⟩
/-- rows of rows, as far as they are made -/
structure RowsUp (w : World) (base : Nat) (v : Value) (gs : List (Nat × Nat)) (M : Mat) (n u : Nat) : Prop where
  glen : gs.length = n
  len : M.length = n
  top : w.ownsRow base 129 1 v n (gs.map (RowV u))
  row : ∀ i, i < n → w.ownsRow base 92 1 (RowV u (gAt gs i)) u (bytesL (M.row i))
  rlen : ∀ i, i < n → (M.row i).length = u
  apart : (∀ i, i < n → v.ownBlock ≠ some (gAt gs i).1) ∧ ∀ i j, i < n → j < n → i ≠ j → (gAt gs i).1 ≠ (gAt gs j).1
theorem RowsUp.nil (w : World) (base u : Nat) : RowsUp w base (.slice none 0 0) [] [] 0 u := ⟨rfl, rfl, World.ownsRow_nil _ _ _ _, fun i hi => absurd hi (Nat.not_lt_zero _), fun i hi => absurd hi (Nat.not_lt_zero _), fun i hi => absurd hi (Nat.not_lt_zero _), fun i j hi => absurd hi (Nat.not_lt_zero _)⟩
theorem RowsUp.ext {w w' : World} {base n u : Nat} {v : Value} {gs : List (Nat × Nat)} {M : Mat} (h : RowsUp w base v gs M n u) (hE : Ext w w') : RowsUp w' base v gs M n u :=
  ⟨h.glen, h.len, owns_ext h.top hE, fun i hi => owns_ext (h.row i hi) hE, h.rlen, h.apart⟩
theorem gAt_app {gs : List (Nat × Nat)} {p : Nat × Nat} {i : Nat} (h : i ≤ gs.length) : gAt (gs ++ [p]) i = if i = gs.length then p else gAt gs i := by
  unfold gAt
  by_cases e : i = gs.length
  · subst e; rw [if_pos rfl, List.getD_eq_getElem?_getD, List.getElem?_append_right (Nat.le_refl _)]; simp
  · rw [if_neg e, List.getD_eq_getElem?_getD, List.getElem?_append_left (by omega), ← List.getD_eq_getElem?_getD]
theorem row_app {M : Mat} {r : List Nat} {i : Nat} (h : i ≤ M.length) : Mat.row (M ++ [r]) i = if i = M.length then r else M.row i := by
  unfold Mat.row
  by_cases e : i = M.length
  · subst e; rw [if_pos rfl, List.getD_eq_getElem?_getD, List.getElem?_append_right (Nat.le_refl _)]; simp
  · rw [if_neg e, List.getD_eq_getElem?_getD, List.getElem?_append_left (by omega), ← List.getD_eq_getElem?_getD]
/-- one row more: S0 is the heap's size before the row was made -/
theorem RowsUp.push {wa w w' : World} {base n u g c : Nat} {v v' : Value} {gs : List (Nat × Nat)} {M : Mat} {r : List Nat} (h0 : RowsUp wa base v gs M n u) (hE : Ext wa w)
    (hr : w.ownsRow wa.heap.size 92 1 (.slice (some ⟨g, 0, none⟩) u c) u (bytesL r)) (hl : r.length = u) (hb : base ≤ wa.heap.size)
    (ho : w'.ownsRow base 129 1 v' (n + 1) (gs.map (RowV u) ++ [.slice (some ⟨g, 0, none⟩) u c])) (hg : w.grownBy w' v.ownBlock) (ha : v'.ownBlock = v.ownBlock ∨ v'.ownBlock = some w.heap.size) :
    RowsUp w' base v' (gs ++ [(g, c)]) (M ++ [r]) (n + 1) u := by
  have h := h0.ext hE
  have gl := h.glen
  have ml := h.len
  have hgr := hr.lt g rfl
  have hlow : ∀ i, i < n → (gAt gs i).1 < wa.heap.size := fun i hi => ((h0.row i hi).lt _ rfl).2
  have hvlow : ∀ k, v.ownBlock = some k → k < wa.heap.size := fun k hk => (h0.top.lt k hk).2
  have hrow : ∀ i, i < n → w'.ownsRow base 92 1 (RowV u (gAt gs i)) u (bytesL (M.row i)) := fun i hi => own_gb (h.row i hi) hg fun k hk h9 => by
    have e := rowV_block hk
    exact h.apart.1 i hi (by rw [← h9, ← e])
  have hr' : w'.ownsRow base 92 1 (.slice (some ⟨g, 0, none⟩) u c) u (bytesL r) := owns_base (own_gb hr hg fun k hk h9 => by
    have e : g = k := Option.some.inj hk
    have := hvlow k h9.symm
    omega) (by omega)
  refine ⟨by simp [gl], by simp [ml], by rw [List.map_append]; exact ho, fun i hi => ?_, fun i hi => ?_, fun i hi => ?_, fun i j hi hj hij => ?_⟩
  · rw [gAt_app (by omega), row_app (by omega), gl, ml]
    by_cases e : i = n
    · rw [if_pos e, if_pos e]; exact hr'
    · rw [if_neg e, if_neg e]; exact hrow i (by omega)
  · rw [row_app (by omega), ml]
    by_cases e : i = n
    · rw [if_pos e]; exact hl
    · rw [if_neg e]; exact h.rlen i (by omega)
  · rw [gAt_app (by omega), gl]
    by_cases e : i = n
    · rw [if_pos e]
      rcases ha with ha | ha
      · rw [ha]; intro h9; have := hvlow g h9; omega
      · rw [ha]; intro h9; have := Option.some.inj h9; dsimp only at this; omega
    · rw [if_neg e]
      rcases ha with ha | ha
      · rw [ha]; exact h.apart.1 i (by omega)
      · rw [ha]; intro h9; have := Option.some.inj h9; have := hlow i (by omega); have := hE.size; omega
  · rw [gAt_app (by omega), gAt_app (by omega), gl]
    by_cases e1 : i = n
    · rw [if_pos e1, if_neg (by omega)]
      have := hlow j (by omega)
      dsimp only
      omega
    · rw [if_neg e1]
      by_cases e2 : j = n
      · rw [if_pos e2]
        have := hlow i (by omega)
        dsimp only
        omega
      · rw [if_neg e2]; exact h.apart.2 i j (by omega) (by omega) hij
theorem RowsUp.done {w : World} {base n u : Nat} {v : Value} {gs : List (Nat × Nat)} {M : Mat} (h : RowsUp w base v gs M n u) (hn : 0 < n) : ∃ R cap, v = .slice (some ⟨R, 0, none⟩) n cap ∧ RowsAt w base w.heap.size R cap gs M n u := by
  obtain ⟨R, cap, rfl, -, -⟩ := owns_some h.top hn
  refine ⟨R, cap, rfl, h.glen, h.len, h.top, h.row, h.rlen, ⟨(h.top.lt R rfl).2, fun i hi => ((h.row i hi).lt _ rfl).2⟩, fun i hi h9 => h.apart.1 i hi ?_, h.apart.2⟩
  rw [h9]; rfl
end Go.Proofs.YtlnofbdhamingaaDoor
